/-
  RecipeSums in plain lists: the sum over what a recipe reads, cell by cell, is what the recipe comes to; nothing of the program is in sight.
-/
import Derived.Test.YtioecjoddgpjbaaRea
import Derived.Test.YtioecjoddgpjbaaJe
import Derived.Test.YtioecjoddgpjbaaK2
namespace Go.Proofs.Ytioecjoddgpjbaa

/-- Numbers as values. -/
def vsI (ns : List Int) : List Vl := ns.map fun n => ⟨n, 0⟩
theorem vsI_len (ns : List Int) : (vsI ns).length = ns.length := by simp [vsI]
/-- The number of a cell among those of some. -/
def nv (l : List Cel) (ns : List Int) (x : Cel) : Int := (ofV l (vsI ns) x).n
theorem nv_zero {l : List Cel} {ns : List Int} {x : Cel} (h : x ∉ l) : nv l ns x = 0 := by unfold nv; rw [ofV_none h]
theorem nv_take {L : List Cel} {ns : List Int} (hL : L.Nodup) (hn : L.length = ns.length) (x : Cel) {k : Nat} (hk : k < L.length) (hk' : k < ns.length) :
    (L[k] = x → nv (L.take k) (ns.take k) x = 0 ∧ nv (L.take (k + 1)) (ns.take (k + 1)) x = ns[k]) ∧ (L[k] ≠ x → nv (L.take (k + 1)) (ns.take (k + 1)) x = nv (L.take k) (ns.take k) x) := by
  have hs : nv (L.take (k + 1)) (ns.take (k + 1)) x = (if x ∈ L.take k then ofV (L.take k) (vsI (ns.take k)) x else if L[k] = x then ⟨ns[k], 0⟩ else ⟨0, 0⟩ : Vl).n := by
    unfold nv
    rw [List.take_succ_eq_append_getElem hk, List.take_succ_eq_append_getElem hk']
    rw [show vsI (ns.take k ++ [ns[k]]) = vsI (ns.take k) ++ [⟨ns[k], 0⟩] by unfold vsI; rw [List.map_append]; rfl]
    rw [ofV_snoc (by rw [vsI_len, List.length_take, List.length_take]; omega)]
  constructor
  · intro h
    have hx : x ∉ L.take k := h ▸ nodup_take hL hk
    exact ⟨nv_zero hx, by rw [hs, if_neg hx, if_pos h]⟩
  · intro h
    rw [hs]
    by_cases hx : x ∈ L.take k
    · rw [if_pos hx]; rfl
    · rw [if_neg hx, if_neg h, nv_zero hx]
/-- The sum of what comes on, less what comes off, up to the i-th. -/
def totI (b : Int) (p m : List Cel) (f : Cel → Int) (i : Nat) : Int := b + sumI ((p.take i).map f) - sumI ((m.take (i - p.length)).map f)
theorem totI_zero (b : Int) (p m : List Cel) (f : Cel → Int) : totI b p m f 0 = b := by unfold totI; simp [sumI]
theorem sumI_map_take (p : List Cel) (f : Cel → Int) {k : Nat} (hk : k < p.length) : sumI ((p.take (k + 1)).map f) = sumI ((p.take k).map f) + f p[k] := by
  rw [List.take_succ_eq_append_getElem hk, List.map_append, sumI_append]
  rw [List.map_singleton, sumI_cons, sumI_nil, Int.add_zero]
theorem totI_plus (b : Int) (p m : List Cel) (f : Cel → Int) {k : Nat} (hk : k < p.length) : totI b p m f (k + 1) = totI b p m f k + f p[k] := by
  unfold totI
  rw [sumI_map_take p f hk, show k + 1 - p.length = 0 by omega, show k - p.length = 0 by omega]
  omega
theorem totI_minus (b : Int) (p m : List Cel) (f : Cel → Int) {k : Nat} (hk : p.length ≤ k) (hm : k - p.length < m.length) : totI b p m f (k + 1) = totI b p m f k - f m[k - p.length] := by
  unfold totI
  rw [show k + 1 - p.length = (k - p.length) + 1 by omega, sumI_map_take m f hm, List.take_of_length_le (by omega : p.length ≤ k + 1), List.take_of_length_le hk]
  omega
theorem totI_all (b : Int) (p m : List Cel) (f : Cel → Int) : totI b p m f (p.length + m.length) = b + sumI (p.map f) - sumI (m.map f) := by
  unfold totI
  rw [List.take_of_length_le (by omega : p.length ≤ p.length + m.length), List.take_of_length_le (by omega : m.length ≤ p.length + m.length - p.length)]
theorem ofV_e0 : ∀ (l : List Cel) (ns : List Int) (x : Cel), (ofV l (vsI ns) x).e = 0
  | [], _, x => by unfold ofV; rfl
  | _ :: _, [], x => by unfold vsI ofV; rfl
  | c :: r, n :: m, x => by
    show (if c = x then (⟨n, 0⟩ : Vl) else ofV r (vsI m) x).e = 0
    split
    · rfl
    · exact ofV_e0 r m x
theorem fault0 : ∀ {l : List Vl}, (∀ v ∈ l, v.e = 0) → faultV l = 0
  | [], _ => rfl
  | v :: r, h => by
    unfold faultV
    rw [if_neg (fun h2 => h2 (h v List.mem_cons_self))]
    exact fault0 fun u hu => h u (List.mem_cons_of_mem _ hu)
theorem evalR_sums {r : Rcp} {ns : List Int} (hrt : r.rt = false) (hb : r.base.e = 0) (hn : (readsR r).length = ns.length) :
    evalR r (vsI ns) = toldV (toldI (totI r.base.n r.plus r.minus (nv (readsR r) ns) (r.plus.length + r.minus.length))).1 (toldI (totI r.base.n r.plus r.minus (nv (readsR r) ns) (r.plus.length + r.minus.length))).2 := by
  unfold evalR
  rw [if_neg (by rw [vsI_len]; exact fun h => h hn), totI_all]
  unfold netV plusV
  have hf : faultV (r.base :: r.plus.map (ofV (readsR r) (vsI ns)) ++ (if r.rt = true then [scaleV (ofV (readsR r) (vsI ns) r.sc) r.num r.den r.has] else []) ++ r.minus.map (ofV (readsR r) (vsI ns))) = 0 := by
    refine fault0 fun v hv => ?_
    rw [hrt, if_neg (by simp), List.append_nil, List.mem_append, List.mem_cons] at hv
    rcases hv with (rfl | hv) | hv
    · exact hb
    · obtain ⟨x, _, rfl⟩ := List.mem_map.1 hv; exact ofV_e0 _ _ _
    · obtain ⟨x, _, rfl⟩ := List.mem_map.1 hv; exact ofV_e0 _ _ _
  rw [hf, if_neg (by simp), hrt, if_neg (by simp), List.append_nil]
  have ha : amts (r.base :: r.plus.map (ofV (readsR r) (vsI ns))) = r.base.n :: r.plus.map (nv (readsR r) ns) := by unfold amts; rw [List.map_cons, List.map_map]; rfl
  have hm : amts (r.minus.map (ofV (readsR r) (vsI ns))) = r.minus.map (nv (readsR r) ns) := by unfold amts; rw [List.map_map]; rfl
  rw [ha, hm, sumI_cons]
end Go.Proofs.Ytioecjoddgpjbaa
/-
  RecipeSums: with numbers as values a recipe that is not rated comes to the sum of what it reads, or is beyond the range.
-/
namespace Go.Proofs.Ytioecjoddgpjbaa
open Go.RowKit

section
variable {A1 A2 A3 : Option Addr} {c1 c2 c3 : Nat} {r : Rcp} {ns : List Int} {w : World}
set_option maxRecDepth 100000 in
set_option maxHeartbeats 4000000 in
theorem recipeSums_law (oa : Rok r) (oi : I64s ns) (hi : ns.length ≤ maxLen) (ha1 : CelE.Row w A1 r.plus) (ha2 : CelE.Row w A2 r.minus) (hri : RowAt w A3 (ivals ns)) :
    Calls Try.prog 5 #[.agg #[.int .i64 r.base.n, .int .i64 r.base.e, .slice A1 r.plus.length c1, .slice A2 r.minus.length c2, .int .i64 r.sc.r, .int .i64 r.sc.e, .int .i64 r.sc.a, .int .i64 r.sc.p, .int .i64 r.sc.c, .int .i64 r.sc.q, .bool r.rt, .int .i64 r.num, .int .i64 r.den, .bool r.has], .slice A3 ns.length c3] w fun e w' => e = .returned (.bool true) ∧ Below w.heap.size w w' := by
  unfold maxLen at hi
  have AWA := Lib.hid fun w => reawake_any w
  have FA := fun w => few29_any (A1 := A1) (A2 := A2) (c1 := c1) (c2 := c2) (r := r) w
  have hB : Below w.heap.size w (w.alloc (.cells #[.int .i64 r.base.n, .int .i64 r.base.e, .slice A1 r.plus.length c1, .slice A2 r.minus.length c2, .int .i64 r.sc.r, .int .i64 r.sc.e, .int .i64 r.sc.a, .int .i64 r.sc.p, .int .i64 r.sc.c, .int .i64 r.sc.q, .bool r.rt, .int .i64 r.num, .int .i64 r.den, .bool r.has] 31)) := (Below.refl _ _).alloc (Nat.le_refl _) _
  have xb := Box.new w 31 #[.int .i64 r.base.n, .int .i64 r.base.e, .slice A1 r.plus.length c1, .slice A2 r.minus.length c2, .int .i64 r.sc.r, .int .i64 r.sc.e, .int .i64 r.sc.a, .int .i64 r.sc.p, .int .i64 r.sc.c, .int .i64 r.sc.q, .bool r.rt, .int .i64 r.num, .int .i64 r.den, .bool r.has]
  have kb := xb.cells
  have lb := xb.lt
  by_cases fa : r.plus.length ≤ 60 ∧ r.minus.length ≤ 60
  case neg =>
    rw [show (decide (r.plus.length ≤ 60) && decide (r.minus.length ≤ 60)) = false by rw [← Bool.decide_and]; exact decide_eq_false fa] at FA
    replace FA := Lib.hid FA
    clear fa ha1 ha2 hri
    go_enter Try.func5, Try.ntmps5
    go_wp2_with fail
    refine (FA.out _).mono ?_
    rintro e w1 ⟨rfl, b1⟩
    replace hB := hB.trans (b1.mono hB.size)
    replace xb := xb.later b1
    have kb := xb.cells
    have lb := xb.lt
    have fb := xb.free
    clear b1
    go_wp2_with fail
    refine (AWA.out _).mono ?_
    rintro e w9 ⟨rfl, b9⟩
    replace hB := hB.trans (b9.mono hB.size)
    go_wp2
    go_ret
    exact ⟨rfl, hB⟩
  rw [show (decide (r.plus.length ≤ 60) && decide (r.minus.length ≤ 60)) = true by rw [← Bool.decide_and]; exact decide_eq_true fa] at FA
  replace FA := Lib.hid FA
  by_cases h200 : 200 < ns.length
  · clear fa ha1 ha2 hri
    have h200i : (200 : Int) < (ns.length : Int) := by omega
    go_enter Try.func5, Try.ntmps5
    go_wp2_with fail
    refine (FA.out _).mono ?_
    rintro e w1 ⟨rfl, b1⟩
    replace hB := hB.trans (b1.mono hB.size)
    replace xb := xb.later b1
    have kb := xb.cells
    have lb := xb.lt
    have fb := xb.free
    clear b1
    go_wp2_with fail
    refine (AWA.out _).mono ?_
    rintro e w9 ⟨rfl, b9⟩
    replace hB := hB.trans (b9.mono hB.size)
    go_wp2
    go_ret
    exact ⟨rfl, hB⟩
  have os : Rok ⟨⟨r.base.n, 0⟩, r.plus, r.minus, r.sc, false, r.num, r.den, r.has⟩ := ⟨oa.plus, oa.minus, oa.sc, ⟨oa.base.1, oa.base.2⟩⟩
  have wfr := os.wf fa.1 fa.2
  have h200i : ¬ (200 : Int) < (ns.length : Int) := by omega
  have HR := Lib.hid (And.intro ha1 (And.intro ha2 hri))
  have hlp := fa.1
  have hlm := fa.2
  obtain ⟨L, hL⟩ : ∃ L, L = readsR ⟨⟨r.base.n, 0⟩, r.plus, r.minus, r.sc, false, r.num, r.den, r.has⟩ := ⟨_, rfl⟩
  have hLn := readsR_len wfr
  have hnd := readsR_nodup ⟨⟨r.base.n, 0⟩, r.plus, r.minus, r.sc, false, r.num, r.den, r.has⟩
  rw [← hL] at hLn hnd
  replace hnd := Lib.hid hnd
  clear ha1 ha2 hri fa
  go_enter Try.func5, Try.ntmps5
  go_wp2_with fail
  refine (FA.out _).mono ?_
  rintro e w1 ⟨rfl, b1⟩
  replace hB := hB.trans (b1.mono hB.size)
  replace xb := xb.later b1
  have kb := xb.cells
  have lb := xb.lt
  have fb := xb.free
  clear b1
  have hB := (hB.setCell (p := ⟨w.heap.size, 10, none⟩) (Nat.le_refl w.heap.size) (.bool false)).setCell (p := ⟨w.heap.size, 1, none⟩) (Nat.le_refl w.heap.size) (.int .i64 0)
  have xb2 : Box ((w1.setCell ⟨w.heap.size, 10, none⟩ (.bool false)).setCell ⟨w.heap.size, 1, none⟩ (.int .i64 0)) w.heap.size 31 #[.int .i64 r.base.n, .int .i64 0, .slice A1 r.plus.length c1, .slice A2 r.minus.length c2, .int .i64 r.sc.r, .int .i64 r.sc.e, .int .i64 r.sc.a, .int .i64 r.sc.p, .int .i64 r.sc.c, .int .i64 r.sc.q, .bool false, .int .i64 r.num, .int .i64 r.den, .bool r.has] := by
    have := (xb.set 10 (.bool false)).set 1 (.int .i64 0)
    simpa using this
  have OA := fun w => of29_any (A1 := A1) (A2 := A2) (c1 := c1) (c2 := c2) (r := ⟨⟨r.base.n, 0⟩, r.plus, r.minus, r.sc, false, r.num, r.den, r.has⟩) w
  dsimp only at OA
  replace OA := Lib.hid OA
  have kb2 := xb2.cells
  have lb2 := xb2.lt
  go_wp2_with fail
  refine (OA.out _).mono ?_
  rintro e w2 ⟨rfl, b2⟩
  replace hB := hB.trans (b2.mono hB.size)
  replace xb := xb2.later b2
  clear b2 kb lb fb kb2 lb2 xb2
  have RD := reads_any (c1 := c1) (c2 := c2) wfr (HR.out.1.below hB (Nat.le_refl _)) (HR.out.2.1.below hB (Nat.le_refl _))
  rw [← hL] at RD
  dsimp only at RD
  replace RD := Lib.hid RD
  go_wp2_with fail
  refine RD.out.mono ?_
  rintro e W3 ⟨A5, c5, rfl, hc51, hc52, own5, b3⟩
  replace hB := hB.trans (b3.mono hB.size)
  replace xb := xb.later b3
  have R5 := Enc.Row.of_own (E := CelE) own5
  have rplus := HR.out.1.below hB (Nat.le_refl _)
  have rminus := HR.out.2.1.below hB (Nat.le_refl _)
  have ri := HR.out.2.2.below hB (Nat.le_refl _)
  clear b3 RD own5 FA HR
  replace hL := Lib.hid hL
  have kb := xb.cells
  have lb := xb.lt
  by_cases hne : L.length = ns.length
  case neg =>
    have hne2 : ¬ ((L.length : Int) = (ns.length : Int)) := by omega
    go_wp2_with fail
    refine (AWA.out _).mono ?_
    rintro e w9 ⟨rfl, b9⟩
    replace hB := hB.trans (b9.mono hB.size)
    go_wp2
    go_ret
    exact ⟨rfl, hB⟩
  have hne2 : ((L.length : Int) = (ns.length : Int)) := by omega
  replace hne := Lib.hid hne
  obtain ⟨i0, hi2, hz0, hz1, hz2⟩ := info_parts Try.infoVal
  have cb := Below.refl W3.heap.size W3
  go_wp2
  go_loopw [6, 7] (fun o t wr => ∃ (k : Nat) (A' : Option Addr) (c' : Nat), k ≤ ns.length ∧ o = .slice A' k c' ∧ t = .int .i64 k ∧ wr.ownsRow W3.heap.size 24 2 (.slice A' k c') k (VlE.vs (vsI (ns.take k))) ∧ Below W3.heap.size W3 wr) (fun _ t _ => ns.length - (intOf t).toNat)
  case atStart => exact ⟨0, none, 0, by omega, rfl, rfl, World.ownsRow_nil _ _ _ _, cb⟩
  case round =>
    clear cb kb lb
    obtain ⟨k, A', c', hk, rfl, rfl, hown, hb⟩ := hrel
    by_cases hkn : k < ns.length
    · obtain ⟨b0, off, rfl, hgb, hc⟩ := (RowAt.below ri hb (Nat.le_refl _)).iget (by omega)
      have d0 := hc k hkn
      have HS : Hid (VlE.vs (vsI (ns.take (k + 1))) = VlE.vs (vsI (ns.take k)) ++ VlE.v ⟨ns[k], 0⟩) := by
        show _ = _
        unfold vsI
        rw [List.take_succ_eq_append_getElem hkn, List.map_append, VlE.vs_append, List.map_cons, List.map_nil, VlE.vs_one]
      clear hc
      generalize ns[k] = x at *
      have z1 := Box.new wr 24 #[.int .i64 x, .int .i64 0]
      have ownt := hown.alloc (.cells #[.int .i64 x, .int .i64 0] 24)
      have hbt := hb.alloc hb.size (.cells #[.int .i64 x, .int .i64 0] 24)
      have hszt := hbt.size
      clear hown hb
      go_wp2_with (at_builtin; refine wpList_append_rowN rfl _ _ 32 rfl W3.heap.size 24 i0 _ 2 16 Try.underlying32 hi2 hz0 hz1 hz2 rfl (by decide) _ k (VlE.vs (vsI (ns.take k))) rfl ownt (some ⟨wr.heap.size, 0, none⟩) 1 1 (VlE.v ⟨x, 0⟩) rfl rfl (Enc.Row.box1 z1 rfl) (VlE.one _) (by unfold maxLen; omega) (by omega) hszt ?_)
      intro A4 c4 w4 hown4 hr4
      have hb4 := hbt.grown hr4 hszt (fun k hk => (ownt.lt k hk).1)
      clear ownt hr4 hbt z1
      go_wp2
      go_roundw
      case rel => exact ⟨k + 1, A4, c4, by omega, rfl, by go_num, by rw [HS.out]; exact hown4, hb4⟩
      case measure => simp [intOf]; omega
    · obtain rfl : k = ns.length := by omega
      rw [List.take_length] at hown
      clear hk hkn
      have hvl := vsI_len ns
      have RV := Enc.Row.of_own (E := VlE) hown
      have kb := (xb.later hb).cells
      have lb := (xb.later hb).lt
      clear hown
      go_wp2_with fail
      refine (of_any r.base.n _ oa.base.1 oa.base.2).mono ?_
      rintro e W6 ⟨v6, rfl, m6, b6⟩
      obtain ⟨t6, A6, n6, c6, rfl⟩ := m6.form2
      replace hb := hb.trans (b6.mono hb.size)
      replace RV := RV.later b6
      replace hB := hB.trans (hb.mono hB.size)
      replace xb := xb.later hb
      replace R5 := R5.later hb
      replace rplus := rplus.later hb
      replace rminus := rminus.later hb
      replace ri := ri.below hb (Nat.le_refl _)
      have xg := Box.new W6 52 #[.bool t6, .slice A6 n6 c6]
      have m7 := (m6.mono (S' := fun b => b ≠ W6.heap.size) (fun b h _ => by omega) (Nat.le_refl _)).alloc (.cells #[.bool t6, .slice A6 n6 c6] 52)
      have cb : Below W6.heap.size W6 (W6.alloc (.cells #[.bool t6, .slice A6 n6 c6] 52)) := (Below.refl _ _).alloc (Nat.le_refl _) _
      clear m6 b6 hb kb lb
      go_wp2
      go_loopw [9] (fun s wr => ∃ (i : Nat) (t : Bool) (A : Option Addr) (n c : Nat), i ≤ r.plus.length + r.minus.length ∧ s = .int .i64 i ∧ Box wr W6.heap.size 52 #[.bool t, .slice A n c] ∧ BigIs (fun b => b ≠ W6.heap.size) wr (.agg #[.bool t, .slice A n c]) (totI r.base.n r.plus r.minus (nv L ns) i) (19 + i * 200) ∧ Below W6.heap.size W6 wr) (fun s _ => r.plus.length + r.minus.length - (intOf s).toNat)
      case atStart => exact ⟨0, t6, A6, n6, c6, by omega, rfl, xg, by rw [totI_zero]; exact m7, cb⟩
      case round =>
        clear xg m7 cb
        obtain ⟨i, t, A, n, c, hi9, rfl, xg, mg, cb⟩ := hrel
        have kb := (xb.later cb).cells
        have lb := (xb.later cb).lt
        by_cases hin : i < r.plus.length + r.minus.length
        · have hini : (i : Int) < (r.plus.length : Int) + (r.minus.length : Int) := by omega
          by_cases hip : i < r.plus.length
          · have hipi : (i : Int) < (r.plus.length : Int) := by omega
            have hipg : ¬ (r.plus.length : Int) ≤ (i : Int) := by omega
            have hq1 : ¬ r.plus.length ≤ i := by omega
            have hq2 : decide ((r.plus.length : Int) ≤ (i : Int)) = false := decide_eq_false hipg
            have hq3 : decide (r.plus.length ≤ i) = false := decide_eq_false hq1
            have hst : Hid (totI r.base.n r.plus r.minus (nv L ns) (i + 1) = totI r.base.n r.plus r.minus (nv L ns) i + nv L ns r.plus[i]) := totI_plus _ _ _ _ hip
            have hix : i < r.plus.length := hip
            obtain ⟨b1, o1, rfl, hg1, hc1⟩ := rplus.get (by omega)
            have e0 := hc1 i hix 0 _ rfl
            have e1 := hc1 i hix 1 _ rfl
            have e2 := hc1 i hix 2 _ rfl
            have e3 := hc1 i hix 3 _ rfl
            have e4 := hc1 i hix 4 _ rfl
            have e5 := hc1 i hix 5 _ rfl
            clear hc1
            generalize totI r.base.n r.plus r.minus (nv L ns) i = T at *
            generalize r.plus[i] = x at *
            obtain ⟨x1, x2, x3, x4, x5, x6⟩ := x
            dsimp only at e0 e1 e2 e3 e4 e5
            rw [show CelE.n = 6 from rfl, Nat.add_zero] at e0
            rw [show CelE.n = 6 from rfl, ← Nat.add_assoc] at e1 e2 e3 e4 e5
            go_wp2
            go_loopw [10] (fun s wz => ∃ (k : Nat) (t : Bool) (A : Option Addr) (n c : Nat), k ≤ L.length ∧ s = .int .i64 k ∧ Box wz W6.heap.size 52 #[.bool t, .slice A n c] ∧ BigIs (fun b => b ≠ W6.heap.size) wz (.agg #[.bool t, .slice A n c]) (T + nv (L.take k) (ns.take k) ⟨x1, x2, x3, x4, x5, x6⟩) (19 + i * 200 + k) ∧ Below W6.heap.size W6 wz) (fun s _ => L.length - (intOf s).toNat)
            case atStart => exact ⟨0, t, A, n, c, by omega, rfl, xg, by rw [nv_zero (by simp), Int.add_zero]; exact mg, cb⟩
            case round =>
              clear xg mg kb lb cb
              obtain ⟨k, t3, A3, n3, c3, hk, rfl, xg, mg, CZ⟩ := hrel
              have kb := (xb.later CZ).cells
              have lb := (xb.later CZ).lt
              have szG := CZ.size
              have e0 := (CZ.cell (by exact hg1)).trans e0
              have e1 := (CZ.cell (by exact hg1)).trans e1
              have e2 := (CZ.cell (by exact hg1)).trans e2
              have e3 := (CZ.cell (by exact hg1)).trans e3
              have e4 := (CZ.cell (by exact hg1)).trans e4
              have e5 := (CZ.cell (by exact hg1)).trans e5
              by_cases hkl : k < L.length
              · have hkn : k < ns.length := by have := hne.out; omega
                have hkli : (k : Int) < (L.length : Int) := by omega
                obtain ⟨b2, o2, rfl, hg2, hc2⟩ := (R5.later CZ).get (by omega)
                have d0 := hc2 k hkl 0 _ rfl
                have d1 := hc2 k hkl 1 _ rfl
                have d2 := hc2 k hkl 2 _ rfl
                have d3 := hc2 k hkl 3 _ rfl
                have d4 := hc2 k hkl 4 _ rfl
                have d5 := hc2 k hkl 5 _ rfl
                obtain ⟨b4, o4, rfl, hg4, hc4⟩ := (ri.below CZ (Nat.le_refl _)).iget (by omega)
                have nk := hc4 k hkn
                have zb := oi.get k hkn
                have ht := nv_take hnd.out hne.out ⟨x1, x2, x3, x4, x5, x6⟩ hkl hkn
                clear hc2 hc4
                generalize L[k] = y at *
                generalize ns[k] = z at *
                obtain ⟨y1, y2, y3, y4, y5, y6⟩ := y
                dsimp only at d0 d1 d2 d3 d4 d5
                rw [show CelE.n = 6 from rfl, Nat.add_zero] at d0
                rw [show CelE.n = 6 from rfl, ← Nat.add_assoc] at d1 d2 d3 d4 d5
                have CE := fun w => ceq y1 y2 y3 y4 y5 y6 x1 x2 x3 x4 x5 x6 w
                by_cases he : (⟨y1, y2, y3, y4, y5, y6⟩ : Cel) = ⟨x1, x2, x3, x4, x5, x6⟩
                · rw [decide_eq_true he] at CE
                  obtain ⟨h0, h1⟩ := ht.1 he
                  rw [h0, Int.add_zero] at mg
                  have HE : Hid (T + nv (L.take (k + 1)) (ns.take (k + 1)) ⟨x1, x2, x3, x4, x5, x6⟩ = T + z) := by show _ = _; rw [h1]
                  clear ht he h0 h1
                  have OC := Lib.hid fun (w : World) => of_any z w zb.1 zb.2
                  have PL := Lib.hid fun (w : World) S S' va vb (ha : BigIs S w va T (19 + i * 200 + k)) (hb : BigIs S' w vb z 19) => plus_any ha hb (by omega) (by omega)
                  have kg := xg.cells
                  have lg := xg.lt
                  have fg := xg.free
                  go_upto_region 20 with fail
                  refine wp_region_noPanic ?_
                  refine wp_region_held_drew (S := (fun w' => w'.cell? ⟨w.heap.size, 2, none⟩ = some (.slice (some ⟨b1, o1, none⟩) r.plus.length c1) ∧ w'.cell? ⟨b2, o2 + k * 6, none⟩ = some (.int .i64 y1) ∧ w'.cell? ⟨b2, o2 + k * 6 + 1, none⟩ = some (.int .i64 y2) ∧ w'.cell? ⟨b2, o2 + k * 6 + 2, none⟩ = some (.int .i64 y3) ∧ w'.cell? ⟨b2, o2 + k * 6 + 3, none⟩ = some (.int .i64 y4) ∧ w'.cell? ⟨b2, o2 + k * 6 + 4, none⟩ = some (.int .i64 y5) ∧ w'.cell? ⟨b2, o2 + k * 6 + 5, none⟩ = some (.int .i64 y6) ∧ w'.cell? ⟨b1, o1 + i * 6, none⟩ = some (.int .i64 x1) ∧ w'.cell? ⟨b1, o1 + i * 6 + 1, none⟩ = some (.int .i64 x2) ∧ w'.cell? ⟨b1, o1 + i * 6 + 2, none⟩ = some (.int .i64 x3) ∧ w'.cell? ⟨b1, o1 + i * 6 + 3, none⟩ = some (.int .i64 x4) ∧ w'.cell? ⟨b1, o1 + i * 6 + 4, none⟩ = some (.int .i64 x5) ∧ w'.cell? ⟨b1, o1 + i * 6 + 5, none⟩ = some (.int .i64 x6))) (by kernel_rfl) ?_ (fun hHeld => ?_)
                  · go_keep
                  refine wpAnyH_take (i := 0) (v := ?va0) rfl (by kernel_rfl) (by kernel_rfl) (by kernel_rfl) (fun _ _ _ h => h) (Or.inl ⟨by kernel_rfl, ?hya0⟩) (by assumption) ?resta0
                  case hya0 => (intro w hSw; (try dsimp only at hSw); go_simp; (try with_reducible rfl))
                  go_simp
                  refine wpAnyH_take (i := 1) (v := ?va1) rfl (by kernel_rfl) (by kernel_rfl) (by kernel_rfl) (fun _ _ _ h => h) (Or.inl ⟨by kernel_rfl, ?hya1⟩) (by assumption) ?resta1
                  case hya1 => (intro w hSw; (try dsimp only at hSw); go_simp; (try with_reducible rfl))
                  go_simp
                  refine wpAnyH_take (i := 2) (v := ?va2) rfl (by kernel_rfl) (by kernel_rfl) (by kernel_rfl) (fun _ _ _ h => h) (Or.inl ⟨by kernel_rfl, ?hya2⟩) (by assumption) ?resta2
                  case hya2 => (intro w hSw; (try dsimp only at hSw); go_simp; (try with_reducible rfl))
                  go_simp
                  refine wpAnyH_take (i := 3) (v := ?va3) rfl (by kernel_rfl) (by kernel_rfl) (by kernel_rfl) (fun _ _ _ h => h) (Or.inl ⟨by kernel_rfl, ?hya3⟩) (by assumption) ?resta3
                  case hya3 => (intro w hSw; (try dsimp only at hSw); go_simp; (try with_reducible rfl))
                  go_simp
                  refine wpAnyH_take (i := 4) (v := ?va4) rfl (by kernel_rfl) (by kernel_rfl) (by kernel_rfl) (fun _ _ _ h => h) (Or.inl ⟨by kernel_rfl, ?hya4⟩) (by assumption) ?resta4
                  case hya4 => (intro w hSw; (try dsimp only at hSw); go_simp; (try with_reducible rfl))
                  go_simp
                  refine wpAnyH_take (i := 5) (v := ?va5) rfl (by kernel_rfl) (by kernel_rfl) (by kernel_rfl) (fun _ _ _ h => h) (Or.inl ⟨by kernel_rfl, ?hya5⟩) (by assumption) ?resta5
                  case hya5 => (intro w hSw; (try dsimp only at hSw); go_simp; (try with_reducible rfl))
                  go_simp
                  refine wpAnyH_take (i := 6) (v := ?va6) rfl (by kernel_rfl) (by kernel_rfl) (by kernel_rfl) (fun _ _ _ h => h) (Or.inl ⟨by kernel_rfl, ?hya6⟩) (by assumption) ?resta6
                  case hya6 => (intro w hSw; (try dsimp only at hSw); go_simp; (try with_reducible rfl))
                  go_simp
                  refine wpAnyH_take (i := 7) (v := ?va7) rfl (by kernel_rfl) (by kernel_rfl) (by kernel_rfl) (fun _ _ _ h => h) (Or.inl ⟨by kernel_rfl, ?hya7⟩) (by assumption) ?resta7
                  case hya7 => (intro w hSw; (try dsimp only at hSw); go_simp; (try with_reducible rfl))
                  go_simp
                  refine wpAnyH_take (i := 8) (v := ?va8) rfl (by kernel_rfl) (by kernel_rfl) (by kernel_rfl) (fun _ _ _ h => h) (Or.inl ⟨by kernel_rfl, ?hya8⟩) (by assumption) ?resta8
                  case hya8 => (intro w hSw; (try dsimp only at hSw); go_simp; (try with_reducible rfl))
                  go_simp
                  refine wpAnyH_take (i := 9) (v := ?va9) rfl (by kernel_rfl) (by kernel_rfl) (by kernel_rfl) (fun _ _ _ h => h) (Or.inl ⟨by kernel_rfl, ?hya9⟩) (by assumption) ?resta9
                  case hya9 => (intro w hSw; (try dsimp only at hSw); go_simp; (try with_reducible rfl))
                  go_simp
                  refine wpAnyH_take (i := 10) (v := ?va10) rfl (by kernel_rfl) (by kernel_rfl) (by kernel_rfl) (fun _ _ _ h => h) (Or.inl ⟨by kernel_rfl, ?hya10⟩) (by assumption) ?resta10
                  case hya10 => (intro w hSw; (try dsimp only at hSw); go_simp; (try with_reducible rfl))
                  go_simp
                  refine wpAnyH_take (i := 11) (v := ?va11) rfl (by kernel_rfl) (by kernel_rfl) (by kernel_rfl) (fun _ _ _ h => h) (Or.inl ⟨by kernel_rfl, ?hya11⟩) (by assumption) ?resta11
                  case hya11 => (intro w hSw; (try dsimp only at hSw); go_simp; (try with_reducible rfl))
                  go_simp
                  refine wpAnyH_take (i := 12) (v := ?va12) rfl (by kernel_rfl) (by kernel_rfl) (by kernel_rfl) (fun _ _ _ h => h) (Or.inl ⟨by kernel_rfl, ?hya12⟩) (by assumption) ?resta12
                  case hya12 => (intro w hSw; (try dsimp only at hSw); go_simp; (try with_reducible rfl))
                  go_simp
                  refine wpAnyH_take (i := 13) (v := ?va13) rfl (by kernel_rfl) (by kernel_rfl) (by kernel_rfl) (fun _ _ _ h => h) (Or.inl ⟨by kernel_rfl, ?hya13⟩) (by assumption) ?resta13
                  case hya13 => (intro w hSw; (try dsimp only at hSw); go_simp; (try with_reducible rfl))
                  go_simp
                  refine wpAnyH_take (i := 14) (v := ?va14) rfl (by kernel_rfl) (by kernel_rfl) (by kernel_rfl) (fun _ _ _ h => h) (Or.inl ⟨by kernel_rfl, ?hya14⟩) (by assumption) ?resta14
                  case hya14 => (intro w hSw; (try dsimp only at hSw); go_simp; (try with_reducible rfl))
                  go_simp
                  refine wpAnyH_take (i := 15) (v := ?va15) rfl (by kernel_rfl) (by kernel_rfl) (by kernel_rfl) (fun _ _ _ h => h) (Or.inl ⟨by kernel_rfl, ?hya15⟩) (by assumption) ?resta15
                  case hya15 => (intro w hSw; (try dsimp only at hSw); go_simp; (try with_reducible rfl))
                  go_simp
                  refine wpAnyH_take (i := 16) (v := ?va16) rfl (by kernel_rfl) (by kernel_rfl) (by kernel_rfl) (fun _ _ _ h => h) (Or.inl ⟨by kernel_rfl, ?hya16⟩) (by assumption) ?resta16
                  case hya16 => (intro w hSw; (try dsimp only at hSw); go_simp; (try with_reducible rfl))
                  go_simp
                  refine wpAnyH_done (by kernel_rfl) ?_ _
                  refine NoPanic.normal ?_
                  go_upto_region 21 with fail
                  have xg := xg.drew
                  have mg := mg.drew
                  go_region_with (first
                    | (go_at_call 17; (with_reducible refine (OC.out _).mono ?_); rintro e w60 ⟨v7, rfl, m7, b60⟩; have xg := xg.drew.later b60; have kg := xg.cells; have lg := xg.lt; have fg := xg.free; have mg := mg.drew.below b60 (Nat.le_refl _); have b60 := below_undrew (below_undrew b60); obtain ⟨t7, A7, n7, c7, rfl⟩ := m7.form2)
                    | (go_at_call 18; (with_reducible refine (PL.out _ _ _ _ _ mg m7).mono ?_); rintro e w61 ⟨v8, rfl, m8, b61⟩; have xg := xg.later b61; have kg := xg.cells; have lg := xg.lt; have fg := xg.free; obtain ⟨t8, A8, n8, c8, rfl⟩ := m8.form2))
                  all_goals
                    have s60 := b60.size
                    have CZ := CZ.trans ((b60.trans (b61.mono b60.size)).mono CZ.size)
                    have mg := ((m8.mono (S' := fun b => b ≠ W6.heap.size) (L' := 19 + i * 200 + (k + 1)) (fun b _ h => by have h' : w60.heap.size ≤ b := h; show b ≠ W6.heap.size; omega) (by omega)).setCell (g := W6.heap.size) (i := 0) (by simp) (.bool t8)).setCell (g := W6.heap.size) (i := 1) (by simp) (.slice A8 n8 c8)
                    rw [← HE.out] at mg
                    have CZ := (CZ.setCell (p := ⟨W6.heap.size, 0, none⟩) (Nat.le_refl _) (.bool t8)).setCell (p := ⟨W6.heap.size, 1, none⟩) (Nat.le_refl _) (.slice A8 n8 c8)
                    have kb := (xb.later CZ).cells
                    have lb := (xb.later CZ).lt
                    have xg : Box ((w61.setCell ⟨W6.heap.size, 0, none⟩ (.bool t8)).setCell ⟨W6.heap.size, 1, none⟩ (.slice A8 n8 c8)) W6.heap.size 52 #[.bool t8, .slice A8 n8 c8] := by simpa using (xg.set 0 (.bool t8)).set 1 (.slice A8 n8 c8)
                    clear kg fg lg m8 m7 b60 b61 OC PL
                    go_upto_region 22 with fail
                    refine wp_region_noPanic ?_
                    refine wp_region_held_drew (S := (fun w' => w'.cell? ⟨w.heap.size, 2, none⟩ = some (.slice (some ⟨b1, o1, none⟩) r.plus.length c1))) (by kernel_rfl) ?_ (fun hHeld => ?_)
                    · go_keep
                    refine wpAnyH_take (i := 0) (v := ?_) rfl (by kernel_rfl) (by kernel_rfl) (by kernel_rfl) (fun _ _ _ h => h) (Or.inl ⟨by kernel_rfl, ?_⟩) (by assumption) ?_
                    rotate_left
                    · (intro w hSw; (try dsimp only at hSw); go_simp; (try with_reducible rfl))
                    go_simp
                    refine wpAnyH_take (i := 1) (v := ?_) rfl (by kernel_rfl) (by kernel_rfl) (by kernel_rfl) (fun _ _ _ h => h) (Or.inl ⟨by kernel_rfl, ?_⟩) (by assumption) ?_
                    rotate_left
                    · (intro w hSw; (try dsimp only at hSw); go_simp; (try with_reducible rfl))
                    go_simp
                    refine wpAnyH_take (i := 2) (v := ?_) rfl (by kernel_rfl) (by kernel_rfl) (by kernel_rfl) (fun _ _ _ h => h) (Or.inl ⟨by kernel_rfl, ?_⟩) (by assumption) ?_
                    rotate_left
                    · (intro w hSw; (try dsimp only at hSw); go_simp; (try with_reducible rfl))
                    go_simp
                    refine wpAnyH_take (i := 3) (v := ?_) rfl (by kernel_rfl) (by kernel_rfl) (by kernel_rfl) (fun _ _ _ h => h) (Or.inl ⟨by kernel_rfl, ?_⟩) (by assumption) ?_
                    rotate_left
                    · (intro w hSw; (try dsimp only at hSw); go_simp; (try with_reducible rfl))
                    go_simp
                    refine wpAnyH_take (i := 4) (v := ?_) rfl (by kernel_rfl) (by kernel_rfl) (by kernel_rfl) (fun _ _ _ h => h) (Or.inl ⟨by kernel_rfl, ?_⟩) (by assumption) ?_
                    rotate_left
                    · (intro w hSw; (try dsimp only at hSw); go_simp; (try with_reducible rfl))
                    go_simp
                    refine wpAnyH_take (i := 5) (v := ?_) rfl (by kernel_rfl) (by kernel_rfl) (by kernel_rfl) (fun _ _ _ h => h) (Or.inl ⟨by kernel_rfl, ?_⟩) (by assumption) ?_
                    rotate_left
                    · (intro w hSw; (try dsimp only at hSw); go_simp; (try with_reducible rfl))
                    go_simp
                    refine wpAnyH_take (i := 6) (v := undef) rfl (by kernel_rfl) (by kernel_rfl) (by kernel_rfl) (fun _ _ _ h => h) (Or.inr ⟨by kernel_rfl, rfl⟩) (by assumption) ?_
                    go_simp
                    refine wpAnyH_take (i := 7) (v := undef) rfl (by kernel_rfl) (by kernel_rfl) (by kernel_rfl) (fun _ _ _ h => h) (Or.inr ⟨by kernel_rfl, rfl⟩) (by assumption) ?_
                    go_simp
                    refine wpAnyH_take (i := 8) (v := undef) rfl (by kernel_rfl) (by kernel_rfl) (by kernel_rfl) (fun _ _ _ h => h) (Or.inr ⟨by kernel_rfl, rfl⟩) (by assumption) ?_
                    go_simp
                    refine wpAnyH_take (i := 9) (v := undef) rfl (by kernel_rfl) (by kernel_rfl) (by kernel_rfl) (fun _ _ _ h => h) (Or.inr ⟨by kernel_rfl, rfl⟩) (by assumption) ?_
                    go_simp
                    refine wpAnyH_take (i := 10) (v := undef) rfl (by kernel_rfl) (by kernel_rfl) (by kernel_rfl) (fun _ _ _ h => h) (Or.inr ⟨by kernel_rfl, rfl⟩) (by assumption) ?_
                    go_simp
                    refine wpAnyH_take (i := 11) (v := undef) rfl (by kernel_rfl) (by kernel_rfl) (by kernel_rfl) (fun _ _ _ h => h) (Or.inr ⟨by kernel_rfl, rfl⟩) (by assumption) ?_
                    go_simp
                    refine wpAnyH_take (i := 12) (v := undef) rfl (by kernel_rfl) (by kernel_rfl) (by kernel_rfl) (fun _ _ _ h => h) (Or.inr ⟨by kernel_rfl, rfl⟩) (by assumption) ?_
                    go_simp
                    refine wpAnyH_take (i := 13) (v := undef) rfl (by kernel_rfl) (by kernel_rfl) (by kernel_rfl) (fun _ _ _ h => h) (Or.inr ⟨by kernel_rfl, rfl⟩) (by assumption) ?_
                    go_simp
                    refine wpAnyH_take (i := 14) (v := undef) rfl (by kernel_rfl) (by kernel_rfl) (by kernel_rfl) (fun _ _ _ h => h) (Or.inr ⟨by kernel_rfl, rfl⟩) (by assumption) ?_
                    go_simp
                    refine wpAnyH_take (i := 15) (v := undef) rfl (by kernel_rfl) (by kernel_rfl) (by kernel_rfl) (fun _ _ _ h => h) (Or.inr ⟨by kernel_rfl, rfl⟩) (by assumption) ?_
                    go_simp
                    refine wpAnyH_take (i := 16) (v := undef) rfl (by kernel_rfl) (by kernel_rfl) (by kernel_rfl) (fun _ _ _ h => h) (Or.inr ⟨by kernel_rfl, rfl⟩) (by assumption) ?_
                    go_simp
                    refine wpAnyH_take (i := 17) (v := undef) rfl (by kernel_rfl) (by kernel_rfl) (by kernel_rfl) (fun _ _ _ h => h) (Or.inr ⟨by kernel_rfl, rfl⟩) (by assumption) ?_
                    go_simp
                    refine wpAnyH_take (i := 18) (v := undef) rfl (by kernel_rfl) (by kernel_rfl) (by kernel_rfl) (fun _ _ _ h => h) (Or.inr ⟨by kernel_rfl, rfl⟩) (by assumption) ?_
                    go_simp
                    refine wpAnyH_take (i := 19) (v := undef) rfl (by kernel_rfl) (by kernel_rfl) (by kernel_rfl) (fun _ _ _ h => h) (Or.inr ⟨by kernel_rfl, rfl⟩) (by assumption) ?_
                    go_simp
                    refine wpAnyH_take (i := 20) (v := ?_) rfl (by kernel_rfl) (by kernel_rfl) (by kernel_rfl) (fun _ _ _ h => h) (Or.inl ⟨by kernel_rfl, ?_⟩) (by assumption) ?_
                    rotate_left
                    · (intro w hSw; (try dsimp only at hSw); go_simp; (try with_reducible rfl))
                    go_simp
                    refine wpAnyH_done (by kernel_rfl) ?_ _
                    refine NoPanic.normal ?_
                    go_wp2
                    go_roundw
                    case rel => exact ⟨k + 1, t8, A8, n8, c8, by omega, by go_num, xg, mg, below_drewN CZ 1⟩
                    case measure => simp [intOf]; omega
                · rw [decide_eq_false he] at CE
                  have h1 := ht.2 he
                  rw [← h1] at mg
                  clear ht he h1
                  go_upto_region 20 with fail
                  refine wp_region_noPanic ?_
                  refine wp_region_held_drew (S := (fun w' => w'.cell? ⟨w.heap.size, 2, none⟩ = some (.slice (some ⟨b1, o1, none⟩) r.plus.length c1) ∧ w'.cell? ⟨b2, o2 + k * 6, none⟩ = some (.int .i64 y1) ∧ w'.cell? ⟨b2, o2 + k * 6 + 1, none⟩ = some (.int .i64 y2) ∧ w'.cell? ⟨b2, o2 + k * 6 + 2, none⟩ = some (.int .i64 y3) ∧ w'.cell? ⟨b2, o2 + k * 6 + 3, none⟩ = some (.int .i64 y4) ∧ w'.cell? ⟨b2, o2 + k * 6 + 4, none⟩ = some (.int .i64 y5) ∧ w'.cell? ⟨b2, o2 + k * 6 + 5, none⟩ = some (.int .i64 y6) ∧ w'.cell? ⟨b1, o1 + i * 6, none⟩ = some (.int .i64 x1) ∧ w'.cell? ⟨b1, o1 + i * 6 + 1, none⟩ = some (.int .i64 x2) ∧ w'.cell? ⟨b1, o1 + i * 6 + 2, none⟩ = some (.int .i64 x3) ∧ w'.cell? ⟨b1, o1 + i * 6 + 3, none⟩ = some (.int .i64 x4) ∧ w'.cell? ⟨b1, o1 + i * 6 + 4, none⟩ = some (.int .i64 x5) ∧ w'.cell? ⟨b1, o1 + i * 6 + 5, none⟩ = some (.int .i64 x6))) (by kernel_rfl) ?_ (fun hHeld => ?_)
                  · go_keep
                  refine wpAnyH_take (i := 0) (v := ?vc0) rfl (by kernel_rfl) (by kernel_rfl) (by kernel_rfl) (fun _ _ _ h => h) (Or.inl ⟨by kernel_rfl, ?hyc0⟩) (by assumption) ?restc0
                  case hyc0 => (intro w hSw; (try dsimp only at hSw); go_simp; (try with_reducible rfl))
                  go_simp
                  refine wpAnyH_take (i := 1) (v := ?vc1) rfl (by kernel_rfl) (by kernel_rfl) (by kernel_rfl) (fun _ _ _ h => h) (Or.inl ⟨by kernel_rfl, ?hyc1⟩) (by assumption) ?restc1
                  case hyc1 => (intro w hSw; (try dsimp only at hSw); go_simp; (try with_reducible rfl))
                  go_simp
                  refine wpAnyH_take (i := 2) (v := ?vc2) rfl (by kernel_rfl) (by kernel_rfl) (by kernel_rfl) (fun _ _ _ h => h) (Or.inl ⟨by kernel_rfl, ?hyc2⟩) (by assumption) ?restc2
                  case hyc2 => (intro w hSw; (try dsimp only at hSw); go_simp; (try with_reducible rfl))
                  go_simp
                  refine wpAnyH_take (i := 3) (v := ?vc3) rfl (by kernel_rfl) (by kernel_rfl) (by kernel_rfl) (fun _ _ _ h => h) (Or.inl ⟨by kernel_rfl, ?hyc3⟩) (by assumption) ?restc3
                  case hyc3 => (intro w hSw; (try dsimp only at hSw); go_simp; (try with_reducible rfl))
                  go_simp
                  refine wpAnyH_take (i := 4) (v := ?vc4) rfl (by kernel_rfl) (by kernel_rfl) (by kernel_rfl) (fun _ _ _ h => h) (Or.inl ⟨by kernel_rfl, ?hyc4⟩) (by assumption) ?restc4
                  case hyc4 => (intro w hSw; (try dsimp only at hSw); go_simp; (try with_reducible rfl))
                  go_simp
                  refine wpAnyH_take (i := 5) (v := ?vc5) rfl (by kernel_rfl) (by kernel_rfl) (by kernel_rfl) (fun _ _ _ h => h) (Or.inl ⟨by kernel_rfl, ?hyc5⟩) (by assumption) ?restc5
                  case hyc5 => (intro w hSw; (try dsimp only at hSw); go_simp; (try with_reducible rfl))
                  go_simp
                  refine wpAnyH_take (i := 6) (v := ?vc6) rfl (by kernel_rfl) (by kernel_rfl) (by kernel_rfl) (fun _ _ _ h => h) (Or.inl ⟨by kernel_rfl, ?hyc6⟩) (by assumption) ?restc6
                  case hyc6 => (intro w hSw; (try dsimp only at hSw); go_simp; (try with_reducible rfl))
                  go_simp
                  refine wpAnyH_take (i := 7) (v := ?vc7) rfl (by kernel_rfl) (by kernel_rfl) (by kernel_rfl) (fun _ _ _ h => h) (Or.inl ⟨by kernel_rfl, ?hyc7⟩) (by assumption) ?restc7
                  case hyc7 => (intro w hSw; (try dsimp only at hSw); go_simp; (try with_reducible rfl))
                  go_simp
                  refine wpAnyH_take (i := 8) (v := ?vc8) rfl (by kernel_rfl) (by kernel_rfl) (by kernel_rfl) (fun _ _ _ h => h) (Or.inl ⟨by kernel_rfl, ?hyc8⟩) (by assumption) ?restc8
                  case hyc8 => (intro w hSw; (try dsimp only at hSw); go_simp; (try with_reducible rfl))
                  go_simp
                  refine wpAnyH_take (i := 9) (v := ?vc9) rfl (by kernel_rfl) (by kernel_rfl) (by kernel_rfl) (fun _ _ _ h => h) (Or.inl ⟨by kernel_rfl, ?hyc9⟩) (by assumption) ?restc9
                  case hyc9 => (intro w hSw; (try dsimp only at hSw); go_simp; (try with_reducible rfl))
                  go_simp
                  refine wpAnyH_take (i := 10) (v := ?vc10) rfl (by kernel_rfl) (by kernel_rfl) (by kernel_rfl) (fun _ _ _ h => h) (Or.inl ⟨by kernel_rfl, ?hyc10⟩) (by assumption) ?restc10
                  case hyc10 => (intro w hSw; (try dsimp only at hSw); go_simp; (try with_reducible rfl))
                  go_simp
                  refine wpAnyH_take (i := 11) (v := ?vc11) rfl (by kernel_rfl) (by kernel_rfl) (by kernel_rfl) (fun _ _ _ h => h) (Or.inl ⟨by kernel_rfl, ?hyc11⟩) (by assumption) ?restc11
                  case hyc11 => (intro w hSw; (try dsimp only at hSw); go_simp; (try with_reducible rfl))
                  go_simp
                  refine wpAnyH_take (i := 12) (v := ?vc12) rfl (by kernel_rfl) (by kernel_rfl) (by kernel_rfl) (fun _ _ _ h => h) (Or.inl ⟨by kernel_rfl, ?hyc12⟩) (by assumption) ?restc12
                  case hyc12 => (intro w hSw; (try dsimp only at hSw); go_simp; (try with_reducible rfl))
                  go_simp
                  refine wpAnyH_take (i := 13) (v := ?vc13) rfl (by kernel_rfl) (by kernel_rfl) (by kernel_rfl) (fun _ _ _ h => h) (Or.inl ⟨by kernel_rfl, ?hyc13⟩) (by assumption) ?restc13
                  case hyc13 => (intro w hSw; (try dsimp only at hSw); go_simp; (try with_reducible rfl))
                  go_simp
                  refine wpAnyH_take (i := 14) (v := ?vc14) rfl (by kernel_rfl) (by kernel_rfl) (by kernel_rfl) (fun _ _ _ h => h) (Or.inl ⟨by kernel_rfl, ?hyc14⟩) (by assumption) ?restc14
                  case hyc14 => (intro w hSw; (try dsimp only at hSw); go_simp; (try with_reducible rfl))
                  go_simp
                  refine wpAnyH_take (i := 15) (v := ?vc15) rfl (by kernel_rfl) (by kernel_rfl) (by kernel_rfl) (fun _ _ _ h => h) (Or.inl ⟨by kernel_rfl, ?hyc15⟩) (by assumption) ?restc15
                  case hyc15 => (intro w hSw; (try dsimp only at hSw); go_simp; (try with_reducible rfl))
                  go_simp
                  refine wpAnyH_take (i := 16) (v := ?vc16) rfl (by kernel_rfl) (by kernel_rfl) (by kernel_rfl) (fun _ _ _ h => h) (Or.inl ⟨by kernel_rfl, ?hyc16⟩) (by assumption) ?restc16
                  case hyc16 => (intro w hSw; (try dsimp only at hSw); go_simp; (try with_reducible rfl))
                  go_simp
                  refine wpAnyH_done (by kernel_rfl) ?_ _
                  refine NoPanic.normal ?_
                  go_upto_region 22 with fail
                  refine wp_region_noPanic ?_
                  refine wp_region_held_drew (S := (fun w' => w'.cell? ⟨w.heap.size, 2, none⟩ = some (.slice (some ⟨b1, o1, none⟩) r.plus.length c1))) (by kernel_rfl) ?_ (fun hHeld => ?_)
                  · go_keep
                  refine wpAnyH_take (i := 0) (v := ?vd0) rfl (by kernel_rfl) (by kernel_rfl) (by kernel_rfl) (fun _ _ _ h => h) (Or.inl ⟨by kernel_rfl, ?hyd0⟩) (by assumption) ?restd0
                  case hyd0 => (intro w hSw; (try dsimp only at hSw); go_simp; (try with_reducible rfl))
                  go_simp
                  refine wpAnyH_take (i := 1) (v := ?vd1) rfl (by kernel_rfl) (by kernel_rfl) (by kernel_rfl) (fun _ _ _ h => h) (Or.inl ⟨by kernel_rfl, ?hyd1⟩) (by assumption) ?restd1
                  case hyd1 => (intro w hSw; (try dsimp only at hSw); go_simp; (try with_reducible rfl))
                  go_simp
                  refine wpAnyH_take (i := 2) (v := ?vd2) rfl (by kernel_rfl) (by kernel_rfl) (by kernel_rfl) (fun _ _ _ h => h) (Or.inl ⟨by kernel_rfl, ?hyd2⟩) (by assumption) ?restd2
                  case hyd2 => (intro w hSw; (try dsimp only at hSw); go_simp; (try with_reducible rfl))
                  go_simp
                  refine wpAnyH_take (i := 3) (v := ?vd3) rfl (by kernel_rfl) (by kernel_rfl) (by kernel_rfl) (fun _ _ _ h => h) (Or.inl ⟨by kernel_rfl, ?hyd3⟩) (by assumption) ?restd3
                  case hyd3 => (intro w hSw; (try dsimp only at hSw); go_simp; (try with_reducible rfl))
                  go_simp
                  refine wpAnyH_take (i := 4) (v := ?vd4) rfl (by kernel_rfl) (by kernel_rfl) (by kernel_rfl) (fun _ _ _ h => h) (Or.inl ⟨by kernel_rfl, ?hyd4⟩) (by assumption) ?restd4
                  case hyd4 => (intro w hSw; (try dsimp only at hSw); go_simp; (try with_reducible rfl))
                  go_simp
                  refine wpAnyH_take (i := 5) (v := ?vd5) rfl (by kernel_rfl) (by kernel_rfl) (by kernel_rfl) (fun _ _ _ h => h) (Or.inl ⟨by kernel_rfl, ?hyd5⟩) (by assumption) ?restd5
                  case hyd5 => (intro w hSw; (try dsimp only at hSw); go_simp; (try with_reducible rfl))
                  go_simp
                  refine wpAnyH_take (i := 6) (v := undef) rfl (by kernel_rfl) (by kernel_rfl) (by kernel_rfl) (fun _ _ _ h => h) (Or.inr ⟨by kernel_rfl, rfl⟩) (by assumption) ?_
                  go_simp
                  refine wpAnyH_take (i := 7) (v := undef) rfl (by kernel_rfl) (by kernel_rfl) (by kernel_rfl) (fun _ _ _ h => h) (Or.inr ⟨by kernel_rfl, rfl⟩) (by assumption) ?_
                  go_simp
                  refine wpAnyH_take (i := 8) (v := undef) rfl (by kernel_rfl) (by kernel_rfl) (by kernel_rfl) (fun _ _ _ h => h) (Or.inr ⟨by kernel_rfl, rfl⟩) (by assumption) ?_
                  go_simp
                  refine wpAnyH_take (i := 9) (v := undef) rfl (by kernel_rfl) (by kernel_rfl) (by kernel_rfl) (fun _ _ _ h => h) (Or.inr ⟨by kernel_rfl, rfl⟩) (by assumption) ?_
                  go_simp
                  refine wpAnyH_take (i := 10) (v := undef) rfl (by kernel_rfl) (by kernel_rfl) (by kernel_rfl) (fun _ _ _ h => h) (Or.inr ⟨by kernel_rfl, rfl⟩) (by assumption) ?_
                  go_simp
                  refine wpAnyH_take (i := 11) (v := undef) rfl (by kernel_rfl) (by kernel_rfl) (by kernel_rfl) (fun _ _ _ h => h) (Or.inr ⟨by kernel_rfl, rfl⟩) (by assumption) ?_
                  go_simp
                  refine wpAnyH_take (i := 12) (v := undef) rfl (by kernel_rfl) (by kernel_rfl) (by kernel_rfl) (fun _ _ _ h => h) (Or.inr ⟨by kernel_rfl, rfl⟩) (by assumption) ?_
                  go_simp
                  refine wpAnyH_take (i := 13) (v := undef) rfl (by kernel_rfl) (by kernel_rfl) (by kernel_rfl) (fun _ _ _ h => h) (Or.inr ⟨by kernel_rfl, rfl⟩) (by assumption) ?_
                  go_simp
                  refine wpAnyH_take (i := 14) (v := undef) rfl (by kernel_rfl) (by kernel_rfl) (by kernel_rfl) (fun _ _ _ h => h) (Or.inr ⟨by kernel_rfl, rfl⟩) (by assumption) ?_
                  go_simp
                  refine wpAnyH_take (i := 15) (v := undef) rfl (by kernel_rfl) (by kernel_rfl) (by kernel_rfl) (fun _ _ _ h => h) (Or.inr ⟨by kernel_rfl, rfl⟩) (by assumption) ?_
                  go_simp
                  refine wpAnyH_take (i := 16) (v := undef) rfl (by kernel_rfl) (by kernel_rfl) (by kernel_rfl) (fun _ _ _ h => h) (Or.inr ⟨by kernel_rfl, rfl⟩) (by assumption) ?_
                  go_simp
                  refine wpAnyH_take (i := 17) (v := undef) rfl (by kernel_rfl) (by kernel_rfl) (by kernel_rfl) (fun _ _ _ h => h) (Or.inr ⟨by kernel_rfl, rfl⟩) (by assumption) ?_
                  go_simp
                  refine wpAnyH_take (i := 18) (v := undef) rfl (by kernel_rfl) (by kernel_rfl) (by kernel_rfl) (fun _ _ _ h => h) (Or.inr ⟨by kernel_rfl, rfl⟩) (by assumption) ?_
                  go_simp
                  refine wpAnyH_take (i := 19) (v := undef) rfl (by kernel_rfl) (by kernel_rfl) (by kernel_rfl) (fun _ _ _ h => h) (Or.inr ⟨by kernel_rfl, rfl⟩) (by assumption) ?_
                  go_simp
                  refine wpAnyH_take (i := 20) (v := ?vd20) rfl (by kernel_rfl) (by kernel_rfl) (by kernel_rfl) (fun _ _ _ h => h) (Or.inl ⟨by kernel_rfl, ?hyd20⟩) (by assumption) ?restd20
                  case hyd20 => (intro w hSw; (try dsimp only at hSw); go_simp; (try with_reducible rfl))
                  go_simp
                  refine wpAnyH_done (by kernel_rfl) ?_ _
                  refine NoPanic.normal ?_
                  go_wp2
                  go_roundw
                  case rel => exact ⟨k + 1, t3, A3, n3, c3, by omega, by go_num, xg, mg.mono (fun _ _ h => h) (by omega), below_drewN CZ 2⟩
                  case measure => simp [intOf]; omega
              · obtain rfl : k = L.length := by omega
                rw [List.take_length, show ns.take L.length = ns by rw [hne.out, List.take_length], ← hst.out] at mg
                clear hk hkl kb lb
                go_wp2
                go_roundw
                case rel => exact ⟨i + 1, t3, A3, n3, c3, by omega, by go_num, xg, mg.mono (fun _ _ h => h) (by omega), CZ⟩
                case measure => simp [intOf]; omega
          · have hipi : ¬ (i : Int) < (r.plus.length : Int) := by omega
            have hipg : (r.plus.length : Int) ≤ (i : Int) := by omega
            have hq1 : r.plus.length ≤ i := by omega
            have hq2 : decide ((i : Int) < (r.plus.length : Int)) = false := decide_eq_false hipi
            have hq3 : decide (i < r.plus.length) = false := decide_eq_false hip
            obtain ⟨j, hj⟩ : ∃ j : Nat, j = i - r.plus.length := ⟨_, rfl⟩
            have hix : j < r.minus.length := by omega
            have hst : Hid (totI r.base.n r.plus r.minus (nv L ns) (i + 1) = totI r.base.n r.plus r.minus (nv L ns) i - nv L ns r.minus[j]) := by subst hj; exact totI_minus _ _ _ _ (by omega) hix
            have hsub : (i : Int) - (r.plus.length : Int) = (j : Int) := by omega
            have hwj := IntWalk.i64_in (j : Int) (by omega)
            clear hj
            obtain ⟨b1, o1, rfl, hg1, hc1⟩ := rminus.get (by omega)
            have e0 := hc1 j hix 0 _ rfl
            have e1 := hc1 j hix 1 _ rfl
            have e2 := hc1 j hix 2 _ rfl
            have e3 := hc1 j hix 3 _ rfl
            have e4 := hc1 j hix 4 _ rfl
            have e5 := hc1 j hix 5 _ rfl
            clear hc1
            generalize totI r.base.n r.plus r.minus (nv L ns) i = T at *
            generalize r.minus[j] = x at *
            obtain ⟨x1, x2, x3, x4, x5, x6⟩ := x
            dsimp only at e0 e1 e2 e3 e4 e5
            rw [show CelE.n = 6 from rfl, Nat.add_zero] at e0
            rw [show CelE.n = 6 from rfl, ← Nat.add_assoc] at e1 e2 e3 e4 e5
            go_wp2
            go_loopw [10] (fun s wz => ∃ (k : Nat) (t : Bool) (A : Option Addr) (n c : Nat), k ≤ L.length ∧ s = .int .i64 k ∧ Box wz W6.heap.size 52 #[.bool t, .slice A n c] ∧ BigIs (fun b => b ≠ W6.heap.size) wz (.agg #[.bool t, .slice A n c]) (T - nv (L.take k) (ns.take k) ⟨x1, x2, x3, x4, x5, x6⟩) (19 + i * 200 + k) ∧ Below W6.heap.size W6 wz) (fun s _ => L.length - (intOf s).toNat)
            case atStart => exact ⟨0, t, A, n, c, by omega, rfl, xg, by rw [nv_zero (by simp), Int.sub_zero]; exact mg, cb⟩
            case round =>
              clear xg mg kb lb cb
              obtain ⟨k, t3, A3, n3, c3, hk, rfl, xg, mg, CZ⟩ := hrel
              have kb := (xb.later CZ).cells
              have lb := (xb.later CZ).lt
              have szG := CZ.size
              have e0 := (CZ.cell (by exact hg1)).trans e0
              have e1 := (CZ.cell (by exact hg1)).trans e1
              have e2 := (CZ.cell (by exact hg1)).trans e2
              have e3 := (CZ.cell (by exact hg1)).trans e3
              have e4 := (CZ.cell (by exact hg1)).trans e4
              have e5 := (CZ.cell (by exact hg1)).trans e5
              by_cases hkl : k < L.length
              · have hkn : k < ns.length := by have := hne.out; omega
                have hkli : (k : Int) < (L.length : Int) := by omega
                obtain ⟨b2, o2, rfl, hg2, hc2⟩ := (R5.later CZ).get (by omega)
                have d0 := hc2 k hkl 0 _ rfl
                have d1 := hc2 k hkl 1 _ rfl
                have d2 := hc2 k hkl 2 _ rfl
                have d3 := hc2 k hkl 3 _ rfl
                have d4 := hc2 k hkl 4 _ rfl
                have d5 := hc2 k hkl 5 _ rfl
                obtain ⟨b4, o4, rfl, hg4, hc4⟩ := (ri.below CZ (Nat.le_refl _)).iget (by omega)
                have nk := hc4 k hkn
                have zb := oi.get k hkn
                have ht := nv_take hnd.out hne.out ⟨x1, x2, x3, x4, x5, x6⟩ hkl hkn
                clear hc2 hc4
                generalize L[k] = y at *
                generalize ns[k] = z at *
                obtain ⟨y1, y2, y3, y4, y5, y6⟩ := y
                dsimp only at d0 d1 d2 d3 d4 d5
                rw [show CelE.n = 6 from rfl, Nat.add_zero] at d0
                rw [show CelE.n = 6 from rfl, ← Nat.add_assoc] at d1 d2 d3 d4 d5
                have CE := fun w => ceq y1 y2 y3 y4 y5 y6 x1 x2 x3 x4 x5 x6 w
                by_cases he : (⟨y1, y2, y3, y4, y5, y6⟩ : Cel) = ⟨x1, x2, x3, x4, x5, x6⟩
                · rw [decide_eq_true he] at CE
                  obtain ⟨h0, h1⟩ := ht.1 he
                  rw [h0, Int.sub_zero] at mg
                  have HE : Hid (T - nv (L.take (k + 1)) (ns.take (k + 1)) ⟨x1, x2, x3, x4, x5, x6⟩ = T - z) := by show _ = _; rw [h1]
                  clear ht he h0 h1
                  have OC := Lib.hid fun (w : World) => of_any z w zb.1 zb.2
                  have PL := Lib.hid fun (w : World) S S' va vb (ha : BigIs S w va T (19 + i * 200 + k)) (hb : BigIs S' w vb z 19) => minus_any ha hb (by omega) (by omega)
                  have kg := xg.cells
                  have lg := xg.lt
                  have fg := xg.free
                  go_upto_region 20 with fail
                  refine wp_region_noPanic ?_
                  refine wp_region_held_drew (S := (fun w' => w'.cell? ⟨w.heap.size, 2, none⟩ = some (.slice A1 r.plus.length c1))) (by kernel_rfl) ?_ (fun hHeld => ?_)
                  · go_keep
                  refine wpAnyH_take (i := 0) (v := ?ve0) rfl (by kernel_rfl) (by kernel_rfl) (by kernel_rfl) (fun _ _ _ h => h) (Or.inl ⟨by kernel_rfl, ?hye0⟩) (by assumption) ?reste0
                  case hye0 => (intro w hSw; (try dsimp only at hSw); go_simp; (try with_reducible rfl))
                  go_simp
                  refine wpAnyH_take (i := 1) (v := ?ve1) rfl (by kernel_rfl) (by kernel_rfl) (by kernel_rfl) (fun _ _ _ h => h) (Or.inl ⟨by kernel_rfl, ?hye1⟩) (by assumption) ?reste1
                  case hye1 => (intro w hSw; (try dsimp only at hSw); go_simp; (try with_reducible rfl))
                  go_simp
                  refine wpAnyH_take (i := 2) (v := ?ve2) rfl (by kernel_rfl) (by kernel_rfl) (by kernel_rfl) (fun _ _ _ h => h) (Or.inl ⟨by kernel_rfl, ?hye2⟩) (by assumption) ?reste2
                  case hye2 => (intro w hSw; (try dsimp only at hSw); go_simp; (try with_reducible rfl))
                  go_simp
                  refine wpAnyH_take (i := 3) (v := ?ve3) rfl (by kernel_rfl) (by kernel_rfl) (by kernel_rfl) (fun _ _ _ h => h) (Or.inl ⟨by kernel_rfl, ?hye3⟩) (by assumption) ?reste3
                  case hye3 => (intro w hSw; (try dsimp only at hSw); go_simp; (try with_reducible rfl))
                  go_simp
                  refine wpAnyH_take (i := 4) (v := ?ve4) rfl (by kernel_rfl) (by kernel_rfl) (by kernel_rfl) (fun _ _ _ h => h) (Or.inl ⟨by kernel_rfl, ?hye4⟩) (by assumption) ?reste4
                  case hye4 => (intro w hSw; (try dsimp only at hSw); go_simp; (try with_reducible rfl))
                  go_simp
                  refine wpAnyH_take (i := 5) (v := ?ve5) rfl (by kernel_rfl) (by kernel_rfl) (by kernel_rfl) (fun _ _ _ h => h) (Or.inl ⟨by kernel_rfl, ?hye5⟩) (by assumption) ?reste5
                  case hye5 => (intro w hSw; (try dsimp only at hSw); go_simp; (try with_reducible rfl))
                  go_simp
                  refine wpAnyH_take (i := 6) (v := undef) rfl (by kernel_rfl) (by kernel_rfl) (by kernel_rfl) (fun _ _ _ h => h) (Or.inr ⟨by kernel_rfl, rfl⟩) (by assumption) ?_
                  go_simp
                  refine wpAnyH_take (i := 7) (v := undef) rfl (by kernel_rfl) (by kernel_rfl) (by kernel_rfl) (fun _ _ _ h => h) (Or.inr ⟨by kernel_rfl, rfl⟩) (by assumption) ?_
                  go_simp
                  refine wpAnyH_take (i := 8) (v := undef) rfl (by kernel_rfl) (by kernel_rfl) (by kernel_rfl) (fun _ _ _ h => h) (Or.inr ⟨by kernel_rfl, rfl⟩) (by assumption) ?_
                  go_simp
                  refine wpAnyH_take (i := 9) (v := undef) rfl (by kernel_rfl) (by kernel_rfl) (by kernel_rfl) (fun _ _ _ h => h) (Or.inr ⟨by kernel_rfl, rfl⟩) (by assumption) ?_
                  go_simp
                  refine wpAnyH_take (i := 10) (v := undef) rfl (by kernel_rfl) (by kernel_rfl) (by kernel_rfl) (fun _ _ _ h => h) (Or.inr ⟨by kernel_rfl, rfl⟩) (by assumption) ?_
                  go_simp
                  refine wpAnyH_take (i := 11) (v := undef) rfl (by kernel_rfl) (by kernel_rfl) (by kernel_rfl) (fun _ _ _ h => h) (Or.inr ⟨by kernel_rfl, rfl⟩) (by assumption) ?_
                  go_simp
                  refine wpAnyH_take (i := 12) (v := undef) rfl (by kernel_rfl) (by kernel_rfl) (by kernel_rfl) (fun _ _ _ h => h) (Or.inr ⟨by kernel_rfl, rfl⟩) (by assumption) ?_
                  go_simp
                  refine wpAnyH_take (i := 13) (v := undef) rfl (by kernel_rfl) (by kernel_rfl) (by kernel_rfl) (fun _ _ _ h => h) (Or.inr ⟨by kernel_rfl, rfl⟩) (by assumption) ?_
                  go_simp
                  refine wpAnyH_take (i := 14) (v := undef) rfl (by kernel_rfl) (by kernel_rfl) (by kernel_rfl) (fun _ _ _ h => h) (Or.inr ⟨by kernel_rfl, rfl⟩) (by assumption) ?_
                  go_simp
                  refine wpAnyH_take (i := 15) (v := undef) rfl (by kernel_rfl) (by kernel_rfl) (by kernel_rfl) (fun _ _ _ h => h) (Or.inr ⟨by kernel_rfl, rfl⟩) (by assumption) ?_
                  go_simp
                  refine wpAnyH_take (i := 16) (v := ?ve16) rfl (by kernel_rfl) (by kernel_rfl) (by kernel_rfl) (fun _ _ _ h => h) (Or.inl ⟨by kernel_rfl, ?hye16⟩) (by assumption) ?reste16
                  case hye16 => (intro w hSw; (try dsimp only at hSw); go_simp; (try with_reducible rfl))
                  go_simp
                  refine wpAnyH_done (by kernel_rfl) ?_ _
                  refine NoPanic.normal ?_
                  go_upto_region 22 with fail
                  refine wp_region_noPanic ?_
                  refine wp_region_held_drew (S := (fun w' => w'.cell? ⟨w.heap.size, 2, none⟩ = some (.slice A1 r.plus.length c1) ∧ w'.cell? ⟨w.heap.size, 3, none⟩ = some (.slice (some ⟨b1, o1, none⟩) r.minus.length c2) ∧ w'.cell? ⟨b2, o2 + k * 6, none⟩ = some (.int .i64 y1) ∧ w'.cell? ⟨b2, o2 + k * 6 + 1, none⟩ = some (.int .i64 y2) ∧ w'.cell? ⟨b2, o2 + k * 6 + 2, none⟩ = some (.int .i64 y3) ∧ w'.cell? ⟨b2, o2 + k * 6 + 3, none⟩ = some (.int .i64 y4) ∧ w'.cell? ⟨b2, o2 + k * 6 + 4, none⟩ = some (.int .i64 y5) ∧ w'.cell? ⟨b2, o2 + k * 6 + 5, none⟩ = some (.int .i64 y6) ∧ w'.cell? ⟨b1, o1 + j * 6, none⟩ = some (.int .i64 x1) ∧ w'.cell? ⟨b1, o1 + j * 6 + 1, none⟩ = some (.int .i64 x2) ∧ w'.cell? ⟨b1, o1 + j * 6 + 2, none⟩ = some (.int .i64 x3) ∧ w'.cell? ⟨b1, o1 + j * 6 + 3, none⟩ = some (.int .i64 x4) ∧ w'.cell? ⟨b1, o1 + j * 6 + 4, none⟩ = some (.int .i64 x5) ∧ w'.cell? ⟨b1, o1 + j * 6 + 5, none⟩ = some (.int .i64 x6))) (by kernel_rfl) ?_ (fun hHeld => ?_)
                  · go_keep
                  refine wpAnyH_take (i := 0) (v := ?vf0) rfl (by kernel_rfl) (by kernel_rfl) (by kernel_rfl) (fun _ _ _ h => h) (Or.inl ⟨by kernel_rfl, ?hyf0⟩) (by assumption) ?restf0
                  case hyf0 => (intro w hSw; (try dsimp only at hSw); go_simp; (try with_reducible rfl))
                  go_simp
                  refine wpAnyH_take (i := 1) (v := ?vf1) rfl (by kernel_rfl) (by kernel_rfl) (by kernel_rfl) (fun _ _ _ h => h) (Or.inl ⟨by kernel_rfl, ?hyf1⟩) (by assumption) ?restf1
                  case hyf1 => (intro w hSw; (try dsimp only at hSw); go_simp; (try with_reducible rfl))
                  go_simp
                  refine wpAnyH_take (i := 2) (v := ?vf2) rfl (by kernel_rfl) (by kernel_rfl) (by kernel_rfl) (fun _ _ _ h => h) (Or.inl ⟨by kernel_rfl, ?hyf2⟩) (by assumption) ?restf2
                  case hyf2 => (intro w hSw; (try dsimp only at hSw); go_simp; (try with_reducible rfl))
                  go_simp
                  refine wpAnyH_take (i := 3) (v := ?vf3) rfl (by kernel_rfl) (by kernel_rfl) (by kernel_rfl) (fun _ _ _ h => h) (Or.inl ⟨by kernel_rfl, ?hyf3⟩) (by assumption) ?restf3
                  case hyf3 => (intro w hSw; (try dsimp only at hSw); go_simp; (try with_reducible rfl))
                  go_simp
                  refine wpAnyH_take (i := 4) (v := ?vf4) rfl (by kernel_rfl) (by kernel_rfl) (by kernel_rfl) (fun _ _ _ h => h) (Or.inl ⟨by kernel_rfl, ?hyf4⟩) (by assumption) ?restf4
                  case hyf4 => (intro w hSw; (try dsimp only at hSw); go_simp; (try with_reducible rfl))
                  go_simp
                  refine wpAnyH_take (i := 5) (v := ?vf5) rfl (by kernel_rfl) (by kernel_rfl) (by kernel_rfl) (fun _ _ _ h => h) (Or.inl ⟨by kernel_rfl, ?hyf5⟩) (by assumption) ?restf5
                  case hyf5 => (intro w hSw; (try dsimp only at hSw); go_simp; (try with_reducible rfl))
                  go_simp
                  refine wpAnyH_take (i := 6) (v := ?vf6) rfl (by kernel_rfl) (by kernel_rfl) (by kernel_rfl) (fun _ _ _ h => h) (Or.inl ⟨by kernel_rfl, ?hyf6⟩) (by assumption) ?restf6
                  case hyf6 => (intro w hSw; (try dsimp only at hSw); go_simp; (try with_reducible rfl))
                  go_simp
                  refine wpAnyH_take (i := 7) (v := ?vf7) rfl (by kernel_rfl) (by kernel_rfl) (by kernel_rfl) (fun _ _ _ h => h) (Or.inl ⟨by kernel_rfl, ?hyf7⟩) (by assumption) ?restf7
                  case hyf7 => (intro w hSw; (try dsimp only at hSw); go_simp; (try with_reducible rfl))
                  go_simp
                  refine wpAnyH_take (i := 8) (v := ?vf8) rfl (by kernel_rfl) (by kernel_rfl) (by kernel_rfl) (fun _ _ _ h => h) (Or.inl ⟨by kernel_rfl, ?hyf8⟩) (by assumption) ?restf8
                  case hyf8 => (intro w hSw; (try dsimp only at hSw); go_simp; (try with_reducible rfl))
                  go_simp
                  refine wpAnyH_take (i := 9) (v := ?vf9) rfl (by kernel_rfl) (by kernel_rfl) (by kernel_rfl) (fun _ _ _ h => h) (Or.inl ⟨by kernel_rfl, ?hyf9⟩) (by assumption) ?restf9
                  case hyf9 => (intro w hSw; (try dsimp only at hSw); go_simp; (try with_reducible rfl))
                  go_simp
                  refine wpAnyH_take (i := 10) (v := ?vf10) rfl (by kernel_rfl) (by kernel_rfl) (by kernel_rfl) (fun _ _ _ h => h) (Or.inl ⟨by kernel_rfl, ?hyf10⟩) (by assumption) ?restf10
                  case hyf10 => (intro w hSw; (try dsimp only at hSw); go_simp; (try with_reducible rfl))
                  go_simp
                  refine wpAnyH_take (i := 11) (v := ?vf11) rfl (by kernel_rfl) (by kernel_rfl) (by kernel_rfl) (fun _ _ _ h => h) (Or.inl ⟨by kernel_rfl, ?hyf11⟩) (by assumption) ?restf11
                  case hyf11 => (intro w hSw; (try dsimp only at hSw); go_simp; (try with_reducible rfl))
                  go_simp
                  refine wpAnyH_take (i := 12) (v := ?vf12) rfl (by kernel_rfl) (by kernel_rfl) (by kernel_rfl) (fun _ _ _ h => h) (Or.inl ⟨by kernel_rfl, ?hyf12⟩) (by assumption) ?restf12
                  case hyf12 => (intro w hSw; (try dsimp only at hSw); go_simp; (try with_reducible rfl))
                  go_simp
                  refine wpAnyH_take (i := 13) (v := ?vf13) rfl (by kernel_rfl) (by kernel_rfl) (by kernel_rfl) (fun _ _ _ h => h) (Or.inl ⟨by kernel_rfl, ?hyf13⟩) (by assumption) ?restf13
                  case hyf13 => (intro w hSw; (try dsimp only at hSw); go_simp; (try with_reducible rfl))
                  go_simp
                  refine wpAnyH_take (i := 14) (v := ?vf14) rfl (by kernel_rfl) (by kernel_rfl) (by kernel_rfl) (fun _ _ _ h => h) (Or.inl ⟨by kernel_rfl, ?hyf14⟩) (by assumption) ?restf14
                  case hyf14 => (intro w hSw; (try dsimp only at hSw); go_simp; (try with_reducible rfl))
                  go_simp
                  refine wpAnyH_take (i := 15) (v := ?vf15) rfl (by kernel_rfl) (by kernel_rfl) (by kernel_rfl) (fun _ _ _ h => h) (Or.inl ⟨by kernel_rfl, ?hyf15⟩) (by assumption) ?restf15
                  case hyf15 => (intro w hSw; (try dsimp only at hSw); go_simp; (try with_reducible rfl))
                  go_simp
                  refine wpAnyH_take (i := 16) (v := ?vf16) rfl (by kernel_rfl) (by kernel_rfl) (by kernel_rfl) (fun _ _ _ h => h) (Or.inl ⟨by kernel_rfl, ?hyf16⟩) (by assumption) ?restf16
                  case hyf16 => (intro w hSw; (try dsimp only at hSw); go_simp; (try with_reducible rfl))
                  go_simp
                  refine wpAnyH_take (i := 17) (v := ?vf17) rfl (by kernel_rfl) (by kernel_rfl) (by kernel_rfl) (fun _ _ _ h => h) (Or.inl ⟨by kernel_rfl, ?hyf17⟩) (by assumption) ?restf17
                  case hyf17 => (intro w hSw; (try dsimp only at hSw); go_simp; (try with_reducible rfl))
                  go_simp
                  refine wpAnyH_take (i := 18) (v := ?vf18) rfl (by kernel_rfl) (by kernel_rfl) (by kernel_rfl) (fun _ _ _ h => h) (Or.inl ⟨by kernel_rfl, ?hyf18⟩) (by assumption) ?restf18
                  case hyf18 => (intro w hSw; (try dsimp only at hSw); go_simp; (try with_reducible rfl))
                  go_simp
                  refine wpAnyH_take (i := 19) (v := ?vf19) rfl (by kernel_rfl) (by kernel_rfl) (by kernel_rfl) (fun _ _ _ h => h) (Or.inl ⟨by kernel_rfl, ?hyf19⟩) (by assumption) ?restf19
                  case hyf19 => (intro w hSw; (try dsimp only at hSw); go_simp; (try with_reducible rfl))
                  go_simp
                  refine wpAnyH_take (i := 20) (v := ?vf20) rfl (by kernel_rfl) (by kernel_rfl) (by kernel_rfl) (fun _ _ _ h => h) (Or.inl ⟨by kernel_rfl, ?hyf20⟩) (by assumption) ?restf20
                  case hyf20 => (intro w hSw; (try dsimp only at hSw); go_simp; (try with_reducible rfl))
                  go_simp
                  refine wpAnyH_done (by kernel_rfl) ?_ _
                  refine NoPanic.normal ?_
                  go_upto_region 23 with fail
                  have xg := xg.drew.drew
                  have mg := mg.drew.drew
                  go_region_with (first
                    | (go_at_call 17; (with_reducible refine (OC.out _).mono ?_); rintro e w60 ⟨v7, rfl, m7, b60⟩; have xg := xg.drew.later b60; have kg := xg.cells; have lg := xg.lt; have fg := xg.free; have mg := mg.drew.below b60 (Nat.le_refl _); have b60 := below_undrew (below_undrew (below_undrew b60)); obtain ⟨t7, A7, n7, c7, rfl⟩ := m7.form2)
                    | (go_at_call 19; (with_reducible refine (PL.out _ _ _ _ _ mg m7).mono ?_); rintro e w61 ⟨v8, rfl, m8, b61⟩; have xg := xg.later b61; have kg := xg.cells; have lg := xg.lt; have fg := xg.free; obtain ⟨t8, A8, n8, c8, rfl⟩ := m8.form2))
                  all_goals
                    have s60 := b60.size
                    have CZ := CZ.trans ((b60.trans (b61.mono b60.size)).mono CZ.size)
                    have mg := ((m8.mono (S' := fun b => b ≠ W6.heap.size) (L' := 19 + i * 200 + (k + 1)) (fun b _ h => by have h' : w60.heap.size ≤ b := h; show b ≠ W6.heap.size; omega) (by omega)).setCell (g := W6.heap.size) (i := 0) (by simp) (.bool t8)).setCell (g := W6.heap.size) (i := 1) (by simp) (.slice A8 n8 c8)
                    rw [← HE.out] at mg
                    have CZ := (CZ.setCell (p := ⟨W6.heap.size, 0, none⟩) (Nat.le_refl _) (.bool t8)).setCell (p := ⟨W6.heap.size, 1, none⟩) (Nat.le_refl _) (.slice A8 n8 c8)
                    have kb := (xb.later CZ).cells
                    have lb := (xb.later CZ).lt
                    have xg : Box ((w61.setCell ⟨W6.heap.size, 0, none⟩ (.bool t8)).setCell ⟨W6.heap.size, 1, none⟩ (.slice A8 n8 c8)) W6.heap.size 52 #[.bool t8, .slice A8 n8 c8] := by simpa using (xg.set 0 (.bool t8)).set 1 (.slice A8 n8 c8)
                    clear kg fg lg m8 m7 b60 b61 OC PL
                    go_wp2
                    go_roundw
                    case rel => exact ⟨k + 1, t8, A8, n8, c8, by omega, by go_num, xg, mg, CZ⟩
                    case measure => simp [intOf]; omega
                · rw [decide_eq_false he] at CE
                  have h1 := ht.2 he
                  rw [← h1] at mg
                  clear ht he h1
                  go_upto_region 20 with fail
                  refine wp_region_noPanic ?_
                  refine wp_region_held_drew (S := (fun w' => w'.cell? ⟨w.heap.size, 2, none⟩ = some (.slice A1 r.plus.length c1))) (by kernel_rfl) ?_ (fun hHeld => ?_)
                  · go_keep
                  refine wpAnyH_take (i := 0) (v := ?vg0) rfl (by kernel_rfl) (by kernel_rfl) (by kernel_rfl) (fun _ _ _ h => h) (Or.inl ⟨by kernel_rfl, ?hyg0⟩) (by assumption) ?restg0
                  case hyg0 => (intro w hSw; (try dsimp only at hSw); go_simp; (try with_reducible rfl))
                  go_simp
                  refine wpAnyH_take (i := 1) (v := ?vg1) rfl (by kernel_rfl) (by kernel_rfl) (by kernel_rfl) (fun _ _ _ h => h) (Or.inl ⟨by kernel_rfl, ?hyg1⟩) (by assumption) ?restg1
                  case hyg1 => (intro w hSw; (try dsimp only at hSw); go_simp; (try with_reducible rfl))
                  go_simp
                  refine wpAnyH_take (i := 2) (v := ?vg2) rfl (by kernel_rfl) (by kernel_rfl) (by kernel_rfl) (fun _ _ _ h => h) (Or.inl ⟨by kernel_rfl, ?hyg2⟩) (by assumption) ?restg2
                  case hyg2 => (intro w hSw; (try dsimp only at hSw); go_simp; (try with_reducible rfl))
                  go_simp
                  refine wpAnyH_take (i := 3) (v := ?vg3) rfl (by kernel_rfl) (by kernel_rfl) (by kernel_rfl) (fun _ _ _ h => h) (Or.inl ⟨by kernel_rfl, ?hyg3⟩) (by assumption) ?restg3
                  case hyg3 => (intro w hSw; (try dsimp only at hSw); go_simp; (try with_reducible rfl))
                  go_simp
                  refine wpAnyH_take (i := 4) (v := ?vg4) rfl (by kernel_rfl) (by kernel_rfl) (by kernel_rfl) (fun _ _ _ h => h) (Or.inl ⟨by kernel_rfl, ?hyg4⟩) (by assumption) ?restg4
                  case hyg4 => (intro w hSw; (try dsimp only at hSw); go_simp; (try with_reducible rfl))
                  go_simp
                  refine wpAnyH_take (i := 5) (v := ?vg5) rfl (by kernel_rfl) (by kernel_rfl) (by kernel_rfl) (fun _ _ _ h => h) (Or.inl ⟨by kernel_rfl, ?hyg5⟩) (by assumption) ?restg5
                  case hyg5 => (intro w hSw; (try dsimp only at hSw); go_simp; (try with_reducible rfl))
                  go_simp
                  refine wpAnyH_take (i := 6) (v := undef) rfl (by kernel_rfl) (by kernel_rfl) (by kernel_rfl) (fun _ _ _ h => h) (Or.inr ⟨by kernel_rfl, rfl⟩) (by assumption) ?_
                  go_simp
                  refine wpAnyH_take (i := 7) (v := undef) rfl (by kernel_rfl) (by kernel_rfl) (by kernel_rfl) (fun _ _ _ h => h) (Or.inr ⟨by kernel_rfl, rfl⟩) (by assumption) ?_
                  go_simp
                  refine wpAnyH_take (i := 8) (v := undef) rfl (by kernel_rfl) (by kernel_rfl) (by kernel_rfl) (fun _ _ _ h => h) (Or.inr ⟨by kernel_rfl, rfl⟩) (by assumption) ?_
                  go_simp
                  refine wpAnyH_take (i := 9) (v := undef) rfl (by kernel_rfl) (by kernel_rfl) (by kernel_rfl) (fun _ _ _ h => h) (Or.inr ⟨by kernel_rfl, rfl⟩) (by assumption) ?_
                  go_simp
                  refine wpAnyH_take (i := 10) (v := undef) rfl (by kernel_rfl) (by kernel_rfl) (by kernel_rfl) (fun _ _ _ h => h) (Or.inr ⟨by kernel_rfl, rfl⟩) (by assumption) ?_
                  go_simp
                  refine wpAnyH_take (i := 11) (v := undef) rfl (by kernel_rfl) (by kernel_rfl) (by kernel_rfl) (fun _ _ _ h => h) (Or.inr ⟨by kernel_rfl, rfl⟩) (by assumption) ?_
                  go_simp
                  refine wpAnyH_take (i := 12) (v := undef) rfl (by kernel_rfl) (by kernel_rfl) (by kernel_rfl) (fun _ _ _ h => h) (Or.inr ⟨by kernel_rfl, rfl⟩) (by assumption) ?_
                  go_simp
                  refine wpAnyH_take (i := 13) (v := undef) rfl (by kernel_rfl) (by kernel_rfl) (by kernel_rfl) (fun _ _ _ h => h) (Or.inr ⟨by kernel_rfl, rfl⟩) (by assumption) ?_
                  go_simp
                  refine wpAnyH_take (i := 14) (v := undef) rfl (by kernel_rfl) (by kernel_rfl) (by kernel_rfl) (fun _ _ _ h => h) (Or.inr ⟨by kernel_rfl, rfl⟩) (by assumption) ?_
                  go_simp
                  refine wpAnyH_take (i := 15) (v := undef) rfl (by kernel_rfl) (by kernel_rfl) (by kernel_rfl) (fun _ _ _ h => h) (Or.inr ⟨by kernel_rfl, rfl⟩) (by assumption) ?_
                  go_simp
                  refine wpAnyH_take (i := 16) (v := ?vg16) rfl (by kernel_rfl) (by kernel_rfl) (by kernel_rfl) (fun _ _ _ h => h) (Or.inl ⟨by kernel_rfl, ?hyg16⟩) (by assumption) ?restg16
                  case hyg16 => (intro w hSw; (try dsimp only at hSw); go_simp; (try with_reducible rfl))
                  go_simp
                  refine wpAnyH_done (by kernel_rfl) ?_ _
                  refine NoPanic.normal ?_
                  go_upto_region 22 with fail
                  refine wp_region_noPanic ?_
                  refine wp_region_held_drew (S := (fun w' => w'.cell? ⟨w.heap.size, 2, none⟩ = some (.slice A1 r.plus.length c1) ∧ w'.cell? ⟨w.heap.size, 3, none⟩ = some (.slice (some ⟨b1, o1, none⟩) r.minus.length c2) ∧ w'.cell? ⟨b2, o2 + k * 6, none⟩ = some (.int .i64 y1) ∧ w'.cell? ⟨b2, o2 + k * 6 + 1, none⟩ = some (.int .i64 y2) ∧ w'.cell? ⟨b2, o2 + k * 6 + 2, none⟩ = some (.int .i64 y3) ∧ w'.cell? ⟨b2, o2 + k * 6 + 3, none⟩ = some (.int .i64 y4) ∧ w'.cell? ⟨b2, o2 + k * 6 + 4, none⟩ = some (.int .i64 y5) ∧ w'.cell? ⟨b2, o2 + k * 6 + 5, none⟩ = some (.int .i64 y6) ∧ w'.cell? ⟨b1, o1 + j * 6, none⟩ = some (.int .i64 x1) ∧ w'.cell? ⟨b1, o1 + j * 6 + 1, none⟩ = some (.int .i64 x2) ∧ w'.cell? ⟨b1, o1 + j * 6 + 2, none⟩ = some (.int .i64 x3) ∧ w'.cell? ⟨b1, o1 + j * 6 + 3, none⟩ = some (.int .i64 x4) ∧ w'.cell? ⟨b1, o1 + j * 6 + 4, none⟩ = some (.int .i64 x5) ∧ w'.cell? ⟨b1, o1 + j * 6 + 5, none⟩ = some (.int .i64 x6))) (by kernel_rfl) ?_ (fun hHeld => ?_)
                  · go_keep
                  refine wpAnyH_take (i := 0) (v := ?vh0) rfl (by kernel_rfl) (by kernel_rfl) (by kernel_rfl) (fun _ _ _ h => h) (Or.inl ⟨by kernel_rfl, ?hyh0⟩) (by assumption) ?resth0
                  case hyh0 => (intro w hSw; (try dsimp only at hSw); go_simp; (try with_reducible rfl))
                  go_simp
                  refine wpAnyH_take (i := 1) (v := ?vh1) rfl (by kernel_rfl) (by kernel_rfl) (by kernel_rfl) (fun _ _ _ h => h) (Or.inl ⟨by kernel_rfl, ?hyh1⟩) (by assumption) ?resth1
                  case hyh1 => (intro w hSw; (try dsimp only at hSw); go_simp; (try with_reducible rfl))
                  go_simp
                  refine wpAnyH_take (i := 2) (v := ?vh2) rfl (by kernel_rfl) (by kernel_rfl) (by kernel_rfl) (fun _ _ _ h => h) (Or.inl ⟨by kernel_rfl, ?hyh2⟩) (by assumption) ?resth2
                  case hyh2 => (intro w hSw; (try dsimp only at hSw); go_simp; (try with_reducible rfl))
                  go_simp
                  refine wpAnyH_take (i := 3) (v := ?vh3) rfl (by kernel_rfl) (by kernel_rfl) (by kernel_rfl) (fun _ _ _ h => h) (Or.inl ⟨by kernel_rfl, ?hyh3⟩) (by assumption) ?resth3
                  case hyh3 => (intro w hSw; (try dsimp only at hSw); go_simp; (try with_reducible rfl))
                  go_simp
                  refine wpAnyH_take (i := 4) (v := ?vh4) rfl (by kernel_rfl) (by kernel_rfl) (by kernel_rfl) (fun _ _ _ h => h) (Or.inl ⟨by kernel_rfl, ?hyh4⟩) (by assumption) ?resth4
                  case hyh4 => (intro w hSw; (try dsimp only at hSw); go_simp; (try with_reducible rfl))
                  go_simp
                  refine wpAnyH_take (i := 5) (v := ?vh5) rfl (by kernel_rfl) (by kernel_rfl) (by kernel_rfl) (fun _ _ _ h => h) (Or.inl ⟨by kernel_rfl, ?hyh5⟩) (by assumption) ?resth5
                  case hyh5 => (intro w hSw; (try dsimp only at hSw); go_simp; (try with_reducible rfl))
                  go_simp
                  refine wpAnyH_take (i := 6) (v := ?vh6) rfl (by kernel_rfl) (by kernel_rfl) (by kernel_rfl) (fun _ _ _ h => h) (Or.inl ⟨by kernel_rfl, ?hyh6⟩) (by assumption) ?resth6
                  case hyh6 => (intro w hSw; (try dsimp only at hSw); go_simp; (try with_reducible rfl))
                  go_simp
                  refine wpAnyH_take (i := 7) (v := ?vh7) rfl (by kernel_rfl) (by kernel_rfl) (by kernel_rfl) (fun _ _ _ h => h) (Or.inl ⟨by kernel_rfl, ?hyh7⟩) (by assumption) ?resth7
                  case hyh7 => (intro w hSw; (try dsimp only at hSw); go_simp; (try with_reducible rfl))
                  go_simp
                  refine wpAnyH_take (i := 8) (v := ?vh8) rfl (by kernel_rfl) (by kernel_rfl) (by kernel_rfl) (fun _ _ _ h => h) (Or.inl ⟨by kernel_rfl, ?hyh8⟩) (by assumption) ?resth8
                  case hyh8 => (intro w hSw; (try dsimp only at hSw); go_simp; (try with_reducible rfl))
                  go_simp
                  refine wpAnyH_take (i := 9) (v := ?vh9) rfl (by kernel_rfl) (by kernel_rfl) (by kernel_rfl) (fun _ _ _ h => h) (Or.inl ⟨by kernel_rfl, ?hyh9⟩) (by assumption) ?resth9
                  case hyh9 => (intro w hSw; (try dsimp only at hSw); go_simp; (try with_reducible rfl))
                  go_simp
                  refine wpAnyH_take (i := 10) (v := ?vh10) rfl (by kernel_rfl) (by kernel_rfl) (by kernel_rfl) (fun _ _ _ h => h) (Or.inl ⟨by kernel_rfl, ?hyh10⟩) (by assumption) ?resth10
                  case hyh10 => (intro w hSw; (try dsimp only at hSw); go_simp; (try with_reducible rfl))
                  go_simp
                  refine wpAnyH_take (i := 11) (v := ?vh11) rfl (by kernel_rfl) (by kernel_rfl) (by kernel_rfl) (fun _ _ _ h => h) (Or.inl ⟨by kernel_rfl, ?hyh11⟩) (by assumption) ?resth11
                  case hyh11 => (intro w hSw; (try dsimp only at hSw); go_simp; (try with_reducible rfl))
                  go_simp
                  refine wpAnyH_take (i := 12) (v := ?vh12) rfl (by kernel_rfl) (by kernel_rfl) (by kernel_rfl) (fun _ _ _ h => h) (Or.inl ⟨by kernel_rfl, ?hyh12⟩) (by assumption) ?resth12
                  case hyh12 => (intro w hSw; (try dsimp only at hSw); go_simp; (try with_reducible rfl))
                  go_simp
                  refine wpAnyH_take (i := 13) (v := ?vh13) rfl (by kernel_rfl) (by kernel_rfl) (by kernel_rfl) (fun _ _ _ h => h) (Or.inl ⟨by kernel_rfl, ?hyh13⟩) (by assumption) ?resth13
                  case hyh13 => (intro w hSw; (try dsimp only at hSw); go_simp; (try with_reducible rfl))
                  go_simp
                  refine wpAnyH_take (i := 14) (v := ?vh14) rfl (by kernel_rfl) (by kernel_rfl) (by kernel_rfl) (fun _ _ _ h => h) (Or.inl ⟨by kernel_rfl, ?hyh14⟩) (by assumption) ?resth14
                  case hyh14 => (intro w hSw; (try dsimp only at hSw); go_simp; (try with_reducible rfl))
                  go_simp
                  refine wpAnyH_take (i := 15) (v := ?vh15) rfl (by kernel_rfl) (by kernel_rfl) (by kernel_rfl) (fun _ _ _ h => h) (Or.inl ⟨by kernel_rfl, ?hyh15⟩) (by assumption) ?resth15
                  case hyh15 => (intro w hSw; (try dsimp only at hSw); go_simp; (try with_reducible rfl))
                  go_simp
                  refine wpAnyH_take (i := 16) (v := ?vh16) rfl (by kernel_rfl) (by kernel_rfl) (by kernel_rfl) (fun _ _ _ h => h) (Or.inl ⟨by kernel_rfl, ?hyh16⟩) (by assumption) ?resth16
                  case hyh16 => (intro w hSw; (try dsimp only at hSw); go_simp; (try with_reducible rfl))
                  go_simp
                  refine wpAnyH_take (i := 17) (v := ?vh17) rfl (by kernel_rfl) (by kernel_rfl) (by kernel_rfl) (fun _ _ _ h => h) (Or.inl ⟨by kernel_rfl, ?hyh17⟩) (by assumption) ?resth17
                  case hyh17 => (intro w hSw; (try dsimp only at hSw); go_simp; (try with_reducible rfl))
                  go_simp
                  refine wpAnyH_take (i := 18) (v := ?vh18) rfl (by kernel_rfl) (by kernel_rfl) (by kernel_rfl) (fun _ _ _ h => h) (Or.inl ⟨by kernel_rfl, ?hyh18⟩) (by assumption) ?resth18
                  case hyh18 => (intro w hSw; (try dsimp only at hSw); go_simp; (try with_reducible rfl))
                  go_simp
                  refine wpAnyH_take (i := 19) (v := ?vh19) rfl (by kernel_rfl) (by kernel_rfl) (by kernel_rfl) (fun _ _ _ h => h) (Or.inl ⟨by kernel_rfl, ?hyh19⟩) (by assumption) ?resth19
                  case hyh19 => (intro w hSw; (try dsimp only at hSw); go_simp; (try with_reducible rfl))
                  go_simp
                  refine wpAnyH_take (i := 20) (v := ?vh20) rfl (by kernel_rfl) (by kernel_rfl) (by kernel_rfl) (fun _ _ _ h => h) (Or.inl ⟨by kernel_rfl, ?hyh20⟩) (by assumption) ?resth20
                  case hyh20 => (intro w hSw; (try dsimp only at hSw); go_simp; (try with_reducible rfl))
                  go_simp
                  refine wpAnyH_done (by kernel_rfl) ?_ _
                  refine NoPanic.normal ?_
                  go_wp2
                  go_roundw
                  case rel => exact ⟨k + 1, t3, A3, n3, c3, by omega, by go_num, xg, mg.mono (fun _ _ h => h) (by omega), below_drewN CZ 2⟩
                  case measure => simp [intOf]; omega
              · obtain rfl : k = L.length := by omega
                rw [List.take_length, show ns.take L.length = ns by rw [hne.out, List.take_length], ← hst.out] at mg
                clear hk hkl kb lb
                go_wp2
                go_roundw
                case rel => exact ⟨i + 1, t3, A3, n3, c3, by omega, by go_num, xg, mg.mono (fun _ _ h => h) (by omega), CZ⟩
                case measure => simp [intOf]; omega
        · have hie : Hid (i = r.plus.length + r.minus.length) := by show _ = _; omega
          have hini : ¬ (i : Int) < (r.plus.length : Int) + (r.minus.length : Int) := by omega
          have hini2 : (r.plus.length : Int) + (r.minus.length : Int) ≤ (i : Int) := by omega
          have hL1 : 19 + i * 200 ≤ 100000 := by omega
          clear hi9 hin
          have hfin := evalR_sums (r := ⟨⟨r.base.n, 0⟩, r.plus, r.minus, r.sc, false, r.num, r.den, r.has⟩) (ns := ns) rfl rfl (by rw [← hL.out]; exact hne.out)
          rw [← hL.out] at hfin
          dsimp only at hfin
          rw [← hie.out] at hfin
          have oi2 : ∀ v ∈ vsI ns, OkV v := fun v hv => by
            obtain ⟨x, hx, rfl⟩ := List.mem_map.1 hv
            exact oi x hx
          have EV := fun W (cb : Below W6.heap.size W6 W) => eval_any (c1 := c1) (c2 := c2) (c3 := c') wfr os.base oi2 (rplus.later cb) (rminus.later cb) (RV.later cb)
          rw [hfin, vsI_len] at EV
          dsimp only at EV
          unfold vv at EV
          generalize totI r.base.n r.plus r.minus (nv L ns) i = T at *
          have kg := xg.cells
          have lg := xg.lt
          clear hfin oi2
          by_cases hlt : T < leastI
          · have ht : toldV (toldI T).1 (toldI T).2 = ⟨0, 10⟩ := by unfold toldI; rw [if_neg (by omega)]; rfl
            rw [ht] at EV
            replace EV := Lib.hid EV
            have IN := Lib.hid fun (w : World) S v L (h : BigIs S w v T L) (hL : L ≤ 100000) => int_less h hL hlt
            have VE := fun w => veq 0 10 0 10 w
            rw [decide_eq_true rfl] at VE
            clear ht hlt
            go_wp2_with fail
            refine (IN.out _ _ _ _ mg (by omega)).mono ?_
            rintro e w70 ⟨rfl, b70⟩
            have CB := cb.trans (b70.mono cb.size)
            have kb := (xb.later CB).cells
            have lb := (xb.later CB).lt
            clear kg lg IN mg xg b70
            go_wp2_with fail
            refine (OA.out _).mono ?_
            rintro e w71 ⟨rfl, b71⟩
            have CB := CB.trans (b71.mono CB.size)
            clear b71
            go_wp2_with fail
            refine (EV.out _ CB).mono ?_
            rintro e w72 ⟨rfl, b72⟩
            have CB := CB.trans (b72.mono CB.size)
            have HB := (hB.trans (CB.mono hB.size)).alloc (hB.trans (CB.mono hB.size)).size (.cells #[.int .i64 0, .int .i64 10] 24)
            have kv := (Box.new w72 24 #[.int .i64 0, .int .i64 10]).cells
            clear b72 kb lb
            go_wp2_with fail
            refine (AWA.out _).mono ?_
            rintro e w9 ⟨rfl, b9⟩
            replace HB := HB.trans (b9.mono HB.size)
            go_wp2
            go_ret
            exact ⟨rfl, HB⟩
          · by_cases hgt : mostI < T
            · have ht : toldV (toldI T).1 (toldI T).2 = ⟨0, 10⟩ := by unfold toldI; rw [if_neg (by omega)]; rfl
              rw [ht] at EV
              replace EV := Lib.hid EV
              have IN := Lib.hid fun (w : World) S v L (h : BigIs S w v T L) (hL : L ≤ 100000) => int_more h hL hgt
              have VE := fun w => veq 0 10 0 10 w
              rw [decide_eq_true rfl] at VE
              clear ht hlt
              go_wp2_with fail
              refine (IN.out _ _ _ _ mg (by omega)).mono ?_
              rintro e w70 ⟨rfl, b70⟩
              have CB := cb.trans (b70.mono cb.size)
              have kb := (xb.later CB).cells
              have lb := (xb.later CB).lt
              clear kg lg IN mg xg b70
              go_wp2_with fail
              refine (OA.out _).mono ?_
              rintro e w71 ⟨rfl, b71⟩
              have CB := CB.trans (b71.mono CB.size)
              clear b71
              go_wp2_with fail
              refine (EV.out _ CB).mono ?_
              rintro e w72 ⟨rfl, b72⟩
              have CB := CB.trans (b72.mono CB.size)
              have HB := (hB.trans (CB.mono hB.size)).alloc (hB.trans (CB.mono hB.size)).size (.cells #[.int .i64 0, .int .i64 10] 24)
              have kv := (Box.new w72 24 #[.int .i64 0, .int .i64 10]).cells
              clear b72 kb lb
              go_wp2_with fail
              refine (AWA.out _).mono ?_
              rintro e w9 ⟨rfl, b9⟩
              replace HB := HB.trans (b9.mono HB.size)
              go_wp2
              go_ret
              exact ⟨rfl, HB⟩
            · have ht : toldV (toldI T).1 (toldI T).2 = ⟨T, 0⟩ := by unfold toldI; rw [if_pos ⟨by omega, by omega⟩]; rfl
              rw [ht] at EV
              replace EV := Lib.hid EV
              have IN := Lib.hid fun (w : World) S v L (h : BigIs S w v T L) (hL : L ≤ 100000) => int_in h hL (by omega) (by omega)
              have VE := fun w => veq T 0 T 0 w
              rw [decide_eq_true rfl] at VE
              clear ht hlt
              go_wp2_with fail
              refine (IN.out _ _ _ _ mg (by omega)).mono ?_
              rintro e w70 ⟨rfl, b70⟩
              have CB := cb.trans (b70.mono cb.size)
              have kb := (xb.later CB).cells
              have lb := (xb.later CB).lt
              clear kg lg IN mg xg b70
              go_wp2_with fail
              refine (OA.out _).mono ?_
              rintro e w71 ⟨rfl, b71⟩
              have CB := CB.trans (b71.mono CB.size)
              clear b71
              go_wp2_with fail
              refine (EV.out _ CB).mono ?_
              rintro e w72 ⟨rfl, b72⟩
              have CB := CB.trans (b72.mono CB.size)
              have HB := (hB.trans (CB.mono hB.size)).alloc (hB.trans (CB.mono hB.size)).size (.cells #[.int .i64 T, .int .i64 0] 24)
              have kv := (Box.new w72 24 #[.int .i64 T, .int .i64 0]).cells
              clear b72 kb lb
              go_wp2_with fail
              refine (AWA.out _).mono ?_
              rintro e w9 ⟨rfl, b9⟩
              replace HB := HB.trans (b9.mono HB.size)
              go_wp2
              go_ret
              exact ⟨rfl, HB⟩
end
end Go.Proofs.Ytioecjoddgpjbaa
/-
  'RecipeSums': whatever the arguments are, the Go function returns true and leaves its arguments as they were; no further condition. The row's proof: the arguments are opened, the walk is applied, and the reading of the arguments is carried over.
-/
namespace Go.Proofs.Ytioecjoddgpjbaa.recipeSums
open Go.ChangeShapes Go.WideShapes Go.ChangeAt Go.RowKit

theorem own : ownKnob Try.prog.godebug = none := by kernel_rfl
theorem laidOut : laidOutB Try.prog = true := by kernel_rfl

set_option maxRecDepth 100000 in
theorem lifted (os : Os) (started : os.Started) (H : Type) (enc : TypeId × Value → H) :
    ReturnsInHanded {} Try.checked os 5 .any (Rows.recipeSumsSpec.pre6 enc Try.prog Try.f5 Rows.recipeSumsRow.domain false) (Rows.recipeSumsSpec.post enc Try.prog Try.f5 false true false false) := by
  refine returnsInHanded_of_change (C := Try.checked) own started (by kernel_rfl) Try.func5
    (ChangeSpec.witness6 (enc := enc) (C := Try.checked) false ⟨#[], #[.agg #[.int .i64 0, .int .i64 0, .slice none 0 0, .slice none 0 0, .int .i64 0, .int .i64 0, .int .i64 0, .int .i64 0, .int .i64 0, .int .i64 0, .bool false, .int .i64 0, .int .i64 0, .bool false], .slice none 0 0], []⟩ 8 (by kernel_rfl) (by kernel_rfl) (by kernel_rfl) (by kernel_rfl)) ?_
  intro W base args ds gs before hval0 hW hcnd _
  have hval : ∀ (j : Nat) t v, Try.f5.params[j]? = some t → args[j]? = some v → Value.okWide Try.prog W .any base t v := hval0
  have hW' := hW
  obtain ⟨p, q, hA0, hV, rfl, hfz, hnd⟩ := hW
  have hA : DataW.TrodAll enc Try.prog W 0 (fun _ => true) true Try.f5.params.toList args.toList ds p := hA0
  rw [Try.params5] at hA hval
  obtain ⟨v0, vs0, d0, ds0, p0, q0, hargs, rfl, rfl, h0, r0'⟩ := trodAll_cons hA
  obtain ⟨v1, vs1, d1, ds1, p1, q1, rfl, rfl, rfl, h1, r1'⟩ := trodAll_cons r0'
  obtain ⟨rfl, rfl, rfl⟩ := trodAll_nil r1'
  obtain rfl : args = #[v0, v1] := by cases args; simp_all
  obtain ⟨rfl, rfl⟩ := trodVars_none hV
  have k0 := h0
  have lt0 : ∀ x ∈ p0, x.block < W.heap.size := by obtain ⟨m, hm⟩ := k0; exact DataW.trod_lt m _ _ _ hm
  have k1 := h1
  have lt1 : ∀ x ∈ p1, x.block < W.heap.size := by obtain ⟨m, hm⟩ := k1; exact DataW.trod_lt m _ _ _ hm
  obtain ⟨a0, A0, B0, c0, d0, rfl, r0, s0, o0⟩ := open_rcp (hval 0 31 v0 rfl rfl) h0
  obtain ⟨A1, c1, x1, rfl, l1, m1, r1, b1⟩ := open_ints_arg Try.underlying50 Try.underlying3 (by kernel_rfl) (hval 1 50 v1 rfl rfl) h1
  clear hA0 hval0
  refine (recipeSums_law o0 b1 (Nat.le_trans l1 m1) r0 s0 r1).mono fun e W' ⟨he, bel⟩ => ?_
  subst he
  exact ⟨_, rfl, _, _, _, [], _, [], hW', trodAll_mk1 (shut_bool Try.underlying4 _), (trodAll_cons_mk (Below.trod laidOut (by kernel_rfl) (of_decide_eq_true (by kernel_rfl)) k0 bel lt0) (trodAll_cons_mk (Below.trod laidOut (by kernel_rfl) (of_decide_eq_true (by kernel_rfl)) k1 bel lt1) trodAll_mk0)), rfl, bel.frame _, fun h => by cases h⟩

theorem proved : Rows.RecipeSumsSaid :=
  OpenClaim.holds_of_wide 5 Try.f5 rfl rfl rfl rfl rfl rfl rfl ⟨rfl, rfl, rfl, rfl, rfl⟩ rfl rfl rfl rfl rfl (by kernel_rfl) Try.func5 (by kernel_rfl)
    (of_decide_eq_true (by kernel_rfl)) (by unfold Func.isWrapper; first | (rw [if_pos (by decide +kernel)]; kernel_rfl) | (rw [if_neg (by decide +kernel)]; exact ⟨rfl, rfl⟩))
    (fun os started H enc _ => lifted os started H enc)
#print axioms proved
end Go.Proofs.Ytioecjoddgpjbaa.recipeSums
