/-
  forest: Meet.
-/
import Derived.Test.YtkdpiikfiodopaaDoorJf
import Derived.Test.YtkdpiikfiodopaaDoorSh2
namespace Go.Proofs.YtkdpiikfiodopaaDoor
open Go.RowKit

theorem find_first (p : Int → Bool) (l : List Int) : (∃ h : firstOf p l < l.length, l.find? p = some l[firstOf p l]) ∨ (firstOf p l = l.length ∧ l.find? p = none) := by
  induction l with
  | nil => exact .inr ⟨rfl, rfl⟩
  | cons c r ih =>
    rw [List.find?_cons]
    cases hc : p c
    · have e : firstOf p (c :: r) = firstOf p r + 1 := by simp [firstOf, hc]
      rcases ih with ⟨h, h2⟩ | ⟨h, h2⟩
      · exact .inl ⟨by rw [e]; simp; omega, by simp only [e]; rw [h2]; rfl⟩
      · exact .inr ⟨by rw [e, h]; rfl, h2⟩
    · have e : firstOf p (c :: r) = 0 := by simp [firstOf, hc]
      exact .inl ⟨by rw [e]; simp, by simp only [e]; rfl⟩
section
variable {w : World} {g n : Nat} {f s : Int → Int} {b : Int}

set_option maxHeartbeats 1000000 in
theorem fmeet1 (i : Int) {g3 g5 : Nat} (ht : Tree n f) (ho : Out n f) (h : ForAt w g n f s) (b3 : Box w g3 42 #[.pointer (some ⟨g, 0, none⟩)]) (b5 : Box w g5 3 #[.int .i64 b]) :
    Calls Tryd.prog 76 #[.int .i64 i, .pointer (some ⟨g3, 0, none⟩), .pointer (some ⟨g5, 0, none⟩)] w fun e w' => e = .returned (.bool (aeq f i b)) ∧ Below w.heap.size w w' := by
  have UN := Lib.hid (funder_any i b ht ho h)
  have k3 := b3.cells
  have k5 := b5.cells
  clear h
  generalize aeq f i b = y at *
  go_enter Tryd.func76, Tryd.ntmps76
  go_wp2_with fail
  refine UN.out.mono ?_
  rintro e w1 ⟨rfl, b1⟩
  clear k3 k5
  go_wp2
  go_ret
  exact ⟨rfl, b1⟩

set_option maxHeartbeats 1000000 in
theorem findex {A' : Option Addr} {c' : Nat} {es : List Int} {g3 g5 : Nat} (hm' : es.length ≤ 1000000) (hr' : RowAt w A' (ivals es)) (ht : Tree n f) (ho : Out n f) (h : ForAt w g n f s) (b3 : Box w g3 42 #[.pointer (some ⟨g, 0, none⟩)]) (b5 : Box w g5 3 #[.int .i64 b]) :
    Calls Tryd.prog 75 #[.slice A' es.length c', .func (.func 76) #[] #[.pointer (some ⟨g3, 0, none⟩), .pointer (some ⟨g5, 0, none⟩)]] w fun e' w' => e' = .returned (.int .i64 (idxI (firstOf (fun t => aeq f t b) es) es.length)) ∧ Below w.heap.size w w' := by
  have C := Lib.hid fun i w (h : ForAt w g n f s) (b3 : Box w g3 42 #[.pointer (some ⟨g, 0, none⟩)]) (b5 : Box w g5 3 #[.int .i64 b]) => fmeet1 i ht ho h b3 b5
  have R := Lib.hid h
  have B3 := Lib.hid b3
  have B5 := Lib.hid b5
  clear h b3 b5
  obtain ⟨p, hp⟩ : ∃ p : Int → Bool, p = fun t => aeq f t b := ⟨_, rfl⟩
  rw [← hp]
  have hpi : ∀ i, aeq f i b = p i := fun i => by rw [hp]
  simp only [hpi] at C
  clear hp hpi
  go_enter Tryd.func75, Tryd.ntmps75
  go_wp2
  go_loopw [8] (fun i wr => ∃ k : Nat, k ≤ es.length ∧ i = .int .i64 k ∧ Hid (k ≤ firstOf p es) ∧ Below w.heap.size w wr) (fun i _ => es.length - (intOf i).toNat)
  case atStart => exact ⟨0, by omega, rfl, Nat.zero_le _, Below.refl _ _⟩
  case round =>
    obtain ⟨k, hk, rfl, hf, hb⟩ := hrel
    by_cases hkn : k < es.length
    · obtain ⟨b, off, rfl, hbl, hc⟩ := hr'.iget (by omega)
      have h1 : wr.cell? ⟨b, off + k, none⟩ = some (.int .i64 es[k]) := (hb.cell (by exact hbl)).trans (hc k hkn)
      have C1 := Lib.hid (C.out es[k] wr (R.out.later hb) (B3.out.later hb) (B5.out.later hb))
      have H1 := Lib.hid fun h => firstOf_hit (p := p) hkn hf.out h
      have H2 := Lib.hid fun h => firstOf_step (p := p) hkn hf.out h
      clear hc
      generalize p es[k] = q at *
      generalize es[k] = x at *
      go_wp2_with fail
      refine C1.out.mono ?_
      rintro e' w1 ⟨rfl, b1⟩
      have hb1 := hb.trans (b1.mono hb.size)
      cases q
      · have H := Lib.hid (H2.out rfl)
        clear H1 H2 hf C1 h1 hb b1
        go_wp2
        go_roundw
        case rel => exact ⟨k + 1, by omega, by go_num, H.out, hb1⟩
        case measure => simp [intOf]; omega
      · have H := Lib.hid (H1.out rfl)
        clear H1 H2 hf C1 h1 hb b1
        go_wp2
        go_ret
        exact ⟨by rw [H.out, idxI_hit hkn]; try rfl, hb1⟩
    · obtain rfl : k = es.length := by omega
      have H := Lib.hid (firstOf_end hf.out)
      clear hf
      go_wp2
      go_ret
      exact ⟨by rw [H.out, idxI_none]; try rfl, hb⟩

/-- What Meet tells. -/
def meI (n : Nat) (f : Int → Int) (a b : Int) : Int := if isN n a = true ∧ isN n b = true then meetP f a b else 0
set_option maxRecDepth 100000 in
set_option maxHeartbeats 2000000 in
theorem fmeet_any (a b : Int) (ht : Tree n f) (ho : Out n f) (h : ForAt w g n f s) : Calls Tryd.prog 38 #[.pointer (some ⟨g, 0, none⟩), .int .i64 a, .int .i64 b] w fun e w' => e = .returned (.int .i64 (meI n f a b)) ∧ Below w.heap.size w w' := by
  have hmf : ∀ (fn : Fn) (first cap : Array Value) (w : World), (Instr.makeFunc fn first cap).run Tryd.prog w = .ok (.func fn first cap) w := fun _ _ _ _ => rfl
  obtain ⟨i0, hi, hz0, hz1, hz2⟩ := info_parts Tryd.infoInt'
  have ISa := fis_any a ((h.alloc (.cells #[.pointer (some ⟨g, 0, none⟩)] 42)).alloc (.cells #[.int .i64 b] 3))
  have ISb := fis_any b ((h.alloc (.cells #[.pointer (some ⟨g, 0, none⟩)] 42)).alloc (.cells #[.int .i64 b] 3))
  have BN : Below w.heap.size w ((w.alloc (.cells #[.pointer (some ⟨g, 0, none⟩)] 42)).alloc (.cells #[.int .i64 b] 3)) := ((Below.refl _ _).alloc (Nat.le_refl _) _).alloc (by simp) _
  have l0 := h.1
  unfold meI
  cases hia : isN n a
  · rw [hia] at ISa
    have IS' := Lib.hid ISa
    rw [if_neg (by simp)]
    clear hia ISa ISb h
    go_enter Tryd.func38, Tryd.ntmps38
    go_wp2_with fail
    refine IS'.out.mono ?_
    rintro e _ ⟨rfl, rfl⟩
    go_wp2
    go_ret
    exact ⟨rfl, BN⟩
  · rw [hia] at ISa
    have ISa' := Lib.hid ISa
    clear ISa
    cases hib : isN n b
    · rw [hib] at ISb
      have ISb' := Lib.hid ISb
      rw [if_neg (by simp)]
      clear hia hib ISb h
      go_enter Tryd.func38, Tryd.ntmps38
      go_wp2_with fail
      refine ISa'.out.mono ?_
      rintro e _ ⟨rfl, rfl⟩
      go_wp2_with fail
      refine ISb'.out.mono ?_
      rintro e _ ⟨rfl, rfl⟩
      go_wp2
      go_ret
      exact ⟨rfl, BN⟩
    · rw [hib] at ISb
      have ISb' := Lib.hid ISb
      rw [if_pos ⟨rfl, rfl⟩]
      have hlen := ht.up_len a
      have hn := ht.few
      have b3 : Box ((w.alloc (.cells #[.pointer (some ⟨g, 0, none⟩)] 42)).alloc (.cells #[.int .i64 b] 3)) w.heap.size 42 #[.pointer (some ⟨g, 0, none⟩)] := (Box.new _ _ _).alloc _
      have b5 : Box ((w.alloc (.cells #[.pointer (some ⟨g, 0, none⟩)] 42)).alloc (.cells #[.int .i64 b] 3)) (w.heap.size + 1) 3 #[.int .i64 b] := Box.new' (by simp)
      have hW := (h.alloc (.cells #[.pointer (some ⟨g, 0, none⟩)] 42)).alloc (.cells #[.int .i64 b] 3)
      have H0 := Lib.hid h
      clear hia hib ISb h
      obtain ⟨W, hWd⟩ : ∃ W, W = (w.alloc (.cells #[.pointer (some ⟨g, 0, none⟩)] 42)).alloc (.cells #[.int .i64 b] 3) := ⟨_, rfl⟩
      rw [← hWd] at b3 b5 hW BN ISa' ISb'
      have UP := Lib.hid (fup_any a ht ho (hW.alloc (.cells #[.int .i64 a] 3)))
      have IX := Lib.hid fun (A' : Option Addr) (c' : Nat) (es : List Int) (W5 : World) (hm' : es.length ≤ 1000000) (hr' : RowAt W5 A' (ivals es)) (h : ForAt W5 g n f s) (b3 : Box W5 w.heap.size 42 #[.pointer (some ⟨g, 0, none⟩)]) (b5 : Box W5 (w.heap.size + 1) 3 #[.int .i64 b]) => findex (b := b) (c' := c') hm' hr' ht ho h b3 b5
      have hFI := find_first (fun t => aeq f t b) (a :: up f a)
      have hMP : meetP f a b = ((a :: up f a).find? fun t => aeq f t b).getD 0 := rfl
      generalize meetP f a b = mm at *
      go_enter Tryd.func38, Tryd.ntmps38
      go_upto_region 1 with fail
      rewrite [← hWd]
      clear hWd
      have k3 := b3.cells
      have k5 := b5.cells
      go_wp2_with fail
      refine ISa'.out.mono ?_
      rintro e _ ⟨rfl, rfl⟩
      go_wp2_with fail
      refine ISb'.out.mono ?_
      rintro e _ ⟨rfl, rfl⟩
      have l3 := b3.lt
      have l5 := b5.lt
      have y3 := b3.alloc (.cells #[.int .i64 a] 3)
      have ky3 := y3.cells
      go_wp2_with fail
      refine UP.out.mono ?_
      rintro e w1 ⟨A1, c1, rfl, hl1, hm1, hown1, B1⟩
      have ownA : (W.alloc (.cells #[.int .i64 a] 3)).ownsRow W.heap.size 3 1 (.slice (some ⟨W.heap.size, 0, none⟩) 1 1) 1 [.int .i64 a] := World.ownsRow_lit W #[.int .i64 a] 1 (Nat.le_refl _) (by decide) (by simp)
      replace ownA := own_below ownA B1 (Nat.le_refl _)
      replace b3 := y3.later B1
      replace b5 := (b5.alloc (.cells #[.int .i64 a] 3)).later B1
      replace hW := (hW.alloc (.cells #[.int .i64 a] 3)).later B1
      have B2 := BN.trans ((below_up B1).mono BN.size)
      have hrow := RowAt.of_own hown1
      have hbase : W.heap.size ≤ w1.heap.size := by have := (below_up B1).size; exact this
      clear k3 k5 ky3 y3 hown1 BN
      generalize up f a = zs at *
      have hN1 : 1 + zs.length ≤ maxLen := by unfold maxLen; omega
      have hN2 : (1 + zs.length) * 8 ≤ 140737488355328 := by omega
      go_wp2_with (at_builtin; refine wpList_append_row rfl _ _ 37 rfl W.heap.size 3 i0 (.int .i64 0) 8 Tryd.underlying37 hi hz0 hz1 hz2 rfl _ 1 [.int .i64 a] rfl ownA A1 _ c1 (ivals zs) rfl (ivals_len zs) hrow (ivals_one zs) hN1 hN2 hbase ?_)
      intro A4 c4 w4 hown4 hr4 hs4 hg4
      replace b3 := b3.grown hr4 (by simp [Value.ownBlock]; omega)
      replace b5 := b5.grown hr4 (by simp [Value.ownBlock]; omega)
      have B4 := B2.grown hr4 B2.size (fun k hk => by simp [Value.ownBlock] at hk; omega)
      have hrow4 : RowAt w4 A4 (ivals (a :: zs)) := RowAt.of_own hown4
      have IX4 := IX.out A4 c4 (a :: zs) w4 (by simp; omega) hrow4 (H0.out.later B4) b3 b5
      obtain ⟨bb, off, rfl, hbl, hcl⟩ := hrow4.iget (by simp)
      clear IX UP hown4 hr4 ownA hrow hW B2 B1 H0 hrow4 b3 b5
      rcases hFI with ⟨hk, hf⟩ | ⟨hk, hf⟩
      · rw [hf] at hMP
        have hcell := hcl _ hk
        have hkl : firstOf (fun t => aeq f t b) (a :: zs) < 1 + zs.length := by simp at hk; omega
        rw [idxI_hit hk] at IX4
        rw [show (a :: zs).length = 1 + zs.length by simp; omega] at IX4
        have HM := Lib.hid (hMP.trans (Option.getD_some ..))
        clear hMP hf hcl
        generalize (a :: zs)[firstOf (fun t => aeq f t b) (a :: zs)] = res at *
        generalize firstOf (fun t => aeq f t b) (a :: zs) = k at *
        have IX5 := Lib.hid IX4
        clear IX4 hk
        go_wp2_with fail
        refine IX5.out.mono ?_
        rintro e w5 ⟨rfl, B5⟩
        have hc5 := (B5.cell (p := ⟨bb, off + k, none⟩) hbl).trans hcell
        have B6 := B4.trans (B5.mono B4.size)
        clear hcell B5 B4
        go_wp2
        go_ret
        exact ⟨by rw [HM.out]; rfl, B6⟩
      · rw [hf] at hMP
        rw [hk, idxI_none] at IX4
        rw [show (a :: zs).length = 1 + zs.length by simp; omega] at IX4
        have HM := Lib.hid (hMP.trans (Option.getD_none ..))
        have IX5 := Lib.hid IX4
        clear hMP hf hcl IX4 hk
        go_wp2_with fail
        refine IX5.out.mono ?_
        rintro e w5 ⟨rfl, B5⟩
        have B6 := B4.trans (B5.mono B4.size)
        go_wp2
        go_ret
        exact ⟨by rw [HM.out]; rfl, B6⟩
end
end Go.Proofs.YtkdpiikfiodopaaDoor
/-
  forest: Held.
-/
namespace Go.Proofs.YtkdpiikfiodopaaDoor
open Go.RowKit

/-- The shares from x up to top. -/
def shU (f s : Int → Int) (top x : Int) : List Int := ((x :: up f x).takeWhile fun y => y != top).map s
theorem shU_top (f s : Int → Int) (top : Int) : shU f s top top = [] := by unfold shU; simp
theorem shU_step {n : Nat} {f : Int → Int} (ht : Tree n f) (s : Int → Int) {top x : Int} (hx : x ≠ top) (ha : aeq f top x = true) :
    shU f s top x = s x :: shU f s top (f x) ∧ aeq f top (f x) = true ∧ f x ≠ 0 := by
  have h1 : top ∈ up f x := by
    rcases aeq_iff.1 ha with h | h
    · exact absurd h.symm hx
    · exact h
  have h0 : f x ≠ 0 := fun h => by rw [ht.up_eq, if_pos h] at h1; cases h1
  have hu : up f x = f x :: up f (f x) := by rw [ht.up_eq, if_neg h0]
  refine ⟨?_, ?_, h0⟩
  · unfold shU
    rw [List.takeWhile_cons, if_pos (by simpa using hx), List.map_cons, hu]
  · rw [hu] at h1
    rcases List.mem_cons.1 h1 with h | h
    · exact aeq_iff.2 (.inl h)
    · exact aeq_iff.2 (.inr h)
theorem shU_len {n : Nat} {f : Int → Int} (ht : Tree n f) (s : Int → Int) (top x : Int) : (shU f s top x).length ≤ n + 1 := by
  unfold shU
  rw [List.length_map]
  have h1 := (List.takeWhile_sublist (fun y => y != top) (l := x :: up f x)).length_le
  have h2 := ht.up_len x
  simp at h1
  omega
/-- What Held tells. -/
def heI (n : Nat) (f s : Int → Int) (top x : Int) : (Int × Int) × Int := if isN n top = true ∧ isN n x = true ∧ aeq f top x = true then chainI (shU f s top x) else ((0, 0), 20)
section
variable {w : World} {g n : Nat} {f s : Int → Int}

set_option maxRecDepth 100000 in
set_option maxHeartbeats 2000000 in
theorem fheld_any (top x : Int) (ht : Tree n f) (ho : Out n f) (h : ForAt w g n f s) (T : Tb w) : Calls Tryd.prog 36 #[.pointer (some ⟨g, 0, none⟩), .int .i64 top, .int .i64 x] w fun e w' => e = .returned (.tuple #[.agg #[.int .i64 (heI n f s top x).1.1, .int .i64 (heI n f s top x).1.2], .int .i64 (heI n f s top x).2]) ∧ Below w.heap.size w w' := by
  obtain ⟨i0, hi, hz0, hz1, hz2⟩ := info_parts Tryd.infoInt'
  have ISt := Lib.hid (fis_any top (h.alloc (.cells #[.int .i64 0, .int .i64 0] 23)))
  have ISx := Lib.hid (fis_any x (h.alloc (.cells #[.int .i64 0, .int .i64 0] 23)))
  have UN := Lib.hid (funder_any top x ht ho (h.alloc (.cells #[.int .i64 0, .int .i64 0] 23)))
  have BN : Below w.heap.size w (w.alloc (.cells #[.int .i64 0, .int .i64 0] 23)) := (Below.refl _ _).alloc (Nat.le_refl _) _
  have x6 : Box (w.alloc (.cells #[.int .i64 0, .int .i64 0] 23)) w.heap.size 23 #[.int .i64 0, .int .i64 0] := Box.new _ _ _
  unfold heI
  cases h1 : isN n top
  · rw [h1] at ISt
    rw [if_neg (by simp)]
    clear h T
    go_enter Tryd.func36, Tryd.ntmps36
    go_wp2_with fail
    refine ISt.out.mono ?_
    rintro e _ ⟨rfl, rfl⟩
    go_wp2
    refine bodyPost_ret (by unfold results; simp only [Tryd.results36]; go_simp; rfl) rfl ?_
    exact ⟨rfl, BN⟩
  · rw [h1] at ISt
    cases h2 : isN n x
    · rw [h2] at ISx
      rw [if_neg (by simp)]
      clear h T
      go_enter Tryd.func36, Tryd.ntmps36
      go_wp2_with fail
      refine ISt.out.mono ?_
      rintro e _ ⟨rfl, rfl⟩
      go_wp2_with fail
      refine ISx.out.mono ?_
      rintro e _ ⟨rfl, rfl⟩
      go_wp2
      refine bodyPost_ret (by unfold results; simp only [Tryd.results36]; go_simp; rfl) rfl ?_
      exact ⟨rfl, BN⟩
    · rw [h2] at ISx
      cases h3 : aeq f top x
      · rw [h3] at UN
        rw [if_neg (by simp)]
        clear h T
        go_enter Tryd.func36, Tryd.ntmps36
        go_wp2_with fail
        refine ISt.out.mono ?_
        rintro e _ ⟨rfl, rfl⟩
        go_wp2_with fail
        refine ISx.out.mono ?_
        rintro e _ ⟨rfl, rfl⟩
        go_wp2_with fail
        refine UN.out.mono ?_
        rintro e w1 ⟨rfl, b1⟩
        replace x6 := x6.later b1
        replace BN := BN.trans (b1.mono BN.size)
        have k6 := x6.cells
        have l6 := x6.lt
        have f6 := x6.free
        clear b1
        go_wp2
        refine bodyPost_ret (by unfold results; simp only [Tryd.results36]; go_simp; rfl) rfl ?_
        exact ⟨rfl, (BN.setCell (by simp) _).setCell (by simp) _⟩
      · rw [h3] at UN
        rw [if_pos ⟨rfl, rfl, rfl⟩]
        have hlen := shU_len ht s top x
        obtain ⟨tot, htot⟩ : ∃ t, t = shU f s top x := ⟨_, rfl⟩
        rw [← htot] at hlen ⊢
        have I0 : Hid (tot = [] ++ shU f s top x) := htot
        have hfew := h.2.1
        have PA := Lib.hid fun (x : Int) (w : World) (h : ForAt w g n f s) => fpar_out x ho h
        have SA := Lib.hid fun (x : Int) (w : World) (h : ForAt w g n f s) => fsha_any x h
        have CH := Lib.hid fun (A : Option Addr) (c : Nat) (l : List Int) (w : World) (hm : l.length ≤ 1000000) (hr : RowAt w A (ivals l)) (T : Tb w) => chain_any (A := A) (c := c) hm hr T
        have H := Lib.hid h
        have HT := Lib.hid T
        have h20 := h2
        have h30 := h3
        clear htot h T h1 h2 h3
        go_enter Tryd.func36, Tryd.ntmps36
        go_wp2_with fail
        refine ISt.out.mono ?_
        rintro e _ ⟨rfl, rfl⟩
        go_wp2_with fail
        refine ISx.out.mono ?_
        rintro e _ ⟨rfl, rfl⟩
        go_wp2_with fail
        refine UN.out.mono ?_
        rintro e w1 ⟨rfl, b1⟩
        replace x6 := x6.later b1
        replace BN := BN.trans (b1.mono BN.size)
        clear b1 ISt ISx UN
        have l6 := x6.lt
        go_wp2
        go_loopw [8, 9] (fun o t wr => ∃ (out : List Int) (a : Int) (A' : Option Addr) (c' : Nat), o = .slice A' out.length c' ∧ t = .int .i64 a ∧ Hid (tot = out ++ shU f s top a) ∧ Hid (aeq f top a = true) ∧ Hid (isN n a = true) ∧ out.length ≤ c' ∧ c' ≤ maxLen ∧ wr.ownsRow w1.heap.size 3 1 (.slice A' out.length c') out.length (ivals out) ∧ Below w1.heap.size w1 wr)
          (fun o _ _ => tot.length + 1 - lenS o)
        case atStart => exact ⟨[], x, none, 0, rfl, rfl, I0, h30, h20, by simp, by unfold maxLen; omega, World.ownsRow_nil _ _ _ _, Below.refl _ _⟩
        case round =>
          clear h20 h30 I0
          obtain ⟨out, a, A', c', rfl, rfl, hI, hA, hN0, hl, hmx, hown, hb⟩ := hrel
          have hbw := BN.trans (hb.mono BN.size)
          by_cases ha : a = top
          · subst ha
            have HE : tot = out := by have := hI.out; rw [shU_top, List.append_nil] at this; exact this
            subst HE
            have HC := Lib.hid (CH.out A' c' tot wr (by omega) (RowAt.of_own hown) (HT.out.later hbw))
            have y6 := x6.later hb
            clear hI hA hN0 CH hown
            go_wp2_with fail
            refine HC.out.mono ?_
            rintro e w2 ⟨rfl, b2⟩
            replace y6 := y6.later b2
            have B2 := hbw.trans (b2.mono hbw.size)
            have k6 := y6.cells
            have f6 := y6.free
            have l62 := y6.lt
            clear hb hbw BN b2
            go_wp2
            refine bodyPost_ret (by unfold results; simp only [Tryd.results36]; go_simp; rfl) rfl ?_
            exact ⟨rfl, (B2.setCell (by simp) _).setCell (by simp) _⟩
          · have ha' : (a != top) = true := by simpa using ha
            obtain ⟨hs1, hs2, hs3⟩ := shU_step ht s ha hA.out
            have HI : Hid (tot = (out ++ [s a]) ++ shU f s top (f a)) := Lib.hid (by rw [hI.out, hs1]; simp)
            have HA2 := Lib.hid hs2
            have HN2 : Hid (isN n (f a) = true) := Lib.hid (isN_iff.2 (by have := ht.rng a; omega))
            have hlt : out.length + 1 ≤ tot.length := by have := congrArg List.length hI.out; rw [hs1] at this; simp at this; omega
            have SAa := SA.out a wr (H.out.later hbw)
            rw [hN0.out, if_pos rfl] at SAa
            have SA1 := Lib.hid SAa
            have hN : out.length + 1 ≤ 1099511627776 := by omega
            have hsz := hb.size
            clear hI hA hN0 hs1 hs2 hs3 ha SAa
            generalize s a = sa at *
            go_wp2_with fail
            refine SA1.out.mono ?_
            rintro e _ ⟨rfl, rfl⟩
            go_wp2_with (at_builtin; refine wpList_append_int rfl _ _ 37 rfl w1.heap.size 3 i0 Tryd.underlying37 hi hz0 hz1 hz2 _ _ _ rfl hown sa rfl hN hsz ?_)
            intro g3 c3 w4 hown4 hr4 hc3 hm3 hg3 hg3' hsz3
            have hb4 := hb.grown hr4 hsz (fun k hk => (hown.lt k hk).1)
            clear hown hr4 hb hbw
            go_wp2_with fail
            refine (PA.out _ _ (H.out.later (BN.trans (hb4.mono BN.size)))).mono ?_
            rintro e _ ⟨rfl, rfl⟩
            generalize f a = a1 at *
            go_wp2
            go_roundw
            case rel => exact ⟨out ++ [sa], a1, some ⟨g3, 0, none⟩, c3, by simp, rfl, HI, HA2, HN2, by simp; exact hc3, hm3, by rw [ivals_append, List.length_append]; exact hown4, hb4⟩
            case measure => simp [lenS]; omega
end
end Go.Proofs.YtkdpiikfiodopaaDoor
/-
  The document's forest: At, Is, Parent, Share, Up, Above.
-/
namespace Go.Proofs.YtkdpiikfiodopaaDoor
open Go.RowKit

section
variable {w : World} {A : Option Addr} {c : Nat} {l : List Stk}

set_option maxRecDepth 100000 in
set_option maxHeartbeats 2000000 in
theorem rfat_any {n q : Int} (hm : l.length ≤ 1000000) (hc : l.length ≤ c) (hc2 : c ≤ maxLen) (hr : RowT w A l) :
    Calls Tryd.prog 21 #[.slice A l.length c, .int .i64 n, .int .i64 q] w fun e w' => ∃ v, e = .returned (.tuple #[v, .int .i64 (atE l n q)]) ∧ (atE l n q = 0 → v = .agg #[.slice A l.length c, .int .i64 n, .int .i64 q]) ∧ (atE l n q ≠ 0 → v = .agg #[.slice none 0 0, .int .i64 0, .int .i64 0]) ∧ Below w.heap.size w w' := by
  have CH := Lib.hid fun w (hr : RowT w A l) => rcheck_any (n := n) hm hc hc2 hr
  have R := Lib.hid hr
  have BN : Below w.heap.size w (w.alloc (.cells #[.slice none 0 0, .int .i64 0, .int .i64 0] 46)) := (Below.refl _ _).alloc (Nat.le_refl _) _
  have x6 : Box (w.alloc (.cells #[.slice none 0 0, .int .i64 0, .int .i64 0] 46)) w.heap.size 46 #[.slice none 0 0, .int .i64 0, .int .i64 0] := Box.new _ _ _
  clear hr
  rcases (by omega : n < 0 ∨ (0 ≤ n ∧ 40 < n) ∨ (0 ≤ n ∧ n ≤ 40)) with h | ⟨h1, h⟩ | ⟨h1, h2⟩
  · have HO := Lib.hid (show atE l n q = 20 from if_pos (by omega))
    go_enter Tryd.func21, Tryd.ntmps21
    go_wp2
    refine bodyPost_ret (by unfold results; simp only [Tryd.results21]; go_simp; rfl) rfl ?_
    exact ⟨.agg #[.slice none 0 0, .int .i64 0, .int .i64 0], (by rw [HO.out]; try rfl), fun h => (by rw [HO.out] at h; cases h), fun _ => rfl, BN⟩
  · have HO := Lib.hid (show atE l n q = 20 from if_pos (by omega))
    go_enter Tryd.func21, Tryd.ntmps21
    go_wp2
    refine bodyPost_ret (by unfold results; simp only [Tryd.results21]; go_simp; rfl) rfl ?_
    exact ⟨.agg #[.slice none 0 0, .int .i64 0, .int .i64 0], (by rw [HO.out]; try rfl), fun h => (by rw [HO.out] at h; cases h), fun _ => rfl, BN⟩
  · rcases (by omega : q < 0 ∨ (0 ≤ q ∧ 24 ≤ q) ∨ (0 ≤ q ∧ q < 24)) with h | ⟨h3, h⟩ | ⟨h3, h4⟩
    · have HO := Lib.hid (show atE l n q = 22 by unfold atE; rw [if_neg (by omega), if_pos (by omega)])
      go_enter Tryd.func21, Tryd.ntmps21
      go_wp2
      refine bodyPost_ret (by unfold results; simp only [Tryd.results21]; go_simp; rfl) rfl ?_
      exact ⟨.agg #[.slice none 0 0, .int .i64 0, .int .i64 0], (by rw [HO.out]; try rfl), fun h => (by rw [HO.out] at h; cases h), fun _ => rfl, BN⟩
    · have HO := Lib.hid (show atE l n q = 22 by unfold atE; rw [if_neg (by omega), if_pos (by omega)])
      go_enter Tryd.func21, Tryd.ntmps21
      go_wp2
      refine bodyPost_ret (by unfold results; simp only [Tryd.results21]; go_simp; rfl) rfl ?_
      exact ⟨.agg #[.slice none 0 0, .int .i64 0, .int .i64 0], (by rw [HO.out]; try rfl), fun h => (by rw [HO.out] at h; cases h), fun _ => rfl, BN⟩
    · have hE : atE l n q = (chkL l n).2 := by unfold atE; rw [if_neg (by omega), if_neg (by omega)]
      rw [hE]
      clear hE
      generalize chkL l n = r at *
      by_cases hz : r.2 = 0
      · rw [hz] at CH ⊢
        clear hz
        go_enter Tryd.func21, Tryd.ntmps21
        go_wp2_with fail
        refine (CH.out _ (R.out.alloc _)).mono ?_
        rintro e w1 ⟨rfl, b1⟩
        replace x6 := x6.later b1
        replace BN := BN.trans (b1.mono BN.size)
        have k6 := x6.cells
        have l6 := x6.lt
        have f6 := x6.free
        clear b1
        go_wp2
        refine bodyPost_ret (by unfold results; simp only [Tryd.results21]; go_simp; rfl) rfl ?_
        exact ⟨_, rfl, fun _ => rfl, fun h => absurd rfl h, ((BN.setCell (by simp) _).setCell (by simp) _).setCell (by simp) _⟩
      · have hne : (r.2 != 0) = true := by simpa using hz
        have HZ := Lib.hid hz
        clear hz
        go_enter Tryd.func21, Tryd.ntmps21
        go_wp2_with fail
        refine (CH.out _ (R.out.alloc _)).mono ?_
        rintro e w1 ⟨rfl, b1⟩
        replace x6 := x6.later b1
        replace BN := BN.trans (b1.mono BN.size)
        have k6 := x6.cells
        have l6 := x6.lt
        have f6 := x6.free
        clear b1
        go_wp2
        refine bodyPost_ret (by unfold results; simp only [Tryd.results21]; go_simp; rfl) rfl ?_
        exact ⟨_, rfl, fun h => absurd h HZ.out, fun _ => rfl, ((BN.setCell (by simp) _).setCell (by simp) _).setCell (by simp) _⟩

variable {n : Nat} {q : Int}
set_option maxHeartbeats 1000000 in
theorem ris_any (x : Int) (w : World) : Calls Tryd.prog 66 #[.agg #[.slice A l.length c, .int .i64 n, .int .i64 q], .int .i64 x] w fun e w' => e = .returned (.bool (isN n x)) ∧ Below w.heap.size w w' := by
  have BN : Below w.heap.size w (w.alloc (.cells #[.slice A l.length c, .int .i64 n, .int .i64 q] 46)) := (Below.refl _ _).alloc (Nat.le_refl _) _
  cases hi : isN n x
  · rcases isN_not hi with h | ⟨h1, h⟩
    · clear hi
      go_enter Tryd.func66, Tryd.ntmps66
      go_wp2
      go_ret
      exact ⟨rfl, BN⟩
    · have hd : decide (x ≤ (n : Int)) = false := decide_eq_false (by omega)
      clear hi h
      go_enter Tryd.func66, Tryd.ntmps66
      go_wp2
      go_ret
      exact ⟨by rw [← hd]; rfl, BN⟩
  · obtain ⟨h1, h2⟩ := isN_iff.1 hi
    have hd : decide (x ≤ (n : Int)) = true := decide_eq_true h2
    clear hi h2
    go_enter Tryd.func66, Tryd.ntmps66
    go_wp2
    go_ret
    exact ⟨by rw [← hd]; rfl, BN⟩

set_option maxHeartbeats 1000000 in
theorem rpa_any (x : Int) (hm : l.length ≤ 1000000) (hr : RowT w A l) : Calls Tryd.prog 23 #[.agg #[.slice A l.length c, .int .i64 n, .int .i64 q], .int .i64 x] w fun e w' => e = .returned (.int .i64 (if isN n x = true then parL l q x else 0)) ∧ Below w.heap.size w w' := by
  have IS := ris_any (A := A) (c := c) (l := l) (n := n) (q := q) x (w.alloc (.cells #[.slice A l.length c, .int .i64 n, .int .i64 q] 46))
  have x2 : Box (w.alloc (.cells #[.slice A l.length c, .int .i64 n, .int .i64 q] 46)) w.heap.size 46 #[.slice A l.length c, .int .i64 n, .int .i64 q] := Box.new _ _ _
  have AT := Lib.hid fun (w : World) (hr : RowT w A l) => rat_any (c := c) (x := x) (q := q) hm hr
  have R := Lib.hid hr
  have BN : Below w.heap.size w (w.alloc (.cells #[.slice A l.length c, .int .i64 n, .int .i64 q] 46)) := (Below.refl _ _).alloc (Nat.le_refl _) _
  clear hr
  cases hi : isN n x
  · rw [hi] at IS
    have IS' := Lib.hid IS
    rw [if_neg (by decide)]
    clear hi IS
    go_enter Tryd.func23, Tryd.ntmps23
    go_wp2_with fail
    refine IS'.out.mono ?_
    rintro e w1 ⟨rfl, b1⟩
    replace BN := BN.trans (b1.mono BN.size)
    clear b1 x2
    go_wp2
    go_ret
    exact ⟨rfl, BN⟩
  · rw [hi] at IS
    have IS' := Lib.hid IS
    rw [if_pos rfl, show parL l q x = (atL l x q).1 from rfl]
    clear hi IS
    generalize atL l x q = r at *
    go_enter Tryd.func23, Tryd.ntmps23
    go_wp2_with fail
    refine IS'.out.mono ?_
    rintro e w1 ⟨rfl, b1⟩
    replace x2 := x2.later b1
    have k2 := x2.cells
    have l2 := x2.lt
    replace BN := BN.trans (b1.mono BN.size)
    clear b1
    go_wp2_with fail
    refine (AT.out _ (R.out.later BN)).mono ?_
    rintro e w2 ⟨rfl, b2⟩
    replace BN := BN.trans (b2.mono BN.size)
    clear b2 x2 k2 l2
    go_wp2
    go_ret
    exact ⟨rfl, BN⟩

set_option maxHeartbeats 1000000 in
theorem rsh_any (x : Int) (hm : l.length ≤ 1000000) (hr : RowT w A l) : Calls Tryd.prog 25 #[.agg #[.slice A l.length c, .int .i64 n, .int .i64 q], .int .i64 x] w fun e w' => e = .returned (.int .i64 (if isN n x = true then shaL l q x else 0)) ∧ Below w.heap.size w w' := by
  have IS := ris_any (A := A) (c := c) (l := l) (n := n) (q := q) x (w.alloc (.cells #[.slice A l.length c, .int .i64 n, .int .i64 q] 46))
  have x2 : Box (w.alloc (.cells #[.slice A l.length c, .int .i64 n, .int .i64 q] 46)) w.heap.size 46 #[.slice A l.length c, .int .i64 n, .int .i64 q] := Box.new _ _ _
  have AT := Lib.hid fun (w : World) (hr : RowT w A l) => rat_any (c := c) (x := x) (q := q) hm hr
  have R := Lib.hid hr
  have BN : Below w.heap.size w (w.alloc (.cells #[.slice A l.length c, .int .i64 n, .int .i64 q] 46)) := (Below.refl _ _).alloc (Nat.le_refl _) _
  clear hr
  cases hi : isN n x
  · rw [hi] at IS
    have IS' := Lib.hid IS
    rw [if_neg (by decide)]
    clear hi IS
    go_enter Tryd.func25, Tryd.ntmps25
    go_wp2_with fail
    refine IS'.out.mono ?_
    rintro e w1 ⟨rfl, b1⟩
    replace BN := BN.trans (b1.mono BN.size)
    clear b1 x2
    go_wp2
    go_ret
    exact ⟨rfl, BN⟩
  · rw [hi] at IS
    have IS' := Lib.hid IS
    rw [if_pos rfl, show shaL l q x = (atL l x q).2 from rfl]
    clear hi IS
    generalize atL l x q = r at *
    go_enter Tryd.func25, Tryd.ntmps25
    go_wp2_with fail
    refine IS'.out.mono ?_
    rintro e w1 ⟨rfl, b1⟩
    replace x2 := x2.later b1
    have k2 := x2.cells
    have l2 := x2.lt
    replace BN := BN.trans (b1.mono BN.size)
    clear b1
    go_wp2_with fail
    refine (AT.out _ (R.out.later BN)).mono ?_
    rintro e w2 ⟨rfl, b2⟩
    replace BN := BN.trans (b2.mono BN.size)
    clear b2 x2 k2 l2
    go_wp2
    go_ret
    exact ⟨rfl, BN⟩

theorem rpa_out (x : Int) (hm : l.length ≤ 1000000) (ho : Out n (parL l q)) (hr : RowT w A l) : Calls Tryd.prog 23 #[.agg #[.slice A l.length c, .int .i64 n, .int .i64 q], .int .i64 x] w fun e w' => e = .returned (.int .i64 (parL l q x)) ∧ Below w.heap.size w w' := by
  refine (rpa_any x hm hr).mono fun e w' hh => ?_
  cases hi : isN n x
  · rw [hi, if_neg (by decide)] at hh
    rw [ho x hi]
    exact hh
  · rw [hi, if_pos rfl] at hh
    exact hh
set_option maxHeartbeats 1000000 in
theorem rups_any (x : Int) (hm : l.length ≤ 1000000) (ht : Tree n (parL l q)) (ho : Out n (parL l q)) (hr : RowT w A l) : Calls Tryd.prog 30 #[.agg #[.slice A l.length c, .int .i64 n, .int .i64 q], .int .i64 x] w (NewRow (up (parL l q) x) w) := by
  have IS := ris_any (A := A) (c := c) (l := l) (n := n) (q := q) x (w.alloc (.cells #[.slice A l.length c, .int .i64 n, .int .i64 q] 46))
  have x2 : Box (w.alloc (.cells #[.slice A l.length c, .int .i64 n, .int .i64 q] 46)) w.heap.size 46 #[.slice A l.length c, .int .i64 n, .int .i64 q] := Box.new _ _ _
  have AB := Lib.hid fun (w : World) (hr : RowT w A l) => rabove_any (c := c) (x := x) (q := q) hm hr
  rw [ht.above x] at AB
  have hnil : isN n x = false → up (parL l q) x = [] := fun h => by rw [ht.up_eq, if_pos (ho x h)]
  have R := Lib.hid hr
  have BN : Below w.heap.size w (w.alloc (.cells #[.slice A l.length c, .int .i64 n, .int .i64 q] 46)) := (Below.refl _ _).alloc (Nat.le_refl _) _
  clear hr
  cases hi : isN n x
  · rw [hi] at IS
    rw [hnil hi]
    have IS' := Lib.hid IS
    clear hi IS hnil
    go_enter Tryd.func30, Tryd.ntmps30
    go_wp2_with fail
    refine IS'.out.mono ?_
    rintro e w1 ⟨rfl, b1⟩
    replace BN := BN.trans (b1.mono BN.size)
    clear b1 x2
    go_wp2
    go_ret
    exact ⟨none, 0, rfl, Nat.le_refl _, by unfold maxLen; omega, World.ownsRow_nil _ _ _ _, BN⟩
  · rw [hi] at IS
    have IS' := Lib.hid IS
    clear hi IS hnil
    generalize up (parL l q) x = zs at *
    go_enter Tryd.func30, Tryd.ntmps30
    go_wp2_with fail
    refine IS'.out.mono ?_
    rintro e w1 ⟨rfl, b1⟩
    replace x2 := x2.later b1
    have k2 := x2.cells
    have l2 := x2.lt
    replace BN := BN.trans (b1.mono BN.size)
    clear b1
    go_wp2_with fail
    refine (AB.out _ (R.out.later BN)).mono ?_
    rintro e w2 ⟨A2, c2, rfl, g2, g3, g4, b2⟩
    have g5 := own_base g4 BN.size
    replace BN := BN.trans (b2.mono BN.size)
    clear b2 x2 k2 l2 g4
    go_wp2
    go_ret
    exact ⟨A2, c2, rfl, g2, g3, g5, BN⟩
set_option maxRecDepth 100000 in
set_option maxHeartbeats 1000000 in
theorem rabo_any (top x : Int) (hm : l.length ≤ 1000000) (ht : Tree n (parL l q)) (ho : Out n (parL l q)) (hr : RowT w A l) : Calls Tryd.prog 73 #[.agg #[.slice A l.length c, .int .i64 n, .int .i64 q], .int .i64 top, .int .i64 x] w fun e w' => e = .returned (.bool (isN n top && isN n x && aeq (parL l q) top x)) ∧ Below w.heap.size w w' := by
  have ISt := Lib.hid fun w => ris_any (A := A) (c := c) (l := l) (n := n) (q := q) top w
  have ISx := Lib.hid fun w => ris_any (A := A) (c := c) (l := l) (n := n) (q := q) x w
  have x3 : Box (w.alloc (.cells #[.slice A l.length c, .int .i64 n, .int .i64 q] 46)) w.heap.size 46 #[.slice A l.length c, .int .i64 n, .int .i64 q] := Box.new _ _ _
  have UP := Lib.hid fun (w : World) (hr : RowT w A l) => rups_any (c := c) x hm ht ho hr
  have R := Lib.hid hr
  have BN : Below w.heap.size w (w.alloc (.cells #[.slice A l.length c, .int .i64 n, .int .i64 q] 46)) := (Below.refl _ _).alloc (Nat.le_refl _) _
  have hlen := ht.up_len x
  have hn := ht.few
  have HS := Lib.hid fun (A : Option Addr) (c : Nat) (zs : List Int) (n : Int) (w : World) (hm : zs.length ≤ maxLen) (hr : RowAt w A (ivals zs)) => has_any (A := A) (c := c) (l := zs) (n := n) hm hr
  unfold aeq
  generalize up (parL l q) x = zs at *
  clear hr
  cases h1 : isN n top
  · rw [h1] at ISt
    clear h1
    go_enter Tryd.func73, Tryd.ntmps73
    go_wp2_with fail
    refine (ISt.out _).mono ?_
    rintro e w1 ⟨rfl, b1⟩
    replace x3 := x3.later b1
    replace BN := BN.trans (b1.mono BN.size)
    clear b1
    go_wp2
    go_ret
    exact ⟨rfl, BN⟩
  · rw [h1] at ISt
    clear h1
    cases h2 : isN n x
    · rw [h2] at ISx
      clear h2
      go_enter Tryd.func73, Tryd.ntmps73
      go_wp2_with fail
      refine (ISt.out _).mono ?_
      rintro e w1 ⟨rfl, b1⟩
      replace x3 := x3.later b1
      replace BN := BN.trans (b1.mono BN.size)
      clear b1
      have k3 := x3.cells
      have l3 := x3.lt
      go_wp2_with fail
      refine (ISx.out _).mono ?_
      rintro e w2 ⟨rfl, b1⟩
      replace x3 := x3.later b1
      replace BN := BN.trans (b1.mono BN.size)
      clear b1
      clear k3 l3
      go_wp2
      go_ret
      exact ⟨rfl, BN⟩
    · rw [h2] at ISx
      clear h2
      by_cases hx : top = x
      · have hx' : (top == x) = true := by simpa using hx
        rw [decide_eq_true hx]
        clear hx
        go_enter Tryd.func73, Tryd.ntmps73
        go_wp2_with fail
        refine (ISt.out _).mono ?_
        rintro e w1 ⟨rfl, b1⟩
        replace x3 := x3.later b1
        replace BN := BN.trans (b1.mono BN.size)
        clear b1
        have k3 := x3.cells
        have l3 := x3.lt
        go_wp2_with fail
        refine (ISx.out _).mono ?_
        rintro e w2 ⟨rfl, b1⟩
        replace x3 := x3.later b1
        replace BN := BN.trans (b1.mono BN.size)
        clear b1
        clear k3 l3
        go_wp2
        go_ret
        exact ⟨rfl, BN⟩
      · have hx' : (top == x) = false := by simpa using hx
        rw [decide_eq_false hx]
        clear hx
        go_enter Tryd.func73, Tryd.ntmps73
        go_wp2_with fail
        refine (ISt.out _).mono ?_
        rintro e w1 ⟨rfl, b1⟩
        replace x3 := x3.later b1
        replace BN := BN.trans (b1.mono BN.size)
        clear b1
        have k3 := x3.cells
        have l3 := x3.lt
        go_wp2_with fail
        refine (ISx.out _).mono ?_
        rintro e w2 ⟨rfl, b1⟩
        replace x3 := x3.later b1
        replace BN := BN.trans (b1.mono BN.size)
        clear b1
        clear k3 l3
        have k3 := x3.cells
        have l3 := x3.lt
        go_wp2_with fail
        refine (UP.out _ (R.out.later BN)).mono ?_
        rintro e w3 ⟨A1, c1, rfl, hl1, hm1, hown, b1⟩
        replace BN := BN.trans (b1.mono BN.size)
        have HC := Lib.hid (HS.out A1 c1 zs top w3 (by unfold maxLen; omega) (RowAt.of_own hown))
        clear hown b1 k3 l3 x3
        go_wp2_with fail
        refine HC.out.mono ?_
        rintro e _ ⟨rfl, rfl⟩
        go_wp2
        go_ret
        exact ⟨rfl, BN⟩
end
end Go.Proofs.YtkdpiikfiodopaaDoor
