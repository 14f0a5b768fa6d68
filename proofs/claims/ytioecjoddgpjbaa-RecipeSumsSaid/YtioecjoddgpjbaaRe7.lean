/-
  recipe: net sums of values, by the program and by the document.
-/
import Derived.Test.YtioecjoddgpjbaaRe6
import Derived.OwnWalk
import Derived.Test.YtioecjoddgpjbaaContains
namespace Go.Proofs.Ytioecjoddgpjbaa
open Go.RowKit

theorem Try.infoVal : (Try.prog.info? 24).map (fun i => (i.zero, i.size, i.bytes)) = some (some (.agg #[.int .i64 0, .int .i64 0]), 2, 16) := by kernel_rfl
theorem grownBy_setCell' (W : World) (b : Nat) (v : Value) : W.grownBy (W.setCell ⟨b, 0, none⟩ v) (some b) :=
  ⟨rfl, rfl, rfl, by rw [World.size_setCell]; exact Nat.le_refl _, fun k _ hne => Below.heap_setCell W ⟨b, 0, none⟩ v k (fun e => hne (by rw [e]))⟩
theorem row_one {w : World} {g : Nat} {n : Int} (h : Box w g 3 #[.int .i64 n]) : RowAt w (some ⟨g, 0, none⟩) [.int .i64 n] := by
  refine RowAt.of_cells fun j u hj => ?_
  rw [addr_add, Nat.zero_add]
  exact (h.cells j).trans (by rw [← hj]; exact List.getElem?_toArray ..)
theorem grown_new {w w1 w2 : World} {row r2 : Option Nat} (h : w.grownBy w1 row) (k : w1.grownBy w2 r2) (hr : ∀ b, r2 = some b → w.heap.size ≤ b) : w.grownBy w2 row :=
  ⟨k.os.trans h.os, k.tape.trans h.tape, k.output.trans h.output, Nat.le_trans h.size k.size, fun b hb hne => (k.block b (Nat.lt_of_lt_of_le hb h.size) (fun e => by have := hr b e.symm; omega)).trans (h.block b hb hne)⟩
theorem grown_same {w w1 w2 : World} {row : Option Nat} (h : w.grownBy w1 row) (k : w1.grownBy w2 row) : w.grownBy w2 row :=
  ⟨k.os.trans h.os, k.tape.trans h.tape, k.output.trans h.output, Nat.le_trans h.size k.size, fun b hb hne => (k.block b (Nat.lt_of_lt_of_le hb h.size) hne).trans (h.block b hb hne)⟩
theorem amts_snoc (l : List Vl) (k : Nat) (hk : k < l.length) : amts (l.take (k + 1)) = amts (l.take k) ++ [l[k].n] := by
  rw [List.take_succ_eq_append_getElem hk, amts_append]; rfl
theorem fst_snoc (l : List Vl) (f : Int) (k : Nat) (hk : k < l.length) : (l.take (k + 1)).foldl fstE f = fstE ((l.take k).foldl fstE f) l[k] := by
  rw [List.take_succ_eq_append_getElem hk, List.foldl_append]; rfl
section
variable {A : Option Addr} {c : Nat} {l : List Vl} {w : World}
set_option maxRecDepth 100000 in
set_option maxHeartbeats 2000000 in
theorem vfault_any (hm : l.length ≤ 1000000) (hr : VlE.Row w A l) : Calls Try.prog 44 #[.slice A l.length c] w fun e w' => e = .returned (.int .i64 (faultV l)) ∧ w = w' := by
  have R := Lib.hid hr
  clear hr
  have H0 : Hid (faultV (l.drop 0) = faultV l) := rfl
  go_enter Try.func44, Try.ntmps44
  go_wp2
  go_loop [3] (fun i => ∃ k : Nat, k ≤ l.length ∧ i = .int .i64 k ∧ Hid (faultV (l.drop k) = faultV l)) (fun i => l.length - (intOf i).toNat)
  case atStart => exact ⟨0, by omega, rfl, H0⟩
  case round =>
    clear H0
    obtain ⟨k, hk, rfl, hI⟩ := hrel
    by_cases hkn : k < l.length
    · obtain ⟨b0, off, rfl, hbl, hc⟩ := (R.out).get (by omega)
      have d0 := hc k hkn 0 _ rfl
      have d1 := hc k hkn 1 _ rfl
      have HS : Hid (l[k].e = 0 → faultV (l.drop (k + 1)) = faultV l) := fun he => by
        rw [← hI.out, List.drop_eq_getElem_cons hkn]
        unfold faultV
        rw [if_neg (show ¬ l[k].e ≠ 0 from fun h2 => h2 he)]
        cases hd : l.drop (k + 1) <;> rfl
      have HT : Hid (l[k].e ≠ 0 → faultV l = l[k].e) := fun he => by
        rw [← hI.out, List.drop_eq_getElem_cons hkn]
        unfold faultV
        rw [if_pos he]
      clear hc hI
      generalize l[k] = x at *
      obtain ⟨xn, xe⟩ := x
      dsimp only at d0 d1 HS HT
      rw [show VlE.n = 2 from rfl, Nat.add_zero] at d0
      rw [show VlE.n = 2 from rfl, ← Nat.add_assoc] at d1
      by_cases he : xe = 0
      · have HE := Lib.hid (HS.out he)
        clear HS HT
        subst he
        go_wp2
        go_round
        case rel => exact ⟨k + 1, by omega, by go_num, HE⟩
        case measure => simp [intOf]; omega
      · have HE := Lib.hid (HT.out he)
        have hne : (xe != 0) = true := by simpa using he
        clear HS HT he
        go_wp2
        go_ret
        exact ⟨by rw [HE.out]; rfl, rfl⟩
    · obtain rfl : k = l.length := by omega
      have HE : Hid (faultV l = 0) := by
        have := hI.out
        rw [List.drop_length] at this
        exact this.symm
      go_wp2
      go_ret
      exact ⟨by rw [HE.out]; rfl, rfl⟩
set_option maxRecDepth 100000 in
set_option maxHeartbeats 2000000 in
theorem vamounts_any (hm : l.length ≤ 1000000) (hr : VlE.Row w A l) : Calls Try.prog 46 #[.slice A l.length c] w (NewRow (amts l) w) := by
  obtain ⟨i0, hi, hz0, hz1, hz2⟩ := info_parts Try.infoInt'
  have R := Lib.hid hr
  clear hr
  go_enter Try.func46, Try.ntmps46
  go_wp2
  go_loopw [3, 4] (fun o i wr => ∃ (k : Nat) (A' : Option Addr) (c' : Nat), k ≤ l.length ∧ o = .slice A' k c' ∧ i = .int .i64 k ∧ wr.ownsRow w.heap.size 3 1 (.slice A' k c') k (ivals (amts (l.take k))) ∧ Below w.heap.size w wr) (fun _ i _ => l.length - (intOf i).toNat)
  case atStart => exact ⟨0, none, 0, by omega, rfl, rfl, World.ownsRow_nil _ _ _ _, Below.refl _ _⟩
  case round =>
    obtain ⟨k, A', c', hk, rfl, rfl, hown, hb⟩ := hrel
    by_cases hkn : k < l.length
    · obtain ⟨b0, off, rfl, hbl, hc⟩ := (R.out.below hb (Nat.le_refl _)).get (by omega)
      have d0 := hc k hkn 0 _ rfl
      have d1 := hc k hkn 1 _ rfl
      have HS := Lib.hid (amts_snoc l k hkn)
      clear hc
      generalize l[k] = x at *
      obtain ⟨xn, xe⟩ := x
      dsimp only at d0 d1 HS
      rw [show VlE.n = 2 from rfl, Nat.add_zero] at d0
      rw [show VlE.n = 2 from rfl, ← Nat.add_assoc] at d1
      have hsz := hb.size
      go_wp2_with (at_builtin; refine wpList_append_int rfl _ _ 50 rfl w.heap.size 3 i0 Try.underlying50 hi hz0 hz1 hz2 _ _ _ rfl hown xn rfl (by omega) hsz ?_)
      intro g3' c3 w4 hown4 hr4 hc3 hm3 hg3 hg3' hsz3
      have hb4 := hb.grown hr4 hsz (fun k hk => (hown.lt k hk).1)
      clear hown hr4 hb
      go_wp2
      go_roundw
      case rel => exact ⟨k + 1, some ⟨g3', 0, none⟩, c3, by omega, rfl, by go_num, by rw [HS.out, ivals_append]; exact hown4, hb4⟩
      case measure => simp [intOf]; omega
    · obtain rfl : k = l.length := by omega
      rw [List.take_length] at hown
      have hcap := own_cap hown
      go_wp2
      go_ret
      exact ⟨A', c', by rw [amts_len]; rfl, by rw [amts_len]; exact hcap.1, hcap.2, by rw [amts_len]; exact hown, hb⟩
set_option maxRecDepth 100000 in
set_option maxHeartbeats 2000000 in
theorem vnet1_any {f : Int} {g : Nat} (hm : l.length ≤ 1000000) (hg : Box w g 22 #[.int .i64 f]) (hr : ∀ w', w.grownBy w' (some g) → VlE.Row w' A l) : Calls Try.prog 39 #[.slice A l.length c, .pointer (some ⟨g, 0, none⟩)] w fun e w' =>
    ∃ A' c', e = .returned (.slice A' (amts l).length c') ∧ w'.ownsRow w.heap.size 3 1 (.slice A' (amts l).length c') (amts l).length (ivals (amts l)) ∧ Box w' g 22 #[.int .i64 (l.foldl fstE f)] ∧ w.grownBy w' (some g) := by
  obtain ⟨i0, hi, hz0, hz1, hz2⟩ := info_parts Try.infoInt'
  have R := Lib.hid hr
  have lg := hg.lt
  clear hr
  rw [amts_len]
  go_enter Try.func39, Try.ntmps39
  go_wp2_with (at_make; refine wpList_make_own _ rfl _ _ 50 rfl w.heap.size 3 i0 _ 1 Try.underlying50 hi hz0 hz1 .i64 .i64 _ l.length rfl rfl rfl (by rw [hz2]; omega) (by unfold maxLen; omega) (Nat.le_refl _) ?_)
  intro w1 own1 g1
  have hb1 : w.grownBy w1 (some g) := ⟨g1.os, g1.tape, g1.output, g1.size, fun b hb _ => g1.block b hb (by simp)⟩
  have bx1 := hg.grown g1 (by simp)
  have sz1 := g1.size
  clear hg g1
  go_wp2
  go_loopw [4, 12] (fun o i wr => ∃ (k : Nat) (A' : Option Addr) (c' : Nat), k ≤ l.length ∧ o = .slice A' k c' ∧ i = .int .i64 k ∧ wr.ownsRow w.heap.size 3 1 (.slice A' k c') k (ivals (amts (l.take k))) ∧ Box wr g 22 #[.int .i64 ((l.take k).foldl fstE f)] ∧ w.grownBy wr (some g)) (fun _ i _ => l.length - (intOf i).toNat)
  case atStart => exact ⟨0, _, _, by omega, rfl, rfl, own1, bx1, hb1⟩
  case round =>
    clear own1 bx1 hb1 sz1
    obtain ⟨k, A', c', hk, rfl, rfl, hown, bx, hb⟩ := hrel
    by_cases hkn : k < l.length
    · obtain ⟨b0, off, rfl, hbl, hc⟩ := (R.out wr hb).get (by omega)
      have d0 := hc k hkn 0 _ rfl
      have d1 := hc k hkn 1 _ rfl
      have HS := Lib.hid (amts_snoc l k hkn)
      have HF : (l.take (k + 1)).foldl fstE f = if (l.take k).foldl fstE f = 0 then l[k].e else (l.take k).foldl fstE f := fst_snoc l f k hkn
      clear hc
      generalize l[k] = x at *
      obtain ⟨xn, xe⟩ := x
      dsimp only at d0 d1 HS HF
      rw [show VlE.n = 2 from rfl, Nat.add_zero] at d0
      rw [show VlE.n = 2 from rfl, ← Nat.add_assoc] at d1
      generalize hq : (l.take k).foldl fstE f = q at *
      replace hq := Lib.hid hq
      have bw := bx.alloc (.cells #[.int .i64 xn, .int .i64 xe] 24)
      have own6 := hown.alloc (.cells #[.int .i64 xn, .int .i64 xe] 24)
      have hb6 := grown_new hb (World.grownBy_alloc wr (.cells #[.int .i64 xn, .int .i64 xe] 24) none) (fun b e => by cases e)
      have x6 := Box.new wr 24 #[.int .i64 xn, .int .i64 xe]
      have kg := bx.cells
      have fg := bx.free
      have lgr := bx.lt
      have hszw := hb.size
      have hsz6 : w.heap.size ≤ (wr.alloc (.cells #[.int .i64 xn, .int .i64 xe] 24)).heap.size := by rw [World.size_alloc]; omega
      have hszs : w.heap.size ≤ ((wr.setCell ⟨g, 0, none⟩ (.int .i64 xe)).alloc (.cells #[.int .i64 xn, .int .i64 xe] 24)).heap.size := by rw [World.size_alloc, World.size_setCell]; omega
      by_cases hq0 : q = 0
      · subst hq0
        rw [if_pos rfl] at HF
        replace HF := Lib.hid HF
        have bs := (bx.set 0 (.int .i64 xe)).alloc (.cells #[.int .i64 xn, .int .i64 xe] 24)
        have xs := Box.new (wr.setCell ⟨g, 0, none⟩ (.int .i64 xe)) 24 #[.int .i64 xn, .int .i64 xe]
        rw [World.size_setCell] at xs
        have owns := (hown.kept (grownBy_setCell' _ g (.int .i64 xe)) (.inr (own_ne_box hown bx (by decide)).symm)).alloc (.cells #[.int .i64 xn, .int .i64 xe] 24)
        have hbs := grown_new (grown_same hb (grownBy_setCell' wr g (.int .i64 xe))) (World.grownBy_alloc _ (.cells #[.int .i64 xn, .int .i64 xe] 24) none) (fun b e => by cases e)
        have ks := xs.cells
        clear hown bx hb own6 hb6 bw x6
        have z1 : Box (((wr.setCell ⟨g, 0, none⟩ (.int .i64 xe)).alloc (.cells #[.int .i64 xn, .int .i64 xe] 24)).alloc (.cells #[.int .i64 xn] 3)) (wr.heap.size + 1) 3 #[.int .i64 xn] := Box.new' (by simp)
        have ownt := owns.alloc (.cells #[.int .i64 xn] 3)
        have hszt : w.heap.size ≤ (((wr.setCell ⟨g, 0, none⟩ (.int .i64 xe)).alloc (.cells #[.int .i64 xn, .int .i64 xe] 24)).alloc (.cells #[.int .i64 xn] 3)).heap.size := by rw [World.size_alloc]; omega
        go_wp2_with (at_builtin; refine wpList_append_rowN rfl _ _ 50 rfl w.heap.size 3 i0 _ 1 8 Try.underlying50 hi hz0 hz1 hz2 rfl (by decide) _ k (ivals (amts (l.take k))) rfl ownt (some ⟨wr.heap.size + 1, 0, none⟩) 1 1 [Value.int .i64 xn] rfl rfl (row_one z1) (ivals_one [xn]) (by unfold maxLen; omega) (by omega) hszt ?_)
        intro A4 c4 w4 hown4 hr4
        have bx4 := (bs.alloc _).grown hr4 (own_ne_box ownt (bs.alloc _) (by decide))
        have hb4 := grown_new (grown_new hbs (World.grownBy_alloc _ (.cells #[.int .i64 xn] 3) none) (fun b e => by cases e)) hr4 (fun k hk => (ownt.lt k hk).1)
        clear owns ownt hr4 hbs bs z1
        go_wp2
        go_roundw
        case rel => exact ⟨k + 1, A4, c4, by omega, rfl, by go_num, by rw [HS.out, ivals_append]; exact hown4, by rw [HF.out]; exact bx4, hb4⟩
        case measure => simp [intOf]; omega
      · rw [if_neg hq0] at HF
        replace HF := Lib.hid HF
        have hqe : (q == 0) = false := by simpa using hq0
        have ks := x6.cells
        clear hown bx hb
        have z1 : Box ((wr.alloc (.cells #[.int .i64 xn, .int .i64 xe] 24)).alloc (.cells #[.int .i64 xn] 3)) (wr.heap.size + 1) 3 #[.int .i64 xn] := Box.new' (by simp)
        have ownt := own6.alloc (.cells #[.int .i64 xn] 3)
        have hszt : w.heap.size ≤ ((wr.alloc (.cells #[.int .i64 xn, .int .i64 xe] 24)).alloc (.cells #[.int .i64 xn] 3)).heap.size := by rw [World.size_alloc]; omega
        go_wp2_with (at_builtin; refine wpList_append_rowN rfl _ _ 50 rfl w.heap.size 3 i0 _ 1 8 Try.underlying50 hi hz0 hz1 hz2 rfl (by decide) _ k (ivals (amts (l.take k))) rfl ownt (some ⟨wr.heap.size + 1, 0, none⟩) 1 1 [Value.int .i64 xn] rfl rfl (row_one z1) (ivals_one [xn]) (by unfold maxLen; omega) (by omega) hszt ?_)
        intro A4 c4 w4 hown4 hr4
        have bx4 := (bw.alloc _).grown hr4 (own_ne_box ownt (bw.alloc _) (by decide))
        have hb4 := grown_new (grown_new hb6 (World.grownBy_alloc _ (.cells #[.int .i64 xn] 3) none) (fun b e => by cases e)) hr4 (fun k hk => (ownt.lt k hk).1)
        clear own6 ownt hr4 hb6 bw z1
        go_wp2
        go_roundw
        case rel => exact ⟨k + 1, A4, c4, by omega, rfl, by go_num, by rw [HS.out, ivals_append]; exact hown4, by rw [HF.out]; exact bx4, hb4⟩
        case measure => simp [intOf]; omega
    · obtain rfl : k = l.length := by omega
      rw [List.take_length] at hown bx
      go_wp2
      go_ret
      exact ⟨A', c', rfl, hown, bx, hb⟩
end
section
variable {A1 A2 : Option Addr} {c1 c2 : Nat} {p m : List Vl} {w : World}
set_option maxRecDepth 100000 in
set_option maxHeartbeats 2000000 in
theorem vnet_any (hp : p.length ≤ 1000) (hm : m.length ≤ 1000) (hbp : I64s (amts p)) (hbm : I64s (amts m)) (hr1 : VlE.Row w A1 p) (hr2 : VlE.Row w A2 m) : Calls Try.prog 27 #[.slice A1 p.length c1, .slice A2 m.length c2] w fun e w' => e = .returned (vv (netV p m)) ∧ Below w.heap.size w w' := by
  have hb0 : Below w.heap.size w ((w.alloc (.cells #[.int .i64 0, .int .i64 0] 24)).alloc (.cells #[.int .i64 0] 22)) := ((Below.refl _ _).alloc (Nat.le_refl _) _).alloc (by simp) _
  have x5 : Box ((w.alloc (.cells #[.int .i64 0, .int .i64 0] 24)).alloc (.cells #[.int .i64 0] 22)) (w.heap.size + 1) 22 #[.int .i64 0] := Box.new' (by simp)
  have x4 : Box ((w.alloc (.cells #[.int .i64 0, .int .i64 0] 24)).alloc (.cells #[.int .i64 0] 22)) w.heap.size 24 #[.int .i64 0, .int .i64 0] := (Box.new w _ _).alloc _
  have hsz0 : ((w.alloc (.cells #[.int .i64 0, .int .i64 0] 24)).alloc (.cells #[.int .i64 0] 22)).heap.size = w.heap.size + 2 := by simp
  have hmf : ∀ (fn : Fn) (first cap : Array Value) (w : World), (Instr.makeFunc fn first cap).run Try.prog w = .ok (.func fn first cap) w := fun _ _ _ _ => rfl
  obtain ⟨W, hW⟩ : ∃ W, W = ((w.alloc (.cells #[.int .i64 0, .int .i64 0] 24)).alloc (.cells #[.int .i64 0] 22)) := ⟨_, rfl⟩
  rw [← hW] at hb0 x5 x4 hsz0
  have up : ∀ w', W.grownBy w' (some (w.heap.size + 1)) → Below w.heap.size w w' := fun w' h => hb0.grown h hb0.size (fun k hk => by injection hk with hk; omega)
  have C1 := vnet1_any (c := c1) (by omega) x5 (fun w' h => hr1.below (up w' h) (Nat.le_refl _))
  have C2 := fun w1 (g1 : W.grownBy w1 (some (w.heap.size + 1))) (x5 : Box w1 (w.heap.size + 1) 22 #[.int .i64 (p.foldl fstE 0)]) => vnet1_any (c := c2) (l := m) (by omega) x5 (fun w' h => hr2.below (up w' (grown_same g1 h)) (Nat.le_refl _))
  have hff : (m.foldl fstE (p.foldl fstE 0)) = faultV (p ++ m) := by rw [← List.foldl_append, fold_fst, if_neg (by simp)]
  have hN := fun (A1 : Option Addr) (c1 : Nat) (A2 : Option Addr) (c2 : Nat) (w : World) h1 h2 => net_any (A := A1) (c := c1) (A' := A2) (c' := c2) (w := w) (l := amts p) (m := amts m) (by rw [amts_len]; omega) (by rw [amts_len]; omega) hbp hbm h1 h2
  have hNV0 : Hid (faultV (p ++ m) = 0 → netV p m = toldV (toldI (sumI (amts p) - sumI (amts m))).1 (toldI (sumI (amts p) - sumI (amts m))).2) := fun h => by unfold netV; rw [if_neg (by rw [h]; decide)]
  have hNV1 : Hid (faultV (p ++ m) ≠ 0 → netV p m = ⟨0, faultV (p ++ m)⟩) := fun h => by unfold netV; rw [if_pos h]
  have TO := Lib.hid fun n e w => vtold_any n e w
  replace C1 := Lib.hid C1
  replace C2 := Lib.hid C2
  replace hN := Lib.hid hN
  have hUP := Lib.hid up
  have hsz := hb0.size
  clear hr1 hr2 up hbp hbm
  go_enter Try.func27, Try.ntmps27
  go_wp2_with fail
  rw [← hW]
  clear hW
  refine C1.out.mono ?_
  rintro e w1 ⟨A3, c3, rfl, own3, x5a, g1⟩
  go_wp2_with fail
  refine (C2.out w1 g1 x5a).mono ?_
  rintro e w2 ⟨A4, c4, rfl, own4, x5, g2⟩
  replace own3 := own3.kept g2 (.inr (own_ne_box own3 x5a (by decide)).symm)
  rw [hff] at x5
  replace x4 := (x4.grown g1 (fun he => by injection he with he; omega)).grown g2 (fun he => by injection he with he; omega)
  have hB := hUP.out w2 (grown_same g1 g2)
  have r3 := RowAt.of_own own3
  have r4 := RowAt.of_own own4
  clear g1 g2 own3 own4 x5a hUP C1 C2
  generalize faultV (p ++ m) = q at *
  generalize (toldI (sumI (amts p) - sumI (amts m))).1 = t1 at *
  generalize (toldI (sumI (amts p) - sumI (amts m))).2 = t2 at *
  have k5 := x5.cells
  have l5 := x5.lt
  by_cases hq : q = 0
  · subst hq
    have hNV := Lib.hid (hNV0.out rfl)
    clear hNV0 hNV1
    have HN := hN.out A3 c3 A4 c4 w2 r3 r4
    rw [amts_len, amts_len] at HN
    rw [amts_len, amts_len]
    replace HN := Lib.hid HN
    clear hN r3 r4
    go_wp2_with fail
    refine HN.out.mono ?_
    rintro e w3 ⟨rfl, b3⟩
    replace x4 := x4.later b3
    replace hB := hB.trans (b3.mono hB.size)
    clear b3 k5 l5 x5 HN
    go_wp2_with fail
    refine (TO.out _ _ _).mono ?_
    rintro e w4 ⟨rfl, b4⟩
    replace x4 := x4.later b4
    replace hB := hB.trans (b4.mono hB.size)
    have k4 := x4.cells
    have f4 := x4.free
    have l4 := x4.lt
    have y4 := (x4.set 0 (.int .i64 (toldV t1 t2).n)).set 1 (.int .i64 (toldV t1 t2).e)
    have j4 := y4.cells
    clear b4 TO y4
    unfold vv
    go_wp2
    refine bodyPost_ret (by unfold results; simp only [Try.results27]; go_simp; rfl) rfl ?_
    exact ⟨by rw [hNV.out]; rfl, (hB.setCell (by simp) _).setCell (by simp) _⟩
  · have hne : (q != 0) = true := by simpa using hq
    have hNV := Lib.hid (hNV1.out hq)
    clear hNV0 hNV1
    clear hN r3 r4 TO
    have k4 := x4.cells
    have f4 := x4.free
    have l4 := x4.lt
    have y4 := (x4.set 0 (.int .i64 0)).set 1 (.int .i64 q)
    have j4 := y4.cells
    clear y4
    go_wp2
    refine bodyPost_ret (by unfold results; simp only [Try.results27]; go_simp; rfl) rfl ?_
    exact ⟨by rw [hNV.out]; rfl, (hB.setCell (by simp) _).setCell (by simp) _⟩
end
end Go.Proofs.Ytioecjoddgpjbaa
