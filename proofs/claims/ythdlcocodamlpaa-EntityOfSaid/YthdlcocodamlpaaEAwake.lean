/-
  The statements' own example of chapter 17, awake, returns true.
-/
import Derived.Test.YthdlcocodamlpaaEnt2
namespace Go.Proofs.Ythdlcocodamlpaa
open Go.RowKit

theorem RowAt.lit {w : World} {t : TypeId} (l : List Int) (cs : Array Value) (h : cs = (ivals l).toArray) : RowAt (w.alloc (.cells cs t)) (some ⟨w.heap.size, 0, none⟩) (ivals l) := by
  subst h
  refine RowAt.of_cells fun j u hj => ?_
  rw [addr_add, (Box.new w t _).cells]
  simpa using hj
theorem below_up {w w' : World} {o : Obj} (h : Below (w.alloc o).heap.size (w.alloc o) w') : Below w.heap.size w w' :=
  ((Below.refl _ _).alloc (Nat.le_refl _) o).trans (h.mono (by simp))
theorem below_undrewN {w w' : World} {k : Nat} (h : Below (w.drewN k).heap.size (w.drewN k) w') : Below w.heap.size w w' := ⟨h.os, h.tape, h.output, h.size, h.block⟩

set_option maxRecDepth 100000 in
set_option maxHeartbeats 2000000 in
theorem awake_any (w : World) : Calls Try.prog 6 #[] w fun e w' => e = .returned (.bool true) ∧ Below w.heap.size w w' := by
  have K1 := Lib.hid fun w A (h : RowAt w A (ivals [2, 1, 2])) => check_any (c := 3) (A := A) (w := w) (by simp) h
  have K2 := Lib.hid fun w A (h : RowAt w A (ivals [1, 9])) => check_any (c := 2) (A := A) (w := w) (by simp) h
  have U1 := Lib.hid fun w A (h : RowAt w A (ivals [2, 1, 2])) => cur_any (c := 3) (A := A) (n := 2) (w := w) (by simp) h
  have U2 := Lib.hid fun w A (h : RowAt w A (ivals [2, 1, 2])) => cur_any (c := 3) (A := A) (n := 4) (w := w) (by simp) h
  have D1 := Lib.hid fun w A (h : RowAt w A (ivals [2, 1, 2])) => add_any (cap := 3) (A := A) (c := 8) (w := w) (by simp) h
  have D2 := Lib.hid fun w A (h : RowAt w A (ivals [2, 1, 2])) => add_any (cap := 3) (A := A) (c := 0) (w := w) (by simp) h
  have O1 := Lib.hid fun w A A' (h : RowAt w A (ivals [2, 1, 2])) (h' : RowAt w A' (ivals [2])) => of_any (c := 3) (c' := 1) (A := A) (A' := A') (w := w) (by simp) (by simp) h h'
  have O2 := Lib.hid fun w A (h : RowAt w A (ivals [2, 1, 2])) => of_any (c := 3) (c' := 0) (A := A) (A' := none) (cs := []) (w := w) (by simp) (by simp) h (RowAt.nil _ _)
  have S1 := Lib.hid fun w A A' c (h : RowAt w A (ivals [2, 1, 2, 8])) (h' : RowAt w A' (ivals [2, 1, 2, 8])) => sameInts_any A c [2, 1, 2, 8] A' 4 [2, 1, 2, 8] w (by simp [maxLen]) (by simp [maxLen]) h h'
  have S2 := Lib.hid fun w A A' c (h : RowAt w A (ivals [1, 3])) (h' : RowAt w A' (ivals [1, 3])) => sameInts_any A c [1, 3] A' 2 [1, 3] w (by simp [maxLen]) (by simp [maxLen]) h h'
  rw [show chkI [2, 1, 2] = (3, 0) by decide] at K1
  rw [show chkI [1, 9] = (1, 23) by decide] at K2
  rw [show curI [2, 1, 2] 2 = (1, 0) by decide] at U1
  rw [show curI [2, 1, 2] 4 = (0, 20) by decide] at U2
  rw [show addI [2, 1, 2] 8 = ([2, 1, 2, 8], 0) by decide] at D1
  rw [show addI [2, 1, 2] 0 = ([], 23) by decide] at D2
  rw [show ofTo [2, 1, 2] [2] ([2, 1, 2] : List Int).length = [1, 3] by decide] at O1
  rw [show ofTo [2, 1, 2] [] ([2, 1, 2] : List Int).length = [] by decide] at O2
  rw [decide_eq_true rfl] at S1 S2
  go_enter Try.func6, Try.ntmps6
  obtain ⟨W0, hW0⟩ : ∃ W0, W0 = w.alloc (.cells #[.int .i64 2, .int .i64 1, .int .i64 2] 3) := ⟨_, rfl⟩
  have r0 : RowAt W0 (some ⟨w.heap.size, 0, none⟩) (ivals [2, 1, 2]) := by rw [hW0]; exact RowAt.lit _ _ rfl
  have B0 : Below w.heap.size w W0 := by rw [hW0]; exact (Below.refl _ _).alloc (Nat.le_refl _) _
  go_wp2_with fail
  rewrite [← hW0]
  clear hW0
  refine (K1.out _ _ r0).mono ?_
  rintro e _ ⟨rfl, rfl⟩
  go_wp2_with fail
  refine (K2.out _ _ (RowAt.lit (w := W0) (t := 3) [1, 9] #[.int .i64 1, .int .i64 9] rfl)).mono ?_
  rintro e _ ⟨rfl, rfl⟩
  have r1 := r0.alloc (.cells #[.int .i64 1, .int .i64 9] 3)
  have B1 := B0.alloc B0.size (.cells #[.int .i64 1, .int .i64 9] 3)
  clear r0 B0
  generalize W0.alloc (.cells #[.int .i64 1, .int .i64 9] 3) = W1 at *
  go_wp2_with fail
  refine (U1.out _ _ r1).mono ?_
  rintro e _ ⟨rfl, rfl⟩
  go_wp2_with fail
  refine (U2.out _ _ r1).mono ?_
  rintro e _ ⟨rfl, rfl⟩
  go_wp2_with fail
  refine (D1.out _ _ r1).mono ?_
  rintro e w2 ⟨A2, c2, rfl, _, _, ra, b2⟩
  have r2 := r1.below b2 (Nat.le_refl _)
  have B2 := B1.trans (b2.mono B1.size)
  clear r1 B1 b2
  go_wp2_with fail
  refine (D2.out _ _ r2).mono ?_
  rintro e w3 ⟨A3, c3, rfl, _, _, _, b3⟩
  have r3 := r2.below b3 (Nat.le_refl _)
  have ra := ra.below b3 (Nat.le_refl _)
  have B3 := B2.trans (b3.mono B2.size)
  clear r2 B2 b3
  go_wp2_with fail
  refine (S1.out _ _ _ _ (ra.alloc _) (RowAt.lit (w := w3) (t := 3) [2, 1, 2, 8] #[.int .i64 2, .int .i64 1, .int .i64 2, .int .i64 8] rfl)).mono ?_
  rintro e w4 ⟨rfl, n4, rfl⟩
  have r4 := (r3.alloc (.cells #[.int .i64 2, .int .i64 1, .int .i64 2, .int .i64 8] 3)).drewN n4
  have B4 := below_drewN (B3.alloc B3.size (.cells #[.int .i64 2, .int .i64 1, .int .i64 2, .int .i64 8] 3)) n4
  clear r3 B3 ra
  generalize (w3.alloc (.cells #[.int .i64 2, .int .i64 1, .int .i64 2, .int .i64 8] 3)).drewN n4 = W4 at *
  go_wp2_with fail
  refine (O1.out _ _ _ (r4.alloc _) (RowAt.lit (w := W4) (t := 3) [2] #[.int .i64 2] rfl)).mono ?_
  rintro e w5 ⟨A5, c5, rfl, _, _, own5, b5⟩
  have r5 := (r4.alloc _).below b5 (Nat.le_refl _)
  have B5 := B4.trans ((below_up b5).mono B4.size)
  have ra := RowAt.of_own own5
  clear r4 B4 b5 own5
  go_wp2_with fail
  refine (S2.out _ _ _ _ (ra.alloc _) (RowAt.lit (w := w5) (t := 3) [1, 3] #[.int .i64 1, .int .i64 3] rfl)).mono ?_
  rintro e w6 ⟨rfl, n6, rfl⟩
  have r6 := (r5.alloc (.cells #[.int .i64 1, .int .i64 3] 3)).drewN n6
  have B6 := below_drewN (B5.alloc B5.size (.cells #[.int .i64 1, .int .i64 3] 3)) n6
  clear r5 B5 ra
  generalize (w5.alloc (.cells #[.int .i64 1, .int .i64 3] 3)).drewN n6 = W6 at *
  go_wp2_with fail
  refine (O2.out _ _ r6).mono ?_
  rintro e w7 ⟨A7, c7, rfl, _, _, _, b7⟩
  go_wp2
  go_ret
  exact ⟨rfl, B6.trans (b7.mono B6.size)⟩
end Go.Proofs.Ythdlcocodamlpaa
