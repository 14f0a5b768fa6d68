/-
  The statements' own example of chapter 22, awake, returns true.
-/
import Derived.Test.YtepegkbikjjkjaaLk3
namespace Go.Proofs.Ytepegkbikjjkjaa
open Go.RowKit

set_option maxRecDepth 100000 in
set_option maxHeartbeats 4000000 in
theorem awake_any (w : World) : Calls Try.prog 4 #[] w fun e w' => e = .returned (.bool true) ∧ Below w.heap.size w w' := by
  have K1 := Lib.hid fun w A (h : RowL w A [(2, 3)]) => check_one (w := w) h
  have D1 := Lib.hid fun w A (h : RowL w A [(2, 3)]) => add_any (cap := 1) (A := A) (a := 2) (b := 4) (n := 2) (w := w) (by simp) h
  have D2 := Lib.hid fun w A (h : RowL w A [(2, 3)]) => add_any (cap := 1) (A := A) (a := 2) (b := 1) (n := 2) (w := w) (by simp) h
  have D3 := Lib.hid fun w A (h : RowL w A [(2, 3)]) => add_any (cap := 1) (A := A) (a := 3) (b := 0) (n := 2) (w := w) (by simp) h
  have L1 := Lib.hid fun w A (h : RowL w A [(2, 3)]) => last_any (c := 1) (A := A) (e := 2) (w := w) (by simp) h
  have L2 := Lib.hid fun w A (h : RowL w A [(2, 3)]) => last_any (c := 1) (A := A) (e := 1) (w := w) (by simp) h
  have Q1 := Lib.hid fun w A A' (h : RowL w A [(2, 3)]) (h' : RowAt w A' (ivals [2])) => locked_any (c := 1) (c' := 1) (A := A) (A' := A') (p := 3) (w := w) (by simp) (by simp) h h'
  have Q2 := Lib.hid fun w A A' (h : RowL w A [(2, 3)]) (h' : RowAt w A' (ivals [2])) => locked_any (c := 1) (c' := 1) (A := A) (A' := A') (p := 4) (w := w) (by simp) (by simp) h h'
  have Q3 := Lib.hid fun w A A' (h : RowL w A [(2, 3)]) (h' : RowAt w A' (ivals [1, 2])) => locked_any (c := 1) (c' := 2) (A := A) (A' := A') (p := 0) (w := w) (by simp) (by simp) h h'
  have Q4 := Lib.hid fun w A (h : RowL w A [(2, 3)]) => locked_any (c := 1) (c' := 0) (A := A) (A' := none) (es := []) (p := 0) (w := w) (by simp) (by simp) h (RowAt.nil _ _)
  have O1 := Lib.hid fun w A (h : RowL w A [(2, 3)]) => open_three (c := 1) (A := A) (p := 2) (w := w) (by simp) h
  have S1 := Lib.hid fun w A A' c (h : RowAt w A (ivals [1, 3])) (h' : RowAt w A' (ivals [1, 3])) => sameInts_any A c [1, 3] A' 2 [1, 3] w (by simp [maxLen]) (by simp [maxLen]) h h'
  rw [show addL [(2, 3)] 2 4 2 = ([(2, 3), (2, 4)], 0) by decide] at D1
  rw [show addL [(2, 3)] 2 1 2 = ([], 35) by decide] at D2
  rw [show addL [(2, 3)] 3 0 2 = ([], 20) by decide] at D3
  rw [show lastI [(2, 3)] 2 = 3 by decide] at L1
  rw [show lastI [(2, 3)] 1 = -1 by decide] at L2
  rw [show anyB [(2, 3)] 3 [2] = true by decide] at Q1
  rw [show anyB [(2, 3)] 4 [2] = false by decide] at Q2
  rw [show anyB [(2, 3)] 0 [1, 2] = true by decide] at Q3
  rw [show anyB [(2, 3)] 0 [] = false by decide] at Q4
  rw [show openTo [(2, 3)] 2 3 = [1, 3] by decide] at O1
  rw [decide_eq_true rfl] at S1
  go_enter Try.func4, Try.ntmps4
  obtain ⟨W0, hW0⟩ : ∃ W0, W0 = w.alloc (.cells #[.int .i64 2, .int .i64 3] 24) := ⟨_, rfl⟩
  have r0 : RowL W0 (some ⟨w.heap.size, 0, none⟩) [(2, 3)] := by rw [hW0]; exact RowAt.lit _ _ rfl
  have B0 : Below w.heap.size w W0 := by rw [hW0]; exact (Below.refl _ _).alloc (Nat.le_refl _) _
  go_wp2_with fail
  rewrite [← hW0]
  clear hW0
  refine (K1.out _ _ r0).mono ?_
  rintro e w1 ⟨rfl, b1⟩
  have r1 := r0.below b1 (Nat.le_refl _)
  have B1 := B0.trans (b1.mono B0.size)
  clear r0 B0 b1
  go_wp2_with fail
  refine (D1.out _ _ r1).mono ?_
  rintro e w2 ⟨A2, c2, rfl, _, b2⟩
  have r2 := r1.below b2 (Nat.le_refl _)
  have B2 := B1.trans (b2.mono B1.size)
  clear r1 B1 b2
  go_wp2_with fail
  refine (D2.out _ _ r2).mono ?_
  rintro e w3 ⟨A3, c3, rfl, _, b3⟩
  have r3 := r2.below b3 (Nat.le_refl _)
  have B3 := B2.trans (b3.mono B2.size)
  clear r2 B2 b3
  go_wp2_with fail
  refine (D3.out _ _ r3).mono ?_
  rintro e w4 ⟨A4, c4, rfl, _, b4⟩
  have r4 := r3.below b4 (Nat.le_refl _)
  have B4 := B3.trans (b4.mono B3.size)
  clear r3 B3 b4
  go_wp2_with fail
  refine (L1.out _ _ r4).mono ?_
  rintro e w5 ⟨rfl, b5⟩
  have r5 := r4.below b5 (Nat.le_refl _)
  have B5 := B4.trans (b5.mono B4.size)
  clear r4 B4 b5
  go_wp2_with fail
  refine (L2.out _ _ r5).mono ?_
  rintro e w6 ⟨rfl, b6⟩
  have r6 := r5.below b6 (Nat.le_refl _)
  have B6 := B5.trans (b6.mono B5.size)
  clear r5 B5 b6
  go_wp2_with fail
  refine (Q1.out _ _ _ (r6.alloc _) (RowAt.lit1 w6 3 2)).mono ?_
  rintro e w7 ⟨rfl, b7⟩
  have b7 := below_up b7
  have r7 := r6.below b7 (Nat.le_refl _)
  have B7 := B6.trans (b7.mono B6.size)
  clear r6 B6 b7
  go_wp2_with fail
  refine (Q2.out _ _ _ (r7.alloc _) (RowAt.lit1 w7 3 2)).mono ?_
  rintro e w8 ⟨rfl, b8⟩
  have b8 := below_up b8
  have r8 := r7.below b8 (Nat.le_refl _)
  have B8 := B7.trans (b8.mono B7.size)
  clear r7 B7 b8
  go_wp2_with fail
  refine (Q3.out _ _ _ (r8.alloc _) (RowAt.lit (w := w8) (t := 3) [1, 2] #[.int .i64 1, .int .i64 2] rfl)).mono ?_
  rintro e w9 ⟨rfl, b9⟩
  have b9 := below_up b9
  have r9 := r8.below b9 (Nat.le_refl _)
  have B9 := B8.trans (b9.mono B8.size)
  clear r8 B8 b9
  go_wp2_with fail
  refine (Q4.out _ _ r9).mono ?_
  rintro e w10 ⟨rfl, b10⟩
  have r10 := r9.below b10 (Nat.le_refl _)
  have B10 := B9.trans (b10.mono B9.size)
  clear r9 B9 b10
  go_wp2_with fail
  refine (O1.out _ _ r10).mono ?_
  rintro e w11 ⟨A11, c11, rfl, ra, b11⟩
  have B11 := B10.trans (b11.mono B10.size)
  clear r10 B10 b11
  go_wp2_with fail
  refine (S1.out _ _ _ _ (ra.alloc _) (RowAt.lit (w := w11) (t := 3) [1, 3] #[.int .i64 1, .int .i64 3] rfl)).mono ?_
  rintro e w12 ⟨rfl, n12, rfl⟩
  have B12 := B11.alloc B11.size (.cells #[.int .i64 1, .int .i64 3] 3)
  clear B11 ra
  go_wp2
  go_ret
  exact ⟨rfl, below_drewN B12 n12⟩
end Go.Proofs.Ytepegkbikjjkjaa
