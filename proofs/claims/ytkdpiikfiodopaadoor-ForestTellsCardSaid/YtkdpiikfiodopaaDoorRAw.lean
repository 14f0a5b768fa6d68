/-
  The statements' own example of chapter 4, awake, returns true.
-/
import Derived.Test.YtkdpiikfiodopaaDoorRc
namespace Go.Proofs.YtkdpiikfiodopaaDoor
open Go.RowKit

set_option maxRecDepth 100000 in
set_option maxHeartbeats 1000000 in
theorem rawake_any (w : World) (T : Tb w) : Calls Tryd.prog 15 #[] w fun e w' => e = .returned (.bool true) ∧ Below w.heap.size w w' := by
  have T1 : Hid (∀ w, Tb w → Calls Tryd.prog 11 #[.agg #[.int .i64 2, .int .i64 3], .agg #[.int .i64 3, .int .i64 4]] w fun e w' => e = .returned (.tuple #[.agg #[.int .i64 1, .int .i64 2], .int .i64 0]) ∧ Below w.heap.size w w') := Lib.hid fun w T => by
    have h := rtimes_any 2 3 3 4 w T
    rw [show timesI 2 3 3 4 = ((1, 2), 0) by decide +kernel] at h
    exact h
  have T2 : Hid (∀ w, Tb w → Calls Tryd.prog 11 #[.agg #[.int .i64 1000000000000, .int .i64 1], .agg #[.int .i64 2, .int .i64 1]] w fun e w' => e = .returned (.tuple #[.agg #[.int .i64 0, .int .i64 0], .int .i64 10]) ∧ Below w.heap.size w w') := Lib.hid fun w T => by
    have h := rtimes_any 1000000000000 1 2 1 w T
    rw [show timesI 1000000000000 1 2 1 = ((0, 0), 10) by decide +kernel] at h
    exact h
  have I1 : Hid (∀ w, Tb w → Calls Tryd.prog 9 #[.agg #[.int .i64 2, .int .i64 6]] w fun e w' => e = .returned (.tuple #[.agg #[.int .i64 3, .int .i64 1], .int .i64 0]) ∧ Below w.heap.size w w') := Lib.hid fun w T => by
    have h := inverse_any 2 6 w T
    rw [show invI 2 6 = ((3, 1), 0) by decide +kernel] at h
    exact h
  have A1 : Hid (∀ w, Calls Tryd.prog 13 #[.int .i64 7, .agg #[.int .i64 1, .int .i64 2]] w fun e w' => e = .returned (.tuple #[.int .i64 4, .int .i64 0]) ∧ Below w.heap.size w w') := Lib.hid fun w => by
    have h := apply_any 7 1 2 w (by omega) (by omega)
    rw [show applyI 7 1 2 = (4, 0) by decide +kernel] at h
    exact h
  have A2 : Hid (∀ w, Calls Tryd.prog 13 #[.int .i64 7, .agg #[.int .i64 0, .int .i64 0]] w fun e w' => e = .returned (.tuple #[.int .i64 0, .int .i64 11]) ∧ Below w.heap.size w w') := Lib.hid fun w => by
    have h := apply_any 7 0 0 w (by omega) (by omega)
    rw [show applyI 7 0 0 = (0, 11) by decide +kernel] at h
    exact h
  have C1 : Hid (∀ w, Calls Tryd.prog 41 #[.agg #[.int .i64 1, .int .i64 2]] w fun e w' => e = .returned (.int .i64 0) ∧ Below w.heap.size w w') := Lib.hid fun w => by
    have h := check_any 1 2 w
    rw [show chkI 1 2 = 0 by decide +kernel] at h
    exact h
  have C2 : Hid (∀ w, Calls Tryd.prog 41 #[.agg #[.int .i64 1, .int .i64 0]] w fun e w' => e = .returned (.int .i64 11) ∧ Below w.heap.size w w') := Lib.hid fun w => by
    have h := check_any 1 0 w
    rw [show chkI 1 0 = 11 by decide +kernel] at h
    exact h
  have N1 : Hid (∀ w, Tb w → Calls Tryd.prog 42 #[.agg #[.int .i64 6, .int .i64 4]] w fun e w' => e = .returned (.agg #[.int .i64 3, .int .i64 2]) ∧ Below w.heap.size w w') := Lib.hid fun w T => by
    have h := norm_any 6 4 w T
    rw [show normI 6 4 = (3, 2) by decide +kernel] at h
    exact h
  have S1 : Hid (∀ w, Tb w → Calls Tryd.prog 52 #[.agg #[.int .i64 1, .int .i64 2], .agg #[.int .i64 2, .int .i64 4]] w fun e w' => e = .returned (.bool true) ∧ Below w.heap.size w w') := Lib.hid fun w T => by
    have h := same_any 1 2 2 4 w T
    rw [show sameI 1 2 2 4 = true by decide +kernel] at h
    exact h
  have L1 : Hid (∀ w, Calls Tryd.prog 53 #[.agg #[.int .i64 1, .int .i64 2], .agg #[.int .i64 2, .int .i64 3]] w fun e w' => e = .returned (.bool true) ∧ Below w.heap.size w w') := Lib.hid fun w => by
    have h := less_any 1 2 2 3 w
    rw [show lessI 1 2 2 3 = true by decide +kernel] at h
    exact h
  have L2 : Hid (∀ w, Calls Tryd.prog 53 #[.agg #[.int .i64 1, .int .i64 2], .agg #[.int .i64 1, .int .i64 2]] w fun e w' => e = .returned (.bool false) ∧ Below w.heap.size w w') := Lib.hid fun w => by
    have h := less_any 1 2 1 2 w
    rw [show lessI 1 2 1 2 = false by decide +kernel] at h
    exact h
  have E1 : ∀ w, (Op.equalIn 10000 23 (.agg #[.int .i64 1, .int .i64 2]) (.agg #[.int .i64 1, .int .i64 2])).run Tryd.prog w = .ok true w := fun w => by rw [req]; simp
  have E2 : ∀ w, (Op.equalIn 10000 23 (.agg #[.int .i64 3, .int .i64 1]) (.agg #[.int .i64 3, .int .i64 1])).run Tryd.prog w = .ok true w := fun w => by rw [req]; simp
  have E3 : ∀ w, (Op.equalIn 10000 23 (.agg #[.int .i64 3, .int .i64 2]) (.agg #[.int .i64 3, .int .i64 2])).run Tryd.prog w = .ok true w := fun w => by rw [req]; simp
  go_enter Tryd.func15, Tryd.ntmps15
  have B0 := Below.refl w.heap.size w
  go_wp2_with fail
  refine (T1.out _ (T.alloc _)).mono ?_
  rintro e w1 ⟨rfl, b1⟩
  have x1 := (Box.new w 23 #[.int .i64 1, .int .i64 2]).later b1
  replace T := (T.alloc _).below b1 (Nat.le_refl _)
  have b1 := below_up b1
  have B1 := B0.trans (b1.mono B0.size)
  clear b1 B0
  go_wp2_with fail
  refine (I1.out _ (T.alloc _)).mono ?_
  rintro e w2 ⟨rfl, b2⟩
  have x2 := (Box.new w1 23 #[.int .i64 1, .int .i64 2]).later b2
  replace T := (T.alloc _).below b2 (Nat.le_refl _)
  replace x1 := (x1.alloc _).later b2
  have b2 := below_up b2
  have B2 := B1.trans (b2.mono B1.size)
  clear b2 B1
  have hx1 := (x1.alloc (.cells #[.int .i64 3, .int .i64 1] 23)).cells
  have hl1 := (x1.alloc (.cells #[.int .i64 3, .int .i64 1] 23)).lt
  go_wp2_with fail
  refine (A1.out _).mono ?_
  rintro e w3 ⟨rfl, b3⟩
  have x4 := (Box.new w2 23 #[.int .i64 3, .int .i64 1]).later b3
  replace T := (T.alloc _).below b3 (Nat.le_refl _)
  replace x1 := (x1.alloc _).later b3
  replace x2 := (x2.alloc _).later b3
  have b3 := below_up b3
  have B3 := B2.trans (b3.mono B2.size)
  clear b3 B2
  clear hx1 hl1
  go_wp2_with fail
  refine (A2.out _).mono ?_
  rintro e w4 ⟨rfl, b4⟩
  replace T := T.below b4 (Nat.le_refl _)
  replace x1 := x1.later b4
  replace x2 := x2.later b4
  replace x4 := x4.later b4
  have B4 := B3.trans (b4.mono B3.size)
  clear b4 B3
  go_wp2_with fail
  refine (T2.out _ T).mono ?_
  rintro e w5 ⟨rfl, b5⟩
  replace T := T.below b5 (Nat.le_refl _)
  replace x1 := x1.later b5
  replace x2 := x2.later b5
  replace x4 := x4.later b5
  have B5 := B4.trans (b5.mono B4.size)
  clear b5 B4
  have k1 := x1.cells
  have k2 := x2.cells
  have k4 := x4.cells
  have l1 := x1.lt
  have l2 := x2.lt
  have l4 := x4.lt
  go_wp2_with fail
  refine (C1.out _).mono ?_
  rintro e w6 ⟨rfl, b6⟩
  replace T := (T.alloc _).below b6 (Nat.le_refl _)
  replace x1 := (x1.alloc _).later b6
  replace x2 := (x2.alloc _).later b6
  replace x4 := (x4.alloc _).later b6
  have b6 := below_up b6
  have B6 := B5.trans (b6.mono B5.size)
  clear b6 B5
  clear k1 k2 k4 l1 l2 l4
  clear x2 x4
  have k1 := x1.cells
  have l1 := x1.lt
  go_wp2_with fail
  refine (C2.out _).mono ?_
  rintro e w7 ⟨rfl, b7⟩
  replace T := T.below b7 (Nat.le_refl _)
  replace x1 := x1.later b7
  have B7 := B6.trans (b7.mono B6.size)
  clear b7 B6
  clear k1 l1
  have k1 := x1.cells
  have l1 := x1.lt
  go_wp2_with fail
  refine (N1.out _ T).mono ?_
  rintro e w8 ⟨rfl, b8⟩
  replace T := T.below b8 (Nat.le_refl _)
  replace x1 := x1.later b8
  have B8 := B7.trans (b8.mono B7.size)
  clear b8 B7
  clear k1 l1
  have k1 := x1.cells
  have l1 := x1.lt
  go_wp2_with fail
  refine (S1.out _ T).mono ?_
  rintro e w9 ⟨rfl, b9⟩
  replace T := T.below b9 (Nat.le_refl _)
  replace x1 := x1.later b9
  have B9 := B8.trans (b9.mono B8.size)
  clear b9 B8
  clear k1 l1
  have k1 := x1.cells
  have l1 := x1.lt
  go_wp2_with fail
  refine (L1.out _).mono ?_
  rintro e w10 ⟨rfl, b10⟩
  replace T := T.below b10 (Nat.le_refl _)
  replace x1 := x1.later b10
  have B10 := B9.trans (b10.mono B9.size)
  clear b10 B9
  clear k1 l1
  have k1 := x1.cells
  have l1 := x1.lt
  go_wp2_with fail
  refine (L2.out _).mono ?_
  rintro e w11 ⟨rfl, b11⟩
  replace T := T.below b11 (Nat.le_refl _)
  replace x1 := x1.later b11
  have B11 := B10.trans (b11.mono B10.size)
  clear b11 B10
  clear k1 l1
  go_wp2
  go_ret
  exact ⟨rfl, B11⟩
end Go.Proofs.YtkdpiikfiodopaaDoor
