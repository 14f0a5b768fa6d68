/-
  ShareRises: the walk.
-/
import Derived.Test.YtkjdkhcpeaepoaaDoorShAw
namespace Go.Proofs.YtkjdkhcpeaepoaaDoor
open Go.RowKit

set_option maxRecDepth 100000 in
set_option maxHeartbeats 1000000 in
theorem srises_no1 (x y s t : Int) (w : World) (T : Tb w) (AW : Hid (∀ w, Tb w → Calls Tryd.prog 32 #[] w fun e w' => e = .returned (.bool true) ∧ Below w.heap.size w w')) (CA : Hid (∀ w, Calls Tryd.prog 30 #[.int .i64 s] w fun e w' => e = .returned (.int .i64 12) ∧ w = w')) :
    Calls Tryd.prog 10 #[.int .i64 x, .int .i64 y, .agg #[.int .i64 s, .int .i64 t]] w fun e w' => e = .returned (.bool true) ∧ Below w.heap.size w w' := by
  go_enter Tryd.func10, Tryd.ntmps10
  go_upto_region 1 with fail
  obtain ⟨W1, hW1⟩ : ∃ W1, W1 = w.alloc (.cells #[.int .i64 s, .int .i64 t] 57) := ⟨_, rfl⟩
  have x5 : Box W1 w.heap.size 57 #[.int .i64 s, .int .i64 t] := by rw [hW1]; exact Box.new _ _ _
  have B1 : Below w.heap.size w W1 := by rw [hW1]; exact (Below.refl _ _).alloc (Nat.le_refl _) _
  replace T : Tb W1 := by rw [hW1]; exact T.alloc _
  rewrite [← hW1]
  clear hW1
  have k5 := x5.cells
  have l5 := x5.lt
  go_wp2_with fail
  refine (CA.out _).mono ?_
  rintro e _ ⟨rfl, rfl⟩
  clear k5 l5
  go_wp2_with fail
  refine (AW.out _ T).mono ?_
  rintro e w6 ⟨rfl, b6⟩
  replace x5 := x5.later b6
  replace T := T.below b6 (Nat.le_refl _)
  have B2 := B1.trans (b6.mono B1.size)
  clear b6 B1
  go_wp2
  go_ret
  exact ⟨rfl, B2⟩

set_option maxRecDepth 100000 in
set_option maxHeartbeats 1000000 in
theorem srises_no2 (x y s t : Int) (w : World) (T : Tb w) (AW : Hid (∀ w, Tb w → Calls Tryd.prog 32 #[] w fun e w' => e = .returned (.bool true) ∧ Below w.heap.size w w')) (CA : Hid (∀ w, Calls Tryd.prog 30 #[.int .i64 s] w fun e w' => e = .returned (.int .i64 0) ∧ w = w')) (CB : Hid (∀ w, Calls Tryd.prog 30 #[.int .i64 t] w fun e w' => e = .returned (.int .i64 12) ∧ w = w')) :
    Calls Tryd.prog 10 #[.int .i64 x, .int .i64 y, .agg #[.int .i64 s, .int .i64 t]] w fun e w' => e = .returned (.bool true) ∧ Below w.heap.size w w' := by
  go_enter Tryd.func10, Tryd.ntmps10
  go_upto_region 1 with fail
  obtain ⟨W1, hW1⟩ : ∃ W1, W1 = w.alloc (.cells #[.int .i64 s, .int .i64 t] 57) := ⟨_, rfl⟩
  have x5 : Box W1 w.heap.size 57 #[.int .i64 s, .int .i64 t] := by rw [hW1]; exact Box.new _ _ _
  have B1 : Below w.heap.size w W1 := by rw [hW1]; exact (Below.refl _ _).alloc (Nat.le_refl _) _
  replace T : Tb W1 := by rw [hW1]; exact T.alloc _
  rewrite [← hW1]
  clear hW1
  have k5 := x5.cells
  have l5 := x5.lt
  go_wp2_with fail
  refine (CA.out _).mono ?_
  rintro e _ ⟨rfl, rfl⟩
  go_wp2_with fail
  refine (CB.out _).mono ?_
  rintro e _ ⟨rfl, rfl⟩
  clear k5 l5
  go_wp2_with fail
  refine (AW.out _ T).mono ?_
  rintro e w6 ⟨rfl, b6⟩
  replace x5 := x5.later b6
  replace T := T.below b6 (Nat.le_refl _)
  have B2 := B1.trans (b6.mono B1.size)
  clear b6 B1
  go_wp2
  go_ret
  exact ⟨rfl, B2⟩

set_option maxRecDepth 100000 in
set_option maxHeartbeats 2000000 in
theorem srises_yes (x y s t a b c : Int) (w : World) (T : Tb w) (AW : Hid (∀ w, Tb w → Calls Tryd.prog 32 #[] w fun e w' => e = .returned (.bool true) ∧ Below w.heap.size w w')) (CA : Hid (∀ w, Calls Tryd.prog 30 #[.int .i64 s] w fun e w' => e = .returned (.int .i64 0) ∧ w = w')) (CB : Hid (∀ w, Calls Tryd.prog 30 #[.int .i64 t] w fun e w' => e = .returned (.int .i64 0) ∧ w = w')) (P1 : Hid (∀ w, Calls Tryd.prog 26 #[.int .i64 x, .int .i64 s] w fun e w' => e = .returned (.tuple #[.int .i64 a, .int .i64 0]) ∧ Below w.heap.size w w')) (P2 : Hid (∀ w, Calls Tryd.prog 26 #[.int .i64 x, .int .i64 t] w fun e w' => e = .returned (.tuple #[.int .i64 b, .int .i64 0]) ∧ Below w.heap.size w w')) (P3 : Hid (∀ w, Calls Tryd.prog 26 #[.int .i64 y, .int .i64 s] w fun e w' => e = .returned (.tuple #[.int .i64 c, .int .i64 0]) ∧ Below w.heap.size w w'))
    (h1 : Hid (0 ≤ x → s ≤ t → a ≤ b)) (h2 : Hid (x ≤ y → a ≤ c)) :
    Calls Tryd.prog 10 #[.int .i64 x, .int .i64 y, .agg #[.int .i64 s, .int .i64 t]] w fun e w' => e = .returned (.bool true) ∧ Below w.heap.size w w' := by
  go_enter Tryd.func10, Tryd.ntmps10
  go_upto_region 1 with fail
  obtain ⟨W1, hW1⟩ : ∃ W1, W1 = w.alloc (.cells #[.int .i64 s, .int .i64 t] 57) := ⟨_, rfl⟩
  have x5 : Box W1 w.heap.size 57 #[.int .i64 s, .int .i64 t] := by rw [hW1]; exact Box.new _ _ _
  have B1 : Below w.heap.size w W1 := by rw [hW1]; exact (Below.refl _ _).alloc (Nat.le_refl _) _
  replace T : Tb W1 := by rw [hW1]; exact T.alloc _
  rewrite [← hW1]
  clear hW1
  have k5 := x5.cells
  have l5 := x5.lt
  go_wp2_with fail
  refine (CA.out _).mono ?_
  rintro e _ ⟨rfl, rfl⟩
  go_wp2_with fail
  refine (CB.out _).mono ?_
  rintro e _ ⟨rfl, rfl⟩
  clear k5 l5
  have k5 := x5.cells
  have l5 := x5.lt
  go_wp2_with fail
  refine (P1.out _).mono ?_
  rintro e w6 ⟨rfl, b6⟩
  replace x5 := x5.later b6
  replace T := T.below b6 (Nat.le_refl _)
  have B2 := B1.trans (b6.mono B1.size)
  clear b6 B1
  clear k5 l5
  have k5 := x5.cells
  have l5 := x5.lt
  go_wp2_with fail
  refine (P2.out _).mono ?_
  rintro e w7 ⟨rfl, b7⟩
  replace x5 := x5.later b7
  replace T := T.below b7 (Nat.le_refl _)
  have B3 := B2.trans (b7.mono B2.size)
  clear b7 B2
  clear k5 l5
  have k5 := x5.cells
  have l5 := x5.lt
  go_wp2_with fail
  refine (P3.out _).mono ?_
  rintro e w8 ⟨rfl, b8⟩
  replace x5 := x5.later b8
  replace T := T.below b8 (Nat.le_refl _)
  have B4 := B3.trans (b8.mono B3.size)
  clear b8 B3
  clear k5 l5
  have k5 := x5.cells
  have l5 := x5.lt
  have AK := Lib.hid (AW.out _ T)
  clear AW CA CB P1 P2 P3
  have q1 : x < 0 ∨ (0 ≤ x ∧ t < s) ∨ (0 ≤ x ∧ s ≤ t ∧ a ≤ b) := by
    rcases (by omega : x < 0 ∨ (0 ≤ x ∧ t < s) ∨ (0 ≤ x ∧ s ≤ t)) with h | h | h
    · exact .inl h
    · exact .inr (.inl h)
    · exact .inr (.inr ⟨h.1, h.2, h1.out h.1 h.2⟩)
  have q2 : y < x ∨ (x ≤ y ∧ a ≤ c) := by
    rcases (by omega : y < x ∨ x ≤ y) with h | h
    · exact .inl h
    · exact .inr ⟨h, h2.out h⟩
  rcases q1 with g1 | ⟨g1, g2⟩ | ⟨g1, g2, g3⟩ <;> rcases q2 with g4 | ⟨g4, g5⟩
  all_goals
    (go_wp2_with fail; refine AK.out.mono ?_; rintro e w9 ⟨rfl, b9⟩; go_wp2; go_ret; exact ⟨rfl, B4.trans (b9.mono B4.size)⟩)

theorem srises_law (x y s t : Int) (w : World) (x1 : -9223372036854775808 ≤ x) (x2 : x ≤ 9223372036854775807) (y1 : -9223372036854775808 ≤ y) (y2 : y ≤ 9223372036854775807) (T : Tb w) :
    Calls Tryd.prog 10 #[.int .i64 x, .int .i64 y, .agg #[.int .i64 s, .int .i64 t]] w fun e w' => e = .returned (.bool true) ∧ Below w.heap.size w w' := by
  have AW := Lib.hid fun (w : World) (T : Tb w) => shawake_any w T
  have CA := fun w => scheck_any s w
  have CB := fun w => scheck_any t w
  by_cases h : 0 ≤ s ∧ s ≤ 10000
  · rw [show chkS s = 0 from if_pos h] at CA
    by_cases h' : 0 ≤ t ∧ t ≤ 10000
    · rw [show chkS t = 0 from if_pos h'] at CB
      have P1 := fun w => parent_any x s w x1 x2
      have P2 := fun w => parent_any x t w x1 x2
      have P3 := fun w => parent_any y s w y1 y2
      rw [show parI x s = (nearI (x * s) 10000, 0) from if_pos h] at P1
      rw [show parI x t = (nearI (x * t) 10000, 0) from if_pos h'] at P2
      rw [show parI y s = (nearI (y * s) 10000, 0) from if_pos h] at P3
      exact srises_yes x y s t _ _ _ w T AW (Lib.hid CA) (Lib.hid CB) (Lib.hid P1) (Lib.hid P2) (Lib.hid P3) (Lib.hid fun hx hst => near_mono (by omega) (Int.mul_le_mul_of_nonneg_left hst hx)) (Lib.hid fun hxy => near_mono (by omega) (Int.mul_le_mul_of_nonneg_right hxy h.1))
    · rw [show chkS t = 12 from if_neg h'] at CB
      exact srises_no2 x y s t w T AW (Lib.hid CA) (Lib.hid CB)
  · rw [show chkS s = 12 from if_neg h] at CA
    exact srises_no1 x y s t w T AW (Lib.hid CA)
end Go.Proofs.YtkjdkhcpeaepoaaDoor
