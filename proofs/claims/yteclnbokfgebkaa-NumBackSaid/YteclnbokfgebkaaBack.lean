/-
  NumBack: the walk, case by case.
-/
import Derived.Test.YteclnbokfgebkaaZ
namespace Go.Proofs.Yteclnbokfgebkaa
open Go.RowKit

theorem cmpI_flip (a b : Int) : cmpI b a = -cmpI a b := by
  unfold cmpI
  rcases (by omega : a < b ∨ b < a ∨ a = b) with h | h | h
  · rw [if_neg (by omega), if_pos h, if_pos h]; rfl
  · rw [if_pos h, if_neg (by omega), if_pos h]
  · subst h; rw [if_neg (by omega), if_neg (by omega)]; rfl
theorem cmpI_sub (a b : Int) : cmpI (a - b) 0 = cmpI a b := by
  have e1 : a - b < 0 ↔ a < b := by omega
  have e2 : 0 < a - b ↔ b < a := by omega
  unfold cmpI
  simp only [e1, e2]
theorem cmpI_range (a b : Int) : -1 ≤ cmpI a b ∧ cmpI a b ≤ 1 := by
  unfold cmpI
  split
  · omega
  · split <;> omega

set_option maxHeartbeats 2000000 in
theorem back_i_lo_i (a b : Int) (w : World) (a1 : -9223372036854775808 ≤ a) (a2 : a ≤ 9223372036854775807) (b1 : -9223372036854775808 ≤ b) (b2 : b ≤ 9223372036854775807) (hA : -9223372036854775808 ≤ a + b ∧ a + b ≤ 9223372036854775807) (hN : a < 0 ∧ -9223372036854775808 < a) (hS : -9223372036854775808 ≤ a - b ∧ a - b ≤ 9223372036854775807) :
    Calls Try.prog 5 #[.int .i64 a, .int .i64 b] w fun e w' => e = .returned (.bool true) ∧ Below w.heap.size w w' := by
  have W := Lib.hid fun w => awake_any w
  have FA := Lib.hid fun w => add_any (w := w) a1 a2 b1 b2
  have FN := Lib.hid fun w => neg_any (w := w) a1 a2
  have FS := Lib.hid fun w => sub_any (w := w) a1 a2 b1 b2
  have C1 := Lib.hid fun w => ncmp_any (a := a) (b := b) (w := w)
  have C2 := Lib.hid fun w => ncmp_any (a := b) (b := a) (w := w)
  have C3 := Lib.hid fun w => ncmp_any (a := a - b) (b := 0) (w := w)
  rw [cmpI_flip] at C2
  rw [cmpI_sub] at C3
  have X1 := Lib.hid fun w => sub_any (a := a + b) (b := b) (w := w) hA.1 hA.2 b1 b2
  have X2 := Lib.hid fun w => sub_any (a := a + b) (b := a) (w := w) hA.1 hA.2 a1 a2
  rw [show a + b - b = a by omega, toldI_in a1 a2] at X1
  rw [show a + b - a = b by omega, toldI_in b1 b2] at X2
  rw [toldI_in hA.1 hA.2] at FA
  have Y1 := Lib.hid fun w => neg_any (a := -a) (w := w) (by omega) (by omega)
  have Y2 := Lib.hid fun w => add_any (a := a) (b := -a) (w := w) a1 a2 (by omega) (by omega)
  have Y3 := Lib.hid fun w => abs_any (a := a) (w := w) a1 a2
  rw [show - -a = a by omega, toldI_in a1 a2] at Y1
  rw [show a + -a = 0 by omega, toldI_in (by omega) (by omega)] at Y2
  rw [show (a.natAbs : Int) = -a by omega, toldI_in (by omega) (by omega)] at Y3
  rw [toldI_in (by omega) (by omega)] at FN
  rw [toldI_in hS.1 hS.2] at FS
  obtain ⟨p1, p2⟩ := cmpI_range a b
  generalize cmpI a b = p at *
  generalize a + b = c at *
  obtain ⟨n, hn⟩ : ∃ n, -a = n := ⟨_, rfl⟩
  rw [hn] at FN Y1 Y2 Y3
  have g1 : (n != a) = true := by rw [bne_iff_ne]; omega
  have g2 : decide (n < 0) = false := decide_eq_false (by omega)
  clear hn
  generalize a - b = d at *
  clear hA hN hS a1 a2 b1 b2
  go_enter Try.func5, Try.ntmps5
  go_wp2_with fail
  refine (FA.out _).mono ?_
  rintro e _ ⟨rfl, rfl⟩
  go_wp2_with fail
  refine (X1.out _).mono ?_
  rintro e _ ⟨rfl, rfl⟩
  go_wp2_with fail
  refine (X2.out _).mono ?_
  rintro e _ ⟨rfl, rfl⟩
  go_wp2_with fail
  refine (FN.out _).mono ?_
  rintro e _ ⟨rfl, rfl⟩
  go_wp2_with fail
  refine (Y1.out _).mono ?_
  rintro e _ ⟨rfl, rfl⟩
  go_wp2_with fail
  refine (Y2.out _).mono ?_
  rintro e _ ⟨rfl, rfl⟩
  go_wp2_with fail
  refine (Y3.out _).mono ?_
  rintro e _ ⟨rfl, rfl⟩
  go_wp2_with fail
  refine (FS.out _).mono ?_
  rintro e _ ⟨rfl, rfl⟩
  go_wp2_with fail
  refine (C3.out _).mono ?_
  rintro e _ ⟨rfl, rfl⟩
  go_wp2_with fail
  refine (C1.out _).mono ?_
  rintro e _ ⟨rfl, rfl⟩
  go_wp2_with fail
  refine (C1.out _).mono ?_
  rintro e _ ⟨rfl, rfl⟩
  go_wp2_with fail
  refine (C2.out _).mono ?_
  rintro e _ ⟨rfl, rfl⟩
  go_wp2_with fail
  refine (W.out _).mono ?_
  rintro e w1 ⟨rfl, b1⟩
  go_wp2
  go_ret
  exact ⟨rfl, b1⟩

set_option maxHeartbeats 2000000 in
theorem back_i_lo_o (a b : Int) (w : World) (a1 : -9223372036854775808 ≤ a) (a2 : a ≤ 9223372036854775807) (b1 : -9223372036854775808 ≤ b) (b2 : b ≤ 9223372036854775807) (hA : -9223372036854775808 ≤ a + b ∧ a + b ≤ 9223372036854775807) (hN : a < 0 ∧ -9223372036854775808 < a) (hS : a - b < -9223372036854775808 ∨ 9223372036854775807 < a - b) :
    Calls Try.prog 5 #[.int .i64 a, .int .i64 b] w fun e w' => e = .returned (.bool true) ∧ Below w.heap.size w w' := by
  have W := Lib.hid fun w => awake_any w
  have FA := Lib.hid fun w => add_any (w := w) a1 a2 b1 b2
  have FN := Lib.hid fun w => neg_any (w := w) a1 a2
  have FS := Lib.hid fun w => sub_any (w := w) a1 a2 b1 b2
  have C1 := Lib.hid fun w => ncmp_any (a := a) (b := b) (w := w)
  have C2 := Lib.hid fun w => ncmp_any (a := b) (b := a) (w := w)
  have C3 := Lib.hid fun w => ncmp_any (a := a - b) (b := 0) (w := w)
  rw [cmpI_flip] at C2
  rw [cmpI_sub] at C3
  have X1 := Lib.hid fun w => sub_any (a := a + b) (b := b) (w := w) hA.1 hA.2 b1 b2
  have X2 := Lib.hid fun w => sub_any (a := a + b) (b := a) (w := w) hA.1 hA.2 a1 a2
  rw [show a + b - b = a by omega, toldI_in a1 a2] at X1
  rw [show a + b - a = b by omega, toldI_in b1 b2] at X2
  rw [toldI_in hA.1 hA.2] at FA
  have Y1 := Lib.hid fun w => neg_any (a := -a) (w := w) (by omega) (by omega)
  have Y2 := Lib.hid fun w => add_any (a := a) (b := -a) (w := w) a1 a2 (by omega) (by omega)
  have Y3 := Lib.hid fun w => abs_any (a := a) (w := w) a1 a2
  rw [show - -a = a by omega, toldI_in a1 a2] at Y1
  rw [show a + -a = 0 by omega, toldI_in (by omega) (by omega)] at Y2
  rw [show (a.natAbs : Int) = -a by omega, toldI_in (by omega) (by omega)] at Y3
  rw [toldI_in (by omega) (by omega)] at FN
  rw [toldI_out hS] at FS
  obtain ⟨p1, p2⟩ := cmpI_range a b
  generalize cmpI a b = p at *
  generalize a + b = c at *
  obtain ⟨n, hn⟩ : ∃ n, -a = n := ⟨_, rfl⟩
  rw [hn] at FN Y1 Y2 Y3
  have g1 : (n != a) = true := by rw [bne_iff_ne]; omega
  have g2 : decide (n < 0) = false := decide_eq_false (by omega)
  clear hn
  clear hA hN hS a1 a2 b1 b2
  go_enter Try.func5, Try.ntmps5
  go_wp2_with fail
  refine (FA.out _).mono ?_
  rintro e _ ⟨rfl, rfl⟩
  go_wp2_with fail
  refine (X1.out _).mono ?_
  rintro e _ ⟨rfl, rfl⟩
  go_wp2_with fail
  refine (X2.out _).mono ?_
  rintro e _ ⟨rfl, rfl⟩
  go_wp2_with fail
  refine (FN.out _).mono ?_
  rintro e _ ⟨rfl, rfl⟩
  go_wp2_with fail
  refine (Y1.out _).mono ?_
  rintro e _ ⟨rfl, rfl⟩
  go_wp2_with fail
  refine (Y2.out _).mono ?_
  rintro e _ ⟨rfl, rfl⟩
  go_wp2_with fail
  refine (Y3.out _).mono ?_
  rintro e _ ⟨rfl, rfl⟩
  go_wp2_with fail
  refine (FS.out _).mono ?_
  rintro e _ ⟨rfl, rfl⟩
  go_wp2_with fail
  refine (C1.out _).mono ?_
  rintro e _ ⟨rfl, rfl⟩
  go_wp2_with fail
  refine (C2.out _).mono ?_
  rintro e _ ⟨rfl, rfl⟩
  go_wp2_with fail
  refine (W.out _).mono ?_
  rintro e w1 ⟨rfl, b1⟩
  go_wp2
  go_ret
  exact ⟨rfl, b1⟩

set_option maxHeartbeats 2000000 in
theorem back_i_hi_i (a b : Int) (w : World) (a1 : -9223372036854775808 ≤ a) (a2 : a ≤ 9223372036854775807) (b1 : -9223372036854775808 ≤ b) (b2 : b ≤ 9223372036854775807) (hA : -9223372036854775808 ≤ a + b ∧ a + b ≤ 9223372036854775807) (hN : 0 ≤ a) (hS : -9223372036854775808 ≤ a - b ∧ a - b ≤ 9223372036854775807) :
    Calls Try.prog 5 #[.int .i64 a, .int .i64 b] w fun e w' => e = .returned (.bool true) ∧ Below w.heap.size w w' := by
  have W := Lib.hid fun w => awake_any w
  have FA := Lib.hid fun w => add_any (w := w) a1 a2 b1 b2
  have FN := Lib.hid fun w => neg_any (w := w) a1 a2
  have FS := Lib.hid fun w => sub_any (w := w) a1 a2 b1 b2
  have C1 := Lib.hid fun w => ncmp_any (a := a) (b := b) (w := w)
  have C2 := Lib.hid fun w => ncmp_any (a := b) (b := a) (w := w)
  have C3 := Lib.hid fun w => ncmp_any (a := a - b) (b := 0) (w := w)
  rw [cmpI_flip] at C2
  rw [cmpI_sub] at C3
  have X1 := Lib.hid fun w => sub_any (a := a + b) (b := b) (w := w) hA.1 hA.2 b1 b2
  have X2 := Lib.hid fun w => sub_any (a := a + b) (b := a) (w := w) hA.1 hA.2 a1 a2
  rw [show a + b - b = a by omega, toldI_in a1 a2] at X1
  rw [show a + b - a = b by omega, toldI_in b1 b2] at X2
  rw [toldI_in hA.1 hA.2] at FA
  have Y1 := Lib.hid fun w => neg_any (a := -a) (w := w) (by omega) (by omega)
  have Y2 := Lib.hid fun w => add_any (a := a) (b := -a) (w := w) a1 a2 (by omega) (by omega)
  have Y3 := Lib.hid fun w => abs_any (a := a) (w := w) a1 a2
  rw [show - -a = a by omega, toldI_in a1 a2] at Y1
  rw [show a + -a = 0 by omega, toldI_in (by omega) (by omega)] at Y2
  rw [show (a.natAbs : Int) = a by omega, toldI_in (by omega) (by omega)] at Y3
  rw [toldI_in (by omega) (by omega)] at FN
  rw [toldI_in hS.1 hS.2] at FS
  obtain ⟨p1, p2⟩ := cmpI_range a b
  generalize cmpI a b = p at *
  generalize a + b = c at *
  obtain ⟨n, hn⟩ : ∃ n, -a = n := ⟨_, rfl⟩
  rw [hn] at FN Y1 Y2
  have g2 : decide (a < 0) = false := decide_eq_false (by omega)
  clear hn
  generalize a - b = d at *
  clear hA hN hS a1 a2 b1 b2
  go_enter Try.func5, Try.ntmps5
  go_wp2_with fail
  refine (FA.out _).mono ?_
  rintro e _ ⟨rfl, rfl⟩
  go_wp2_with fail
  refine (X1.out _).mono ?_
  rintro e _ ⟨rfl, rfl⟩
  go_wp2_with fail
  refine (X2.out _).mono ?_
  rintro e _ ⟨rfl, rfl⟩
  go_wp2_with fail
  refine (FN.out _).mono ?_
  rintro e _ ⟨rfl, rfl⟩
  go_wp2_with fail
  refine (Y1.out _).mono ?_
  rintro e _ ⟨rfl, rfl⟩
  go_wp2_with fail
  refine (Y2.out _).mono ?_
  rintro e _ ⟨rfl, rfl⟩
  go_wp2_with fail
  refine (Y3.out _).mono ?_
  rintro e _ ⟨rfl, rfl⟩
  go_wp2_with fail
  refine (FS.out _).mono ?_
  rintro e _ ⟨rfl, rfl⟩
  go_wp2_with fail
  refine (C3.out _).mono ?_
  rintro e _ ⟨rfl, rfl⟩
  go_wp2_with fail
  refine (C1.out _).mono ?_
  rintro e _ ⟨rfl, rfl⟩
  go_wp2_with fail
  refine (C1.out _).mono ?_
  rintro e _ ⟨rfl, rfl⟩
  go_wp2_with fail
  refine (C2.out _).mono ?_
  rintro e _ ⟨rfl, rfl⟩
  go_wp2_with fail
  refine (W.out _).mono ?_
  rintro e w1 ⟨rfl, b1⟩
  go_wp2
  go_ret
  exact ⟨rfl, b1⟩

set_option maxHeartbeats 2000000 in
theorem back_i_hi_o (a b : Int) (w : World) (a1 : -9223372036854775808 ≤ a) (a2 : a ≤ 9223372036854775807) (b1 : -9223372036854775808 ≤ b) (b2 : b ≤ 9223372036854775807) (hA : -9223372036854775808 ≤ a + b ∧ a + b ≤ 9223372036854775807) (hN : 0 ≤ a) (hS : a - b < -9223372036854775808 ∨ 9223372036854775807 < a - b) :
    Calls Try.prog 5 #[.int .i64 a, .int .i64 b] w fun e w' => e = .returned (.bool true) ∧ Below w.heap.size w w' := by
  have W := Lib.hid fun w => awake_any w
  have FA := Lib.hid fun w => add_any (w := w) a1 a2 b1 b2
  have FN := Lib.hid fun w => neg_any (w := w) a1 a2
  have FS := Lib.hid fun w => sub_any (w := w) a1 a2 b1 b2
  have C1 := Lib.hid fun w => ncmp_any (a := a) (b := b) (w := w)
  have C2 := Lib.hid fun w => ncmp_any (a := b) (b := a) (w := w)
  have C3 := Lib.hid fun w => ncmp_any (a := a - b) (b := 0) (w := w)
  rw [cmpI_flip] at C2
  rw [cmpI_sub] at C3
  have X1 := Lib.hid fun w => sub_any (a := a + b) (b := b) (w := w) hA.1 hA.2 b1 b2
  have X2 := Lib.hid fun w => sub_any (a := a + b) (b := a) (w := w) hA.1 hA.2 a1 a2
  rw [show a + b - b = a by omega, toldI_in a1 a2] at X1
  rw [show a + b - a = b by omega, toldI_in b1 b2] at X2
  rw [toldI_in hA.1 hA.2] at FA
  have Y1 := Lib.hid fun w => neg_any (a := -a) (w := w) (by omega) (by omega)
  have Y2 := Lib.hid fun w => add_any (a := a) (b := -a) (w := w) a1 a2 (by omega) (by omega)
  have Y3 := Lib.hid fun w => abs_any (a := a) (w := w) a1 a2
  rw [show - -a = a by omega, toldI_in a1 a2] at Y1
  rw [show a + -a = 0 by omega, toldI_in (by omega) (by omega)] at Y2
  rw [show (a.natAbs : Int) = a by omega, toldI_in (by omega) (by omega)] at Y3
  rw [toldI_in (by omega) (by omega)] at FN
  rw [toldI_out hS] at FS
  obtain ⟨p1, p2⟩ := cmpI_range a b
  generalize cmpI a b = p at *
  generalize a + b = c at *
  obtain ⟨n, hn⟩ : ∃ n, -a = n := ⟨_, rfl⟩
  rw [hn] at FN Y1 Y2
  have g2 : decide (a < 0) = false := decide_eq_false (by omega)
  clear hn
  clear hA hN hS a1 a2 b1 b2
  go_enter Try.func5, Try.ntmps5
  go_wp2_with fail
  refine (FA.out _).mono ?_
  rintro e _ ⟨rfl, rfl⟩
  go_wp2_with fail
  refine (X1.out _).mono ?_
  rintro e _ ⟨rfl, rfl⟩
  go_wp2_with fail
  refine (X2.out _).mono ?_
  rintro e _ ⟨rfl, rfl⟩
  go_wp2_with fail
  refine (FN.out _).mono ?_
  rintro e _ ⟨rfl, rfl⟩
  go_wp2_with fail
  refine (Y1.out _).mono ?_
  rintro e _ ⟨rfl, rfl⟩
  go_wp2_with fail
  refine (Y2.out _).mono ?_
  rintro e _ ⟨rfl, rfl⟩
  go_wp2_with fail
  refine (Y3.out _).mono ?_
  rintro e _ ⟨rfl, rfl⟩
  go_wp2_with fail
  refine (FS.out _).mono ?_
  rintro e _ ⟨rfl, rfl⟩
  go_wp2_with fail
  refine (C1.out _).mono ?_
  rintro e _ ⟨rfl, rfl⟩
  go_wp2_with fail
  refine (C2.out _).mono ?_
  rintro e _ ⟨rfl, rfl⟩
  go_wp2_with fail
  refine (W.out _).mono ?_
  rintro e w1 ⟨rfl, b1⟩
  go_wp2
  go_ret
  exact ⟨rfl, b1⟩

set_option maxHeartbeats 2000000 in
theorem back_i_out_i (a b : Int) (w : World) (a1 : -9223372036854775808 ≤ a) (a2 : a ≤ 9223372036854775807) (b1 : -9223372036854775808 ≤ b) (b2 : b ≤ 9223372036854775807) (hA : -9223372036854775808 ≤ a + b ∧ a + b ≤ 9223372036854775807) (hN : a = -9223372036854775808) (hS : -9223372036854775808 ≤ a - b ∧ a - b ≤ 9223372036854775807) :
    Calls Try.prog 5 #[.int .i64 a, .int .i64 b] w fun e w' => e = .returned (.bool true) ∧ Below w.heap.size w w' := by
  have W := Lib.hid fun w => awake_any w
  have FA := Lib.hid fun w => add_any (w := w) a1 a2 b1 b2
  have FN := Lib.hid fun w => neg_any (w := w) a1 a2
  have FS := Lib.hid fun w => sub_any (w := w) a1 a2 b1 b2
  have C1 := Lib.hid fun w => ncmp_any (a := a) (b := b) (w := w)
  have C2 := Lib.hid fun w => ncmp_any (a := b) (b := a) (w := w)
  have C3 := Lib.hid fun w => ncmp_any (a := a - b) (b := 0) (w := w)
  rw [cmpI_flip] at C2
  rw [cmpI_sub] at C3
  have X1 := Lib.hid fun w => sub_any (a := a + b) (b := b) (w := w) hA.1 hA.2 b1 b2
  have X2 := Lib.hid fun w => sub_any (a := a + b) (b := a) (w := w) hA.1 hA.2 a1 a2
  rw [show a + b - b = a by omega, toldI_in a1 a2] at X1
  rw [show a + b - a = b by omega, toldI_in b1 b2] at X2
  rw [toldI_in hA.1 hA.2] at FA
  rw [toldI_out (by omega)] at FN
  rw [toldI_in hS.1 hS.2] at FS
  obtain ⟨p1, p2⟩ := cmpI_range a b
  generalize cmpI a b = p at *
  generalize a + b = c at *
  generalize a - b = d at *
  clear hA hN hS a1 a2 b1 b2
  go_enter Try.func5, Try.ntmps5
  go_wp2_with fail
  refine (FA.out _).mono ?_
  rintro e _ ⟨rfl, rfl⟩
  go_wp2_with fail
  refine (X1.out _).mono ?_
  rintro e _ ⟨rfl, rfl⟩
  go_wp2_with fail
  refine (X2.out _).mono ?_
  rintro e _ ⟨rfl, rfl⟩
  go_wp2_with fail
  refine (FN.out _).mono ?_
  rintro e _ ⟨rfl, rfl⟩
  go_wp2_with fail
  refine (FS.out _).mono ?_
  rintro e _ ⟨rfl, rfl⟩
  go_wp2_with fail
  refine (C3.out _).mono ?_
  rintro e _ ⟨rfl, rfl⟩
  go_wp2_with fail
  refine (C1.out _).mono ?_
  rintro e _ ⟨rfl, rfl⟩
  go_wp2_with fail
  refine (C1.out _).mono ?_
  rintro e _ ⟨rfl, rfl⟩
  go_wp2_with fail
  refine (C2.out _).mono ?_
  rintro e _ ⟨rfl, rfl⟩
  go_wp2_with fail
  refine (W.out _).mono ?_
  rintro e w1 ⟨rfl, b1⟩
  go_wp2
  go_ret
  exact ⟨rfl, b1⟩

set_option maxHeartbeats 2000000 in
theorem back_i_out_o (a b : Int) (w : World) (a1 : -9223372036854775808 ≤ a) (a2 : a ≤ 9223372036854775807) (b1 : -9223372036854775808 ≤ b) (b2 : b ≤ 9223372036854775807) (hA : -9223372036854775808 ≤ a + b ∧ a + b ≤ 9223372036854775807) (hN : a = -9223372036854775808) (hS : a - b < -9223372036854775808 ∨ 9223372036854775807 < a - b) :
    Calls Try.prog 5 #[.int .i64 a, .int .i64 b] w fun e w' => e = .returned (.bool true) ∧ Below w.heap.size w w' := by
  have W := Lib.hid fun w => awake_any w
  have FA := Lib.hid fun w => add_any (w := w) a1 a2 b1 b2
  have FN := Lib.hid fun w => neg_any (w := w) a1 a2
  have FS := Lib.hid fun w => sub_any (w := w) a1 a2 b1 b2
  have C1 := Lib.hid fun w => ncmp_any (a := a) (b := b) (w := w)
  have C2 := Lib.hid fun w => ncmp_any (a := b) (b := a) (w := w)
  have C3 := Lib.hid fun w => ncmp_any (a := a - b) (b := 0) (w := w)
  rw [cmpI_flip] at C2
  rw [cmpI_sub] at C3
  have X1 := Lib.hid fun w => sub_any (a := a + b) (b := b) (w := w) hA.1 hA.2 b1 b2
  have X2 := Lib.hid fun w => sub_any (a := a + b) (b := a) (w := w) hA.1 hA.2 a1 a2
  rw [show a + b - b = a by omega, toldI_in a1 a2] at X1
  rw [show a + b - a = b by omega, toldI_in b1 b2] at X2
  rw [toldI_in hA.1 hA.2] at FA
  rw [toldI_out (by omega)] at FN
  rw [toldI_out hS] at FS
  obtain ⟨p1, p2⟩ := cmpI_range a b
  generalize cmpI a b = p at *
  generalize a + b = c at *
  clear hA hN hS a1 a2 b1 b2
  go_enter Try.func5, Try.ntmps5
  go_wp2_with fail
  refine (FA.out _).mono ?_
  rintro e _ ⟨rfl, rfl⟩
  go_wp2_with fail
  refine (X1.out _).mono ?_
  rintro e _ ⟨rfl, rfl⟩
  go_wp2_with fail
  refine (X2.out _).mono ?_
  rintro e _ ⟨rfl, rfl⟩
  go_wp2_with fail
  refine (FN.out _).mono ?_
  rintro e _ ⟨rfl, rfl⟩
  go_wp2_with fail
  refine (FS.out _).mono ?_
  rintro e _ ⟨rfl, rfl⟩
  go_wp2_with fail
  refine (C1.out _).mono ?_
  rintro e _ ⟨rfl, rfl⟩
  go_wp2_with fail
  refine (C2.out _).mono ?_
  rintro e _ ⟨rfl, rfl⟩
  go_wp2_with fail
  refine (W.out _).mono ?_
  rintro e w1 ⟨rfl, b1⟩
  go_wp2
  go_ret
  exact ⟨rfl, b1⟩

set_option maxHeartbeats 2000000 in
theorem back_o_lo_i (a b : Int) (w : World) (a1 : -9223372036854775808 ≤ a) (a2 : a ≤ 9223372036854775807) (b1 : -9223372036854775808 ≤ b) (b2 : b ≤ 9223372036854775807) (hA : a + b < -9223372036854775808 ∨ 9223372036854775807 < a + b) (hN : a < 0 ∧ -9223372036854775808 < a) (hS : -9223372036854775808 ≤ a - b ∧ a - b ≤ 9223372036854775807) :
    Calls Try.prog 5 #[.int .i64 a, .int .i64 b] w fun e w' => e = .returned (.bool true) ∧ Below w.heap.size w w' := by
  have W := Lib.hid fun w => awake_any w
  have FA := Lib.hid fun w => add_any (w := w) a1 a2 b1 b2
  have FN := Lib.hid fun w => neg_any (w := w) a1 a2
  have FS := Lib.hid fun w => sub_any (w := w) a1 a2 b1 b2
  have C1 := Lib.hid fun w => ncmp_any (a := a) (b := b) (w := w)
  have C2 := Lib.hid fun w => ncmp_any (a := b) (b := a) (w := w)
  have C3 := Lib.hid fun w => ncmp_any (a := a - b) (b := 0) (w := w)
  rw [cmpI_flip] at C2
  rw [cmpI_sub] at C3
  rw [toldI_out hA] at FA
  have Y1 := Lib.hid fun w => neg_any (a := -a) (w := w) (by omega) (by omega)
  have Y2 := Lib.hid fun w => add_any (a := a) (b := -a) (w := w) a1 a2 (by omega) (by omega)
  have Y3 := Lib.hid fun w => abs_any (a := a) (w := w) a1 a2
  rw [show - -a = a by omega, toldI_in a1 a2] at Y1
  rw [show a + -a = 0 by omega, toldI_in (by omega) (by omega)] at Y2
  rw [show (a.natAbs : Int) = -a by omega, toldI_in (by omega) (by omega)] at Y3
  rw [toldI_in (by omega) (by omega)] at FN
  rw [toldI_in hS.1 hS.2] at FS
  obtain ⟨p1, p2⟩ := cmpI_range a b
  generalize cmpI a b = p at *
  obtain ⟨n, hn⟩ : ∃ n, -a = n := ⟨_, rfl⟩
  rw [hn] at FN Y1 Y2 Y3
  have g1 : (n != a) = true := by rw [bne_iff_ne]; omega
  have g2 : decide (n < 0) = false := decide_eq_false (by omega)
  clear hn
  generalize a - b = d at *
  clear hA hN hS a1 a2 b1 b2
  go_enter Try.func5, Try.ntmps5
  go_wp2_with fail
  refine (FA.out _).mono ?_
  rintro e _ ⟨rfl, rfl⟩
  go_wp2_with fail
  refine (FN.out _).mono ?_
  rintro e _ ⟨rfl, rfl⟩
  go_wp2_with fail
  refine (Y1.out _).mono ?_
  rintro e _ ⟨rfl, rfl⟩
  go_wp2_with fail
  refine (Y2.out _).mono ?_
  rintro e _ ⟨rfl, rfl⟩
  go_wp2_with fail
  refine (Y3.out _).mono ?_
  rintro e _ ⟨rfl, rfl⟩
  go_wp2_with fail
  refine (FS.out _).mono ?_
  rintro e _ ⟨rfl, rfl⟩
  go_wp2_with fail
  refine (C3.out _).mono ?_
  rintro e _ ⟨rfl, rfl⟩
  go_wp2_with fail
  refine (C1.out _).mono ?_
  rintro e _ ⟨rfl, rfl⟩
  go_wp2_with fail
  refine (C1.out _).mono ?_
  rintro e _ ⟨rfl, rfl⟩
  go_wp2_with fail
  refine (C2.out _).mono ?_
  rintro e _ ⟨rfl, rfl⟩
  go_wp2_with fail
  refine (W.out _).mono ?_
  rintro e w1 ⟨rfl, b1⟩
  go_wp2
  go_ret
  exact ⟨rfl, b1⟩

set_option maxHeartbeats 2000000 in
theorem back_o_lo_o (a b : Int) (w : World) (a1 : -9223372036854775808 ≤ a) (a2 : a ≤ 9223372036854775807) (b1 : -9223372036854775808 ≤ b) (b2 : b ≤ 9223372036854775807) (hA : a + b < -9223372036854775808 ∨ 9223372036854775807 < a + b) (hN : a < 0 ∧ -9223372036854775808 < a) (hS : a - b < -9223372036854775808 ∨ 9223372036854775807 < a - b) :
    Calls Try.prog 5 #[.int .i64 a, .int .i64 b] w fun e w' => e = .returned (.bool true) ∧ Below w.heap.size w w' := by
  have W := Lib.hid fun w => awake_any w
  have FA := Lib.hid fun w => add_any (w := w) a1 a2 b1 b2
  have FN := Lib.hid fun w => neg_any (w := w) a1 a2
  have FS := Lib.hid fun w => sub_any (w := w) a1 a2 b1 b2
  have C1 := Lib.hid fun w => ncmp_any (a := a) (b := b) (w := w)
  have C2 := Lib.hid fun w => ncmp_any (a := b) (b := a) (w := w)
  have C3 := Lib.hid fun w => ncmp_any (a := a - b) (b := 0) (w := w)
  rw [cmpI_flip] at C2
  rw [cmpI_sub] at C3
  rw [toldI_out hA] at FA
  have Y1 := Lib.hid fun w => neg_any (a := -a) (w := w) (by omega) (by omega)
  have Y2 := Lib.hid fun w => add_any (a := a) (b := -a) (w := w) a1 a2 (by omega) (by omega)
  have Y3 := Lib.hid fun w => abs_any (a := a) (w := w) a1 a2
  rw [show - -a = a by omega, toldI_in a1 a2] at Y1
  rw [show a + -a = 0 by omega, toldI_in (by omega) (by omega)] at Y2
  rw [show (a.natAbs : Int) = -a by omega, toldI_in (by omega) (by omega)] at Y3
  rw [toldI_in (by omega) (by omega)] at FN
  rw [toldI_out hS] at FS
  obtain ⟨p1, p2⟩ := cmpI_range a b
  generalize cmpI a b = p at *
  obtain ⟨n, hn⟩ : ∃ n, -a = n := ⟨_, rfl⟩
  rw [hn] at FN Y1 Y2 Y3
  have g1 : (n != a) = true := by rw [bne_iff_ne]; omega
  have g2 : decide (n < 0) = false := decide_eq_false (by omega)
  clear hn
  clear hA hN hS a1 a2 b1 b2
  go_enter Try.func5, Try.ntmps5
  go_wp2_with fail
  refine (FA.out _).mono ?_
  rintro e _ ⟨rfl, rfl⟩
  go_wp2_with fail
  refine (FN.out _).mono ?_
  rintro e _ ⟨rfl, rfl⟩
  go_wp2_with fail
  refine (Y1.out _).mono ?_
  rintro e _ ⟨rfl, rfl⟩
  go_wp2_with fail
  refine (Y2.out _).mono ?_
  rintro e _ ⟨rfl, rfl⟩
  go_wp2_with fail
  refine (Y3.out _).mono ?_
  rintro e _ ⟨rfl, rfl⟩
  go_wp2_with fail
  refine (FS.out _).mono ?_
  rintro e _ ⟨rfl, rfl⟩
  go_wp2_with fail
  refine (C1.out _).mono ?_
  rintro e _ ⟨rfl, rfl⟩
  go_wp2_with fail
  refine (C2.out _).mono ?_
  rintro e _ ⟨rfl, rfl⟩
  go_wp2_with fail
  refine (W.out _).mono ?_
  rintro e w1 ⟨rfl, b1⟩
  go_wp2
  go_ret
  exact ⟨rfl, b1⟩

set_option maxHeartbeats 2000000 in
theorem back_o_hi_i (a b : Int) (w : World) (a1 : -9223372036854775808 ≤ a) (a2 : a ≤ 9223372036854775807) (b1 : -9223372036854775808 ≤ b) (b2 : b ≤ 9223372036854775807) (hA : a + b < -9223372036854775808 ∨ 9223372036854775807 < a + b) (hN : 0 ≤ a) (hS : -9223372036854775808 ≤ a - b ∧ a - b ≤ 9223372036854775807) :
    Calls Try.prog 5 #[.int .i64 a, .int .i64 b] w fun e w' => e = .returned (.bool true) ∧ Below w.heap.size w w' := by
  have W := Lib.hid fun w => awake_any w
  have FA := Lib.hid fun w => add_any (w := w) a1 a2 b1 b2
  have FN := Lib.hid fun w => neg_any (w := w) a1 a2
  have FS := Lib.hid fun w => sub_any (w := w) a1 a2 b1 b2
  have C1 := Lib.hid fun w => ncmp_any (a := a) (b := b) (w := w)
  have C2 := Lib.hid fun w => ncmp_any (a := b) (b := a) (w := w)
  have C3 := Lib.hid fun w => ncmp_any (a := a - b) (b := 0) (w := w)
  rw [cmpI_flip] at C2
  rw [cmpI_sub] at C3
  rw [toldI_out hA] at FA
  have Y1 := Lib.hid fun w => neg_any (a := -a) (w := w) (by omega) (by omega)
  have Y2 := Lib.hid fun w => add_any (a := a) (b := -a) (w := w) a1 a2 (by omega) (by omega)
  have Y3 := Lib.hid fun w => abs_any (a := a) (w := w) a1 a2
  rw [show - -a = a by omega, toldI_in a1 a2] at Y1
  rw [show a + -a = 0 by omega, toldI_in (by omega) (by omega)] at Y2
  rw [show (a.natAbs : Int) = a by omega, toldI_in (by omega) (by omega)] at Y3
  rw [toldI_in (by omega) (by omega)] at FN
  rw [toldI_in hS.1 hS.2] at FS
  obtain ⟨p1, p2⟩ := cmpI_range a b
  generalize cmpI a b = p at *
  obtain ⟨n, hn⟩ : ∃ n, -a = n := ⟨_, rfl⟩
  rw [hn] at FN Y1 Y2
  have g2 : decide (a < 0) = false := decide_eq_false (by omega)
  clear hn
  generalize a - b = d at *
  clear hA hN hS a1 a2 b1 b2
  go_enter Try.func5, Try.ntmps5
  go_wp2_with fail
  refine (FA.out _).mono ?_
  rintro e _ ⟨rfl, rfl⟩
  go_wp2_with fail
  refine (FN.out _).mono ?_
  rintro e _ ⟨rfl, rfl⟩
  go_wp2_with fail
  refine (Y1.out _).mono ?_
  rintro e _ ⟨rfl, rfl⟩
  go_wp2_with fail
  refine (Y2.out _).mono ?_
  rintro e _ ⟨rfl, rfl⟩
  go_wp2_with fail
  refine (Y3.out _).mono ?_
  rintro e _ ⟨rfl, rfl⟩
  go_wp2_with fail
  refine (FS.out _).mono ?_
  rintro e _ ⟨rfl, rfl⟩
  go_wp2_with fail
  refine (C3.out _).mono ?_
  rintro e _ ⟨rfl, rfl⟩
  go_wp2_with fail
  refine (C1.out _).mono ?_
  rintro e _ ⟨rfl, rfl⟩
  go_wp2_with fail
  refine (C1.out _).mono ?_
  rintro e _ ⟨rfl, rfl⟩
  go_wp2_with fail
  refine (C2.out _).mono ?_
  rintro e _ ⟨rfl, rfl⟩
  go_wp2_with fail
  refine (W.out _).mono ?_
  rintro e w1 ⟨rfl, b1⟩
  go_wp2
  go_ret
  exact ⟨rfl, b1⟩

set_option maxHeartbeats 2000000 in
theorem back_o_hi_o (a b : Int) (w : World) (a1 : -9223372036854775808 ≤ a) (a2 : a ≤ 9223372036854775807) (b1 : -9223372036854775808 ≤ b) (b2 : b ≤ 9223372036854775807) (hA : a + b < -9223372036854775808 ∨ 9223372036854775807 < a + b) (hN : 0 ≤ a) (hS : a - b < -9223372036854775808 ∨ 9223372036854775807 < a - b) :
    Calls Try.prog 5 #[.int .i64 a, .int .i64 b] w fun e w' => e = .returned (.bool true) ∧ Below w.heap.size w w' := by
  have W := Lib.hid fun w => awake_any w
  have FA := Lib.hid fun w => add_any (w := w) a1 a2 b1 b2
  have FN := Lib.hid fun w => neg_any (w := w) a1 a2
  have FS := Lib.hid fun w => sub_any (w := w) a1 a2 b1 b2
  have C1 := Lib.hid fun w => ncmp_any (a := a) (b := b) (w := w)
  have C2 := Lib.hid fun w => ncmp_any (a := b) (b := a) (w := w)
  have C3 := Lib.hid fun w => ncmp_any (a := a - b) (b := 0) (w := w)
  rw [cmpI_flip] at C2
  rw [cmpI_sub] at C3
  rw [toldI_out hA] at FA
  have Y1 := Lib.hid fun w => neg_any (a := -a) (w := w) (by omega) (by omega)
  have Y2 := Lib.hid fun w => add_any (a := a) (b := -a) (w := w) a1 a2 (by omega) (by omega)
  have Y3 := Lib.hid fun w => abs_any (a := a) (w := w) a1 a2
  rw [show - -a = a by omega, toldI_in a1 a2] at Y1
  rw [show a + -a = 0 by omega, toldI_in (by omega) (by omega)] at Y2
  rw [show (a.natAbs : Int) = a by omega, toldI_in (by omega) (by omega)] at Y3
  rw [toldI_in (by omega) (by omega)] at FN
  rw [toldI_out hS] at FS
  obtain ⟨p1, p2⟩ := cmpI_range a b
  generalize cmpI a b = p at *
  obtain ⟨n, hn⟩ : ∃ n, -a = n := ⟨_, rfl⟩
  rw [hn] at FN Y1 Y2
  have g2 : decide (a < 0) = false := decide_eq_false (by omega)
  clear hn
  clear hA hN hS a1 a2 b1 b2
  go_enter Try.func5, Try.ntmps5
  go_wp2_with fail
  refine (FA.out _).mono ?_
  rintro e _ ⟨rfl, rfl⟩
  go_wp2_with fail
  refine (FN.out _).mono ?_
  rintro e _ ⟨rfl, rfl⟩
  go_wp2_with fail
  refine (Y1.out _).mono ?_
  rintro e _ ⟨rfl, rfl⟩
  go_wp2_with fail
  refine (Y2.out _).mono ?_
  rintro e _ ⟨rfl, rfl⟩
  go_wp2_with fail
  refine (Y3.out _).mono ?_
  rintro e _ ⟨rfl, rfl⟩
  go_wp2_with fail
  refine (FS.out _).mono ?_
  rintro e _ ⟨rfl, rfl⟩
  go_wp2_with fail
  refine (C1.out _).mono ?_
  rintro e _ ⟨rfl, rfl⟩
  go_wp2_with fail
  refine (C2.out _).mono ?_
  rintro e _ ⟨rfl, rfl⟩
  go_wp2_with fail
  refine (W.out _).mono ?_
  rintro e w1 ⟨rfl, b1⟩
  go_wp2
  go_ret
  exact ⟨rfl, b1⟩

set_option maxHeartbeats 2000000 in
theorem back_o_out_i (a b : Int) (w : World) (a1 : -9223372036854775808 ≤ a) (a2 : a ≤ 9223372036854775807) (b1 : -9223372036854775808 ≤ b) (b2 : b ≤ 9223372036854775807) (hA : a + b < -9223372036854775808 ∨ 9223372036854775807 < a + b) (hN : a = -9223372036854775808) (hS : -9223372036854775808 ≤ a - b ∧ a - b ≤ 9223372036854775807) :
    Calls Try.prog 5 #[.int .i64 a, .int .i64 b] w fun e w' => e = .returned (.bool true) ∧ Below w.heap.size w w' := by
  have W := Lib.hid fun w => awake_any w
  have FA := Lib.hid fun w => add_any (w := w) a1 a2 b1 b2
  have FN := Lib.hid fun w => neg_any (w := w) a1 a2
  have FS := Lib.hid fun w => sub_any (w := w) a1 a2 b1 b2
  have C1 := Lib.hid fun w => ncmp_any (a := a) (b := b) (w := w)
  have C2 := Lib.hid fun w => ncmp_any (a := b) (b := a) (w := w)
  have C3 := Lib.hid fun w => ncmp_any (a := a - b) (b := 0) (w := w)
  rw [cmpI_flip] at C2
  rw [cmpI_sub] at C3
  rw [toldI_out hA] at FA
  rw [toldI_out (by omega)] at FN
  rw [toldI_in hS.1 hS.2] at FS
  obtain ⟨p1, p2⟩ := cmpI_range a b
  generalize cmpI a b = p at *
  generalize a - b = d at *
  clear hA hN hS a1 a2 b1 b2
  go_enter Try.func5, Try.ntmps5
  go_wp2_with fail
  refine (FA.out _).mono ?_
  rintro e _ ⟨rfl, rfl⟩
  go_wp2_with fail
  refine (FN.out _).mono ?_
  rintro e _ ⟨rfl, rfl⟩
  go_wp2_with fail
  refine (FS.out _).mono ?_
  rintro e _ ⟨rfl, rfl⟩
  go_wp2_with fail
  refine (C3.out _).mono ?_
  rintro e _ ⟨rfl, rfl⟩
  go_wp2_with fail
  refine (C1.out _).mono ?_
  rintro e _ ⟨rfl, rfl⟩
  go_wp2_with fail
  refine (C1.out _).mono ?_
  rintro e _ ⟨rfl, rfl⟩
  go_wp2_with fail
  refine (C2.out _).mono ?_
  rintro e _ ⟨rfl, rfl⟩
  go_wp2_with fail
  refine (W.out _).mono ?_
  rintro e w1 ⟨rfl, b1⟩
  go_wp2
  go_ret
  exact ⟨rfl, b1⟩

set_option maxHeartbeats 2000000 in
theorem back_o_out_o (a b : Int) (w : World) (a1 : -9223372036854775808 ≤ a) (a2 : a ≤ 9223372036854775807) (b1 : -9223372036854775808 ≤ b) (b2 : b ≤ 9223372036854775807) (hA : a + b < -9223372036854775808 ∨ 9223372036854775807 < a + b) (hN : a = -9223372036854775808) (hS : a - b < -9223372036854775808 ∨ 9223372036854775807 < a - b) :
    Calls Try.prog 5 #[.int .i64 a, .int .i64 b] w fun e w' => e = .returned (.bool true) ∧ Below w.heap.size w w' := by
  have W := Lib.hid fun w => awake_any w
  have FA := Lib.hid fun w => add_any (w := w) a1 a2 b1 b2
  have FN := Lib.hid fun w => neg_any (w := w) a1 a2
  have FS := Lib.hid fun w => sub_any (w := w) a1 a2 b1 b2
  have C1 := Lib.hid fun w => ncmp_any (a := a) (b := b) (w := w)
  have C2 := Lib.hid fun w => ncmp_any (a := b) (b := a) (w := w)
  have C3 := Lib.hid fun w => ncmp_any (a := a - b) (b := 0) (w := w)
  rw [cmpI_flip] at C2
  rw [cmpI_sub] at C3
  rw [toldI_out hA] at FA
  rw [toldI_out (by omega)] at FN
  rw [toldI_out hS] at FS
  obtain ⟨p1, p2⟩ := cmpI_range a b
  generalize cmpI a b = p at *
  clear hA hN hS a1 a2 b1 b2
  go_enter Try.func5, Try.ntmps5
  go_wp2_with fail
  refine (FA.out _).mono ?_
  rintro e _ ⟨rfl, rfl⟩
  go_wp2_with fail
  refine (FN.out _).mono ?_
  rintro e _ ⟨rfl, rfl⟩
  go_wp2_with fail
  refine (FS.out _).mono ?_
  rintro e _ ⟨rfl, rfl⟩
  go_wp2_with fail
  refine (C1.out _).mono ?_
  rintro e _ ⟨rfl, rfl⟩
  go_wp2_with fail
  refine (C2.out _).mono ?_
  rintro e _ ⟨rfl, rfl⟩
  go_wp2_with fail
  refine (W.out _).mono ?_
  rintro e w1 ⟨rfl, b1⟩
  go_wp2
  go_ret
  exact ⟨rfl, b1⟩

theorem back_law (a b : Int) (w : World) (a1 : -9223372036854775808 ≤ a) (a2 : a ≤ 9223372036854775807) (b1 : -9223372036854775808 ≤ b) (b2 : b ≤ 9223372036854775807) :
    Calls Try.prog 5 #[.int .i64 a, .int .i64 b] w fun e w' => e = .returned (.bool true) ∧ Below w.heap.size w w' := by
  rcases (by omega : (-9223372036854775808 ≤ a + b ∧ a + b ≤ 9223372036854775807) ∨ (a + b < -9223372036854775808 ∨ 9223372036854775807 < a + b)) with hA | hA <;>
  rcases (by omega : (a < 0 ∧ -9223372036854775808 < a) ∨ 0 ≤ a ∨ a = -9223372036854775808) with hN | hN | hN <;>
  rcases (by omega : (-9223372036854775808 ≤ a - b ∧ a - b ≤ 9223372036854775807) ∨ (a - b < -9223372036854775808 ∨ 9223372036854775807 < a - b)) with hS | hS
  · exact back_i_lo_i a b w a1 a2 b1 b2 hA hN hS
  · exact back_i_lo_o a b w a1 a2 b1 b2 hA hN hS
  · exact back_i_hi_i a b w a1 a2 b1 b2 hA hN hS
  · exact back_i_hi_o a b w a1 a2 b1 b2 hA hN hS
  · exact back_i_out_i a b w a1 a2 b1 b2 hA hN hS
  · exact back_i_out_o a b w a1 a2 b1 b2 hA hN hS
  · exact back_o_lo_i a b w a1 a2 b1 b2 hA hN hS
  · exact back_o_lo_o a b w a1 a2 b1 b2 hA hN hS
  · exact back_o_hi_i a b w a1 a2 b1 b2 hA hN hS
  · exact back_o_hi_o a b w a1 a2 b1 b2 hA hN hS
  · exact back_o_out_i a b w a1 a2 b1 b2 hA hN hS
  · exact back_o_out_o a b w a1 a2 b1 b2 hA hN hS
end Go.Proofs.Yteclnbokfgebkaa
