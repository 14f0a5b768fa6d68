/-
  The program's num: Add, Sub, Neg, Abs, Cmp: each tells the integer result, or ErrOver where it is out of an int's range.
-/
import Derived.Test.YteclnbokfgebkaaW
namespace Go.Proofs.Yteclnbokfgebkaa
open Go.RowKit

section
variable {a b : Int} {w : World}

theorem toldI_in {z : Int} (h1 : -9223372036854775808 ≤ z) (h2 : z ≤ 9223372036854775807) : toldI z = (z, 0) := by unfold toldI; rw [if_pos ⟨h1, h2⟩]
theorem toldI_out {z : Int} (h : z < -9223372036854775808 ∨ 9223372036854775807 < z) : toldI z = (0, 10) := by
  unfold toldI
  rw [if_neg]
  rintro ⟨h1, h2⟩
  rw [leastI_eq] at h1
  rw [mostI_eq] at h2
  omega

theorem wrap_over {z : Int} (h1 : 9223372036854775807 < z) (h2 : z ≤ 18446744073709551615) : wrap64 z = z - 18446744073709551616 := by unfold wrap64; omega
theorem wrap_under {z : Int} (h1 : z < -9223372036854775808) (h2 : -18446744073709551616 ≤ z) : wrap64 z = z + 18446744073709551616 := by unfold wrap64; omega

set_option maxHeartbeats 1000000 in
theorem add_any (a1 : -9223372036854775808 ≤ a) (a2 : a ≤ 9223372036854775807) (b1 : -9223372036854775808 ≤ b) (b2 : b ≤ 9223372036854775807) :
    Calls Try.prog 7 #[.int .i64 a, .int .i64 b] w fun e w' => e = .returned (.tuple #[.int .i64 (toldI (a + b)).1, .int .i64 (toldI (a + b)).2]) ∧ w = w' := by
  by_cases h : -9223372036854775808 ≤ a + b ∧ a + b ≤ 9223372036854775807
  · obtain ⟨h1, h2⟩ := h
    have T := Lib.hid (toldI_in h1 h2)
    rw [T.out]
    rcases (by omega : 0 < b ∨ b = 0 ∨ b < 0) with hb | hb | hb
    · go_enter Try.func7, Try.ntmps7
      go_wp2
      go_ret2
      exact ⟨rfl, rfl⟩
    · subst hb
      rw [Int.add_zero] at *
      go_enter Try.func7, Try.ntmps7
      go_wp2
      go_ret2
      exact ⟨rfl, rfl⟩
    · go_enter Try.func7, Try.ntmps7
      go_wp2
      go_ret2
      exact ⟨rfl, rfl⟩
  · have T := Lib.hid (toldI_out (z := a + b) (by omega))
    rw [T.out]
    rcases (by omega : a + b < -9223372036854775808 ∨ 9223372036854775807 < a + b) with h1 | h1
    · have hw := wrap_under h1 (by omega)
      obtain ⟨c, hc⟩ : ∃ c, wrap64 (a + b) = c := ⟨_, rfl⟩
      have hca : a < c := by omega
      have hb : b < 0 := by omega
      clear hw h h1
      have n0 : decide (a < c) = true := decide_eq_true (by omega)
      have n1 : decide (c < a) = false := decide_eq_false (by omega)
      have n2 : decide (0 < b) = false := decide_eq_false (by omega)
      have n3 : decide (b < 0) = true := decide_eq_true (by omega)
      have n4 : (b != 0) = true := by rw [bne_iff_ne]; omega
      have n5 : (b == 0) = false := by rw [beq_eq_false_iff_ne]; omega
      go_enter Try.func7, Try.ntmps7
      go_wp2
      go_ret2
      exact ⟨rfl, rfl⟩
    · have hw := wrap_over h1 (by omega)
      obtain ⟨c, hc⟩ : ∃ c, wrap64 (a + b) = c := ⟨_, rfl⟩
      have hca : c < a := by omega
      have hb : 0 < b := by omega
      clear hw h h1
      have n0 : decide (a < c) = false := decide_eq_false (by omega)
      have n1 : decide (c < a) = true := decide_eq_true (by omega)
      have n2 : decide (0 < b) = true := decide_eq_true (by omega)
      have n3 : decide (b < 0) = false := decide_eq_false (by omega)
      have n4 : (b != 0) = true := by rw [bne_iff_ne]; omega
      have n5 : (b == 0) = false := by rw [beq_eq_false_iff_ne]; omega
      go_enter Try.func7, Try.ntmps7
      go_wp2
      go_ret2
      exact ⟨rfl, rfl⟩

set_option maxHeartbeats 1000000 in
theorem sub_any (a1 : -9223372036854775808 ≤ a) (a2 : a ≤ 9223372036854775807) (b1 : -9223372036854775808 ≤ b) (b2 : b ≤ 9223372036854775807) :
    Calls Try.prog 11 #[.int .i64 a, .int .i64 b] w fun e w' => e = .returned (.tuple #[.int .i64 (toldI (a - b)).1, .int .i64 (toldI (a - b)).2]) ∧ w = w' := by
  by_cases h : -9223372036854775808 ≤ a - b ∧ a - b ≤ 9223372036854775807
  · obtain ⟨h1, h2⟩ := h
    have T := Lib.hid (toldI_in h1 h2)
    rw [T.out]
    rcases (by omega : 0 < b ∨ b = 0 ∨ b < 0) with hb | hb | hb
    · go_enter Try.func11, Try.ntmps11
      go_wp2
      go_ret2
      exact ⟨rfl, rfl⟩
    · subst hb
      rw [Int.sub_zero] at *
      go_enter Try.func11, Try.ntmps11
      go_wp2
      go_ret2
      exact ⟨rfl, rfl⟩
    · go_enter Try.func11, Try.ntmps11
      go_wp2
      go_ret2
      exact ⟨rfl, rfl⟩
  · have T := Lib.hid (toldI_out (z := a - b) (by omega))
    rw [T.out]
    rcases (by omega : a - b < -9223372036854775808 ∨ 9223372036854775807 < a - b) with h1 | h1
    · have hw := wrap_under h1 (by omega)
      obtain ⟨c, hc⟩ : ∃ c, wrap64 (a - b) = c := ⟨_, rfl⟩
      have hca : a < c := by omega
      have hb : 0 < b := by omega
      clear hw h h1
      have n0 : decide (a < c) = true := decide_eq_true (by omega)
      have n1 : decide (c < a) = false := decide_eq_false (by omega)
      have n2 : decide (0 < b) = true := decide_eq_true (by omega)
      have n3 : decide (b < 0) = false := decide_eq_false (by omega)
      have n4 : (b != 0) = true := by rw [bne_iff_ne]; omega
      have n5 : (b == 0) = false := by rw [beq_eq_false_iff_ne]; omega
      go_enter Try.func11, Try.ntmps11
      go_wp2
      go_ret2
      exact ⟨rfl, rfl⟩
    · have hw := wrap_over h1 (by omega)
      obtain ⟨c, hc⟩ : ∃ c, wrap64 (a - b) = c := ⟨_, rfl⟩
      have hca : c < a := by omega
      have hb : b < 0 := by omega
      clear hw h h1
      have n0 : decide (a < c) = false := decide_eq_false (by omega)
      have n1 : decide (c < a) = true := decide_eq_true (by omega)
      have n2 : decide (0 < b) = false := decide_eq_false (by omega)
      have n3 : decide (b < 0) = true := decide_eq_true (by omega)
      have n4 : (b != 0) = true := by rw [bne_iff_ne]; omega
      have n5 : (b == 0) = false := by rw [beq_eq_false_iff_ne]; omega
      go_enter Try.func11, Try.ntmps11
      go_wp2
      go_ret2
      exact ⟨rfl, rfl⟩

theorem neg_any (a1 : -9223372036854775808 ≤ a) (a2 : a ≤ 9223372036854775807) :
    Calls Try.prog 13 #[.int .i64 a] w fun e w' => e = .returned (.tuple #[.int .i64 (toldI (-a)).1, .int .i64 (toldI (-a)).2]) ∧ w = w' := by
  have S := Lib.hid (fun w => sub_any (a := 0) (b := a) (w := w) (by omega) (by omega) a1 a2)
  rw [show (0 : Int) - a = -a by omega] at S
  go_enter Try.func13, Try.ntmps13
  go_wp2_with fail
  refine (S.out _).mono ?_
  rintro e w' ⟨rfl, rfl⟩
  go_wp2_with fail
  go_ret2
  exact ⟨rfl, rfl⟩

theorem abs_any (a1 : -9223372036854775808 ≤ a) (a2 : a ≤ 9223372036854775807) :
    Calls Try.prog 15 #[.int .i64 a] w fun e w' => e = .returned (.tuple #[.int .i64 (toldI a.natAbs).1, .int .i64 (toldI a.natAbs).2]) ∧ w = w' := by
  by_cases h : a < 0
  · have S := Lib.hid (fun w => neg_any (a := a) (w := w) a1 a2)
    have e := Lib.hid (show (a.natAbs : Int) = -a by omega)
    rw [e.out]
    go_enter Try.func15, Try.ntmps15
    go_wp2_with fail
    refine (S.out _).mono ?_
    rintro e w' ⟨rfl, rfl⟩
    go_wp2_with fail
    go_ret2
    exact ⟨rfl, rfl⟩
  · have T := Lib.hid (show toldI (a.natAbs : Int) = (a, 0) by rw [show (a.natAbs : Int) = a by omega]; exact toldI_in a1 a2)
    rw [T.out]
    go_enter Try.func15, Try.ntmps15
    go_wp2
    go_ret2
    exact ⟨rfl, rfl⟩

set_option maxHeartbeats 400000 in
theorem compare_any : Calls Try.prog 26 #[.int .i64 a, .int .i64 b] w fun e w' => e = .returned (.int .i64 (cmpI a b)) ∧ w = w' := by
  have hn : ∀ (x : Int) (w : World), Calls Try.prog 36 #[.int .i64 x] w fun e w' => e = .returned (.bool false) ∧ w = w' := by
    intro x w
    go_enter Try.func36, Try.ntmps36
    go_wp2
    go_ret
    exact ⟨rfl, rfl⟩
  have Hn := Lib.hid hn
  clear hn
  rcases (by omega : a < b ∨ b < a ∨ a = b) with h | h | h
  · have T := Lib.hid (show cmpI a b = -1 by unfold cmpI; rw [if_pos h])
    rw [T.out]
    go_enter Try.func26, Try.ntmps26
    go_wp2_with (go_at_call 36; refine (Hn.out _ _).mono ?_; rintro e w' ⟨rfl, rfl⟩)
    go_ret
    exact ⟨rfl, rfl⟩
  · have T := Lib.hid (show cmpI a b = 1 by unfold cmpI; rw [if_neg (by omega), if_pos h])
    rw [T.out]
    go_enter Try.func26, Try.ntmps26
    go_wp2_with (go_at_call 36; refine (Hn.out _ _).mono ?_; rintro e w' ⟨rfl, rfl⟩)
    go_ret
    exact ⟨rfl, rfl⟩
  · subst h
    have T := Lib.hid (show cmpI a a = 0 by unfold cmpI; rw [if_neg (by omega), if_neg (by omega)])
    rw [T.out]
    go_enter Try.func26, Try.ntmps26
    go_wp2_with (go_at_call 36; refine (Hn.out _ _).mono ?_; rintro e w' ⟨rfl, rfl⟩)
    go_ret
    exact ⟨rfl, rfl⟩

theorem ncmp_any : Calls Try.prog 16 #[.int .i64 a, .int .i64 b] w fun e w' => e = .returned (.int .i64 (cmpI a b)) ∧ w = w' := by
  go_enter Try.func16, Try.ntmps16
  go_wp2_with fail
  refine compare_any.mono ?_
  rintro e w' ⟨rfl, rfl⟩
  go_wp2_with fail
  go_ret
  exact ⟨rfl, rfl⟩
end
end Go.Proofs.Yteclnbokfgebkaa
