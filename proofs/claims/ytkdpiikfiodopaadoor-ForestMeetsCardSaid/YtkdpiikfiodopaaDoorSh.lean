/-
  Chapter 5: Check, Parent, Minor.
-/
import Derived.Test.YtkdpiikfiodopaaDoorRc
import Derived.Test.YtkdpiikfiodopaaDoorScP
import Derived.Test.YtkdpiikfiodopaaDoorContains
namespace Go.Proofs.YtkdpiikfiodopaaDoor
open Go.RowKit

def chkS (s : Int) : Int := if 0 ≤ s ∧ s ≤ 10000 then 0 else 12
theorem scheck_any (s : Int) (w : World) : Calls Tryd.prog 56 #[.int .i64 s] w fun e w' => e = .returned (.int .i64 (chkS s)) ∧ w = w' := by
  by_cases h1 : s < 0
  · rw [show chkS s = 12 from if_neg (by omega)]
    go_enter Tryd.func56, Tryd.ntmps56
    go_wp2
    go_ret
    exact ⟨rfl, rfl⟩
  · by_cases h2 : 10000 < s
    · rw [show chkS s = 12 from if_neg (by omega)]
      go_enter Tryd.func56, Tryd.ntmps56
      go_wp2
      go_ret
      exact ⟨rfl, rfl⟩
    · rw [show chkS s = 0 from if_pos (by omega)]
      go_enter Tryd.func56, Tryd.ntmps56
      go_wp2
      go_ret
      exact ⟨rfl, rfl⟩

theorem near_whole (x : Int) : nearI (x * 10000) 10000 = x := by
  have h := near_spec (z := x * 10000) (d := 10000) (by omega)
  generalize nearI (x * 10000) 10000 = n at *
  omega
theorem near_zero : nearI 0 10000 = 0 := by decide +kernel
theorem near_between {x s : Int} (h0 : 0 ≤ s) (h1 : s ≤ 10000) : (0 ≤ x → 0 ≤ nearI (x * s) 10000 ∧ nearI (x * s) 10000 ≤ x) ∧ (x ≤ 0 → nearI (x * s) 10000 ≤ 0 ∧ x ≤ nearI (x * s) 10000) := by
  constructor
  · intro hx
    have k1 : 0 ≤ x * s := Int.mul_nonneg hx h0
    have k2 : x * s ≤ x * 10000 := Int.mul_le_mul_of_nonneg_left h1 hx
    have m1 := near_mono (d := 10000) (by omega) k1
    have m2 := near_mono (d := 10000) (by omega) k2
    rw [near_zero] at m1
    rw [near_whole] at m2
    exact ⟨m1, m2⟩
  · intro hx
    have k1 : x * s ≤ 0 := Int.mul_nonpos_of_nonpos_of_nonneg hx h0
    have k2 : x * 10000 ≤ x * s := Int.mul_le_mul_of_nonpos_left hx h1
    have m1 := near_mono (d := 10000) (by omega) k1
    have m2 := near_mono (d := 10000) (by omega) k2
    rw [near_zero] at m1
    rw [near_whole] at m2
    exact ⟨m1, m2⟩
/-- The parent's part, and the others'. -/
def parI (x s : Int) : Int × Int := if 0 ≤ s ∧ s ≤ 10000 then (nearI (x * s) 10000, 0) else (0, 12)
def minI (x s : Int) : Int × Int := if 0 ≤ s ∧ s ≤ 10000 then (x - nearI (x * s) 10000, 0) else (0, 12)

set_option maxHeartbeats 1000000 in
theorem parent_any (x s : Int) (w : World) (x1 : -9223372036854775808 ≤ x) (x2 : x ≤ 9223372036854775807) :
    Calls Tryd.prog 54 #[.int .i64 x, .int .i64 s] w fun e w' => e = .returned (.tuple #[.int .i64 (parI x s).1, .int .i64 (parI x s).2]) ∧ Below w.heap.size w w' := by
  have CH := Lib.hid fun w => scheck_any s w
  by_cases h : 0 ≤ s ∧ s ≤ 10000
  · have SC := Lib.hid fun w => scale_any (x := x) (n := s) (d := 10000) x1 x2 (by omega) (by omega) (by omega) w
    have hb := near_between (x := x) h.1 h.2
    have e1 : evenI (x * s) 10000 = (nearI (x * s) 10000, 0) := by
      unfold evenI toldI
      rw [if_neg (by omega), leastI_eq, mostI_eq]
      refine if_pos ?_
      rcases Int.le_total 0 x with h' | h'
      · have := hb.1 h'; omega
      · have := hb.2 h'; omega
    rw [e1] at SC
    rw [show chkS s = 0 from if_pos h] at CH
    rw [show parI x s = (nearI (x * s) 10000, 0) from if_pos h]
    generalize nearI (x * s) 10000 = p at *
    clear h hb e1 x1 x2
    go_enter Tryd.func54, Tryd.ntmps54
    go_wp2_with fail
    refine (CH.out _).mono ?_
    rintro e _ ⟨rfl, rfl⟩
    go_wp2_with fail
    refine (SC.out _).mono ?_
    rintro e w1 ⟨rfl, b1⟩
    go_wp2
    go_ret2
    exact ⟨rfl, b1⟩
  · rw [show chkS s = 12 from if_neg h] at CH
    rw [show parI x s = (0, 12) from if_neg h]
    clear h x1 x2
    go_enter Tryd.func54, Tryd.ntmps54
    go_wp2_with fail
    refine (CH.out _).mono ?_
    rintro e _ ⟨rfl, rfl⟩
    go_wp2
    go_ret2
    exact ⟨rfl, Below.refl _ _⟩

set_option maxHeartbeats 1000000 in
theorem minor_any (x s : Int) (w : World) (x1 : -9223372036854775808 ≤ x) (x2 : x ≤ 9223372036854775807) :
    Calls Tryd.prog 55 #[.int .i64 x, .int .i64 s] w fun e w' => e = .returned (.tuple #[.int .i64 (minI x s).1, .int .i64 (minI x s).2]) ∧ Below w.heap.size w w' := by
  have PA := Lib.hid fun w => parent_any x s w x1 x2
  unfold parI at PA
  unfold minI
  by_cases h : 0 ≤ s ∧ s ≤ 10000
  · have hb := near_between (x := x) h.1 h.2
    rw [if_pos h] at PA
    rw [if_pos h]
    generalize nearI (x * s) 10000 = p at *
    have hr : -9223372036854775808 ≤ x - p ∧ x - p ≤ 9223372036854775807 := by
      rcases Int.le_total 0 x with h' | h'
      · have := hb.1 h'; omega
      · have := hb.2 h'; omega
    obtain ⟨r1, r2⟩ := hr
    clear h hb x1 x2
    go_enter Tryd.func55, Tryd.ntmps55
    go_wp2_with fail
    refine (PA.out _).mono ?_
    rintro e w1 ⟨rfl, b1⟩
    go_wp2
    go_ret2
    exact ⟨rfl, b1⟩
  · rw [if_neg h] at PA
    rw [if_neg h]
    clear h x1 x2
    go_enter Tryd.func55, Tryd.ntmps55
    go_wp2_with fail
    refine (PA.out _).mono ?_
    rintro e w1 ⟨rfl, b1⟩
    go_wp2
    go_ret2
    exact ⟨rfl, b1⟩

theorem sclosure_any (s : Int) (w : World) : Calls Tryd.prog 57 #[.int .i64 s] w fun e w' => e = .returned (.bool (chkS s != 0)) ∧ w = w' := by
  have CH := Lib.hid fun w => scheck_any s w
  obtain ⟨q, hq⟩ : ∃ q, chkS s = q := ⟨_, rfl⟩
  rw [hq] at CH ⊢
  clear hq
  go_enter Tryd.func57, Tryd.ntmps57
  go_wp2_with fail
  refine (CH.out _).mono ?_
  rintro e _ ⟨rfl, rfl⟩
  go_wp2
  go_ret
  exact ⟨rfl, rfl⟩
end Go.Proofs.YtkdpiikfiodopaaDoor
