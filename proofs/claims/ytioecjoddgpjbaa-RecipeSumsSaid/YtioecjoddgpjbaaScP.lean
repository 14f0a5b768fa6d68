/-
  Chapter 3 in plain arithmetic: the nearest whole number.
-/
import Derived.Test.YtioecjoddgpjbaaSc2
namespace Go.Proofs.Ytioecjoddgpjbaa
open Go.RowKit

theorem near_spec {z d : Int} (d1 : 1 ≤ d) : -d ≤ 2 * (z - d * nearI z d) ∧ 2 * (z - d * nearI z d) ≤ d ∧ (2 * (z - d * nearI z d) = d ∨ 2 * (z - d * nearI z d) = -d → nearI z d % 2 = 0) := by
  have e := Int.emod_add_mul_ediv z d
  have m0 := Int.emod_nonneg z (by omega : d ≠ 0)
  have m1 := Int.emod_lt_of_pos z (by omega : 0 < d)
  unfold nearI upI
  generalize hq : z / d = q at *
  generalize z % d = r at *
  have e2 : d * (q + 1) = d * q + d := by rw [Int.mul_add, Int.mul_one]
  by_cases c1 : d < 2 * r
  · rw [decide_eq_true c1, Bool.true_or, if_pos rfl, e2]
    generalize d * q = P at *
    omega
  · rw [decide_eq_false c1, Bool.false_or]
    by_cases c2 : 2 * r = d
    · by_cases c3 : q % 2 = 1
      · rw [decide_eq_true c2, decide_eq_true c3, Bool.true_and, if_pos rfl, e2]
        generalize d * q = P at *
        omega
      · rw [decide_eq_false c3, Bool.and_false, if_neg (by decide)]
        generalize d * q = P at *
        omega
    · rw [decide_eq_false c2, Bool.false_and, if_neg (by decide)]
      generalize d * q = P at *
      omega

theorem near_one {z z' d n n' : Int} (d1 : 1 ≤ d) (hz : z ≤ z') (h : -d ≤ 2 * (z - d * n) ∧ 2 * (z - d * n) ≤ d ∧ (2 * (z - d * n) = d ∨ 2 * (z - d * n) = -d → n % 2 = 0)) (h' : -d ≤ 2 * (z' - d * n') ∧ 2 * (z' - d * n') ≤ d ∧ (2 * (z' - d * n') = d ∨ 2 * (z' - d * n') = -d → n' % 2 = 0)) : n ≤ n' := by
  rcases (by omega : n ≤ n' ∨ n = n' + 1 ∨ n' + 2 ≤ n) with h0 | h0 | h0
  · exact h0
  · exfalso
    have e : d * n = d * n' + d := by rw [h0, Int.mul_add, Int.mul_one]
    rw [e] at h
    generalize d * n' = P at *
    omega
  · exfalso
    have e : d * (n' + 2) ≤ d * n := Int.mul_le_mul_of_nonneg_left h0 (by omega)
    rw [Int.mul_add] at e
    generalize d * n' = P at *
    generalize d * n = P2 at *
    omega
theorem near_mono {z z' d : Int} (d1 : 1 ≤ d) (h : z ≤ z') : nearI z d ≤ nearI z' d := near_one d1 h (near_spec d1) (near_spec d1)
theorem near_neg {z d : Int} (d1 : 1 ≤ d) : nearI (-z) d = -nearI z d := by
  have h := near_spec (z := z) d1
  have h' : -d ≤ 2 * (-z - d * -nearI z d) ∧ 2 * (-z - d * -nearI z d) ≤ d ∧ (2 * (-z - d * -nearI z d) = d ∨ 2 * (-z - d * -nearI z d) = -d → (-nearI z d) % 2 = 0) := by
    rw [Int.mul_neg]
    generalize d * nearI z d = P at *
    omega
  have h1 := near_one d1 (Int.le_refl _) (near_spec (z := -z) d1) h'
  have h2 := near_one d1 (Int.le_refl _) h' (near_spec (z := -z) d1)
  omega

/-- What the reference's off by twice comes to. -/
theorem near_off {z d : Int} (d1 : 1 ≤ d) : 2 * ((z - nearI z d * d).natAbs : Int) ≤ d ∧ (2 * ((z - nearI z d * d).natAbs : Int) = d → nearI z d % 2 = 0) := by
  have h := near_spec (z := z) d1
  rw [Int.mul_comm (nearI z d) d]
  generalize d * nearI z d = P at *
  omega
theorem even_ok {z d : Int} : ((evenI z d).2 = 0 → 1 ≤ d ∧ (evenI z d).1 = nearI z d ∧ leastI ≤ nearI z d ∧ nearI z d ≤ mostI) ∧ ((evenI z d).2 = 2 ↔ d < 1) ∧ leastI ≤ (evenI z d).1 ∧ (evenI z d).1 ≤ mostI := by
  unfold evenI toldI leastI mostI
  split
  · simp
    omega
  · split
    · refine ⟨fun _ => ⟨by omega, rfl, by assumption⟩, ?_, by assumption⟩
      simp
      omega
    · simp
      omega
theorem even_neg {z d : Int} (h : (evenI z d).2 = 0) (h2 : leastI < (evenI z d).1) : evenI (-z) d = (-(evenI z d).1, 0) := by
  obtain ⟨h3, h4, h5, h6⟩ := even_ok.1 h
  rw [h4] at h2 ⊢
  unfold evenI
  rw [if_neg (by omega), near_neg h3]
  unfold toldI
  rw [leastI_eq, mostI_eq] at *
  rw [if_pos (by omega)]
end Go.Proofs.Ytioecjoddgpjbaa
