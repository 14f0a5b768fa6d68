/-
  The division of two words by one, in plain numbers: one digit of 32 bits is guessed and mended.
-/
import Derived.Test.YtioecjoddgpjbaaK
namespace Go.Proofs.Ytioecjoddgpjbaa

/-- A guess that is not too great any more is the digit. -/
theorem kn_exit {U u y1 y0 q r : Nat} (h : q * y1 + r = U) (hc : q * y0 ≤ 4294967296 * r + u) (hY : 0 < y1) (hQ : (U * 4294967296 + u) / (y1 * 4294967296 + y0) ≤ q) : (U * 4294967296 + u) / (y1 * 4294967296 + y0) = q := by
  refine Nat.le_antisymm hQ ?_
  rw [Nat.le_div_iff_mul_le (by omega), Nat.mul_add, ← Nat.mul_assoc]
  have e : U * 4294967296 = q * y1 * 4294967296 + r * 4294967296 := by rw [← h, Nat.add_mul]
  omega

/-- A guess that is too great is not the digit. -/
theorem kn_more {U u y1 y0 q r : Nat} (h : q * y1 + r = U) (hu : u < 4294967296) (hU : U < y1 * 4294967296 + y0) (hc : 4294967296 ≤ q ∨ 4294967296 * r + u < q * y0) : (U * 4294967296 + u) / (y1 * 4294967296 + y0) < q := by
  rw [Nat.div_lt_iff_lt_mul (by omega)]
  rcases hc with hc | hc
  · have h1 : (U + 1) * 4294967296 ≤ (y1 * 4294967296 + y0) * 4294967296 := Nat.mul_le_mul_right _ hU
    have h2 : 4294967296 * (y1 * 4294967296 + y0) ≤ q * (y1 * 4294967296 + y0) := Nat.mul_le_mul_right _ hc
    omega
  · rw [Nat.mul_add, ← Nat.mul_assoc]
    have e : U * 4294967296 = q * y1 * 4294967296 + r * 4294967296 := by rw [← h, Nat.add_mul]
    omega

/-- What is left is so great that the guess is not too great. -/
theorem kn_break {u y0 q r : Nat} (hq : q ≤ 4294967296) (h0 : y0 < 4294967296) (hr : 4294967296 ≤ r) : q * y0 ≤ 4294967296 * r + u := by
  have h1 : q * y0 ≤ 4294967296 * y0 := Nat.mul_le_mul_right _ hq
  have h2 : 4294967296 * y0 ≤ 4294967296 * r := Nat.mul_le_mul_left _ (by omega)
  omega

/-- The first guess. -/
theorem kn_first {U u y1 y0 : Nat} (hu : u < 4294967296) (hU : U < y1 * 4294967296 + y0) (h0 : y0 < 4294967296) (h1 : 2147483648 ≤ y1) (h2 : y1 < 4294967296) :
    U / y1 * y1 + U % y1 = U ∧ U % y1 < y1 ∧ U / y1 ≤ 4294967297 ∧ (U * 4294967296 + u) / (y1 * 4294967296 + y0) ≤ U / y1 := by
  have e := Nat.div_add_mod U y1
  have hm := Nat.mod_lt U (y := y1) (by omega)
  rw [Nat.mul_comm] at e
  refine ⟨e, hm, ?_, ?_⟩
  · have : U / y1 < 4294967298 := by
      rw [Nat.div_lt_iff_lt_mul (by omega)]
      omega
    omega
  · have : (U * 4294967296 + u) / (y1 * 4294967296 + y0) < U / y1 + 1 := by
      rw [Nat.div_lt_iff_lt_mul (by omega), Nat.add_mul, Nat.one_mul, Nat.mul_add, ← Nat.mul_assoc]
      have e2 : U * 4294967296 = U / y1 * y1 * 4294967296 + U % y1 * 4294967296 := by rw [← Nat.add_mul, e]
      have h3 : (U % y1 + 1) * 4294967296 ≤ y1 * 4294967296 := Nat.mul_le_mul_right _ hm
      omega
    omega

/-- The digit is below 2^32. -/
theorem kn_digit {U u Y : Nat} (hu : u < 4294967296) (hU : U < Y) : (U * 4294967296 + u) / Y < 4294967296 := by
  rw [Nat.div_lt_iff_lt_mul (by omega)]
  have : (U + 1) * 4294967296 ≤ Y * 4294967296 := Nat.mul_le_mul_right _ hU
  omega

/-- What is left of a digit, as the words reckon it. -/
theorem kn_left {U u Y q : Nat} (hq : (U * 4294967296 + u) / Y = q) (hY : 0 < Y) (hY2 : Y < 18446744073709551616) :
    (U * 4294967296 + u) % Y = U * 4294967296 + u - q * Y ∧ q * Y ≤ U * 4294967296 + u ∧ U * 4294967296 + u - q * Y < Y := by
  have e := Nat.div_add_mod (U * 4294967296 + u) Y
  have hm := Nat.mod_lt (U * 4294967296 + u) (y := Y) hY
  rw [hq, Nat.mul_comm] at e
  omega

/-- What is left of a digit, in words that wrap round. -/
theorem kn_wrap {U u Q Y R : Nat} (h : U * 4294967296 + u = Q * Y + R) (hR : R < 18446744073709551616) :
    IntKind.u64.wrap (IntKind.u64.wrap (IntKind.u64.wrap ((U : Int) * 4294967296) + (u : Int)) - IntKind.u64.wrap ((Q : Int) * (Y : Int))) = (R : Int) := by
  have hW : ∀ x, IntKind.u64.wrap x = x % 18446744073709551616 := fun x => by simp [IntKind.wrap, IntKind.signed, IntKind.bits]
  simp only [hW]
  have h' : (U : Int) * 4294967296 + u = (Q : Int) * Y + R := by
    have : ((U * 4294967296 + u : Nat) : Int) = ((Q * Y + R : Nat) : Int) := by rw [h]
    simpa using this
  generalize (Q : Int) * (Y : Int) = B at *
  omega

/-- Two digits make the quotient; what is left is shifted back. -/
theorem kn_both {N y p U a b q1 r1 q0 r0 : Nat} (hp : 0 < p) (hy : 0 < y) (hN : N * p = U * 18446744073709551616 + (a * 4294967296 + b)) (h1 : U * 4294967296 + a = q1 * (y * p) + r1) (h0 : r1 * 4294967296 + b = q0 * (y * p) + r0) (hr : r0 < y * p) :
    N / y = q1 * 4294967296 + q0 ∧ N % y = r0 / p := by
  have hT : ∀ Y, (q1 * 4294967296 + q0) * Y = q1 * Y * 4294967296 + q0 * Y := fun Y => by rw [Nat.add_mul, Nat.mul_right_comm]
  have hT2 := hT (y * p)
  have hT3 : (q1 * 4294967296 + q0) * y * p = (q1 * 4294967296 + q0) * (y * p) := Nat.mul_assoc _ _ _
  have e : N * p = (q1 * 4294967296 + q0) * y * p + r0 := by omega
  have hle : (q1 * 4294967296 + q0) * y ≤ N := by
    refine Nat.le_of_mul_le_mul_right ?_ hp
    omega
  obtain ⟨d, rfl⟩ : ∃ d, N = (q1 * 4294967296 + q0) * y + d := ⟨N - (q1 * 4294967296 + q0) * y, by omega⟩
  have hd : d * p = r0 := by
    rw [Nat.add_mul] at e
    omega
  have hdy : d < y := by
    refine Nat.lt_of_mul_lt_mul_right (a := p) ?_
    omega
  subst hd
  rw [Nat.mul_div_cancel _ hp]
  constructor
  · rw [Nat.add_comm, Nat.add_mul_div_right _ _ hy, Nat.div_eq_of_lt hdy, Nat.zero_add]
  · rw [Nat.add_comm, Nat.add_mul_mod_self_right, Nat.mod_eq_of_lt hdy]

/-- Two words, shifted, are two words. -/
theorem kn_shift {hi lo s : Nat} (hs : s ≤ 63) (hlo : lo < 18446744073709551616) :
    (hi * 18446744073709551616 + lo) * 2 ^ s = (hi * 2 ^ s + lo / 2 ^ (64 - s)) * 18446744073709551616 + lo * 2 ^ s % 18446744073709551616 ∧ lo / 2 ^ (64 - s) < 2 ^ s := by
  have hpp : 2 ^ s * 2 ^ (64 - s) = 18446744073709551616 := by rw [← Nat.pow_add, (by omega : s + (64 - s) = 64)]
  have hp : 0 < 2 ^ s := Nat.two_pow_pos s
  have hp2 : 0 < 2 ^ (64 - s) := Nat.two_pow_pos _
  have hd : lo * 2 ^ s / 18446744073709551616 = lo / 2 ^ (64 - s) := by
    rw [← hpp, Nat.mul_comm lo, Nat.mul_div_mul_left _ _ hp]
  have e := Nat.div_add_mod (lo * 2 ^ s) 18446744073709551616
  rw [hd] at e
  refine ⟨?_, ?_⟩
  · rw [Nat.add_mul, Nat.add_mul, Nat.mul_right_comm]
    omega
  · rw [Nat.div_lt_iff_lt_mul hp2, hpp]
    exact hlo
end Go.Proofs.Ytioecjoddgpjbaa
