/-
  math/bits.TrailingZeros over the library's own table; ratio's common: the greatest common divisor.
-/
import Derived.Test.YtioecjoddgpjbaaWide3
import Derived.Shelf.Spec.TrailingZeros
namespace Go.Proofs.Ytioecjoddgpjbaa
open Go.RowKit

/-- The library's table lies in its variable. -/
def Tb (w : World) : Prop := TabAt 1 Lib.deBruijn64tab w
section
variable {w w' : World}
theorem Tb.keep (h : Tb w) (hk : ∀ b, b < w.heap.size → w'.heap[b]? = w.heap[b]?) : Tb w' := fun j hj => by
  have h1 := h j hj
  exact (World.cell?_of_block (w := w) (hk 1 (World.block_lt_of_cell? w _ h1))).trans h1
theorem Tb.below {B : Nat} (h : Tb w) (hb : Below B w w') (hB : w.heap.size ≤ B) : Tb w' := h.keep fun b h => hb.block b (Nat.lt_of_lt_of_le h hB)
theorem Tb.later (h : Tb w) (hb : Below w.heap.size w w') : Tb w' := h.below hb (Nat.le_refl _)
theorem Tb.alloc (h : Tb w) (o : Obj) : Tb (w.alloc o) := h.keep fun b hb => Below.heap_alloc w o b hb
theorem Tb.drew (h : Tb w) : Tb w.drew := h
theorem Tb.drewN (h : Tb w) (n : Nat) : Tb (w.drewN n) := h
end

theorem ctz_split (x : Nat) (hx : x < 18446744073709551616) (h0 : x ≠ 0) : ∃ m, x = 2 ^ Lib.ctz 64 x * (2 * m + 1) ∧ Lib.ctz 64 x < 64 := by
  have h := Lib.ctzFrom_spec 64 x (by omega) (by omega)
  unfold Lib.ctz
  rw [if_neg h0]
  exact h
theorem gcd_odd_shift {a k m : Nat} (ha : a % 2 = 1) : Nat.gcd a (2 ^ k * m) = Nat.gcd a m := by
  have hc : Nat.Coprime a (2 ^ k) := by
    refine Nat.Coprime.pow_right k ?_
    have : Nat.gcd a 2 ∣ 2 := Nat.gcd_dvd_right a 2
    have h2 : Nat.gcd a 2 ≤ 2 := Nat.le_of_dvd (by decide) this
    have h3 : Nat.gcd a 2 ∣ a := Nat.gcd_dvd_left a 2
    have h4 : 0 < Nat.gcd a 2 := Nat.gcd_pos_of_pos_right a (by decide)
    rcases (by omega : Nat.gcd a 2 = 1 ∨ Nat.gcd a 2 = 2) with h | h
    · exact h
    · rw [h] at h3
      omega
  exact Nat.Coprime.gcd_mul_left_cancel_right m hc.symm
/-- Twos are common as far as both numbers have them. -/
theorem gcd_twos {i j m n : Nat} (hm : m % 2 = 1) (hn : n % 2 = 1) : Nat.gcd (2 ^ i * m) (2 ^ j * n) = Nat.gcd m n * 2 ^ min i j := by
  rcases Nat.le_total i j with h | h
  · rw [Nat.min_eq_left h]
    obtain ⟨d, rfl⟩ : ∃ d, j = i + d := ⟨j - i, by omega⟩
    rw [Nat.pow_add, Nat.mul_assoc, Nat.gcd_mul_left, gcd_odd_shift hm, Nat.mul_comm]
  · rw [Nat.min_eq_right h]
    obtain ⟨d, rfl⟩ : ∃ d, i = j + d := ⟨i - j, by omega⟩
    rw [Nat.pow_add, Nat.mul_assoc, Nat.gcd_mul_left, Nat.gcd_comm (2 ^ d * m), gcd_odd_shift hn, Nat.mul_comm, Nat.gcd_comm n]
/-- One round of common: what is left has the same common divisor. -/
theorem common_round {x p k : Nat} (hx : x % 2 = 1) : (2 * p + 1 < x → Nat.gcd (2 * p + 1) (x - (2 * p + 1)) = Nat.gcd x (2 ^ k * (2 * p + 1))) ∧ (x ≤ 2 * p + 1 → Nat.gcd x (2 * p + 1 - x) = Nat.gcd x (2 ^ k * (2 * p + 1))) := by
  rw [gcd_odd_shift hx]
  exact ⟨fun h => by rw [Nat.gcd_sub_self_right (by omega), Nat.gcd_comm], fun h => Nat.gcd_sub_self_right h⟩

end Go.Proofs.Ytioecjoddgpjbaa
