/-
  Plain arithmetic of lists of decimal digits: products and quotients; nothing of the program is in sight.
-/
import Derived.Test.YtioecjoddgpjbaaD
namespace Go.Proofs.Ytioecjoddgpjbaa

theorem val_zeros (n : Nat) : val (List.replicate n 0) = 0 := by
  induction n with
  | zero => rfl
  | succ n ih => rw [List.replicate_succ, val, ih]; rfl
theorem Dg.zeros (n : Nat) : Dg (List.replicate n 0) := by
  intro d hd
  rw [List.eq_of_mem_replicate hd]
  omega
theorem val_take_succ (l : List Int) (i : Nat) (h : i < l.length) : val (l.take (i + 1)) = val (l.take i) + ten i * l[i] := by
  rw [List.take_succ_eq_append_getElem h, val_snoc, List.length_take, Nat.min_eq_left (by omega)]

/-- One place of a row of a product. -/
theorem mul_step {o a : List Int} {i k : Nat} {carry b da : Int} (ho : o.length = i + k) (hda : val (a.drop k) = da + 10 * val (a.drop (k + 1)))
    (inv : val o + ten (i + k) * (carry + b * val (a.drop k)) = ten i * (b * val a)) :
    val (o ++ [(carry + da * b) % 10]) + ten (i + (k + 1)) * ((carry + da * b) / 10 + b * val (a.drop (k + 1))) = ten i * (b * val a) := by
  rw [val_snoc, ho, ← inv, hda, show i + (k + 1) = (i + k) + 1 by omega]
  have e : carry + da * b = (carry + da * b) % 10 + 10 * ((carry + da * b) / 10) := by omega
  generalize (carry + da * b) % 10 = r at *
  generalize (carry + da * b) / 10 = q at *
  simp only [ten]
  have e2 : carry + b * (da + 10 * val (a.drop (k + 1))) = r + 10 * (q + b * val (a.drop (k + 1))) := by
    rw [Int.mul_add, Int.mul_comm b da, ← Int.add_assoc, e]
    grind
  rw [e2]
  grind
theorem mul_carry {da b : Int} (a0 : 0 ≤ da) (a9 : da ≤ 9) (b0 : 0 ≤ b) (b9 : b ≤ 9) : 0 ≤ da * b ∧ da * b ≤ 81 := by
  constructor
  · exact Int.mul_nonneg a0 b0
  · have := Int.mul_le_mul a9 b9 b0 (by omega : (0 : Int) ≤ 9)
    omega
theorem natAbs_mul' (a b : Int) : ((a * b).natAbs : Int) = (a.natAbs : Int) * (b.natAbs : Int) := by rw [Int.natAbs_mul]; push_cast; rfl
/-- How long a product is. -/
theorem mul_len {xs ys zs : List Int} (hx : Dg xs) (hy : Dg ys) (hz : Can zs) (h : val zs = val xs * val ys) {L L' : Nat} (hL : xs.length ≤ L) (hL' : ys.length ≤ L') : zs.length ≤ L + L' := by
  refine Nat.le_trans (can_len (n := xs.length + ys.length) hz ?_) (by omega)
  rw [h, ten_add]
  have h1 := val_lt hx
  have h2 := val_lt hy
  have h3 := val_nonneg hx
  have h4 := val_nonneg hy
  have h5 := ten_pos xs.length
  calc val xs * val ys ≤ val xs * ten ys.length := Int.mul_le_mul_of_nonneg_left (by omega) h3
    _ < ten xs.length * ten ys.length := Int.mul_lt_mul_of_pos_right h1 (by have := ten_pos ys.length; omega)
theorem mul_pos_iff (a b : Int) : 0 < (a.natAbs : Int) * (b.natAbs : Int) ↔ a * b ≠ 0 := by
  rw [← natAbs_mul']
  omega
theorem mul_neg_iff (a b : Int) : (decide (a * b < 0)) = ((decide (a < 0) != decide (b < 0)) && decide (a * b ≠ 0)) := by
  rcases (by omega : a < 0 ∨ a = 0 ∨ 0 < a) with ha | ha | ha <;> rcases (by omega : b < 0 ∨ b = 0 ∨ 0 < b) with hb | hb | hb
  · have := Int.mul_pos_of_neg_of_neg ha hb
    simp [ha, hb]; omega
  · simp [hb]
  · have := Int.mul_neg_of_neg_of_pos ha hb
    simp [ha, show ¬ b < 0 by omega, this]; omega
  · simp [ha]
  · simp [ha]
  · simp [ha]
  · have := Int.mul_neg_of_pos_of_neg ha hb
    simp [hb, show ¬ a < 0 by omega, this]; omega
  · simp [hb]
  · have := Int.mul_pos ha hb
    simp [show ¬ a < 0 by omega, show ¬ b < 0 by omega]; omega

/-- One place of a quotient. -/
theorem div_step {a q : List Int} {k : Nat} {d B R R' n : Int} (ha : val (a.drop k) = d + 10 * val (a.drop (k + 1))) (inv : val (a.drop (k + 1)) = val q * B + R) (hR : R' + n * B = d + 10 * R) :
    val (a.drop k) = val (n :: q) * B + R' := by
  rw [ha, inv, val]
  grind
theorem div_digit {d B R R' n : Int} (d9 : d ≤ 9) (hR : R < B) (hR' : 0 ≤ R') (h : R' + n * B = d + 10 * R) (hB : 0 < B) : n ≤ 9 := by
  rcases (by omega : 9 < n ∨ n ≤ 9) with h1 | h1
  · exfalso
    have : 10 * B ≤ n * B := Int.mul_le_mul_of_nonneg_right (by omega) (by omega)
    omega
  · exact h1
/-- The quotient, rounded down, and what is left, of what the digits come to. -/
theorem div_pos {z b q r : Int} (hb : 0 < b) (h : z = q * b + r) (h0 : 0 ≤ r) (h1 : r < b) : z / b = q ∧ z % b = r := by
  have hd : z / b = q := by
    rw [h, Int.add_comm, Int.add_mul_ediv_right _ _ (by omega), Int.ediv_eq_zero_of_lt h0 h1, Int.zero_add]
  refine ⟨hd, ?_⟩
  have := Int.emod_add_mul_ediv z b
  rw [hd, Int.mul_comm b q] at this
  omega
theorem div_neg {z b q r : Int} (hb : 0 < b) (h : -z = q * b + r) (h0 : 0 < r) (h1 : r < b) : z / b = -(q + 1) ∧ z % b = b - r := by
  refine div_pos hb ?_ (by omega) (by omega)
  rw [Int.neg_mul, Int.add_mul, Int.one_mul]
  omega
theorem div_neg0 {z b q : Int} (hb : 0 < b) (h : -z = q * b + 0) : z / b = -q ∧ z % b = 0 := by
  refine div_pos hb ?_ (by omega) (by omega)
  rw [Int.neg_mul]
  omega
end Go.Proofs.Ytioecjoddgpjbaa
