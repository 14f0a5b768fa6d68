/-
  Chapter 11 in plain numbers: how many ones a word has; the lowest one; nothing of the program is in sight.
-/
import Derived.Test.YtgilmpakdohijaaDoorRows
namespace Go.Proofs.YtgilmpakdohijaaDoor
theorem land_split (k a b c d : Nat) (ha : a < 2 ^ k) (hc : c < 2 ^ k) : (a + 2 ^ k * b) &&& (c + 2 ^ k * d) = (a &&& c) + 2 ^ k * (b &&& d) := by
  apply Nat.eq_of_testBit_eq
  intro j
  have hac : a &&& c < 2 ^ k := Nat.lt_of_le_of_lt Nat.and_le_left ha
  rw [Nat.testBit_and, Nat.add_comm a, Nat.add_comm c, Nat.add_comm (a &&& c), Nat.testBit_two_pow_mul_add _ ha, Nat.testBit_two_pow_mul_add _ hc, Nat.testBit_two_pow_mul_add _ hac]
  split
  · rw [Nat.testBit_and]
  · rw [Nat.testBit_and]
/-- The sum of the last n digits. -/
def dsum (B : Nat) : Nat → Nat → Nat
  | 0, _ => 0
  | n + 1, x => x % B + dsum B n (x / B)
/-- The last n digits are no more than m. -/
def dle (B m : Nat) : Nat → Nat → Prop
  | 0, _ => True
  | n + 1, x => x % B ≤ m ∧ dle B m n (x / B)
/-- Fields of 2 bits: the mask of their lower halves. -/
def mk1 : Nat → Nat
  | 0 => 0
  | n + 1 => 1 + 4 * mk1 n
def lo1 : Nat → Nat → Nat
  | 0, _ => 0
  | n + 1, x => x % 2 + 4 * lo1 n (x / 4)
def hi1 : Nat → Nat → Nat
  | 0, _ => 0
  | n + 1, x => x % 4 / 2 + 4 * hi1 n (x / 4)
/-- The two halves of each field added. -/
def st1 : Nat → Nat → Nat
  | 0, _ => 0
  | n + 1, x => (x % 4 / 2 + x % 2) + 4 * st1 n (x / 4)
theorem lo1_eq : ∀ (n x : Nat), x &&& mk1 n = lo1 n x := by
  intro n
  induction n with
  | zero => intro x; simp [mk1, lo1]
  | succ n ih =>
    intro x
    have h := land_split 2 (x % 4) (x / 4) 1 (mk1 n) (by omega) (by decide)
    rw [show x % 4 + 2 ^ 2 * (x / 4) = x by omega, ih, show (x % 4) &&& 1 = x % 2 by
      have := Nat.and_two_pow_sub_one_eq_mod (x % 4) 1
      simp only [Nat.reducePow, Nat.add_one_sub_one] at this
      rw [this]; omega] at h
    exact h
theorem hi1_eq : ∀ (n x : Nat), x / 2 &&& mk1 n = hi1 n x := by
  intro n
  induction n with
  | zero => intro x; simp [mk1, hi1]
  | succ n ih =>
    intro x
    have h := land_split 2 (x % 4 / 2 + 2 * (x / 4 % 2)) (x / 4 / 2) 1 (mk1 n) (by omega) (by decide)
    rw [show x % 4 / 2 + 2 * (x / 4 % 2) + 2 ^ 2 * (x / 4 / 2) = x / 2 by omega, ih, show (x % 4 / 2 + 2 * (x / 4 % 2)) &&& 1 = x % 4 / 2 by
      have := Nat.and_two_pow_sub_one_eq_mod (x % 4 / 2 + 2 * (x / 4 % 2)) 1
      simp only [Nat.reducePow, Nat.add_one_sub_one] at this
      rw [this]; omega] at h
    exact h
theorem st1_eq : ∀ (n x : Nat), (x / 2 &&& mk1 n) + (x &&& mk1 n) = st1 n x := by
  intro n x
  rw [hi1_eq, lo1_eq]
  induction n generalizing x with
  | zero => rfl
  | succ n ih => simp only [hi1, lo1, st1]; rw [← ih]; omega
theorem st1_dsum : ∀ (n x : Nat), dsum 4 n (st1 n x) = dsum 2 (2 * n) x := by
  intro n
  induction n with
  | zero => intro x; rfl
  | succ n ih =>
    intro x
    have e : st1 (n + 1) x = (x % 4 / 2 + x % 2) + 4 * st1 n (x / 4) := rfl
    rw [show 2 * (n + 1) = 2 * n + 1 + 1 by omega]
    simp only [dsum]
    rw [e, show ((x % 4 / 2 + x % 2) + 4 * st1 n (x / 4)) % 4 = x % 4 / 2 + x % 2 by omega, show ((x % 4 / 2 + x % 2) + 4 * st1 n (x / 4)) / 4 = st1 n (x / 4) by omega, ih, show x / 2 / 2 = x / 4 by omega]
    omega
/-- Fields of 4 bits: the mask of their lower halves. -/
def mk2 : Nat → Nat
  | 0 => 0
  | n + 1 => 3 + 16 * mk2 n
def lo2 : Nat → Nat → Nat
  | 0, _ => 0
  | n + 1, x => x % 4 + 16 * lo2 n (x / 16)
def hi2 : Nat → Nat → Nat
  | 0, _ => 0
  | n + 1, x => x % 16 / 4 + 16 * hi2 n (x / 16)
/-- The two halves of each field added. -/
def st2 : Nat → Nat → Nat
  | 0, _ => 0
  | n + 1, x => (x % 16 / 4 + x % 4) + 16 * st2 n (x / 16)
theorem lo2_eq : ∀ (n x : Nat), x &&& mk2 n = lo2 n x := by
  intro n
  induction n with
  | zero => intro x; simp [mk2, lo2]
  | succ n ih =>
    intro x
    have h := land_split 4 (x % 16) (x / 16) 3 (mk2 n) (by omega) (by decide)
    rw [show x % 16 + 2 ^ 4 * (x / 16) = x by omega, ih, show (x % 16) &&& 3 = x % 4 by
      have := Nat.and_two_pow_sub_one_eq_mod (x % 16) 2
      simp only [Nat.reducePow, Nat.add_one_sub_one] at this
      rw [this]; omega] at h
    exact h
theorem hi2_eq : ∀ (n x : Nat), x / 4 &&& mk2 n = hi2 n x := by
  intro n
  induction n with
  | zero => intro x; simp [mk2, hi2]
  | succ n ih =>
    intro x
    have h := land_split 4 (x % 16 / 4 + 4 * (x / 16 % 4)) (x / 16 / 4) 3 (mk2 n) (by omega) (by decide)
    rw [show x % 16 / 4 + 4 * (x / 16 % 4) + 2 ^ 4 * (x / 16 / 4) = x / 4 by omega, ih, show (x % 16 / 4 + 4 * (x / 16 % 4)) &&& 3 = x % 16 / 4 by
      have := Nat.and_two_pow_sub_one_eq_mod (x % 16 / 4 + 4 * (x / 16 % 4)) 2
      simp only [Nat.reducePow, Nat.add_one_sub_one] at this
      rw [this]; omega] at h
    exact h
theorem st2_eq : ∀ (n x : Nat), (x / 4 &&& mk2 n) + (x &&& mk2 n) = st2 n x := by
  intro n x
  rw [hi2_eq, lo2_eq]
  induction n generalizing x with
  | zero => rfl
  | succ n ih => simp only [hi2, lo2, st2]; rw [← ih]; omega
theorem st2_dsum : ∀ (n x : Nat), dsum 16 n (st2 n x) = dsum 4 (2 * n) x := by
  intro n
  induction n with
  | zero => intro x; rfl
  | succ n ih =>
    intro x
    have e : st2 (n + 1) x = (x % 16 / 4 + x % 4) + 16 * st2 n (x / 16) := rfl
    rw [show 2 * (n + 1) = 2 * n + 1 + 1 by omega]
    simp only [dsum]
    rw [e, show ((x % 16 / 4 + x % 4) + 16 * st2 n (x / 16)) % 16 = x % 16 / 4 + x % 4 by omega, show ((x % 16 / 4 + x % 4) + 16 * st2 n (x / 16)) / 16 = st2 n (x / 16) by omega, ih, show x / 4 / 4 = x / 16 by omega]
    omega
theorem st1_dle : ∀ (n x : Nat), dle 4 2 n (st1 n x) := by
  intro n
  induction n with
  | zero => intro x; trivial
  | succ n ih =>
    intro x
    have e : st1 (n + 1) x = (x % 4 / 2 + x % 2) + 4 * st1 n (x / 4) := rfl
    have u1 : x % 4 / 2 ≤ 1 := by omega
    have u2 : x % 2 ≤ 1 := by omega
    generalize x % 4 / 2 = u at *
    generalize x % 2 = v at *
    refine ⟨by omega, ?_⟩
    rw [show st1 (n + 1) x / 4 = st1 n (x / 4) by omega]
    exact ih _
theorem st2_dle : ∀ (n x : Nat), dle 4 2 (2 * n) x → dle 16 4 n (st2 n x) := by
  intro n
  induction n with
  | zero => intro x _; trivial
  | succ n ih =>
    intro x h
    have e : st2 (n + 1) x = (x % 16 / 4 + x % 4) + 16 * st2 n (x / 16) := rfl
    rw [show 2 * (n + 1) = 2 * n + 1 + 1 by omega] at h
    obtain ⟨h1, h2, h3⟩ := h
    rw [show x / 4 / 4 = x / 16 by omega] at h3
    have u1 : x % 16 / 4 ≤ 2 := by omega
    clear h2
    generalize x % 16 / 4 = u at *
    generalize x % 4 = v at *
    refine ⟨by omega, ?_⟩
    rw [show st2 (n + 1) x / 16 = st2 n (x / 16) by omega]
    exact ih _ h3
/-- Nibbles added by pairs. -/
def mk4 : Nat → Nat
  | 0 => 0
  | n + 1 => 15 + 256 * mk4 n
def st4 : Nat → Nat → Nat
  | 0, _ => 0
  | n + 1, x => (x % 256 / 16 + x % 16) + 256 * st4 n (x / 256)
theorem st4_eq : ∀ (n x : Nat), dle 16 4 (2 * n + 1) x → (x / 16 + x) &&& mk4 n = st4 n x := by
  intro n
  induction n with
  | zero => intro x _; simp [mk4, st4]
  | succ n ih =>
    intro x h
    rw [show 2 * (n + 1) + 1 = 2 * n + 1 + 1 + 1 by omega] at h
    obtain ⟨h1, h2, h3⟩ := h
    rw [show x / 16 / 16 = x / 256 by omega] at h3
    have h4 : x / 256 % 16 ≤ 4 := h3.1
    have h := land_split 8 ((x % 16 + x / 16 % 16) + 16 * (x / 16 % 16 + x / 256 % 16)) (x / 256 / 16 + x / 256) 15 (mk4 n) (by omega) (by decide)
    rw [show (x % 16 + x / 16 % 16) + 16 * (x / 16 % 16 + x / 256 % 16) + 2 ^ 8 * (x / 256 / 16 + x / 256) = x / 16 + x by omega, ih _ h3, show ((x % 16 + x / 16 % 16) + 16 * (x / 16 % 16 + x / 256 % 16)) &&& 15 = x % 256 / 16 + x % 16 by
      have := Nat.and_two_pow_sub_one_eq_mod ((x % 16 + x / 16 % 16) + 16 * (x / 16 % 16 + x / 256 % 16)) 4
      simp only [Nat.reducePow, Nat.add_one_sub_one] at this
      rw [this]; omega] at h
    exact h
theorem st4_dsum : ∀ (n x : Nat), dle 16 4 (2 * n) x → dsum 256 n (st4 n x) = dsum 16 (2 * n) x ∧ dle 256 8 n (st4 n x) := by
  intro n
  induction n with
  | zero => intro x _; exact ⟨rfl, trivial⟩
  | succ n ih =>
    intro x h
    rw [show 2 * (n + 1) = 2 * n + 1 + 1 by omega] at h ⊢
    obtain ⟨h1, h2, h3⟩ := h
    rw [show x / 16 / 16 = x / 256 by omega] at h3
    obtain ⟨i1, i2⟩ := ih _ h3
    have e : st4 (n + 1) x = (x % 256 / 16 + x % 16) + 256 * st4 n (x / 256) := rfl
    have u1 : x % 256 / 16 ≤ 4 := by omega
    have k1 : st4 (n + 1) x % 256 ≤ 8 := by
      clear h2 i1 i2 h3
      generalize x % 256 / 16 = u at *
      generalize x % 16 = v at *
      omega
    have k2 : st4 (n + 1) x / 256 = st4 n (x / 256) := by omega
    refine ⟨?_, k1, ?_⟩
    · simp only [dsum]
      rw [e, show ((x % 256 / 16 + x % 16) + 256 * st4 n (x / 256)) % 256 = x % 256 / 16 + x % 16 by omega, show ((x % 256 / 16 + x % 16) + 256 * st4 n (x / 256)) / 256 = st4 n (x / 256) by omega, i1, show x / 16 / 16 = x / 256 by omega]
      omega
    · rw [k2]
      exact i2
theorem st4_lt : ∀ (n x : Nat), dle 256 8 n (st4 n x) → st4 n x < 256 ^ n := by
  intro n
  induction n with
  | zero => intro x _; simp [st4]
  | succ n ih =>
    intro x h
    have e : st4 (n + 1) x = (x % 256 / 16 + x % 16) + 256 * st4 n (x / 256) := rfl
    obtain ⟨_, h2⟩ := h
    rw [show st4 (n + 1) x / 256 = st4 n (x / 256) by omega] at h2
    have := ih _ h2
    rw [Nat.pow_succ]
    omega
/-- Eight bytes of no more than 8 added up by halves. -/
theorem bytes_form (b0 b1 b2 b3 b4 b5 b6 b7 y x1 x2 : Nat) (h0 : b0 ≤ 8) (h1 : b1 ≤ 8) (h2 : b2 ≤ 8) (h3 : b3 ≤ 8) (h4 : b4 ≤ 8) (h5 : b5 ≤ 8) (h6 : b6 ≤ 8) (h7 : b7 ≤ 8) (hy : y = b0 + 256 * b1 + 65536 * b2 + 16777216 * b3 + 4294967296 * b4 + 1099511627776 * b5 + 281474976710656 * b6 + 72057594037927936 * b7) (hx1 : x1 = y + y / 256) (hx2 : x2 = x1 + x1 / 65536) : (x2 + x2 / 4294967296) % 128 = b0 + b1 + b2 + b3 + b4 + b5 + b6 + b7 ∧ x1 < 18446744073709551616 ∧ x2 < 18446744073709551616 ∧ x2 + x2 / 4294967296 < 9223372036854775808 := by
  have e1 : y / 256 = b1 + 256 * b2 + 65536 * b3 + 16777216 * b4 + 4294967296 * b5 + 1099511627776 * b6 + 281474976710656 * b7 := by omega
  have f1 : x1 = (b0 + b1) + 256 * (b1 + b2) + 65536 * (b2 + b3) + 16777216 * (b3 + b4) + 4294967296 * (b4 + b5) + 1099511627776 * (b5 + b6) + 281474976710656 * (b6 + b7) + 72057594037927936 * b7 := by omega
  clear hx1 e1 hy
  have e2 : x1 / 65536 = (b2 + b3) + 256 * (b3 + b4) + 65536 * (b4 + b5) + 16777216 * (b5 + b6) + 4294967296 * (b6 + b7) + 1099511627776 * b7 := by omega
  have f2 : x2 = (b0 + b1 + b2 + b3) + 256 * (b1 + b2 + b3 + b4) + 65536 * (b2 + b3 + b4 + b5) + 16777216 * (b3 + b4 + b5 + b6) + 4294967296 * (b4 + b5 + b6 + b7) + 1099511627776 * (b5 + b6 + b7) + 281474976710656 * (b6 + b7) + 72057594037927936 * b7 := by omega
  have g1 : x1 < 18446744073709551616 := by omega
  clear hx2 e2 f1
  have e3 : x2 / 4294967296 = (b4 + b5 + b6 + b7) + 256 * (b5 + b6 + b7) + 65536 * (b6 + b7) + 16777216 * b7 := by omega
  rw [e3]
  omega
theorem bytes_sum {y x1 x2 : Nat} (h : dle 256 8 8 y) (hy : y < 256 ^ 8) (hx1 : x1 = y + y / 256) (hx2 : x2 = x1 + x1 / 65536) : (x2 + x2 / 4294967296) % 128 = dsum 256 8 y ∧ x1 < 18446744073709551616 ∧ x2 < 18446744073709551616 ∧ x2 + x2 / 4294967296 < 9223372036854775808 := by
  obtain ⟨h0, h⟩ := h
  generalize e1 : y / 256 = y1 at h
  obtain ⟨h1, h⟩ := h
  generalize e2 : y1 / 256 = y2 at h
  obtain ⟨h2, h⟩ := h
  generalize e3 : y2 / 256 = y3 at h
  obtain ⟨h3, h⟩ := h
  generalize e4 : y3 / 256 = y4 at h
  obtain ⟨h4, h⟩ := h
  generalize e5 : y4 / 256 = y5 at h
  obtain ⟨h5, h⟩ := h
  generalize e6 : y5 / 256 = y6 at h
  obtain ⟨h6, h⟩ := h
  generalize e7 : y6 / 256 = y7 at h
  obtain ⟨h7, h⟩ := h
  have s : dsum 256 8 y = y % 256 + (y1 % 256 + (y2 % 256 + (y3 % 256 + (y4 % 256 + (y5 % 256 + (y6 % 256 + (y7 % 256 + 0))))))) := by simp only [dsum, e1, e2, e3, e4, e5, e6, e7]
  rw [s]
  clear s h
  have a0 : y = y % 256 + 256 * y1 := by clear hx1 hx2 hy; omega
  have a1 : y1 = y1 % 256 + 256 * y2 := by clear hx1 hx2 hy; omega
  have a2 : y2 = y2 % 256 + 256 * y3 := by clear hx1 hx2 hy; omega
  have a3 : y3 = y3 % 256 + 256 * y4 := by clear hx1 hx2 hy; omega
  have a4 : y4 = y4 % 256 + 256 * y5 := by clear hx1 hx2 hy; omega
  have a5 : y5 = y5 % 256 + 256 * y6 := by clear hx1 hx2 hy; omega
  have a6 : y6 = y6 % 256 + 256 * y7 := by clear hx1 hx2 hy; omega
  have a7 : y7 = y7 % 256 := by clear hx1 hx2; omega
  clear e1 e2 e3 e4 e5 e6 e7 hy
  generalize y % 256 = c0 at *
  generalize y1 % 256 = c1 at *
  generalize y2 % 256 = c2 at *
  generalize y3 % 256 = c3 at *
  generalize y4 % 256 = c4 at *
  generalize y5 % 256 = c5 at *
  generalize y6 % 256 = c6 at *
  generalize y7 % 256 = c7 at *
  have := bytes_form c0 c1 c2 c3 c4 c5 c6 c7 y x1 x2 h0 h1 h2 h3 h4 h5 h6 h7 (by clear hx1 hx2; omega) hx1 hx2
  omega
def onesW (x : Nat) : Nat := dsum 2 64 x
theorem mk1_eq : mk1 32 = 6148914691236517205 := by decide
theorem mk2_eq : mk2 16 = 3689348814741910323 := by decide
theorem mk4_eq : mk4 8 = 1085102592571150095 := by decide
theorem dle_top : ∀ (n x : Nat), dle 16 4 n x → x < 16 ^ n → dle 16 4 (n + 1) x := by
  intro n
  induction n with
  | zero => intro x _ h; exact ⟨by omega, trivial⟩
  | succ n ih =>
    intro x h hx
    rw [Nat.pow_succ] at hx
    exact ⟨h.1, ih _ h.2 (by omega)⟩
theorem st2_lt : ∀ (n x : Nat), dle 16 4 n (st2 n x) → st2 n x < 16 ^ n := by
  intro n
  induction n with
  | zero => intro x _; simp [st2]
  | succ n ih =>
    intro x h
    have e : st2 (n + 1) x = (x % 16 / 4 + x % 4) + 16 * st2 n (x / 16) := rfl
    obtain ⟨h1, h2⟩ := h
    rw [show st2 (n + 1) x / 16 = st2 n (x / 16) by omega] at h2
    have := ih _ h2
    rw [Nat.pow_succ]
    omega
theorem st1_lt : ∀ (n x : Nat), st1 n x < 4 ^ n := by
  intro n
  induction n with
  | zero => intro x; simp [st1]
  | succ n ih =>
    intro x
    have e : st1 (n + 1) x = (x % 4 / 2 + x % 2) + 4 * st1 n (x / 4) := rfl
    have := ih (x / 4)
    rw [Nat.pow_succ]
    omega
theorem dle_le : ∀ (n x : Nat), dle 16 4 n x → x < 16 ^ n → 15 * x + 4 ≤ 4 * 16 ^ n := by
  intro n
  induction n with
  | zero => intro x _ h; simp at h; subst h; simp
  | succ n ih =>
    intro x h hx
    rw [Nat.pow_succ] at hx ⊢
    have := ih (x / 16) h.2 (by omega)
    have := h.1
    omega
/-- All the way: the words between, and the ones at the end. -/
theorem ones_way (x : Nat) : ∃ y1 y2 y3 x1 x2 : Nat, (x / 2 &&& 6148914691236517205) + (x &&& 6148914691236517205) = y1 ∧ (y1 / 4 &&& 3689348814741910323) + (y1 &&& 3689348814741910323) = y2 ∧ (y2 / 16 + y2) &&& 1085102592571150095 = y3 ∧ y3 + y3 / 256 = x1 ∧ x1 + x1 / 65536 = x2 ∧ (x2 + x2 / 4294967296) % 128 = onesW x ∧
    y1 < 18446744073709551616 ∧ y2 / 16 + y2 < 18446744073709551616 ∧ y3 < 18446744073709551616 ∧ x1 < 18446744073709551616 ∧ x2 < 18446744073709551616 ∧ x2 + x2 / 4294967296 < 9223372036854775808 := by
  have d1 := st1_dle 32 x
  have s1 := st1_dsum 32 x
  have d2 := st2_dle 16 _ d1
  have s2 := st2_dsum 16 (st1 32 x)
  have l1 := st1_lt 32 x
  have l2 := st2_lt 16 _ d2
  have q3 := st4_eq 8 _ (dle_top 16 _ d2 l2)
  obtain ⟨s3, d3⟩ := st4_dsum 8 _ d2
  have l3 := st4_lt 8 _ d3
  have l4 := dle_le 16 _ d2 l2
  have q1 := st1_eq 32 x
  have q2 := st2_eq 16 (st1 32 x)
  rw [mk1_eq] at q1
  rw [mk2_eq] at q2
  rw [mk4_eq] at q3
  obtain ⟨b1, b2, b3, b4⟩ := bytes_sum d3 l3 rfl rfl
  refine ⟨_, _, _, _, _, q1, q2, q3, rfl, rfl, ?_, ?_, ?_, ?_, b2, b3, b4⟩
  · rw [b1]; unfold onesW; rw [s3, s2, s1]
  · simpa using l1
  · simp only [Nat.reducePow] at l4; omega
  · simpa using l3
end Go.Proofs.YtgilmpakdohijaaDoor
