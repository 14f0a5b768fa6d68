/-
  Plain arithmetic of lists of decimal digits, the last one first: their value, lowest terms, sums, differences; nothing of the program is in sight.
-/
import Derived.Test.YtioecjoddgpjbaaK
namespace Go.Proofs.Ytioecjoddgpjbaa

/-- The number that digits are, the last one first. -/
def val : List Int → Int
  | [] => 0
  | d :: r => d + 10 * val r
/-- Digits. -/
def Dg (l : List Int) : Prop := ∀ d ∈ l, 0 ≤ d ∧ d ≤ 9
/-- Digits without noughts behind the last one that is none. -/
def Can (l : List Int) : Prop := Dg l ∧ ∀ h : l ≠ [], l.getLast h ≠ 0
/-- 10 to the n. -/
def ten : Nat → Int
  | 0 => 1
  | n + 1 => 10 * ten n

theorem ten_pos (n : Nat) : 1 ≤ ten n := by
  induction n with
  | zero => simp [ten]
  | succ n ih => simp only [ten]; omega
theorem ten_add (m n : Nat) : ten (m + n) = ten m * ten n := by
  induction m with
  | zero => simp [ten]
  | succ m ih => rw [Nat.succ_add]; simp only [ten]; rw [ih, Int.mul_assoc]
theorem ten_mono {m n : Nat} (h : m ≤ n) : ten m ≤ ten n := by
  obtain ⟨k, rfl⟩ := Nat.exists_eq_add_of_le h
  rw [ten_add]
  have h1 := ten_pos m
  have h2 := ten_pos k
  calc ten m = ten m * 1 := by omega
    _ ≤ ten m * ten k := Int.mul_le_mul_of_nonneg_left h2 (by omega)
theorem Dg.nil : Dg [] := fun d hd => absurd hd (by simp)
theorem Dg.cons {d : Int} {r : List Int} (h : Dg (d :: r)) : (0 ≤ d ∧ d ≤ 9) ∧ Dg r := ⟨h d (by simp), fun x hx => h x (by simp [hx])⟩
theorem Dg.snoc {l : List Int} {d : Int} (h : Dg l) (h0 : 0 ≤ d) (h9 : d ≤ 9) : Dg (l ++ [d]) := by
  intro x hx
  rcases List.mem_append.1 hx with hx | hx
  · exact h x hx
  · simp only [List.mem_singleton] at hx; subst hx; exact ⟨h0, h9⟩
theorem Dg.take {l : List Int} (h : Dg l) (k : Nat) : Dg (l.take k) := fun x hx => h x (List.mem_of_mem_take hx)
theorem Dg.drop {l : List Int} (h : Dg l) (k : Nat) : Dg (l.drop k) := fun x hx => h x (List.mem_of_mem_drop hx)
theorem Dg.get {l : List Int} (h : Dg l) (k : Nat) (hk : k < l.length) : 0 ≤ l[k] ∧ l[k] ≤ 9 := h _ (List.getElem_mem hk)

theorem val_nonneg {l : List Int} (h : Dg l) : 0 ≤ val l := by
  induction l with
  | nil => simp [val]
  | cons d r ih =>
    obtain ⟨hd, hr⟩ := h.cons
    have := ih hr
    simp only [val]; omega
theorem val_lt {l : List Int} (h : Dg l) : val l < ten l.length := by
  induction l with
  | nil => simp [val, ten]
  | cons d r ih =>
    obtain ⟨hd, hr⟩ := h.cons
    have := ih hr
    simp only [val, List.length_cons, ten]; omega
theorem val_append (l m : List Int) : val (l ++ m) = val l + ten l.length * val m := by
  induction l with
  | nil => simp [val, ten]
  | cons d r ih =>
    simp only [List.cons_append, val, List.length_cons, ten, ih, Int.mul_add]
    rw [Int.mul_assoc]
    omega
theorem val_snoc (l : List Int) (d : Int) : val (l ++ [d]) = val l + ten l.length * d := by
  rw [val_append]; simp [val]
theorem val_split (l : List Int) (k : Nat) (hk : k ≤ l.length) : val l = val (l.take k) + ten k * val (l.drop k) := by
  conv => lhs; rw [← List.take_append_drop k l]
  rw [val_append, List.length_take, Nat.min_eq_left hk]
theorem val_drop (l : List Int) (k : Nat) (hk : k < l.length) : val (l.drop k) = l[k] + 10 * val (l.drop (k + 1)) := by
  rw [List.drop_eq_getElem_cons hk]; rfl
theorem val_drop_nil (l : List Int) (k : Nat) (hk : l.length ≤ k) : val (l.drop k) = 0 := by
  rw [List.drop_eq_nil_of_le hk]; rfl

theorem can_nil : Can [] := ⟨Dg.nil, fun h => absurd rfl h⟩
theorem Can.drop {l : List Int} (h : Can l) (k : Nat) : Can (l.drop k) := by
  refine ⟨h.1.drop k, fun hne => ?_⟩
  have hl : l ≠ [] := by rintro rfl; simp at hne
  rw [List.getLast_drop]
  exact h.2 hl
/-- A number of n digits is at least 10 to the n - 1. -/
theorem can_ge {l : List Int} (h : Can l) (hn : l ≠ []) : ten (l.length - 1) ≤ val l := by
  have hl : 0 < l.length := List.length_pos_iff.2 hn
  have hs := val_split l (l.length - 1) (by omega)
  have hd : val (l.drop (l.length - 1)) = l[l.length - 1] := by
    rw [val_drop l (l.length - 1) (by omega), val_drop_nil _ _ (by omega)]; omega
  have hlast : l[l.length - 1] ≠ 0 := by
    have := h.2 hn
    rwa [List.getLast_eq_getElem] at this
  have hg := h.1.get (l.length - 1) (by omega)
  have h0 := val_nonneg (h.1.take (l.length - 1))
  have ht := ten_pos (l.length - 1)
  rw [hs, hd]
  have hm : ten (l.length - 1) * 1 ≤ ten (l.length - 1) * l[l.length - 1] := Int.mul_le_mul_of_nonneg_left (by omega) (by omega)
  omega
theorem can_zero {l : List Int} (h : Can l) (hv : val l = 0) : l = [] := by
  rcases Decidable.em (l = []) with h0 | h0
  · exact h0
  · have := can_ge h h0
    have := ten_pos (l.length - 1)
    omega
/-- The longer one is the greater one. -/
theorem can_longer {l m : List Int} (hl : Can l) (hm : Can m) (h : l.length < m.length) : val l < val m := by
  have h1 := val_lt hl.1
  have h2 := can_ge hm (by rintro rfl; simp at h)
  have h3 := ten_mono (show l.length ≤ m.length - 1 by omega)
  omega
theorem can_len_le {l m : List Int} (hl : Can l) (hm : Can m) (h : val l ≤ val m) : l.length ≤ m.length := by
  rcases Nat.lt_or_ge m.length l.length with h1 | h1
  · have := can_longer hm hl h1; omega
  · exact h1
/-- A number below 10 to the n has at most n digits. -/
theorem can_len {l : List Int} (hl : Can l) {n : Nat} (h : val l < ten n) : l.length ≤ n := by
  rcases Nat.lt_or_ge n l.length with h1 | h1
  · have h2 := can_ge hl (by rintro rfl; simp at h1)
    have h3 := ten_mono (show n ≤ l.length - 1 by omega)
    omega
  · exact h1
/-- At the first place from the top where digits differ they tell which number is the lesser one. -/
theorem val_lt_of {l m : List Int} (hl : Dg l) (hm : Dg m) {k : Nat} (hk : k < l.length) (hk' : k < m.length) (h : val (l.drop (k + 1)) = val (m.drop (k + 1))) (hd : l[k] < m[k]) : val l < val m := by
  rw [val_split l k (by omega), val_split m k (by omega), val_drop l k hk, val_drop m k hk', h]
  have h1 := val_lt (hl.take k)
  have h2 := val_nonneg (hm.take k)
  rw [List.length_take, Nat.min_eq_left (by omega)] at h1
  have ht := ten_pos k
  have hm : ten k * (l[k] + 10 * val (m.drop (k + 1)) + 1) ≤ ten k * (m[k] + 10 * val (m.drop (k + 1))) := Int.mul_le_mul_of_nonneg_left (by omega) (by omega)
  rw [Int.mul_add] at hm
  omega

/-- How many digits are left when the noughts at the top are struck. -/
def trimLen (l : List Int) : Nat → Nat
  | 0 => 0
  | n + 1 => if l[n]?.getD 0 = 0 then trimLen l n else n + 1
theorem trimLen_le (l : List Int) (n : Nat) : trimLen l n ≤ n := by
  induction n with
  | zero => simp [trimLen]
  | succ n ih => simp only [trimLen]; split <;> omega
theorem trim_val (l : List Int) (n : Nat) (h : n ≤ l.length) : val (l.take (trimLen l n)) = val (l.take n) := by
  induction n with
  | zero => simp [trimLen]
  | succ n ih =>
    simp only [trimLen]
    split
    · rename_i h0
      rw [ih (by omega), List.take_succ_eq_append_getElem (by omega), val_snoc]
      rw [List.getElem?_eq_getElem (by omega)] at h0
      simp only [Option.getD_some] at h0
      rw [h0]; omega
    · rfl
theorem trim_can (l : List Int) (hd : Dg l) (n : Nat) (h : n ≤ l.length) : Can (l.take (trimLen l n)) := by
  induction n with
  | zero => simp only [trimLen, List.take_zero]; exact can_nil
  | succ n ih =>
    simp only [trimLen]
    split
    · exact ih (by omega)
    · rename_i h0
      refine ⟨hd.take _, fun hne => ?_⟩
      rw [List.getElem?_eq_getElem (by omega)] at h0
      simp only [Option.getD_some] at h0
      rw [List.getLast_eq_getElem, List.getElem_take]
      simp only [List.length_take, Nat.min_eq_left h, Nat.add_sub_cancel]
      exact h0
end Go.Proofs.Ytioecjoddgpjbaa
