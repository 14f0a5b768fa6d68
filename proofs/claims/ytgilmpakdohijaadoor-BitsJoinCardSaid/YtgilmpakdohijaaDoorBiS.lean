/-
  Chapter 11 in plain lists: sets as words, their numbers in order, rising rows; nothing of the program is in sight.
-/
import Derived.Test.YtgilmpakdohijaaDoorBiP
import Derived.Lib.TrailingZeros
namespace Go.Proofs.YtgilmpakdohijaaDoor

/-- Is a number's bit set? -/
def bitW (ws : List Nat) (n : Nat) : Bool := (ws.getD (n / 64) 0).testBit (n % 64)
structure WfW (ws : List Nat) : Prop where
  len : ws.length ≤ 1024
  lt : ∀ w ∈ ws, w < 18446744073709551616
/-- The numbers below B. -/
def belowW (ws : List Nat) (B : Nat) : List Int := ((List.range B).filter (bitW ws)).map fun n : Nat => (n : Int)
def allW (ws : List Nat) : List Int := belowW ws (64 * ws.length)
theorem belowW_succ (ws : List Nat) (B : Nat) : belowW ws (B + 1) = belowW ws B ++ if bitW ws B = true then [(B : Int)] else [] := by
  unfold belowW
  rw [List.range_succ, List.filter_append, List.map_append, List.filter_cons, List.filter_nil]
  split <;> rfl
theorem belowW_skip {ws : List Nat} {B : Nat} : ∀ {C : Nat}, B ≤ C → (∀ j, B ≤ j → j < C → bitW ws j = false) → belowW ws C = belowW ws B := by
  intro C
  induction C with
  | zero => intro h _; rw [show B = 0 by omega]
  | succ C ih =>
    intro h hf
    by_cases hB : B = C + 1
    · rw [hB]
    · rw [belowW_succ, if_neg (by rw [hf C (by omega) (by omega)]; decide), List.append_nil]
      exact ih (by omega) fun j h1 h2 => hf j h1 (by omega)
theorem belowW_pre {ws : List Nat} {B : Nat} : ∀ {C : Nat}, B ≤ C → belowW ws B <+: belowW ws C := by
  intro C
  induction C with
  | zero => intro h; rw [show B = 0 by omega]; exact List.prefix_refl _
  | succ C ih =>
    intro h
    by_cases hB : B = C + 1
    · rw [hB]; exact List.prefix_refl _
    · rw [belowW_succ]
      exact (ih (by omega)).trans (List.prefix_append _ _)
theorem belowW_len (ws : List Nat) (B : Nat) : (belowW ws B).length ≤ B := by
  unfold belowW
  rw [List.length_map]
  have := List.length_filter_le (bitW ws) (List.range B)
  rw [List.length_range] at this
  exact this
theorem bitW_at {ws : List Nat} {i k : Nat} (hi : i < ws.length) (hk : k < 64) : bitW ws (64 * i + k) = ws[i].testBit k := by
  unfold bitW
  rw [show (64 * i + k) / 64 = i by omega, show (64 * i + k) % 64 = k by omega, List.getD_eq_getElem?_getD, List.getElem?_eq_getElem hi]
  rfl
theorem cut_bit (w k j : Nat) : (w / 2 ^ k * 2 ^ k).testBit j = (decide (k ≤ j) && w.testBit j) := by
  rw [Nat.mul_comm, Nat.testBit_two_pow_mul, Nat.testBit_div_two_pow]
  by_cases h : k ≤ j
  · rw [show j - k + k = j by omega]
  · simp [h]
/-- Nothing is left of a word. -/
theorem cut_zero {w k : Nat} (h : w / 2 ^ k * 2 ^ k = 0) : ∀ j, k ≤ j → w.testBit j = false := by
  intro j hj
  have := cut_bit w k j
  rw [h, decide_eq_true hj, Bool.true_and] at this
  simpa using this.symm
theorem ctz_form (x : Nat) (hx : x < 18446744073709551616) (h0 : x ≠ 0) : ∃ m, x = 2 ^ Lib.ctz 64 x * (2 * m + 1) ∧ Lib.ctz 64 x < 64 := by
  have h := Lib.ctzFrom_spec 64 x (by omega) (by omega)
  unfold Lib.ctz
  rw [if_neg h0]
  exact h
/-- The next number of a word, and what is left of it. -/
theorem cut_next {w k : Nat} (hw : w < 18446744073709551616) (h : w / 2 ^ k * 2 ^ k ≠ 0) : ∃ t, Lib.ctz 64 (w / 2 ^ k * 2 ^ k) = t ∧ k ≤ t ∧ t < 64 ∧ w.testBit t = true ∧ (∀ j, k ≤ j → j < t → w.testBit j = false) ∧
    (w / 2 ^ k * 2 ^ k) &&& (w / 2 ^ k * 2 ^ k - 1) = w / 2 ^ (t + 1) * 2 ^ (t + 1) := by
  have hv : w / 2 ^ k * 2 ^ k ≤ w := Nat.div_mul_le_self _ _
  obtain ⟨m, h1, h2⟩ := ctz_form _ (by omega) h
  have hb := cut_bit w k
  generalize Lib.ctz 64 (w / 2 ^ k * 2 ^ k) = t at *
  have hw' : w / 2 ^ k * 2 ^ k / 2 ^ (t + 1) = m := by
    rw [h1, Nat.pow_succ, Nat.mul_div_mul_left _ _ (Nat.two_pow_pos t)]; omega
  generalize hv2 : w / 2 ^ k * 2 ^ k = v at *
  have ht : v.testBit t = true := by
    rw [h1, Nat.testBit_two_pow_mul, decide_eq_true (Nat.le_refl _), Nat.sub_self]
    simp [Nat.testBit_zero]
  have hkt : k ≤ t := by
    have := hb t
    rw [ht] at this
    by_cases hk : k ≤ t
    · exact hk
    · rw [decide_eq_false hk, Bool.false_and] at this; cases this
  refine ⟨t, rfl, hkt, h2, ?_, ?_, ?_⟩
  · have := hb t
    rw [ht, decide_eq_true hkt, Bool.true_and] at this
    exact this.symm
  · intro j hj hjt
    have := hb j
    rw [h1, Nat.testBit_two_pow_mul, decide_eq_false (by omega), Bool.false_and, decide_eq_true hj, Bool.true_and] at this
    exact this.symm
  · have e1 : v = 2 ^ t + 2 ^ (t + 1) * m := by rw [h1, Nat.pow_succ, Nat.mul_add]; have := Nat.two_pow_pos t; rw [Nat.mul_assoc]; omega
    have e2 : v - 1 = (2 ^ t - 1) + 2 ^ (t + 1) * m := by have := Nat.two_pow_pos t; omega
    have e3 : w / 2 ^ (t + 1) = m := by
      have hd : v / 2 ^ (t + 1) = w / 2 ^ (t + 1) := by
        rw [← hv2, show t + 1 = k + (t + 1 - k) by omega, Nat.pow_add, ← Nat.div_div_eq_div_mul, Nat.mul_div_cancel _ (Nat.two_pow_pos k), ← Nat.div_div_eq_div_mul]
      rw [← hd]; exact hw'
    have e4 : (2 : Nat) ^ t < 2 ^ (t + 1) := by rw [Nat.pow_succ]; have := Nat.two_pow_pos t; omega
    conv => lhs; rw [e2]
    conv => lhs; lhs; rw [e1]
    rw [land_split (t + 1) (2 ^ t) m (2 ^ t - 1) m e4 (by omega), Nat.and_two_pow_sub_one_eq_mod, Nat.mod_self, Nat.and_self, e3, Nat.zero_add, Nat.mul_comm]
theorem below_next {ws : List Nat} {i k t : Nat} (hi : i < ws.length) (hk : k ≤ t) (ht : t < 64) (h1 : ws[i].testBit t = true) (h2 : ∀ j, k ≤ j → j < t → ws[i].testBit j = false) :
    belowW ws (64 * i + (t + 1)) = belowW ws (64 * i + k) ++ [(64 * (i : Int) + (t : Int))] := by
  rw [show 64 * i + (t + 1) = (64 * i + t) + 1 by omega, belowW_succ, if_pos (by rw [bitW_at hi ht]; exact h1)]
  rw [belowW_skip (B := 64 * i + k) (C := 64 * i + t) (by omega) fun j ha hb => by
    obtain ⟨d, rfl⟩ : ∃ d, j = 64 * i + d := ⟨j - 64 * i, by omega⟩
    rw [bitW_at hi (by omega)]
    exact h2 d (by omega) (by omega)]
  congr 2
theorem below_word {ws : List Nat} {i k : Nat} (hi : i < ws.length) (hk : k ≤ 64) (h : ∀ j, k ≤ j → ws[i].testBit j = false) : belowW ws (64 * i + k) = belowW ws (64 * (i + 1)) := by
  refine (belowW_skip (by omega) fun j ha hb => ?_).symm
  obtain ⟨d, rfl⟩ : ∃ d, j = 64 * i + d := ⟨j - 64 * i, by omega⟩
  rw [bitW_at hi (by omega)]
  exact h d (by omega)
theorem below_ones {ws : List Nat} {i : Nat} (hi : i < ws.length) : ∀ (n k : Nat), k + n = 64 → (belowW ws (64 * (i + 1))).length = (belowW ws (64 * i + k)).length + dsum 2 n (ws[i] / 2 ^ k) := by
  intro n
  induction n with
  | zero => intro k hk; rw [show 64 * (i + 1) = 64 * i + k by omega]; rfl
  | succ n ih =>
    intro k hk
    rw [ih (k + 1) (by omega), show 64 * i + (k + 1) = (64 * i + k) + 1 by omega, belowW_succ, List.length_append, bitW_at hi (by omega)]
    simp only [dsum]
    rw [Nat.div_div_eq_div_mul, ← Nat.pow_succ, Nat.testBit_eq_decide_div_mod_eq]
    by_cases h : ws[i] / 2 ^ k % 2 = 1
    · rw [if_pos (decide_eq_true h), h]; simp; omega
    · rw [if_neg (by simpa using h)]; simp; omega
theorem below_step {ws : List Nat} {i : Nat} (hi : i < ws.length) : (belowW ws (64 * (i + 1))).length = (belowW ws (64 * i)).length + onesW ws[i] := by
  have := below_ones hi 64 0 (by omega)
  simpa [onesW] using this

/-- Rising rows. -/
def Srt (l : List Int) : Prop := l.Pairwise (· < ·)
theorem srt_ext : ∀ {l m : List Int}, Srt l → Srt m → (∀ x, x ∈ l ↔ x ∈ m) → l = m := by
  intro l
  induction l with
  | nil =>
    intro m _ _ h
    cases m with
    | nil => rfl
    | cons y r => exact absurd ((h y).2 (by simp)) (by simp)
  | cons x r ih =>
    intro m hl hm h
    cases m with
    | nil => exact absurd ((h x).1 (by simp)) (by simp)
    | cons y q =>
      have hl' := List.pairwise_cons.1 hl
      have hm' := List.pairwise_cons.1 hm
      have hxy : x = y := by
        rcases List.mem_cons.1 ((h x).1 (by simp)) with e | e
        · exact e
        · rcases List.mem_cons.1 ((h y).2 (by simp)) with e2 | e2
          · exact e2.symm
          · have := hm'.1 x e; have := hl'.1 y e2; omega
      subst hxy
      rw [ih hl'.2 hm'.2 fun z => ?_]
      constructor
      · intro hz
        rcases List.mem_cons.1 ((h z).1 (by simp [hz])) with e | e
        · have := hl'.1 z hz; omega
        · exact e
      · intro hz
        rcases List.mem_cons.1 ((h z).2 (by simp [hz])) with e | e
        · have := hm'.1 z hz; omega
        · exact e
theorem allW_srt (ws : List Nat) : Srt (allW ws) := by
  unfold Srt allW belowW
  refine List.pairwise_map.2 (List.Pairwise.imp ?_ (List.Pairwise.filter _ List.pairwise_lt_range))
  intro a b h
  exact Int.ofNat_lt.2 h
theorem mem_allW {ws : List Nat} {x : Int} : x ∈ allW ws ↔ 0 ≤ x ∧ bitW ws x.toNat = true := by
  unfold allW belowW
  rw [List.mem_map]
  constructor
  · rintro ⟨n, hn, rfl⟩
    exact ⟨by omega, by simpa using (List.mem_filter.1 hn).2⟩
  · rintro ⟨h0, hb⟩
    refine ⟨x.toNat, List.mem_filter.2 ⟨List.mem_range.2 ?_, hb⟩, by omega⟩
    rcases Nat.lt_or_ge x.toNat (64 * ws.length) with h | h
    · exact h
    · unfold bitW at hb
      rw [List.getD_eq_getElem?_getD, List.getElem?_eq_none (by omega)] at hb
      simp at hb
def withR : List Int → Int → List Int
  | [], n => [n]
  | x :: r, n => if x < n then x :: withR r n else if x = n then x :: r else n :: x :: r
theorem mem_withR {n : Int} : ∀ {l : List Int} {x : Int}, x ∈ withR l n ↔ x = n ∨ x ∈ l := by
  intro l
  induction l with
  | nil => intro x; simp [withR]
  | cons y r ih =>
    intro x
    unfold withR
    split
    · rw [List.mem_cons, ih, List.mem_cons]; constructor <;> (rintro (h | h | h) <;> simp [h])
    · split
      · rename_i h; subst h; rw [List.mem_cons]; constructor <;> (intro h; rcases h with h | h <;> simp_all)
      · rw [List.mem_cons]
theorem withR_srt {n : Int} : ∀ {l : List Int}, Srt l → Srt (withR l n) := by
  intro l
  induction l with
  | nil => intro _; simp [withR, Srt]
  | cons y r ih =>
    intro h
    have h' := List.pairwise_cons.1 h
    unfold withR
    split
    · refine List.pairwise_cons.2 ⟨fun z hz => ?_, ih h'.2⟩
      rcases mem_withR.1 hz with e | e
      · omega
      · exact h'.1 z e
    · split
      · exact h
      · refine List.pairwise_cons.2 ⟨fun z hz => ?_, h⟩
        rcases List.mem_cons.1 hz with e | e
        · omega
        · have := h'.1 z e; omega
end Go.Proofs.YtgilmpakdohijaaDoor
