/-
  bits: what Put and Drop change, in plain words.
-/
import Derived.Test.YtgilmpakdohijaaDoorBi3
namespace Go.Proofs.YtgilmpakdohijaaDoor
open Go.RowKit

theorem getD_pad (ws : List Nat) (k i : Nat) : (ws ++ List.replicate k 0).getD i 0 = ws.getD i 0 := by
  rw [List.getD_eq_getElem?_getD, List.getD_eq_getElem?_getD, List.getElem?_append]
  split
  · rfl
  · rename_i h
    rw [List.getElem?_eq_none (show ws.length ≤ i by omega), List.getElem?_replicate]
    split <;> rfl
theorem getD_set {L : List Nat} {i : Nat} (hi : i < L.length) (v j : Nat) : (L.set i v).getD j 0 = if j = i then v else L.getD j 0 := by
  rw [List.getD_eq_getElem?_getD, List.getD_eq_getElem?_getD, List.getElem?_set]
  by_cases h : i = j
  · subst h; rw [if_pos rfl, if_pos rfl, if_pos hi]; rfl
  · rw [if_neg h, if_neg (fun he => h he.symm)]
theorem div_mod_eq {m n : Nat} (h : m / 64 = n / 64) : m % 64 = n % 64 ↔ m = n := by omega
theorem bitW_put (ws : List Nat) (n m : Nat) : bitW (putW ws n) m = (decide (m = n) || bitW ws m) := by
  have hl : n / 64 < (ws ++ List.replicate (n / 64 + 1 - ws.length) 0).length := by simp; omega
  show (((ws ++ List.replicate (n / 64 + 1 - ws.length) 0).set (n / 64) ((ws ++ List.replicate (n / 64 + 1 - ws.length) 0).getD (n / 64) 0 ||| 2 ^ (n % 64))).getD (m / 64) 0).testBit (m % 64) = _
  rw [getD_set hl, getD_pad, getD_pad]
  by_cases h : m / 64 = n / 64
  · rw [if_pos h, Nat.testBit_or, Nat.testBit_two_pow]
    unfold bitW
    rw [h]
    by_cases h2 : m = n
    · subst h2; simp
    · rw [decide_eq_false h2, decide_eq_false (by omega)]; simp
  · rw [if_neg h, decide_eq_false (by rintro rfl; exact h rfl), Bool.false_or]
    rfl
theorem bitW_drop {ws : List Nat} {n : Nat} (hn : n / 64 < ws.length) (m : Nat) : bitW (dropW ws n) m = (!decide (m = n) && bitW ws m) := by
  unfold dropW bitW
  rw [getD_set hn]
  by_cases h : m / 64 = n / 64
  · rw [if_pos h, Nat.testBit_and, h]
    have e : (18446744073709551615 - 2 ^ (n % 64)).testBit (m % 64) = (decide (m % 64 < 64) && !(2 ^ (n % 64)).testBit (m % 64)) := by
      have h2 : (2 : Nat) ^ (n % 64) < 2 ^ 64 := Nat.pow_lt_pow_right (by decide) (by omega)
      have := Nat.testBit_two_pow_sub_succ (n := 64) (x := 2 ^ (n % 64)) h2 (m % 64)
      rw [← this]
      congr 1
      omega
    rw [e, Nat.testBit_two_pow, decide_eq_true (show m % 64 < 64 by omega), Bool.true_and]
    by_cases h2 : m = n
    · subst h2; simp
    · rw [decide_eq_false h2, decide_eq_false (by omega)]; simp
  · rw [if_neg h, decide_eq_false (by rintro rfl; exact h rfl)]; simp
theorem allW_put (ws : List Nat) (n : Nat) : allW (putW ws n) = withR (allW ws) (n : Int) := by
  refine srt_ext (allW_srt _) (withR_srt (allW_srt _)) fun x => ?_
  rw [mem_withR, mem_allW, mem_allW, bitW_put, Bool.or_eq_true, decide_eq_true_iff]
  constructor
  · rintro ⟨h1, h2 | h2⟩
    · exact .inl (by omega)
    · exact .inr ⟨h1, h2⟩
  · rintro (rfl | ⟨h1, h2⟩)
    · exact ⟨by omega, .inl (by omega)⟩
    · exact ⟨h1, .inr h2⟩
theorem allW_drop {ws : List Nat} {n : Nat} (hn : n / 64 < ws.length) : allW (dropW ws n) = (allW ws).filter fun x => !decide (x = (n : Int)) := by
  refine srt_ext (allW_srt _) ((allW_srt _).filter _) fun x => ?_
  rw [List.mem_filter, mem_allW, mem_allW, bitW_drop hn, Bool.and_eq_true]
  constructor
  · rintro ⟨h1, h2, h3⟩
    refine ⟨⟨h1, h3⟩, ?_⟩
    rw [Bool.not_eq_true', decide_eq_false_iff_not] at h2 ⊢
    omega
  · rintro ⟨⟨h1, h2⟩, h3⟩
    refine ⟨h1, ?_, h2⟩
    rw [Bool.not_eq_true', decide_eq_false_iff_not] at h3 ⊢
    omega
end Go.Proofs.YtgilmpakdohijaaDoor
