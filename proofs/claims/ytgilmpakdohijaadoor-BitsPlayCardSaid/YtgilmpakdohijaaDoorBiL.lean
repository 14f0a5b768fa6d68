/-
  bits: plain laws of putting in, joining, keeping.
-/
import Derived.Test.YtgilmpakdohijaaDoorBiD
namespace Go.Proofs.YtgilmpakdohijaaDoor
open Go.RowKit

theorem mem_putL {l : List Int} {n x : Int} : x ∈ putL l n ↔ (x = n ∧ 0 ≤ n ∧ n < 65536) ∨ x ∈ l := by
  unfold putL
  by_cases h : n < 0 ∨ 65536 ≤ n
  · rw [if_pos h]
    exact ⟨.inr, fun h1 => h1.elim (fun h2 => by omega) id⟩
  · rw [if_neg h]
    by_cases h2 : n ∈ l
    · rw [if_pos h2]
      exact ⟨.inr, fun h1 => h1.elim (fun h3 => by rw [h3.1]; exact h2) id⟩
    · rw [if_neg h2, mem_withR]
      exact ⟨fun h1 => h1.elim (fun h3 => .inl ⟨h3, by omega, by omega⟩) .inr, fun h1 => h1.elim (fun h3 => .inl h3.1) .inr⟩
theorem putL_srt {l : List Int} {n : Int} (h : Srt l) : Srt (putL l n) := by
  unfold putL
  split
  · exact h
  · split
    · exact h
    · exact withR_srt h
theorem mem_fold {x : Int} : ∀ (l a : List Int), x ∈ l.foldl putL a ↔ (x ∈ l ∧ 0 ≤ x ∧ x < 65536) ∨ x ∈ a
  | [], a => by simp
  | y :: r, a => by
    rw [List.foldl_cons, mem_fold r, mem_putL, List.mem_cons]
    constructor
    · rintro (⟨h1, h2⟩ | ⟨rfl, h2⟩ | h1)
      · exact .inl ⟨.inr h1, h2⟩
      · exact .inl ⟨.inl rfl, h2⟩
      · exact .inr h1
    · rintro (⟨rfl | h1, h2⟩ | h1)
      · exact .inr (.inl ⟨rfl, h2⟩)
      · exact .inl ⟨h1, h2⟩
      · exact .inr (.inr h1)
theorem fold_srt : ∀ (l : List Int) {a : List Int}, Srt a → Srt (l.foldl putL a)
  | [], _, h => h
  | _ :: r, _, h => fold_srt r (putL_srt h)
theorem mem_fillF {l : List Int} {x : Int} : x ∈ fillF l ↔ x ∈ l ∧ 0 ≤ x ∧ x < 65536 := by
  unfold fillF
  rw [mem_fold]
  simp
theorem fillF_srt (l : List Int) : Srt (fillF l) := fold_srt l List.Pairwise.nil
theorem withR_len {n : Int} : ∀ {l : List Int}, n ∉ l → Srt l → (withR l n).length = l.length + 1
  | [], _, _ => rfl
  | x :: r, h, hs => by
    have h1 : n ≠ x := fun e => h (by rw [e]; exact List.mem_cons_self)
    have h2 : n ∉ r := fun e => h (List.mem_cons_of_mem _ e)
    have ih := withR_len h2 (List.Pairwise.of_cons hs)
    unfold withR
    repeat' split
    all_goals simp_all
theorem putL_len {l : List Int} {n : Int} (h : Srt l) : (putL l n).length = l.length + newL l n := by
  unfold putL newL
  split
  · rfl
  · split
    · rfl
    · rename_i _ h2; exact withR_len h2 h
theorem joinF_fst : ∀ (l : List Int) (s : List Int × Nat), (joinF s l).1 = l.foldl putL s.1
  | [], _ => rfl
  | x :: r, s => by rw [joinF, joinF_fst r, List.foldl_cons]
theorem joinF_snd : ∀ (l : List Int) (s : List Int × Nat), Srt s.1 → (joinF s l).1.length + s.2 = s.1.length + (joinF s l).2
  | [], _, _ => rfl
  | x :: r, s, h => by
    rw [joinF]
    have h1 := joinF_snd r (putL s.1 x, s.2 + newL s.1 x) (putL_srt h)
    have h2 := putL_len (n := x) h
    simp only at h1
    omega
theorem keepF_fst (T : List Int) : ∀ (l : List Int) (s : List Int × Nat), (keepF T s l).1 = s.1.filter fun y => !(decide (y ∈ l) && !decide (y ∈ T))
  | [], s => by rw [keepF]; symm; apply List.filter_eq_self.2; intro y _; simp
  | x :: r, s => by
    rw [keepF, keepF_fst T r]
    by_cases h : x ∈ T
    · rw [if_pos h]
      apply List.filter_congr
      intro y _
      by_cases h2 : y = x
      · subst h2; simp [h]
      · simp [h2]
    · rw [if_neg h]
      simp only
      rw [List.filter_filter]
      apply List.filter_congr
      intro y _
      by_cases h2 : y = x
      · subst h2; simp [h]
      · simp [h2]
theorem keepF_snd (T : List Int) : ∀ (l : List Int) (s : List Int × Nat), (keepF T s l).2 = s.2 + (l.filter fun y => !decide (y ∈ T)).length
  | [], _ => rfl
  | x :: r, s => by
    rw [keepF, keepF_snd T r, List.filter_cons]
    by_cases h : x ∈ T
    · rw [if_pos h]; simp [h]
    · rw [if_neg h]; simp [h]; omega
end Go.Proofs.YtgilmpakdohijaaDoor
