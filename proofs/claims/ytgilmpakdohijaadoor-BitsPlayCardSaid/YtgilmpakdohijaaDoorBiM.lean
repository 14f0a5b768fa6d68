/-
  bits: plain laws of the three statements.
-/
import Derived.Test.YtgilmpakdohijaaDoorBiL
namespace Go.Proofs.YtgilmpakdohijaaDoor
open Go.RowKit

def InR (l : List Int) : Prop := ∀ x ∈ l, 0 ≤ x ∧ x < 65536
theorem allW_in {ws : List Nat} (h : WfW ws) : InR (allW ws) := fun x hx => by
  obtain ⟨h1, h2⟩ := mem_allW.1 hx
  have hlen := h.len
  rcases Nat.lt_or_ge (x.toNat / 64) ws.length with h3 | h3
  · omega
  · unfold bitW at h2
    rw [List.getD_eq_getElem?_getD, List.getElem?_eq_none h3] at h2
    simp at h2
/-- The document's Rising. -/
def risF (l : List Int) : List Int := l.foldl withR []
theorem foldW_mem {x : Int} : ∀ (l a : List Int), x ∈ l.foldl withR a ↔ x ∈ l ∨ x ∈ a
  | [], a => by simp
  | y :: r, a => by
    rw [List.foldl_cons, foldW_mem r, mem_withR, List.mem_cons]
    constructor
    · rintro (h | rfl | h)
      · exact .inl (.inr h)
      · exact .inl (.inl rfl)
      · exact .inr h
    · rintro ((rfl | h) | h)
      · exact .inr (.inl rfl)
      · exact .inl h
      · exact .inr (.inr h)
theorem foldW_srt : ∀ (l : List Int) {a : List Int}, Srt a → Srt (l.foldl withR a)
  | [], _, h => h
  | _ :: r, _, h => foldW_srt r (withR_srt h)
theorem mem_risF {l : List Int} {x : Int} : x ∈ risF l ↔ x ∈ l := by
  unfold risF
  rw [foldW_mem]
  simp
theorem risF_srt (l : List Int) : Srt (risF l) := foldW_srt l List.Pairwise.nil
theorem withR_has {n : Int} {l : List Int} (h : Srt l) (hn : n ∈ l) : withR l n = l := srt_ext (withR_srt h) h fun x => by
  rw [mem_withR]
  exact ⟨fun h1 => h1.elim (fun e => by rw [e]; exact hn) id, .inr⟩
/-- What Join leaves is what the document says; so is what it tells. -/
theorem join_law {x y : List Int} (hx : Srt x) (hyr : InR y) : (joinF (x, 0) y).1 = risF (x ++ y) ∧ ((joinF (x, 0) y).2 : Int) = ((risF (x ++ y)).length : Int) - (x.length : Int) := by
  have h1 : (joinF (x, 0) y).1 = risF (x ++ y) := by
    rw [joinF_fst]
    refine srt_ext (fold_srt y hx) (risF_srt _) fun z => ?_
    rw [mem_fold, mem_risF, List.mem_append]
    constructor
    · rintro (⟨h, _⟩ | h)
      · exact .inr h
      · exact .inl h
    · rintro (h | h)
      · exact .inr h
      · exact .inl ⟨h, hyr z h⟩
  have h2 := joinF_snd y (x, 0) hx
  rw [h1] at h2
  exact ⟨h1, by simp only at h2; omega⟩
theorem filter_two (p : Int → Bool) : ∀ l : List Int, (l.filter p).length + (l.filter fun y => !p y).length = l.length
  | [] => rfl
  | x :: r => by
    have ih := filter_two p r
    rw [List.filter_cons, List.filter_cons]
    cases h : p x <;> simp <;> omega
theorem keep_law (x y : List Int) : (keepF y (x, 0) x).1 = x.filter (fun z => decide (z ∈ y)) ∧ ((keepF y (x, 0) x).2 : Int) = (x.length : Int) - ((x.filter fun z => decide (z ∈ y)).length : Int) := by
  constructor
  · rw [keepF_fst]
    apply List.filter_congr
    intro z hz
    simp only [hz, decide_true, Bool.true_and, Bool.not_not]
  · rw [keepF_snd]
    have := filter_two (fun z => decide (z ∈ y)) x
    simp only
    omega
/-- What a call does is what the document says. -/
theorem do_put (l : List Int) (n : Int) : doL l 0 n = if n < 0 ∨ 65536 ≤ n then l else if n ∈ l then l else withR l n := rfl
theorem filter_no {l : List Int} {n : Int} (h : n ∉ l) : (l.filter fun y => !decide (y = n)) = l := List.filter_eq_self.2 fun y hy => by
  rw [Bool.not_eq_true', decide_eq_false_iff_not]
  rintro rfl
  exact h hy
/-- A set's numbers told up to some. -/
theorem first_law (L : List Int) (most : Int) : L.take most.toNat = L.take (min most.toNat L.length) := by
  rcases Nat.le_total most.toNat L.length with h1 | h1
  · rw [Nat.min_eq_left h1]
  · rw [Nat.min_eq_right h1, List.take_of_length_le h1, List.take_of_length_le (Nat.le_refl _)]
end Go.Proofs.YtgilmpakdohijaaDoor
