/-
  account: slices in slots of a block (what Walk makes), and what is right under each account.
-/
import Derived.Test.YthkaohjgldoipaaAc11
namespace Go.Proofs.Ythkaohjgldoipaa
open Go.RowKit

/-- A block's m cells hold slices; each is a row of the call's own, no two share a block. -/
structure SlotsV (w : World) (base gb m : Nat) (V : Nat → Value) (F : Nat → List Int) : Prop where
  cell : ∀ a, a < m → w.cell? ⟨gb, a, none⟩ = some (V a)
  free : ∀ a, a < m → w.frozen? ⟨gb, a, none⟩ = false
  own : ∀ a, a < m → w.ownsRow base 3 1 (V a) (F a).length (ivals (F a))
  apart : ∀ a b, a < m → b < m → a ≠ b → (V a).ownBlock = none ∨ (V a).ownBlock ≠ (V b).ownBlock
  low : gb < base
  size : base ≤ w.heap.size
section
variable {w w' : World} {base gb m : Nat} {V : Nat → Value} {F G : Nat → List Int}
theorem SlotsV.congr (h : SlotsV w base gb m V F) (e : ∀ a, a < m → F a = G a) : SlotsV w base gb m V G :=
  ⟨h.cell, h.free, fun a ha => by rw [← e a ha]; exact h.own a ha, h.apart, h.low, h.size⟩
theorem SlotsV.later (h : SlotsV w base gb m V F) (hb : Below w.heap.size w w') : SlotsV w' base gb m V F :=
  ⟨fun a ha => (hb.cell (p := ⟨gb, a, none⟩) (Nat.lt_of_lt_of_le h.low h.size)).trans (h.cell a ha), fun a ha => (World.frozen?_of_block (hb.block gb (Nat.lt_of_lt_of_le h.low h.size))).trans (h.free a ha),
    fun a ha => own_below (h.own a ha) hb (Nat.le_refl _), h.apart, h.low, Nat.le_trans h.size hb.size⟩
theorem SlotsV.alloc (h : SlotsV w base gb m V F) (o : Obj) : SlotsV (w.alloc o) base gb m V F := h.later ((Below.refl _ _).alloc (Nat.le_refl _) _)
theorem SlotsV.drew (h : SlotsV w base gb m V F) : SlotsV w.drew base gb m V F := ⟨h.cell, h.free, h.own, h.apart, h.low, h.size⟩
theorem SlotsV.push (h : SlotsV w base gb m V F) {p g cap : Nat} {x : Int} {w2 : World} (hp : p < m) (hg : w.grownBy w2 (V p).ownBlock)
    (hown : w2.ownsRow base 3 1 (.slice (some ⟨g, 0, none⟩) ((F p).length + 1) cap) ((F p).length + 1) (ivals (F p) ++ [.int .i64 x])) (hl : (V p).ownBlock = some g ∨ g = w.heap.size) :
    SlotsV (w2.setCell ⟨gb, p, none⟩ (.slice (some ⟨g, 0, none⟩) ((F p).length + 1) cap)) base gb m (fun a => if a = p then .slice (some ⟨g, 0, none⟩) ((F p).length + 1) cap else V a) (fun a => if a = p then F p ++ [x] else F a) := by
  have hgb : some gb ≠ (V p).ownBlock := fun he => by have := ((h.own p hp).lt gb he.symm).1; have := h.low; omega
  have hlt : gb < w.heap.size := Nat.lt_of_lt_of_le h.low h.size
  have hc : ∀ a, a < m → w2.cell? ⟨gb, a, none⟩ = some (V a) := fun a ha => (hg.cell_far ⟨gb, a, none⟩ hlt hgb).trans (h.cell a ha)
  have hf : ∀ a, a < m → w2.frozen? ⟨gb, a, none⟩ = false := fun a ha => (hg.frozen_far ⟨gb, a, none⟩ hlt hgb).trans (h.free a ha)
  have hob : (Value.slice (some ⟨g, 0, none⟩) ((F p).length + 1) cap).ownBlock = some g := by simp [Value.ownBlock]
  refine ⟨fun a ha => ?_, fun a ha => ?_, fun a ha => ?_, fun a b ha hb hab => ?_, h.low, ?_⟩
  · by_cases e : a = p
    · subst e
      rw [if_pos rfl]
      exact World.cell?_setCell_same' _ _ _ (by rw [hc a ha]; rfl)
    · rw [if_neg e, World.cell?_setCell_other _ _ _ _ (by simp)]
      exact hc a ha
  · rw [World.frozen?_setCell]
    exact hf a ha
  · by_cases e : a = p
    · subst e
      rw [if_pos rfl, if_pos rfl, ivals_append, List.length_append]
      exact ownsRow_setCell_below hown h.low _
    · rw [if_neg e, if_neg e]
      refine ownsRow_setCell_below ((h.own a ha).kept hg ?_) h.low _
      exact h.apart a p ha hp e
  · have key : ∀ b, b < m → b ≠ p → some g ≠ (V b).ownBlock := fun b hb e he => by
      rcases hl with hl | hl
      · rcases h.apart b p hb hp e with h1 | h1
        · rw [h1] at he; cases he
        · exact h1 (by rw [← he, hl])
      · have := ((h.own b hb).lt g he.symm).2
        omega
    by_cases e1 : a = p
    · by_cases e2 : b = p
      · exact absurd (e1.trans e2.symm) hab
      · rw [if_pos e1, if_neg e2, hob]
        exact .inr (key b hb e2)
    · by_cases e2 : b = p
      · rw [if_neg e1, if_pos e2, hob]
        exact .inr (fun he => key a ha e1 he.symm)
      · rw [if_neg e1, if_neg e2]
        exact h.apart a b ha hb hab
  · rw [World.size_setCell]
    exact Nat.le_trans h.size hg.size
end
/-- The first ones right under a. -/
def belT (l : List Acc) (k a : Nat) : List Int := (upto k).filter fun x => prA l x == (a : Int)
theorem belT_zero (l : List Acc) (a : Nat) : belT l 0 a = [] := rfl
theorem belT_all (l : List Acc) (a : Nat) : belT l l.length a = belA l (a : Int) := rfl
theorem belT_len (l : List Acc) (k a : Nat) : (belT l k a).length ≤ k := flt_len _ _
theorem belT_hit {l : List Acc} {k a : Nat} (hk : k < l.length) (h : l[k].p = (a : Int)) : belT l (k + 1) a = belT l k a ++ [(k : Int) + 1] := by
  unfold belT
  rw [flt_snoc, prA_get hk, h, if_pos (by simp)]
theorem belT_miss {l : List Acc} {k a : Nat} (hk : k < l.length) (h : l[k].p ≠ (a : Int)) : belT l (k + 1) a = belT l k a := by
  unfold belT
  rw [flt_snoc, prA_get hk, if_neg (by simpa using h), List.append_nil]
end Go.Proofs.Ythkaohjgldoipaa
