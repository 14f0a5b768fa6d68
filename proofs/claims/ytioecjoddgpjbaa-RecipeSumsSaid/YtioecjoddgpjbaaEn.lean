/-
  Rows of whatever elements: each is so many cells.
-/
import Derived.Test.YtioecjoddgpjbaaK3
namespace Go.Proofs.Ytioecjoddgpjbaa
open Go.RowKit

/-- How an element lies in memory: so many cells each. -/
structure Enc (α : Type) where
  v : α → List Value
  n : Nat
  pos : 0 < n
  len : ∀ a, (v a).length = n
  one : ∀ a, ∀ u ∈ v a, u.oneCell' = true
section
variable {α : Type} (E : Enc α)
def Enc.vs (l : List α) : List Value := l.flatMap E.v
theorem Enc.vs_nil : E.vs [] = [] := rfl
theorem Enc.vs_cons (x : α) (l : List α) : E.vs (x :: l) = E.v x ++ E.vs l := rfl
theorem Enc.vs_one (x : α) : E.vs [x] = E.v x := by rw [E.vs_cons, E.vs_nil, List.append_nil]
theorem Enc.vs_append (l m : List α) : E.vs (l ++ m) = E.vs l ++ E.vs m := by unfold Enc.vs; rw [List.flatMap_append]
theorem Enc.vs_snoc (l : List α) (x : α) : E.vs (l ++ [x]) = E.vs l ++ E.v x := by rw [E.vs_append, E.vs_one]
theorem Enc.vs_len (l : List α) : (E.vs l).length = l.length * E.n := by
  induction l with
  | nil => simp [Enc.vs_nil]
  | cons x r ih => rw [E.vs_cons, List.length_append, ih, E.len, List.length_cons, Nat.succ_mul]; omega
theorem Enc.vs_ones (l : List α) : ∀ u ∈ E.vs l, u.oneCell' = true := by
  intro u hu
  obtain ⟨x, _, hx⟩ := List.mem_flatMap.1 hu
  exact E.one x u hx
theorem Enc.vs_take (l : List α) (k : Nat) : E.vs (l.take k) = (E.vs l).take (k * E.n) := by
  induction l generalizing k with
  | nil => simp [Enc.vs_nil]
  | cons x r ih =>
    cases k with
    | zero => simp [Enc.vs_nil]
    | succ k =>
      rw [List.take_succ_cons, E.vs_cons, E.vs_cons, ih, List.take_append, E.len, Nat.succ_mul]
      rw [show (E.v x).take (k * E.n + E.n) = E.v x from List.take_of_length_le (by rw [E.len]; omega), show k * E.n + E.n - E.n = k * E.n by omega]
theorem Enc.vs_drop (l : List α) (k : Nat) : E.vs (l.drop k) = (E.vs l).drop (k * E.n) := by
  induction l generalizing k with
  | nil => simp [Enc.vs_nil]
  | cons x r ih =>
    cases k with
    | zero => simp
    | succ k =>
      rw [List.drop_succ_cons, E.vs_cons, ih, List.drop_append, E.len, Nat.succ_mul]
      rw [show (E.v x).drop (k * E.n + E.n) = [] from List.drop_eq_nil_of_le (by rw [E.len]; omega), show k * E.n + E.n - E.n = k * E.n by omega, List.nil_append]
theorem Enc.vs_get (l : List α) (k : Nat) (hk : k < l.length) (j : Nat) (u : Value) (hj : (E.v l[k])[j]? = some u) : (E.vs l)[k * E.n + j]? = some u := by
  induction l generalizing k with
  | nil => simp at hk
  | cons x r ih =>
    cases k with
    | zero =>
      have hj' : (E.v x)[j]? = some u := hj
      rw [E.vs_cons, Nat.zero_mul, Nat.zero_add, List.getElem?_append_left (List.getElem?_eq_some_iff.1 hj').1]
      exact hj'
    | succ k =>
      have := ih k (by simpa using hk) (by simpa using hj)
      rw [E.vs_cons, List.getElem?_append_right (by rw [E.len, Nat.succ_mul]; omega), E.len, show (k + 1) * E.n + j - E.n = k * E.n + j by rw [Nat.succ_mul]; omega]
      exact this
/-- A row of elements. -/
def Enc.Row (w : World) (A : Option Addr) (l : List α) : Prop := RowAt w A (E.vs l)
variable {E} {w w' : World} {A : Option Addr} {l : List α}
theorem Enc.Row.below {B : Nat} (h : E.Row w A l) (hb : Below B w w') (hB : w.heap.size ≤ B) : E.Row w' A l := RowAt.below h hb hB
theorem Enc.Row.later (h : E.Row w A l) (hb : Below w.heap.size w w') : E.Row w' A l := h.below hb (Nat.le_refl _)
theorem Enc.Row.alloc (h : E.Row w A l) (o : Obj) : E.Row (w.alloc o) A l := RowAt.alloc h o
theorem Enc.Row.drew (h : E.Row w A l) : E.Row w.drew A l := h
theorem Enc.Row.nil (w : World) (A : Option Addr) : E.Row w A [] := RowAt.nil _ _
theorem Enc.Row.take (h : E.Row w A l) (k : Nat) : E.Row w A (l.take k) := by
  unfold Enc.Row
  rw [E.vs_take]
  exact RowAt.take h _
theorem Enc.Row.get (h : E.Row w A l) (hn : 0 < l.length) :
    ∃ b off, A = some ⟨b, off, none⟩ ∧ b < w.heap.size ∧ ∀ k (hk : k < l.length) (j : Nat) (u : Value), (E.v l[k])[j]? = some u → w.cell? ⟨b, off + (k * E.n + j), none⟩ = some u := by
  obtain ⟨b, off, rfl, hb, hc⟩ := h (by rw [E.vs_len]; exact Nat.mul_pos hn E.pos)
  exact ⟨b, off, rfl, hb, fun k hk j u hj => hc _ _ (E.vs_get l k hk j u hj)⟩
theorem Enc.Row.of_own {e base n c : Nat} (h : w.ownsRow base e E.n (.slice A n c) n (E.vs l)) : E.Row w A l := by
  intro hn
  have hl : (E.vs l).length = n * E.n := by simpa using h.1
  obtain ⟨A', c', hv, hf⟩ := own_form h
  obtain ⟨g, hA, hb, hlt⟩ := hf (by
    rcases Nat.eq_zero_or_pos n with h0 | h0
    · subst h0; omega
    · exact h0)
  injection hv with hv1 hv2 hv3
  subst hv1 hv3 hA
  refine ⟨g, 0, rfl, hlt, fun j u hj => ?_⟩
  have hjl : j < (E.vs l).length := (List.getElem?_eq_some_iff.1 hj).1
  rw [Nat.zero_add, h.cellAt j (by omega)]
  exact hj
theorem Enc.Row.box {g t : Nat} {x : α} {cs : Array Value} (h : Box w g t cs) (hc : cs.toList = E.v x) : E.Row w (some ⟨g, 0, none⟩) [x] := by
  refine RowAt.of_cells fun j u hj => ?_
  rw [E.vs_one, ← hc] at hj
  rw [addr_add, Nat.zero_add]
  exact (h.cells j).trans (by rw [← hj, Array.getElem?_toList])
theorem Enc.Row.boxes {g t : Nat} {cs : Array Value} (h : Box w g t cs) (hc : cs.toList = E.vs l) : E.Row w (some ⟨g, 0, none⟩) l := by
  refine RowAt.of_cells fun j u hj => ?_
  rw [← hc] at hj
  rw [addr_add, Nat.zero_add]
  exact (h.cells j).trans (by rw [← hj, Array.getElem?_toList])
/-- A row of the call's own, as a result. -/
def NewOf (E : Enc α) (t : TypeId) (l : List α) (w : World) (e : Ending) (w' : World) : Prop :=
  ∃ A c, e = .returned (.slice A l.length c) ∧ l.length ≤ c ∧ c ≤ maxLen ∧ w'.ownsRow w.heap.size t E.n (.slice A l.length c) l.length (E.vs l) ∧ Below w.heap.size w w'
end
end Go.Proofs.Ytioecjoddgpjbaa
