/-
  Arguments opened to cells: slices of whatever has a row of values for each element; structs of ints and bools.
-/
import Derived.Test.YtioecjoddgpjbaaK2
namespace Go.Proofs.Ytioecjoddgpjbaa
open Go.RowKit Go.ChangeShapes Go.WideShapes Go.ChangeAt Go.Deep

section
variable {H : Type} {enc : TypeId × Value → H} {P : Program} {w : World} {base : Nat} {spare : Nat → Bool} {held : Bool}

/-- A struct field by field: an int, or a bool. -/
theorem trod_struct_at {t : TypeId} {fs : Array Field} {fuel : Nat} {cs : List Value} {x : DataW H × List MemPlace} (ht : P.underlying t = some (.struct fs)) (hone : oneCellFields P fs = true)
    (hC : P.cellsOf t = fs.size) (h : DataW.trod enc P w base spare held fuel t cs = some x) :
    cs.length = fs.size ∧ ∀ (j : Nat) (f : Field), fs[j]? = some f → (P.underlying f.type = some (.int .i64) → ∃ z : Int, cs[j]? = some (.int .i64 z) ∧ -9223372036854775808 ≤ z ∧ z ≤ 9223372036854775807) ∧
      (P.underlying f.type = some .bool → ∃ b : Bool, cs[j]? = some (.bool b)) := by
  obtain ⟨ys, n, _, _, hlen, hyl, hf⟩ := DataW.trod_struct ht h
  refine ⟨by omega, fun j f hfj => ?_⟩
  obtain ⟨ho, hk⟩ := hone_of hone j _ hfj
  have hj : j < fs.size := (Array.getElem?_eq_some_iff.1 hfj).1
  have h1 := hf j _ hfj
  rw [ho, hk] at h1
  have hjl : j < cs.length := by omega
  have hone' : (cs.drop j).take 1 = [cs[j]] := by
    rw [List.drop_eq_getElem_cons hjl]
    rfl
  rw [hone', List.getElem?_eq_getElem (by omega)] at h1
  constructor
  · intro hint
    obtain ⟨z, hz, _, hw⟩ := DataW.trod_int hint h1
    injection hz with hz _
    exact ⟨z, by rw [List.getElem?_eq_getElem hjl, hz], i64_bounds hw⟩
  · intro hb
    obtain ⟨z, hz, _⟩ := DataW.trod_bool hb h1
    injection hz with hz _
    exact ⟨z, by rw [List.getElem?_eq_getElem hjl, hz]⟩

/-- A slice that came in, of elements that have so many values each. -/
theorem open_rows_arg {α : Type} (V : α → List Value) (good : α → Prop) {t e : TypeId} {v : Value} {d : DataW H} {p : List MemPlace} (ht : P.underlying t = some (.slice e))
    (hop : ∀ fuel cs x, DataW.trod enc P w 0 (fun _ => true) true fuel e cs = some x → ∃ a, cs = V a ∧ good a) (hlen : ∀ a, (V a).length = P.cellsOf e) (hv : Value.okWide P w .any base t v) (h : DataW.Trod enc P w 0 (fun _ => true) true t v d p) :
    ∃ (A : Option Addr) (c : Nat) (l : List α), v = .slice A l.length c ∧ l.length ≤ c ∧ c ≤ maxLen ∧ RowAt w A (l.flatMap V) ∧ ∀ x ∈ l, good x := by
  obtain ⟨a0, len0, cap0, rfl⟩ := okWide_slice ht hv
  obtain ⟨fuel, hf⟩ := h
  rcases open_slice ht hf with ⟨hcs, _⟩ | ⟨a, len, cap, m, n, D, Pl, hcs, _, hl, hm, hmm, _, hi⟩
  · simp [Value.cells] at hcs
    obtain ⟨rfl, rfl, rfl⟩ := hcs
    exact ⟨none, 0, [], rfl, Nat.le_refl _, Nat.zero_le _, RowAt.nil _ _, fun x hx => absurd hx (by simp)⟩
  · simp [Value.cells] at hcs
    obtain ⟨rfl, rfl, rfl⟩ := hcs
    have each : ∀ i, i < len0 → ∃ b, good b ∧ ∀ j u, (V b)[j]? = some u → w.cell? (a.add (i * P.cellsOf e + j)) = some u := by
      intro i hil
      obtain ⟨cs', hc, htr⟩ := hi i (by simp at hmm; omega)
      obtain ⟨b, h1, h2⟩ := hop _ _ _ htr
      obtain ⟨_, hcl, hat⟩ := World.cells?_some hc
      refine ⟨b, h2, fun j u hj => ?_⟩
      have hjl : j < P.cellsOf e := by have := (List.getElem?_eq_some_iff.1 hj).1; rw [hlen] at this; omega
      have := hat j (by omega)
      rw [Go.Deep.add_add] at this
      rw [this, h1]
      exact hj
    have all : ∀ k, k ≤ len0 → ∃ l : List α, l.length = k ∧ (l.flatMap V).length = k * P.cellsOf e ∧ (∀ x ∈ l, good x) ∧ ∀ j u, (l.flatMap V)[j]? = some u → w.cell? (a.add j) = some u := by
      intro k
      induction k with
      | zero => exact fun _ => ⟨[], rfl, by simp, by simp, by simp⟩
      | succ k ih =>
        intro hk
        obtain ⟨xs, h0, h1, h2, h3⟩ := ih (by omega)
        obtain ⟨y, g2, g3⟩ := each k (by omega)
        refine ⟨xs ++ [y], by simp [h0], by rw [List.flatMap_append, List.length_append, h1, Nat.succ_mul]; simp [hlen], fun x hx => ?_, fun j u hj => ?_⟩
        · rcases List.mem_append.1 hx with hx | hx
          · exact h2 x hx
          · obtain rfl := List.mem_singleton.1 hx
            exact g2
        · rw [List.flatMap_append, List.getElem?_append, h1] at hj
          split at hj
          · exact h3 j u hj
          · rename_i hlt
            have := g3 (j - k * P.cellsOf e) u (by simpa using hj)
            rwa [show k * P.cellsOf e + (j - k * P.cellsOf e) = j by omega] at this
    obtain ⟨l, h0, h1, h2, h3⟩ := all len0 (Nat.le_refl _)
    subst h0
    exact ⟨some a, cap0, l, rfl, hl, hm, RowAt.of_cells h3, h2⟩
end
end Go.Proofs.Ytioecjoddgpjbaa
