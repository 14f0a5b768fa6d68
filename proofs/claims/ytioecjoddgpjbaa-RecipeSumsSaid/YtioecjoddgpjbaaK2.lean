/-
  Arguments opened to cells: structs and arrays of ints by value, slices of structs of ints; whatever the program.
-/
import Derived.Test.YtioecjoddgpjbaaK
namespace Go.Proofs.Ytioecjoddgpjbaa
open Go.RowKit Go.ChangeShapes Go.WideShapes Go.ChangeAt Go.Deep

section
variable {H : Type} {enc : TypeId × Value → H} {P : Program} {w : World} {base : Nat} {spare : Nat → Bool} {held : Bool}

/-- A struct whose fields are all ints. -/
theorem trod_struct_ints {t : TypeId} {fs : Array Field} {fuel : Nat} {cs : List Value} {x : DataW H × List MemPlace} (ht : P.underlying t = some (.struct fs)) (hone : oneCellFields P fs = true)
    (hint : ∀ f ∈ fs.toList, P.underlying f.type = some (.int .i64)) (hC : P.cellsOf t = fs.size) (h : DataW.trod enc P w base spare held fuel t cs = some x) :
    ∃ xs : List Int, cs = ivals xs ∧ xs.length = fs.size ∧ ∀ x ∈ xs, -9223372036854775808 ≤ x ∧ x ≤ 9223372036854775807 := by
  obtain ⟨ys, n, _, _, hlen, hyl, hf⟩ := DataW.trod_struct ht h
  have each : ∀ j (hj : j < fs.size), ∃ z : Int, cs[j]? = some (.int .i64 z) ∧ -9223372036854775808 ≤ z ∧ z ≤ 9223372036854775807 := by
    intro j hj
    have hfj : fs[j]? = some fs[j] := Array.getElem?_eq_getElem hj
    obtain ⟨ho, hk⟩ := hone_of hone j _ hfj
    have h1 := hf j _ hfj
    rw [ho, hk] at h1
    have hjl : j < cs.length := by omega
    have hone' : (cs.drop j).take 1 = [cs[j]] := by
      rw [List.drop_eq_getElem_cons hjl]
      rfl
    rw [hone', List.getElem?_eq_getElem (by omega)] at h1
    obtain ⟨z, hz, _, hw⟩ := DataW.trod_int (hint fs[j] (by simp)) h1
    injection hz with hz _
    exact ⟨z, by rw [List.getElem?_eq_getElem hjl, hz], i64_bounds hw⟩
  refine ⟨cs.map (fun v => match v with | .int _ z => z | _ => 0), ?_, by simp; omega, ?_⟩
  · apply List.ext_getElem?
    intro j
    by_cases hj : j < fs.size
    · obtain ⟨z, hz, _⟩ := each j hj
      unfold ivals
      rw [List.getElem?_map, List.getElem?_map, hz]
      rfl
    · rw [List.getElem?_eq_none (by omega), List.getElem?_eq_none (by simp [ivals]; omega)]
  · intro x hx
    obtain ⟨v, hv, rfl⟩ := List.mem_map.1 hx
    obtain ⟨j, hj, rfl⟩ := List.getElem_of_mem hv
    obtain ⟨z, hz, h1⟩ := each j (by omega)
    rw [List.getElem?_eq_getElem hj] at hz
    injection hz with hz
    rw [hz]
    exact h1

/-- An array of ints. -/
theorem trod_array_ints {t e : TypeId} {n : Nat} {fuel : Nat} {cs : List Value} {x : DataW H × List MemPlace} (ht : P.underlying t = some (.array n e)) (he : P.underlying e = some (.int .i64)) (hc : P.cellsOf e = 1) (hC : P.cellsOf t = n)
    (h : DataW.trod enc P w base spare held fuel t cs = some x) :
    ∃ xs : List Int, cs = ivals xs ∧ xs.length = n ∧ ∀ x ∈ xs, -9223372036854775808 ≤ x ∧ x ≤ 9223372036854775807 := by
  obtain ⟨ys, m, _, _, hlen, hyl, hf⟩ := DataW.trod_array ht h
  have each : ∀ j (hj : j < n), ∃ z : Int, cs[j]? = some (.int .i64 z) ∧ -9223372036854775808 ≤ z ∧ z ≤ 9223372036854775807 := by
    intro j hj
    have h1 := hf j hj
    rw [hc, Nat.mul_one] at h1
    have hjl : j < cs.length := by omega
    have hone' : (cs.drop j).take 1 = [cs[j]] := by
      rw [List.drop_eq_getElem_cons hjl]
      rfl
    rw [hone', List.getElem?_eq_getElem (by omega)] at h1
    obtain ⟨z, hz, _, hw⟩ := DataW.trod_int he h1
    injection hz with hz _
    exact ⟨z, by rw [List.getElem?_eq_getElem hjl, hz], i64_bounds hw⟩
  refine ⟨cs.map (fun v => match v with | .int _ z => z | _ => 0), ?_, by simp; omega, ?_⟩
  · apply List.ext_getElem?
    intro j
    by_cases hj : j < n
    · obtain ⟨z, hz, _⟩ := each j hj
      unfold ivals
      rw [List.getElem?_map, List.getElem?_map, hz]
      rfl
    · rw [List.getElem?_eq_none (by omega), List.getElem?_eq_none (by simp [ivals]; omega)]
  · intro x hx
    obtain ⟨v, hv, rfl⟩ := List.mem_map.1 hx
    obtain ⟨j, hj, rfl⟩ := List.getElem_of_mem hv
    obtain ⟨z, hz, h1⟩ := each j (by omega)
    rw [List.getElem?_eq_getElem hj] at hz
    injection hz with hz
    rw [hz]
    exact h1

theorem okWide_array {r : Reach} {t e : TypeId} {n : Nat} {v : Value} (ht : P.underlying t = some (.array n e)) (h : Value.okWide P w r base t v) : ∃ cs, v = .agg cs ∧ cs.size = P.cellsOf t := by
  simp only [Value.okWide, ht] at h
  obtain ⟨cs, h1, h2, _⟩ := h
  exact ⟨cs, h1, h2⟩

/-- A struct of ints that came in by value. -/
theorem open_struct_ints {t : TypeId} {fs : Array Field} {v : Value} {d : DataW H} {p : List MemPlace} (ht : P.underlying t = some (.struct fs)) (hone : oneCellFields P fs = true)
    (hint : ∀ f ∈ fs.toList, P.underlying f.type = some (.int .i64)) (hC : P.cellsOf t = fs.size) (hv : Value.okWide P w .any base t v) (h : DataW.Trod enc P w 0 spare held t v d p) :
    ∃ xs : List Int, v = .agg (ivals xs).toArray ∧ xs.length = fs.size ∧ ∀ x ∈ xs, -9223372036854775808 ≤ x ∧ x ≤ 9223372036854775807 := by
  obtain ⟨cs, rfl, _⟩ := okWide_struct ht hv
  obtain ⟨fuel, hf⟩ := h
  obtain ⟨xs, h1, h2, h3⟩ := trod_struct_ints ht hone hint hC hf
  refine ⟨xs, ?_, h2, h3⟩
  rw [← h1]
  simp [Value.cells]

/-- An array of ints that came in by value. -/
theorem open_array_ints {t e : TypeId} {n : Nat} {v : Value} {d : DataW H} {p : List MemPlace} (ht : P.underlying t = some (.array n e)) (he : P.underlying e = some (.int .i64)) (hc : P.cellsOf e = 1) (hC : P.cellsOf t = n)
    (hv : Value.okWide P w .any base t v) (h : DataW.Trod enc P w 0 spare held t v d p) :
    ∃ xs : List Int, v = .agg (ivals xs).toArray ∧ xs.length = n ∧ ∀ x ∈ xs, -9223372036854775808 ≤ x ∧ x ≤ 9223372036854775807 := by
  obtain ⟨cs, rfl, _⟩ := okWide_array ht hv
  obtain ⟨fuel, hf⟩ := h
  obtain ⟨xs, h1, h2, h3⟩ := trod_array_ints ht he hc hC hf
  refine ⟨xs, ?_, h2, h3⟩
  rw [← h1]
  simp [Value.cells]

/-- A slice of structs of ints that came in: nil, empty or not: its cells, one struct behind the other. -/
theorem open_structs_arg {t e : TypeId} {fs : Array Field} {v : Value} {d : DataW H} {p : List MemPlace} (ht : P.underlying t = some (.slice e)) (he : P.underlying e = some (.struct fs)) (hone : oneCellFields P fs = true)
    (hint : ∀ f ∈ fs.toList, P.underlying f.type = some (.int .i64)) (hC : P.cellsOf e = fs.size) (hv : Value.okWide P w .any base t v) (h : DataW.Trod enc P w 0 (fun _ => true) true t v d p) :
    ∃ A n c xs, v = .slice A n c ∧ n ≤ c ∧ c ≤ maxLen ∧ xs.length = n * fs.size ∧ RowAt w A (ivals xs) ∧ ∀ x ∈ xs, -9223372036854775808 ≤ x ∧ x ≤ 9223372036854775807 := by
  obtain ⟨a0, len0, cap0, rfl⟩ := okWide_slice ht hv
  obtain ⟨fuel, hf⟩ := h
  rcases open_slice ht hf with ⟨hcs, _⟩ | ⟨a, len, cap, m, n, D, Pl, hcs, _, hl, hm, hmm, _, hi⟩
  · simp [Value.cells] at hcs
    obtain ⟨rfl, rfl, rfl⟩ := hcs
    exact ⟨none, 0, 0, [], rfl, Nat.le_refl _, Nat.zero_le _, by simp, fun h => absurd h (by simp [ivals]), fun x hx => absurd hx (by simp)⟩
  · simp [Value.cells] at hcs
    obtain ⟨rfl, rfl, rfl⟩ := hcs
    have each : ∀ i, i < len0 → ∃ xs : List Int, xs.length = fs.size ∧ (∀ x ∈ xs, -9223372036854775808 ≤ x ∧ x ≤ 9223372036854775807) ∧ ∀ j u, (ivals xs)[j]? = some u → w.cell? (a.add (i * fs.size + j)) = some u := by
      intro i hil
      obtain ⟨cs', hc, htr⟩ := hi i (by simp at hmm; omega)
      obtain ⟨xs, h1, h2, h3⟩ := trod_struct_ints he hone hint hC htr
      obtain ⟨_, hcl, hat⟩ := World.cells?_some hc
      refine ⟨xs, h2, h3, fun j u hj => ?_⟩
      have hjl : j < fs.size := by have := (List.getElem?_eq_some_iff.1 hj).1; rw [ivals_len] at this; omega
      have := hat j (by omega)
      rw [hC, Go.Deep.add_add] at this
      rw [this, h1]
      exact hj
    have all : ∀ k, k ≤ len0 → ∃ xs : List Int, xs.length = k * fs.size ∧ (∀ x ∈ xs, -9223372036854775808 ≤ x ∧ x ≤ 9223372036854775807) ∧ ∀ j u, (ivals xs)[j]? = some u → w.cell? (a.add j) = some u := by
      intro k
      induction k with
      | zero => exact fun _ => ⟨[], by simp, by simp, by simp [ivals]⟩
      | succ k ih =>
        intro hk
        obtain ⟨xs, h1, h2, h3⟩ := ih (by omega)
        obtain ⟨ys, g1, g2, g3⟩ := each k (by omega)
        refine ⟨xs ++ ys, by rw [List.length_append, h1, g1, Nat.succ_mul], fun x hx => ?_, fun j u hj => ?_⟩
        · rcases List.mem_append.1 hx with hx | hx
          · exact h2 x hx
          · exact g2 x hx
        · rw [ivals_append, List.getElem?_append, ivals_len, h1] at hj
          split at hj
          · exact h3 j u hj
          · rename_i hlt
            have := g3 _ u hj
            rwa [show k * fs.size + (j - k * fs.size) = j by omega] at this
    obtain ⟨xs, h1, h2, h3⟩ := all len0 (Nat.le_refl _)
    exact ⟨some a, len0, cap0, xs, rfl, hl, hm, h1, RowAt.of_cells h3, h2⟩
end
end Go.Proofs.Ytioecjoddgpjbaa
