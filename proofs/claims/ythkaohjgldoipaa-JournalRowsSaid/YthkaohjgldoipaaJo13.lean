/-
  journal: arguments opened.
-/
import Derived.Test.YthkaohjgldoipaaJo11
namespace Go.Proofs.Ythkaohjgldoipaa
open Go.RowKit Go.ChangeShapes Go.WideShapes Go.ChangeAt Go.Deep

section
variable {H : Type} {enc : TypeId × Value → H} {w : World} {base : Nat} {spare : Nat → Bool} {held : Bool}
/-- A slice of elements that have so many values each, within a value. -/
theorem trod_rows {P : Program} {α : Type} (V : α → List Value) (good : α → Prop) {t e : TypeId} {fuel : Nat} {cs : List Value} {x : DataW H × List MemPlace} (ht : P.underlying t = some (.slice e))
    (hop : ∀ fuel cs x, DataW.trod enc P w 0 (fun _ => true) true fuel e cs = some x → ∃ a, cs = V a ∧ good a) (hlen : ∀ a, (V a).length = P.cellsOf e) (hf : DataW.trod enc P w 0 (fun _ => true) true fuel t cs = some x) :
    ∃ (A : Option Addr) (c : Nat) (l : List α), cs = [.slice A l.length c] ∧ l.length ≤ c ∧ c ≤ maxLen ∧ RowAt w A (l.flatMap V) ∧ ∀ x ∈ l, good x := by
  rcases open_slice ht hf with ⟨hcs, _⟩ | ⟨a, len0, cap0, m, n, D, Pl, hcs, _, hl, hm, hmm, _, hi⟩
  · exact ⟨none, 0, [], hcs, Nat.le_refl _, Nat.zero_le _, RowAt.nil _ _, fun x hx => absurd hx (by simp)⟩
  · have each : ∀ i, i < len0 → ∃ b, good b ∧ ∀ j u, (V b)[j]? = some u → w.cell? (a.add (i * P.cellsOf e + j)) = some u := by
      intro i hil
      obtain ⟨cs', hc, htr⟩ := hi i (by simp at hmm; omega)
      obtain ⟨b, h1, h2⟩ := hop _ _ _ htr
      obtain ⟨_, hcl, hat⟩ := World.cells?_some hc
      refine ⟨b, h2, fun j u hj => ?_⟩
      have hjl : j < P.cellsOf e := by have := (List.getElem?_eq_some_iff.1 hj).1; rw [hlen] at this; exact this
      have := hat j (by omega)
      rw [Go.Deep.add_add] at this
      rw [this, h1]
      exact hj
    have all : ∀ k, k ≤ len0 → ∃ l : List α, l.length = k ∧ (l.flatMap V).length = k * P.cellsOf e ∧ (∀ x ∈ l, good x) ∧ ∀ j u, (l.flatMap V)[j]? = some u → w.cell? (a.add j) = some u := by
      intro k
      induction k with
      | zero => exact fun _ => ⟨[], rfl, by simp, by simp, by simp⟩
      | succ k ih =>
        intro hk
        obtain ⟨xs, h0, h1, h2, h3⟩ := ih (by omega)
        obtain ⟨y, g2, g3⟩ := each k (by omega)
        refine ⟨xs ++ [y], by simp [h0], by rw [List.flatMap_append, List.length_append, h1, Nat.succ_mul]; simp [hlen], fun x hx => ?_, fun j u hj => ?_⟩
        · rcases List.mem_append.1 hx with hx | hx
          · exact h2 x hx
          · obtain rfl := List.mem_singleton.1 hx
            exact g2
        · rw [List.flatMap_append, List.getElem?_append, h1] at hj
          split at hj
          · exact h3 j u hj
          · rename_i hlt
            have := g3 (j - k * P.cellsOf e) u (by simpa using hj)
            rwa [show k * P.cellsOf e + (j - k * P.cellsOf e) = j by omega] at this
    obtain ⟨l, h0, h1, h2, h3⟩ := all len0 (Nat.le_refl _)
    subst h0
    exact ⟨some a, cap0, l, hcs, hl, hm, RowAt.of_cells h3, h2⟩
set_option maxRecDepth 100000 in
theorem line_of {fuel : Nat} {cs : List Value} {x : DataW H × List MemPlace} (h : DataW.trod enc Try.prog w base spare held fuel 32 cs = some x) : ∃ a : Ln, cs = lv a ∧ (-9223372036854775808 ≤ a.m ∧ a.m ≤ 9223372036854775807) := by
  obtain ⟨hl, hf⟩ := trod_struct_at Try.underlying32 (by kernel_rfl) (by kernel_rfl) h
  obtain ⟨a, h0, _⟩ := (hf 0 _ rfl).1 rfl
  obtain ⟨b, h1, _⟩ := (hf 1 _ rfl).1 rfl
  obtain ⟨c, h2, _⟩ := (hf 2 _ rfl).1 rfl
  obtain ⟨d, h3, h4, h5⟩ := (hf 3 _ rfl).1 rfl
  have hl : cs.length = 4 := hl
  refine ⟨⟨a, b, c, d⟩, ?_, h4, h5⟩
  match cs, hl with
  | [_, _, _, _], _ =>
    simp at h0 h1 h2 h3
    rw [h0, h1, h2, h3]
    rfl
set_option maxRecDepth 100000 in
theorem ent_of {fuel : Nat} {cs : List Value} {x : DataW H × List MemPlace} (h : DataW.trod enc Try.prog w 0 (fun _ => true) true fuel 49 cs = some x) : ∃ e : Ent, cs = ev e ∧ (RowAt w e.A (lvs e.ls) ∧ WfL e.ls) := by
  obtain ⟨hl, hf⟩ := trod_struct_at Try.underlying49 (by kernel_rfl) (by kernel_rfl) h
  obtain ⟨p, h0, _⟩ := (hf 0 _ rfl).1 rfl
  obtain ⟨r, h1, _⟩ := (hf 1 _ rfl).1 rfl
  obtain ⟨ys, n, _, _, hlen, hyl, hf2⟩ := DataW.trod_struct Try.underlying49 h
  have h2 := hf2 2 _ rfl
  rw [List.getElem?_eq_getElem (show 2 < ys.length by have := hyl; simp at this; omega)] at h2
  have hk : Try.prog.cellsOf 47 = 1 := by kernel_rfl
  have hl : cs.length = 3 := hl
  match cs, hl with
  | [c0, c1, c2], _ =>
    have h2 : DataW.trod enc Try.prog w 0 (fun _ => true) true n 47 (List.take (Try.prog.cellsOf 47) [c2]) = some ys[2] := h2
    rw [hk] at h2
    have h2 : DataW.trod enc Try.prog w 0 (fun _ => true) true n 47 [c2] = some ys[2] := h2
    obtain ⟨A, c, ls, hc, _, _, hrow, hg⟩ := trod_rows lv (fun a => -9223372036854775808 ≤ a.m ∧ a.m ≤ 9223372036854775807) Try.underlying47 (fun _ _ _ h => line_of h) (fun _ => (show 4 = Try.prog.cellsOf 32 by kernel_rfl)) h2
    simp at h0 h1
    refine ⟨⟨p, r, A, c, ls⟩, ?_, hrow, hg⟩
    have hc' : [c2] = [Value.slice A ls.length c] := hc
    injection hc' with hc'
    rw [h0, h1, hc']
    rfl
set_option maxRecDepth 100000 in
theorem open_ents {t : TypeId} {v : Value} {d : DataW H} {p : List MemPlace} (ht : Try.prog.underlying t = some (.slice 49)) (hv : Value.okWide Try.prog w .any base t v) (h : DataW.Trod enc Try.prog w 0 (fun _ => true) true t v d p) :
    ∃ (A : Option Addr) (c : Nat) (l : List Ent), v = .slice A l.length c ∧ l.length ≤ c ∧ c ≤ maxLen ∧ RowE w A l ∧ WfE l := by
  obtain ⟨A, c, l, h1, h2, h3, h4, h5⟩ := open_rows_arg ev (fun e => RowAt w e.A (lvs e.ls) ∧ WfL e.ls) ht (fun _ _ _ h => ent_of h) (fun _ => (show 3 = Try.prog.cellsOf 49 by kernel_rfl)) hv h
  exact ⟨A, c, l, h1, h2, h3, ⟨h4, fun e he => (h5 e he).1⟩, fun e he => (h5 e he).2⟩
end
end Go.Proofs.Ythkaohjgldoipaa
