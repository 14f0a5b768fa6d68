/-
  recipe: plain laws of values: their numbers are ints.
-/
import Derived.Test.YtioecjoddgpjbaaRe9
namespace Go.Proofs.Ytioecjoddgpjbaa
open Go.RowKit

def OkV (x : Vl) : Prop := -9223372036854775808 ≤ x.n ∧ x.n ≤ 9223372036854775807
theorem ok0 {e : Int} : OkV ⟨0, e⟩ := ⟨show (-9223372036854775808 : Int) ≤ 0 by decide, show (0 : Int) ≤ 9223372036854775807 by decide⟩
theorem toldI_ok (z : Int) : -9223372036854775808 ≤ (toldI z).1 ∧ (toldI z).1 ≤ 9223372036854775807 := by
  unfold toldI leastI mostI
  split
  · rename_i h; exact h
  · exact ⟨by decide, by decide⟩
theorem applyI_ok (x n d : Int) : -9223372036854775808 ≤ (applyI x n d).1 ∧ (applyI x n d).1 ≤ 9223372036854775807 := by
  unfold applyI evenI
  split
  · split
    · exact ⟨by decide, by decide⟩
    · exact toldI_ok _
  · exact ⟨by decide, by decide⟩
theorem toldV_ok {n e : Int} (h : -9223372036854775808 ≤ n ∧ n ≤ 9223372036854775807) : OkV (toldV n e) := by
  unfold toldV
  split
  · exact ok0
  · exact h
theorem scaleV_ok (v : Vl) (num den : Int) (has : Bool) : OkV (scaleV v num den has) := by
  unfold scaleV
  split
  · exact ok0
  · split
    · exact ok0
    · split
      · exact ok0
      · exact toldV_ok (applyI_ok _ _ _)
theorem ofV_ok : ∀ {l : List Cel} {i : List Vl} {x : Cel}, (∀ v ∈ i, OkV v) → OkV (ofV l i x)
  | [], _, _, _ => by unfold ofV; exact ok0
  | _ :: _, [], _, _ => by unfold ofV; exact ok0
  | c :: r, v :: m, x, h => by
    unfold ofV
    split
    · exact h v List.mem_cons_self
    · exact ofV_ok fun u hu => h u (List.mem_cons_of_mem _ hu)
theorem amts_ok {l : List Vl} (h : ∀ v ∈ l, OkV v) : I64s (amts l) := fun x hx => by
  unfold amts at hx
  obtain ⟨v, hv, rfl⟩ := List.mem_map.1 hx
  exact h v hv
theorem plusV_ok {r : Rcp} {l : List Cel} {i : List Vl} (hb : OkV r.base) (h : ∀ v ∈ i, OkV v) : ∀ v ∈ plusV r l i, OkV v := fun v hv => by
  unfold plusV at hv
  rw [List.mem_append, List.mem_cons] at hv
  rcases hv with (rfl | hv) | hv
  · exact hb
  · obtain ⟨c, _, rfl⟩ := List.mem_map.1 hv
    exact ofV_ok h
  · split at hv
    · rw [List.mem_singleton.1 hv]; exact scaleV_ok _ _ _ _
    · simp at hv
theorem minusV_ok {m : List Cel} {l : List Cel} {i : List Vl} (h : ∀ v ∈ i, OkV v) : ∀ v ∈ m.map (ofV l i), OkV v := fun v hv => by
  obtain ⟨c, _, rfl⟩ := List.mem_map.1 hv
  exact ofV_ok h
theorem nodup_take {L : List Cel} (h : L.Nodup) {k : Nat} (hk : k < L.length) : L[k] ∉ L.take k := fun hm => by
  obtain ⟨j, hj, he⟩ := List.getElem_of_mem hm
  rw [List.length_take] at hj
  rw [List.getElem_take] at he
  exact (List.pairwise_iff_getElem.1 h) j k (by omega) hk (by omega) he
theorem readsR_nodup (r : Rcp) : (readsR r).Nodup := unq_nodup _
theorem readsR_wf {r : Rcp} (h : WfR r) : ∀ x ∈ readsR r, WfC x := fun x hx => h.all x (mem_unq.1 hx)
theorem readsR_len {r : Rcp} (h : WfR r) : (readsR r).length ≤ 121 := Nat.le_trans (unq_len _) h.len
theorem own_of_box {w : World} {base g : Nat} {α : Type} {E : Enc α} {e : TypeId} {x : α} {cs : Array Value} (hb : base ≤ g) (h : Box w g e cs) (hc : cs.toList = E.v x) : w.ownsRow base e E.n (.slice (some ⟨g, 0, none⟩) 1 1) 1 (E.vs [x]) := by
  have hs : cs.size = E.n := by rw [← Array.length_toList, hc, E.len]
  exact ⟨by rw [E.vs_len]; rfl, .inr ⟨g, 1, cs, rfl, hb, h, Nat.le_refl _, by unfold maxLen; omega, by rw [hs, Nat.one_mul], by rw [Nat.one_mul, ← hs, ← Array.length_toList, List.take_length, hc, E.vs_one]⟩⟩
end Go.Proofs.Ytioecjoddgpjbaa
