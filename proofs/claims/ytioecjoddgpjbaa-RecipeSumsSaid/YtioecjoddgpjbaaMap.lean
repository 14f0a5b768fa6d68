/-
  Maps that the call makes, told by what stands at each key, whatever the keys and the elements are: look-up, store, '+= 1'.
-/
import Derived.Test.YtioecjoddgpjbaaK3
import Derived.Maps.OwnSet
import Derived.DeepKeys4
import Derived.WideKeyEntry
namespace Go.Proofs.Ytioecjoddgpjbaa
open Go.RowKit Go.WideElems Go.Maps Go.ChangeMaps

/-- The entries of a map tell what stands at each key. -/
structure Es (P : Program) (k : TypeId) (es : Array MapEntry) (clock : Nat) (f : Value → Option Value) : Prop where
  keys : ∀ e ∈ es.toList, ∃ l, keyOf P k e.key = some l
  born : ∀ e ∈ es.toList, e.born < clock
  nod : (es.toList.map (·.born)).Nodup
  one : es.toList.Pairwise fun a b => a.key ≠ b.key
  hit : ∀ e ∈ es.toList, f e.key = some e.val
  only : ∀ key v, f key = some v → ∃ e ∈ es.toList, e.key = key
def MapF (P : Program) (k : TypeId) (w : World) (b n : Nat) (f : Value → Option Value) : Prop := ∃ es clock, w.heap[b]? = some (.map es clock) ∧ Es P k es clock f ∧ es.size ≤ n
section
variable {P : Program} {k e t : TypeId} {w w' : World} {b n : Nat} {f f' : Value → Option Value}
theorem MapF.made (P : Program) (k : TypeId) (w : World) : MapF P k (w.alloc (.map #[] 0)) w.heap.size 0 (fun _ => none) :=
  ⟨#[], 0, (MapKept.heap_alloc w _).1, ⟨by simp, by simp, by simp, by simp, by simp, fun _ _ h => by cases h⟩, Nat.le_refl _⟩
theorem MapF.lt (h : MapF P k w b n f) : b < w.heap.size := by
  obtain ⟨es, clock, hb, _⟩ := h
  exact (Array.getElem?_eq_some_iff.1 hb).1
theorem MapF.at (h : MapF P k w b n f) (he : w'.heap[b]? = w.heap[b]?) : MapF P k w' b n f := by
  obtain ⟨es, clock, hb, r⟩ := h
  exact ⟨es, clock, he.trans hb, r⟩
theorem MapF.kept {row : Option Nat} (h : MapF P k w b n f) (hg : w.grownBy w' row) (hne : some b ≠ row) : MapF P k w' b n f := h.at (hg.block b h.lt hne)
theorem MapF.alloc (h : MapF P k w b n f) (o : Obj) : MapF P k (w.alloc o) b n f := h.kept (World.grownBy_alloc w o none) (by simp)
theorem MapF.drew (h : MapF P k w b n f) : MapF P k w.drew b n f := h
theorem MapF.below {B : Nat} (h : MapF P k w b n f) (hb : Below B w w') (hB : b < B) : MapF P k w' b n f := h.at (hb.block b hB)
theorem MapF.later (h : MapF P k w b n f) (hb : Below w.heap.size w w') : MapF P k w' b n f := h.below hb h.lt
theorem MapF.setCell (h : MapF P k w b n f) {a : Addr} (ha : b ≠ a.block) (u : Value) : MapF P k (w.setCell a u) b n f := h.at (Below.heap_setCell _ _ _ _ ha)
theorem MapF.box {g : Nat} {ty : TypeId} {cs : Array Value} (h : MapF P k w b n f) (hg : Box w g ty cs) : b ≠ g := by
  rintro rfl
  obtain ⟨es, clock, hb, _⟩ := h
  rw [show w.heap[b]? = _ from hg] at hb
  cases hb
theorem MapF.own {base e size m : Nat} {v : Value} {xs : List Value} (h : MapF P k w b n f) (ho : w.ownsRow base e size v m xs) : some b ≠ v.ownBlock := by
  obtain ⟨es, clock, hb, _⟩ := h
  rcases ho.2 with ⟨h1, _⟩ | ⟨g2, cap, cur, h1, _, hh, _⟩
  · rw [h1]; intro hx; cases hx
  · rw [h1]; intro hx; injection hx with hx
    subst hx
    rw [hh] at hb; cases hb
theorem Es.find (K : Keyed P k) {es : Array MapEntry} {clock : Nat} (h : Es P k es clock f) (w : World) {x : Value} {kl : Lit} (hx : keyOf P k x = some kl) :
    ((Instr.findKey k x es.toList).run P w = .ok none w ∧ (∀ e ∈ es.toList, e.key ≠ x) ∧ f x = none) ∨ ∃ j e, (Instr.findKey k x es.toList).run P w = .ok (some (j, e.val)) w ∧ es.toList[j]? = some e ∧ e.key = x ∧ f x = some e.val := by
  rcases K.find w hx es.toList h.keys with ⟨h1, h2⟩ | ⟨j, e, h1, h2, h3⟩
  · refine .inl ⟨h1, h2, ?_⟩
    cases hf : f x with
    | none => rfl
    | some v =>
      obtain ⟨e, he, hk⟩ := h.only x v hf
      exact absurd hk (h2 e he)
  · exact .inr ⟨j, e, h1, h2, h3, by rw [← h3]; exact h.hit e (List.mem_of_getElem? h2)⟩
/-- 'm[x]'. -/
theorem MapF.look (K : Keyed P k) (ht : P.underlying t = some (.map k e)) (h : MapF P k w b n f) {z : Value} (hz : (zeroValue e).run P w = .ok z w) {x : Value} {kl : Lit} (hx : keyOf P k x = some kl) :
    (Instr.lookup t (.map (some b)) x false).run P w = .ok ((f x).getD z) w := by
  obtain ⟨es, clock, hb, he, _⟩ := h
  rcases he.find K w hx with ⟨h1, _, h3⟩ | ⟨j, e0, h1, h2, h3, h4⟩
  · rw [h3]; simp [Instr.lookup, run_underlying ht, MapKept.run_getObj_map hb, K.check w _ hx, h1, hz, Result.andThen]
  · rw [h4]; simp [Instr.lookup, run_underlying ht, MapKept.run_getObj_map hb, K.check w _ hx, h1, Result.andThen]
theorem Es.push {es : Array MapEntry} {clock : Nat} (h : Es P k es clock f) {x v : Value} {kl : Lit} (hx : keyOf P k x = some kl) (hne : ∀ e ∈ es.toList, e.key ≠ x) (h1 : f' x = some v) (h2 : ∀ y, y ≠ x → f' y = f y) :
    Es P k (es.push ⟨x, v, clock⟩) (clock + 1) f' := by
  refine ⟨fun e he => ?_, fun e he => ?_, ?_, ?_, fun e he => ?_, fun key u hu => ?_⟩
  · rw [Array.toList_push, List.mem_append, List.mem_singleton] at he
    rcases he with he | rfl
    · exact h.keys e he
    · exact ⟨kl, hx⟩
  · rw [Array.toList_push, List.mem_append, List.mem_singleton] at he
    rcases he with he | rfl
    · exact Nat.lt_succ_of_lt (h.born e he)
    · exact Nat.lt_succ_self _
  · rw [Array.toList_push, List.map_append]
    refine List.nodup_append.2 ⟨h.nod, by simp, fun a ha c hc e1 => ?_⟩
    simp only [List.map_cons, List.map_nil, List.mem_singleton] at hc
    obtain ⟨x, hx, rfl⟩ := List.mem_map.1 ha
    have := h.born x hx
    omega
  · rw [Array.toList_push]
    refine List.pairwise_append.2 ⟨h.one, by simp, fun a ha c hc => ?_⟩
    rw [List.mem_singleton] at hc
    subst hc
    exact hne a ha
  · rw [Array.toList_push, List.mem_append, List.mem_singleton] at he
    rcases he with he | rfl
    · rw [h2 _ (hne e he)]; exact h.hit e he
    · exact h1
  · rw [Array.toList_push]
    by_cases hk : key = x
    · exact ⟨⟨x, v, clock⟩, by simp, hk.symm⟩
    · rw [h2 key hk] at hu
      obtain ⟨e, he, hk⟩ := h.only key u hu
      exact ⟨e, by simp [he], hk⟩
theorem Es.put {es : Array MapEntry} {clock : Nat} (h : Es P k es clock f) {x v : Value} {j : Nat} {e0 : MapEntry} (hj : es.toList[j]? = some e0) (he0 : e0.key = x) (h1 : f' x = some v) (h2 : ∀ y, y ≠ x → f' y = f y) :
    Es P k (es.modify j fun e => { e with key := x, val := v }) clock f' := by
  have hl : (es.modify j fun e => { e with key := x, val := v }).toList = es.toList.set j { e0 with key := x, val := v } := by
    rw [Array.toList_modify, modify_eq_set _ _ _ _ hj]
  have hjl : j < es.toList.length := (List.getElem?_eq_some_iff.1 hj).1
  have hg : es.toList[j] = e0 := (List.getElem?_eq_some_iff.1 hj).2
  have hm0 : e0 ∈ es.toList := List.mem_of_getElem? hj
  have mp : ∀ {α : Type} (g : MapEntry → α), g { e0 with key := x, val := v } = g e0 → (es.toList.set j { e0 with key := x, val := v }).map g = es.toList.map g := fun g hgq => by
    rw [List.map_set, hgq]
    exact set_self _ _ _ (by rw [List.getElem?_map, hj]; rfl)
  refine ⟨fun e he => ?_, fun e he => ?_, ?_, ?_, fun e he => ?_, fun key u hu => ?_⟩
  · rw [hl] at he
    rcases List.mem_or_eq_of_mem_set he with he | rfl
    · exact h.keys e he
    · obtain ⟨l, hl⟩ := h.keys e0 hm0
      exact ⟨l, by rw [← he0]; exact hl⟩
  · rw [hl] at he
    rcases List.mem_or_eq_of_mem_set he with he | rfl
    · exact h.born e he
    · exact h.born e0 hm0
  · rw [hl, mp (·.born) rfl]; exact h.nod
  · have h3 : ((es.modify j fun e => { e with key := x, val := v }).toList.map (·.key)).Pairwise (· ≠ ·) := by
      rw [hl, mp (·.key) he0.symm]
      exact List.pairwise_map.2 h.one
    exact List.pairwise_map.1 h3
  · rw [hl] at he
    obtain ⟨i, hi, he⟩ := List.getElem_of_mem he
    rw [List.length_set] at hi
    rw [List.getElem_set] at he
    by_cases hij : j = i
    · rw [if_pos hij] at he
      subst he
      exact h1
    · rw [if_neg hij] at he
      subst he
      have hmem : es.toList[i] ∈ es.toList := List.getElem_mem hi
      have hne : es.toList[i].key ≠ x := by
        rw [← he0, ← hg]
        rcases Nat.lt_or_ge i j with hlt | hge
        · exact (List.pairwise_iff_getElem.1 h.one) i j hi hjl hlt
        · exact ((List.pairwise_iff_getElem.1 h.one) j i hjl hi (by omega)).symm
      rw [h2 _ hne]
      exact h.hit _ hmem
  · rw [hl]
    by_cases hk : key = x
    · exact ⟨{ e0 with key := x, val := v }, List.mem_of_getElem? (by rw [List.getElem?_set_self hjl]), hk.symm⟩
    · rw [h2 key hk] at hu
      obtain ⟨e, he, hke⟩ := h.only key u hu
      obtain ⟨i, hi, rfl⟩ := List.getElem_of_mem he
      have hij : j ≠ i := by
        rintro rfl
        exact hk (by rw [← hke, hg, he0])
      exact ⟨es.toList[i], List.mem_of_getElem? (i := i) (by rw [List.getElem?_set_ne hij, List.getElem?_eq_getElem hi]), hke⟩
theorem grown_setBlock (w : World) (b : Nat) (o : Obj) : w.grownBy (setBlock w b o) (some b) :=
  ⟨rfl, rfl, rfl, by simp [setBlock], fun i _ hi => by
    have hne : b ≠ i := fun e => hi (by rw [e])
    simp only [setBlock]
    rw [Array.getElem?_setIfInBounds_ne hne]⟩
/-- 'm[x] = v'. -/
theorem MapF.store (K : Keyed P k) (ht : P.underlying t = some (.map k e)) (h : MapF P k w b n f) {x v : Value} {kl : Lit} (hx : keyOf P k x = some kl) (h1 : f' x = some v) (h2 : ∀ y, y ≠ x → f' y = f y) :
    ∃ w', (Instr.mapUpdate t (.map (some b)) x v).run P w = .ok () w' ∧ MapF P k w' b (n + 1) f' ∧ w.grownBy w' (some b) := by
  obtain ⟨es, clock, hb, he, hn⟩ := h
  rcases he.find K w hx with ⟨q1, q2, _⟩ | ⟨j, e0, q1, q2, q3, _⟩
  · refine ⟨setBlock w b (.map (es.push ⟨x, v, clock⟩) (clock + 1)), ?_, ⟨_, _, heap_setBlock_same hb _, he.push hx q2 h1 h2, by simp; omega⟩, grown_setBlock _ _ _⟩
    simp [Instr.mapUpdate, run_underlying ht, MapKept.run_getObj_map hb, K.check w false hx, q1, MapKept.run_setObj_map _ hb, Result.andThen, setBlock]
  · refine ⟨setBlock w b (.map (es.modify j fun e => { e with key := x, val := v }) clock), ?_, ⟨_, _, heap_setBlock_same hb _, he.put q2 q3 h1 h2, by simp; omega⟩, grown_setBlock _ _ _⟩
    have hj : es[j]? = some e0 := by simpa using q2
    simp [Instr.mapUpdate, run_underlying ht, MapKept.run_getObj_map hb, K.check w false hx, q1, hj, q3, K.stays w hx, MapKept.run_setObj_map _ hb, Result.andThen, setBlock]
/-- 'm[x] op= y', as two steps: the entry is laid, with nought where there was none; what stands at x meanwhile; then it is stored. -/
theorem MapF.entry (K : Keyed P k) (ht : P.underlying t = some (.map k e)) {z : Value} (hz : ∀ u : World, (zeroValue e).run P u = .ok z u) (h : MapF P k w b n f) {x v : Value} {kl : Lit} (hx : keyOf P k x = some kl) (h1 : f' x = some v) (h2 : ∀ y, y ≠ x → f' y = f y) :
    ∃ (v0 : Value) (st : Nat) (w1 w2 : World), (Instr.mapEntry t (.map (some b)) x).run P w = .ok (.tuple #[v0, goInt st]) w1 ∧ w.grownBy w1 (some b) ∧ (Instr.lookup t (.map (some b)) x false).run P w1 = .ok ((f x).getD z) w1 ∧
      (Instr.entryStore t (.map (some b)) (goInt st) v).run P w1 = .ok () w2 ∧ MapF P k w2 b (n + 1) f' ∧ w1.grownBy w2 (some b) := by
  obtain ⟨es, clock, hb, he, hn⟩ := h
  rcases he.find K w hx with ⟨q1, q2, q3⟩ | ⟨j, e0, q1, q2, q3, q4⟩
  · obtain ⟨f1, g1, g2⟩ : ∃ f1 : Value → Option Value, f1 x = some z ∧ ∀ y, y ≠ x → f1 y = f y := by
      classical
      exact ⟨fun y => if y = x then some z else f y, by simp, fun y hy => by simp [hy]⟩
    have hE := he.push hx q2 g1 g2
    have hb1 : (setBlock w b (.map (es.push ⟨x, z, clock⟩) (clock + 1))).heap[b]? = some (.map (es.push ⟨x, z, clock⟩) (clock + 1)) := heap_setBlock_same hb _
    have M1 : MapF P k (setBlock w b (.map (es.push ⟨x, z, clock⟩) (clock + 1))) b (n + 1) f1 := ⟨_, _, hb1, hE, by simp; omega⟩
    have hl := M1.look K ht (hz _) hx
    rw [g1] at hl
    refine ⟨z, clock, _, setBlock (setBlock w b (.map (es.push ⟨x, z, clock⟩) (clock + 1))) b (.map (es.push ⟨x, v, clock⟩) (clock + 1)), ?_, grown_setBlock _ _ _, by rw [q3]; exact hl, ?_, ⟨_, _, heap_setBlock_same hb1 _, he.push hx q2 h1 h2, by simp; omega⟩, grown_setBlock _ _ _⟩
    · simp [Instr.mapEntry, run_underlying ht, MapKept.run_getObj_map hb, K.check w false hx, q1, hz, MapKept.run_setObj_map _ hb, Result.andThen, setBlock]
    · have hidx : (es.push ⟨x, z, clock⟩).findIdx? (fun e => ((e.born : Nat) : Int) == ((clock : Nat) : Int)) = some es.size := by
        rw [findIdx_arr]
        exact findIdx_born (l := (es.push ⟨x, z, clock⟩).toList) (j := es.size) (e0 := ⟨x, z, clock⟩) hE.nod (by simp)
      have hmod : (es.push ⟨x, z, clock⟩).modify es.size (fun e => { e with val := v }) = es.push ⟨x, v, clock⟩ := by
        apply Array.ext'
        rw [Array.toList_modify, Array.toList_push, Array.toList_push, ← Array.length_toList, modify_last]
      clear M1 hl
      generalize setBlock w b (.map (es.push ⟨x, z, clock⟩) (clock + 1)) = W1 at hb1 ⊢
      rw [show goInt (clock : Int) = .int .i64 (clock : Int) from rfl]
      simp [Instr.entryStore, MapKept.run_getObj_map hb1, asInt, asIntOf, hidx, hmod, MapKept.run_setObj_map _ hb1, Result.andThen, setBlock]
  · have hj : es[j]? = some e0 := by simpa using q2
    have hsame : es.modify j (fun e => { e with key := x }) = es := by
      apply Array.ext'
      rw [Array.toList_modify, modify_eq_set _ _ _ _ q2]
      have : ({ e0 with key := x } : MapEntry) = e0 := by rw [← q3]
      rw [this]
      exact set_self _ _ _ q2
    have hb1 : (setBlock w b (.map es clock)).heap[b]? = some (.map es clock) := heap_setBlock_same hb _
    have M1 : MapF P k (setBlock w b (.map es clock)) b (n + 1) f := ⟨_, _, hb1, he, by omega⟩
    have hl := M1.look K ht (hz _) hx
    refine ⟨e0.val, e0.born, _, setBlock (setBlock w b (.map es clock)) b (.map (es.modify j fun e' => { e' with key := x, val := v }) clock), ?_, grown_setBlock _ _ _, hl, ?_, ⟨_, _, heap_setBlock_same hb1 _, he.put q2 q3 h1 h2, by simp; omega⟩, grown_setBlock _ _ _⟩
    · simp [Instr.mapEntry, run_underlying ht, MapKept.run_getObj_map hb, K.check w false hx, q1, hj, q3, K.stays w hx, hsame, MapKept.run_setObj_map _ hb, Result.andThen, setBlock]
    · have hidx : es.findIdx? (fun e => ((e.born : Nat) : Int) == ((e0.born : Nat) : Int)) = some j := by
        rw [findIdx_arr]
        exact findIdx_born he.nod q2
      have hmod : es.modify j (fun e => { e with val := v }) = es.modify j (fun e' => { e' with key := x, val := v }) := by
        apply Array.ext'
        rw [Array.toList_modify, Array.toList_modify, modify_eq_set _ _ _ _ q2, modify_eq_set _ _ _ _ q2, ← q3]
      clear M1 hl
      generalize setBlock w b (.map es clock) = W1 at hb1 ⊢
      rw [show goInt (e0.born : Int) = .int .i64 (e0.born : Int) from rfl]
      simp [Instr.entryStore, MapKept.run_getObj_map hb1, asInt, asIntOf, hidx, hmod, MapKept.run_setObj_map _ hb1, Result.andThen, setBlock]
end
end Go.Proofs.Ytioecjoddgpjbaa
