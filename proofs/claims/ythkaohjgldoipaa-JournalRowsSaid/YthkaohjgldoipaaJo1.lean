/-
  journal: rows of entries, lines and posted lines in memory; words for a range over a function.
-/
import Derived.Test.YthkaohjgldoipaaJoP
import Derived.Test.YthkaohjgldoipaaAc10
import Derived.RangeFuncNested
import Derived.RangeFuncBound
import Derived.RangeFuncCalls
import Derived.RangeFuncLeaves
import Derived.RangeFuncBox
import Derived.Maps.AppendAt
import Derived.Shelf.Abstract
import Derived.OwnWalkIn
import Derived.TacticsInMore
import Derived.LoopNIn
import Derived.LoopIn
namespace Go.Proofs.Ythkaohjgldoipaa
open Go.RowKit

def lv (x : Ln) : List Value := [.int .i64 x.e, .int .i64 x.a, .int .i64 x.q, .int .i64 x.m]
def lvs (l : List Ln) : List Value := l.flatMap lv
def ev (e : Ent) : List Value := [.int .i64 e.p, .int .i64 e.r, .slice e.A e.ls.length e.c]
def evs (l : List Ent) : List Value := l.flatMap ev
def pv (p : Pst) : List Value := [.int .i64 p.id, .int .i64 p.en, .int .i64 p.pe, .int .i64 p.ln.e, .int .i64 p.ln.a, .int .i64 p.ln.q, .int .i64 p.ln.m]
def pvs (l : List Pst) : List Value := l.flatMap pv

-- rows of elements of m cells each
section
variable {α : Type} {V : α → List Value} {m : Nat}
theorem fm_len (hV : ∀ x, (V x).length = m) (l : List α) : (l.flatMap V).length = l.length * m := by
  induction l with
  | nil => simp
  | cons x r ih => rw [List.flatMap_cons, List.length_append, ih, hV, List.length_cons, Nat.succ_mul]; omega
theorem fm_get (hV : ∀ x, (V x).length = m) (l : List α) (k : Nat) (hk : k < l.length) (i : Nat) (hi : i < m) : (l.flatMap V)[k * m + i]? = (V l[k])[i]? := by
  induction l generalizing k with
  | nil => simp at hk
  | cons x r ih =>
    rw [List.flatMap_cons]
    cases k with
    | zero => rw [Nat.zero_mul, Nat.zero_add, List.getElem?_append_left (by rw [hV]; exact hi)]; rfl
    | succ k =>
      rw [List.getElem?_append_right (by rw [hV, Nat.succ_mul]; omega), hV, show (k + 1) * m + i - m = k * m + i by rw [Nat.succ_mul]; omega]
      exact ih k (by simpa using hk)
theorem fm_one (h : ∀ x, ∀ u ∈ V x, u.oneCell' = true) (l : List α) : ∀ u ∈ l.flatMap V, u.oneCell' = true := by
  intro u hu
  obtain ⟨x, _, hx⟩ := List.mem_flatMap.1 hu
  exact h x u hx
theorem fm_take (hV : ∀ x, (V x).length = m) (l : List α) (k : Nat) : (l.take k).flatMap V = (l.flatMap V).take (k * m) := by
  induction l generalizing k with
  | nil => simp
  | cons x r ih =>
    cases k with
    | zero => simp
    | succ k =>
      have h1 : (V x).length ≤ (k + 1) * m := by rw [hV, Nat.succ_mul]; omega
      rw [List.take_succ_cons, List.flatMap_cons, List.flatMap_cons, ih, List.take_append, List.take_of_length_le h1, hV, show (k + 1) * m - m = k * m by rw [Nat.succ_mul]; omega]
theorem row_of_own {w : World} {t : TypeId} {base n c : Nat} {A : Option Addr} {xs : List Value} (h : w.ownsRow base t m (.slice A n c) n xs) : RowAt w A xs := by
  intro hn
  have hl : xs.length = n * m := by simpa using h.1
  obtain ⟨A', c', hv, hf⟩ := own_form h
  have hn0 : 0 < n := by
    rcases Nat.eq_zero_or_pos n with h0 | h0
    · rw [h0, Nat.zero_mul] at hl; omega
    · exact h0
  obtain ⟨g, hA, hb, hlt⟩ := hf hn0
  injection hv with hv1 hv2 hv3
  subst hv1 hv3 hA
  refine ⟨g, 0, rfl, hlt, fun j u hj => ?_⟩
  have hjl : j < xs.length := (List.getElem?_eq_some_iff.1 hj).1
  rw [Nat.zero_add, h.cellAt j (by omega)]
  exact hj
theorem row_cells {w : World} {A : Option Addr} {l : List α} (hV : ∀ x, (V x).length = m) (hm : 0 < m) (h : RowAt w A (l.flatMap V)) (hn : 0 < l.length) :
    ∃ b off, A = some ⟨b, off, none⟩ ∧ b < w.heap.size ∧ ∀ k (hk : k < l.length) (i : Nat) (u : Value), i < m → (V l[k])[i]? = some u → w.cell? ⟨b, off + k * m + i, none⟩ = some u := by
  obtain ⟨b, off, rfl, hb, hc⟩ := h (by rw [fm_len hV]; exact Nat.mul_pos hn hm)
  exact ⟨b, off, rfl, hb, fun k hk i u hi hu => by rw [Nat.add_assoc]; exact hc _ _ ((fm_get hV l k hk i hi).trans hu)⟩
end
theorem lv_len (x : Ln) : (lv x).length = 4 := rfl
theorem ev_len (x : Ent) : (ev x).length = 3 := rfl
theorem pv_len (x : Pst) : (pv x).length = 7 := rfl
theorem lvs_len (l : List Ln) : (lvs l).length = l.length * 4 := fm_len lv_len l
theorem evs_len (l : List Ent) : (evs l).length = l.length * 3 := fm_len ev_len l
theorem pvs_len (l : List Pst) : (pvs l).length = l.length * 7 := fm_len pv_len l
theorem lv_one (x : Ln) : ∀ u ∈ lv x, u.oneCell' = true := by intro u hu; simp [lv] at hu; rcases hu with rfl | rfl | rfl | rfl <;> rfl
theorem ev_one (x : Ent) : ∀ u ∈ ev x, u.oneCell' = true := by intro u hu; simp [ev] at hu; rcases hu with rfl | rfl | rfl <;> rfl
theorem pv_one (x : Pst) : ∀ u ∈ pv x, u.oneCell' = true := by intro u hu; simp [pv] at hu; rcases hu with rfl | rfl | rfl | rfl | rfl | rfl | rfl <;> rfl
theorem pvs_snoc (l : List Pst) (x : Pst) : pvs (l ++ [x]) = pvs l ++ pv x := by unfold pvs; rw [List.flatMap_append]; simp
theorem lvs_snoc (l : List Ln) (x : Ln) : lvs (l ++ [x]) = lvs l ++ lv x := by unfold lvs; rw [List.flatMap_append]; simp
theorem evs_snoc (l : List Ent) (x : Ent) : evs (l ++ [x]) = evs l ++ ev x := by unfold evs; rw [List.flatMap_append]; simp
theorem RowAt.lines {w : World} {A : Option Addr} {l : List Ln} (h : RowAt w A (lvs l)) (hn : 0 < l.length) :
    ∃ b off, A = some ⟨b, off, none⟩ ∧ b < w.heap.size ∧ ∀ k (hk : k < l.length), w.cell? ⟨b, off + k * 4, none⟩ = some (.int .i64 l[k].e) ∧ w.cell? ⟨b, off + k * 4 + 1, none⟩ = some (.int .i64 l[k].a) ∧
      w.cell? ⟨b, off + k * 4 + 2, none⟩ = some (.int .i64 l[k].q) ∧ w.cell? ⟨b, off + k * 4 + 3, none⟩ = some (.int .i64 l[k].m) := by
  obtain ⟨b, off, h1, h2, h3⟩ := row_cells (V := lv) lv_len (by decide) h hn
  exact ⟨b, off, h1, h2, fun k hk => ⟨h3 k hk 0 _ (by decide) rfl, h3 k hk 1 _ (by decide) rfl, h3 k hk 2 _ (by decide) rfl, h3 k hk 3 _ (by decide) rfl⟩⟩
theorem RowAt.posts {w : World} {A : Option Addr} {l : List Pst} (h : RowAt w A (pvs l)) (hn : 0 < l.length) :
    ∃ b off, A = some ⟨b, off, none⟩ ∧ b < w.heap.size ∧ ∀ k (hk : k < l.length), w.cell? ⟨b, off + k * 7, none⟩ = some (.int .i64 l[k].id) ∧ w.cell? ⟨b, off + k * 7 + 1, none⟩ = some (.int .i64 l[k].en) ∧
      w.cell? ⟨b, off + k * 7 + 2, none⟩ = some (.int .i64 l[k].pe) ∧ w.cell? ⟨b, off + k * 7 + 3, none⟩ = some (.int .i64 l[k].ln.e) ∧ w.cell? ⟨b, off + k * 7 + 4, none⟩ = some (.int .i64 l[k].ln.a) ∧
      w.cell? ⟨b, off + k * 7 + 5, none⟩ = some (.int .i64 l[k].ln.q) ∧ w.cell? ⟨b, off + k * 7 + 6, none⟩ = some (.int .i64 l[k].ln.m) := by
  obtain ⟨b, off, h1, h2, h3⟩ := row_cells (V := pv) pv_len (by decide) h hn
  exact ⟨b, off, h1, h2, fun k hk => ⟨h3 k hk 0 _ (by decide) rfl, h3 k hk 1 _ (by decide) rfl, h3 k hk 2 _ (by decide) rfl, h3 k hk 3 _ (by decide) rfl, h3 k hk 4 _ (by decide) rfl, h3 k hk 5 _ (by decide) rfl, h3 k hk 6 _ (by decide) rfl⟩⟩
/-- A row of entries, with their lines. -/
def RowE (w : World) (A : Option Addr) (l : List Ent) : Prop := RowAt w A (evs l) ∧ ∀ e ∈ l, RowAt w e.A (lvs e.ls)
section
variable {w w' : World} {A : Option Addr} {l : List Ent}
theorem RowE.below {B : Nat} (h : RowE w A l) (hb : Below B w w') (hB : w.heap.size ≤ B) : RowE w' A l := ⟨h.1.below hb hB, fun e he => (h.2 e he).below hb hB⟩
theorem RowE.later (h : RowE w A l) (hb : Below w.heap.size w w') : RowE w' A l := h.below hb (Nat.le_refl _)
theorem RowE.alloc (h : RowE w A l) (o : Obj) : RowE (w.alloc o) A l := ⟨h.1.alloc o, fun e he => (h.2 e he).alloc o⟩
theorem RowE.drew (h : RowE w A l) : RowE w.drew A l := h
theorem RowE.take (h : RowE w A l) (k : Nat) : RowE w A (l.take k) := ⟨by unfold evs; rw [fm_take ev_len]; exact h.1.take _, fun e he => h.2 e (List.mem_of_mem_take he)⟩
theorem RowE.get (h : RowE w A l) (hn : 0 < l.length) :
    ∃ b off, A = some ⟨b, off, none⟩ ∧ b < w.heap.size ∧ ∀ k (hk : k < l.length), w.cell? ⟨b, off + k * 3, none⟩ = some (.int .i64 l[k].p) ∧ w.cell? ⟨b, off + k * 3 + 1, none⟩ = some (.int .i64 l[k].r) ∧
      w.cell? ⟨b, off + k * 3 + 2, none⟩ = some (.slice l[k].A l[k].ls.length l[k].c) := by
  obtain ⟨b, off, h1, h2, h3⟩ := row_cells (V := ev) ev_len (by decide) h.1 hn
  exact ⟨b, off, h1, h2, fun k hk => ⟨h3 k hk 0 _ (by decide) rfl, h3 k hk 1 _ (by decide) rfl, h3 k hk 2 _ (by decide) rfl⟩⟩
end
theorem Try.infoPst : (Try.prog.info? 34).map (fun i => (i.zero, i.size, i.bytes)) = some (some (.agg #[.int .i64 0, .int .i64 0, .int .i64 0, .int .i64 0, .int .i64 0, .int .i64 0, .int .i64 0]), 7, 56) := by kernel_rfl
theorem Try.infoPst24 : (Try.prog.info? 35).map (fun i => (i.zero, i.size, i.bytes)) = some (some (.agg #[.int .i64 0, .int .i64 0, .int .i64 0, .int .i64 0, .int .i64 0, .int .i64 0, .int .i64 0]), 7, 56) := by kernel_rfl
theorem Try.infoLine : (Try.prog.info? 32).map (fun i => (i.zero, i.size, i.bytes)) = some (some (.agg #[.int .i64 0, .int .i64 0, .int .i64 0, .int .i64 0]), 4, 32) := by kernel_rfl
theorem Try.infoEntry : (Try.prog.info? 49).map (fun i => (i.zero, i.size, i.bytes)) = some (some (.agg #[.int .i64 0, .int .i64 0, .slice none 0 0]), 3, 40) := by kernel_rfl

/-- What a round keeps: all below n₀, and the boxes of entries. -/
structure Kj (n₀ : Nat) (w w' : World) : Prop where
  low : Below n₀ w w'
  box : ∀ b cs, Box w b 49 cs → Box w' b 49 cs
theorem Kj.refl (n₀ : Nat) (w : World) : Kj n₀ w w := ⟨Below.refl _ _, fun _ _ h => h⟩
theorem Kj.trans {n₀ : Nat} {A B C : World} (h : Kj n₀ A B) (k : Kj n₀ B C) : Kj n₀ A C := ⟨h.low.trans k.low, fun b cs hb => k.box b cs (h.box b cs hb)⟩
theorem Kj.alloc {n₀ : Nat} {A B : World} (h : Kj n₀ A B) (hn : n₀ ≤ B.heap.size) (o : Obj) : Kj n₀ A (B.alloc o) := ⟨h.low.alloc hn o, fun b cs hb => (h.box b cs hb).alloc o⟩
theorem Kj.put {n₀ : Nat} {w : World} (hn : n₀ ≤ w.heap.size) (W : World) (l : Nat) (o o' : Obj) (hl : w.heap.size ≤ l) (h : W.heap[l]? = some o) (hc : o.isCells = false) (hw : o.isWalk = false) : Kj n₀ W (W.putObj l o') :=
  ⟨belowK_b hn W l o o' hl h hc hw, fun b cs hb => (World.putObj_heap_other (fun e => by subst e; rw [show W.heap[b]? = _ from hb] at h; cases h; cases hc)).trans hb⟩
theorem box_own {β : Type} (B : Nat) (t : TypeId) (f : β → Array Value) : Own (fun s W => Box W B t (f s)) := fun s X Y row hs hg hrow =>
  hs.grown hg (fun e' => by obtain ⟨o, ho, hc⟩ := hrow B e'.symm; rw [show X.heap[B]? = _ from hs] at ho; cases ho; cases hc)
theorem row_own {β : Type} (n₀ : Nat) (e : TypeId) (size : Nat) (v : β → Value) (k : β → Nat) (f : β → List Value) : Own (fun s W => W.ownsRow n₀ e size (v s) (k s) (f s)) := fun s X Y row hs hg hrow =>
  hs.kept hg (by
    rcases hs.2 with ⟨h1, _⟩ | ⟨g, cap, cur, h1, hb, hg', _⟩
    · rw [h1]; exact .inl rfl
    · refine .inr fun e' => ?_
      rw [h1] at e'
      obtain ⟨o, ho, hc⟩ := hrow g (by simpa [Value.ownBlock] using e'.symm)
      rw [hg'] at ho; cases ho; cases hc)
end Go.Proofs.Ythkaohjgldoipaa
