/-
  bits: Clone of words, Each.
-/
import Derived.Test.YtgilmpakdohijaaDoorBi4
import Derived.RangeFuncKeeps
import Derived.RangeFuncBox
namespace Go.Proofs.YtgilmpakdohijaaDoor
open Go.RowKit

/-- Words in a row of the call's own, as a result. -/
def NewW (ws : List Nat) (w : World) (e : Ending) (w' : World) : Prop :=
  ∃ A c, e = .returned (.slice A ws.length c) ∧ w'.ownsRow w.heap.size 52 1 (.slice A ws.length c) ws.length (wv ws) ∧ Below w.heap.size w w'
set_option maxHeartbeats 1000000 in
theorem bclone_any {w : World} {base c : Nat} {A : Option Addr} {ws : List Nat} (hlen : ws.length ≤ 1024) (own : w.ownsRow base 52 1 (.slice A ws.length c) ws.length (wv ws)) : Calls Tryd.prog 33 #[.slice A ws.length c] w (NewW ws w) := by
  obtain ⟨i0, hi, hz0, hz1, hz2⟩ := info_parts Tryd.infoU64
  have hr : RowAt w A (wv ws) := RowAt.of_own own
  rcases A with _ | a
  · obtain rfl : ws = [] := by
      rcases Nat.eq_zero_or_pos ws.length with h | h
      · exact List.eq_nil_of_length_eq_zero h
      · obtain ⟨b, off, h, _⟩ := hr (by rw [wv_len]; exact h)
        cases h
    have hE := fun (w : World) (n c : Nat) => Lib.run_eql_slice_nil (P := Tryd.prog) w 49 52 none n c 0 0 Tryd.underlying49
    rw [Option.isNone_none] at hE
    go_enter Tryd.func33, Tryd.ntmps33
    go_wp2
    go_ret
    exact ⟨none, 0, rfl, World.ownsRow_nil _ _ _ _, Below.refl _ _⟩
  · have hE := fun (w : World) (n c : Nat) => Lib.run_eql_slice_nil (P := Tryd.prog) w 49 52 (some a) n c 0 0 Tryd.underlying49
    rw [Option.isNone_some] at hE
    go_enter Tryd.func33, Tryd.ntmps33
    go_wp2_with (at_builtin; refine wpList_append_row rfl _ _ 49 rfl w.heap.size 52 i0 (.int .u64 0) 8 Tryd.underlying49 hi hz0 hz1 hz2 rfl _ 0 [] rfl (own_empty (Nat.le_refl _) rfl) (some a) _ _ (wv ws) rfl (wv_len ws) (hr.alloc _) (wv_one ws) (by unfold maxLen; omega) (by omega) (by simp) ?_)
    intro A7 c7 w7 hown7 hr7 hs7 hg7
    have B7 : Below w.heap.size w w7 := ((Below.refl _ _).alloc (Nat.le_refl _) _).grown hr7 (by simp) (by simp [Value.ownBlock])
    clear hr7 hg7
    go_wp2
    go_ret
    exact ⟨A7, c7, rfl, hown7, B7⟩
set_option maxHeartbeats 1000000 in
theorem beach_any (p : Option Addr) (w : World) : Calls Tryd.prog 23 #[.pointer p] w fun e w' => e = .returned (.func (.func 32) #[] #[.pointer (some ⟨w.heap.size, 0, none⟩)]) ∧ w' = w.alloc (.cells #[.pointer p] 23) := by
  go_enter Tryd.func23, Tryd.ntmps23
  go_wp2
  go_ret
  exact ⟨rfl, rfl⟩
/-- Where the row of the slice in a box lies. -/
def rowC (w : World) (g : Nat) : Option Nat := match w.cell? ⟨g, 0, none⟩ with
  | some v => v.ownBlock
  | none => none
/-- What a round may change: some boxes, and the row of one. -/
structure Kb (bs : List Nat) (g : Nat) (W W' : World) : Prop where
  size : W.heap.size ≤ W'.heap.size
  block : ∀ b o, W.heap[b]? = some o → o.isCells = true → b ∉ bs → some b ≠ rowC W g → W'.heap[b]? = W.heap[b]?
  moved : Moved W (rowC W g) (rowC W' g)
/-- A block that no round changes. -/
def Un (bs : List Nat) (g : Nat) (W : World) (b : Nat) : Prop := (∃ o, W.heap[b]? = some o ∧ o.isCells = true) ∧ b ∉ bs ∧ some b ≠ rowC W g
theorem Kb.un {bs : List Nat} {g b : Nat} {W W' : World} (h : Kb bs g W W') (u : Un bs g W b) : W'.heap[b]? = W.heap[b]? ∧ Un bs g W' b := by
  obtain ⟨⟨o, hb, ho⟩, u1, u2⟩ := u
  have hlt := (Array.getElem?_eq_some_iff.1 hb).1
  have e := h.block b o hb ho u1 u2
  refine ⟨e, ⟨o, e.trans hb, ho⟩, u1, ?_⟩
  rcases h.moved with h1 | ⟨b', h1, h2⟩
  · rw [h1]; exact u2
  · rw [h1]; intro he; injection he with he; omega
theorem Kb.refl (bs : List Nat) (g : Nat) (W : World) : Kb bs g W W := ⟨Nat.le_refl _, fun _ _ _ _ _ _ => rfl, .inl rfl⟩
theorem Kb.trans {bs : List Nat} {g : Nat} {A B C : World} (h : Kb bs g A B) (k : Kb bs g B C) : Kb bs g A C :=
  ⟨Nat.le_trans h.size k.size, fun b o hb ho h1 h2 => by
    have u := h.un ⟨⟨o, hb, ho⟩, h1, h2⟩
    obtain ⟨⟨o', hb', ho'⟩, u1, u2⟩ := u.2
    exact (k.block b o' hb' ho' u1 u2).trans u.1, h.moved.trans h.size k.moved⟩
theorem Kb.of_grown {bs : List Nat} {g : Nat} {W W' : World} {row : Option Nat} (h : W.grownBy W' row) (hr : ∀ r, row = some r → r ∈ bs ∨ some r = rowC W g) (hm : Moved W (rowC W g) (rowC W' g)) : Kb bs g W W' :=
  ⟨h.size, fun b o hb _ h1 h2 => h.block b (Array.getElem?_eq_some_iff.1 hb).1 (fun he => by
    rcases hr b he.symm with h3 | h3
    · exact h1 h3
    · exact h2 h3), hm⟩
theorem rowC_of {w w' : World} {g : Nat} (h : w'.heap[g]? = w.heap[g]?) : rowC w' g = rowC w g := by
  unfold rowC
  rw [World.cell?_of_block (w := w) (a := ⟨g, 0, none⟩) h]
theorem Kb.put {bs : List Nat} {g : Nat} {w : World} (hg : g < w.heap.size) (W : World) (l : Nat) (o o' : Obj) (hl : w.heap.size ≤ l) (h : W.heap[l]? = some o) (hc : o.isCells = false) (_ : o.isWalk = false) : Kb bs g W (W.putObj l o') :=
  ⟨(grownBy_putObj' W l o').size, fun b o1 hb ho _ _ => World.putObj_heap_other (fun e => by subst e; rw [hb] at h; cases h; rw [ho] at hc; cases hc),
    .inl (rowC_of (World.putObj_heap_other (fun e => by omega)))⟩
theorem cells_of_cell {w : World} {b i : Nat} {v : Value} (h : w.cell? ⟨b, i, none⟩ = some v) : ∃ o, w.heap[b]? = some o ∧ o.isCells = true := by
  unfold World.cell? at h
  cases hb : w.heap[b]? with
  | none => rw [hb] at h; simp at h
  | some o =>
    rw [hb] at h
    cases o <;> first | exact ⟨_, rfl, rfl⟩ | (simp at h)
theorem rowC_below {n g : Nat} {W W' : World} (h : Below n W W') (hg : g < n) : rowC W' g = rowC W g := by
  unfold rowC
  rw [h.cell (p := ⟨g, 0, none⟩) hg]
end Go.Proofs.YtgilmpakdohijaaDoor
