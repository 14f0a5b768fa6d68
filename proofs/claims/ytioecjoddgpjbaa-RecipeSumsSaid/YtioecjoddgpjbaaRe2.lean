/-
  recipe: maps keyed by cells that the call makes: counts, values.
-/
import Derived.Test.YtioecjoddgpjbaaRe1
import Derived.Test.YtioecjoddgpjbaaMap
namespace Go.Proofs.Ytioecjoddgpjbaa
open Go.RowKit Go.WideElems Go.Maps

theorem laidOutC : laidOutB Try.prog = true := by kernel_rfl
theorem rowC27 : (27 : TypeId) < Try.prog.types.size := of_decide_eq_true (by kernel_rfl)
theorem wideC27 : (match Try.prog.underlying 27 with | some (.array _ _) | some (.struct _) => true | _ => false) = true := by kernel_rfl
set_option maxRecDepth 100000 in
theorem lawC : WideMaps.KeyLaw Try.prog 27 := deep_law_laid laidOutC (m := 2) (by omega) rowC27 (by kernel_rfl) wideC27
/-- A cell whose numbers are ints. -/
def WfC (x : Cel) : Prop := ∀ z ∈ [x.r, x.e, x.a, x.p, x.c, x.q], (Lit.int .i64 z).wf = true
theorem keyC {x : Cel} (h : WfC x) : ∃ kl, keyOf Try.prog 27 (cv x) = some kl := by
  have hk : Try.prog.keyType 27 = true := by kernel_rfl
  have hc : Try.prog.cellsOf 27 = 6 := by kernel_rfl
  have hi : Try.prog.cellsOf 3 = 1 := by kernel_rfl
  have hf : (cv x).formed Try.prog 27 = true := by simp [Value.formed, cv, Try.underlying27, hc]
  obtain ⟨n, hn⟩ : ∃ n, Try.prog.types.size + 1 = n + 1 + 1 := ⟨Try.prog.types.size - 1, by have := Nat.lt_of_le_of_lt (Nat.zero_le _) rowC27; omega⟩
  have h1 := h x.r (by simp)
  have h2 := h x.e (by simp)
  have h3 := h x.a (by simp)
  have h4 := h x.p (by simp)
  have h5 := h x.c (by simp)
  have h6 := h x.q (by simp)
  unfold keyOf
  rw [Try.underlying27]
  simp only [hk, hf, Bool.and_self, if_true, hn]
  simp [Program.keyLits, cv, Value.cells, Try.underlying27, Try.underlying3, hc, hi, h1, h2, h3, h4, h5, h6]
theorem cv_inj {x y : Cel} (h : cv x = cv y) : x = y := by
  obtain ⟨a1, a2, a3, a4, a5, a6⟩ := x
  obtain ⟨b1, b2, b3, b4, b5, b6⟩ := y
  unfold cv at h
  simpa using h
theorem lawK : Keyed Try.prog 27 := Keyed.of_law lawC
theorem zeroI (w : World) : (zeroValue 3).run Try.prog w = .ok (.int .i64 0) w := by kernel_rfl
theorem zeroV (w : World) : (zeroValue 24).run Try.prog w = .ok (.agg #[.int .i64 0, .int .i64 0]) w := by kernel_rfl
/-- How often each cell was counted. -/
def CntM (w : World) (b : Nat) (L : List Cel) : Prop := ∃ n f, MapF Try.prog 27 w b n f ∧ ∀ x, f (cv x) = if x ∈ L then some (.int .i64 (L.count x : Nat)) else none
theorem cnt_getD (x : Cel) (L : List Cel) : (if x ∈ L then some (Value.int .i64 (L.count x : Nat)) else none).getD (.int .i64 0) = .int .i64 (L.count x : Nat) := by
  by_cases h : x ∈ L
  · rw [if_pos h]; rfl
  · rw [if_neg h, List.count_eq_zero.2 h]; rfl
section
variable {w w' : World} {b : Nat} {L : List Cel}
theorem CntM.made (w : World) : CntM (w.alloc (.map #[] 0)) w.heap.size [] := ⟨0, _, MapF.made _ _ w, fun x => by simp⟩
theorem CntM.look (h : CntM w b L) {x : Cel} (hx : WfC x) : (Instr.lookup 61 (.map (some b)) (cv x) false).run Try.prog w = .ok (.int .i64 (L.count x : Nat)) w := by
  obtain ⟨n, f, hM, hf⟩ := h
  obtain ⟨kl, hk⟩ := keyC hx
  have := hM.look lawK Try.underlying61 (zeroI w) hk
  rw [hf x, cnt_getD] at this
  exact this
theorem CntM.at (h : CntM w b L) (he : w'.heap[b]? = w.heap[b]?) : CntM w' b L := by
  obtain ⟨n, f, hM, hf⟩ := h
  exact ⟨n, f, hM.at he, hf⟩
theorem CntM.alloc (h : CntM w b L) (o : Obj) : CntM (w.alloc o) b L := by
  obtain ⟨n, f, hM, hf⟩ := h
  exact ⟨n, f, hM.alloc o, hf⟩
theorem CntM.drew (h : CntM w b L) : CntM w.drew b L := h
theorem CntM.later (h : CntM w b L) (hb : Below w.heap.size w w') : CntM w' b L := by
  obtain ⟨n, f, hM, hf⟩ := h
  exact ⟨n, f, hM.later hb, hf⟩
theorem CntM.lt (h : CntM w b L) : b < w.heap.size := by
  obtain ⟨n, f, hM, hf⟩ := h
  exact hM.lt
theorem CntM.box {g : Nat} {ty : TypeId} {cs : Array Value} (h : CntM w b L) (hg : Box w g ty cs) : b ≠ g := by
  obtain ⟨n, f, hM, hf⟩ := h
  exact hM.box hg
theorem CntM.own {base e size m : Nat} {v : Value} {xs : List Value} (h : CntM w b L) (ho : w.ownsRow base e size v m xs) : some b ≠ v.ownBlock := by
  obtain ⟨n, f, hM, hf⟩ := h
  exact hM.own ho
/-- 'm[x]++'. -/
theorem CntM.plus (h : CntM w b L) {x : Cel} (hx : WfC x) : ∃ (v0 : Value) (st : Nat) (w1 w2 : World), (Instr.mapEntry 61 (.map (some b)) (cv x)).run Try.prog w = .ok (.tuple #[v0, goInt st]) w1 ∧ w.grownBy w1 (some b) ∧
    (Instr.lookup 61 (.map (some b)) (cv x) false).run Try.prog w1 = .ok (.int .i64 (L.count x : Nat)) w1 ∧ (Instr.entryStore 61 (.map (some b)) (goInt st) (.int .i64 ((L.count x : Nat) + 1))).run Try.prog w1 = .ok () w2 ∧ CntM w2 b (L ++ [x]) ∧ w1.grownBy w2 (some b) := by
  obtain ⟨n, f, hM, hf⟩ := h
  obtain ⟨kl, hk⟩ := keyC hx
  obtain ⟨f', g1, g2⟩ : ∃ f' : Value → Option Value, f' (cv x) = some (.int .i64 ((L.count x : Nat) + 1)) ∧ ∀ y, y ≠ cv x → f' y = f y := by
    classical
    exact ⟨fun y => if y = cv x then some (.int .i64 ((L.count x : Nat) + 1)) else f y, by simp, fun y hy => by simp [hy]⟩
  obtain ⟨v0, st, w1, w2, r1, r2, r3, r4, r5, r6⟩ := hM.entry lawK Try.underlying61 zeroI hk g1 g2
  rw [hf x, cnt_getD] at r3
  refine ⟨v0, st, w1, w2, r1, r2, r3, r4, ⟨n + 1, f', r5, fun y => ?_⟩, r6⟩
  by_cases hy : y = x
  · subst hy
    rw [g1, if_pos (by simp), List.count_append]
    simp
  · rw [g2 _ (fun e => hy (cv_inj e)), hf y, List.count_append]
    by_cases hm : y ∈ L
    · rw [if_pos hm, if_pos (by simp [hm])]
      simp [Ne.symm hy]
    · rw [if_neg hm, if_neg (by simp [hm, hy])]
end
/-- The values of cells, as a map. -/
def ValM (w : World) (b : Nat) (l : List Cel) (i : List Vl) : Prop := ∃ n f, MapF Try.prog 27 w b n f ∧ ∀ x, f (cv x) = if x ∈ l then some (vv (ofV l i x)) else none
section
variable {w w' : World} {b : Nat} {l : List Cel} {i : List Vl}
theorem ValM.made (w : World) : ValM (w.alloc (.map #[] 0)) w.heap.size [] [] := ⟨0, _, MapF.made _ _ w, fun x => by simp⟩
theorem ValM.look (h : ValM w b l i) {x : Cel} (hx : WfC x) : (Instr.lookup 62 (.map (some b)) (cv x) false).run Try.prog w = .ok (vv (ofV l i x)) w := by
  obtain ⟨n, f, hM, hf⟩ := h
  obtain ⟨kl, hk⟩ := keyC hx
  have := hM.look lawK Try.underlying62 (zeroV w) hk
  rw [this, hf x]
  by_cases hm : x ∈ l
  · rw [if_pos hm]; rfl
  · rw [if_neg hm, ofV_none hm]; rfl
theorem ValM.at (h : ValM w b l i) (he : w'.heap[b]? = w.heap[b]?) : ValM w' b l i := by
  obtain ⟨n, f, hM, hf⟩ := h
  exact ⟨n, f, hM.at he, hf⟩
theorem ValM.alloc (h : ValM w b l i) (o : Obj) : ValM (w.alloc o) b l i := by
  obtain ⟨n, f, hM, hf⟩ := h
  exact ⟨n, f, hM.alloc o, hf⟩
theorem ValM.lt (h : ValM w b l i) : b < w.heap.size := by
  obtain ⟨n, f, hM, hf⟩ := h
  exact hM.lt
theorem ValM.box {g : Nat} {ty : TypeId} {cs : Array Value} (h : ValM w b l i) (hg : Box w g ty cs) : b ≠ g := by
  obtain ⟨n, f, hM, hf⟩ := h
  exact hM.box hg
theorem ValM.later (h : ValM w b l i) (hb : Below w.heap.size w w') : ValM w' b l i := h.at (hb.block b h.lt)
theorem ValM.drew (h : ValM w b l i) : ValM w.drew b l i := h
theorem ValM.own {base e size m : Nat} {v : Value} {xs : List Value} (h : ValM w b l i) (ho : w.ownsRow base e size v m xs) : some b ≠ v.ownBlock := by
  obtain ⟨n, f, hM, hf⟩ := h
  exact hM.own ho
/-- 'm[x] = v' of a cell that was not there. -/
theorem ValM.store (h : ValM w b l i) (hl : l.length = i.length) {x : Cel} {v : Vl} (hx : WfC x) (hn : x ∉ l) : ∃ w', (Instr.mapUpdate 62 (.map (some b)) (cv x) (vv v)).run Try.prog w = .ok () w' ∧ ValM w' b (l ++ [x]) (i ++ [v]) ∧ w.grownBy w' (some b) := by
  obtain ⟨n, f, hM, hf⟩ := h
  obtain ⟨kl, hk⟩ := keyC hx
  obtain ⟨f', g1, g2⟩ : ∃ f' : Value → Option Value, f' (cv x) = some (vv v) ∧ ∀ y, y ≠ cv x → f' y = f y := by
    classical
    exact ⟨fun y => if y = cv x then some (vv v) else f y, by simp, fun y hy => by simp [hy]⟩
  obtain ⟨w', r1, r2, r3⟩ := hM.store lawK Try.underlying62 hk g1 g2
  refine ⟨w', r1, ⟨n + 1, f', r2, fun y => ?_⟩, r3⟩
  rw [ofV_snoc hl]
  by_cases hy : y = x
  · subst hy
    rw [g1, if_pos (by simp), if_neg hn, if_pos rfl]
  · rw [g2 _ (fun e => hy (cv_inj e)), hf y]
    by_cases hm : y ∈ l
    · rw [if_pos hm, if_pos (by simp [hm]), if_pos hm]
    · rw [if_neg hm, if_neg (by simp [hm, hy])]
end
end Go.Proofs.Ytioecjoddgpjbaa
