/-
  bits: All.
-/
import Derived.Test.YtgilmpakdohijaaDoorBi6
import Derived.Test.YtgilmpakdohijaaDoorContains
import Derived.Maps.OwnIn
namespace Go.Proofs.YtgilmpakdohijaaDoor
open Go.RowKit Go.Shelf
attribute [local go_sem] Oper.semAt_some

theorem rowC_boxed {w : World} {B : Nat} {t : TypeId} {v : Value} (h : Boxed w B t v) : rowC w B = v.ownBlock := by
  unfold rowC
  rw [h.cell]
/-- A round that appends to the row of a box keeps the rest. -/
theorem kb_append {W w1 : World} {B : Nat} {t : TypeId} {v v' : Value} {tmp : Obj} (hv : Boxed W B t v) (hv2 : Boxed (w1.setCell ⟨B, 0, none⟩ v') B t v') (hg : (W.alloc tmp).grownBy w1 v.ownBlock) (hl : v'.ownBlock = v.ownBlock ∨ v'.ownBlock = some (W.alloc tmp).heap.size) :
    Kb [B] B W (w1.setCell ⟨B, 0, none⟩ v') := by
  refine ⟨by rw [World.size_setCell]; have := hg.size; simp at this; omega, fun b o hb _ h1 h2 => ?_, ?_⟩
  · have hlt := (Array.getElem?_eq_some_iff.1 hb).1
    rw [rowC_boxed hv] at h2
    rw [Below.heap_setCell w1 ⟨B, 0, none⟩ v' b (fun e => h1 (by rw [e]; simp)), hg.block b (by simp; omega) h2, Below.heap_alloc W tmp b hlt]
  · rw [rowC_boxed hv, rowC_boxed hv2]
    rcases hl with h | h
    · exact .inl h
    · exact .inr ⟨_, h, by simp⟩
section
variable {A : Option Addr} {base gt c : Nat} {ws : List Nat}
set_option maxRecDepth 100000 in
set_option maxHeartbeats 2000000 in
theorem ball_in (n : Nat) (hn : 6 ≤ n) (w : World) (T : Tb w) (hS : SetB w base gt A c ws) :
    CallsIn Fence.wide n Tryd.prog 8 #[.pointer (some ⟨gt, 0, none⟩)] w (NewRow (allW ws) w) := by
  have h1 : 1 ≤ n := by omega
  obtain ⟨i0, hi, hz0, hz1, hz2⟩ := info_parts Tryd.infoInt'
  have EA := Lib.hid fun (p : Option Addr) (w : World) => (callsIn_wide (n := n - 1)).2 (beach_any p w)
  refine callsIn_of_wp_marks Tryd.func8 rfl trivial ?_ rfl
  simp only [Tryd.ntmps8, List.size_toArray, List.length_cons, List.length_nil, Nat.reduceAdd, Nat.reduceSub, Array.replicate_succ, Array.replicate_zero, List.push_toArray, List.append_toArray, List.nil_append, List.cons_append]
  gi_wp2

  refine ⟨trivial, (EA.out _ _).mono ?_⟩
  rintro e w' ⟨rfl, rfl⟩
  gi_wp2

  have bO := Boxed.new w 22 (.slice none 0 0)
  have h0 : w.heap.size ≠ 0 := by have := World.block_lt_of_cell? w _ (T 0 (by decide)); omega
  have hB0 : Below w.heap.size w (w.alloc (.cells #[.slice none 0 0] 22)) := (Below.refl _ w).alloc (Nat.le_refl _) _
  have hB1 := hB0.alloc hB0.size (.cells #[.pointer (some ⟨gt, 0, none⟩)] 23)
  have bO1 := bO.alloc (.cells #[.pointer (some ⟨gt, 0, none⟩)] 23)
  have hsz1 : ((w.alloc (.cells #[.slice none 0 0] 22)).alloc (.cells #[.pointer (some ⟨gt, 0, none⟩)] 23)).heap.size = w.heap.size + 2 := by simp
  have bl : Box ((w.alloc (.cells #[.slice none 0 0] 22)).alloc (.cells #[.pointer (some ⟨gt, 0, none⟩)] 23)) (w.heap.size + 1) 23 #[.pointer (some ⟨gt, 0, none⟩)] := Box.new' (by simp)
  have ES := beach_stops (base := base) (c := c) (A := A) (ws := ws) (n - 1) (by omega) (w.heap.size + 1) [w.heap.size] w.heap.size _ (T.later hB1) (fun b hb => by simp at hb; subst hb; exact ⟨by omega, h0⟩) (by simp) (fun b hb => by rw [rowC_boxed bO1] at hb; cases hb) bl (hS.later hB1)
  refine wpIn_rangeFunc_ownH rfl h1 (gf := 32) (lb := #[.pointer (some ⟨w.heap.size + 1, 0, none⟩)]) (by simp [go_sem]) trivial (enters_of Tryd.func32 (by kernel_rfl) rfl)
    ES Kb.trans (Kb.put (by simp; omega)) (Below.refl _ _) (fun _ => rfl)
    (fun pre W => (∃ v, Boxed W w.heap.size 22 v ∧ W.ownsRow w.heap.size 3 1 v pre.length (ivals pre) ∧ True) ∧ Below w.heap.size w W)
    (fun _ _ _ => False)
    (OwnFrom.and (Own.from (holdsRow_own w.heap.size w.heap.size 22 3 1 (fun pre : List Int => pre.length) (fun pre => ivals pre) (fun _ _ => True)) _) (ownFrom_below (Nat.le_refl _) (by simp; omega)))
    (fun _ _ _ _ _ hs _ _ => hs)
    ⟨⟨_, bO1, World.ownsRow_nil _ _ _ _, trivial⟩, hB1⟩
    (fun x a' W => a' = { tmps := #[.pointer (some ⟨gt, 0, none⟩), undef, .slice none 0 0, .pointer (some ⟨w.heap.size, 0, none⟩), .int .i64 x, .pointer (some ⟨gt, 0, none⟩), .func (.func 32) #[] #[.pointer (some ⟨w.heap.size + 1, 0, none⟩)], .int .i64 x, undef, undef, undef, undef, undef], defers := [] })
    (fun x a' _ X Y row hs hg hr => hs)
    ?assign ?body ?done ?stop
  case assign =>
    rintro lp pre x W K ⟨⟨v, hv, hrow, _⟩, hB⟩ hK
    gi_wp2
    exact hK _ _ (KeepsFrom.refl _ _) (Kb.refl _ _ _) ⟨⟨v, hv, hrow, trivial⟩, hB⟩ rfl
  case body =>
    rintro lp pre x a' W hl ⟨r, hr⟩ ⟨⟨v, hv, hrow, _⟩, hB⟩ rfl hlt
    have hc := hv.cell
    have hsz := hB.size
    gi_wp2_with (gi_at_builtin; refine wpListIn_append_own_at _ rfl _ _ 22 rfl w.heap.size 3 i0 _ 1 8 Tryd.underlying22 hi hz0 hz1 hz2 rfl (by decide) _ _ _ rfl (hrow.alloc _) ⟨W.heap.size, 0, none⟩ 1 1 [.int .i64 x] rfl rfl (fun j u hj => by rw [addr_add, Nat.zero_add]; exact ((Box.new W 3 #[.int .i64 x]).cells j).trans (by simpa using hj)) (fun u hu => by simp at hu; subst hu; rfl) (by unfold maxLen; omega) (by omega) (by simp; omega) ?_; intro v' w1 hown' hgrow _ hloc; obtain ⟨g', cap', rfl⟩ := ownsRow_succ hown'; obtain ⟨hv1, hv2, hr2, hk2, hb2⟩ := hv.appended (by decide) hrow hB.size (Nat.le_refl _) hown' hgrow; have hkb := kb_append hv hv2 hgrow hloc; have hc1 := hv1.cell; have hf1 := hv1.frozen)
    exact ⟨hk2.from _, hkb, ⟨⟨_, hv2, by rw [show ivals (pre ++ [x]) = ivals pre ++ [.int .i64 x] by simp [ivals]]; simpa using hr2, trivial⟩, hB.trans hb2⟩⟩
  case done =>
    rintro D ys W hD rfl ⟨⟨v, hv, hrow, _⟩, hB⟩ hK
    obtain ⟨A', c', rfl, _⟩ := own_form hrow
    have hcap := own_cap hrow
    have hc := hv.cell
    gi_wp2
    refine ⟨by simp, .inl ⟨_, _, rfl, run_takeDeferred hK, ?_⟩⟩
    exact ⟨_, results_tmp rfl _ _ _, A', c', rfl, hcap.1, hcap.2, ownsRow_putObj hrow _ hK rfl, hB.trans (belowK_b (w := w) (Nat.le_refl _) W D _ _ (by simp at hD; omega) hK rfl rfl)⟩
  case stop =>
    rintro D cd pre W _ _ h _
    exact h.elim
end
end Go.Proofs.YtgilmpakdohijaaDoor
