/-
  journal: Lines (slices.Collect, slices.AppendSeq).
-/
import Derived.Test.YthkaohjgldoipaaJo2
namespace Go.Proofs.Ythkaohjgldoipaa
open Go.RowKit Go.Shelf
attribute [local go_sem] Oper.semAt_some

theorem kept_box {W w1 : World} {B : Nat} {n₀ : Nat} {v v' : Value} {k : Nat} {xs : List Value} {tmp : Obj} (hv : Boxed W B 25 v) (hrow : W.ownsRow n₀ 34 7 v k xs) (hg : (W.alloc tmp).grownBy w1 v.ownBlock) :
    ∀ b cs, Box W b 49 cs → Box (w1.setCell ⟨B, 0, none⟩ v') b 49 cs := by
  intro b cs hb
  have h1 : Box w1 b 49 cs := (hb.alloc tmp).grown hg (own_ne_box hrow hb (by decide))
  exact h1.far' (Box.ne hb hv (by decide)) v'
/-- Posted lines of the call's own. -/
def NewP (t : TypeId) (L : List Pst) (w : World) (e : Ending) (w' : World) : Prop :=
  ∃ A c, e = .returned (.slice A L.length c) ∧ w'.ownsRow w.heap.size t 7 (.slice A L.length c) L.length (pvs L) ∧ Below w.heap.size w w'
section
variable {A : Option Addr} {c : Nat} {l : List Ent}
set_option maxRecDepth 100000 in
set_option maxHeartbeats 2000000 in
theorem jappend_in (F : Fence) (n : Nat) (h77 : F.fn 77) (h78 : F.fn 78) (hro : F.round = none) (hn : 3 ≤ n) (Bl : Nat) (hm : (linesJ l).length ≤ 1000000) (hm' : l.length ≤ 1000000)
    (w0 w : World) (hb0 : Below w0.heap.size w0 w) (hBl : Box w Bl 22 #[.slice A l.length c]) (hr : RowE w0 A l) :
    CallsIn F n Try.prog 77 #[.slice none 0 0, .func (.func 78) #[] #[.pointer (some ⟨Bl, 0, none⟩)]] w (NewP 34 (linesJ l) w) := by
  have h1 : 1 ≤ n := by omega
  obtain ⟨i0, hi, hz0, hz1, hz2⟩ := info_parts Try.infoPst
  refine callsIn_of_wp_marks Try.func77 rfl h77 ?_ hro
  simp only [Try.ntmps77, List.size_toArray, List.length_cons, List.length_nil, Nat.reduceAdd, Nat.reduceSub, Array.replicate_succ, Array.replicate_zero, List.push_toArray, List.append_toArray, List.nil_append, List.cons_append]
  gi_wp2
  have bO := Boxed.new w 25 (.slice none 0 0)
  have hB0 : Below w.heap.size w (w.alloc (.cells #[.slice none 0 0] 25)) := (Below.refl _ w).alloc (Nat.le_refl _) _
  have hw0 := hb0.size
  refine wpIn_rangeFunc_ownH hro h1 (gf := 78) (lb := #[.pointer (some ⟨Bl, 0, none⟩)]) rfl h78 (enters_of Try.func78 (by kernel_rfl) rfl)
    (jeach_stops F (n - 1) h78 hro (by omega) Bl hm hm' w0 _ (hb0.alloc hw0 _) (hBl.alloc _) hr) Kj.trans (Kj.put (by simp; omega)) (Below.refl _ _) (fun _ => rfl)
    (fun pre W => (∃ v, Boxed W w.heap.size 25 v ∧ W.ownsRow w.heap.size 34 7 v pre.length (pvs pre) ∧ True) ∧ Below w.heap.size w W)
    (fun _ _ _ => False)
    (OwnFrom.and (Own.from (holdsRow_own w.heap.size w.heap.size 25 34 7 (fun pre : List Pst => pre.length) (fun pre => pvs pre) (fun _ _ => True)) _) (ownFrom_below (Nat.le_refl _) (by simp)))
    (fun _ _ _ _ _ hs _ _ => hs)
    ⟨⟨_, bO, World.ownsRow_nil _ _ _ _, trivial⟩, hB0⟩
    (fun x a' W => ∃ Bx, w.heap.size < Bx ∧ Box W Bx 34 (pv x).toArray ∧ a' = { tmps := #[.slice none 0 0, .func (.func 78) #[] #[.pointer (some ⟨Bl, 0, none⟩)], .pointer (some ⟨w.heap.size, 0, none⟩), undef, .slice none 0 0, .pointer (some ⟨Bx, 0, none⟩), .func (.func 78) #[] #[.pointer (some ⟨Bl, 0, none⟩)], .agg (pv x).toArray, undef, undef, undef, undef, undef], defers := [] })
    (fun x a' _ X Y row hs hg hr => by obtain ⟨Bx, h1, h2, h3⟩ := hs; exact ⟨Bx, h1, box_own Bx _ (fun (_ : Unit) => (pv x).toArray) () X Y row h2 hg (fun r e => (hr r e).2), h3⟩)
    ?assign ?body ?done ?stop
  case assign =>
    rintro lp pre x W K ⟨⟨v, hv, hrow, _⟩, hB⟩ hK
    have hsz := hB.size
    have hlt := hv.lt
    dsimp only [pv]
    gi_wp2
    exact hK _ _ ((KeepsOthers.alloc _ _).from _) ((Kj.refl _ _).alloc (by omega) _) ⟨⟨v, hv.alloc _, hrow.alloc _, trivial⟩, hB.alloc hsz _⟩ ⟨W.heap.size, hlt, Box.new W _ _, rfl⟩
  case body =>
    rintro lp pre x a' W hl ⟨r, hr⟩ ⟨⟨v, hv, hrow, _⟩, hB⟩ ⟨Bx, hBx, bX, rfl⟩ hlt
    have hc := hv.cell
    have kX := bX.cells
    have hsz := hB.size
    dsimp only [pv] at kX ⊢
    gi_wp2_with (gi_at_builtin; refine wpListIn_append_own _ rfl _ _ 25 rfl w.heap.size 34 i0 _ 7 56 Try.underlying25 hi hz0 hz1 hz2 rfl (by decide) _ _ _ rfl (hrow.alloc _) ⟨W.heap.size, 0, none⟩ 1 1 (pv x) rfl rfl (fun j u hj => by rw [addr_add, Nat.zero_add]; exact ((Box.new W 34 (pv x).toArray).cells j).trans (by rw [List.getElem?_toArray]; exact hj)) (pv_one x) (by unfold maxLen; omega) (by omega) (by simp; omega) ?_; intro v' w1 hown' hgrow _; obtain ⟨g', cap', rfl⟩ := ownsRow_succ hown'; obtain ⟨hv1, hv2, hr2, hk2, hb2⟩ := hv.appended (by decide) hrow hB.size (Nat.le_refl _) hown' hgrow; have hkb := kept_box (v' := .slice (some ⟨g', 0, none⟩) (pre.length + 1) cap') hv hrow hgrow; have hc1 := hv1.cell; have hf1 := hv1.frozen)
    exact ⟨hk2.from _, ⟨hb2.mono hw0, hkb⟩, ⟨⟨_, hv2, by rw [pvs_snoc]; simpa using hr2, trivial⟩, hB.trans hb2⟩⟩
  case done =>
    rintro D ys W hD rfl ⟨⟨v, hv, hrow, _⟩, hB⟩ hK
    obtain ⟨A', c', rfl, _⟩ := own_form hrow
    have hc := hv.cell
    gi_wp2
    refine ⟨by simp, .inl ⟨_, _, rfl, run_takeDeferred hK, ?_⟩⟩
    exact ⟨_, results_tmp rfl _ _ _, A', c', rfl, ownsRow_putObj hrow _ hK rfl, hB.trans (belowK_b (w := w) (Nat.le_refl _) W D _ _ (by simp at hD; omega) hK rfl rfl)⟩
  case stop =>
    rintro D c pre W _ _ h _
    exact h.elim
end
end Go.Proofs.Ythkaohjgldoipaa
