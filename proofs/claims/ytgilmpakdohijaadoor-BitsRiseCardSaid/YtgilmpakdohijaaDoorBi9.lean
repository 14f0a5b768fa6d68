/-
  bits: Keep.
-/
import Derived.Test.YtgilmpakdohijaaDoorBi8
namespace Go.Proofs.YtgilmpakdohijaaDoor
open Go.RowKit Go.Shelf
attribute [local go_sem] Oper.semAt_some

theorem SetB.apart {W W2 : World} {base baset gs gt c ct : Nat} {A At : Option Addr} {ws wt : List Nat} (hC : Chg W W2 gs (oB A)) (hS : SetB W base gs A c ws) (hT : SetB W baset gt At ct wt) (hne : gs ≠ gt) (hrow : ∀ b, oB At = some b → oB A ≠ some b) : SetB W2 baset gt At ct wt := by
  refine ⟨hC.box hS hT.box hne.symm (by decide), ⟨hT.own.1, ?_⟩, hT.wf⟩
  rcases hT.own.2 with hn | ⟨g2, cap, cur, h1, hb, hgg, rest⟩
  · exact .inl hn
  · refine .inr ⟨g2, cap, cur, h1, hb, ?_, rest⟩
    have h2 : oB At = some g2 := by injection h1 with h1 _ _; rw [h1]; rfl
    rw [hC.block g2 (Array.getElem?_eq_some_iff.1 hgg).1 (fun e => by subst e; rw [show W.heap[g2]? = _ from hS.box] at hgg; cases hgg) (fun e => hrow g2 h2 e.symm)]
    exact hgg
def keepF (T : List Int) (s : List Int × Nat) : List Int → List Int × Nat
  | [] => s
  | x :: r => keepF T (if x ∈ T then s else (s.1.filter fun y => !decide (y = x), s.2 + 1)) r
theorem keepF_snoc (T : List Int) : ∀ (l : List Int) (s : List Int × Nat) (x : Int), keepF T s (l ++ [x]) = (if x ∈ T then keepF T s l else ((keepF T s l).1.filter fun y => !decide (y = x), (keepF T s l).2 + 1))
  | [], _, _ => rfl
  | y :: r, s, x => by rw [List.cons_append, keepF, keepF, keepF_snoc T r]
theorem keepF_le (T : List Int) : ∀ (l : List Int) (s : List Int × Nat), (keepF T s l).2 ≤ s.2 + l.length
  | [], _ => Nat.le_refl _
  | x :: r, s => by
    rw [keepF, List.length_cons]
    have := keepF_le T r (if x ∈ T then s else (s.1.filter fun y => !decide (y = x), s.2 + 1))
    split at this
    · rename_i h; rw [if_pos h]; omega
    · rename_i h; rw [if_neg h]; simp only at this; omega
theorem dropL_all {ws : List Nat} (hws : WfW ws) (n : Int) : allW (if n < 0 ∨ 65536 ≤ n then ws else if hasW ws n = true then dropW ws n.toNat else ws) = (allW ws).filter fun y => !decide (y = n) := by
  have hno : n ∉ allW ws → (allW ws).filter (fun y => !decide (y = n)) = allW ws := fun h => List.filter_eq_self.2 fun y hy => by
    rw [Bool.not_eq_true', decide_eq_false_iff_not]
    rintro rfl
    exact h hy
  have hlt : n ∈ allW ws → 0 ≤ n ∧ n.toNat / 64 < ws.length := fun h => by
    obtain ⟨h1, h2⟩ := mem_allW.1 h
    refine ⟨h1, ?_⟩
    rcases Nat.lt_or_ge (n.toNat / 64) ws.length with h3 | h3
    · exact h3
    · unfold bitW at h2
      rw [List.getD_eq_getElem?_getD, List.getElem?_eq_none h3] at h2
      simp at h2
  have hlen := hws.len
  by_cases h : n < 0 ∨ 65536 ≤ n
  · rw [if_pos h, hno fun hm => by have := hlt hm; omega]
  · rw [if_neg h]
    by_cases h2 : hasW ws n = true
    · have h3 := hlt (hasW_iff.1 h2)
      rw [if_pos h2, allW_drop h3.2, show ((n.toNat : Nat) : Int) = n by omega]
    · rw [if_neg h2, hno fun hm => h2 (hasW_iff.2 hm)]
section
variable {A At : Option Addr} {base baset gs gt c ct : Nat} {ws wt : List Nat}
set_option maxRecDepth 100000 in
set_option maxHeartbeats 2000000 in
theorem bkeep_in (n : Nat) (hn : 6 ≤ n) (w : World) (T : Tb w) (hb1 : 1 ≤ base) (hS : SetB w base gs A c ws) (hT : SetB w baset gt At ct wt) (hne : gs ≠ gt) (hrow : ∀ b, oB At = some b → oB A ≠ some b) :
    CallsIn Fence.wide n Tryd.prog 10 #[.pointer (some ⟨gs, 0, none⟩), .pointer (some ⟨gt, 0, none⟩)] w fun e W => ∃ ws', e = .returned (.int .i64 ((keepF (allW wt) (allW ws, 0) (allW ws)).2 : Int)) ∧ SetB W base gs A c ws' ∧ allW ws' = (keepF (allW wt) (allW ws, 0) (allW ws)).1 ∧ Chg w W gs (oB A) := by
  have h1 : 1 ≤ n := by omega
  have EA := Lib.hid fun (p : Option Addr) (w : World) => (callsIn_wide (n := n - 1)).2 (beach_any p w)
  refine callsIn_of_wp_marks Tryd.func10 rfl trivial ?_ rfl
  simp only [Tryd.ntmps10, List.size_toArray, List.length_cons, List.length_nil, Nat.reduceAdd, Nat.reduceSub, Array.replicate_succ, Array.replicate_zero, List.push_toArray, List.append_toArray, List.nil_append, List.cons_append]
  gi_wp2
  refine ⟨trivial, (EA.out _ _).mono ?_⟩
  rintro e w' ⟨rfl, rfl⟩
  gi_wp2
  have hg0 := T.ne hS
  have lS := hS.box.lt
  have b2 : Box ((((w.alloc (.cells #[.pointer (some ⟨gs, 0, none⟩)] 23)).alloc (.cells #[.pointer (some ⟨gt, 0, none⟩)] 23)).alloc (.cells #[.int .i64 0] 3)).alloc (.cells #[.pointer (some ⟨gs, 0, none⟩)] 23)) w.heap.size 23 #[.pointer (some ⟨gs, 0, none⟩)] := (((Box.new w _ _).alloc _).alloc _).alloc _
  have b3 : Box ((((w.alloc (.cells #[.pointer (some ⟨gs, 0, none⟩)] 23)).alloc (.cells #[.pointer (some ⟨gt, 0, none⟩)] 23)).alloc (.cells #[.int .i64 0] 3)).alloc (.cells #[.pointer (some ⟨gs, 0, none⟩)] 23)) (w.heap.size + 1) 23 #[.pointer (some ⟨gt, 0, none⟩)] := ((Box.new' (w := w.alloc (.cells #[.pointer (some ⟨gs, 0, none⟩)] 23)) (by simp)).alloc _).alloc _
  have b5 : Box ((((w.alloc (.cells #[.pointer (some ⟨gs, 0, none⟩)] 23)).alloc (.cells #[.pointer (some ⟨gt, 0, none⟩)] 23)).alloc (.cells #[.int .i64 0] 3)).alloc (.cells #[.pointer (some ⟨gs, 0, none⟩)] 23)) (w.heap.size + 1 + 1) 3 #[.int .i64 0] := (Box.new' (w := (w.alloc (.cells #[.pointer (some ⟨gs, 0, none⟩)] 23)).alloc (.cells #[.pointer (some ⟨gt, 0, none⟩)] 23)) (by simp)).alloc _
  have bl : Box ((((w.alloc (.cells #[.pointer (some ⟨gs, 0, none⟩)] 23)).alloc (.cells #[.pointer (some ⟨gt, 0, none⟩)] 23)).alloc (.cells #[.int .i64 0] 3)).alloc (.cells #[.pointer (some ⟨gs, 0, none⟩)] 23)) (w.heap.size + 1 + 1 + 1) 23 #[.pointer (some ⟨gs, 0, none⟩)] := Box.new' (by simp)
  have hB : Below w.heap.size w ((((w.alloc (.cells #[.pointer (some ⟨gs, 0, none⟩)] 23)).alloc (.cells #[.pointer (some ⟨gt, 0, none⟩)] 23)).alloc (.cells #[.int .i64 0] 3)).alloc (.cells #[.pointer (some ⟨gs, 0, none⟩)] 23)) := ((((Below.refl _ w).alloc (Nat.le_refl _) _).alloc (by simp) _).alloc (by simp; omega) _).alloc (by simp; omega) _
  have hsz : ((((w.alloc (.cells #[.pointer (some ⟨gs, 0, none⟩)] 23)).alloc (.cells #[.pointer (some ⟨gt, 0, none⟩)] 23)).alloc (.cells #[.int .i64 0] 3)).alloc (.cells #[.pointer (some ⟨gs, 0, none⟩)] 23)).heap.size = w.heap.size + 4 := by simp
  obtain ⟨W0, hW0⟩ : ∃ W0, ((((w.alloc (.cells #[.pointer (some ⟨gs, 0, none⟩)] 23)).alloc (.cells #[.pointer (some ⟨gt, 0, none⟩)] 23)).alloc (.cells #[.int .i64 0] 3)).alloc (.cells #[.pointer (some ⟨gs, 0, none⟩)] 23)) = W0 := ⟨_, rfl⟩
  rw [hW0] at b2 b3 b5 bl hB hsz ⊢
  clear hW0
  have hS0 := hS.later hB
  have hT0 := hT.later hB
  have hC0 : Chg w W0 gs (oB A) := ⟨hB.os, hB.tape, hB.output, hB.size, fun b hb _ _ => hB.block b hb⟩
  have ES := beach_stops (base := base) (c := c) (A := A) (ws := ws) (n - 1) (by omega) (w.heap.size + 1 + 1 + 1) [w.heap.size + 1 + 1, gs] gs W0 (T.later hB) (fun b hb => by
    simp at hb
    rcases hb with rfl | rfl
    · exact ⟨by omega, by omega⟩
    · exact ⟨by omega, hg0⟩) (by simp) (fun b hb => by
    rw [hS0.rowC] at hb
    have := hS0.row_lt hb
    exact ⟨this.2, by omega⟩) bl hS0
  refine wpIn_rangeFunc_ownH rfl h1 (gf := 32) (lb := #[.pointer (some ⟨w.heap.size + 1 + 1 + 1, 0, none⟩)]) (by simp [go_sem]) trivial (enters_of Tryd.func32 (by kernel_rfl) rfl)
    ES Kb.trans (Kb.put (by omega)) (Below.refl _ _) (fun _ => rfl)
    (fun pre W => (∃ ws', SetB W base gs A c ws' ∧ allW ws' = (keepF (allW wt) (allW ws, 0) pre).1 ∧ Chg w W gs (oB A) ∧ SetB W baset gt At ct wt) ∧ Box W w.heap.size 23 #[.pointer (some ⟨gs, 0, none⟩)] ∧ Box W (w.heap.size + 1) 23 #[.pointer (some ⟨gt, 0, none⟩)] ∧ Box W (w.heap.size + 1 + 1) 3 #[.int .i64 ((keepF (allW wt) (allW ws, 0) pre).2 : Int)])
    (fun _ _ _ => False)
    (fun pre X Y row hs hg hr => by
      obtain ⟨⟨ws', h2, h3, h4, h5⟩, h6, h7, h8⟩ := hs
      have hr' : ∀ r, row = some r → ∃ o : Obj, X.heap[r]? = some o ∧ o.isCells = false := fun r e => (hr r e).2
      have hbx : ∀ {b t cs}, Box X b t cs → Box Y b t cs := fun {b t cs} hb => hb.grown hg (fun e' => by obtain ⟨o, ho, hc⟩ := hr' b e'.symm; rw [show X.heap[b]? = _ from hb] at ho; cases ho; cases hc)
      exact ⟨⟨ws', h2.own' hg hr', h3, h4.from (B := W0.heap.size) (by omega) hg (fun r e => (hr r e).1), h5.own' hg hr'⟩, hbx h6, hbx h7, hbx h8⟩)
    (fun _ _ _ _ _ hs _ _ => hs)
    ⟨⟨ws, hS0, rfl, hC0, hT0⟩, b2, b3, b5⟩
    (fun x a' W => a' = { tmps := #[.pointer (some ⟨gs, 0, none⟩), .pointer (some ⟨gt, 0, none⟩), .pointer (some ⟨w.heap.size, 0, none⟩), .pointer (some ⟨w.heap.size + 1, 0, none⟩), .int .i64 0, .pointer (some ⟨w.heap.size + 1 + 1, 0, none⟩), .int .i64 x, .pointer (some ⟨gs, 0, none⟩), .func (.func 32) #[] #[.pointer (some ⟨w.heap.size + 1 + 1 + 1, 0, none⟩)], .int .i64 x, undef, undef, undef, undef, undef, undef, undef, undef, undef, undef], defers := [] })
    (fun x a' _ X Y row hs hg hr => hs)
    ?assign ?body ?done ?stop
  case assign =>
    rintro lp pre x W K hI hK
    gi_wp2
    exact hK _ _ (KeepsFrom.refl _ _) (Kb.refl _ _ _) hI rfl
  case body =>
    rintro lp pre x a' W hl ⟨r, hr⟩ ⟨⟨ws', hS', hall, hC, hT'⟩, b2, b3, b5⟩ rfl hlt
    have hn2 : 1 ≤ n - 1 - 1 := by omega
    have hszW := hC.size
    have HS := Lib.hid ((callsIn_wide (n := n - 1 - 1 - 1)).2 (bhas_any x hT'))
    have DR := Lib.hid ((callsIn_wide (n := n - 1 - 1 - 1)).2 (bdrop_any x hS'))
    have k2 := b2.cells
    have l2 := b2.lt
    have k3 := b3.cells
    have l3 := b3.lt
    have hcnt := keepF_le (allW wt) pre (allW ws, 0)
    have hsn := Lib.hid (keepF_snoc (allW wt) pre (allW ws, 0) x)
    rw [← hall] at hsn
    gi_wp2
    refine ⟨trivial, (CallsIn.inRound lp HS.out).mono ?_⟩
    rintro e _ ⟨rfl, rfl⟩
    cases hh : hasW wt x
    · have hnm : ¬ x ∈ allW wt := fun hm => by rw [hasW_iff.2 hm] at hh; cases hh
      rw [if_neg hnm] at hsn
      gi_wp2
      refine ⟨trivial, (CallsIn.inRound lp DR.out).mono ?_⟩
      rintro e W2 ⟨he, hS2, hC2⟩
      obtain ⟨k9, hk9⟩ : ∃ k9 : Int, e = .returned (.int .i64 k9) := ⟨_, he⟩
      subst hk9
      clear he
      have hall2 := dropL_all hS'.wf x
      generalize (if x < 0 ∨ 65536 ≤ x then ws' else if hasW ws' x = true then dropW ws' x.toNat else ws') = ws2 at hS2 hall2
      have c2' := hC2.box hS' b2 (by omega) (by decide)
      have c3' := hC2.box hS' b3 (by omega) (by decide)
      have c5 := hC2.box hS' b5 (by omega) (by decide)
      have hT2 := SetB.apart hC2 hS' hT' hne hrow
      have lT := hT.box.lt
      have hko := hC2.others hS'
      have hkb : Kb [w.heap.size + 1 + 1, gs] gs W W2 := hC2.kb (.inl rfl) hS' hS2 (by simp)
      have hC3 := hC.trans (.inl rfl) hC2
      have k5 := c5.cells
      have f5 := c5.free
      have l5 := c5.lt
      rw [← hall2] at hsn
      clear DR HS hC2 hC k2 l2 k3 l3 b2 b3 b5
      generalize hq : (keepF (allW wt) (allW ws, 0) pre).2 = q at *
      gi_wp2
      exact ⟨(hko.trans (KeepsOthers.setCell _ _ _)).from _, hkb.trans (kb_set (by simp) (by omega) _),
        ⟨⟨ws2, hS2.far c5 (by omega) (by decide) _, by rw [hsn.out], hC3.from (Nat.le_refl _) (grownBy_setCell' W2 (w.heap.size + 1 + 1) _) (fun r e => by cases e; omega), hT2.far c5 (by omega) (by decide) _⟩, c2'.far' (by omega) _, c3'.far' (by omega) _, by rw [hsn.out]; exact c5.set 0 _⟩⟩
    · rw [if_pos (hasW_iff.1 hh)] at hsn
      clear DR HS
      gi_wp2
      exact ⟨KeepsFrom.refl _ _, Kb.refl _ _ _, ⟨⟨ws', hS', by rw [hsn.out]; exact hall, hC, hT'⟩, b2, b3, by rw [hsn.out]; exact b5⟩⟩
  case done =>
    rintro D ys W hD rfl ⟨⟨ws', hS', hall, hC, hT'⟩, b2, b3, b5⟩ hK
    have k5 := b5.cells
    have l5 := b5.lt
    gi_wp2
    refine ⟨by simp, .inl ⟨_, _, rfl, run_takeDeferred hK, ?_⟩⟩
    exact ⟨_, results_tmp rfl _ _ _, ws', rfl, hS'.own' (grownBy_putObj' W D _) (fun r e => by cases e; exact ⟨_, hK, rfl⟩), hall, hC.from (B := W0.heap.size) (by omega) (grownBy_putObj' W D _) (fun r e => by cases e; exact hD)⟩
  case stop =>
    rintro D cd pre W _ _ h _
    exact h.elim
end
end Go.Proofs.YtgilmpakdohijaaDoor
