/-
  bits: Join.
-/
import Derived.Test.YtgilmpakdohijaaDoorBi7
namespace Go.Proofs.YtgilmpakdohijaaDoor
open Go.RowKit Go.Shelf
attribute [local go_sem] Oper.semAt_some

theorem SetB.own' {W W' : World} {base g c : Nat} {A : Option Addr} {ws : List Nat} {row : Option Nat} (h : SetB W base g A c ws) (hg : W.grownBy W' row) (hr : ∀ r, row = some r → ∃ o : Obj, W.heap[r]? = some o ∧ o.isCells = false) : SetB W' base g A c ws := by
  refine ⟨h.box.grown hg (fun e' => by obtain ⟨o, ho, hc⟩ := hr g e'.symm; rw [show W.heap[g]? = _ from h.box] at ho; cases ho; cases hc), h.own.kept hg ?_, h.wf⟩
  rcases h.own.2 with ⟨h1, _⟩ | ⟨g2, cap, cur, h1, _, hb, _⟩
  · exact .inl (by rw [h1]; rfl)
  · refine .inr fun he => ?_
    rw [h1] at he
    obtain ⟨o, ho, hc⟩ := hr g2 he.symm
    rw [hb] at ho; cases ho; cases hc
theorem Chg.from {w W : World} {g : Nat} {R : Option Nat} {B : Nat} (h : Chg w W g R) (hB : w.heap.size ≤ B) {W' : World} {row : Option Nat} (hg : W.grownBy W' row) (hr : ∀ r, row = some r → B ≤ r) : Chg w W' g R :=
  ⟨hg.os.trans h.os, hg.tape.trans h.tape, hg.output.trans h.output, Nat.le_trans h.size hg.size, fun b hb h1 h2 => (hg.block b (Nat.lt_of_lt_of_le hb h.size) (fun he => by have := hr b he.symm; omega)).trans (h.block b hb h1 h2)⟩
theorem SetB.rowC {w : World} {base g c : Nat} {A : Option Addr} {ws : List Nat} (h : SetB w base g A c ws) : Go.Proofs.YtgilmpakdohijaaDoor.rowC w g = oB A := by
  unfold Go.Proofs.YtgilmpakdohijaaDoor.rowC
  rw [h.box.cells 0]
  exact oB_eq A _ _
theorem SetB.row_lt {w : World} {base g c b : Nat} {A : Option Addr} {ws : List Nat} (h : SetB w base g A c ws) (hb : oB A = some b) : base ≤ b ∧ b < w.heap.size :=
  h.own.lt b (by rw [oB_eq]; exact hb)
theorem Tb.ne {w : World} {base g c : Nat} {A : Option Addr} {ws : List Nat} (T : Tb w) (h : SetB w base g A c ws) : g ≠ 0 := fun e => by
  subst e
  have h1 := T 0 (by decide)
  have h2 := h.box.cells 0
  rw [h1] at h2
  cases h2
theorem SetB.far {w : World} {base g c b : Nat} {A : Option Addr} {ws : List Nat} {t : TypeId} {cs : Array Value} (h : SetB w base g A c ws) (hb : Box w b t cs) (hne : g ≠ b) (ht : t ≠ 52) (v : Value) : SetB (w.setCell ⟨b, 0, none⟩ v) base g A c ws :=
  ⟨h.box.far' hne v, h.own.kept (grownBy_setCell' w b v) (.inr (own_ne_box h.own hb ht.symm).symm), h.wf⟩
section
variable {W W2 : World} {base g c c2 : Nat} {A A2 : Option Addr} {ws ws2 : List Nat}
theorem Chg.box {b : Nat} {t : TypeId} {cs : Array Value} (h : Chg W W2 g (oB A)) (hS : SetB W base g A c ws) (hb : Box W b t cs) (hne : b ≠ g) (ht : t ≠ 52) : Box W2 b t cs :=
  (h.block b hb.lt hne (by have := own_ne_box hS.own hb ht.symm; rwa [oB_eq] at this)).trans hb
theorem Chg.others (h : Chg W W2 g (oB A)) (hS : SetB W base g A c ws) : KeepsOthers W W2 := ⟨h.size, fun k o hk hc => by
  refine (h.block k (Array.getElem?_eq_some_iff.1 hk).1 (fun e => ?_) (fun e => ?_)).trans hk
  · subst e
    rw [show W.heap[k]? = _ from hS.box] at hk; cases hk; cases hc
  · rcases hS.own.2 with ⟨h1, _⟩ | ⟨g2, cap, cur, h1, _, hb, _⟩
    · injection h1 with h1 _ _
      rw [h1] at e; cases e
    · injection h1 with h1 _ _
      rw [h1] at e; cases e
      rw [hb] at hk; cases hk; cases hc⟩
theorem Chg.kb {bs : List Nat} (h : Chg W W2 g (oB A)) (hm : Moved W (oB A) (oB A2)) (hS : SetB W base g A c ws) (hS2 : SetB W2 base g A2 c2 ws2) (hg : g ∈ bs) : Kb bs g W W2 :=
  ⟨h.size, fun b o hb _ h1 h2 => h.block b (Array.getElem?_eq_some_iff.1 hb).1 (fun e => h1 (by rw [e]; exact hg)) (by rw [hS.rowC] at h2; exact h2), by rw [hS.rowC, hS2.rowC]; exact hm⟩
theorem kb_set {bs : List Nat} {b : Nat} (hb : b ∈ bs) (hne : g ≠ b) (v : Value) : Kb bs g W (W.setCell ⟨b, 0, none⟩ v) :=
  Kb.of_grown (grownBy_setCell' W b v) (fun r e => .inl (by cases e; exact hb)) (.inl (rowC_of (Below.heap_setCell W ⟨b, 0, none⟩ v g hne)))
end
/-- What a put does to the numbers, and how many are new. -/
def putL (l : List Int) (x : Int) : List Int := if x < 0 ∨ 65536 ≤ x then l else if x ∈ l then l else withR l x
def newL (l : List Int) (x : Int) : Nat := if x < 0 ∨ 65536 ≤ x then 0 else if x ∈ l then 0 else 1
def joinF (s : List Int × Nat) : List Int → List Int × Nat
  | [] => s
  | x :: r => joinF (putL s.1 x, s.2 + newL s.1 x) r
theorem joinF_snoc : ∀ (l : List Int) (s : List Int × Nat) (x : Int), joinF s (l ++ [x]) = (putL (joinF s l).1 x, (joinF s l).2 + newL (joinF s l).1 x)
  | [], _, _ => rfl
  | y :: r, s, x => by rw [List.cons_append, joinF, joinF, joinF_snoc r]
theorem joinF_le : ∀ (l : List Int) (s : List Int × Nat), (joinF s l).2 ≤ s.2 + l.length
  | [], _ => Nat.le_refl _
  | x :: r, s => by
    rw [joinF, List.length_cons]
    have := joinF_le r (putL s.1 x, s.2 + newL s.1 x)
    have h : newL s.1 x ≤ 1 := by unfold newL; split <;> (try split) <;> omega
    simp only at this
    omega
theorem putL_all (ws : List Nat) (n : Int) : allW (if n < 0 ∨ 65536 ≤ n then ws else if hasW ws n = true then ws else putW ws n.toNat) = putL (allW ws) n := by
  unfold putL
  by_cases h : n < 0 ∨ 65536 ≤ n
  · rw [if_pos h, if_pos h]
  · rw [if_neg h, if_neg h]
    by_cases h2 : hasW ws n = true
    · rw [if_pos h2, if_pos (hasW_iff.1 h2)]
    · rw [if_neg h2, if_neg (fun hm => h2 (hasW_iff.2 hm)), allW_put, show ((n.toNat : Nat) : Int) = n by omega]
theorem put_code (ws : List Nat) (n : Int) : ∃ k : Int, (if n < 0 ∨ 65536 ≤ n then (2 : Int) else if hasW ws n = true then 35 else 0) = k ∧ ((k = 0 ∧ newL (allW ws) n = 1) ∨ ((k = 2 ∨ k = 35) ∧ newL (allW ws) n = 0)) := by
  unfold newL
  by_cases h : n < 0 ∨ 65536 ≤ n
  · rw [if_pos h, if_pos h]; exact ⟨2, rfl, .inr ⟨.inl rfl, rfl⟩⟩
  · rw [if_neg h, if_neg h]
    by_cases h2 : hasW ws n = true
    · rw [if_pos h2, if_pos (hasW_iff.1 h2)]; exact ⟨35, rfl, .inr ⟨.inr rfl, rfl⟩⟩
    · rw [if_neg h2, if_neg (fun hm => h2 (hasW_iff.2 hm))]; exact ⟨0, rfl, .inl ⟨rfl, rfl⟩⟩
section
variable {A At : Option Addr} {base baset gs gt c ct : Nat} {ws wt : List Nat}
set_option maxRecDepth 100000 in
set_option maxHeartbeats 2000000 in
theorem bjoin_in (n : Nat) (hn : 6 ≤ n) (w : World) (T : Tb w) (hb1 : 1 ≤ base) (hbase : base ≤ w.heap.size) (hS : SetB w base gs A c ws) (hT : SetB w baset gt At ct wt) :
    CallsIn Fence.wide n Tryd.prog 9 #[.pointer (some ⟨gs, 0, none⟩), .pointer (some ⟨gt, 0, none⟩)] w fun e W => ∃ A' c' ws', e = .returned (.int .i64 ((joinF (allW ws, 0) (allW wt)).2 : Int)) ∧ SetB W base gs A' c' ws' ∧ allW ws' = (joinF (allW ws, 0) (allW wt)).1 ∧ Chg w W gs (oB A) ∧ Moved w (oB A) (oB A') := by
  have h1 : 1 ≤ n := by omega
  have EA := Lib.hid fun (p : Option Addr) (w : World) => (callsIn_wide (n := n - 1)).2 (beach_any p w)
  refine callsIn_of_wp_marks Tryd.func9 rfl trivial ?_ rfl
  simp only [Tryd.ntmps9, List.size_toArray, List.length_cons, List.length_nil, Nat.reduceAdd, Nat.reduceSub, Array.replicate_succ, Array.replicate_zero, List.push_toArray, List.append_toArray, List.nil_append, List.cons_append]
  gi_wp2
  refine ⟨trivial, (EA.out _ _).mono ?_⟩
  rintro e w' ⟨rfl, rfl⟩
  gi_wp2
  have hg0 := T.ne hS
  have lS := hS.box.lt
  have b2 : Box (((w.alloc (.cells #[.pointer (some ⟨gs, 0, none⟩)] 23)).alloc (.cells #[.int .i64 0] 3)).alloc (.cells #[.pointer (some ⟨gt, 0, none⟩)] 23)) w.heap.size 23 #[.pointer (some ⟨gs, 0, none⟩)] := ((Box.new w _ _).alloc _).alloc _
  have b5 : Box (((w.alloc (.cells #[.pointer (some ⟨gs, 0, none⟩)] 23)).alloc (.cells #[.int .i64 0] 3)).alloc (.cells #[.pointer (some ⟨gt, 0, none⟩)] 23)) (w.heap.size + 1) 3 #[.int .i64 0] := (Box.new' (w := w.alloc (.cells #[.pointer (some ⟨gs, 0, none⟩)] 23)) (by simp)).alloc _
  have bl : Box (((w.alloc (.cells #[.pointer (some ⟨gs, 0, none⟩)] 23)).alloc (.cells #[.int .i64 0] 3)).alloc (.cells #[.pointer (some ⟨gt, 0, none⟩)] 23)) (w.heap.size + 1 + 1) 23 #[.pointer (some ⟨gt, 0, none⟩)] := Box.new' (by simp)
  have hB : Below w.heap.size w (((w.alloc (.cells #[.pointer (some ⟨gs, 0, none⟩)] 23)).alloc (.cells #[.int .i64 0] 3)).alloc (.cells #[.pointer (some ⟨gt, 0, none⟩)] 23)) := (((Below.refl _ w).alloc (Nat.le_refl _) _).alloc (by simp) _).alloc (by simp; omega) _
  have hsz : (((w.alloc (.cells #[.pointer (some ⟨gs, 0, none⟩)] 23)).alloc (.cells #[.int .i64 0] 3)).alloc (.cells #[.pointer (some ⟨gt, 0, none⟩)] 23)).heap.size = w.heap.size + 3 := by simp
  obtain ⟨W0, hW0⟩ : ∃ W0, (((w.alloc (.cells #[.pointer (some ⟨gs, 0, none⟩)] 23)).alloc (.cells #[.int .i64 0] 3)).alloc (.cells #[.pointer (some ⟨gt, 0, none⟩)] 23)) = W0 := ⟨_, rfl⟩
  rw [hW0] at b2 b5 bl hB hsz ⊢
  clear hW0
  have hS0 := hS.later hB
  have hC0 : Chg w W0 gs (oB A) := ⟨hB.os, hB.tape, hB.output, hB.size, fun b hb _ _ => hB.block b hb⟩
  have ES := beach_stops (base := baset) (c := ct) (A := At) (ws := wt) (n - 1) (by omega) (w.heap.size + 1 + 1) [w.heap.size + 1, gs] gs W0 (T.later hB) (fun b hb => by
    simp at hb
    rcases hb with rfl | rfl
    · exact ⟨by omega, by omega⟩
    · exact ⟨by omega, hg0⟩) (by simp) (fun b hb => by
    rw [hS0.rowC] at hb
    have := hS0.row_lt hb
    exact ⟨this.2, by omega⟩) bl (hT.later hB)
  refine wpIn_rangeFunc_ownH rfl h1 (gf := 32) (lb := #[.pointer (some ⟨w.heap.size + 1 + 1, 0, none⟩)]) (by simp [go_sem]) trivial (enters_of Tryd.func32 (by kernel_rfl) rfl)
    ES Kb.trans (Kb.put (by omega)) (Below.refl _ _) (fun _ => rfl)
    (fun pre W => (∃ A' c' ws', SetB W base gs A' c' ws' ∧ allW ws' = (joinF (allW ws, 0) pre).1 ∧ Chg w W gs (oB A) ∧ Moved w (oB A) (oB A')) ∧ Box W w.heap.size 23 #[.pointer (some ⟨gs, 0, none⟩)] ∧ Box W (w.heap.size + 1) 3 #[.int .i64 ((joinF (allW ws, 0) pre).2 : Int)])
    (fun _ _ _ => False)
    (fun pre X Y row hs hg hr => by
      obtain ⟨⟨A', c', ws', h2, h3, h4, h5⟩, h6, h7⟩ := hs
      have hr' : ∀ r, row = some r → ∃ o : Obj, X.heap[r]? = some o ∧ o.isCells = false := fun r e => (hr r e).2
      have hbx : ∀ {b t cs}, Box X b t cs → Box Y b t cs := fun {b t cs} hb => hb.grown hg (fun e' => by obtain ⟨o, ho, hc⟩ := hr' b e'.symm; rw [show X.heap[b]? = _ from hb] at ho; cases ho; cases hc)
      exact ⟨⟨A', c', ws', h2.own' hg hr', h3, h4.from (B := W0.heap.size) (by omega) hg (fun r e => (hr r e).1), h5⟩, hbx h6, hbx h7⟩)
    (fun _ _ _ _ _ hs _ _ => hs)
    ⟨⟨A, c, ws, hS0, rfl, hC0, .inl rfl⟩, b2, b5⟩
    (fun x a' W => a' = { tmps := #[.pointer (some ⟨gs, 0, none⟩), .pointer (some ⟨gt, 0, none⟩), .pointer (some ⟨w.heap.size, 0, none⟩), undef, .int .i64 0, .pointer (some ⟨w.heap.size + 1, 0, none⟩), .int .i64 x, .pointer (some ⟨gt, 0, none⟩), .func (.func 32) #[] #[.pointer (some ⟨w.heap.size + 1 + 1, 0, none⟩)], .int .i64 x, undef, undef, undef, undef, undef, undef, undef], defers := [] })
    (fun x a' _ X Y row hs hg hr => hs)
    ?assign ?body ?done ?stop
  case assign =>
    rintro lp pre x W K hI hK
    gi_wp2
    exact hK _ _ (KeepsFrom.refl _ _) (Kb.refl _ _ _) hI rfl
  case body =>
    rintro lp pre x a' W hl ⟨r, hr⟩ ⟨⟨A', c', ws', hS', hall, hC, hM⟩, b2, b5⟩ rfl hlt
    have hn2 : 1 ≤ n - 1 - 1 := by omega
    have hszW := hC.size
    have PU := Lib.hid ((callsIn_wide (n := n - 1 - 1 - 1)).2 (bput_any x (by omega) hS'))
    have k2 := b2.cells
    have l2 := b2.lt
    have hcnt := joinF_le pre (allW ws, 0)
    have hsn := Lib.hid (joinF_snoc pre (allW ws, 0) x)
    rw [← hall] at hsn
    obtain ⟨k, hk, hcase⟩ := put_code ws' x
    gi_wp2
    refine ⟨trivial, (CallsIn.inRound lp PU.out).mono ?_⟩
    rintro e W2 ⟨A2, c2, he, hS2, hC2, hM2⟩
    rw [hk] at he
    subst he
    have hall2 := putL_all ws' x
    generalize (if x < 0 ∨ 65536 ≤ x then ws' else if hasW ws' x = true then ws' else putW ws' x.toNat) = ws2 at hS2 hall2
    have c2' := hC2.box hS' b2 (by omega) (by decide)
    have c5 := hC2.box hS' b5 (by omega) (by decide)
    have hko := hC2.others hS'
    have hkb : Kb [w.heap.size + 1, gs] gs W W2 := hC2.kb hM2 hS' hS2 (by simp)
    have hC3 := hC.trans hM hC2
    have hM3 := hM.trans hC.size hM2
    have k5 := c5.cells
    have f5 := c5.free
    have l5 := c5.lt
    clear PU hC2 hM2 hC hM k2 l2 b2 b5
    rcases hcase with ⟨rfl, hnew⟩ | ⟨hk2, hnew⟩
    · rw [hnew, ← hall2] at hsn
      generalize hq : (joinF (allW ws, 0) pre).2 = q at *
      gi_wp2
      exact ⟨(hko.trans (KeepsOthers.setCell _ _ _)).from _, hkb.trans (kb_set (by simp) (by omega) _),
        ⟨⟨A2, c2, ws2, hS2.far c5 (by omega) (by decide) _, by rw [hsn.out], hC3.from (Nat.le_refl _) (grownBy_setCell' W2 (w.heap.size + 1) _) (fun r e => by cases e; omega), hM3⟩, c2'.far' (by omega) _, by rw [hsn.out]; exact c5.set 0 _⟩⟩
    · rw [hnew, ← hall2] at hsn
      generalize hq : (joinF (allW ws, 0) pre).2 = q at *
      have hke : (k == 0) = false := by simp; omega
      gi_wp2
      exact ⟨hko.from _, hkb, ⟨⟨A2, c2, ws2, hS2, by rw [hsn.out], hC3, hM3⟩, c2', by rw [hsn.out]; exact c5⟩⟩
  case done =>
    rintro D ys W hD rfl ⟨⟨A', c', ws', hS', hall, hC, hM⟩, b2, b5⟩ hK
    have k5 := b5.cells
    have l5 := b5.lt
    gi_wp2
    refine ⟨by simp, .inl ⟨_, _, rfl, run_takeDeferred hK, ?_⟩⟩
    exact ⟨_, results_tmp rfl _ _ _, A', c', ws', rfl, hS'.own' (grownBy_putObj' W D _) (fun r e => by cases e; exact ⟨_, hK, rfl⟩), hall, hC.from (B := W0.heap.size) (by omega) (grownBy_putObj' W D _) (fun r e => by cases e; exact hD), hM⟩
  case stop =>
    rintro D cd pre W _ _ h _
    exact h.elim
end
end Go.Proofs.YtgilmpakdohijaaDoor
