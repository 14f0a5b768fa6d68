/-
  journal: Collect, Lines, Line.
-/
import Derived.Test.YthkaohjgldoipaaJo3
namespace Go.Proofs.Ythkaohjgldoipaa
open Go.RowKit Go.Shelf
attribute [local go_sem] Oper.semAt_some

section
variable {A : Option Addr} {c : Nat} {l : List Ent}
theorem jappend_any {w0 w : World} {Bl : Nat} (hm : (linesJ l).length ≤ 1000000) (hm' : l.length ≤ 1000000) (hb0 : Below w0.heap.size w0 w) (hBl : Box w Bl 22 #[.slice A l.length c]) (hr : RowE w0 A l) :
    Calls Try.prog 77 #[.slice none 0 0, .func (.func 78) #[] #[.pointer (some ⟨Bl, 0, none⟩)]] w (NewP 34 (linesJ l) w) :=
  callsIn_wide.1 (jappend_in Fence.wide 3 trivial trivial rfl (Nat.le_refl _) Bl hm hm' w0 w hb0 hBl hr)
set_option maxHeartbeats 1000000 in
theorem jcollect_any {w0 w : World} {Bl : Nat} (hm : (linesJ l).length ≤ 1000000) (hm' : l.length ≤ 1000000) (hb0 : Below w0.heap.size w0 w) (hBl : Box w Bl 22 #[.slice A l.length c]) (hr : RowE w0 A l) :
    Calls Try.prog 49 #[.func (.func 78) #[] #[.pointer (some ⟨Bl, 0, none⟩)]] w (NewP 34 (linesJ l) w) := by
  have C := Lib.hid (jappend_any hm hm' hb0 hBl hr)
  clear hm hm' hb0 hBl hr
  generalize linesJ l = L at *
  go_enter Try.func49, Try.ntmps49
  go_wp2_with fail
  refine C.out.mono ?_
  rintro e w1 ⟨A1, c1, rfl, own1, b1⟩
  go_wp2
  go_ret
  exact ⟨A1, c1, rfl, own1, b1⟩
set_option maxHeartbeats 1000000 in
theorem jlines_any {w : World} (hm : (linesJ l).length ≤ 1000000) (hm' : l.length ≤ 1000000) (hr : RowE w A l) :
    Calls Try.prog 14 #[.slice A l.length c] w (NewP 34 (linesJ l) w) := by
  have E := Lib.hid (jeach_any A l.length c w)
  have C := Lib.hid (jcollect_any hm hm' ((Below.refl _ w).alloc (Nat.le_refl _) (.cells #[.slice A l.length c] 22)) (Box.new w _ _) hr)
  clear hm hm' hr
  generalize linesJ l = L at *
  go_enter Try.func14, Try.ntmps14
  go_wp2_with fail
  refine E.out.mono ?_
  rintro e _ ⟨rfl, rfl⟩
  go_wp2_with fail
  refine C.out.mono ?_
  rintro e w1 ⟨A1, c1, rfl, own1, b1⟩
  go_wp2
  go_ret
  exact ⟨A1, c1, rfl, own_base own1 (by simp), below_up b1⟩

/-- The boxes of Line: the number that is asked, the result. -/
def LineB (w : World) (g : Nat) (k : Int) (p : Pst) (b : Bool) : Prop := Box w g 3 #[.int .i64 k] ∧ Box w (g + 1) 34 (pv p).toArray ∧ Box w (g + 1 + 1) 4 #[.bool b]
theorem LineB.own {β : Type} (g : Nat) (k : Int) (p : β → Pst) (b : β → Bool) : Own (fun s W => LineB W g k (p s) (b s)) := fun s X Y row hs hg hrow =>
  ⟨box_own g _ (fun (_ : Unit) => #[.int .i64 k]) () X Y row hs.1 hg hrow, box_own (g + 1) _ (fun (_ : Unit) => (pv (p s)).toArray) () X Y row hs.2.1 hg hrow, box_own (g + 1 + 1) _ (fun (_ : Unit) => #[.bool (b s)]) () X Y row hs.2.2 hg hrow⟩
theorem LineB.alloc {w : World} {g : Nat} {k : Int} {p : Pst} {b : Bool} (h : LineB w g k p b) (o : Obj) : LineB (w.alloc o) g k p b := ⟨h.1.alloc o, h.2.1.alloc o, h.2.2.alloc o⟩
/-- The result is stored. -/
def putL (w : World) (g : Nat) (x : Pst) (b : Bool) : World :=
  ((((((((w.setCell ⟨g + 1, 0, none⟩ (.int .i64 x.id)).setCell ⟨g + 1, 1, none⟩ (.int .i64 x.en)).setCell ⟨g + 1, 2, none⟩ (.int .i64 x.pe)).setCell ⟨g + 1, 3, none⟩ (.int .i64 x.ln.e)).setCell ⟨g + 1, 4, none⟩ (.int .i64 x.ln.a)).setCell ⟨g + 1, 5, none⟩ (.int .i64 x.ln.q)).setCell ⟨g + 1, 6, none⟩ (.int .i64 x.ln.m)).setCell ⟨g + 1 + 1, 0, none⟩ (.bool b))
theorem LineB.put {w : World} {g : Nat} {k : Int} {p : Pst} {b : Bool} (h : LineB w g k p b) (x : Pst) (b' : Bool) : LineB (putL w g x b') g k x b' := by
  obtain ⟨h1, h2, h3⟩ := h
  have n1 : g ≠ g + 1 := by omega
  have n2 : g + 1 + 1 ≠ g + 1 := by omega
  have n3 : g + 1 ≠ g + 1 + 1 := by omega
  have n4 : g ≠ g + 1 + 1 := by omega
  unfold putL
  refine ⟨(((((((h1.far' (i := 0) n1 (.int .i64 x.id)).far' (i := 1) n1 (.int .i64 x.en)).far' (i := 2) n1 (.int .i64 x.pe)).far' (i := 3) n1 (.int .i64 x.ln.e)).far' (i := 4) n1 (.int .i64 x.ln.a)).far' (i := 5) n1 (.int .i64 x.ln.q)).far' (i := 6) n1 (.int .i64 x.ln.m)).far' (i := 0) n4 (.bool b'), ?_, (((((((h3.far' (i := 0) n2 (.int .i64 x.id)).far' (i := 1) n2 (.int .i64 x.en)).far' (i := 2) n2 (.int .i64 x.pe)).far' (i := 3) n2 (.int .i64 x.ln.e)).far' (i := 4) n2 (.int .i64 x.ln.a)).far' (i := 5) n2 (.int .i64 x.ln.q)).far' (i := 6) n2 (.int .i64 x.ln.m)).set 0 (.bool b')⟩
  have q := (((((((h2.set 0 (.int .i64 x.id)).set 1 (.int .i64 x.en)).set 2 (.int .i64 x.pe)).set 3 (.int .i64 x.ln.e)).set 4 (.int .i64 x.ln.a)).set 5 (.int .i64 x.ln.q)).set 6 (.int .i64 x.ln.m))
  have e : ((((((((pv p).toArray.setIfInBounds 0 (.int .i64 x.id)).setIfInBounds 1 (.int .i64 x.en)).setIfInBounds 2 (.int .i64 x.pe)).setIfInBounds 3 (.int .i64 x.ln.e)).setIfInBounds 4 (.int .i64 x.ln.a)).setIfInBounds 5 (.int .i64 x.ln.q)).setIfInBounds 6 (.int .i64 x.ln.m)) = (pv x).toArray := by simp [pv]
  rw [e] at q
  exact q.far' n3 _
theorem putL_below {B : Nat} {w w0 : World} {g : Nat} (h : Below B w0 w) (hg : B ≤ g) (x : Pst) (b : Bool) : Below B w0 (putL w g x b) := by
  have q : B ≤ g + 1 := by omega
  have q' : B ≤ g + 1 + 1 := by omega
  exact ((((((((h.setCell (p := ⟨g + 1, 0, none⟩) q _).setCell (p := ⟨g + 1, 1, none⟩) q _).setCell (p := ⟨g + 1, 2, none⟩) q _).setCell (p := ⟨g + 1, 3, none⟩) q _).setCell (p := ⟨g + 1, 4, none⟩) q _).setCell (p := ⟨g + 1, 5, none⟩) q _).setCell (p := ⟨g + 1, 6, none⟩) q _).setCell (p := ⟨g + 1 + 1, 0, none⟩) q' _)
theorem putL_keeps (w : World) (g : Nat) (x : Pst) (b : Bool) : KeepsOthers w (putL w g x b) :=
  ((((((((KeepsOthers.setCell w _ _).trans (KeepsOthers.setCell _ _ _)).trans (KeepsOthers.setCell _ _ _)).trans (KeepsOthers.setCell _ _ _)).trans (KeepsOthers.setCell _ _ _)).trans (KeepsOthers.setCell _ _ _)).trans (KeepsOthers.setCell _ _ _)).trans (KeepsOthers.setCell _ _ _))
set_option maxRecDepth 100000 in
set_option maxHeartbeats 2000000 in
theorem jline_in (n : Nat) (hn : 3 ≤ n) (hm : (linesJ l).length ≤ 1000000) (hm' : l.length ≤ 1000000) (w : World) (hr : RowE w A l) (k : Int) :
    CallsIn Fence.wide n Try.prog 18 #[.slice A l.length c, .int .i64 k] w fun e w' => e = .returned (.tuple #[.agg (pv (lineJ l k).1).toArray, .bool (lineJ l k).2]) ∧ Below w.heap.size w w' := by
  have h1 : 1 ≤ n := by omega
  have EA := Lib.hid fun (w : World) => (callsIn_wide (n := n - 1)).2 (jeach_any A l.length c w)
  refine callsIn_of_wp_marks Try.func18 rfl trivial ?_ rfl
  simp only [Try.ntmps18, List.size_toArray, List.length_cons, List.length_nil, Nat.reduceAdd, Nat.reduceSub, Array.replicate_succ, Array.replicate_zero, List.push_toArray, List.append_toArray, List.nil_append, List.cons_append]
  gi_wp2_with (refine ⟨trivial, ?_⟩; gi_at_call 50; refine (EA.out _).mono ?_; rintro e w' ⟨rfl, rfl⟩)
  have LB : LineB (((w.alloc (.cells #[.int .i64 k] 3)).alloc (.cells #[.int .i64 0, .int .i64 0, .int .i64 0, .int .i64 0, .int .i64 0, .int .i64 0, .int .i64 0] 34)).alloc (.cells #[.bool false] 4)) w.heap.size k noP false :=
    ⟨((Box.new w _ _).alloc _).alloc _, (Box.new' (w := w.alloc (.cells #[.int .i64 k] 3)) (by simp)).alloc _, Box.new' (by simp)⟩
  have hB0 : Below w.heap.size w (((w.alloc (.cells #[.int .i64 k] 3)).alloc (.cells #[.int .i64 0, .int .i64 0, .int .i64 0, .int .i64 0, .int .i64 0, .int .i64 0, .int .i64 0] 34)).alloc (.cells #[.bool false] 4)) := (((Below.refl _ w).alloc (Nat.le_refl _) _).alloc (by simp) _).alloc (by simp; omega) _
  have hsz : (((w.alloc (.cells #[.int .i64 k] 3)).alloc (.cells #[.int .i64 0, .int .i64 0, .int .i64 0, .int .i64 0, .int .i64 0, .int .i64 0, .int .i64 0] 34)).alloc (.cells #[.bool false] 4)).heap.size = w.heap.size + 3 := by simp
  obtain ⟨W0, hW0⟩ : ∃ W0, ((w.alloc (.cells #[.int .i64 k] 3)).alloc (.cells #[.int .i64 0, .int .i64 0, .int .i64 0, .int .i64 0, .int .i64 0, .int .i64 0, .int .i64 0] 34)).alloc (.cells #[.bool false] 4) = W0 := ⟨_, rfl⟩
  rw [hW0] at LB hB0 hsz ⊢
  clear hW0
  have hN : Hid (W0.heap.size = w.heap.size + 3) := hsz
  have hle : w.heap.size + 3 ≤ W0.heap.size := by omega
  refine wpIn_rangeFunc_ownH rfl h1 (gf := 78) (lb := #[.pointer (some ⟨w.heap.size + 1 + 1 + 1, 0, none⟩)]) rfl trivial (enters_of Try.func78 (by kernel_rfl) rfl)
    (jeach_stops Fence.wide (n - 1) trivial rfl (by omega) (w.heap.size + 1 + 1 + 1) hm hm' w (W0.alloc (.cells #[.slice A l.length c] 22)) (hB0.alloc hB0.size _) (Box.new' (by omega)) hr) Kj.trans (Kj.put (by simp; omega)) (Below.refl _ _) (fun _ => rfl)
    (fun pre W => ((∀ y ∈ pre, y.id ≠ k) ∧ LineB W w.heap.size k noP false) ∧ Below w.heap.size w W)
    (fun cd pre W => ((cd = .ret ∧ ∃ q x, pre = q ++ [x] ∧ x.id = k) ∧ ∃ x, pre.getLast? = some x ∧ LineB W w.heap.size k x true) ∧ Below w.heap.size w W)
    ?hI ?hIx ⟨⟨by simp, LB.alloc _⟩, hB0.alloc hB0.size _⟩
    (fun x a' W => ∃ Bx, w.heap.size + 3 ≤ Bx ∧ Box W Bx 34 (pv x).toArray ∧ a' = { tmps := #[.slice A l.length c, .int .i64 k, undef, .pointer (some ⟨w.heap.size, 0, none⟩), .pointer (some ⟨w.heap.size + 1, 0, none⟩), .pointer (some ⟨w.heap.size + 1 + 1, 0, none⟩), .pointer (some ⟨Bx, 0, none⟩), .slice A l.length c, .func (.func 78) #[] #[.pointer (some ⟨w.heap.size + 1 + 1 + 1, 0, none⟩)], .agg (pv x).toArray, undef, undef, undef, undef, undef, undef], defers := [] })
    (fun x a' _ X Y row hs hg hr => by obtain ⟨Bx, h1, h2, h3⟩ := hs; exact ⟨Bx, h1, box_own Bx _ (fun (_ : Unit) => (pv x).toArray) () X Y row h2 hg (fun r e => (hr r e).2), h3⟩)
    ?assign ?body ?done ?stop
  case hI => exact OwnFrom.and (OwnFrom.and (ownFrom_pure _ _) (Own.from (LineB.own w.heap.size k (fun _ => noP) (fun _ => false)) _)) (ownFrom_below (Nat.le_refl _) (by simp; omega))
  case hIx =>
    exact fun cd => OwnFrom.and (OwnFrom.and (ownFrom_pure _ _) (fun s X Y row hs hg hr => by
      obtain ⟨x, h1, h2⟩ := hs
      exact ⟨x, h1, LineB.own w.heap.size k (fun (_ : Unit) => x) (fun _ => true) () X Y row h2 hg (fun r e => (hr r e).2)⟩)) (ownFrom_below (Nat.le_refl _) (by simp; omega))
  case assign =>
    rintro lp pre x W K ⟨⟨hp, hL⟩, hB⟩ hK
    have hs1 := hB.size
    have hlt := hL.2.2.lt
    dsimp only [pv]
    gi_wp2
    exact hK _ _ ((KeepsOthers.alloc _ _).from _) ((Kj.refl _ _).alloc (by omega) _) ⟨⟨hp, hL.alloc _⟩, hB.alloc hs1 _⟩ ⟨W.heap.size, by omega, Box.new W _ _, rfl⟩
  case body =>
    rintro lp pre x a' W hl ⟨r, hr⟩ ⟨⟨hp, hL⟩, hB⟩ ⟨Bx, hBx, bX, rfl⟩ hlt
    obtain ⟨b1, b2, b3⟩ := hL
    have k1 := b1.cells
    have k2 := b2.cells
    have k3 := b3.cells
    have f2 := b2.free
    have f3 := b3.free
    have kX := bX.cells
    have l1 := b1.lt
    have l2 := b2.lt
    have l3 := b3.lt
    have lX := bX.lt
    have hsz := hB.size
    dsimp only [pv, noP] at kX k2 ⊢
    by_cases hx : x.id = k
    · subst hx
      gi_wp2
      exact ⟨(putL_keeps W w.heap.size x true).from _, ⟨⟨rfl, pre, x, rfl, rfl⟩, x, by simp, LineB.put ⟨b1, b2, b3⟩ x true⟩, putL_below hB (Nat.le_refl _) x true⟩
    · have he : (x.id == k) = false := by simpa using hx
      gi_wp2
      exact ⟨KeepsFrom.refl _ _, Kj.refl _ _, ⟨fun y hy => (List.mem_append.1 hy).elim (hp y) (fun e => by simp at e; subst e; exact hx), b1, b2, b3⟩, hB⟩
  case done =>
    rintro D ys W hD rfl ⟨⟨hp, hL⟩, hB⟩ hK
    have L2 := hL.put noP false
    have hK' := (putL_keeps W w.heap.size noP false).same D _ hK rfl
    have L3 := LineB.own w.heap.size k (fun (_ : Unit) => noP) (fun _ => false) () _ _ _ L2 (grownBy_putObj' _ D (.deferred none)) (fun r e => by cases e; exact ⟨_, hK', rfl⟩)
    have B3 := (putL_below hB (Nat.le_refl _) noP false).trans (belowK_b (w := w) (Nat.le_refl _) _ D _ (.deferred none) (by simp at hD; omega) hK' rfl rfl)
    obtain ⟨b1, b2, b3⟩ := hL
    have k2 := b2.cells
    have k3 := b3.cells
    have f2 := b2.free
    have f3 := b3.free
    have l2 := b2.lt
    have l3 := b3.lt
    have q2 := L3.2.1.cells
    have q3 := L3.2.2.cells
    clear L2 L3 b1 b2 b3
    dsimp only [pv, noP] at k2 q2
    gi_wp2
    refine ⟨by simp, .inl ⟨_, _, rfl, run_takeDeferred hK', ?_⟩⟩
    refine ⟨.tuple #[.agg (pv noP).toArray, .bool false], ?_, by rw [lineJ_miss hp], B3⟩
    dsimp only [putL, noP] at q2 q3
    simp [results, Try.f18, go_sem, q2, q3, pv, noP]
  case stop =>
    rintro D cd pre W hD hpre ⟨⟨⟨rfl, q, x, rfl, hx⟩, x', hx', hL⟩, hB⟩ hK
    obtain rfl : x = x' := by simpa using hx'
    have L3 := LineB.own w.heap.size k (fun (_ : Unit) => x) (fun _ => true) () _ _ _ hL (grownBy_putObj' _ D (.deferred none)) (fun r e => by cases e; exact ⟨_, hK, rfl⟩)
    have B3 := hB.trans (belowK_b (w := w) (Nat.le_refl _) W D _ (.deferred none) (by simp at hD; omega) hK rfl rfl)
    have q2 := L3.2.1.cells
    have q3 := L3.2.2.cells
    have HX := Lib.hid (lineJ_hit hpre hx)
    clear L3 hL hx hx' hpre
    dsimp only [pv] at q2
    gi_wp2
    refine ⟨by simp, .inl ⟨_, _, rfl, run_takeDeferred hK, ?_⟩⟩
    refine ⟨.tuple #[.agg (pv x).toArray, .bool true], ?_, by rw [HX.out], B3⟩
    simp [results, Try.f18, go_sem, q2, q3, pv]
end
end Go.Proofs.Ythkaohjgldoipaa
