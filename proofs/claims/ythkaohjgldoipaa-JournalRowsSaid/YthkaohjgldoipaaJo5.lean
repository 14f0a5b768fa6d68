/-
  journal: Ids.
-/
import Derived.Test.YthkaohjgldoipaaJo4
import Derived.Shelf.RegionOpen
namespace Go.Proofs.Ythkaohjgldoipaa
open Go.RowKit Go.Shelf
attribute [local go_sem] Oper.semAt_some

section
variable {A : Option Addr} {c : Nat} {l : List Ent}
/-- The boxes of Ids: the entry that is asked, the first line, the last one. -/
def IdsB (w : World) (g : Nat) (n : Int) (s : Int × Int) : Prop := Box w g 3 #[.int .i64 n] ∧ Box w (g + 1) 3 #[.int .i64 s.1] ∧ Box w (g + 1 + 1) 3 #[.int .i64 s.2]
theorem IdsB.own {β : Type} (g : Nat) (n : Int) (s : β → Int × Int) : Own (fun x W => IdsB W g n (s x)) := fun x X Y row hs hg hrow =>
  ⟨box_own g _ (fun (_ : Unit) => #[.int .i64 n]) () X Y row hs.1 hg hrow, box_own (g + 1) _ (fun (_ : Unit) => #[.int .i64 (s x).1]) () X Y row hs.2.1 hg hrow, box_own (g + 1 + 1) _ (fun (_ : Unit) => #[.int .i64 (s x).2]) () X Y row hs.2.2 hg hrow⟩
theorem IdsB.alloc {w : World} {g : Nat} {n : Int} {s : Int × Int} (h : IdsB w g n s) (o : Obj) : IdsB (w.alloc o) g n s := ⟨h.1.alloc o, h.2.1.alloc o, h.2.2.alloc o⟩
theorem IdsB.set1 {w : World} {g : Nat} {n : Int} {s : Int × Int} (h : IdsB w g n s) (x : Int) : IdsB (w.setCell ⟨g + 1, 0, none⟩ (.int .i64 x)) g n (x, s.2) := ⟨h.1.far' (by omega) _, h.2.1.set 0 _, h.2.2.far' (by omega) _⟩
theorem IdsB.set2 {w : World} {g : Nat} {n : Int} {s : Int × Int} (h : IdsB w g n s) (x : Int) : IdsB (w.setCell ⟨g + 1 + 1, 0, none⟩ (.int .i64 x)) g n (s.1, x) := ⟨h.1.far' (by omega) _, h.2.1.far' (by omega) _, h.2.2.set 0 _⟩
theorem kj_set {n₀ : Nat} {A w : World} (h : Kj n₀ A w) {g i : Nat} {cs : Array Value} (hg : n₀ ≤ g) (hb : Box w g 3 cs) (u : Value) : Kj n₀ A (w.setCell ⟨g, i, none⟩ u) :=
  ⟨h.low.setCell (p := ⟨g, i, none⟩) hg u, fun b cs' hB => (h.box b cs' hB).far' (Box.ne (h.box b cs' hB) hb (by decide)) u⟩
set_option maxRecDepth 100000 in
set_option maxHeartbeats 2000000 in
theorem jids_in (n : Nat) (hn : 3 ≤ n) (hm : (linesJ l).length ≤ 1000000) (hm' : l.length ≤ 1000000) (w : World) (hr : RowE w A l) (k : Int) :
    CallsIn Fence.wide n Try.prog 20 #[.slice A l.length c, .int .i64 k] w fun e w' => e = .returned (.tuple #[.int .i64 (idsJ l k).1, .int .i64 (idsJ l k).2]) ∧ Below w.heap.size w w' := by
  have h1 : 1 ≤ n := by omega
  have EA := Lib.hid fun (w : World) => (callsIn_wide (n := n - 1)).2 (jeach_any A l.length c w)
  refine callsIn_of_wp_marks Try.func20 rfl trivial ?_ rfl
  simp only [Try.ntmps20, List.size_toArray, List.length_cons, List.length_nil, Nat.reduceAdd, Nat.reduceSub, Array.replicate_succ, Array.replicate_zero, List.push_toArray, List.append_toArray, List.nil_append, List.cons_append]
  gi_wp2_with (refine ⟨trivial, ?_⟩; gi_at_call 50; refine (EA.out _).mono ?_; rintro e w' ⟨rfl, rfl⟩)
  have LB : IdsB (((w.alloc (.cells #[.int .i64 k] 3)).alloc (.cells #[.int .i64 0] 3)).alloc (.cells #[.int .i64 0] 3)) w.heap.size k (0, 0) :=
    ⟨((Box.new w _ _).alloc _).alloc _, (Box.new' (w := w.alloc (.cells #[.int .i64 k] 3)) (by simp)).alloc _, Box.new' (by simp)⟩
  have hB0 : Below w.heap.size w (((w.alloc (.cells #[.int .i64 k] 3)).alloc (.cells #[.int .i64 0] 3)).alloc (.cells #[.int .i64 0] 3)) := (((Below.refl _ w).alloc (Nat.le_refl _) _).alloc (by simp) _).alloc (by simp; omega) _
  have hsz : (((w.alloc (.cells #[.int .i64 k] 3)).alloc (.cells #[.int .i64 0] 3)).alloc (.cells #[.int .i64 0] 3)).heap.size = w.heap.size + 3 := by simp
  obtain ⟨W0, hW0⟩ : ∃ W0, ((w.alloc (.cells #[.int .i64 k] 3)).alloc (.cells #[.int .i64 0] 3)).alloc (.cells #[.int .i64 0] 3) = W0 := ⟨_, rfl⟩
  rw [hW0] at LB hB0 hsz ⊢
  clear hW0
  have hN : Hid (W0.heap.size = w.heap.size + 3) := hsz
  have hle : w.heap.size + 3 ≤ W0.heap.size := by omega
  refine wpIn_rangeFunc_ownH rfl h1 (gf := 78) (lb := #[.pointer (some ⟨w.heap.size + 1 + 1 + 1, 0, none⟩)]) rfl trivial (enters_of Try.func78 (by kernel_rfl) rfl)
    (jeach_stops Fence.wide (n - 1) trivial rfl (by omega) (w.heap.size + 1 + 1 + 1) hm hm' w (W0.alloc (.cells #[.slice A l.length c] 22)) (hB0.alloc hB0.size _) (Box.new' (by omega)) hr) Kj.trans (Kj.put (by simp; omega)) (Below.refl _ _) (fun _ => rfl)
    (fun pre W => IdsB W w.heap.size k (idsF k pre) ∧ Below w.heap.size w W)
    (fun _ _ _ => False)
    (OwnFrom.and (Own.from (IdsB.own w.heap.size k (fun pre => idsF k pre)) _) (ownFrom_below (Nat.le_refl _) (by simp; omega)))
    (fun _ _ _ _ _ hs _ _ => hs) ⟨LB.alloc _, hB0.alloc hB0.size _⟩
    (fun x a' W => ∃ Bx, w.heap.size + 3 ≤ Bx ∧ Box W Bx 34 (pv x).toArray ∧ a' = { tmps := #[.slice A l.length c, .int .i64 k, undef, .pointer (some ⟨w.heap.size, 0, none⟩), .pointer (some ⟨w.heap.size + 1, 0, none⟩), .pointer (some ⟨w.heap.size + 1 + 1, 0, none⟩), .pointer (some ⟨Bx, 0, none⟩), .slice A l.length c, .func (.func 78) #[] #[.pointer (some ⟨w.heap.size + 1 + 1 + 1, 0, none⟩)], .agg (pv x).toArray, undef, undef, undef, undef, undef, undef, undef, undef, undef, undef, undef, undef], defers := [] })
    (fun x a' _ X Y row hs hg hr => by obtain ⟨Bx, h1, h2, h3⟩ := hs; exact ⟨Bx, h1, box_own Bx _ (fun (_ : Unit) => (pv x).toArray) () X Y row h2 hg (fun r e => (hr r e).2), h3⟩)
    ?assign ?body ?done ?stop
  case assign =>
    rintro lp pre x W K ⟨hL, hB⟩ hK
    have hs1 := hB.size
    have hlt := hL.2.2.lt
    dsimp only [pv]
    gi_wp2
    exact hK _ _ ((KeepsOthers.alloc _ _).from _) ((Kj.refl _ _).alloc (by omega) _) ⟨hL.alloc _, hB.alloc hs1 _⟩ ⟨W.heap.size, by omega, Box.new W _ _, rfl⟩
  case body =>
    rintro lp pre x a' W hl ⟨r, hr⟩ ⟨hL, hB⟩ ⟨Bx, hBx, bX, rfl⟩ hlt
    have HL := hL
    have ST := idsF_snoc k pre x
    generalize idsF k pre = s at *
    obtain ⟨s1, s3⟩ := s
    obtain ⟨b1, b2, b3⟩ := hL
    have k1 := b1.cells
    have k2 := b2.cells
    have k3 := b3.cells
    have f2 := b2.free
    have f3 := b3.free
    have kX := bX.cells
    have l1 := b1.lt
    have l2 := b2.lt
    have l3 := b3.lt
    have lX := bX.lt
    have hsz := hB.size
    dsimp only [pv] at kX k2 k3 ⊢
    unfold idStep at ST
    by_cases hx : x.en = k
    · rw [if_neg (by simpa using hx)] at ST
      have he : (x.en != k) = false := by simpa using hx
      dsimp only at ST
      by_cases h0 : s1 = 0
      · rw [if_pos h0] at ST
        replace ST := Lib.hid ST
        have he0 : (s1 == 0) = true := by simpa using h0
        clear hx h0
        gi_wp2
        have HL2 := (HL.set1 x.id).set2 x.id
        have q2 : w.heap.size ≤ w.heap.size + 1 := by omega
        have q3 : w.heap.size ≤ w.heap.size + 1 + 1 := by omega
        exact ⟨((KeepsOthers.setCell W _ _).trans (KeepsOthers.setCell _ _ _)).from _, kj_set (kj_set (Kj.refl _ _) q2 HL.2.1 _) q3 (HL.set1 x.id).2.2 _, by rw [ST.out]; exact HL2, (hB.setCell (p := ⟨w.heap.size + 1, 0, none⟩) q2 _).setCell (p := ⟨w.heap.size + 1 + 1, 0, none⟩) q3 _⟩
      · rw [if_neg h0] at ST
        replace ST := Lib.hid ST
        have he0 : (s1 == 0) = false := by simpa using h0
        clear hx h0
        gi_wp2
        have HL2 := HL.set2 x.id
        have q3 : w.heap.size ≤ w.heap.size + 1 + 1 := by omega
        exact ⟨(KeepsOthers.setCell W _ _).from _, kj_set (Kj.refl _ _) q3 HL.2.2 _, by rw [ST.out]; exact HL2, hB.setCell (p := ⟨w.heap.size + 1 + 1, 0, none⟩) q3 _⟩
    · rw [if_pos hx] at ST
      replace ST := Lib.hid ST
      have he : (x.en != k) = true := by simpa using hx
      clear hx
      gi_wp2
      exact ⟨KeepsFrom.refl _ _, Kj.refl _ _, by rw [ST.out]; exact HL, hB⟩
  case done =>
    rintro D ys W hD rfl ⟨hL, hB⟩ hK
    rw [idsF_lines] at hL
    obtain ⟨b1, b2, b3⟩ := hL
    have k1 := b1.cells
    have k2 := b2.cells
    have k3 := b3.cells
    have f2 := b2.free
    have f3 := b3.free
    have l2 := b2.lt
    have l3 := b3.lt
    gi_wp2
    have hfl : Try.prog.follows Departure.mixedOrders = true := by kernel_rfl
    have hK2 : ((W.setCell ⟨w.heap.size + 1, 0, none⟩ (.int .i64 (idsJ l k).1)).setCell ⟨w.heap.size + 1 + 1, 0, none⟩ (.int .i64 (idsJ l k).2)).drew.heap[D]? = some (.deferred (some [])) := ((KeepsOthers.setCell W _ _).trans (KeepsOthers.setCell _ _ _)).same D _ hK rfl
    have L2 : IdsB ((W.setCell ⟨w.heap.size + 1, 0, none⟩ (.int .i64 (idsJ l k).1)).setCell ⟨w.heap.size + 1 + 1, 0, none⟩ (.int .i64 (idsJ l k).2)).drew w.heap.size k (idsJ l k) := (IdsB.set1 (n := k) (s := idsJ l k) ⟨b1, b2, b3⟩ (idsJ l k).1).set2 (idsJ l k).2
    have q2 : w.heap.size ≤ w.heap.size + 1 := by omega
    have q3 : w.heap.size ≤ w.heap.size + 1 + 1 := by omega
    have B2 : Below w.heap.size w ((W.setCell ⟨w.heap.size + 1, 0, none⟩ (.int .i64 (idsJ l k).1)).setCell ⟨w.heap.size + 1 + 1, 0, none⟩ (.int .i64 (idsJ l k).2)).drew := below_drewN ((hB.setCell (p := ⟨w.heap.size + 1, 0, none⟩) q2 _).setCell (p := ⟨w.heap.size + 1 + 1, 0, none⟩) q3 _) 1
    have L3 := IdsB.own w.heap.size k (fun (_ : Unit) => idsJ l k) () _ _ _ L2 (grownBy_putObj' _ D (.deferred none)) (fun r e => by cases e; exact ⟨_, hK2, rfl⟩)
    have B3 := B2.trans (belowK_b (w := w) (Nat.le_refl _) _ D _ (.deferred none) (by simp at hD; omega) hK2 rfl rfl)
    have q4 := L3.2.1.cells
    have q5 := L3.2.2.cells
    clear L2 L3 B2 b1 b2 b3
    gi_region_o
    all_goals gi_wp2
    all_goals refine ⟨by simp, .inl ⟨_, _, rfl, run_takeDeferred hK2, ?_⟩⟩
    all_goals refine ⟨.tuple #[.int .i64 (idsJ l k).1, .int .i64 (idsJ l k).2], ?_, rfl, B3⟩
    all_goals simp [results, Try.f20, go_sem, q4, q5]
  case stop =>
    rintro D cd pre W _ _ h _
    exact h.elim
theorem jline_any {w : World} (hm : (linesJ l).length ≤ 1000000) (hm' : l.length ≤ 1000000) (hr : RowE w A l) (k : Int) :
    Calls Try.prog 18 #[.slice A l.length c, .int .i64 k] w fun e w' => e = .returned (.tuple #[.agg (pv (lineJ l k).1).toArray, .bool (lineJ l k).2]) ∧ Below w.heap.size w w' :=
  callsIn_wide.1 (jline_in 3 (Nat.le_refl _) hm hm' w hr k)
theorem jids_any {w : World} (hm : (linesJ l).length ≤ 1000000) (hm' : l.length ≤ 1000000) (hr : RowE w A l) (k : Int) :
    Calls Try.prog 20 #[.slice A l.length c, .int .i64 k] w fun e w' => e = .returned (.tuple #[.int .i64 (idsJ l k).1, .int .i64 (idsJ l k).2]) ∧ Below w.heap.size w w' :=
  callsIn_wide.1 (jids_in 3 (Nat.le_refl _) hm hm' w hr k)
end
end Go.Proofs.Ythkaohjgldoipaa
