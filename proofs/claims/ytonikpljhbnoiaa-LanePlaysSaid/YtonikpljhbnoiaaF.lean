/-
  The document's answer to each call (refDo) is the step of two rows, whatever the call; the rooms are at most 1000.
-/
import Derived.Test.YtonikpljhbnoiaaE
namespace Go.Proofs.Ytonikpljhbnoiaa
open Go.RowKit Go.Conc

section
variable {w : World} {r0 r1 : Nat} {l m : List Int} {kind x : Int} {v0 v1 : Value} {S : Nat → Prop}
/-- What 'refDo' owes. -/
def RefDoes (S : Nat → Prop) (w : World) (r0 r1 : Nat) (T : Told) (e : Ending) (w' : World) : Prop :=
  ∃ v0 v1, e = .returned (.tuple #[.agg #[v0, .int .i64 r0, v1, .int .i64 r1], .int .i64 T.x, .int .i64 T.e, .bool T.ok]) ∧ IRow (fun b => S b ∨ w.heap.size ≤ b) w' v0 T.l ∧ IRow (fun b => S b ∨ w.heap.size ≤ b) w' v1 T.m ∧ Below w.heap.size w w'

set_option maxRecDepth 100000 in
set_option maxHeartbeats 2000000 in
theorem refDo0_yes (hl : l.length < r0) (hr : r0 ≤ 1000) (i0 : IRow S w v0 l) (i1 : IRow S w v1 m) :
    Calls Try.prog 10 #[.agg #[v0, .int .i64 r0, v1, .int .i64 r1], .agg #[.int .i64 0, .int .i64 x]] w (RefDoes S w r0 r1 ⟨l ++ [x], m, 0, 0, false⟩) := by
  have i0 : IRow (fun b => S b ∧ b < w.heap.size) w v0 l := i0.mono fun b h1 h2 => ⟨h2, h1⟩
  have i1 : IRow (fun b => S b ∧ b < w.heap.size) w v1 m := i1.mono fun b h1 h2 => ⟨h2, h1⟩
  obtain ⟨A0, cc0, rfl, hl0, hr0⟩ := i0
  obtain ⟨A1, cc1, rfl, hl1, hr1⟩ := i1
  have i0 : IRow (fun b => S b ∧ b < w.heap.size) w (.slice A0 l.length cc0) l := ⟨A0, cc0, rfl, hl0, hr0⟩
  have i1 : IRow (fun b => S b ∧ b < w.heap.size) w (.slice A1 m.length cc1) m := ⟨A1, cc1, rfl, hl1, hr1⟩
  clear hr0 hr1
  go_enter Try.func10, Try.ntmps10
  go_wp2_with fail
  refine (rput_yes _ _ _ _ _ hl hr ((((i0.alloc _).alloc _).alloc _).alloc _)).mono ?_
  rintro e w5 ⟨v', rfl, hv', hb5⟩
  simp only [World.size_alloc] at hb5
  have hs5 : w.heap.size + 4 ≤ w5.heap.size := by have := hb5.size; simp at this; omega
  have q0 := ((((Box.new w 34 #[.slice A0 l.length cc0, .int .i64 r0, .slice A1 m.length cc1, .int .i64 r1]).alloc _).alloc _).alloc _).below hb5 (by omega)
  have q1 := (((Box.new' (w := w.alloc _) (g := w.heap.size + 1) (t := 38) (cs := #[.int .i64 0, .int .i64 x]) (by simp)).alloc _).alloc _).below hb5 (by omega)
  have q2 := ((Box.new' (w := (w.alloc _).alloc _) (g := w.heap.size + 1 + 1) (t := 34) (cs := #[.slice none 0 0, .int .i64 0, .slice none 0 0, .int .i64 0]) (by simp)).alloc _).below hb5 (by omega)
  have q3 := (Box.new' (w := ((w.alloc _).alloc _).alloc _) (g := w.heap.size + 1 + 1 + 1) (t := 31) (cs := #[.slice A0 l.length cc0, .int .i64 r0]) (by simp)).below hb5 (by omega)
  have hb : Below w.heap.size w w5 := ((((((Below.refl _ _).alloc (Nat.le_refl _) _).alloc (by simp) _).alloc (by simp; omega) _).alloc (by simp; omega) _)).trans (hb5.mono (by omega))
  clear hb5
  have i0 := i0.below hb (Nat.le_refl _)
  have i1 := i1.below hb (Nat.le_refl _)
  have hv' : IRow (fun b => w.heap.size + 4 ≤ b) w5 v' (l ++ [x]) := hv'.mono fun b h1 h2 => by simp only [World.size_alloc] at h2; omega
  obtain ⟨A', c', rfl, hl', hr'⟩ := hv'
  have Hr := Lib.hid hr'
  clear hr'
  rewrite [List.length_append, List.length_singleton] at hl' ⊢
  have c0 := q0.cells
  have f0 := q0.free
  have c1 := q1.cells
  have f1 := q1.free
  have c2 := q2.cells
  have f2 := q2.free
  have c3 := q3.cells
  have f3 := q3.free
  clear q0 q1 q2 q3
  go_wp2_with fail
  refine bodyPost_ret (by unfold results; simp only [Try.results10]; go_simp; rfl) rfl ?_
  refine ⟨_, _, rfl, ?_, ?_, (by repeat' (first | (with_reducible exact Below.refl _ _) | (with_reducible assumption) | (with_reducible refine Below.alloc ?_ ?_ _) | (with_reducible refine Below.setCell ?_ ?_ _) | omega | (simp; done) | (simp; omega)))⟩
  · exact ⟨A', c', by rw [List.length_append]; rfl, by rw [List.length_append]; exact hl', RowS.mono (S := fun b => w.heap.size + 4 ≤ b) (by repeat (first | (with_reducible exact Hr.out) | with_reducible refine RowS.setCell ?_ (by omega) _)) (fun b _ h => .inr (by omega))⟩
  · exact IRow.mono (S := fun b => S b ∧ b < w.heap.size) (by repeat (first | (with_reducible exact i1) | with_reducible refine IRow.setCell ?_ (by omega) _)) (fun b _ h => .inl h.1)

set_option maxRecDepth 100000 in
set_option maxHeartbeats 2000000 in
theorem refDo0_no (hl : r0 ≤ l.length) (i0 : IRow S w v0 l) (i1 : IRow S w v1 m) :
    Calls Try.prog 10 #[.agg #[v0, .int .i64 r0, v1, .int .i64 r1], .agg #[.int .i64 0, .int .i64 x]] w (RefDoes S w r0 r1 ⟨l, m, 0, 3, false⟩) := by
  have i0 : IRow (fun b => S b ∧ b < w.heap.size) w v0 l := i0.mono fun b h1 h2 => ⟨h2, h1⟩
  have i1 : IRow (fun b => S b ∧ b < w.heap.size) w v1 m := i1.mono fun b h1 h2 => ⟨h2, h1⟩
  obtain ⟨A0, cc0, rfl, hl0, hr0⟩ := i0
  obtain ⟨A1, cc1, rfl, hl1, hr1⟩ := i1
  have i0 : IRow (fun b => S b ∧ b < w.heap.size) w (.slice A0 l.length cc0) l := ⟨A0, cc0, rfl, hl0, hr0⟩
  have i1 : IRow (fun b => S b ∧ b < w.heap.size) w (.slice A1 m.length cc1) m := ⟨A1, cc1, rfl, hl1, hr1⟩
  clear hr0 hr1
  go_enter Try.func10, Try.ntmps10
  go_wp2_with fail
  refine (rput_full _ _ _ _ _ _ hl).mono ?_
  rintro e w5 ⟨rfl, hb5⟩
  simp only [World.size_alloc] at hb5
  have hs5 : w.heap.size + 4 ≤ w5.heap.size := by have := hb5.size; simp at this; omega
  have q0 := ((((Box.new w 34 #[.slice A0 l.length cc0, .int .i64 r0, .slice A1 m.length cc1, .int .i64 r1]).alloc _).alloc _).alloc _).below hb5 (by omega)
  have q1 := (((Box.new' (w := w.alloc _) (g := w.heap.size + 1) (t := 38) (cs := #[.int .i64 0, .int .i64 x]) (by simp)).alloc _).alloc _).below hb5 (by omega)
  have q2 := ((Box.new' (w := (w.alloc _).alloc _) (g := w.heap.size + 1 + 1) (t := 34) (cs := #[.slice none 0 0, .int .i64 0, .slice none 0 0, .int .i64 0]) (by simp)).alloc _).below hb5 (by omega)
  have q3 := (Box.new' (w := ((w.alloc _).alloc _).alloc _) (g := w.heap.size + 1 + 1 + 1) (t := 31) (cs := #[.slice A0 l.length cc0, .int .i64 r0]) (by simp)).below hb5 (by omega)
  have hb : Below w.heap.size w w5 := ((((((Below.refl _ _).alloc (Nat.le_refl _) _).alloc (by simp) _).alloc (by simp; omega) _).alloc (by simp; omega) _)).trans (hb5.mono (by omega))
  clear hb5
  have i0 := i0.below hb (Nat.le_refl _)
  have i1 := i1.below hb (Nat.le_refl _)
  have c0 := q0.cells
  have f0 := q0.free
  have c1 := q1.cells
  have f1 := q1.free
  have c2 := q2.cells
  have f2 := q2.free
  have c3 := q3.cells
  have f3 := q3.free
  clear q0 q1 q2 q3
  go_wp2_with fail
  refine bodyPost_ret (by unfold results; simp only [Try.results10]; go_simp; rfl) rfl ?_
  refine ⟨_, _, rfl, ?_, ?_, (by repeat' (first | (with_reducible exact Below.refl _ _) | (with_reducible assumption) | (with_reducible refine Below.alloc ?_ ?_ _) | (with_reducible refine Below.setCell ?_ ?_ _) | omega | (simp; done) | (simp; omega)))⟩
  · exact IRow.mono (S := fun b => S b ∧ b < w.heap.size) (by repeat (first | (with_reducible exact i0) | with_reducible refine IRow.setCell ?_ (by omega) _)) (fun b _ h => .inl h.1)
  · exact IRow.mono (S := fun b => S b ∧ b < w.heap.size) (by repeat (first | (with_reducible exact i1) | with_reducible refine IRow.setCell ?_ (by omega) _)) (fun b _ h => .inl h.1)

set_option maxRecDepth 100000 in
set_option maxHeartbeats 2000000 in
theorem refDo1_yes (hl : m.length < r1) (hr : r1 ≤ 1000) (i0 : IRow S w v0 l) (i1 : IRow S w v1 m) :
    Calls Try.prog 10 #[.agg #[v0, .int .i64 r0, v1, .int .i64 r1], .agg #[.int .i64 1, .int .i64 x]] w (RefDoes S w r0 r1 ⟨l, m ++ [x], 0, 0, false⟩) := by
  have i0 : IRow (fun b => S b ∧ b < w.heap.size) w v0 l := i0.mono fun b h1 h2 => ⟨h2, h1⟩
  have i1 : IRow (fun b => S b ∧ b < w.heap.size) w v1 m := i1.mono fun b h1 h2 => ⟨h2, h1⟩
  obtain ⟨A0, cc0, rfl, hl0, hr0⟩ := i0
  obtain ⟨A1, cc1, rfl, hl1, hr1⟩ := i1
  have i0 : IRow (fun b => S b ∧ b < w.heap.size) w (.slice A0 l.length cc0) l := ⟨A0, cc0, rfl, hl0, hr0⟩
  have i1 : IRow (fun b => S b ∧ b < w.heap.size) w (.slice A1 m.length cc1) m := ⟨A1, cc1, rfl, hl1, hr1⟩
  clear hr0 hr1
  go_enter Try.func10, Try.ntmps10
  go_wp2_with fail
  refine (rput_yes _ _ _ _ _ hl hr ((((i1.alloc _).alloc _).alloc _).alloc _)).mono ?_
  rintro e w5 ⟨v', rfl, hv', hb5⟩
  simp only [World.size_alloc] at hb5
  have hs5 : w.heap.size + 4 ≤ w5.heap.size := by have := hb5.size; simp at this; omega
  have q0 := ((((Box.new w 34 #[.slice A0 l.length cc0, .int .i64 r0, .slice A1 m.length cc1, .int .i64 r1]).alloc _).alloc _).alloc _).below hb5 (by omega)
  have q1 := (((Box.new' (w := w.alloc _) (g := w.heap.size + 1) (t := 38) (cs := #[.int .i64 1, .int .i64 x]) (by simp)).alloc _).alloc _).below hb5 (by omega)
  have q2 := ((Box.new' (w := (w.alloc _).alloc _) (g := w.heap.size + 1 + 1) (t := 34) (cs := #[.slice none 0 0, .int .i64 0, .slice none 0 0, .int .i64 0]) (by simp)).alloc _).below hb5 (by omega)
  have q3 := (Box.new' (w := ((w.alloc _).alloc _).alloc _) (g := w.heap.size + 1 + 1 + 1) (t := 31) (cs := #[.slice A1 m.length cc1, .int .i64 r1]) (by simp)).below hb5 (by omega)
  have hb : Below w.heap.size w w5 := ((((((Below.refl _ _).alloc (Nat.le_refl _) _).alloc (by simp) _).alloc (by simp; omega) _).alloc (by simp; omega) _)).trans (hb5.mono (by omega))
  clear hb5
  have i0 := i0.below hb (Nat.le_refl _)
  have i1 := i1.below hb (Nat.le_refl _)
  have hv' : IRow (fun b => w.heap.size + 4 ≤ b) w5 v' (m ++ [x]) := hv'.mono fun b h1 h2 => by simp only [World.size_alloc] at h2; omega
  obtain ⟨A', c', rfl, hl', hr'⟩ := hv'
  have Hr := Lib.hid hr'
  clear hr'
  rewrite [List.length_append, List.length_singleton] at hl' ⊢
  have c0 := q0.cells
  have f0 := q0.free
  have c1 := q1.cells
  have f1 := q1.free
  have c2 := q2.cells
  have f2 := q2.free
  have c3 := q3.cells
  have f3 := q3.free
  clear q0 q1 q2 q3
  go_wp2_with fail
  refine bodyPost_ret (by unfold results; simp only [Try.results10]; go_simp; rfl) rfl ?_
  refine ⟨_, _, rfl, ?_, ?_, (by repeat' (first | (with_reducible exact Below.refl _ _) | (with_reducible assumption) | (with_reducible refine Below.alloc ?_ ?_ _) | (with_reducible refine Below.setCell ?_ ?_ _) | omega | (simp; done) | (simp; omega)))⟩
  · exact IRow.mono (S := fun b => S b ∧ b < w.heap.size) (by repeat (first | (with_reducible exact i0) | with_reducible refine IRow.setCell ?_ (by omega) _)) (fun b _ h => .inl h.1)
  · exact ⟨A', c', by rw [List.length_append]; rfl, by rw [List.length_append]; exact hl', RowS.mono (S := fun b => w.heap.size + 4 ≤ b) (by repeat (first | (with_reducible exact Hr.out) | with_reducible refine RowS.setCell ?_ (by omega) _)) (fun b _ h => .inr (by omega))⟩

set_option maxRecDepth 100000 in
set_option maxHeartbeats 2000000 in
theorem refDo1_no (hl : r1 ≤ m.length) (i0 : IRow S w v0 l) (i1 : IRow S w v1 m) :
    Calls Try.prog 10 #[.agg #[v0, .int .i64 r0, v1, .int .i64 r1], .agg #[.int .i64 1, .int .i64 x]] w (RefDoes S w r0 r1 ⟨l, m, 0, 3, false⟩) := by
  have i0 : IRow (fun b => S b ∧ b < w.heap.size) w v0 l := i0.mono fun b h1 h2 => ⟨h2, h1⟩
  have i1 : IRow (fun b => S b ∧ b < w.heap.size) w v1 m := i1.mono fun b h1 h2 => ⟨h2, h1⟩
  obtain ⟨A0, cc0, rfl, hl0, hr0⟩ := i0
  obtain ⟨A1, cc1, rfl, hl1, hr1⟩ := i1
  have i0 : IRow (fun b => S b ∧ b < w.heap.size) w (.slice A0 l.length cc0) l := ⟨A0, cc0, rfl, hl0, hr0⟩
  have i1 : IRow (fun b => S b ∧ b < w.heap.size) w (.slice A1 m.length cc1) m := ⟨A1, cc1, rfl, hl1, hr1⟩
  clear hr0 hr1
  go_enter Try.func10, Try.ntmps10
  go_wp2_with fail
  refine (rput_full _ _ _ _ _ _ hl).mono ?_
  rintro e w5 ⟨rfl, hb5⟩
  simp only [World.size_alloc] at hb5
  have hs5 : w.heap.size + 4 ≤ w5.heap.size := by have := hb5.size; simp at this; omega
  have q0 := ((((Box.new w 34 #[.slice A0 l.length cc0, .int .i64 r0, .slice A1 m.length cc1, .int .i64 r1]).alloc _).alloc _).alloc _).below hb5 (by omega)
  have q1 := (((Box.new' (w := w.alloc _) (g := w.heap.size + 1) (t := 38) (cs := #[.int .i64 1, .int .i64 x]) (by simp)).alloc _).alloc _).below hb5 (by omega)
  have q2 := ((Box.new' (w := (w.alloc _).alloc _) (g := w.heap.size + 1 + 1) (t := 34) (cs := #[.slice none 0 0, .int .i64 0, .slice none 0 0, .int .i64 0]) (by simp)).alloc _).below hb5 (by omega)
  have q3 := (Box.new' (w := ((w.alloc _).alloc _).alloc _) (g := w.heap.size + 1 + 1 + 1) (t := 31) (cs := #[.slice A1 m.length cc1, .int .i64 r1]) (by simp)).below hb5 (by omega)
  have hb : Below w.heap.size w w5 := ((((((Below.refl _ _).alloc (Nat.le_refl _) _).alloc (by simp) _).alloc (by simp; omega) _).alloc (by simp; omega) _)).trans (hb5.mono (by omega))
  clear hb5
  have i0 := i0.below hb (Nat.le_refl _)
  have i1 := i1.below hb (Nat.le_refl _)
  have c0 := q0.cells
  have f0 := q0.free
  have c1 := q1.cells
  have f1 := q1.free
  have c2 := q2.cells
  have f2 := q2.free
  have c3 := q3.cells
  have f3 := q3.free
  clear q0 q1 q2 q3
  go_wp2_with fail
  refine bodyPost_ret (by unfold results; simp only [Try.results10]; go_simp; rfl) rfl ?_
  refine ⟨_, _, rfl, ?_, ?_, (by repeat' (first | (with_reducible exact Below.refl _ _) | (with_reducible assumption) | (with_reducible refine Below.alloc ?_ ?_ _) | (with_reducible refine Below.setCell ?_ ?_ _) | omega | (simp; done) | (simp; omega)))⟩
  · exact IRow.mono (S := fun b => S b ∧ b < w.heap.size) (by repeat (first | (with_reducible exact i0) | with_reducible refine IRow.setCell ?_ (by omega) _)) (fun b _ h => .inl h.1)
  · exact IRow.mono (S := fun b => S b ∧ b < w.heap.size) (by repeat (first | (with_reducible exact i1) | with_reducible refine IRow.setCell ?_ (by omega) _)) (fun b _ h => .inl h.1)

set_option maxRecDepth 100000 in
set_option maxHeartbeats 2000000 in
theorem refDo2_some {y : Int} {ys : List Int} (hl : ys.length ≤ 1000) (i0 : IRow S w v0 (y :: ys)) (i1 : IRow S w v1 m) :
    Calls Try.prog 10 #[.agg #[v0, .int .i64 r0, v1, .int .i64 r1], .agg #[.int .i64 2, .int .i64 x]] w (RefDoes S w r0 r1 ⟨ys, m, y, 0, true⟩) := by
  have i0 : IRow (fun b => S b ∧ b < w.heap.size) w v0 (y :: ys) := i0.mono fun b h1 h2 => ⟨h2, h1⟩
  have i1 : IRow (fun b => S b ∧ b < w.heap.size) w v1 m := i1.mono fun b h1 h2 => ⟨h2, h1⟩
  obtain ⟨A0, cc0, rfl, hl0, hr0⟩ := i0
  obtain ⟨A1, cc1, rfl, hl1, hr1⟩ := i1
  have i0 : IRow (fun b => S b ∧ b < w.heap.size) w (.slice A0 (y :: ys).length cc0) (y :: ys) := ⟨A0, cc0, rfl, hl0, hr0⟩
  have i1 : IRow (fun b => S b ∧ b < w.heap.size) w (.slice A1 m.length cc1) m := ⟨A1, cc1, rfl, hl1, hr1⟩
  clear hr0 hr1
  go_enter Try.func10, Try.ntmps10
  go_wp2_with fail
  refine (rtake_some _ _ _ _ _ hl ((((i0.alloc _).alloc _).alloc _).alloc _)).mono ?_
  rintro e w5 ⟨v', rfl, hv', hb5⟩
  simp only [World.size_alloc] at hb5
  have hs5 : w.heap.size + 4 ≤ w5.heap.size := by have := hb5.size; simp at this; omega
  have q0 := ((((Box.new w 34 #[.slice A0 (y :: ys).length cc0, .int .i64 r0, .slice A1 m.length cc1, .int .i64 r1]).alloc _).alloc _).alloc _).below hb5 (by omega)
  have q1 := (((Box.new' (w := w.alloc _) (g := w.heap.size + 1) (t := 38) (cs := #[.int .i64 2, .int .i64 x]) (by simp)).alloc _).alloc _).below hb5 (by omega)
  have q2 := ((Box.new' (w := (w.alloc _).alloc _) (g := w.heap.size + 1 + 1) (t := 34) (cs := #[.slice none 0 0, .int .i64 0, .slice none 0 0, .int .i64 0]) (by simp)).alloc _).below hb5 (by omega)
  have q3 := (Box.new' (w := ((w.alloc _).alloc _).alloc _) (g := w.heap.size + 1 + 1 + 1) (t := 31) (cs := #[.slice A0 (y :: ys).length cc0, .int .i64 r0]) (by simp)).below hb5 (by omega)
  have hb : Below w.heap.size w w5 := ((((((Below.refl _ _).alloc (Nat.le_refl _) _).alloc (by simp) _).alloc (by simp; omega) _).alloc (by simp; omega) _)).trans (hb5.mono (by omega))
  clear hb5
  have i0 := i0.below hb (Nat.le_refl _)
  have i1 := i1.below hb (Nat.le_refl _)
  obtain ⟨A', c', rfl, hl', hr'⟩ := hv'
  have Hr := Lib.hid hr'
  clear hr'
  have c0 := q0.cells
  have f0 := q0.free
  have c1 := q1.cells
  have f1 := q1.free
  have c2 := q2.cells
  have f2 := q2.free
  have c3 := q3.cells
  have f3 := q3.free
  clear q0 q1 q2 q3
  go_wp2_with fail
  refine bodyPost_ret (by unfold results; simp only [Try.results10]; go_simp; rfl) rfl ?_
  refine ⟨_, _, rfl, ?_, ?_, (by repeat' (first | (with_reducible exact Below.refl _ _) | (with_reducible assumption) | (with_reducible refine Below.alloc ?_ ?_ _) | (with_reducible refine Below.setCell ?_ ?_ _) | omega | (simp; done) | (simp; omega)))⟩
  · exact ⟨A', c', rfl, hl', RowS.mono (S := fun b => S b ∧ b < w.heap.size) (by repeat (first | (with_reducible exact Hr.out) | with_reducible refine RowS.setCell ?_ (by omega) _)) (fun b _ h => .inl h.1)⟩
  · exact IRow.mono (S := fun b => S b ∧ b < w.heap.size) (by repeat (first | (with_reducible exact i1) | with_reducible refine IRow.setCell ?_ (by omega) _)) (fun b _ h => .inl h.1)

set_option maxRecDepth 100000 in
set_option maxHeartbeats 2000000 in
theorem refDo2_none  (i0 : IRow S w v0 []) (i1 : IRow S w v1 m) :
    Calls Try.prog 10 #[.agg #[v0, .int .i64 r0, v1, .int .i64 r1], .agg #[.int .i64 2, .int .i64 x]] w (RefDoes S w r0 r1 ⟨[], m, 0, 0, false⟩) := by
  have i0 : IRow (fun b => S b ∧ b < w.heap.size) w v0 [] := i0.mono fun b h1 h2 => ⟨h2, h1⟩
  have i1 : IRow (fun b => S b ∧ b < w.heap.size) w v1 m := i1.mono fun b h1 h2 => ⟨h2, h1⟩
  obtain ⟨A0, cc0, rfl, hl0, hr0⟩ := i0
  obtain ⟨A1, cc1, rfl, hl1, hr1⟩ := i1
  have i0 : IRow (fun b => S b ∧ b < w.heap.size) w (.slice A0 0 cc0) [] := ⟨A0, cc0, rfl, hl0, hr0⟩
  have i1 : IRow (fun b => S b ∧ b < w.heap.size) w (.slice A1 m.length cc1) m := ⟨A1, cc1, rfl, hl1, hr1⟩
  clear hr0 hr1
  go_enter Try.func10, Try.ntmps10
  go_wp2_with fail
  refine (rtake_none _ _ _ ((((i0.alloc _).alloc _).alloc _).alloc _)).mono ?_
  rintro e w5 ⟨rfl, hb5⟩
  simp only [World.size_alloc] at hb5
  have hs5 : w.heap.size + 4 ≤ w5.heap.size := by have := hb5.size; simp at this; omega
  have q0 := ((((Box.new w 34 #[.slice A0 0 cc0, .int .i64 r0, .slice A1 m.length cc1, .int .i64 r1]).alloc _).alloc _).alloc _).below hb5 (by omega)
  have q1 := (((Box.new' (w := w.alloc _) (g := w.heap.size + 1) (t := 38) (cs := #[.int .i64 2, .int .i64 x]) (by simp)).alloc _).alloc _).below hb5 (by omega)
  have q2 := ((Box.new' (w := (w.alloc _).alloc _) (g := w.heap.size + 1 + 1) (t := 34) (cs := #[.slice none 0 0, .int .i64 0, .slice none 0 0, .int .i64 0]) (by simp)).alloc _).below hb5 (by omega)
  have q3 := (Box.new' (w := ((w.alloc _).alloc _).alloc _) (g := w.heap.size + 1 + 1 + 1) (t := 31) (cs := #[.slice A0 0 cc0, .int .i64 r0]) (by simp)).below hb5 (by omega)
  have hb : Below w.heap.size w w5 := ((((((Below.refl _ _).alloc (Nat.le_refl _) _).alloc (by simp) _).alloc (by simp; omega) _).alloc (by simp; omega) _)).trans (hb5.mono (by omega))
  clear hb5
  have i0 := i0.below hb (Nat.le_refl _)
  have i1 := i1.below hb (Nat.le_refl _)
  have c0 := q0.cells
  have f0 := q0.free
  have c1 := q1.cells
  have f1 := q1.free
  have c2 := q2.cells
  have f2 := q2.free
  have c3 := q3.cells
  have f3 := q3.free
  clear q0 q1 q2 q3
  go_wp2_with fail
  refine bodyPost_ret (by unfold results; simp only [Try.results10]; go_simp; rfl) rfl ?_
  refine ⟨_, _, rfl, ?_, ?_, (by repeat' (first | (with_reducible exact Below.refl _ _) | (with_reducible assumption) | (with_reducible refine Below.alloc ?_ ?_ _) | (with_reducible refine Below.setCell ?_ ?_ _) | omega | (simp; done) | (simp; omega)))⟩
  · exact IRow.mono (S := fun b => S b ∧ b < w.heap.size) (by repeat (first | (with_reducible exact i0) | with_reducible refine IRow.setCell ?_ (by omega) _)) (fun b _ h => .inl h.1)
  · exact IRow.mono (S := fun b => S b ∧ b < w.heap.size) (by repeat (first | (with_reducible exact i1) | with_reducible refine IRow.setCell ?_ (by omega) _)) (fun b _ h => .inl h.1)

set_option maxRecDepth 100000 in
set_option maxHeartbeats 2000000 in
theorem refDo3_some {y : Int} {ys : List Int} (hl : ys.length ≤ 1000) (i0 : IRow S w v0 l) (i1 : IRow S w v1 (y :: ys)) :
    Calls Try.prog 10 #[.agg #[v0, .int .i64 r0, v1, .int .i64 r1], .agg #[.int .i64 3, .int .i64 x]] w (RefDoes S w r0 r1 ⟨l, ys, y, 0, true⟩) := by
  have i0 : IRow (fun b => S b ∧ b < w.heap.size) w v0 l := i0.mono fun b h1 h2 => ⟨h2, h1⟩
  have i1 : IRow (fun b => S b ∧ b < w.heap.size) w v1 (y :: ys) := i1.mono fun b h1 h2 => ⟨h2, h1⟩
  obtain ⟨A0, cc0, rfl, hl0, hr0⟩ := i0
  obtain ⟨A1, cc1, rfl, hl1, hr1⟩ := i1
  have i0 : IRow (fun b => S b ∧ b < w.heap.size) w (.slice A0 l.length cc0) l := ⟨A0, cc0, rfl, hl0, hr0⟩
  have i1 : IRow (fun b => S b ∧ b < w.heap.size) w (.slice A1 (y :: ys).length cc1) (y :: ys) := ⟨A1, cc1, rfl, hl1, hr1⟩
  clear hr0 hr1
  go_enter Try.func10, Try.ntmps10
  go_wp2_with fail
  refine (rtake_some _ _ _ _ _ hl ((((i1.alloc _).alloc _).alloc _).alloc _)).mono ?_
  rintro e w5 ⟨v', rfl, hv', hb5⟩
  simp only [World.size_alloc] at hb5
  have hs5 : w.heap.size + 4 ≤ w5.heap.size := by have := hb5.size; simp at this; omega
  have q0 := ((((Box.new w 34 #[.slice A0 l.length cc0, .int .i64 r0, .slice A1 (y :: ys).length cc1, .int .i64 r1]).alloc _).alloc _).alloc _).below hb5 (by omega)
  have q1 := (((Box.new' (w := w.alloc _) (g := w.heap.size + 1) (t := 38) (cs := #[.int .i64 3, .int .i64 x]) (by simp)).alloc _).alloc _).below hb5 (by omega)
  have q2 := ((Box.new' (w := (w.alloc _).alloc _) (g := w.heap.size + 1 + 1) (t := 34) (cs := #[.slice none 0 0, .int .i64 0, .slice none 0 0, .int .i64 0]) (by simp)).alloc _).below hb5 (by omega)
  have q3 := (Box.new' (w := ((w.alloc _).alloc _).alloc _) (g := w.heap.size + 1 + 1 + 1) (t := 31) (cs := #[.slice A1 (y :: ys).length cc1, .int .i64 r1]) (by simp)).below hb5 (by omega)
  have hb : Below w.heap.size w w5 := ((((((Below.refl _ _).alloc (Nat.le_refl _) _).alloc (by simp) _).alloc (by simp; omega) _).alloc (by simp; omega) _)).trans (hb5.mono (by omega))
  clear hb5
  have i0 := i0.below hb (Nat.le_refl _)
  have i1 := i1.below hb (Nat.le_refl _)
  obtain ⟨A', c', rfl, hl', hr'⟩ := hv'
  have Hr := Lib.hid hr'
  clear hr'
  have c0 := q0.cells
  have f0 := q0.free
  have c1 := q1.cells
  have f1 := q1.free
  have c2 := q2.cells
  have f2 := q2.free
  have c3 := q3.cells
  have f3 := q3.free
  clear q0 q1 q2 q3
  go_wp2_with fail
  refine bodyPost_ret (by unfold results; simp only [Try.results10]; go_simp; rfl) rfl ?_
  refine ⟨_, _, rfl, ?_, ?_, (by repeat' (first | (with_reducible exact Below.refl _ _) | (with_reducible assumption) | (with_reducible refine Below.alloc ?_ ?_ _) | (with_reducible refine Below.setCell ?_ ?_ _) | omega | (simp; done) | (simp; omega)))⟩
  · exact IRow.mono (S := fun b => S b ∧ b < w.heap.size) (by repeat (first | (with_reducible exact i0) | with_reducible refine IRow.setCell ?_ (by omega) _)) (fun b _ h => .inl h.1)
  · exact ⟨A', c', rfl, hl', RowS.mono (S := fun b => S b ∧ b < w.heap.size) (by repeat (first | (with_reducible exact Hr.out) | with_reducible refine RowS.setCell ?_ (by omega) _)) (fun b _ h => .inl h.1)⟩

set_option maxRecDepth 100000 in
set_option maxHeartbeats 2000000 in
theorem refDo3_none  (i0 : IRow S w v0 l) (i1 : IRow S w v1 []) :
    Calls Try.prog 10 #[.agg #[v0, .int .i64 r0, v1, .int .i64 r1], .agg #[.int .i64 3, .int .i64 x]] w (RefDoes S w r0 r1 ⟨l, [], 0, 0, false⟩) := by
  have i0 : IRow (fun b => S b ∧ b < w.heap.size) w v0 l := i0.mono fun b h1 h2 => ⟨h2, h1⟩
  have i1 : IRow (fun b => S b ∧ b < w.heap.size) w v1 [] := i1.mono fun b h1 h2 => ⟨h2, h1⟩
  obtain ⟨A0, cc0, rfl, hl0, hr0⟩ := i0
  obtain ⟨A1, cc1, rfl, hl1, hr1⟩ := i1
  have i0 : IRow (fun b => S b ∧ b < w.heap.size) w (.slice A0 l.length cc0) l := ⟨A0, cc0, rfl, hl0, hr0⟩
  have i1 : IRow (fun b => S b ∧ b < w.heap.size) w (.slice A1 0 cc1) [] := ⟨A1, cc1, rfl, hl1, hr1⟩
  clear hr0 hr1
  go_enter Try.func10, Try.ntmps10
  go_wp2_with fail
  refine (rtake_none _ _ _ ((((i1.alloc _).alloc _).alloc _).alloc _)).mono ?_
  rintro e w5 ⟨rfl, hb5⟩
  simp only [World.size_alloc] at hb5
  have hs5 : w.heap.size + 4 ≤ w5.heap.size := by have := hb5.size; simp at this; omega
  have q0 := ((((Box.new w 34 #[.slice A0 l.length cc0, .int .i64 r0, .slice A1 0 cc1, .int .i64 r1]).alloc _).alloc _).alloc _).below hb5 (by omega)
  have q1 := (((Box.new' (w := w.alloc _) (g := w.heap.size + 1) (t := 38) (cs := #[.int .i64 3, .int .i64 x]) (by simp)).alloc _).alloc _).below hb5 (by omega)
  have q2 := ((Box.new' (w := (w.alloc _).alloc _) (g := w.heap.size + 1 + 1) (t := 34) (cs := #[.slice none 0 0, .int .i64 0, .slice none 0 0, .int .i64 0]) (by simp)).alloc _).below hb5 (by omega)
  have q3 := (Box.new' (w := ((w.alloc _).alloc _).alloc _) (g := w.heap.size + 1 + 1 + 1) (t := 31) (cs := #[.slice A1 0 cc1, .int .i64 r1]) (by simp)).below hb5 (by omega)
  have hb : Below w.heap.size w w5 := ((((((Below.refl _ _).alloc (Nat.le_refl _) _).alloc (by simp) _).alloc (by simp; omega) _).alloc (by simp; omega) _)).trans (hb5.mono (by omega))
  clear hb5
  have i0 := i0.below hb (Nat.le_refl _)
  have i1 := i1.below hb (Nat.le_refl _)
  have c0 := q0.cells
  have f0 := q0.free
  have c1 := q1.cells
  have f1 := q1.free
  have c2 := q2.cells
  have f2 := q2.free
  have c3 := q3.cells
  have f3 := q3.free
  clear q0 q1 q2 q3
  go_wp2_with fail
  refine bodyPost_ret (by unfold results; simp only [Try.results10]; go_simp; rfl) rfl ?_
  refine ⟨_, _, rfl, ?_, ?_, (by repeat' (first | (with_reducible exact Below.refl _ _) | (with_reducible assumption) | (with_reducible refine Below.alloc ?_ ?_ _) | (with_reducible refine Below.setCell ?_ ?_ _) | omega | (simp; done) | (simp; omega)))⟩
  · exact IRow.mono (S := fun b => S b ∧ b < w.heap.size) (by repeat (first | (with_reducible exact i0) | with_reducible refine IRow.setCell ?_ (by omega) _)) (fun b _ h => .inl h.1)
  · exact IRow.mono (S := fun b => S b ∧ b < w.heap.size) (by repeat (first | (with_reducible exact i1) | with_reducible refine IRow.setCell ?_ (by omega) _)) (fun b _ h => .inl h.1)

set_option maxRecDepth 100000 in
set_option maxHeartbeats 2000000 in
theorem refDo4_fst {y : Int} {ys : List Int} (hl : ys.length ≤ 1000) (hk : kind < 0) (i0 : IRow S w v0 (y :: ys)) (i1 : IRow S w v1 m) :
    Calls Try.prog 10 #[.agg #[v0, .int .i64 r0, v1, .int .i64 r1], .agg #[.int .i64 kind, .int .i64 x]] w (RefDoes S w r0 r1 ⟨ys, m, y, 0, true⟩) := by
  have i0 : IRow (fun b => S b ∧ b < w.heap.size) w v0 (y :: ys) := i0.mono fun b h1 h2 => ⟨h2, h1⟩
  have i1 : IRow (fun b => S b ∧ b < w.heap.size) w v1 m := i1.mono fun b h1 h2 => ⟨h2, h1⟩
  obtain ⟨A0, cc0, rfl, hl0, hr0⟩ := i0
  obtain ⟨A1, cc1, rfl, hl1, hr1⟩ := i1
  have i0 : IRow (fun b => S b ∧ b < w.heap.size) w (.slice A0 (y :: ys).length cc0) (y :: ys) := ⟨A0, cc0, rfl, hl0, hr0⟩
  have i1 : IRow (fun b => S b ∧ b < w.heap.size) w (.slice A1 m.length cc1) m := ⟨A1, cc1, rfl, hl1, hr1⟩
  clear hr0 hr1
  have b0 : (kind == 0) = false := beq_eq_false_iff_ne.2 (by omega)
  have b1 : (kind == 1) = false := beq_eq_false_iff_ne.2 (by omega)
  have b3 : (kind == 3) = false := beq_eq_false_iff_ne.2 (by omega)
  go_enter Try.func10, Try.ntmps10
  go_wp2_with fail
  refine (rtake_some _ _ _ _ _ hl ((((i0.alloc _).alloc _).alloc _).alloc _)).mono ?_
  rintro e w5 ⟨v', rfl, hv', hb5⟩
  simp only [World.size_alloc] at hb5
  have hs5 : w.heap.size + 4 ≤ w5.heap.size := by have := hb5.size; simp at this; omega
  have q0 := ((((Box.new w 34 #[.slice A0 (y :: ys).length cc0, .int .i64 r0, .slice A1 m.length cc1, .int .i64 r1]).alloc _).alloc _).alloc _).below hb5 (by omega)
  have q1 := (((Box.new' (w := w.alloc _) (g := w.heap.size + 1) (t := 38) (cs := #[.int .i64 kind, .int .i64 x]) (by simp)).alloc _).alloc _).below hb5 (by omega)
  have q2 := ((Box.new' (w := (w.alloc _).alloc _) (g := w.heap.size + 1 + 1) (t := 34) (cs := #[.slice none 0 0, .int .i64 0, .slice none 0 0, .int .i64 0]) (by simp)).alloc _).below hb5 (by omega)
  have q3 := (Box.new' (w := ((w.alloc _).alloc _).alloc _) (g := w.heap.size + 1 + 1 + 1) (t := 31) (cs := #[.slice A0 (y :: ys).length cc0, .int .i64 r0]) (by simp)).below hb5 (by omega)
  have hb : Below w.heap.size w w5 := ((((((Below.refl _ _).alloc (Nat.le_refl _) _).alloc (by simp) _).alloc (by simp; omega) _).alloc (by simp; omega) _)).trans (hb5.mono (by omega))
  clear hb5
  have i0 := i0.below hb (Nat.le_refl _)
  have i1 := i1.below hb (Nat.le_refl _)
  obtain ⟨A', c', rfl, hl', hr'⟩ := hv'
  have Hr := Lib.hid hr'
  clear hr'
  have c0 := q0.cells
  have f0 := q0.free
  have c1 := q1.cells
  have f1 := q1.free
  have c2 := q2.cells
  have f2 := q2.free
  have c3 := q3.cells
  have f3 := q3.free
  clear q0 q1 q2 q3
  go_wp2_with fail
  refine bodyPost_ret (by unfold results; simp only [Try.results10]; go_simp; rfl) rfl ?_
  refine ⟨_, _, rfl, ?_, ?_, (by repeat' (first | (with_reducible exact Below.refl _ _) | (with_reducible assumption) | (with_reducible refine Below.alloc ?_ ?_ _) | (with_reducible refine Below.setCell ?_ ?_ _) | omega | (simp; done) | (simp; omega)))⟩
  · exact ⟨A', c', rfl, hl', RowS.mono (S := fun b => S b ∧ b < w.heap.size) (by repeat (first | (with_reducible exact Hr.out) | with_reducible refine RowS.setCell ?_ (by omega) _)) (fun b _ h => .inl h.1)⟩
  · exact IRow.mono (S := fun b => S b ∧ b < w.heap.size) (by repeat (first | (with_reducible exact i1) | with_reducible refine IRow.setCell ?_ (by omega) _)) (fun b _ h => .inl h.1)

set_option maxRecDepth 100000 in
set_option maxHeartbeats 2000000 in
theorem refDo4_snd {y : Int} {ys : List Int} (hl : ys.length ≤ 1000) (hk : kind < 0) (i0 : IRow S w v0 []) (i1 : IRow S w v1 (y :: ys)) :
    Calls Try.prog 10 #[.agg #[v0, .int .i64 r0, v1, .int .i64 r1], .agg #[.int .i64 kind, .int .i64 x]] w (RefDoes S w r0 r1 ⟨[], ys, y, 0, true⟩) := by
  have i0 : IRow (fun b => S b ∧ b < w.heap.size) w v0 [] := i0.mono fun b h1 h2 => ⟨h2, h1⟩
  have i1 : IRow (fun b => S b ∧ b < w.heap.size) w v1 (y :: ys) := i1.mono fun b h1 h2 => ⟨h2, h1⟩
  obtain ⟨A0, cc0, rfl, hl0, hr0⟩ := i0
  obtain ⟨A1, cc1, rfl, hl1, hr1⟩ := i1
  have i0 : IRow (fun b => S b ∧ b < w.heap.size) w (.slice A0 0 cc0) [] := ⟨A0, cc0, rfl, hl0, hr0⟩
  have i1 : IRow (fun b => S b ∧ b < w.heap.size) w (.slice A1 (y :: ys).length cc1) (y :: ys) := ⟨A1, cc1, rfl, hl1, hr1⟩
  clear hr0 hr1
  have b0 : (kind == 0) = false := beq_eq_false_iff_ne.2 (by omega)
  have b1 : (kind == 1) = false := beq_eq_false_iff_ne.2 (by omega)
  have b3 : (kind == 3) = false := beq_eq_false_iff_ne.2 (by omega)
  go_enter Try.func10, Try.ntmps10
  go_wp2_with fail
  refine (rtake_some _ _ _ _ _ hl ((((i1.alloc _).alloc _).alloc _).alloc _)).mono ?_
  rintro e w5 ⟨v', rfl, hv', hb5⟩
  simp only [World.size_alloc] at hb5
  have hs5 : w.heap.size + 4 ≤ w5.heap.size := by have := hb5.size; simp at this; omega
  have q0 := ((((Box.new w 34 #[.slice A0 0 cc0, .int .i64 r0, .slice A1 (y :: ys).length cc1, .int .i64 r1]).alloc _).alloc _).alloc _).below hb5 (by omega)
  have q1 := (((Box.new' (w := w.alloc _) (g := w.heap.size + 1) (t := 38) (cs := #[.int .i64 kind, .int .i64 x]) (by simp)).alloc _).alloc _).below hb5 (by omega)
  have q2 := ((Box.new' (w := (w.alloc _).alloc _) (g := w.heap.size + 1 + 1) (t := 34) (cs := #[.slice none 0 0, .int .i64 0, .slice none 0 0, .int .i64 0]) (by simp)).alloc _).below hb5 (by omega)
  have q3 := (Box.new' (w := ((w.alloc _).alloc _).alloc _) (g := w.heap.size + 1 + 1 + 1) (t := 31) (cs := #[.slice A1 (y :: ys).length cc1, .int .i64 r1]) (by simp)).below hb5 (by omega)
  have hb : Below w.heap.size w w5 := ((((((Below.refl _ _).alloc (Nat.le_refl _) _).alloc (by simp) _).alloc (by simp; omega) _).alloc (by simp; omega) _)).trans (hb5.mono (by omega))
  clear hb5
  have i0 := i0.below hb (Nat.le_refl _)
  have i1 := i1.below hb (Nat.le_refl _)
  obtain ⟨A', c', rfl, hl', hr'⟩ := hv'
  have Hr := Lib.hid hr'
  clear hr'
  have c0 := q0.cells
  have f0 := q0.free
  have c1 := q1.cells
  have f1 := q1.free
  have c2 := q2.cells
  have f2 := q2.free
  have c3 := q3.cells
  have f3 := q3.free
  clear q0 q1 q2 q3
  go_wp2_with fail
  refine bodyPost_ret (by unfold results; simp only [Try.results10]; go_simp; rfl) rfl ?_
  refine ⟨_, _, rfl, ?_, ?_, (by repeat' (first | (with_reducible exact Below.refl _ _) | (with_reducible assumption) | (with_reducible refine Below.alloc ?_ ?_ _) | (with_reducible refine Below.setCell ?_ ?_ _) | omega | (simp; done) | (simp; omega)))⟩
  · exact IRow.mono (S := fun b => S b ∧ b < w.heap.size) (by repeat (first | (with_reducible exact i0) | with_reducible refine IRow.setCell ?_ (by omega) _)) (fun b _ h => .inl h.1)
  · exact ⟨A', c', rfl, hl', RowS.mono (S := fun b => S b ∧ b < w.heap.size) (by repeat (first | (with_reducible exact Hr.out) | with_reducible refine RowS.setCell ?_ (by omega) _)) (fun b _ h => .inl h.1)⟩

set_option maxRecDepth 100000 in
set_option maxHeartbeats 2000000 in
theorem refDo4_none  (hk : kind < 0) (i0 : IRow S w v0 []) (i1 : IRow S w v1 []) :
    Calls Try.prog 10 #[.agg #[v0, .int .i64 r0, v1, .int .i64 r1], .agg #[.int .i64 kind, .int .i64 x]] w (RefDoes S w r0 r1 ⟨[], [], 0, 0, false⟩) := by
  have i0 : IRow (fun b => S b ∧ b < w.heap.size) w v0 [] := i0.mono fun b h1 h2 => ⟨h2, h1⟩
  have i1 : IRow (fun b => S b ∧ b < w.heap.size) w v1 [] := i1.mono fun b h1 h2 => ⟨h2, h1⟩
  obtain ⟨A0, cc0, rfl, hl0, hr0⟩ := i0
  obtain ⟨A1, cc1, rfl, hl1, hr1⟩ := i1
  have i0 : IRow (fun b => S b ∧ b < w.heap.size) w (.slice A0 0 cc0) [] := ⟨A0, cc0, rfl, hl0, hr0⟩
  have i1 : IRow (fun b => S b ∧ b < w.heap.size) w (.slice A1 0 cc1) [] := ⟨A1, cc1, rfl, hl1, hr1⟩
  clear hr0 hr1
  have b0 : (kind == 0) = false := beq_eq_false_iff_ne.2 (by omega)
  have b1 : (kind == 1) = false := beq_eq_false_iff_ne.2 (by omega)
  have b3 : (kind == 3) = false := beq_eq_false_iff_ne.2 (by omega)
  go_enter Try.func10, Try.ntmps10
  go_wp2_with fail
  refine (rtake_none _ _ _ ((((i1.alloc _).alloc _).alloc _).alloc _)).mono ?_
  rintro e w5 ⟨rfl, hb5⟩
  simp only [World.size_alloc] at hb5
  have hs5 : w.heap.size + 4 ≤ w5.heap.size := by have := hb5.size; simp at this; omega
  have q0 := ((((Box.new w 34 #[.slice A0 0 cc0, .int .i64 r0, .slice A1 0 cc1, .int .i64 r1]).alloc _).alloc _).alloc _).below hb5 (by omega)
  have q1 := (((Box.new' (w := w.alloc _) (g := w.heap.size + 1) (t := 38) (cs := #[.int .i64 kind, .int .i64 x]) (by simp)).alloc _).alloc _).below hb5 (by omega)
  have q2 := ((Box.new' (w := (w.alloc _).alloc _) (g := w.heap.size + 1 + 1) (t := 34) (cs := #[.slice none 0 0, .int .i64 0, .slice none 0 0, .int .i64 0]) (by simp)).alloc _).below hb5 (by omega)
  have q3 := (Box.new' (w := ((w.alloc _).alloc _).alloc _) (g := w.heap.size + 1 + 1 + 1) (t := 31) (cs := #[.slice A1 0 cc1, .int .i64 r1]) (by simp)).below hb5 (by omega)
  have hb : Below w.heap.size w w5 := ((((((Below.refl _ _).alloc (Nat.le_refl _) _).alloc (by simp) _).alloc (by simp; omega) _).alloc (by simp; omega) _)).trans (hb5.mono (by omega))
  clear hb5
  have i0 := i0.below hb (Nat.le_refl _)
  have i1 := i1.below hb (Nat.le_refl _)
  have c0 := q0.cells
  have f0 := q0.free
  have c1 := q1.cells
  have f1 := q1.free
  have c2 := q2.cells
  have f2 := q2.free
  have c3 := q3.cells
  have f3 := q3.free
  clear q0 q1 q2 q3
  go_wp2_with fail
  refine bodyPost_ret (by unfold results; simp only [Try.results10]; go_simp; rfl) rfl ?_
  refine ⟨_, _, rfl, ?_, ?_, (by repeat' (first | (with_reducible exact Below.refl _ _) | (with_reducible assumption) | (with_reducible refine Below.alloc ?_ ?_ _) | (with_reducible refine Below.setCell ?_ ?_ _) | omega | (simp; done) | (simp; omega)))⟩
  · exact IRow.mono (S := fun b => S b ∧ b < w.heap.size) (by repeat (first | (with_reducible exact i0) | with_reducible refine IRow.setCell ?_ (by omega) _)) (fun b _ h => .inl h.1)
  · exact IRow.mono (S := fun b => S b ∧ b < w.heap.size) (by repeat (first | (with_reducible exact i1) | with_reducible refine IRow.setCell ?_ (by omega) _)) (fun b _ h => .inl h.1)

set_option maxRecDepth 100000 in
set_option maxHeartbeats 2000000 in
theorem refDo5_fst {y : Int} {ys : List Int} (hl : ys.length ≤ 1000) (hk : 3 < kind) (i0 : IRow S w v0 (y :: ys)) (i1 : IRow S w v1 m) :
    Calls Try.prog 10 #[.agg #[v0, .int .i64 r0, v1, .int .i64 r1], .agg #[.int .i64 kind, .int .i64 x]] w (RefDoes S w r0 r1 ⟨ys, m, y, 0, true⟩) := by
  have i0 : IRow (fun b => S b ∧ b < w.heap.size) w v0 (y :: ys) := i0.mono fun b h1 h2 => ⟨h2, h1⟩
  have i1 : IRow (fun b => S b ∧ b < w.heap.size) w v1 m := i1.mono fun b h1 h2 => ⟨h2, h1⟩
  obtain ⟨A0, cc0, rfl, hl0, hr0⟩ := i0
  obtain ⟨A1, cc1, rfl, hl1, hr1⟩ := i1
  have i0 : IRow (fun b => S b ∧ b < w.heap.size) w (.slice A0 (y :: ys).length cc0) (y :: ys) := ⟨A0, cc0, rfl, hl0, hr0⟩
  have i1 : IRow (fun b => S b ∧ b < w.heap.size) w (.slice A1 m.length cc1) m := ⟨A1, cc1, rfl, hl1, hr1⟩
  clear hr0 hr1
  have b0 : (kind == 0) = false := beq_eq_false_iff_ne.2 (by omega)
  have b1 : (kind == 1) = false := beq_eq_false_iff_ne.2 (by omega)
  have b3 : (kind == 3) = false := beq_eq_false_iff_ne.2 (by omega)
  go_enter Try.func10, Try.ntmps10
  go_wp2_with fail
  refine (rtake_some _ _ _ _ _ hl ((((i0.alloc _).alloc _).alloc _).alloc _)).mono ?_
  rintro e w5 ⟨v', rfl, hv', hb5⟩
  simp only [World.size_alloc] at hb5
  have hs5 : w.heap.size + 4 ≤ w5.heap.size := by have := hb5.size; simp at this; omega
  have q0 := ((((Box.new w 34 #[.slice A0 (y :: ys).length cc0, .int .i64 r0, .slice A1 m.length cc1, .int .i64 r1]).alloc _).alloc _).alloc _).below hb5 (by omega)
  have q1 := (((Box.new' (w := w.alloc _) (g := w.heap.size + 1) (t := 38) (cs := #[.int .i64 kind, .int .i64 x]) (by simp)).alloc _).alloc _).below hb5 (by omega)
  have q2 := ((Box.new' (w := (w.alloc _).alloc _) (g := w.heap.size + 1 + 1) (t := 34) (cs := #[.slice none 0 0, .int .i64 0, .slice none 0 0, .int .i64 0]) (by simp)).alloc _).below hb5 (by omega)
  have q3 := (Box.new' (w := ((w.alloc _).alloc _).alloc _) (g := w.heap.size + 1 + 1 + 1) (t := 31) (cs := #[.slice A0 (y :: ys).length cc0, .int .i64 r0]) (by simp)).below hb5 (by omega)
  have hb : Below w.heap.size w w5 := ((((((Below.refl _ _).alloc (Nat.le_refl _) _).alloc (by simp) _).alloc (by simp; omega) _).alloc (by simp; omega) _)).trans (hb5.mono (by omega))
  clear hb5
  have i0 := i0.below hb (Nat.le_refl _)
  have i1 := i1.below hb (Nat.le_refl _)
  obtain ⟨A', c', rfl, hl', hr'⟩ := hv'
  have Hr := Lib.hid hr'
  clear hr'
  have c0 := q0.cells
  have f0 := q0.free
  have c1 := q1.cells
  have f1 := q1.free
  have c2 := q2.cells
  have f2 := q2.free
  have c3 := q3.cells
  have f3 := q3.free
  clear q0 q1 q2 q3
  go_wp2_with fail
  refine bodyPost_ret (by unfold results; simp only [Try.results10]; go_simp; rfl) rfl ?_
  refine ⟨_, _, rfl, ?_, ?_, (by repeat' (first | (with_reducible exact Below.refl _ _) | (with_reducible assumption) | (with_reducible refine Below.alloc ?_ ?_ _) | (with_reducible refine Below.setCell ?_ ?_ _) | omega | (simp; done) | (simp; omega)))⟩
  · exact ⟨A', c', rfl, hl', RowS.mono (S := fun b => S b ∧ b < w.heap.size) (by repeat (first | (with_reducible exact Hr.out) | with_reducible refine RowS.setCell ?_ (by omega) _)) (fun b _ h => .inl h.1)⟩
  · exact IRow.mono (S := fun b => S b ∧ b < w.heap.size) (by repeat (first | (with_reducible exact i1) | with_reducible refine IRow.setCell ?_ (by omega) _)) (fun b _ h => .inl h.1)

set_option maxRecDepth 100000 in
set_option maxHeartbeats 2000000 in
theorem refDo5_snd {y : Int} {ys : List Int} (hl : ys.length ≤ 1000) (hk : 3 < kind) (i0 : IRow S w v0 []) (i1 : IRow S w v1 (y :: ys)) :
    Calls Try.prog 10 #[.agg #[v0, .int .i64 r0, v1, .int .i64 r1], .agg #[.int .i64 kind, .int .i64 x]] w (RefDoes S w r0 r1 ⟨[], ys, y, 0, true⟩) := by
  have i0 : IRow (fun b => S b ∧ b < w.heap.size) w v0 [] := i0.mono fun b h1 h2 => ⟨h2, h1⟩
  have i1 : IRow (fun b => S b ∧ b < w.heap.size) w v1 (y :: ys) := i1.mono fun b h1 h2 => ⟨h2, h1⟩
  obtain ⟨A0, cc0, rfl, hl0, hr0⟩ := i0
  obtain ⟨A1, cc1, rfl, hl1, hr1⟩ := i1
  have i0 : IRow (fun b => S b ∧ b < w.heap.size) w (.slice A0 0 cc0) [] := ⟨A0, cc0, rfl, hl0, hr0⟩
  have i1 : IRow (fun b => S b ∧ b < w.heap.size) w (.slice A1 (y :: ys).length cc1) (y :: ys) := ⟨A1, cc1, rfl, hl1, hr1⟩
  clear hr0 hr1
  have b0 : (kind == 0) = false := beq_eq_false_iff_ne.2 (by omega)
  have b1 : (kind == 1) = false := beq_eq_false_iff_ne.2 (by omega)
  have b3 : (kind == 3) = false := beq_eq_false_iff_ne.2 (by omega)
  go_enter Try.func10, Try.ntmps10
  go_wp2_with fail
  refine (rtake_some _ _ _ _ _ hl ((((i1.alloc _).alloc _).alloc _).alloc _)).mono ?_
  rintro e w5 ⟨v', rfl, hv', hb5⟩
  simp only [World.size_alloc] at hb5
  have hs5 : w.heap.size + 4 ≤ w5.heap.size := by have := hb5.size; simp at this; omega
  have q0 := ((((Box.new w 34 #[.slice A0 0 cc0, .int .i64 r0, .slice A1 (y :: ys).length cc1, .int .i64 r1]).alloc _).alloc _).alloc _).below hb5 (by omega)
  have q1 := (((Box.new' (w := w.alloc _) (g := w.heap.size + 1) (t := 38) (cs := #[.int .i64 kind, .int .i64 x]) (by simp)).alloc _).alloc _).below hb5 (by omega)
  have q2 := ((Box.new' (w := (w.alloc _).alloc _) (g := w.heap.size + 1 + 1) (t := 34) (cs := #[.slice none 0 0, .int .i64 0, .slice none 0 0, .int .i64 0]) (by simp)).alloc _).below hb5 (by omega)
  have q3 := (Box.new' (w := ((w.alloc _).alloc _).alloc _) (g := w.heap.size + 1 + 1 + 1) (t := 31) (cs := #[.slice A1 (y :: ys).length cc1, .int .i64 r1]) (by simp)).below hb5 (by omega)
  have hb : Below w.heap.size w w5 := ((((((Below.refl _ _).alloc (Nat.le_refl _) _).alloc (by simp) _).alloc (by simp; omega) _).alloc (by simp; omega) _)).trans (hb5.mono (by omega))
  clear hb5
  have i0 := i0.below hb (Nat.le_refl _)
  have i1 := i1.below hb (Nat.le_refl _)
  obtain ⟨A', c', rfl, hl', hr'⟩ := hv'
  have Hr := Lib.hid hr'
  clear hr'
  have c0 := q0.cells
  have f0 := q0.free
  have c1 := q1.cells
  have f1 := q1.free
  have c2 := q2.cells
  have f2 := q2.free
  have c3 := q3.cells
  have f3 := q3.free
  clear q0 q1 q2 q3
  go_wp2_with fail
  refine bodyPost_ret (by unfold results; simp only [Try.results10]; go_simp; rfl) rfl ?_
  refine ⟨_, _, rfl, ?_, ?_, (by repeat' (first | (with_reducible exact Below.refl _ _) | (with_reducible assumption) | (with_reducible refine Below.alloc ?_ ?_ _) | (with_reducible refine Below.setCell ?_ ?_ _) | omega | (simp; done) | (simp; omega)))⟩
  · exact IRow.mono (S := fun b => S b ∧ b < w.heap.size) (by repeat (first | (with_reducible exact i0) | with_reducible refine IRow.setCell ?_ (by omega) _)) (fun b _ h => .inl h.1)
  · exact ⟨A', c', rfl, hl', RowS.mono (S := fun b => S b ∧ b < w.heap.size) (by repeat (first | (with_reducible exact Hr.out) | with_reducible refine RowS.setCell ?_ (by omega) _)) (fun b _ h => .inl h.1)⟩

set_option maxRecDepth 100000 in
set_option maxHeartbeats 2000000 in
theorem refDo5_none  (hk : 3 < kind) (i0 : IRow S w v0 []) (i1 : IRow S w v1 []) :
    Calls Try.prog 10 #[.agg #[v0, .int .i64 r0, v1, .int .i64 r1], .agg #[.int .i64 kind, .int .i64 x]] w (RefDoes S w r0 r1 ⟨[], [], 0, 0, false⟩) := by
  have i0 : IRow (fun b => S b ∧ b < w.heap.size) w v0 [] := i0.mono fun b h1 h2 => ⟨h2, h1⟩
  have i1 : IRow (fun b => S b ∧ b < w.heap.size) w v1 [] := i1.mono fun b h1 h2 => ⟨h2, h1⟩
  obtain ⟨A0, cc0, rfl, hl0, hr0⟩ := i0
  obtain ⟨A1, cc1, rfl, hl1, hr1⟩ := i1
  have i0 : IRow (fun b => S b ∧ b < w.heap.size) w (.slice A0 0 cc0) [] := ⟨A0, cc0, rfl, hl0, hr0⟩
  have i1 : IRow (fun b => S b ∧ b < w.heap.size) w (.slice A1 0 cc1) [] := ⟨A1, cc1, rfl, hl1, hr1⟩
  clear hr0 hr1
  have b0 : (kind == 0) = false := beq_eq_false_iff_ne.2 (by omega)
  have b1 : (kind == 1) = false := beq_eq_false_iff_ne.2 (by omega)
  have b3 : (kind == 3) = false := beq_eq_false_iff_ne.2 (by omega)
  go_enter Try.func10, Try.ntmps10
  go_wp2_with fail
  refine (rtake_none _ _ _ ((((i1.alloc _).alloc _).alloc _).alloc _)).mono ?_
  rintro e w5 ⟨rfl, hb5⟩
  simp only [World.size_alloc] at hb5
  have hs5 : w.heap.size + 4 ≤ w5.heap.size := by have := hb5.size; simp at this; omega
  have q0 := ((((Box.new w 34 #[.slice A0 0 cc0, .int .i64 r0, .slice A1 0 cc1, .int .i64 r1]).alloc _).alloc _).alloc _).below hb5 (by omega)
  have q1 := (((Box.new' (w := w.alloc _) (g := w.heap.size + 1) (t := 38) (cs := #[.int .i64 kind, .int .i64 x]) (by simp)).alloc _).alloc _).below hb5 (by omega)
  have q2 := ((Box.new' (w := (w.alloc _).alloc _) (g := w.heap.size + 1 + 1) (t := 34) (cs := #[.slice none 0 0, .int .i64 0, .slice none 0 0, .int .i64 0]) (by simp)).alloc _).below hb5 (by omega)
  have q3 := (Box.new' (w := ((w.alloc _).alloc _).alloc _) (g := w.heap.size + 1 + 1 + 1) (t := 31) (cs := #[.slice A1 0 cc1, .int .i64 r1]) (by simp)).below hb5 (by omega)
  have hb : Below w.heap.size w w5 := ((((((Below.refl _ _).alloc (Nat.le_refl _) _).alloc (by simp) _).alloc (by simp; omega) _).alloc (by simp; omega) _)).trans (hb5.mono (by omega))
  clear hb5
  have i0 := i0.below hb (Nat.le_refl _)
  have i1 := i1.below hb (Nat.le_refl _)
  have c0 := q0.cells
  have f0 := q0.free
  have c1 := q1.cells
  have f1 := q1.free
  have c2 := q2.cells
  have f2 := q2.free
  have c3 := q3.cells
  have f3 := q3.free
  clear q0 q1 q2 q3
  go_wp2_with fail
  refine bodyPost_ret (by unfold results; simp only [Try.results10]; go_simp; rfl) rfl ?_
  refine ⟨_, _, rfl, ?_, ?_, (by repeat' (first | (with_reducible exact Below.refl _ _) | (with_reducible assumption) | (with_reducible refine Below.alloc ?_ ?_ _) | (with_reducible refine Below.setCell ?_ ?_ _) | omega | (simp; done) | (simp; omega)))⟩
  · exact IRow.mono (S := fun b => S b ∧ b < w.heap.size) (by repeat (first | (with_reducible exact i0) | with_reducible refine IRow.setCell ?_ (by omega) _)) (fun b _ h => .inl h.1)
  · exact IRow.mono (S := fun b => S b ∧ b < w.heap.size) (by repeat (first | (with_reducible exact i1) | with_reducible refine IRow.setCell ?_ (by omega) _)) (fun b _ h => .inl h.1)

theorem refDo_any (hl : l.length ≤ 1000) (hm : m.length ≤ 1000) (hr0 : r0 ≤ 1000) (hr1 : r1 ≤ 1000) (i0 : IRow S w v0 l) (i1 : IRow S w v1 m) :
    Calls Try.prog 10 #[.agg #[v0, .int .i64 r0, v1, .int .i64 r1], .agg #[.int .i64 kind, .int .i64 x]] w (RefDoes S w r0 r1 (stepS r0 r1 l m kind x)) := by
  by_cases h0 : kind = 0
  · subst h0
    by_cases h : l.length < r0
    · simp only [stepS, if_pos, h]; exact refDo0_yes h hr0 i0 i1
    · simp only [stepS, if_pos, h, if_false]; exact refDo0_no (by omega) i0 i1
  by_cases h1 : kind = 1
  · subst h1
    by_cases h : m.length < r1
    · simp only [stepS, h0, if_false, if_pos, h]; exact refDo1_yes h hr1 i0 i1
    · simp only [stepS, h0, if_pos, h, if_false]; exact refDo1_no (by omega) i0 i1
  by_cases h2 : kind = 2
  · subst h2
    rcases l with _ | ⟨y, ys⟩
    · simp only [stepS, h0, h1, if_false, true_or, if_pos]; exact refDo2_none i0 i1
    · simp only [List.length_cons] at hl; simp only [stepS, h0, h1, if_false, true_or, if_pos]; exact refDo2_some (by omega) i0 i1
  by_cases h3 : kind = 3
  · subst h3
    rcases m with _ | ⟨y, ys⟩
    · simp only [stepS, h0, h1, h2, if_false, false_or, ne_eq, not_true_eq_false, false_and]; exact refDo3_none i0 i1
    · simp only [List.length_cons] at hm; simp only [stepS, h0, h1, h2, if_false, false_or, ne_eq, not_true_eq_false, false_and]; exact refDo3_some (by omega) i0 i1
  have hk : kind < 0 ∨ 3 < kind := by omega
  rcases l with _ | ⟨z, zs⟩
  · rcases m with _ | ⟨y, ys⟩
    · simp only [stepS, h0, h1, h2, h3, if_false, false_or, ne_eq, not_true_eq_false, and_false]; exact hk.elim (refDo4_none · i0 i1) (refDo5_none · i0 i1)
    · simp only [List.length_cons] at hm; simp only [stepS, h0, h1, h2, h3, if_false, false_or, ne_eq, not_true_eq_false, and_false]; exact hk.elim (refDo4_snd (by omega) · i0 i1) (refDo5_snd (by omega) · i0 i1)
  · have : stepS r0 r1 (z :: zs) m kind x = ⟨zs, m, z, 0, true⟩ := by simp [stepS, h0, h1, h2, h3]
    rw [this]
    simp only [List.length_cons] at hl
    exact hk.elim (refDo4_fst (by omega) · i0 i1) (refDo5_fst (by omega) · i0 i1)

theorem stepS_len (h0 : l.length ≤ r0) (h1 : m.length ≤ r1) : (stepS r0 r1 l m kind x).l.length ≤ r0 ∧ (stepS r0 r1 l m kind x).m.length ≤ r1 := by
  unfold stepS
  split
  · split
    · exact ⟨by simp; omega, h1⟩
    · exact ⟨h0, h1⟩
  · split
    · split
      · exact ⟨h0, by simp; omega⟩
      · exact ⟨h0, h1⟩
    · split
      · split
        · exact ⟨by simp, h1⟩
        · exact ⟨by simp at h0 ⊢; omega, h1⟩
      · split
        · exact ⟨h0, by simp⟩
        · exact ⟨h0, by simp at h1 ⊢; omega⟩
end
end Go.Proofs.Ytonikpljhbnoiaa
