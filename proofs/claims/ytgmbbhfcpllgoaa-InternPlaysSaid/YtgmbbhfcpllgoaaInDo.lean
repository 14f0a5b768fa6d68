/-
  Each call of a table of ints ('do'), and the document's answer to it ('refDo'), is the step of a row of keys, whatever the call.
-/
import Derived.Test.YtgmbbhfcpllgoaaInRef
namespace Go.Proofs.Ytgmbbhfcpllgoaa
open Go.RowKit Go.Maps

structure Told where
  l : List Int
  x : Int
  e : Int
  ok : Bool
/-- What a call does to a row of keys, and what it tells. -/
def stepI (most : Int) (l : List Int) (kind x : Int) : Told :=
  if kind = 0 then (if x ∈ l then ⟨l, l.idxOf x, 0, false⟩ else if most ≤ l.length then ⟨l, 0, 3, false⟩ else ⟨l ++ [x], l.length, 0, false⟩)
  else if kind = 1 then ⟨l, (placeOf l x).1, 0, (placeOf l x).2⟩
  else if kind = 2 then (if x < 0 ∨ (l.length : Int) ≤ x then ⟨l, 0, 0, false⟩ else ⟨l, l[x.toNat]?.getD 0, 0, true⟩)
  else ⟨l.take x.toNat, (min x.toNat l.length : Nat), 0, false⟩

theorem ifind_any (w : World) (g m : Nat) (most : Int) (v : Value) (xs : List Int) (h : TI w g m most v xs) (k : Int) (hw : (Lit.int .i64 k).wf = true) :
    Calls Try.prog 23 #[.pointer (some ⟨g, 0, none⟩), .int .i64 k] w fun e w' => e = .returned (.tuple #[.int .i64 (placeOf xs k).1, .bool (placeOf xs k).2]) ∧ w = w' := by
  by_cases hk : k ∈ xs
  · have hp : placeOf xs k = ((xs.idxOf k : Int), true) := if_pos hk
    rw [hp]
    exact ifind_yes w g m most v xs h k hw _ (idx_get hk)
  · have hp : placeOf xs k = (0, false) := if_neg hk
    rw [hp]
    exact ifind_no w g m most v xs h k hw hk

section
variable {w : World} {g m : Nat} {most : Int} {v : Value} {l : List Int} {kind x : Int}
/-- What 'do' owes. -/
def Does (w : World) (g m : Nat) (most : Int) (v : Value) (T : Told) (e : Ending) (w' : World) : Prop :=
  e = .returned (.tuple #[.int .i64 T.x, .int .i64 T.e, .bool T.ok]) ∧ ∃ v', TI w' g m most v' T.l ∧ Only (foot g m v) w w' ∧ ∀ b, v'.ownBlock = some b → v.ownBlock = some b ∨ w.heap.size ≤ b

theorem alloc_below (w : World) (o : Obj) : Below w.heap.size w (w.alloc o) := (Below.refl _ _).alloc (Nat.le_refl _) o

set_option maxHeartbeats 400000 in
theorem do0_there (h : TI w g m most v l) (hw : (Lit.int .i64 x).wf = true) (hx : x ∈ l) :
    Calls Try.prog 9 #[.pointer (some ⟨g, 0, none⟩), .agg #[.int .i64 0, .int .i64 x]] w (Does w g m most v ⟨l, l.idxOf x, 0, false⟩) := by
  have hb := alloc_below w (.cells #[.int .i64 0, .int .i64 x] 36)
  have hT := h.below hb (Nat.le_refl _)
  have hB := Box.new w 36 #[.int .i64 0, .int .i64 x]
  go_enter Try.func9, Try.ntmps9
  go_wp2_with fail
  refine (iid_there _ g m most v l hT x hw _ (idx_get hx)).mono ?_
  rintro e w1 ⟨rfl, rfl⟩
  clear h hB
  go_wp2_with fail
  go_ret3
  exact ⟨rfl, v, hT, Only.of_below hb _, fun b hb' => .inl hb'⟩

set_option maxHeartbeats 400000 in
theorem do0_full (h : TI w g m most v l) (hw : (Lit.int .i64 x).wf = true) (hx : x ∉ l) (hf : most ≤ l.length) :
    Calls Try.prog 9 #[.pointer (some ⟨g, 0, none⟩), .agg #[.int .i64 0, .int .i64 x]] w (Does w g m most v ⟨l, 0, 3, false⟩) := by
  have hb := alloc_below w (.cells #[.int .i64 0, .int .i64 x] 36)
  have hT := h.below hb (Nat.le_refl _)
  have hB := Box.new w 36 #[.int .i64 0, .int .i64 x]
  go_enter Try.func9, Try.ntmps9
  go_wp2_with fail
  refine (iid_full _ g m most v l hT x hw hx hf).mono ?_
  rintro e w1 ⟨rfl, hb1⟩
  have hT1 := hT.below hb1 (Nat.le_refl _)
  have hb2 := hb.trans (hb1.mono hb.size)
  clear h hB hT hb hb1
  go_wp2_with fail
  go_ret3
  exact ⟨rfl, v, hT1, Only.of_below hb2 _, fun b hb' => .inl hb'⟩

set_option maxHeartbeats 400000 in
theorem do0_new (h : TI w g m most v l) (hw : (Lit.int .i64 x).wf = true) (hx : x ∉ l) (hf : l.length < most) (hm : most ≤ 20000) :
    Calls Try.prog 9 #[.pointer (some ⟨g, 0, none⟩), .agg #[.int .i64 0, .int .i64 x]] w (Does w g m most v ⟨l ++ [x], l.length, 0, false⟩) := by
  have hb := alloc_below w (.cells #[.int .i64 0, .int .i64 x] 36)
  have hT := h.below hb (Nat.le_refl _)
  have hB := Box.new w 36 #[.int .i64 0, .int .i64 x]
  go_enter Try.func9, Try.ntmps9
  go_wp2_with fail
  refine (iid_new _ g m most v l hT x hw hx hf hm).mono ?_
  rintro e w1 ⟨rfl, v', hT1, ho1, hv1⟩
  have ho := (Only.of_below hb (foot g m v)).trans ho1 (fun j hj => .inl hj)
  have hv : ∀ b, v'.ownBlock = some b → v.ownBlock = some b ∨ w.heap.size ≤ b := fun b hb' => (hv1 b hb').imp_right (fun h1 => by simp at h1; omega)
  clear h hB hT hb ho1 hv1
  go_wp2_with fail
  go_ret3
  exact ⟨rfl, v', hT1, ho, hv⟩

set_option maxHeartbeats 400000 in
theorem do1_any (h : TI w g m most v l) (hw : (Lit.int .i64 x).wf = true) :
    Calls Try.prog 9 #[.pointer (some ⟨g, 0, none⟩), .agg #[.int .i64 1, .int .i64 x]] w (Does w g m most v ⟨l, (placeOf l x).1, 0, (placeOf l x).2⟩) := by
  have hb := alloc_below w (.cells #[.int .i64 1, .int .i64 x] 36)
  have hT := h.below hb (Nat.le_refl _)
  have hB := Box.new w 36 #[.int .i64 1, .int .i64 x]
  go_enter Try.func9, Try.ntmps9
  go_wp2_with fail
  refine (ifind_any _ g m most v l hT x hw).mono ?_
  rintro e w1 ⟨rfl, rfl⟩
  clear h hB
  go_wp2_with fail
  go_ret3
  exact ⟨rfl, v, hT, Only.of_below hb _, fun b hb' => .inl hb'⟩

set_option maxHeartbeats 400000 in
theorem do2_no (h : TI w g m most v l) (hx : x < 0 ∨ (l.length : Int) ≤ x) :
    Calls Try.prog 9 #[.pointer (some ⟨g, 0, none⟩), .agg #[.int .i64 2, .int .i64 x]] w (Does w g m most v ⟨l, 0, 0, false⟩) := by
  have hb := alloc_below w (.cells #[.int .i64 2, .int .i64 x] 36)
  have hT := h.below hb (Nat.le_refl _)
  have hB := Box.new w 36 #[.int .i64 2, .int .i64 x]
  go_enter Try.func9, Try.ntmps9
  go_wp2_with fail
  refine (ikey_no _ g m most v l hT x hx).mono ?_
  rintro e w1 ⟨rfl, rfl⟩
  clear h hB
  go_wp2_with fail
  go_ret3
  exact ⟨rfl, v, hT, Only.of_below hb _, fun b hb' => .inl hb'⟩

set_option maxHeartbeats 400000 in
theorem do2_yes (h : TI w g m most v l) (i : Nat) (k : Int) (hx : x = i) (hk : l[i]? = some k) :
    Calls Try.prog 9 #[.pointer (some ⟨g, 0, none⟩), .agg #[.int .i64 2, .int .i64 x]] w (Does w g m most v ⟨l, k, 0, true⟩) := by
  have hb := alloc_below w (.cells #[.int .i64 2, .int .i64 x] 36)
  have hT := h.below hb (Nat.le_refl _)
  have hB := Box.new w 36 #[.int .i64 2, .int .i64 x]
  subst hx
  go_enter Try.func9, Try.ntmps9
  go_wp2_with fail
  refine (ikey_yes _ g m most v l hT i k hk).mono ?_
  rintro e w1 ⟨rfl, rfl⟩
  clear h hB
  go_wp2_with fail
  go_ret3
  exact ⟨rfl, v, hT, Only.of_below hb _, fun b hb' => .inl hb'⟩

set_option maxHeartbeats 400000 in
theorem do3_any (h : TI w g m most v l) (hwf : ∀ k ∈ l, (Lit.int .i64 k).wf = true) (hn : l.length ≤ 20000) (h0 : kind ≠ 0) (h1 : kind ≠ 1) (h2 : kind ≠ 2) :
    Calls Try.prog 9 #[.pointer (some ⟨g, 0, none⟩), .agg #[.int .i64 kind, .int .i64 x]] w (Does w g m most v ⟨l.take x.toNat, (min x.toNat l.length : Nat), 0, false⟩) := by
  have hb := alloc_below w (.cells #[.int .i64 kind, .int .i64 x] 36)
  have hT := h.below hb (Nat.le_refl _)
  have hB := Box.new w 36 #[.int .i64 kind, .int .i64 x]
  go_enter Try.func9, Try.ntmps9
  go_wp2_with fail
  refine (icut_yes _ g m most v l hT hwf x hn).mono ?_
  rintro e w1 ⟨rfl, v', hT1, ho1, hv1⟩
  have ho := (Only.of_below hb (foot g m v)).trans ho1 (fun j hj => .inl hj)
  have hv : ∀ b, v'.ownBlock = some b → v.ownBlock = some b ∨ w.heap.size ≤ b := fun b hb' => .inl (by rw [← hv1]; exact hb')
  clear h hB hT hb ho1 hv1
  go_wp2_with fail
  refine (ilen_yes _ g m most v' (l.take x.toNat) hT1).mono ?_
  rintro e w2 ⟨rfl, rfl⟩
  go_wp2_with fail
  go_ret3
  exact ⟨rfl, v', hT1, ho, hv⟩

theorem do_any (h : TI w g m most v l) (hw : (Lit.int .i64 x).wf = true) (hwf : ∀ k ∈ l, (Lit.int .i64 k).wf = true) (hn : l.length ≤ 20000) (hm : most ≤ 20000) :
    Calls Try.prog 9 #[.pointer (some ⟨g, 0, none⟩), .agg #[.int .i64 kind, .int .i64 x]] w (Does w g m most v (stepI most l kind x)) := by
  by_cases h0 : kind = 0
  · subst h0
    by_cases hx : x ∈ l
    · simp only [stepI, if_pos, hx]; exact do0_there h hw hx
    · by_cases hf : most ≤ l.length
      · simp only [stepI, if_pos, hx, hf, if_false]; exact do0_full h hw hx hf
      · simp only [stepI, if_pos, hx, hf, if_false]; exact do0_new h hw hx (by omega) hm
  by_cases h1 : kind = 1
  · subst h1
    simp only [stepI, h0, if_false, if_pos]; exact do1_any h hw
  by_cases h2 : kind = 2
  · subst h2
    by_cases hx : x < 0 ∨ (l.length : Int) ≤ x
    · simp only [stepI, h0, h1, if_false, if_pos, hx]; exact do2_no h hx
    · simp only [stepI, h0, h1, if_false, if_pos, hx]
      have h3 : x.toNat < l.length := by omega
      refine do2_yes h x.toNat _ (by omega) ?_
      rw [List.getElem?_eq_getElem h3, Option.getD_some]
  · simp only [stepI, h0, h1, h2, if_false]
    exact do3_any h hwf hn h0 h1 h2
end

section
variable {w : World} {most : Int} {v : Value} {l : List Int} {kind x : Int} {S : Nat → Prop}
/-- What 'refDo' owes. -/
def RefDoes (S : Nat → Prop) (w : World) (most : Int) (T : Told) (e : Ending) (w' : World) : Prop :=
  ∃ v', e = .returned (.tuple #[.agg #[v', .int .i64 most], .int .i64 T.x, .int .i64 T.e, .bool T.ok]) ∧ IRow (fun b => S b ∨ w.heap.size ≤ b) w' v' T.l ∧ Below w.heap.size w w'

set_option maxRecDepth 100000 in
set_option maxHeartbeats 2000000 in
theorem refDo0_there (i0 : IRow S w v l) (hn : l.length ≤ 20000) (hx : x ∈ l) :
    Calls Try.prog 10 #[.agg #[v, .int .i64 most], .agg #[.int .i64 0, .int .i64 x]] w (RefDoes S w most ⟨l, l.idxOf x, 0, false⟩) := by
  have i0 : IRow (fun b => S b ∧ b < w.heap.size) w v l := i0.mono fun b h1 h2 => ⟨h2, h1⟩
  have C := fun w1 (i1 : IRow (fun b => S b ∧ b < w.heap.size) w1 v l) => rid_there w1 v l most x hn hx i1
  have C1 := C _ (((i0.alloc (.cells #[v, .int .i64 most] 30)).alloc (.cells #[.int .i64 0, .int .i64 x] 36)).alloc (.cells #[.slice none 0 0, .int .i64 0] 30))
  obtain ⟨A0, cc0, rfl, hl0, hr0⟩ := i0
  have i0 : IRow (fun b => S b ∧ b < w.heap.size) w (.slice A0 l.length cc0) l := ⟨A0, cc0, rfl, hl0, hr0⟩
  clear hr0 C
  go_enter Try.func10, Try.ntmps10
  go_wp2_with fail
  refine C1.mono ?_
  rintro e w5 ⟨rfl, hb5⟩
  simp only [World.size_alloc] at hb5
  have hs5 : w.heap.size + 3 ≤ w5.heap.size := by have := hb5.size; simp at this; omega
  have q0 := (((Box.new w 30 #[.slice A0 l.length cc0, .int .i64 most]).alloc _).alloc _).below hb5 (by omega)
  have q1 := ((Box.new' (w := w.alloc _) (g := w.heap.size + 1) (t := 36) (cs := #[.int .i64 0, .int .i64 x]) (by simp)).alloc _).below hb5 (by omega)
  have q2 := (Box.new' (w := (w.alloc _).alloc _) (g := w.heap.size + 1 + 1) (t := 30) (cs := #[.slice none 0 0, .int .i64 0]) (by simp)).below hb5 (by omega)
  have hb : Below w.heap.size w w5 := ((((Below.refl _ _).alloc (Nat.le_refl _) _).alloc (by simp) _).alloc (by simp; omega) _).trans (hb5.mono (by omega))
  clear hb5 C1
  have i0 := i0.below hb (Nat.le_refl _)
  have c0 := q0.cells
  have f0 := q0.free
  have c1 := q1.cells
  have f1 := q1.free
  have c2 := q2.cells
  have f2 := q2.free
  have k0 := q0.lt
  have k2 := q2.lt
  clear q0 q1 q2
  go_wp2_with fail
  refine bodyPost_ret (by unfold results; simp only [Try.results10]; go_simp; rfl) rfl ?_
  exact ⟨_, rfl, IRow.mono (S := fun b => S b ∧ b < w.heap.size) (by repeat (first | (with_reducible exact i0) | with_reducible refine IRow.setCell ?_ (by omega) _)) (fun b _ h => .inl h.1), (by repeat' (first | (with_reducible exact Below.refl _ _) | (with_reducible assumption) | (with_reducible refine Below.alloc ?_ ?_ _) | (with_reducible refine Below.setCell ?_ ?_ _) | omega | (simp; done) | (simp; omega)))⟩

set_option maxRecDepth 100000 in
set_option maxHeartbeats 2000000 in
theorem refDo0_full (i0 : IRow S w v l) (hn : l.length ≤ 20000) (hx : x ∉ l) (hf : most ≤ l.length) :
    Calls Try.prog 10 #[.agg #[v, .int .i64 most], .agg #[.int .i64 0, .int .i64 x]] w (RefDoes S w most ⟨l, 0, 3, false⟩) := by
  have i0 : IRow (fun b => S b ∧ b < w.heap.size) w v l := i0.mono fun b h1 h2 => ⟨h2, h1⟩
  have C := fun w1 (i1 : IRow (fun b => S b ∧ b < w.heap.size) w1 v l) => rid_full w1 v l most x hn hx hf i1
  have C1 := C _ (((i0.alloc (.cells #[v, .int .i64 most] 30)).alloc (.cells #[.int .i64 0, .int .i64 x] 36)).alloc (.cells #[.slice none 0 0, .int .i64 0] 30))
  obtain ⟨A0, cc0, rfl, hl0, hr0⟩ := i0
  have i0 : IRow (fun b => S b ∧ b < w.heap.size) w (.slice A0 l.length cc0) l := ⟨A0, cc0, rfl, hl0, hr0⟩
  clear hr0 C
  go_enter Try.func10, Try.ntmps10
  go_wp2_with fail
  refine C1.mono ?_
  rintro e w5 ⟨rfl, hb5⟩
  simp only [World.size_alloc] at hb5
  have hs5 : w.heap.size + 3 ≤ w5.heap.size := by have := hb5.size; simp at this; omega
  have q0 := (((Box.new w 30 #[.slice A0 l.length cc0, .int .i64 most]).alloc _).alloc _).below hb5 (by omega)
  have q1 := ((Box.new' (w := w.alloc _) (g := w.heap.size + 1) (t := 36) (cs := #[.int .i64 0, .int .i64 x]) (by simp)).alloc _).below hb5 (by omega)
  have q2 := (Box.new' (w := (w.alloc _).alloc _) (g := w.heap.size + 1 + 1) (t := 30) (cs := #[.slice none 0 0, .int .i64 0]) (by simp)).below hb5 (by omega)
  have hb : Below w.heap.size w w5 := ((((Below.refl _ _).alloc (Nat.le_refl _) _).alloc (by simp) _).alloc (by simp; omega) _).trans (hb5.mono (by omega))
  clear hb5 C1
  have i0 := i0.below hb (Nat.le_refl _)
  have c0 := q0.cells
  have f0 := q0.free
  have c1 := q1.cells
  have f1 := q1.free
  have c2 := q2.cells
  have f2 := q2.free
  have k0 := q0.lt
  have k2 := q2.lt
  clear q0 q1 q2
  go_wp2_with fail
  refine bodyPost_ret (by unfold results; simp only [Try.results10]; go_simp; rfl) rfl ?_
  exact ⟨_, rfl, IRow.mono (S := fun b => S b ∧ b < w.heap.size) (by repeat (first | (with_reducible exact i0) | with_reducible refine IRow.setCell ?_ (by omega) _)) (fun b _ h => .inl h.1), (by repeat' (first | (with_reducible exact Below.refl _ _) | (with_reducible assumption) | (with_reducible refine Below.alloc ?_ ?_ _) | (with_reducible refine Below.setCell ?_ ?_ _) | omega | (simp; done) | (simp; omega)))⟩

set_option maxRecDepth 100000 in
set_option maxHeartbeats 2000000 in
theorem refDo0_new (i0 : IRow S w v l) (hn : l.length ≤ 20000) (hx : x ∉ l) (hf : l.length < most) :
    Calls Try.prog 10 #[.agg #[v, .int .i64 most], .agg #[.int .i64 0, .int .i64 x]] w (RefDoes S w most ⟨l ++ [x], l.length, 0, false⟩) := by
  have i0 : IRow (fun b => S b ∧ b < w.heap.size) w v l := i0.mono fun b h1 h2 => ⟨h2, h1⟩
  have C := fun w1 (i1 : IRow (fun b => S b ∧ b < w.heap.size) w1 v l) => rid_new w1 v l most x hn hx hf i1
  have C1 := C _ (((i0.alloc (.cells #[v, .int .i64 most] 30)).alloc (.cells #[.int .i64 0, .int .i64 x] 36)).alloc (.cells #[.slice none 0 0, .int .i64 0] 30))
  obtain ⟨A0, cc0, rfl, hl0, hr0⟩ := i0
  have i0 : IRow (fun b => S b ∧ b < w.heap.size) w (.slice A0 l.length cc0) l := ⟨A0, cc0, rfl, hl0, hr0⟩
  clear hr0 C
  go_enter Try.func10, Try.ntmps10
  go_wp2_with fail
  refine C1.mono ?_
  rintro e w5 ⟨v', rfl, hv', hb5⟩
  simp only [World.size_alloc] at hb5
  have hs5 : w.heap.size + 3 ≤ w5.heap.size := by have := hb5.size; simp at this; omega
  have q0 := (((Box.new w 30 #[.slice A0 l.length cc0, .int .i64 most]).alloc _).alloc _).below hb5 (by omega)
  have q1 := ((Box.new' (w := w.alloc _) (g := w.heap.size + 1) (t := 36) (cs := #[.int .i64 0, .int .i64 x]) (by simp)).alloc _).below hb5 (by omega)
  have q2 := (Box.new' (w := (w.alloc _).alloc _) (g := w.heap.size + 1 + 1) (t := 30) (cs := #[.slice none 0 0, .int .i64 0]) (by simp)).below hb5 (by omega)
  have hb : Below w.heap.size w w5 := ((((Below.refl _ _).alloc (Nat.le_refl _) _).alloc (by simp) _).alloc (by simp; omega) _).trans (hb5.mono (by omega))
  clear hb5 C1
  have i0 := i0.below hb (Nat.le_refl _)
  have hv' : IRow (fun b => w.heap.size + 3 ≤ b) w5 v' (l ++ [x]) := hv'.mono fun b h1 h2 => by simp only [World.size_alloc] at h2; omega
  obtain ⟨A', c', rfl, hl', hr'⟩ := hv'
  have Hr := Lib.hid hr'
  clear hr'
  rewrite [List.length_append, List.length_singleton] at hl' ⊢
  have c0 := q0.cells
  have f0 := q0.free
  have c1 := q1.cells
  have f1 := q1.free
  have c2 := q2.cells
  have f2 := q2.free
  have k0 := q0.lt
  have k2 := q2.lt
  clear q0 q1 q2
  go_wp2_with fail
  refine bodyPost_ret (by unfold results; simp only [Try.results10]; go_simp; rfl) rfl ?_
  exact ⟨_, rfl, ⟨A', c', by rw [List.length_append]; rfl, by rw [List.length_append]; exact hl', RowS.mono (S := fun b => w.heap.size + 3 ≤ b) (by repeat (first | (with_reducible exact Hr.out) | with_reducible refine RowS.setCell ?_ (by omega) _)) (fun b _ h => .inr (by omega))⟩, (by repeat' (first | (with_reducible exact Below.refl _ _) | (with_reducible assumption) | (with_reducible refine Below.alloc ?_ ?_ _) | (with_reducible refine Below.setCell ?_ ?_ _) | omega | (simp; done) | (simp; omega)))⟩

set_option maxRecDepth 100000 in
set_option maxHeartbeats 2000000 in
theorem refDo1_any (i0 : IRow S w v l) (hn : l.length ≤ 20000) :
    Calls Try.prog 10 #[.agg #[v, .int .i64 most], .agg #[.int .i64 1, .int .i64 x]] w (RefDoes S w most ⟨l, (placeOf l x).1, 0, (placeOf l x).2⟩) := by
  have i0 : IRow (fun b => S b ∧ b < w.heap.size) w v l := i0.mono fun b h1 h2 => ⟨h2, h1⟩
  have C := fun w1 (i1 : IRow (fun b => S b ∧ b < w.heap.size) w1 v l) => rfind_any w1 v l most x hn i1
  have C1 := C _ (((i0.alloc (.cells #[v, .int .i64 most] 30)).alloc (.cells #[.int .i64 1, .int .i64 x] 36)).alloc (.cells #[.slice none 0 0, .int .i64 0] 30))
  obtain ⟨A0, cc0, rfl, hl0, hr0⟩ := i0
  have i0 : IRow (fun b => S b ∧ b < w.heap.size) w (.slice A0 l.length cc0) l := ⟨A0, cc0, rfl, hl0, hr0⟩
  clear hr0 C
  go_enter Try.func10, Try.ntmps10
  go_wp2_with fail
  refine C1.mono ?_
  rintro e w5 ⟨rfl, hb5⟩
  simp only [World.size_alloc] at hb5
  have hs5 : w.heap.size + 3 ≤ w5.heap.size := by have := hb5.size; simp at this; omega
  have q0 := (((Box.new w 30 #[.slice A0 l.length cc0, .int .i64 most]).alloc _).alloc _).below hb5 (by omega)
  have q1 := ((Box.new' (w := w.alloc _) (g := w.heap.size + 1) (t := 36) (cs := #[.int .i64 1, .int .i64 x]) (by simp)).alloc _).below hb5 (by omega)
  have q2 := (Box.new' (w := (w.alloc _).alloc _) (g := w.heap.size + 1 + 1) (t := 30) (cs := #[.slice none 0 0, .int .i64 0]) (by simp)).below hb5 (by omega)
  have hb : Below w.heap.size w w5 := ((((Below.refl _ _).alloc (Nat.le_refl _) _).alloc (by simp) _).alloc (by simp; omega) _).trans (hb5.mono (by omega))
  clear hb5 C1
  have i0 := i0.below hb (Nat.le_refl _)
  have c0 := q0.cells
  have f0 := q0.free
  have c1 := q1.cells
  have f1 := q1.free
  have c2 := q2.cells
  have f2 := q2.free
  have k0 := q0.lt
  have k2 := q2.lt
  clear q0 q1 q2
  go_wp2_with fail
  refine bodyPost_ret (by unfold results; simp only [Try.results10]; go_simp; rfl) rfl ?_
  exact ⟨_, rfl, IRow.mono (S := fun b => S b ∧ b < w.heap.size) (by repeat (first | (with_reducible exact i0) | with_reducible refine IRow.setCell ?_ (by omega) _)) (fun b _ h => .inl h.1), (by repeat' (first | (with_reducible exact Below.refl _ _) | (with_reducible assumption) | (with_reducible refine Below.alloc ?_ ?_ _) | (with_reducible refine Below.setCell ?_ ?_ _) | omega | (simp; done) | (simp; omega)))⟩

set_option maxRecDepth 100000 in
set_option maxHeartbeats 2000000 in
theorem refDo2_no (i0 : IRow S w v l) (hx : x < 0 ∨ (l.length : Int) ≤ x) :
    Calls Try.prog 10 #[.agg #[v, .int .i64 most], .agg #[.int .i64 2, .int .i64 x]] w (RefDoes S w most ⟨l, 0, 0, false⟩) := by
  have i0 : IRow (fun b => S b ∧ b < w.heap.size) w v l := i0.mono fun b h1 h2 => ⟨h2, h1⟩
  have C := fun w1 (i1 : IRow (fun b => S b ∧ b < w.heap.size) w1 v l) => rkey_no w1 v l most x hx i1
  have C1 := C _ (((i0.alloc (.cells #[v, .int .i64 most] 30)).alloc (.cells #[.int .i64 2, .int .i64 x] 36)).alloc (.cells #[.slice none 0 0, .int .i64 0] 30))
  obtain ⟨A0, cc0, rfl, hl0, hr0⟩ := i0
  have i0 : IRow (fun b => S b ∧ b < w.heap.size) w (.slice A0 l.length cc0) l := ⟨A0, cc0, rfl, hl0, hr0⟩
  clear hr0 C
  go_enter Try.func10, Try.ntmps10
  go_wp2_with fail
  refine C1.mono ?_
  rintro e w5 ⟨rfl, hb5⟩
  simp only [World.size_alloc] at hb5
  have hs5 : w.heap.size + 3 ≤ w5.heap.size := by have := hb5.size; simp at this; omega
  have q0 := (((Box.new w 30 #[.slice A0 l.length cc0, .int .i64 most]).alloc _).alloc _).below hb5 (by omega)
  have q1 := ((Box.new' (w := w.alloc _) (g := w.heap.size + 1) (t := 36) (cs := #[.int .i64 2, .int .i64 x]) (by simp)).alloc _).below hb5 (by omega)
  have q2 := (Box.new' (w := (w.alloc _).alloc _) (g := w.heap.size + 1 + 1) (t := 30) (cs := #[.slice none 0 0, .int .i64 0]) (by simp)).below hb5 (by omega)
  have hb : Below w.heap.size w w5 := ((((Below.refl _ _).alloc (Nat.le_refl _) _).alloc (by simp) _).alloc (by simp; omega) _).trans (hb5.mono (by omega))
  clear hb5 C1
  have i0 := i0.below hb (Nat.le_refl _)
  have c0 := q0.cells
  have f0 := q0.free
  have c1 := q1.cells
  have f1 := q1.free
  have c2 := q2.cells
  have f2 := q2.free
  have k0 := q0.lt
  have k2 := q2.lt
  clear q0 q1 q2
  go_wp2_with fail
  refine bodyPost_ret (by unfold results; simp only [Try.results10]; go_simp; rfl) rfl ?_
  exact ⟨_, rfl, IRow.mono (S := fun b => S b ∧ b < w.heap.size) (by repeat (first | (with_reducible exact i0) | with_reducible refine IRow.setCell ?_ (by omega) _)) (fun b _ h => .inl h.1), (by repeat' (first | (with_reducible exact Below.refl _ _) | (with_reducible assumption) | (with_reducible refine Below.alloc ?_ ?_ _) | (with_reducible refine Below.setCell ?_ ?_ _) | omega | (simp; done) | (simp; omega)))⟩

set_option maxRecDepth 100000 in
set_option maxHeartbeats 2000000 in
theorem refDo2_yes (i0 : IRow S w v l) (i : Nat) (k : Int) (hx : x = i) (hk : l[i]? = some k) :
    Calls Try.prog 10 #[.agg #[v, .int .i64 most], .agg #[.int .i64 2, .int .i64 x]] w (RefDoes S w most ⟨l, k, 0, true⟩) := by
  have i0 : IRow (fun b => S b ∧ b < w.heap.size) w v l := i0.mono fun b h1 h2 => ⟨h2, h1⟩
  have C := fun w1 (i1 : IRow (fun b => S b ∧ b < w.heap.size) w1 v l) => rkey_yes w1 v l most i k hk i1
  have C1 := C _ (((i0.alloc (.cells #[v, .int .i64 most] 30)).alloc (.cells #[.int .i64 2, .int .i64 x] 36)).alloc (.cells #[.slice none 0 0, .int .i64 0] 30))
  obtain ⟨A0, cc0, rfl, hl0, hr0⟩ := i0
  have i0 : IRow (fun b => S b ∧ b < w.heap.size) w (.slice A0 l.length cc0) l := ⟨A0, cc0, rfl, hl0, hr0⟩
  clear hr0 C
  subst hx
  go_enter Try.func10, Try.ntmps10
  go_wp2_with fail
  refine C1.mono ?_
  rintro e w5 ⟨rfl, hb5⟩
  simp only [World.size_alloc] at hb5
  have hs5 : w.heap.size + 3 ≤ w5.heap.size := by have := hb5.size; simp at this; omega
  have q0 := (((Box.new w 30 #[.slice A0 l.length cc0, .int .i64 most]).alloc _).alloc _).below hb5 (by omega)
  have q1 := ((Box.new' (w := w.alloc _) (g := w.heap.size + 1) (t := 36) (cs := #[.int .i64 2, .int .i64 (i : Int)]) (by simp)).alloc _).below hb5 (by omega)
  have q2 := (Box.new' (w := (w.alloc _).alloc _) (g := w.heap.size + 1 + 1) (t := 30) (cs := #[.slice none 0 0, .int .i64 0]) (by simp)).below hb5 (by omega)
  have hb : Below w.heap.size w w5 := ((((Below.refl _ _).alloc (Nat.le_refl _) _).alloc (by simp) _).alloc (by simp; omega) _).trans (hb5.mono (by omega))
  clear hb5 C1
  have i0 := i0.below hb (Nat.le_refl _)
  have c0 := q0.cells
  have f0 := q0.free
  have c1 := q1.cells
  have f1 := q1.free
  have c2 := q2.cells
  have f2 := q2.free
  have k0 := q0.lt
  have k2 := q2.lt
  clear q0 q1 q2
  go_wp2_with fail
  refine bodyPost_ret (by unfold results; simp only [Try.results10]; go_simp; rfl) rfl ?_
  exact ⟨_, rfl, IRow.mono (S := fun b => S b ∧ b < w.heap.size) (by repeat (first | (with_reducible exact i0) | with_reducible refine IRow.setCell ?_ (by omega) _)) (fun b _ h => .inl h.1), (by repeat' (first | (with_reducible exact Below.refl _ _) | (with_reducible assumption) | (with_reducible refine Below.alloc ?_ ?_ _) | (with_reducible refine Below.setCell ?_ ?_ _) | omega | (simp; done) | (simp; omega)))⟩

set_option maxRecDepth 100000 in
set_option maxHeartbeats 2000000 in
theorem refDo3_any (i0 : IRow S w v l) (hn : l.length ≤ 20000) (h0 : kind ≠ 0) (h1 : kind ≠ 1) (h2 : kind ≠ 2) :
    Calls Try.prog 10 #[.agg #[v, .int .i64 most], .agg #[.int .i64 kind, .int .i64 x]] w (RefDoes S w most ⟨l.take x.toNat, (min x.toNat l.length : Nat), 0, false⟩) := by
  have i0 : IRow (fun b => S b ∧ b < w.heap.size) w v l := i0.mono fun b h1 h2 => ⟨h2, h1⟩
  have C := fun w1 (i1 : IRow (fun b => S b ∧ b < w.heap.size) w1 v l) => rcut_any w1 v l most x hn i1
  have C1 := C _ (((i0.alloc (.cells #[v, .int .i64 most] 30)).alloc (.cells #[.int .i64 kind, .int .i64 x] 36)).alloc (.cells #[.slice none 0 0, .int .i64 0] 30))
  obtain ⟨A0, cc0, rfl, hl0, hr0⟩ := i0
  have i0 : IRow (fun b => S b ∧ b < w.heap.size) w (.slice A0 l.length cc0) l := ⟨A0, cc0, rfl, hl0, hr0⟩
  clear hr0 C
  have b0 : (kind == 0) = false := beq_eq_false_iff_ne.2 h0
  have b1 : (kind == 1) = false := beq_eq_false_iff_ne.2 h1
  have b2 : (kind == 2) = false := beq_eq_false_iff_ne.2 h2
  go_enter Try.func10, Try.ntmps10
  go_wp2_with fail
  refine C1.mono ?_
  rintro e w5 ⟨v', rfl, hv', hb5⟩
  simp only [World.size_alloc] at hb5
  have hs5 : w.heap.size + 3 ≤ w5.heap.size := by have := hb5.size; simp at this; omega
  have q0 := (((Box.new w 30 #[.slice A0 l.length cc0, .int .i64 most]).alloc _).alloc _).below hb5 (by omega)
  have q1 := ((Box.new' (w := w.alloc _) (g := w.heap.size + 1) (t := 36) (cs := #[.int .i64 kind, .int .i64 x]) (by simp)).alloc _).below hb5 (by omega)
  have q2 := (Box.new' (w := (w.alloc _).alloc _) (g := w.heap.size + 1 + 1) (t := 30) (cs := #[.slice none 0 0, .int .i64 0]) (by simp)).below hb5 (by omega)
  have hb : Below w.heap.size w w5 := ((((Below.refl _ _).alloc (Nat.le_refl _) _).alloc (by simp) _).alloc (by simp; omega) _).trans (hb5.mono (by omega))
  clear hb5 C1
  have i0 := i0.below hb (Nat.le_refl _)
  obtain ⟨A', c', rfl, hl', hr'⟩ := hv'
  have Hr := Lib.hid hr'
  clear hr'
  have c0 := q0.cells
  have f0 := q0.free
  have c1 := q1.cells
  have f1 := q1.free
  have c2 := q2.cells
  have f2 := q2.free
  have k0 := q0.lt
  have k2 := q2.lt
  clear q0 q1 q2
  go_wp2_with fail
  refine bodyPost_ret (by unfold results; simp only [Try.results10]; go_simp; rfl) rfl ?_
  exact ⟨_, rfl, ⟨A', c', by rw [List.length_take], hl', RowS.mono (S := fun b => S b ∧ b < w.heap.size) (by repeat (first | (with_reducible exact Hr.out) | with_reducible refine RowS.setCell ?_ (by omega) _)) (fun b _ h => .inl h.1)⟩, (by repeat' (first | (with_reducible exact Below.refl _ _) | (with_reducible assumption) | (with_reducible refine Below.alloc ?_ ?_ _) | (with_reducible refine Below.setCell ?_ ?_ _) | omega | (simp; done) | (simp; omega)))⟩

theorem refDo_any (i0 : IRow S w v l) (hn : l.length ≤ 20000) :
    Calls Try.prog 10 #[.agg #[v, .int .i64 most], .agg #[.int .i64 kind, .int .i64 x]] w (RefDoes S w most (stepI most l kind x)) := by
  by_cases h0 : kind = 0
  · subst h0
    by_cases hx : x ∈ l
    · simp only [stepI, if_pos, hx]; exact refDo0_there i0 hn hx
    · by_cases hf : most ≤ l.length
      · simp only [stepI, if_pos, hx, hf, if_false]; exact refDo0_full i0 hn hx hf
      · simp only [stepI, if_pos, hx, hf, if_false]; exact refDo0_new i0 hn hx (by omega)
  by_cases h1 : kind = 1
  · subst h1
    simp only [stepI, h0, if_false, if_pos]; exact refDo1_any i0 hn
  by_cases h2 : kind = 2
  · subst h2
    by_cases hx : x < 0 ∨ (l.length : Int) ≤ x
    · simp only [stepI, h0, h1, if_false, if_pos, hx]; exact refDo2_no i0 hx
    · simp only [stepI, h0, h1, if_false, if_pos, hx]
      have h3 : x.toNat < l.length := by omega
      refine refDo2_yes i0 x.toNat _ (by omega) ?_
      rw [List.getElem?_eq_getElem h3, Option.getD_some]
  · simp only [stepI, h0, h1, h2, if_false]
    exact refDo3_any i0 hn h0 h1 h2
end

theorem stepI_len {most : Int} {l : List Int} {kind x : Int} (h : (l.length : Int) ≤ most) : ((stepI most l kind x).l.length : Int) ≤ most := by
  unfold stepI
  repeat' split
  all_goals simp only [List.length_append, List.length_singleton, List.length_take]
  all_goals omega

theorem stepI_wf {most : Int} {l : List Int} {kind x : Int} (h : ∀ k ∈ l, (Lit.int .i64 k).wf = true) (hx : (Lit.int .i64 x).wf = true) : ∀ k ∈ (stepI most l kind x).l, (Lit.int .i64 k).wf = true := by
  intro k hk
  unfold stepI at hk
  repeat' split at hk
  all_goals first
    | exact h k hk
    | exact h k (List.mem_of_mem_take hk)
    | (simp only [List.mem_append, List.mem_singleton] at hk; rcases hk with h1 | rfl; exact h _ h1; exact hx)
end Go.Proofs.Ytgmbbhfcpllgoaa
