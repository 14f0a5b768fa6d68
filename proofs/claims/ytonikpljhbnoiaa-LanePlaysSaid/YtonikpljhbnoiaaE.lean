/-
  The contracts of the document's queues (New, Put, Take), of both statements' call (do) and of the document's answer to it (refDo), for every call; the rows' lengths are at most 1000.
-/
import Derived.Test.YtonikpljhbnoiaaB
namespace Go.Proofs.Ytonikpljhbnoiaa
open Go.RowKit Go.Conc

theorem Try.info3y : (Try.prog.info? 3).map (fun i => (i.zero, i.size, i.bytes)) = some (some (.int .i64 0), 1, 8) := by kernel_rfl

/-- A row of the document's queue, in a block of which S holds. -/
def IRow (S : Nat → Prop) (w : World) (v : Value) (xs : List Int) : Prop := ∃ A c, v = .slice A xs.length c ∧ xs.length ≤ c ∧ RowS S w A (ivals xs)
section
variable {S S' : Nat → Prop} {w w' : World} {v : Value} {xs : List Int}
theorem IRow.below {B : Nat} (h : IRow S w v xs) (hb : Below B w w') (hB : w.heap.size ≤ B) : IRow S w' v xs := by
  obtain ⟨A, c, h1, h2, h3⟩ := h
  exact ⟨A, c, h1, h2, h3.below hb hB⟩
theorem IRow.drewN (h : IRow S w v xs) (n : Nat) : IRow S (w.drewN n) v xs := h
theorem IRow.drew (h : IRow S w v xs) : IRow S w.drew v xs := h
theorem IRow.alloc (h : IRow S w v xs) (o : Obj) : IRow S (w.alloc o) v xs := by
  obtain ⟨A, c, h1, h2, h3⟩ := h
  exact ⟨A, c, h1, h2, h3.alloc o⟩
theorem IRow.setCell (h : IRow S w v xs) {g i : Nat} (hg : ¬ S g) (u : Value) : IRow S (w.setCell ⟨g, i, none⟩ u) v xs := by
  obtain ⟨A, c, h1, h2, h3⟩ := h
  exact ⟨A, c, h1, h2, h3.setCell hg u⟩
theorem IRow.mono (h : IRow S w v xs) (hS : ∀ b, b < w.heap.size → S b → S' b) : IRow S' w v xs := by
  obtain ⟨A, c, h1, h2, h3⟩ := h
  exact ⟨A, c, h1, h2, h3.mono hS⟩
theorem IRow.grown {row : Option Nat} (h : IRow S w v xs) (hb : w.grownBy w' row) (hr : ∀ g, row = some g → ¬ S g) : IRow S w' v xs := by
  obtain ⟨A, c, h1, h2, h3⟩ := h
  exact ⟨A, c, h1, h2, h3.grown hb hr⟩
end

set_option maxHeartbeats 400000 in
theorem rnew_yes (w : World) (n : Nat) (h1 : 1 ≤ n) (h2 : n ≤ 1000) :
    Calls Try.prog 8 #[.int .i64 n] w fun e w' => e = .returned (.tuple #[.agg #[.slice none 0 0, .int .i64 n], .int .i64 0]) ∧ Below w.heap.size w w' := by
  go_enter Try.func8, Try.ntmps8
  go_wp2
  refine bodyPost_ret (by unfold results; simp only [Try.results8]; go_simp; rfl) rfl ?_
  exact ⟨rfl, (by repeat' (first | (with_reducible exact Below.refl _ _) | (with_reducible assumption) | (with_reducible refine Below.alloc ?_ ?_ _) | (with_reducible refine Below.setCell ?_ ?_ _) | omega | (simp; done) | (simp; omega)))⟩
set_option maxHeartbeats 400000 in
theorem rnew_no (w : World) (n : Int) (h : n < 1 ∨ 1000 < n) :
    Calls Try.prog 8 #[.int .i64 n] w fun e w' => e = .returned (.tuple #[.agg #[.slice none 0 0, .int .i64 0], .int .i64 2]) ∧ Below w.heap.size w w' := by
  rcases h with h | h
  · go_enter Try.func8, Try.ntmps8
    go_wp2
    refine bodyPost_ret (by unfold results; simp only [Try.results8]; go_simp; rfl) rfl ?_
    exact ⟨rfl, (by repeat' (first | (with_reducible exact Below.refl _ _) | (with_reducible assumption) | (with_reducible refine Below.alloc ?_ ?_ _) | (with_reducible refine Below.setCell ?_ ?_ _) | omega | (simp; done) | (simp; omega)))⟩
  · have h' : ¬ n < 1 := by omega
    go_enter Try.func8, Try.ntmps8
    go_wp2
    refine bodyPost_ret (by unfold results; simp only [Try.results8]; go_simp; rfl) rfl ?_
    exact ⟨rfl, (by repeat' (first | (with_reducible exact Below.refl _ _) | (with_reducible assumption) | (with_reducible refine Below.alloc ?_ ?_ _) | (with_reducible refine Below.setCell ?_ ?_ _) | omega | (simp; done) | (simp; omega)))⟩

set_option maxHeartbeats 400000 in
theorem rput_full (w : World) (A : Option Addr) (c : Nat) (n room : Nat) (x : Int) (h : room ≤ n) :
    Calls Try.prog 22 #[.agg #[.slice A n c, .int .i64 room], .int .i64 x] w fun e w' => e = .returned (.tuple #[.agg #[.slice A n c, .int .i64 room], .int .i64 3]) ∧ Below w.heap.size w w' := by
  go_enter Try.func22, Try.ntmps22
  go_wp2
  refine bodyPost_ret (by unfold results; simp only [Try.results22]; go_simp; rfl) rfl ?_
  exact ⟨rfl, (by repeat' (first | (with_reducible exact Below.refl _ _) | (with_reducible assumption) | (with_reducible refine Below.alloc ?_ ?_ _) | (with_reducible refine Below.setCell ?_ ?_ _) | omega | (simp; done) | (simp; omega)))⟩

set_option maxHeartbeats 800000 in
theorem rput_yes (w : World) (v : Value) (xs : List Int) (room : Nat) (x : Int) (h : xs.length < room) (hr : room ≤ 1000) {S : Nat → Prop} (hv : IRow S w v xs) :
    Calls Try.prog 22 #[.agg #[v, .int .i64 room], .int .i64 x] w fun e w' => ∃ v', e = .returned (.tuple #[.agg #[v', .int .i64 room], .int .i64 0]) ∧ IRow (fun b => w.heap.size ≤ b) w' v' (xs ++ [x]) ∧ Below w.heap.size w w' := by
  obtain ⟨i0, hi, hz0, hz1, hz2⟩ := info_parts Try.info3y
  obtain ⟨A, c, rfl, hlc, hrow⟩ := hv
  go_enter Try.func22, Try.ntmps22
  go_wp2_with (at_builtin; refine wpList_append_row rfl _ _ 29 rfl (w.heap.size + 2) 3 i0 (.int .i64 0) 8 Try.underlying29 hi hz0 hz1 hz2 rfl _ 0 [] rfl ?e0 A _ _ (ivals xs) rfl (ivals_len xs) ?e1 (ivals_one xs) ?e2 ?e3 ?e4 ?_)
  case e0 => exact own_empty (by simp) (by simp)
  case e1 => exact (((hrow.alloc _).alloc _).alloc _).at
  case e2 => unfold maxLen; omega
  case e3 => omega
  case e4 => simp
  intro A5 c5 w5 hown5 hr5 hs5 hg5
  have hr5 : World.grownBy _ w5 (some (w.heap.size + 2)) := hr5
  have hb5 : Below w.heap.size w w5 := ((((Below.refl _ _).alloc (Nat.le_refl _) _).alloc (by simp) _).alloc (by simp; omega) _).grown hr5 (by simp; omega) (by simp)
  have q0 : Box w5 w.heap.size 31 #[.slice A xs.length c, .int .i64 room] := ((((Box.new _ _ _).alloc _).alloc _).grown hr5 (by simp))
  have q1 : Box w5 (w.heap.size + 1) 31 #[.slice none 0 0, .int .i64 0] := ((Box.new' (by simp)).alloc _).grown hr5 (by simp)
  have c0 := q0.cells
  have f0 := q0.free
  have c1 := q1.cells
  have f1 := q1.free
  clear hr5
  go_wp2_with (at_builtin; refine wpList_append_one rfl _ _ 29 rfl (w.heap.size + 2) 3 i0 (.int .i64 0) 1 8 Try.underlying29 hi hz0 hz1 hz2 rfl (by decide) _ _ _ rfl hown5 [.int .i64 x] rfl rfl ?d1 ?d2 ?d3 ?d4 ?_)
  case d1 => intro u hu; simp at hu; subst hu; rfl
  case d2 => unfold maxLen; omega
  case d3 => omega
  case d4 => omega
  intro g6 c6 w6 hown6 hr6 hc6 hm6 hg6 hg6' hsz6
  have hb6 := hb5.grown hr6 (by omega) (fun k hk => by have := (hown5.lt k hk).1; omega)
  have q0 := q0.grown hr6 (own_ne_box hown5 q0 (by decide))
  have q1 := q1.grown hr6 (own_ne_box hown5 q1 (by decide))
  have c0 := q0.cells
  have f0 := q0.free
  have c1 := q1.cells
  have f1 := q1.free
  clear hr6 hown5 hb5
  go_wp2
  refine bodyPost_ret (by unfold results; simp only [Try.results22]; go_simp; rfl) rfl ?_
  refine ⟨_, rfl, ⟨_, _, by rw [List.length_append]; rfl, by rw [List.length_append]; exact hc6, ?_⟩, (by repeat' (first | (with_reducible exact Below.refl _ _) | (with_reducible assumption) | (with_reducible refine Below.alloc ?_ ?_ _) | (with_reducible refine Below.setCell ?_ ?_ _) | omega | (simp; done) | (simp; omega)))⟩
  rw [ivals_append]
  have hr6 : RowS (fun b => w.heap.size + 2 ≤ b) w6 _ _ := RowS.of_own hown6 (fun b h _ => h)
  exact (((hr6.setCell (by omega) _).setCell (by omega) _).setCell (by omega) _).mono (fun b _ h => by omega)

set_option maxHeartbeats 800000 in
theorem rtake_none (w : World) (v : Value) (room : Nat) {S : Nat → Prop} (hv : IRow S w v []) :
    Calls Try.prog 23 #[.agg #[v, .int .i64 room]] w fun e w' => e = .returned (.tuple #[.agg #[v, .int .i64 room], .int .i64 0, .bool false]) ∧ Below w.heap.size w w' := by
  obtain ⟨A, c, rfl, hlc, hrow⟩ := hv
  go_enter Try.func23, Try.ntmps23
  go_wp2
  refine bodyPost_ret (by unfold results; simp only [Try.results23]; go_simp; rfl) rfl ?_
  exact ⟨rfl, (by repeat' (first | (with_reducible exact Below.refl _ _) | (with_reducible assumption) | (with_reducible refine Below.alloc ?_ ?_ _) | (with_reducible refine Below.setCell ?_ ?_ _) | omega | (simp; done) | (simp; omega)))⟩

set_option maxHeartbeats 800000 in
theorem rtake_some (w : World) (v : Value) (room : Nat) (y : Int) (ys : List Int) (hl : ys.length ≤ 1000) {S : Nat → Prop} (hv : IRow S w v (y :: ys)) :
    Calls Try.prog 23 #[.agg #[v, .int .i64 room]] w fun e w' => ∃ v', e = .returned (.tuple #[.agg #[v', .int .i64 room], .int .i64 y, .bool true]) ∧ IRow S w' v' ys ∧ Below w.heap.size w w' := by
  obtain ⟨A, c, rfl, hlc, hrow⟩ := hv
  obtain ⟨b, off, rfl, hS, hb, hc⟩ := hrow.iget (by simp)
  have h0 : w.cell? ⟨b, off, none⟩ = some (.int .i64 y) := hc 0 (by simp)
  clear hc
  simp only [List.length_cons] at hlc
  go_enter Try.func23, Try.ntmps23
  go_wp2
  · refine bodyPost_ret (by unfold results; simp only [Try.results23]; go_simp; rfl) rfl ?_
    refine ⟨_, rfl, ⟨_, _, rfl, by omega, ?_⟩, (by repeat' (first | (with_reducible exact Below.refl _ _) | (with_reducible assumption) | (with_reducible refine Below.alloc ?_ ?_ _) | (with_reducible refine Below.setCell ?_ ?_ _) | omega | (simp; done) | (simp; omega)))⟩
    obtain rfl : ys = [] := List.eq_nil_of_length_eq_zero (by omega)
    exact RowS.nil _ _ _
  · refine bodyPost_ret (by unfold results; simp only [Try.results23]; go_simp; rfl) rfl ?_
    refine ⟨_, rfl, ⟨_, _, rfl, by omega, ?_⟩, (by repeat' (first | (with_reducible exact Below.refl _ _) | (with_reducible assumption) | (with_reducible refine Below.alloc ?_ ?_ _) | (with_reducible refine Below.setCell ?_ ?_ _) | omega | (simp; done) | (simp; omega)))⟩
    have h1 := hrow.drop 1
    simp only [Option.map_some, addr_add] at h1
    exact ((h1.alloc _).alloc _)

structure Told where
  l : List Int
  m : List Int
  x : Int
  e : Int
  ok : Bool
/-- What a call does to two rows, and what it tells. -/
def stepS (r0 r1 : Nat) (l m : List Int) (kind x : Int) : Told :=
  if kind = 0 then (if l.length < r0 then ⟨l ++ [x], m, 0, 0, false⟩ else ⟨l, m, 0, 3, false⟩)
  else if kind = 1 then (if m.length < r1 then ⟨l, m ++ [x], 0, 0, false⟩ else ⟨l, m, 0, 3, false⟩)
  else if kind = 2 ∨ (kind ≠ 3 ∧ l ≠ []) then
    match l with
    | [] => ⟨[], m, 0, 0, false⟩
    | y :: ys => ⟨ys, m, y, 0, true⟩
  else
    match m with
    | [] => ⟨l, [], 0, 0, false⟩
    | y :: ys => ⟨l, ys, y, 0, true⟩

section
variable {w : World} {g c g' c' r0 r1 : Nat} {l m : List Int} {kind x : Int}
/-- What 'do' owes: the document's step. -/
def Does (w : World) (g c g' c' r0 r1 : Nat) (S : Told) (e : Ending) (w' : World) : Prop :=
  e = .returned (.tuple #[.int .i64 S.x, .int .i64 S.e, .bool S.ok]) ∧ QAt w' 58 g c r0 (ivals S.l) ∧ QAt w' 58 g' c' r1 (ivals S.m) ∧ ∃ row, (row = some c ∨ row = some c') ∧ w.grownBy w' row

theorem grown_of_alloc {w w' : World} {o : Obj} {row : Option Nat} (h : (w.alloc o).grownBy w' row) : w.grownBy w' row :=
  ⟨h.os, h.tape, h.output, by have := h.size; simp at this; omega, fun k hk hne => (h.block k (by simp; omega) hne).trans (Below.heap_alloc w o k hk)⟩

theorem ivals_cons (y : Int) (ys : List Int) : ivals (y :: ys) = Value.int .i64 y :: ivals ys := rfl
theorem ivals_nil : ivals [] = [] := rfl

set_option maxHeartbeats 400000 in
theorem do0_yes (hp : QAt w 58 g c r0 (ivals l)) (hq : QAt w 58 g' c' r1 (ivals m)) (hne : c ≠ c') (h : l.length < r0) :
    Calls Try.prog 9 #[.pointer (some ⟨g, 0, none⟩), .pointer (some ⟨g', 0, none⟩), .agg #[.int .i64 0, .int .i64 x]] w (Does w g c g' c' r0 r1 ⟨l ++ [x], m, 0, 0, false⟩) := by
  go_enter Try.func9, Try.ntmps9
  go_wp2_with fail
  refine (put_yes _ _ _ _ _ _ (hp.alloc _) (by rw [ivals_len]; exact h)).mono ?_
  rintro e w1 ⟨rfl, hp1, hr⟩
  have hq1 := (hq.alloc _).grown (hp.alloc _) hr (Ne.symm hne)
  have Hb : Hid (∃ row, (row = some c ∨ row = some c') ∧ w.grownBy w1 row) := ⟨_, .inl rfl, grown_of_alloc hr⟩
  clear hr hp hq
  go_wp2_with fail
  go_ret3
  exact ⟨rfl, by rw [ivals_append]; exact hp1, hq1, Hb.out⟩
set_option maxHeartbeats 400000 in
theorem do0_no (hp : QAt w 58 g c r0 (ivals l)) (hq : QAt w 58 g' c' r1 (ivals m)) (h : r0 ≤ l.length) :
    Calls Try.prog 9 #[.pointer (some ⟨g, 0, none⟩), .pointer (some ⟨g', 0, none⟩), .agg #[.int .i64 0, .int .i64 x]] w (Does w g c g' c' r0 r1 ⟨l, m, 0, 3, false⟩) := by
  go_enter Try.func9, Try.ntmps9
  go_wp2_with fail
  refine (put_full _ _ _ _ _ _ (hp.alloc _) (by rw [ivals_len]; exact h)).mono ?_
  rintro e w1 ⟨rfl, rfl⟩
  go_wp2_with fail
  go_ret3
  exact ⟨rfl, hp.alloc _, hq.alloc _, ⟨_, .inl rfl, World.grownBy_alloc w _ _⟩⟩
set_option maxHeartbeats 400000 in
theorem do1_yes (hp : QAt w 58 g c r0 (ivals l)) (hq : QAt w 58 g' c' r1 (ivals m)) (hne : c ≠ c') (h : m.length < r1) :
    Calls Try.prog 9 #[.pointer (some ⟨g, 0, none⟩), .pointer (some ⟨g', 0, none⟩), .agg #[.int .i64 1, .int .i64 x]] w (Does w g c g' c' r0 r1 ⟨l, m ++ [x], 0, 0, false⟩) := by
  go_enter Try.func9, Try.ntmps9
  go_wp2_with fail
  refine (put_yes _ _ _ _ _ _ (hq.alloc _) (by rw [ivals_len]; exact h)).mono ?_
  rintro e w1 ⟨rfl, hq1, hr⟩
  have hp1 := (hp.alloc _).grown (hq.alloc _) hr hne
  have Hb : Hid (∃ row, (row = some c ∨ row = some c') ∧ w.grownBy w1 row) := ⟨_, .inr rfl, grown_of_alloc hr⟩
  clear hr hp hq
  go_wp2_with fail
  go_ret3
  exact ⟨rfl, hp1, by rw [ivals_append]; exact hq1, Hb.out⟩
set_option maxHeartbeats 400000 in
theorem do1_no (hp : QAt w 58 g c r0 (ivals l)) (hq : QAt w 58 g' c' r1 (ivals m)) (h : r1 ≤ m.length) :
    Calls Try.prog 9 #[.pointer (some ⟨g, 0, none⟩), .pointer (some ⟨g', 0, none⟩), .agg #[.int .i64 1, .int .i64 x]] w (Does w g c g' c' r0 r1 ⟨l, m, 0, 3, false⟩) := by
  go_enter Try.func9, Try.ntmps9
  go_wp2_with fail
  refine (put_full _ _ _ _ _ _ (hq.alloc _) (by rw [ivals_len]; exact h)).mono ?_
  rintro e w1 ⟨rfl, rfl⟩
  go_wp2_with fail
  go_ret3
  exact ⟨rfl, hp.alloc _, hq.alloc _, ⟨_, .inl rfl, World.grownBy_alloc w _ _⟩⟩
set_option maxHeartbeats 400000 in
theorem do2_none (hp : QAt w 58 g c r0 (ivals [])) (hq : QAt w 58 g' c' r1 (ivals m)) :
    Calls Try.prog 9 #[.pointer (some ⟨g, 0, none⟩), .pointer (some ⟨g', 0, none⟩), .agg #[.int .i64 2, .int .i64 x]] w (Does w g c g' c' r0 r1 ⟨[], m, 0, 0, false⟩) := by
  go_enter Try.func9, Try.ntmps9
  go_wp2_with fail
  refine (take_none _ _ _ _ (hp.alloc _)).mono ?_
  rintro e w1 ⟨rfl, rfl⟩
  go_wp2_with fail
  go_ret3
  exact ⟨rfl, hp.alloc _, hq.alloc _, ⟨_, .inl rfl, World.grownBy_alloc w _ _⟩⟩
set_option maxHeartbeats 400000 in
theorem do3_none (hp : QAt w 58 g c r0 (ivals l)) (hq : QAt w 58 g' c' r1 (ivals [])) :
    Calls Try.prog 9 #[.pointer (some ⟨g, 0, none⟩), .pointer (some ⟨g', 0, none⟩), .agg #[.int .i64 3, .int .i64 x]] w (Does w g c g' c' r0 r1 ⟨l, [], 0, 0, false⟩) := by
  go_enter Try.func9, Try.ntmps9
  go_wp2_with fail
  refine (take_none _ _ _ _ (hq.alloc _)).mono ?_
  rintro e w1 ⟨rfl, rfl⟩
  go_wp2_with fail
  go_ret3
  exact ⟨rfl, hp.alloc _, hq.alloc _, ⟨_, .inl rfl, World.grownBy_alloc w _ _⟩⟩
set_option maxHeartbeats 400000 in
theorem do2_some {y : Int} {ys : List Int} (hp : QAt w 58 g c r0 (ivals (y :: ys))) (hq : QAt w 58 g' c' r1 (ivals m)) (hne : c ≠ c') :
    Calls Try.prog 9 #[.pointer (some ⟨g, 0, none⟩), .pointer (some ⟨g', 0, none⟩), .agg #[.int .i64 2, .int .i64 x]] w (Does w g c g' c' r0 r1 ⟨ys, m, y, 0, true⟩) := by
  go_enter Try.func9, Try.ntmps9
  go_wp2_with fail
  refine (take_yes _ _ _ _ _ _ (hp.alloc _)).mono ?_
  rintro e w1 ⟨rfl, hp1, hr⟩
  have hq1 := (hq.alloc _).grown (hp.alloc _) hr (Ne.symm hne)
  have Hb : Hid (∃ row, (row = some c ∨ row = some c') ∧ w.grownBy w1 row) := ⟨_, .inl rfl, grown_of_alloc hr⟩
  clear hr hp hq
  go_wp2_with fail
  go_ret3
  exact ⟨rfl, hp1, hq1, Hb.out⟩
set_option maxHeartbeats 400000 in
theorem do3_some {y : Int} {ys : List Int} (hp : QAt w 58 g c r0 (ivals l)) (hq : QAt w 58 g' c' r1 (ivals (y :: ys))) (hne : c ≠ c') :
    Calls Try.prog 9 #[.pointer (some ⟨g, 0, none⟩), .pointer (some ⟨g', 0, none⟩), .agg #[.int .i64 3, .int .i64 x]] w (Does w g c g' c' r0 r1 ⟨l, ys, y, 0, true⟩) := by
  go_enter Try.func9, Try.ntmps9
  go_wp2_with fail
  refine (take_yes _ _ _ _ _ _ (hq.alloc _)).mono ?_
  rintro e w1 ⟨rfl, hq1, hr⟩
  have hp1 := (hp.alloc _).grown (hq.alloc _) hr hne
  have Hb : Hid (∃ row, (row = some c ∨ row = some c') ∧ w.grownBy w1 row) := ⟨_, .inr rfl, grown_of_alloc hr⟩
  clear hr hp hq
  go_wp2_with fail
  go_ret3
  exact ⟨rfl, hp1, hq1, Hb.out⟩
set_option maxHeartbeats 400000 in
theorem do4_fst {y : Int} {ys : List Int} (h0 : kind ≠ 0) (h1 : kind ≠ 1) (h2 : kind ≠ 2) (h3 : kind ≠ 3) (hp : QAt w 58 g c r0 (ivals (y :: ys))) (hq : QAt w 58 g' c' r1 (ivals m)) (hne : c ≠ c') :
    Calls Try.prog 9 #[.pointer (some ⟨g, 0, none⟩), .pointer (some ⟨g', 0, none⟩), .agg #[.int .i64 kind, .int .i64 x]] w (Does w g c g' c' r0 r1 ⟨ys, m, y, 0, true⟩) := by
  go_enter Try.func9, Try.ntmps9
  go_wp2_with fail
  refine (either_fst _ _ _ _ _ _ _ (hp.alloc _)).mono ?_
  rintro e w1 ⟨rfl, hp1, hr⟩
  have hq1 := (hq.alloc _).grown (hp.alloc _) hr (Ne.symm hne)
  have Hb : Hid (∃ row, (row = some c ∨ row = some c') ∧ w.grownBy w1 row) := ⟨_, .inl rfl, grown_of_alloc hr⟩
  clear hr hp hq
  go_wp2_with fail
  go_ret3
  exact ⟨rfl, hp1, hq1, Hb.out⟩
set_option maxHeartbeats 400000 in
theorem do4_snd {y : Int} {ys : List Int} (h0 : kind ≠ 0) (h1 : kind ≠ 1) (h2 : kind ≠ 2) (h3 : kind ≠ 3) (hp : QAt w 58 g c r0 (ivals [])) (hq : QAt w 58 g' c' r1 (ivals (y :: ys))) (hne : c ≠ c') :
    Calls Try.prog 9 #[.pointer (some ⟨g, 0, none⟩), .pointer (some ⟨g', 0, none⟩), .agg #[.int .i64 kind, .int .i64 x]] w (Does w g c g' c' r0 r1 ⟨[], ys, y, 0, true⟩) := by
  go_enter Try.func9, Try.ntmps9
  go_wp2_with fail
  refine (either_snd _ _ _ _ _ _ _ _ _ (hp.alloc _) (hq.alloc _)).mono ?_
  rintro e w1 ⟨rfl, hq1, hr⟩
  have hp1 := (hp.alloc _).grown (hq.alloc _) hr hne
  have Hb : Hid (∃ row, (row = some c ∨ row = some c') ∧ w.grownBy w1 row) := ⟨_, .inr rfl, grown_of_alloc hr⟩
  clear hr hp hq
  go_wp2_with fail
  go_ret3
  exact ⟨rfl, hp1, hq1, Hb.out⟩
set_option maxHeartbeats 400000 in
theorem do4_none (h0 : kind ≠ 0) (h1 : kind ≠ 1) (h2 : kind ≠ 2) (h3 : kind ≠ 3) (hp : QAt w 58 g c r0 (ivals [])) (hq : QAt w 58 g' c' r1 (ivals [])) :
    Calls Try.prog 9 #[.pointer (some ⟨g, 0, none⟩), .pointer (some ⟨g', 0, none⟩), .agg #[.int .i64 kind, .int .i64 x]] w (Does w g c g' c' r0 r1 ⟨[], [], 0, 0, false⟩) := by
  go_enter Try.func9, Try.ntmps9
  go_wp2_with fail
  refine (either_none _ _ _ _ _ _ _ (hp.alloc _) (hq.alloc _)).mono ?_
  rintro e w1 ⟨rfl, rfl⟩
  go_wp2_with fail
  go_ret3
  exact ⟨rfl, hp.alloc _, hq.alloc _, ⟨_, .inl rfl, World.grownBy_alloc w _ _⟩⟩

theorem do_any (hp : QAt w 58 g c r0 (ivals l)) (hq : QAt w 58 g' c' r1 (ivals m)) (hne : c ≠ c') :
    Calls Try.prog 9 #[.pointer (some ⟨g, 0, none⟩), .pointer (some ⟨g', 0, none⟩), .agg #[.int .i64 kind, .int .i64 x]] w (Does w g c g' c' r0 r1 (stepS r0 r1 l m kind x)) := by
  by_cases h0 : kind = 0
  · subst h0
    by_cases h : l.length < r0
    · simp only [stepS, if_pos, h]; exact do0_yes hp hq hne h
    · simp only [stepS, if_pos, h, if_false]; exact do0_no hp hq (by omega)
  by_cases h1 : kind = 1
  · subst h1
    by_cases h : m.length < r1
    · simp only [stepS, h0, if_false, if_pos, h]; exact do1_yes hp hq hne h
    · simp only [stepS, h0, if_pos, h, if_false]; exact do1_no hp hq (by omega)
  by_cases h2 : kind = 2
  · subst h2
    rcases l with _ | ⟨y, ys⟩
    · simp only [stepS, h0, h1, if_false, true_or, if_pos]; exact do2_none hp hq
    · simp only [stepS, h0, h1, if_false, true_or, if_pos]; exact do2_some hp hq hne
  by_cases h3 : kind = 3
  · subst h3
    rcases m with _ | ⟨y, ys⟩
    · simp only [stepS, h0, h1, h2, if_false, false_or, ne_eq, not_true_eq_false, false_and]; exact do3_none hp hq
    · simp only [stepS, h0, h1, h2, if_false, false_or, ne_eq, not_true_eq_false, false_and]; exact do3_some hp hq hne
  rcases l with _ | ⟨z, zs⟩
  · rcases m with _ | ⟨y, ys⟩
    · simp only [stepS, h0, h1, h2, h3, if_false, false_or, ne_eq, not_true_eq_false, and_false]; exact do4_none h0 h1 h2 h3 hp hq
    · simp only [stepS, h0, h1, h2, h3, if_false, false_or, ne_eq, not_true_eq_false, and_false]; exact do4_snd h0 h1 h2 h3 hp hq hne
  · have : stepS r0 r1 (z :: zs) m kind x = ⟨zs, m, z, 0, true⟩ := by simp [stepS, h0, h1, h2, h3]
    rw [this]
    exact do4_fst h0 h1 h2 h3 hp hq hne
end
end Go.Proofs.Ytonikpljhbnoiaa
