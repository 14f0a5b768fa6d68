/-
  journal: the law's awake.
-/
import Derived.Test.YthkaohjgldoipaaJo11
namespace Go.Proofs.Ythkaohjgldoipaa
open Go.RowKit
def p4 : List Pst := [⟨1, 1, 1, ⟨1, 4, 0, 5⟩⟩, ⟨2, 1, 1, ⟨1, 5, 0, -5⟩⟩, ⟨3, 2, 2, ⟨1, 4, 0, -5⟩⟩, ⟨4, 2, 2, ⟨1, 5, 0, 5⟩⟩]
theorem t1 (g : Nat) : linesJ (l2 g) = p4 := rfl
theorem t2 (g : Nat) : lineJ (l2 g) 3 = (⟨3, 2, 2, ⟨1, 4, 0, -5⟩⟩, true) := rfl
theorem t3 (g : Nat) : lineJ (l2 g) 5 = (noP, false) := rfl
theorem t4 (g : Nat) : idsJ (l2 g) 2 = (3, 4) := by rw [← idsF_lines, t1]; rfl
theorem t5 (g : Nat) : idsJ (l2 g) 3 = (0, 0) := by rw [← idsF_lines, t1]; rfl
theorem t6 (g : Nat) : revJ (l2 g) 1 = 2 := rfl
theorem t7 (g : Nat) : revJ (l2 g) 2 = 0 := rfl
theorem t8 (g : Nat) : mayJ (l2 g) 1 = 35 := rfl
theorem t9 (g : Nat) : mayJ (l2 g) 2 = 35 := rfl
theorem t10 (g : Nat) : mayJ ((l2 g).take 1) 1 = 0 := rfl
theorem t11 (g : Nat) : mayJ (l2 g) 3 = 34 := rfl
theorem t12 (g : Nat) : WfE (l2 g) := by
  intro e he x hx
  unfold l2 at he
  rcases List.mem_cons.1 he with rfl | he
  · simp at hx; rcases hx with rfl | rfl <;> simp
  · obtain rfl := List.mem_singleton.1 he
    simp at hx; rcases hx with rfl | rfl <;> simp
theorem t13 (g : Nat) : ∀ e ∈ l2 g, e.ls.length ≤ 1000000 := by
  intro e he
  unfold l2 at he
  rcases List.mem_cons.1 he with rfl | he
  · simp
  · obtain rfl := List.mem_singleton.1 he
    simp
theorem t15 (g : Nat) : (l2 g).length ≤ 1000000 := show 2 ≤ 1000000 by decide
theorem t16 (g : Nat) : ((l2 g).take 1).length ≤ 1000000 := show 1 ≤ 1000000 by decide
theorem t14 (g : Nat) : (linesJ (l2 g)).length ≤ 1000000 := by rw [t1]; decide
theorem newP_of {t : TypeId} {M : List Pst} {k : Nat} {w w' : World} {e : Ending} (hk : M.length = k) (h : NewP t M w e w') : ∃ A c, e = .returned (.slice A k c) ∧ RowAt w' A (pvs M) ∧ Below w.heap.size w w' := by
  subst hk
  obtain ⟨A, c, h1, h2, h3⟩ := h
  exact ⟨A, c, h1, row_of_own h2, h3⟩
set_option maxRecDepth 100000 in
set_option maxHeartbeats 8000000 in
theorem jawake_any (w : World) : Calls Try.prog 13 #[] w fun e w' => e = .returned (.bool true) ∧ Below w.heap.size w w' := by
  have T : Hid (∀ w : World, Calls Try.prog 48 #[] w fun e w' => ∃ a g, e = .returned (.slice (some a) 2 2) ∧ RowE w' (some a) (l2 g) ∧ Below w.heap.size w w') := fun w => (jtwo_any w).mono fun _ _ ⟨h1, h2, h3⟩ => ⟨_, _, h1, h2, h3⟩
  have K1 : Hid (∀ (g : Nat) (a : Addr) (c : Nat) (w : World) (_ : RowE w (some a) (l2 g)), Calls Try.prog 14 #[.slice (some a) 2 c] w fun e w' => ∃ A c, e = .returned (.slice A 4 c) ∧ RowAt w' A (pvs p4) ∧ Below w.heap.size w w') := fun g a c w hr => (jlines_any (A := some a) (c := c) (l := l2 g) (w := w) (t14 g) (t15 g) hr).mono fun _ _ h => newP_of (M := p4) (k := 4) rfl (by rw [← t1 g]; exact h)
  have K2 : Hid (∀ (g : Nat) (a : Addr) (c : Nat) (w : World) (_ : RowE w (some a) (l2 g)), Calls Try.prog 18 #[.slice (some a) 2 c, .int .i64 3] w fun e w' => e = .returned (.tuple #[.agg #[.int .i64 3, .int .i64 2, .int .i64 2, .int .i64 1, .int .i64 4, .int .i64 0, .int .i64 (-5)], .bool true]) ∧ Below w.heap.size w w') := fun g a c w hr => (jline_any (A := some a) (c := c) (l := l2 g) (w := w) (t14 g) (t15 g) hr 3).mono fun _ _ h => by rw [t2 g] at h; exact h
  have K3 : Hid (∀ (g : Nat) (a : Addr) (c : Nat) (w : World) (_ : RowE w (some a) (l2 g)), Calls Try.prog 18 #[.slice (some a) 2 c, .int .i64 5] w fun e w' => e = .returned (.tuple #[.agg #[.int .i64 0, .int .i64 0, .int .i64 0, .int .i64 0, .int .i64 0, .int .i64 0, .int .i64 0], .bool false]) ∧ Below w.heap.size w w') := fun g a c w hr => (jline_any (A := some a) (c := c) (l := l2 g) (w := w) (t14 g) (t15 g) hr 5).mono fun _ _ h => by rw [t3 g] at h; exact h
  have K4 : Hid (∀ (g : Nat) (a : Addr) (c : Nat) (w : World) (_ : RowE w (some a) (l2 g)), Calls Try.prog 20 #[.slice (some a) 2 c, .int .i64 2] w fun e w' => e = .returned (.tuple #[.int .i64 3, .int .i64 4]) ∧ Below w.heap.size w w') := fun g a c w hr => (jids_any (A := some a) (c := c) (l := l2 g) (w := w) (t14 g) (t15 g) hr 2).mono fun _ _ h => by rw [t4 g] at h; exact h
  have K5 : Hid (∀ (g : Nat) (a : Addr) (c : Nat) (w : World) (_ : RowE w (some a) (l2 g)), Calls Try.prog 20 #[.slice (some a) 2 c, .int .i64 3] w fun e w' => e = .returned (.tuple #[.int .i64 0, .int .i64 0]) ∧ Below w.heap.size w w') := fun g a c w hr => (jids_any (A := some a) (c := c) (l := l2 g) (w := w) (t14 g) (t15 g) hr 3).mono fun _ _ h => by rw [t5 g] at h; exact h
  have K6 : Hid (∀ (g : Nat) (a : Addr) (c : Nat) (w : World) (_ : RowE w (some a) (l2 g)), Calls Try.prog 22 #[.slice (some a) 2 c, .int .i64 1] w fun e w' => e = .returned (.int .i64 2) ∧ Below w.heap.size w w') := fun g a c w hr => (jreversed_any (A := some a) (c := c) (l := l2 g) (w := w) 1 (t15 g) hr).mono fun _ _ h => by rw [t6 g] at h; exact h
  have K7 : Hid (∀ (g : Nat) (a : Addr) (c : Nat) (w : World) (_ : RowE w (some a) (l2 g)), Calls Try.prog 22 #[.slice (some a) 2 c, .int .i64 2] w fun e w' => e = .returned (.int .i64 0) ∧ Below w.heap.size w w') := fun g a c w hr => (jreversed_any (A := some a) (c := c) (l := l2 g) (w := w) 2 (t15 g) hr).mono fun _ _ h => by rw [t7 g] at h; exact h
  have K8 : Hid (∀ (g : Nat) (a : Addr) (c : Nat) (w : World) (_ : RowE w (some a) (l2 g)), Calls Try.prog 24 #[.slice (some a) 2 c, .int .i64 1] w fun e w' => e = .returned (.int .i64 35) ∧ Below w.heap.size w w') := fun g a c w hr => (jmay_any (A := some a) (c := c) (l := l2 g) (w := w) 1 (t15 g) (t13 g) (t12 g) hr).mono fun _ _ h => by rw [t8 g] at h; exact h
  have K9 : Hid (∀ (g : Nat) (a : Addr) (c : Nat) (w : World) (_ : RowE w (some a) (l2 g)), Calls Try.prog 24 #[.slice (some a) 2 c, .int .i64 2] w fun e w' => e = .returned (.int .i64 35) ∧ Below w.heap.size w w') := fun g a c w hr => (jmay_any (A := some a) (c := c) (l := l2 g) (w := w) 2 (t15 g) (t13 g) (t12 g) hr).mono fun _ _ h => by rw [t9 g] at h; exact h
  have K11 : Hid (∀ (g : Nat) (a : Addr) (c : Nat) (w : World) (_ : RowE w (some a) (l2 g)), Calls Try.prog 24 #[.slice (some a) 2 c, .int .i64 3] w fun e w' => e = .returned (.int .i64 34) ∧ Below w.heap.size w w') := fun g a c w hr => (jmay_any (A := some a) (c := c) (l := l2 g) (w := w) 3 (t15 g) (t13 g) (t12 g) hr).mono fun _ _ h => by rw [t11 g] at h; exact h
  have K10 : Hid (∀ (g : Nat) (a : Addr) (c : Nat) (w : World) (_ : RowE w (some a) ((l2 g).take 1)), Calls Try.prog 24 #[.slice (some a) 1 c, .int .i64 1] w fun e w' => e = .returned (.int .i64 0) ∧ Below w.heap.size w w') := fun g a c w hr => (jmay_any (A := some a) (c := c) (l := (l2 g).take 1) (w := w) 1 (t16 g) (fun e he => t13 g e (List.mem_of_mem_take he)) (fun e he => t12 g e (List.mem_of_mem_take he)) hr).mono fun _ _ h => by rw [t10 g] at h; exact h
  go_enter Try.func13, Try.ntmps13
  have B0 := Below.refl w.heap.size w
  go_wp2_with fail
  refine (T.out _).mono ?_
  rintro e w1 ⟨a, g, rfl, r, b1⟩
  have B1 := B0.trans (b1.mono B0.size)
  clear b1 B0
  go_wp2_with fail
  refine (K1.out _ _ _ _ r).mono ?_
  rintro e w2 ⟨A1, c1, rfl, H1, b2⟩
  clear r
  have B2 := B1.trans (b2.mono B1.size)
  clear b2 B1
  go_wp2_with fail
  refine (T.out _).mono ?_
  rintro e w3 ⟨a, g, rfl, r, b3⟩
  replace H1 := H1.below b3 (Nat.le_refl _)
  have B3 := B2.trans (b3.mono B2.size)
  clear b3 B2
  go_wp2_with fail
  refine (K2.out _ _ _ _ r).mono ?_
  rintro e w4 ⟨rfl, b4⟩
  clear r
  replace H1 := H1.below b4 (Nat.le_refl _)
  have B4 := B3.trans (b4.mono B3.size)
  clear b4 B3
  go_wp2_with fail
  refine (T.out _).mono ?_
  rintro e w5 ⟨a, g, rfl, r, b5⟩
  have x2 := (Box.new w4 34 #[.int .i64 3, .int .i64 2, .int .i64 2, .int .i64 1, .int .i64 4, .int .i64 0, .int .i64 (-5)]).later b5
  replace H1 := (H1.alloc _).below b5 (Nat.le_refl _)
  have b5 := below_up b5
  have B5 := B4.trans (b5.mono B4.size)
  clear b5 B4
  go_wp2_with fail
  refine (K3.out _ _ _ _ r).mono ?_
  rintro e w6 ⟨rfl, b6⟩
  clear r
  replace H1 := H1.below b6 (Nat.le_refl _)
  replace x2 := x2.later b6
  have B6 := B5.trans (b6.mono B5.size)
  clear b6 B5
  go_wp2_with fail
  refine (T.out _).mono ?_
  rintro e w7 ⟨a, g, rfl, r, b7⟩
  replace H1 := (H1.alloc _).below b7 (Nat.le_refl _)
  replace x2 := (x2.alloc _).later b7
  have b7 := below_up b7
  have B7 := B6.trans (b7.mono B6.size)
  clear b7 B6
  go_wp2_with fail
  refine (K4.out _ _ _ _ r).mono ?_
  rintro e w8 ⟨rfl, b8⟩
  clear r
  replace H1 := H1.below b8 (Nat.le_refl _)
  replace x2 := x2.later b8
  have B8 := B7.trans (b8.mono B7.size)
  clear b8 B7
  go_wp2_with fail
  refine (T.out _).mono ?_
  rintro e w9 ⟨a, g, rfl, r, b9⟩
  replace H1 := H1.below b9 (Nat.le_refl _)
  replace x2 := x2.later b9
  have B9 := B8.trans (b9.mono B8.size)
  clear b9 B8
  go_wp2_with fail
  refine (K5.out _ _ _ _ r).mono ?_
  rintro e w10 ⟨rfl, b10⟩
  clear r
  replace H1 := H1.below b10 (Nat.le_refl _)
  replace x2 := x2.later b10
  have B10 := B9.trans (b10.mono B9.size)
  clear b10 B9
  obtain ⟨gw, ow, rfl, hgw, hcw⟩ := H1.posts (by decide)
  have kx := x2.cells
  have lx := x2.lt
  obtain ⟨q1, q2, q3, q4, q5, q6, q7⟩ := hcw 2 (by decide)
  simp only [p4, List.getElem_cons_succ, List.getElem_cons_zero] at q1 q2 q3 q4 q5 q6 q7
  clear hcw H1
  have cb : Below w10.heap.size w10 w10.drew := below_drewN (Below.refl _ _) 1
  have kx := (x2.below cb x2.lt).cells
  have q1' := (cb.cell (p := ⟨gw, ow + 2 * 7, none⟩) hgw).trans q1
  have q2' := (cb.cell (p := ⟨gw, ow + 2 * 7 + 1, none⟩) hgw).trans q2
  have q3' := (cb.cell (p := ⟨gw, ow + 2 * 7 + 2, none⟩) hgw).trans q3
  have q4' := (cb.cell (p := ⟨gw, ow + 2 * 7 + 3, none⟩) hgw).trans q4
  have q5' := (cb.cell (p := ⟨gw, ow + 2 * 7 + 4, none⟩) hgw).trans q5
  have q6' := (cb.cell (p := ⟨gw, ow + 2 * 7 + 5, none⟩) hgw).trans q6
  have q7' := (cb.cell (p := ⟨gw, ow + 2 * 7 + 6, none⟩) hgw).trans q7
  go_upto_region 6 with fail
  simp only [List.append]
  refine wp_region_noPanic ?_
  refine wp_region_held_drew (S := (fun w' => w'.cell? ⟨w4.heap.size, 0, none⟩ = some (.int .i64 3) ∧ w'.cell? ⟨w4.heap.size, 1, none⟩ = some (.int .i64 2) ∧ w'.cell? ⟨w4.heap.size, 2, none⟩ = some (.int .i64 2) ∧ w'.cell? ⟨w4.heap.size, 3, none⟩ = some (.int .i64 1) ∧ w'.cell? ⟨w4.heap.size, 4, none⟩ = some (.int .i64 4) ∧ w'.cell? ⟨w4.heap.size, 5, none⟩ = some (.int .i64 0) ∧ w'.cell? ⟨w4.heap.size, 6, none⟩ = some (.int .i64 (-5)) ∧ w'.cell? ⟨gw, ow + 2 * 7, none⟩ = some (.int .i64 3) ∧ w'.cell? ⟨gw, ow + 2 * 7 + 1, none⟩ = some (.int .i64 2) ∧ w'.cell? ⟨gw, ow + 2 * 7 + 2, none⟩ = some (.int .i64 2) ∧ w'.cell? ⟨gw, ow + 2 * 7 + 3, none⟩ = some (.int .i64 1) ∧ w'.cell? ⟨gw, ow + 2 * 7 + 4, none⟩ = some (.int .i64 4) ∧ w'.cell? ⟨gw, ow + 2 * 7 + 5, none⟩ = some (.int .i64 0) ∧ w'.cell? ⟨gw, ow + 2 * 7 + 6, none⟩ = some (.int .i64 (-5)))) (by kernel_rfl) ?_ (fun hHeld => ?_)
  · go_keep
  refine wpAnyH_take (i := 0) (v := ?vz0) rfl (by kernel_rfl) (by kernel_rfl) (by kernel_rfl) (fun _ _ _ h => h) (Or.inl ⟨by kernel_rfl, ?hyz0⟩) (by assumption) ?restz0
  case hyz0 => (intro w hSw; (try dsimp only at hSw); go_simp; (try with_reducible rfl))
  go_simp
  refine wpAnyH_take (i := 1) (v := ?vz1) rfl (by kernel_rfl) (by kernel_rfl) (by kernel_rfl) (fun _ _ _ h => h) (Or.inl ⟨by kernel_rfl, ?hyz1⟩) (by assumption) ?restz1
  case hyz1 => (intro w hSw; (try dsimp only at hSw); go_simp; (try with_reducible rfl))
  go_simp
  refine wpAnyH_take (i := 2) (v := ?vz2) rfl (by kernel_rfl) (by kernel_rfl) (by kernel_rfl) (fun _ _ _ h => h) (Or.inl ⟨by kernel_rfl, ?hyz2⟩) (by assumption) ?restz2
  case hyz2 => (intro w hSw; (try dsimp only at hSw); go_simp; (try with_reducible rfl))
  go_simp
  refine wpAnyH_take (i := 3) (v := ?vz3) rfl (by kernel_rfl) (by kernel_rfl) (by kernel_rfl) (fun _ _ _ h => h) (Or.inl ⟨by kernel_rfl, ?hyz3⟩) (by assumption) ?restz3
  case hyz3 => (intro w hSw; (try dsimp only at hSw); go_simp; (try with_reducible rfl))
  go_simp
  refine wpAnyH_take (i := 4) (v := ?vz4) rfl (by kernel_rfl) (by kernel_rfl) (by kernel_rfl) (fun _ _ _ h => h) (Or.inl ⟨by kernel_rfl, ?hyz4⟩) (by assumption) ?restz4
  case hyz4 => (intro w hSw; (try dsimp only at hSw); go_simp; (try with_reducible rfl))
  go_simp
  refine wpAnyH_take (i := 5) (v := ?vz5) rfl (by kernel_rfl) (by kernel_rfl) (by kernel_rfl) (fun _ _ _ h => h) (Or.inl ⟨by kernel_rfl, ?hyz5⟩) (by assumption) ?restz5
  case hyz5 => (intro w hSw; (try dsimp only at hSw); go_simp; (try with_reducible rfl))
  go_simp
  refine wpAnyH_take (i := 6) (v := ?vz6) rfl (by kernel_rfl) (by kernel_rfl) (by kernel_rfl) (fun _ _ _ h => h) (Or.inl ⟨by kernel_rfl, ?hyz6⟩) (by assumption) ?restz6
  case hyz6 => (intro w hSw; (try dsimp only at hSw); go_simp; (try with_reducible rfl))
  go_simp
  refine wpAnyH_take (i := 7) (v := ?vz7) rfl (by kernel_rfl) (by kernel_rfl) (by kernel_rfl) (fun _ _ _ h => h) (Or.inl ⟨by kernel_rfl, ?hyz7⟩) (by assumption) ?restz7
  case hyz7 => (intro w hSw; (try dsimp only at hSw); go_simp; (try with_reducible rfl))
  go_simp
  refine wpAnyH_take (i := 8) (v := ?vz8) rfl (by kernel_rfl) (by kernel_rfl) (by kernel_rfl) (fun _ _ _ h => h) (Or.inl ⟨by kernel_rfl, ?hyz8⟩) (by assumption) ?restz8
  case hyz8 => (intro w hSw; (try dsimp only at hSw); go_simp; (try with_reducible rfl))
  go_simp
  refine wpAnyH_take (i := 9) (v := ?vz9) rfl (by kernel_rfl) (by kernel_rfl) (by kernel_rfl) (fun _ _ _ h => h) (Or.inl ⟨by kernel_rfl, ?hyz9⟩) (by assumption) ?restz9
  case hyz9 => (intro w hSw; (try dsimp only at hSw); go_simp; (try with_reducible rfl))
  go_simp
  refine wpAnyH_take (i := 10) (v := ?vz10) rfl (by kernel_rfl) (by kernel_rfl) (by kernel_rfl) (fun _ _ _ h => h) (Or.inl ⟨by kernel_rfl, ?hyz10⟩) (by assumption) ?restz10
  case hyz10 => (intro w hSw; (try dsimp only at hSw); go_simp; (try with_reducible rfl))
  go_simp
  refine wpAnyH_take (i := 11) (v := ?vz11) rfl (by kernel_rfl) (by kernel_rfl) (by kernel_rfl) (fun _ _ _ h => h) (Or.inl ⟨by kernel_rfl, ?hyz11⟩) (by assumption) ?restz11
  case hyz11 => (intro w hSw; (try dsimp only at hSw); go_simp; (try with_reducible rfl))
  go_simp
  refine wpAnyH_take (i := 12) (v := ?vz12) rfl (by kernel_rfl) (by kernel_rfl) (by kernel_rfl) (fun _ _ _ h => h) (Or.inl ⟨by kernel_rfl, ?hyz12⟩) (by assumption) ?restz12
  case hyz12 => (intro w hSw; (try dsimp only at hSw); go_simp; (try with_reducible rfl))
  go_simp
  refine wpAnyH_take (i := 13) (v := ?vz13) rfl (by kernel_rfl) (by kernel_rfl) (by kernel_rfl) (fun _ _ _ h => h) (Or.inl ⟨by kernel_rfl, ?hyz13⟩) (by assumption) ?restz13
  case hyz13 => (intro w hSw; (try dsimp only at hSw); go_simp; (try with_reducible rfl))
  go_simp
  refine wpAnyH_take (i := 14) (v := ?vz14) rfl (by kernel_rfl) (by kernel_rfl) (by kernel_rfl) (fun _ _ _ h => h) (Or.inl ⟨by kernel_rfl, ?hyz14⟩) (by assumption) ?restz14
  case hyz14 => (intro w hSw; (try dsimp only at hSw); go_simp; (try with_reducible rfl))
  go_simp
  refine wpAnyH_take (i := 15) (v := ?vz15) rfl (by kernel_rfl) (by kernel_rfl) (by kernel_rfl) (fun _ _ _ h => h) (Or.inl ⟨by kernel_rfl, ?hyz15⟩) (by assumption) ?restz15
  case hyz15 => (intro w hSw; (try dsimp only at hSw); go_simp; (try with_reducible rfl))
  go_simp
  refine wpAnyH_take (i := 16) (v := ?vz16) rfl (by kernel_rfl) (by kernel_rfl) (by kernel_rfl) (fun _ _ _ h => h) (Or.inl ⟨by kernel_rfl, ?hyz16⟩) (by assumption) ?restz16
  case hyz16 => (intro w hSw; (try dsimp only at hSw); go_simp; (try with_reducible rfl))
  go_simp
  refine wpAnyH_take (i := 17) (v := ?vz17) rfl (by kernel_rfl) (by kernel_rfl) (by kernel_rfl) (fun _ _ _ h => h) (Or.inl ⟨by kernel_rfl, ?hyz17⟩) (by assumption) ?restz17
  case hyz17 => (intro w hSw; (try dsimp only at hSw); go_simp; (try with_reducible rfl))
  go_simp
  refine wpAnyH_take (i := 18) (v := ?vz18) rfl (by kernel_rfl) (by kernel_rfl) (by kernel_rfl) (fun _ _ _ h => h) (Or.inl ⟨by kernel_rfl, ?hyz18⟩) (by assumption) ?restz18
  case hyz18 => (intro w hSw; (try dsimp only at hSw); go_simp; (try with_reducible rfl))
  go_simp
  refine wpAnyH_take (i := 19) (v := ?vz19) rfl (by kernel_rfl) (by kernel_rfl) (by kernel_rfl) (fun _ _ _ h => h) (Or.inl ⟨by kernel_rfl, ?hyz19⟩) (by assumption) ?restz19
  case hyz19 => (intro w hSw; (try dsimp only at hSw); go_simp; (try with_reducible rfl))
  go_simp
  refine wpAnyH_take (i := 20) (v := ?vz20) rfl (by kernel_rfl) (by kernel_rfl) (by kernel_rfl) (fun _ _ _ h => h) (Or.inl ⟨by kernel_rfl, ?hyz20⟩) (by assumption) ?restz20
  case hyz20 => (intro w hSw; (try dsimp only at hSw); go_simp; (try with_reducible rfl))
  go_simp
  refine wpAnyH_take (i := 21) (v := ?vz21) rfl (by kernel_rfl) (by kernel_rfl) (by kernel_rfl) (fun _ _ _ h => h) (Or.inl ⟨by kernel_rfl, ?hyz21⟩) (by assumption) ?restz21
  case hyz21 => (intro w hSw; (try dsimp only at hSw); go_simp; (try with_reducible rfl))
  go_simp
  refine wpAnyH_take (i := 22) (v := ?vz22) rfl (by kernel_rfl) (by kernel_rfl) (by kernel_rfl) (fun _ _ _ h => h) (Or.inl ⟨by kernel_rfl, ?hyz22⟩) (by assumption) ?restz22
  case hyz22 => (intro w hSw; (try dsimp only at hSw); go_simp; (try with_reducible rfl))
  go_simp
  refine wpAnyH_take (i := 23) (v := ?vz23) rfl (by kernel_rfl) (by kernel_rfl) (by kernel_rfl) (fun _ _ _ h => h) (Or.inl ⟨by kernel_rfl, ?hyz23⟩) (by assumption) ?restz23
  case hyz23 => (intro w hSw; (try dsimp only at hSw); go_simp; (try with_reducible rfl))
  go_simp
  refine wpAnyH_take (i := 24) (v := ?vz24) rfl (by kernel_rfl) (by kernel_rfl) (by kernel_rfl) (fun _ _ _ h => h) (Or.inl ⟨by kernel_rfl, ?hyz24⟩) (by assumption) ?restz24
  case hyz24 => (intro w hSw; (try dsimp only at hSw); go_simp; (try with_reducible rfl))
  go_simp
  refine wpAnyH_take (i := 25) (v := ?vz25) rfl (by kernel_rfl) (by kernel_rfl) (by kernel_rfl) (fun _ _ _ h => h) (Or.inl ⟨by kernel_rfl, ?hyz25⟩) (by assumption) ?restz25
  case hyz25 => (intro w hSw; (try dsimp only at hSw); go_simp; (try with_reducible rfl))
  go_simp
  refine wpAnyH_take (i := 26) (v := ?vz26) rfl (by kernel_rfl) (by kernel_rfl) (by kernel_rfl) (fun _ _ _ h => h) (Or.inl ⟨by kernel_rfl, ?hyz26⟩) (by assumption) ?restz26
  case hyz26 => (intro w hSw; (try dsimp only at hSw); go_simp; (try with_reducible rfl))
  go_simp
  refine wpAnyH_take (i := 27) (v := ?vz27) rfl (by kernel_rfl) (by kernel_rfl) (by kernel_rfl) (fun _ _ _ h => h) (Or.inl ⟨by kernel_rfl, ?hyz27⟩) (by assumption) ?restz27
  case hyz27 => (intro w hSw; (try dsimp only at hSw); go_simp; (try with_reducible rfl))
  go_simp
  refine wpAnyH_take (i := 28) (v := ?vz28) rfl (by kernel_rfl) (by kernel_rfl) (by kernel_rfl) (fun _ _ _ h => h) (Or.inl ⟨by kernel_rfl, ?hyz28⟩) (by assumption) ?restz28
  case hyz28 => (intro w hSw; (try dsimp only at hSw); go_simp; (try with_reducible rfl))
  go_simp
  refine wpAnyH_take (i := 29) (v := ?vz29) rfl (by kernel_rfl) (by kernel_rfl) (by kernel_rfl) (fun _ _ _ h => h) (Or.inl ⟨by kernel_rfl, ?hyz29⟩) (by assumption) ?restz29
  case hyz29 => (intro w hSw; (try dsimp only at hSw); go_simp; (try with_reducible rfl))
  go_simp
  refine wpAnyH_take (i := 30) (v := ?vz30) rfl (by kernel_rfl) (by kernel_rfl) (by kernel_rfl) (fun _ _ _ h => h) (Or.inl ⟨by kernel_rfl, ?hyz30⟩) (by assumption) ?restz30
  case hyz30 => (intro w hSw; (try dsimp only at hSw); go_simp; (try with_reducible rfl))
  go_simp
  refine wpAnyH_take (i := 31) (v := ?vz31) rfl (by kernel_rfl) (by kernel_rfl) (by kernel_rfl) (fun _ _ _ h => h) (Or.inl ⟨by kernel_rfl, ?hyz31⟩) (by assumption) ?restz31
  case hyz31 => (intro w hSw; (try dsimp only at hSw); go_simp; (try with_reducible rfl))
  go_simp
  refine wpAnyH_take (i := 32) (v := ?vz32) rfl (by kernel_rfl) (by kernel_rfl) (by kernel_rfl) (fun _ _ _ h => h) (Or.inl ⟨by kernel_rfl, ?hyz32⟩) (by assumption) ?restz32
  case hyz32 => (intro w hSw; (try dsimp only at hSw); go_simp; (try with_reducible rfl))
  go_simp
  refine wpAnyH_take (i := 33) (v := ?vz33) rfl (by kernel_rfl) (by kernel_rfl) (by kernel_rfl) (fun _ _ _ h => h) (Or.inl ⟨by kernel_rfl, ?hyz33⟩) (by assumption) ?restz33
  case hyz33 => (intro w hSw; (try dsimp only at hSw); go_simp; (try with_reducible rfl))
  go_simp
  refine wpAnyH_take (i := 34) (v := ?vz34) rfl (by kernel_rfl) (by kernel_rfl) (by kernel_rfl) (fun _ _ _ h => h) (Or.inl ⟨by kernel_rfl, ?hyz34⟩) (by assumption) ?restz34
  case hyz34 => (intro w hSw; (try dsimp only at hSw); go_simp; (try with_reducible rfl))
  go_simp
  refine wpAnyH_take (i := 35) (v := ?vz35) rfl (by kernel_rfl) (by kernel_rfl) (by kernel_rfl) (fun _ _ _ h => h) (Or.inl ⟨by kernel_rfl, ?hyz35⟩) (by assumption) ?restz35
  case hyz35 => (intro w hSw; (try dsimp only at hSw); go_simp; (try with_reducible rfl))
  go_simp
  refine wpAnyH_take (i := 36) (v := ?vz36) rfl (by kernel_rfl) (by kernel_rfl) (by kernel_rfl) (fun _ _ _ h => h) (Or.inl ⟨by kernel_rfl, ?hyz36⟩) (by assumption) ?restz36
  case hyz36 => (intro w hSw; (try dsimp only at hSw); go_simp; (try with_reducible rfl))
  go_simp
  refine wpAnyH_take (i := 37) (v := ?vz37) rfl (by kernel_rfl) (by kernel_rfl) (by kernel_rfl) (fun _ _ _ h => h) (Or.inl ⟨by kernel_rfl, ?hyz37⟩) (by assumption) ?restz37
  case hyz37 => (intro w hSw; (try dsimp only at hSw); go_simp; (try with_reducible rfl))
  go_simp
  refine wpAnyH_take (i := 38) (v := ?vz38) rfl (by kernel_rfl) (by kernel_rfl) (by kernel_rfl) (fun _ _ _ h => h) (Or.inl ⟨by kernel_rfl, ?hyz38⟩) (by assumption) ?restz38
  case hyz38 => (intro w hSw; (try dsimp only at hSw); go_simp; (try with_reducible rfl))
  go_simp
  refine wpAnyH_take (i := 39) (v := ?vz39) rfl (by kernel_rfl) (by kernel_rfl) (by kernel_rfl) (fun _ _ _ h => h) (Or.inl ⟨by kernel_rfl, ?hyz39⟩) (by assumption) ?restz39
  case hyz39 => (intro w hSw; (try dsimp only at hSw); go_simp; (try with_reducible rfl))
  go_simp
  refine wpAnyH_ready (rs := [40]) (by kernel_rfl) (by simp) ?_
  refine AllReadyH.cons rfl (fun K hK => ?_) AllReadyH.nil
  rw [if_pos (by kernel_rfl)]
  go_simp
  refine (T.out _).mono ?_
  rintro e w61 ⟨a, g, rfl, r, b61⟩
  have b61 := below_undrew b61
  have cb := b61
  have kx := (x2.below cb x2.lt).cells
  have q1' := (cb.cell (p := ⟨gw, ow + 2 * 7, none⟩) hgw).trans q1
  have q2' := (cb.cell (p := ⟨gw, ow + 2 * 7 + 1, none⟩) hgw).trans q2
  have q3' := (cb.cell (p := ⟨gw, ow + 2 * 7 + 2, none⟩) hgw).trans q3
  have q4' := (cb.cell (p := ⟨gw, ow + 2 * 7 + 3, none⟩) hgw).trans q4
  have q5' := (cb.cell (p := ⟨gw, ow + 2 * 7 + 4, none⟩) hgw).trans q5
  have q6' := (cb.cell (p := ⟨gw, ow + 2 * 7 + 5, none⟩) hgw).trans q6
  have q7' := (cb.cell (p := ⟨gw, ow + 2 * 7 + 6, none⟩) hgw).trans q7
  clear b61
  go_wp2_with fail
  refine hK.out _ _ (by go_keep) (fun hHeld => ?_)
  clear hK K
  go_simp
  refine wpAnyH_ready (rs := [41]) (by kernel_rfl) (by simp) ?_
  refine AllReadyH.cons rfl (fun K hK => ?_) AllReadyH.nil
  rw [if_pos (by kernel_rfl)]
  go_simp
  refine (K6.out _ _ _ _ r).mono ?_
  rintro e w62 ⟨rfl, b62⟩
  have cb := cb.trans (b62.mono cb.size)
  have kx := (x2.below cb x2.lt).cells
  have q1' := (cb.cell (p := ⟨gw, ow + 2 * 7, none⟩) hgw).trans q1
  have q2' := (cb.cell (p := ⟨gw, ow + 2 * 7 + 1, none⟩) hgw).trans q2
  have q3' := (cb.cell (p := ⟨gw, ow + 2 * 7 + 2, none⟩) hgw).trans q3
  have q4' := (cb.cell (p := ⟨gw, ow + 2 * 7 + 3, none⟩) hgw).trans q4
  have q5' := (cb.cell (p := ⟨gw, ow + 2 * 7 + 4, none⟩) hgw).trans q5
  have q6' := (cb.cell (p := ⟨gw, ow + 2 * 7 + 5, none⟩) hgw).trans q6
  have q7' := (cb.cell (p := ⟨gw, ow + 2 * 7 + 6, none⟩) hgw).trans q7
  clear b62
  clear r
  go_wp2_with fail
  refine hK.out _ _ (by go_keep) (fun hHeld => ?_)
  clear hK K
  go_simp
  refine wpAnyH_take (i := 42) (v := ?vz42) rfl (by kernel_rfl) (by kernel_rfl) (by kernel_rfl) (fun _ _ _ h => h) (Or.inl ⟨by kernel_rfl, ?hyz42⟩) (by assumption) ?restz42
  case hyz42 => (intro w hSw; (try dsimp only at hSw); go_simp; (try with_reducible rfl))
  go_simp
  refine wpAnyH_take (i := 43) (v := ?vz43) rfl (by kernel_rfl) (by kernel_rfl) (by kernel_rfl) (fun _ _ _ h => h) (Or.inl ⟨by kernel_rfl, ?hyz43⟩) (by assumption) ?restz43
  case hyz43 => (intro w hSw; (try dsimp only at hSw); go_simp; (try with_reducible rfl))
  go_simp
  refine wpAnyH_take (i := 44) (v := ?vz44) rfl (by kernel_rfl) (by kernel_rfl) (by kernel_rfl) (fun _ _ _ h => h) (Or.inl ⟨by kernel_rfl, ?hyz44⟩) (by assumption) ?restz44
  case hyz44 => (intro w hSw; (try dsimp only at hSw); go_simp; (try with_reducible rfl))
  go_simp
  refine wpAnyH_ready (rs := [45]) (by kernel_rfl) (by simp) ?_
  refine AllReadyH.cons rfl (fun K hK => ?_) AllReadyH.nil
  rw [if_pos (by kernel_rfl)]
  go_simp
  refine (T.out _).mono ?_
  rintro e w63 ⟨a, g, rfl, r, b63⟩
  have cb := cb.trans (b63.mono cb.size)
  have kx := (x2.below cb x2.lt).cells
  have q1' := (cb.cell (p := ⟨gw, ow + 2 * 7, none⟩) hgw).trans q1
  have q2' := (cb.cell (p := ⟨gw, ow + 2 * 7 + 1, none⟩) hgw).trans q2
  have q3' := (cb.cell (p := ⟨gw, ow + 2 * 7 + 2, none⟩) hgw).trans q3
  have q4' := (cb.cell (p := ⟨gw, ow + 2 * 7 + 3, none⟩) hgw).trans q4
  have q5' := (cb.cell (p := ⟨gw, ow + 2 * 7 + 4, none⟩) hgw).trans q5
  have q6' := (cb.cell (p := ⟨gw, ow + 2 * 7 + 5, none⟩) hgw).trans q6
  have q7' := (cb.cell (p := ⟨gw, ow + 2 * 7 + 6, none⟩) hgw).trans q7
  clear b63
  go_wp2_with fail
  refine hK.out _ _ (by go_keep) (fun hHeld => ?_)
  clear hK K
  go_simp
  refine wpAnyH_ready (rs := [46]) (by kernel_rfl) (by simp) ?_
  refine AllReadyH.cons rfl (fun K hK => ?_) AllReadyH.nil
  rw [if_pos (by kernel_rfl)]
  go_simp
  refine (K7.out _ _ _ _ r).mono ?_
  rintro e w64 ⟨rfl, b64⟩
  have cb := cb.trans (b64.mono cb.size)
  have kx := (x2.below cb x2.lt).cells
  have q1' := (cb.cell (p := ⟨gw, ow + 2 * 7, none⟩) hgw).trans q1
  have q2' := (cb.cell (p := ⟨gw, ow + 2 * 7 + 1, none⟩) hgw).trans q2
  have q3' := (cb.cell (p := ⟨gw, ow + 2 * 7 + 2, none⟩) hgw).trans q3
  have q4' := (cb.cell (p := ⟨gw, ow + 2 * 7 + 3, none⟩) hgw).trans q4
  have q5' := (cb.cell (p := ⟨gw, ow + 2 * 7 + 4, none⟩) hgw).trans q5
  have q6' := (cb.cell (p := ⟨gw, ow + 2 * 7 + 5, none⟩) hgw).trans q6
  have q7' := (cb.cell (p := ⟨gw, ow + 2 * 7 + 6, none⟩) hgw).trans q7
  clear b64
  clear r
  go_wp2_with fail
  refine hK.out _ _ (by go_keep) (fun hHeld => ?_)
  clear hK K
  go_simp
  refine wpAnyH_take (i := 47) (v := ?vz47) rfl (by kernel_rfl) (by kernel_rfl) (by kernel_rfl) (fun _ _ _ h => h) (Or.inl ⟨by kernel_rfl, ?hyz47⟩) (by assumption) ?restz47
  case hyz47 => (intro w hSw; (try dsimp only at hSw); go_simp; (try with_reducible rfl))
  go_simp
  refine wpAnyH_take (i := 48) (v := ?vz48) rfl (by kernel_rfl) (by kernel_rfl) (by kernel_rfl) (fun _ _ _ h => h) (Or.inl ⟨by kernel_rfl, ?hyz48⟩) (by assumption) ?restz48
  case hyz48 => (intro w hSw; (try dsimp only at hSw); go_simp; (try with_reducible rfl))
  go_simp
  refine wpAnyH_take (i := 49) (v := ?vz49) rfl (by kernel_rfl) (by kernel_rfl) (by kernel_rfl) (fun _ _ _ h => h) (Or.inl ⟨by kernel_rfl, ?hyz49⟩) (by assumption) ?restz49
  case hyz49 => (intro w hSw; (try dsimp only at hSw); go_simp; (try with_reducible rfl))
  go_simp
  refine wpAnyH_ready (rs := [50]) (by kernel_rfl) (by simp) ?_
  refine AllReadyH.cons rfl (fun K hK => ?_) AllReadyH.nil
  rw [if_pos (by kernel_rfl)]
  go_simp
  refine (T.out _).mono ?_
  rintro e w65 ⟨a, g, rfl, r, b65⟩
  have cb := cb.trans (b65.mono cb.size)
  have kx := (x2.below cb x2.lt).cells
  have q1' := (cb.cell (p := ⟨gw, ow + 2 * 7, none⟩) hgw).trans q1
  have q2' := (cb.cell (p := ⟨gw, ow + 2 * 7 + 1, none⟩) hgw).trans q2
  have q3' := (cb.cell (p := ⟨gw, ow + 2 * 7 + 2, none⟩) hgw).trans q3
  have q4' := (cb.cell (p := ⟨gw, ow + 2 * 7 + 3, none⟩) hgw).trans q4
  have q5' := (cb.cell (p := ⟨gw, ow + 2 * 7 + 4, none⟩) hgw).trans q5
  have q6' := (cb.cell (p := ⟨gw, ow + 2 * 7 + 5, none⟩) hgw).trans q6
  have q7' := (cb.cell (p := ⟨gw, ow + 2 * 7 + 6, none⟩) hgw).trans q7
  clear b65
  go_wp2_with fail
  refine hK.out _ _ (by go_keep) (fun hHeld => ?_)
  clear hK K
  go_simp
  refine wpAnyH_ready (rs := [51]) (by kernel_rfl) (by simp) ?_
  refine AllReadyH.cons rfl (fun K hK => ?_) AllReadyH.nil
  rw [if_pos (by kernel_rfl)]
  go_simp
  refine (K8.out _ _ _ _ r).mono ?_
  rintro e w66 ⟨rfl, b66⟩
  have cb := cb.trans (b66.mono cb.size)
  have kx := (x2.below cb x2.lt).cells
  have q1' := (cb.cell (p := ⟨gw, ow + 2 * 7, none⟩) hgw).trans q1
  have q2' := (cb.cell (p := ⟨gw, ow + 2 * 7 + 1, none⟩) hgw).trans q2
  have q3' := (cb.cell (p := ⟨gw, ow + 2 * 7 + 2, none⟩) hgw).trans q3
  have q4' := (cb.cell (p := ⟨gw, ow + 2 * 7 + 3, none⟩) hgw).trans q4
  have q5' := (cb.cell (p := ⟨gw, ow + 2 * 7 + 4, none⟩) hgw).trans q5
  have q6' := (cb.cell (p := ⟨gw, ow + 2 * 7 + 5, none⟩) hgw).trans q6
  have q7' := (cb.cell (p := ⟨gw, ow + 2 * 7 + 6, none⟩) hgw).trans q7
  clear b66
  clear r
  go_wp2_with fail
  refine hK.out _ _ (by go_keep) (fun hHeld => ?_)
  clear hK K
  go_simp
  refine wpAnyH_take (i := 52) (v := ?vz52) rfl (by kernel_rfl) (by kernel_rfl) (by kernel_rfl) (fun _ _ _ h => h) (Or.inl ⟨by kernel_rfl, ?hyz52⟩) (by assumption) ?restz52
  case hyz52 => (intro w hSw; (try dsimp only at hSw); go_simp; (try with_reducible rfl))
  go_simp
  refine wpAnyH_take (i := 53) (v := ?vz53) rfl (by kernel_rfl) (by kernel_rfl) (by kernel_rfl) (fun _ _ _ h => h) (Or.inl ⟨by kernel_rfl, ?hyz53⟩) (by assumption) ?restz53
  case hyz53 => (intro w hSw; (try dsimp only at hSw); go_simp; (try with_reducible rfl))
  go_simp
  refine wpAnyH_take (i := 54) (v := ?vz54) rfl (by kernel_rfl) (by kernel_rfl) (by kernel_rfl) (fun _ _ _ h => h) (Or.inl ⟨by kernel_rfl, ?hyz54⟩) (by assumption) ?restz54
  case hyz54 => (intro w hSw; (try dsimp only at hSw); go_simp; (try with_reducible rfl))
  go_simp
  refine wpAnyH_ready (rs := [55]) (by kernel_rfl) (by simp) ?_
  refine AllReadyH.cons rfl (fun K hK => ?_) AllReadyH.nil
  rw [if_pos (by kernel_rfl)]
  go_simp
  refine (T.out _).mono ?_
  rintro e w67 ⟨a, g, rfl, r, b67⟩
  have cb := cb.trans (b67.mono cb.size)
  have kx := (x2.below cb x2.lt).cells
  have q1' := (cb.cell (p := ⟨gw, ow + 2 * 7, none⟩) hgw).trans q1
  have q2' := (cb.cell (p := ⟨gw, ow + 2 * 7 + 1, none⟩) hgw).trans q2
  have q3' := (cb.cell (p := ⟨gw, ow + 2 * 7 + 2, none⟩) hgw).trans q3
  have q4' := (cb.cell (p := ⟨gw, ow + 2 * 7 + 3, none⟩) hgw).trans q4
  have q5' := (cb.cell (p := ⟨gw, ow + 2 * 7 + 4, none⟩) hgw).trans q5
  have q6' := (cb.cell (p := ⟨gw, ow + 2 * 7 + 5, none⟩) hgw).trans q6
  have q7' := (cb.cell (p := ⟨gw, ow + 2 * 7 + 6, none⟩) hgw).trans q7
  clear b67
  go_wp2_with fail
  refine hK.out _ _ (by go_keep) (fun hHeld => ?_)
  clear hK K
  go_simp
  refine wpAnyH_ready (rs := [56]) (by kernel_rfl) (by simp) ?_
  refine AllReadyH.cons rfl (fun K hK => ?_) AllReadyH.nil
  rw [if_pos (by kernel_rfl)]
  go_simp
  refine (K9.out _ _ _ _ r).mono ?_
  rintro e w68 ⟨rfl, b68⟩
  have cb := cb.trans (b68.mono cb.size)
  have kx := (x2.below cb x2.lt).cells
  have q1' := (cb.cell (p := ⟨gw, ow + 2 * 7, none⟩) hgw).trans q1
  have q2' := (cb.cell (p := ⟨gw, ow + 2 * 7 + 1, none⟩) hgw).trans q2
  have q3' := (cb.cell (p := ⟨gw, ow + 2 * 7 + 2, none⟩) hgw).trans q3
  have q4' := (cb.cell (p := ⟨gw, ow + 2 * 7 + 3, none⟩) hgw).trans q4
  have q5' := (cb.cell (p := ⟨gw, ow + 2 * 7 + 4, none⟩) hgw).trans q5
  have q6' := (cb.cell (p := ⟨gw, ow + 2 * 7 + 5, none⟩) hgw).trans q6
  have q7' := (cb.cell (p := ⟨gw, ow + 2 * 7 + 6, none⟩) hgw).trans q7
  clear b68
  clear r
  go_wp2_with fail
  refine hK.out _ _ (by go_keep) (fun hHeld => ?_)
  clear hK K
  go_simp
  refine wpAnyH_take (i := 57) (v := ?vz57) rfl (by kernel_rfl) (by kernel_rfl) (by kernel_rfl) (fun _ _ _ h => h) (Or.inl ⟨by kernel_rfl, ?hyz57⟩) (by assumption) ?restz57
  case hyz57 => (intro w hSw; (try dsimp only at hSw); go_simp; (try with_reducible rfl))
  go_simp
  refine wpAnyH_take (i := 58) (v := ?vz58) rfl (by kernel_rfl) (by kernel_rfl) (by kernel_rfl) (fun _ _ _ h => h) (Or.inl ⟨by kernel_rfl, ?hyz58⟩) (by assumption) ?restz58
  case hyz58 => (intro w hSw; (try dsimp only at hSw); go_simp; (try with_reducible rfl))
  go_simp
  refine wpAnyH_take (i := 59) (v := ?vz59) rfl (by kernel_rfl) (by kernel_rfl) (by kernel_rfl) (fun _ _ _ h => h) (Or.inl ⟨by kernel_rfl, ?hyz59⟩) (by assumption) ?restz59
  case hyz59 => (intro w hSw; (try dsimp only at hSw); go_simp; (try with_reducible rfl))
  go_simp
  refine wpAnyH_ready (rs := [60]) (by kernel_rfl) (by simp) ?_
  refine AllReadyH.cons rfl (fun K hK => ?_) AllReadyH.nil
  rw [if_pos (by kernel_rfl)]
  go_simp
  refine (T.out _).mono ?_
  rintro e w69 ⟨a, g, rfl, r, b69⟩
  have cb := cb.trans (b69.mono cb.size)
  have kx := (x2.below cb x2.lt).cells
  have q1' := (cb.cell (p := ⟨gw, ow + 2 * 7, none⟩) hgw).trans q1
  have q2' := (cb.cell (p := ⟨gw, ow + 2 * 7 + 1, none⟩) hgw).trans q2
  have q3' := (cb.cell (p := ⟨gw, ow + 2 * 7 + 2, none⟩) hgw).trans q3
  have q4' := (cb.cell (p := ⟨gw, ow + 2 * 7 + 3, none⟩) hgw).trans q4
  have q5' := (cb.cell (p := ⟨gw, ow + 2 * 7 + 4, none⟩) hgw).trans q5
  have q6' := (cb.cell (p := ⟨gw, ow + 2 * 7 + 5, none⟩) hgw).trans q6
  have q7' := (cb.cell (p := ⟨gw, ow + 2 * 7 + 6, none⟩) hgw).trans q7
  clear b69
  go_wp2_with fail
  refine hK.out _ _ (by go_keep) (fun hHeld => ?_)
  clear hK K
  go_simp
  refine wpAnyH_take (i := 61) (v := ?vz61) rfl (by kernel_rfl) (by kernel_rfl) (by kernel_rfl) (fun _ _ _ h => h) (Or.inl ⟨by kernel_rfl, ?hyz61⟩) (by assumption) ?restz61
  case hyz61 => (intro w hSw; (try dsimp only at hSw); go_simp; (try with_reducible rfl))
  go_simp
  refine wpAnyH_ready (rs := [62]) (by kernel_rfl) (by simp) ?_
  refine AllReadyH.cons rfl (fun K hK => ?_) AllReadyH.nil
  rw [if_pos (by kernel_rfl)]
  go_simp
  refine (K10.out _ _ _ _ (r.take 1)).mono ?_
  rintro e w70 ⟨rfl, b70⟩
  have cb := cb.trans (b70.mono cb.size)
  have kx := (x2.below cb x2.lt).cells
  have q1' := (cb.cell (p := ⟨gw, ow + 2 * 7, none⟩) hgw).trans q1
  have q2' := (cb.cell (p := ⟨gw, ow + 2 * 7 + 1, none⟩) hgw).trans q2
  have q3' := (cb.cell (p := ⟨gw, ow + 2 * 7 + 2, none⟩) hgw).trans q3
  have q4' := (cb.cell (p := ⟨gw, ow + 2 * 7 + 3, none⟩) hgw).trans q4
  have q5' := (cb.cell (p := ⟨gw, ow + 2 * 7 + 4, none⟩) hgw).trans q5
  have q6' := (cb.cell (p := ⟨gw, ow + 2 * 7 + 5, none⟩) hgw).trans q6
  have q7' := (cb.cell (p := ⟨gw, ow + 2 * 7 + 6, none⟩) hgw).trans q7
  clear b70
  clear r
  go_wp2_with fail
  refine hK.out _ _ (by go_keep) (fun hHeld => ?_)
  clear hK K
  go_simp
  refine wpAnyH_take (i := 63) (v := ?vz63) rfl (by kernel_rfl) (by kernel_rfl) (by kernel_rfl) (fun _ _ _ h => h) (Or.inl ⟨by kernel_rfl, ?hyz63⟩) (by assumption) ?restz63
  case hyz63 => (intro w hSw; (try dsimp only at hSw); go_simp; (try with_reducible rfl))
  go_simp
  refine wpAnyH_take (i := 64) (v := ?vz64) rfl (by kernel_rfl) (by kernel_rfl) (by kernel_rfl) (fun _ _ _ h => h) (Or.inl ⟨by kernel_rfl, ?hyz64⟩) (by assumption) ?restz64
  case hyz64 => (intro w hSw; (try dsimp only at hSw); go_simp; (try with_reducible rfl))
  go_simp
  refine wpAnyH_take (i := 65) (v := ?vz65) rfl (by kernel_rfl) (by kernel_rfl) (by kernel_rfl) (fun _ _ _ h => h) (Or.inl ⟨by kernel_rfl, ?hyz65⟩) (by assumption) ?restz65
  case hyz65 => (intro w hSw; (try dsimp only at hSw); go_simp; (try with_reducible rfl))
  go_simp
  refine wpAnyH_ready (rs := [66]) (by kernel_rfl) (by simp) ?_
  refine AllReadyH.cons rfl (fun K hK => ?_) AllReadyH.nil
  rw [if_pos (by kernel_rfl)]
  go_simp
  refine (T.out _).mono ?_
  rintro e w71 ⟨a, g, rfl, r, b71⟩
  have cb := cb.trans (b71.mono cb.size)
  have kx := (x2.below cb x2.lt).cells
  have q1' := (cb.cell (p := ⟨gw, ow + 2 * 7, none⟩) hgw).trans q1
  have q2' := (cb.cell (p := ⟨gw, ow + 2 * 7 + 1, none⟩) hgw).trans q2
  have q3' := (cb.cell (p := ⟨gw, ow + 2 * 7 + 2, none⟩) hgw).trans q3
  have q4' := (cb.cell (p := ⟨gw, ow + 2 * 7 + 3, none⟩) hgw).trans q4
  have q5' := (cb.cell (p := ⟨gw, ow + 2 * 7 + 4, none⟩) hgw).trans q5
  have q6' := (cb.cell (p := ⟨gw, ow + 2 * 7 + 5, none⟩) hgw).trans q6
  have q7' := (cb.cell (p := ⟨gw, ow + 2 * 7 + 6, none⟩) hgw).trans q7
  clear b71
  go_wp2_with fail
  refine hK.out _ _ (by go_keep) (fun hHeld => ?_)
  clear hK K
  go_simp
  refine wpAnyH_ready (rs := [67]) (by kernel_rfl) (by simp) ?_
  refine AllReadyH.cons rfl (fun K hK => ?_) AllReadyH.nil
  rw [if_pos (by kernel_rfl)]
  go_simp
  refine (K11.out _ _ _ _ r).mono ?_
  rintro e w72 ⟨rfl, b72⟩
  have cb := cb.trans (b72.mono cb.size)
  have kx := (x2.below cb x2.lt).cells
  have q1' := (cb.cell (p := ⟨gw, ow + 2 * 7, none⟩) hgw).trans q1
  have q2' := (cb.cell (p := ⟨gw, ow + 2 * 7 + 1, none⟩) hgw).trans q2
  have q3' := (cb.cell (p := ⟨gw, ow + 2 * 7 + 2, none⟩) hgw).trans q3
  have q4' := (cb.cell (p := ⟨gw, ow + 2 * 7 + 3, none⟩) hgw).trans q4
  have q5' := (cb.cell (p := ⟨gw, ow + 2 * 7 + 4, none⟩) hgw).trans q5
  have q6' := (cb.cell (p := ⟨gw, ow + 2 * 7 + 5, none⟩) hgw).trans q6
  have q7' := (cb.cell (p := ⟨gw, ow + 2 * 7 + 6, none⟩) hgw).trans q7
  clear b72
  clear r
  go_wp2_with fail
  refine hK.out _ _ (by go_keep) (fun hHeld => ?_)
  clear hK K
  go_simp
  refine wpAnyH_take (i := 68) (v := ?vz68) rfl (by kernel_rfl) (by kernel_rfl) (by kernel_rfl) (fun _ _ _ h => h) (Or.inl ⟨by kernel_rfl, ?hyz68⟩) (by assumption) ?restz68
  case hyz68 => (intro w hSw; (try dsimp only at hSw); go_simp; (try with_reducible rfl))
  go_simp
  refine wpAnyH_take (i := 69) (v := ?vz69) rfl (by kernel_rfl) (by kernel_rfl) (by kernel_rfl) (fun _ _ _ h => h) (Or.inl ⟨by kernel_rfl, ?hyz69⟩) (by assumption) ?restz69
  case hyz69 => (intro w hSw; (try dsimp only at hSw); go_simp; (try with_reducible rfl))
  go_simp
  refine wpAnyH_ready (rs := [70]) (by kernel_rfl) (by simp) ?_
  refine AllReadyH.cons rfl (fun K hK => ?_) AllReadyH.nil
  rw [if_pos (by kernel_rfl)]
  go_simp
  refine hK.out _ _ hHeld (fun hHeld => ?_)
  clear hK K
  go_simp
  refine wpAnyH_done (by kernel_rfl) ?_ _
  refine NoPanic.normal ?_
  have BB := B10.trans (cb.mono B10.size)
  go_wp2
  go_ret
  exact ⟨rfl, BB⟩
end Go.Proofs.Ythkaohjgldoipaa
