/-
  Chapter 4: Times.
-/
import Derived.Test.YtkdpiikfiodopaaDoorRb
namespace Go.Proofs.YtkdpiikfiodopaaDoor
open Go.RowKit

/-- The product of two rates, as the program reckons it: both crosswise in lowest terms first. -/
def tmX (n d m e : Int) : Int × Int := normI (normI n d).1 (normI m e).2
def tmY (n d m e : Int) : Int × Int := normI (normI m e).1 (normI n d).2
def timesI (n d m e : Int) : (Int × Int) × Int :=
  if okR n d = true ∧ okR m e = true then
    if (tmX n d m e).1 * (tmY n d m e).1 ≤ 1000000000000 ∧ (tmX n d m e).2 * (tmY n d m e).2 ≤ 1000000000000 then (((tmX n d m e).1 * (tmY n d m e).1, (tmX n d m e).2 * (tmY n d m e).2), 0) else ((0, 0), 10)
  else ((0, 0), 11)
/-- What a statement leaves that makes two rates, each in a block of its own. -/
def RatCut (x y : Int × Int) (W : World) (s5 s6 : Value) (wx : World) : Prop :=
  ∃ g5 g6, s5 = .pointer (some ⟨g5, 0, none⟩) ∧ s6 = .pointer (some ⟨g6, 0, none⟩) ∧ Box wx g5 23 #[.int .i64 x.1, .int .i64 x.2] ∧ Box wx g6 23 #[.int .i64 y.1, .int .i64 y.2] ∧ Below W.heap.size W wx
theorem tb_set {w : World} {g i : Nat} {v : Value} (h : Tb w) (hg : g ≠ 1) : Tb (w.setCell ⟨g, i, none⟩ v) := fun j hj => by
  rw [World.cell?_setCell_other w _ ⟨1, j, none⟩ v (fun e => by injection e with e1 e2; exact hg e1)]
  exact h j hj
theorem box2r {w : World} {g : Nat} {t : TypeId} {a b : Value} (h : Box w g t #[a, b]) (a' b' : Value) : Box ((w.setCell ⟨g, 0, none⟩ a').setCell ⟨g, 1, none⟩ b') g t #[a', b'] := by
  have := (h.set 0 a').set 1 b'
  simpa using this

set_option maxRecDepth 100000 in
set_option maxHeartbeats 1000000 in
theorem times_bad (n d m e : Int) (w : World) (hok : ¬ (okR n d = true ∧ okR m e = true)) :
    Calls Tryd.prog 11 #[.agg #[.int .i64 n, .int .i64 d], .agg #[.int .i64 m, .int .i64 e]] w fun e' w' => e' = .returned (.tuple #[.agg #[.int .i64 0, .int .i64 0], .int .i64 11]) ∧ Below w.heap.size w w' := by
  have CA := Lib.hid fun w => check_any n d w
  have CB := Lib.hid fun w => check_any m e w
  cases h : okR n d
  · rw [okR_false h] at CA
    go_enter Tryd.func11, Tryd.ntmps11
    have B0 := Below.refl w.heap.size w
    go_wp2_with fail
    refine (CA.out _).mono ?_
    rintro e w1 ⟨rfl, b1⟩
    have x2 := (((Box.new w 23 #[.int .i64 n, .int .i64 d]).alloc (.cells #[.int .i64 m, .int .i64 e] 23)).alloc (.cells #[.int .i64 0, .int .i64 0] 23)).later b1
    have x3 := ((Box.new' (w := (w.alloc (.cells #[.int .i64 n, .int .i64 d] 23))) (g := w.heap.size + 1) (t := 23) (cs := #[.int .i64 m, .int .i64 e]) (by simp)).alloc (.cells #[.int .i64 0, .int .i64 0] 23)).later b1
    have x4 := (Box.new' (w := ((w.alloc (.cells #[.int .i64 n, .int .i64 d] 23)).alloc (.cells #[.int .i64 m, .int .i64 e] 23))) (g := w.heap.size + 2) (t := 23) (cs := #[.int .i64 0, .int .i64 0]) (by simp)).later b1
    have b1 := below_up b1
    have b1 := below_up b1
    have b1 := below_up b1
    have B1 := B0.trans (b1.mono B0.size)
    clear b1 B0
    have k2 := x2.cells
    have k3 := x3.cells
    have k4 := x4.cells
    have l2 := x2.lt
    have l3 := x3.lt
    have l4 := x4.lt
    have f4 := x4.free
    go_wp2
    refine bodyPost_ret (by unfold results; simp only [Tryd.results11]; go_simp; rfl) rfl ?_
    exact ⟨rfl, (B1.setCell (by simp; omega) _).setCell (by simp; omega) _⟩
  · have h2 : okR m e = false := by
      cases h2 : okR m e
      · rfl
      · exact absurd ⟨h, h2⟩ hok
    rw [okR_true h] at CA
    rw [okR_false h2] at CB
    go_enter Tryd.func11, Tryd.ntmps11
    have B0 := Below.refl w.heap.size w
    go_wp2_with fail
    refine (CA.out _).mono ?_
    rintro e w1 ⟨rfl, b1⟩
    have x2 := (((Box.new w 23 #[.int .i64 n, .int .i64 d]).alloc (.cells #[.int .i64 m, .int .i64 e] 23)).alloc (.cells #[.int .i64 0, .int .i64 0] 23)).later b1
    have x3 := ((Box.new' (w := (w.alloc (.cells #[.int .i64 n, .int .i64 d] 23))) (g := w.heap.size + 1) (t := 23) (cs := #[.int .i64 m, .int .i64 e]) (by simp)).alloc (.cells #[.int .i64 0, .int .i64 0] 23)).later b1
    have x4 := (Box.new' (w := ((w.alloc (.cells #[.int .i64 n, .int .i64 d] 23)).alloc (.cells #[.int .i64 m, .int .i64 e] 23))) (g := w.heap.size + 2) (t := 23) (cs := #[.int .i64 0, .int .i64 0]) (by simp)).later b1
    have b1 := below_up b1
    have b1 := below_up b1
    have b1 := below_up b1
    have B1 := B0.trans (b1.mono B0.size)
    clear b1 B0
    have k2 := x2.cells
    have k3 := x3.cells
    have k4 := x4.cells
    have l2 := x2.lt
    have l3 := x3.lt
    have l4 := x4.lt
    have f4 := x4.free
    clear CA
    go_wp2_with fail
    refine (CB.out _).mono ?_
    rintro e w2 ⟨rfl, b2⟩
    replace x2 := x2.later b2
    replace x3 := x3.later b2
    replace x4 := x4.later b2
    have B2 := B1.trans (b2.mono B1.size)
    clear b2 B1
    clear k2 k3 k4 l2 l3 l4 f4
    have k4 := x4.cells
    have l4 := x4.lt
    have f4 := x4.free
    go_wp2
    refine bodyPost_ret (by unfold results; simp only [Tryd.results11]; go_simp; rfl) rfl ?_
    exact ⟨rfl, (B2.setCell (by simp; omega) _).setCell (by simp; omega) _⟩

set_option maxRecDepth 100000 in
set_option maxHeartbeats 2000000 in
theorem times_good (n d m e : Int) (w : World) (T : Tb w) (h1 : okR n d = true) (h2 : okR m e = true) (q : (Int × Int) × Int) (hq : Hid (q = if (tmX n d m e).1 * (tmY n d m e).1 ≤ 1000000000000 ∧ (tmX n d m e).2 * (tmY n d m e).2 ≤ 1000000000000 then (((tmX n d m e).1 * (tmY n d m e).1, (tmX n d m e).2 * (tmY n d m e).2), 0) else ((0, 0), 10))) :
    Calls Tryd.prog 11 #[.agg #[.int .i64 n, .int .i64 d], .agg #[.int .i64 m, .int .i64 e]] w fun e' w' => e' = .returned (.tuple #[.agg #[.int .i64 q.1.1, .int .i64 q.1.2], .int .i64 q.2]) ∧ Below w.heap.size w w' := by
  have hT1 : 1 < w.heap.size := World.block_lt_of_cell? w _ (T 0 (by decide))
  have CA := Lib.hid fun w => check_any n d w
  have CB := Lib.hid fun w => check_any m e w
  rw [okR_true h1] at CA
  rw [okR_true h2] at CB
  have NA := Lib.hid fun (w : World) (T : Tb w) => norm_any n d w T
  have NB := Lib.hid fun (w : World) (T : Tb w) => norm_any m e w T
  have NX := Lib.hid fun (w : World) (T : Tb w) => norm_any (normI n d).1 (normI m e).2 w T
  have NY := Lib.hid fun (w : World) (T : Tb w) => norm_any (normI m e).1 (normI n d).2 w T
  obtain ⟨x0, x1, y0, y1⟩ := normI_range (normI n d).1 (normI m e).2
  obtain ⟨u0, u1, v0, v1⟩ := normI_range (normI m e).1 (normI n d).2
  unfold tmX tmY at hq
  generalize normI (normI n d).1 (normI m e).2 = X at *
  generalize normI (normI m e).1 (normI n d).2 = Y at *
  generalize normI n d = a at *
  generalize normI m e = b at *
  obtain ⟨X1, X2⟩ := X
  obtain ⟨Y1, Y2⟩ := Y
  obtain ⟨ax, ay⟩ := a
  obtain ⟨cx, cy⟩ := b
  simp only at x0 x1 y0 y1 u0 u1 v0 v1 hq NA NB NX NY
  have MX := Lib.hid fun (w : World) => wmul_any (a := X1) (b := Y1) (w := w) (by omega) (by omega) (by omega) (by omega)
  have MY := Lib.hid fun (w : World) => wmul_any (a := X2) (b := Y2) (w := w) (by omega) (by omega) (by omega) (by omega)
  have IX := Lib.hid fun (w : World) => wint_any (z := X1 * Y1) (w := w) (W128.mul (by omega) (by omega) (by omega) (by omega))
  have IY := Lib.hid fun (w : World) => wint_any (z := X2 * Y2) (w := w) (W128.mul (by omega) (by omega) (by omega) (by omega))
  have p0 : 0 ≤ X1 * Y1 := Int.mul_nonneg x0 u0
  have p1 : 0 ≤ X2 * Y2 := Int.mul_nonneg y0 v0
  simp only [WV_out] at MX MY IX IY
  have TX : (X1 * Y1 ≤ 9223372036854775807 ∧ toldI (X1 * Y1) = (X1 * Y1, 0)) ∨ (9223372036854775807 < X1 * Y1 ∧ toldI (X1 * Y1) = (0, 10)) := by
    rcases (by omega : X1 * Y1 ≤ 9223372036854775807 ∨ 9223372036854775807 < X1 * Y1) with h | h
    · exact .inl ⟨h, toldI_in (by omega) h⟩
    · exact .inr ⟨h, toldI_out (.inr h)⟩
  have TY : (X2 * Y2 ≤ 9223372036854775807 ∧ toldI (X2 * Y2) = (X2 * Y2, 0)) ∨ (9223372036854775807 < X2 * Y2 ∧ toldI (X2 * Y2) = (0, 10)) := by
    rcases (by omega : X2 * Y2 ≤ 9223372036854775807 ∨ 9223372036854775807 < X2 * Y2) with h | h
    · exact .inl ⟨h, toldI_in (by omega) h⟩
    · exact .inr ⟨h, toldI_out (.inr h)⟩
  generalize X1 * Y1 / 18446744073709551616 = xh at *
  generalize X1 * Y1 % 18446744073709551616 = xl at *
  generalize X2 * Y2 / 18446744073709551616 = yh at *
  generalize X2 * Y2 % 18446744073709551616 = yl at *
  generalize X1 * Y1 = P at *
  generalize X2 * Y2 = Q at *
  have HX := Lib.hid TX
  have HY := Lib.hid TY
  clear TX TY x0 x1 y0 y1 u0 u1 v0 v1 h1 h2
  go_enter Tryd.func11, Tryd.ntmps11
  have B0 := Below.refl w.heap.size w
  go_wp2_with fail
  refine (CA.out _).mono ?_
  rintro e w1 ⟨rfl, b1⟩
  have x2 := (((Box.new w 23 #[.int .i64 n, .int .i64 d]).alloc (.cells #[.int .i64 m, .int .i64 e] 23)).alloc (.cells #[.int .i64 0, .int .i64 0] 23)).later b1
  have x3 := ((Box.new' (w := (w.alloc (.cells #[.int .i64 n, .int .i64 d] 23))) (g := w.heap.size + 1) (t := 23) (cs := #[.int .i64 m, .int .i64 e]) (by simp)).alloc (.cells #[.int .i64 0, .int .i64 0] 23)).later b1
  have x4 := (Box.new' (w := ((w.alloc (.cells #[.int .i64 n, .int .i64 d] 23)).alloc (.cells #[.int .i64 m, .int .i64 e] 23))) (g := w.heap.size + 2) (t := 23) (cs := #[.int .i64 0, .int .i64 0]) (by simp)).later b1
  replace T := (((T.alloc _).alloc _).alloc _).below b1 (Nat.le_refl _)
  have b1 := below_up b1
  have b1 := below_up b1
  have b1 := below_up b1
  have B1 := B0.trans (b1.mono B0.size)
  clear b1 B0
  have k3 := x3.cells
  have l3 := x3.lt
  go_wp2_with fail
  refine (CB.out _).mono ?_
  rintro e w2 ⟨rfl, b2⟩
  replace T := T.below b2 (Nat.le_refl _)
  replace x2 := x2.later b2
  replace x3 := x3.later b2
  replace x4 := x4.later b2
  have B2 := B1.trans (b2.mono B1.size)
  clear b2 B1
  clear k3 l3 CA CB
  go_wp2_with fail
  have k2 := x2.cells
  have k3 := x3.cells
  have l2 := x2.lt
  have l3 := x3.lt
  have f2 := x2.free
  have f3 := x3.free
  have ne1 : w.heap.size ≠ w.heap.size + 1 := by omega
  have ne2 : w.heap.size + 1 ≠ w.heap.size := by omega
  have lx2g : w.heap.size ≠ 1 := by omega
  have lx3g : w.heap.size + 1 ≠ 1 := by omega
  go_cut [21] from 22 to 25 (fun _ wx => Box wx w.heap.size 23 #[.int .i64 ax, .int .i64 ay] ∧ Box wx (w.heap.size + 1) 23 #[.int .i64 cx, .int .i64 cy] ∧ Box wx (w.heap.size + 2) 23 #[.int .i64 0, .int .i64 0] ∧ Tb wx ∧ Below w.heap.size w wx)
  case first =>
    go_region_with (first
      | (go_at_call 42; (with_reducible refine (NA.out _ T.drew).mono ?_); rintro e' w60 ⟨rfl, b60⟩; have x2 := (x2.drew).later b60; have kx2 := x2.cells; have fx2 := x2.free; have lx2 := x2.lt; have x3 := (x3.drew).later b60; have kx3 := x3.cells; have fx3 := x3.free; have lx3 := x3.lt; have x4 := (x4.drew).later b60; have T := (T.drew).later b60; have b60 := below_undrew b60)
      | (go_at_call 42; (with_reducible refine (NB.out _ T).mono ?_); rintro e' w61 ⟨rfl, b61⟩; have x2 := (x2).later b61; have kx2 := x2.cells; have fx2 := x2.free; have lx2 := x2.lt; have x3 := (x3).later b61; have kx3 := x3.cells; have fx3 := x3.free; have lx3 := x3.lt; have x4 := (x4).later b61; have T := (T).later b61))
    all_goals
      go_wp2_with fail
      go_meet
      have B61 := B2.trans ((b60.trans (b61.mono b60.size)).mono B2.size)
      exact ⟨(box2r x2 _ _).far' (by omega) _ |>.far' (by omega) _, box2r ((x3.far' (by omega) _).far' (by omega) _) _ _, (((x4.far' (by omega) _).far' (by omega) _).far' (by omega) _).far' (by omega) _, tb_set (tb_set (tb_set (tb_set T lx2g) lx2g) lx3g) lx3g, (((B61.setCell (by simp) _).setCell (by simp) _).setCell (by simp) _).setCell (by simp) _⟩
  case rest =>
    obtain ⟨x2, x3, x4, T, BC⟩ := hcut
    obtain ⟨w5, rfl⟩ : ∃ w0 : World, w0 = wc := ⟨_, rfl⟩
    clear NA NB
    have l2 := x2.lt
    have l3 := x3.lt
    go_upto_region 4 with fail
    go_cut [6, 7] from 25 to 37 (fun s6 s7 wx => RatCut (X1, X2) (Y1, Y2) w5 s6 s7 wx)
    case first =>
      have kkx2 := x2.cells
      have nex2 := Nat.ne_of_gt x2.lt
      have nfx2 := Nat.ne_of_gt (Nat.lt_succ_of_lt x2.lt)
      have kkx3 := x3.cells
      have nex3 := Nat.ne_of_gt x3.lt
      have nfx3 := Nat.ne_of_gt (Nat.lt_succ_of_lt x3.lt)
      first | go_region_held3 (fun w' => w'.cell? ⟨w.heap.size, 0, none⟩ = some (.int .i64 ax) ∧ w'.cell? ⟨w.heap.size, 1, none⟩ = some (.int .i64 ay) ∧ w'.cell? ⟨w.heap.size + 1, 0, none⟩ = some (.int .i64 cx) ∧ w'.cell? ⟨w.heap.size + 1, 1, none⟩ = some (.int .i64 cy)) (go_keep)
        (first
          | (go_at_call 42; (with_reducible refine (NX.out _ ?_).mono ?_); (first | exact T.drew | exact (T.alloc _).drew | exact ((T.alloc _).alloc _).drew); rintro e w60 ⟨rfl, b60⟩; have yx2 : Box w60 (w.heap.size) 23 #[.int .i64 ax, .int .i64 ay] := (by first | exact (x2).drew.later b60 | exact (x2.alloc _).drew.later b60 | exact ((x2.alloc _).alloc _).drew.later b60); have kyx2 := yx2.cells; have nex20 := Nat.ne_of_gt yx2.lt; have nfx20 := Nat.ne_of_gt (Nat.lt_succ_of_lt yx2.lt); have yx3 : Box w60 (w.heap.size + 1) 23 #[.int .i64 cx, .int .i64 cy] := (by first | exact (x3).drew.later b60 | exact (x3.alloc _).drew.later b60 | exact ((x3.alloc _).alloc _).drew.later b60); have kyx3 := yx3.cells; have nex30 := Nat.ne_of_gt yx3.lt; have nfx30 := Nat.ne_of_gt (Nat.lt_succ_of_lt yx3.lt); have cb : Below w5.heap.size w5 w60 := (by first | exact (below_undrew b60) | exact (below_up (below_undrew b60)) | exact (below_up (below_up (below_undrew b60)))); (first | (have zl0a := z1.lt; have zl0b := z2.lt; have z1 := z1.later b60; have z2 := z2.later b60; have kz1 := z1.cells; have fz1 := z1.free; have lz1 := z1.lt; have kz2 := z2.cells; have fz2 := z2.free; have lz2 := z2.lt) | (have zl0a := z1.lt; have z1 := z1.later b60; have kz1 := z1.cells; have fz1 := z1.free; have lz1 := z1.lt) | (have zne := Nat.ne_of_lt z1.lt; have zl0b := (z1.alloc (.cells #[.int .i64 0, .int .i64 0] 23)).lt; have z1 := (z1.alloc _).drew.later b60; have z2 := (Box.new w5 23 #[.int .i64 0, .int .i64 0]).drew; have zl0a := z2.lt; have z2 := z2.later b60; have kz1 := z1.cells; have fz1 := z1.free; have lz1 := z1.lt; have kz2 := z2.cells; have fz2 := z2.free; have lz2 := z2.lt) | (have z1 := ((Box.new w5 23 #[.int .i64 0, .int .i64 0]).alloc (.cells #[.int .i64 0, .int .i64 0] 23)).drew; have z2 := (Box.new' (w := w5.alloc (.cells #[.int .i64 0, .int .i64 0] 23)) (g := w5.heap.size + 1) (t := 23) (cs := #[.int .i64 0, .int .i64 0]) (by simp)).drew; have zl0a := z1.lt; have zl0b := z2.lt; have zne := Nat.ne_of_lt (Nat.lt_succ_self w5.heap.size); have z1 := z1.later b60; have z2 := z2.later b60; have kz1 := z1.cells; have fz1 := z1.free; have lz1 := z1.lt; have kz2 := z2.cells; have fz2 := z2.free; have lz2 := z2.lt) | (have z1 := (Box.new w5 23 #[.int .i64 0, .int .i64 0]).drew; have zl0a := z1.lt; have z1 := z1.later b60; have kz1 := z1.cells; have fz1 := z1.free; have lz1 := z1.lt) | skip); (first | replace T := (T).drew.below b60 (Nat.le_refl _) | replace T := (T.alloc _).drew.below b60 (Nat.le_refl _) | replace T := ((T.alloc _).alloc _).drew.below b60 (Nat.le_refl _)); have s60 := cb.size)
          | (go_at_call 42; (with_reducible refine (NY.out _ ?_).mono ?_); (first | exact T | exact T.alloc _ | exact (T.alloc _).alloc _); rintro e w61 ⟨rfl, b61⟩; have yx2 : Box w61 (w.heap.size) 23 #[.int .i64 ax, .int .i64 ay] := (by first | exact (yx2).later b61 | exact (yx2.alloc _).later b61 | exact ((yx2.alloc _).alloc _).later b61); have kyx2 := yx2.cells; have nex21 := Nat.ne_of_gt yx2.lt; have nfx21 := Nat.ne_of_gt (Nat.lt_succ_of_lt yx2.lt); have yx3 : Box w61 (w.heap.size + 1) 23 #[.int .i64 cx, .int .i64 cy] := (by first | exact (yx3).later b61 | exact (yx3.alloc _).later b61 | exact ((yx3.alloc _).alloc _).later b61); have kyx3 := yx3.cells; have nex31 := Nat.ne_of_gt yx3.lt; have nfx31 := Nat.ne_of_gt (Nat.lt_succ_of_lt yx3.lt); have cb : Below w5.heap.size w5 w61 := (by first | exact cb.trans (b61.mono cb.size) | exact cb.trans ((below_up b61).mono cb.size) | exact cb.trans ((below_up (below_up b61)).mono cb.size)); (first | (have zl1a := z1.lt; have zl1b := z2.lt; have z1 := z1.later b61; have z2 := z2.later b61; have kz1 := z1.cells; have fz1 := z1.free; have lz1 := z1.lt; have kz2 := z2.cells; have fz2 := z2.free; have lz2 := z2.lt) | (have zl1a := z1.lt; have z1 := z1.later b61; have kz1 := z1.cells; have fz1 := z1.free; have lz1 := z1.lt) | (have zne := Nat.ne_of_lt z1.lt; have zl1b := (z1.alloc (.cells #[.int .i64 0, .int .i64 0] 23)).lt; have z1 := (z1.alloc _).later b61; have z2 := (Box.new w60 23 #[.int .i64 0, .int .i64 0]); have zl1a := z2.lt; have z2 := z2.later b61; have kz1 := z1.cells; have fz1 := z1.free; have lz1 := z1.lt; have kz2 := z2.cells; have fz2 := z2.free; have lz2 := z2.lt) | (have z1 := ((Box.new w60 23 #[.int .i64 0, .int .i64 0]).alloc (.cells #[.int .i64 0, .int .i64 0] 23)); have z2 := (Box.new' (w := w60.alloc (.cells #[.int .i64 0, .int .i64 0] 23)) (g := w60.heap.size + 1) (t := 23) (cs := #[.int .i64 0, .int .i64 0]) (by simp)); have zl1a := z1.lt; have zl1b := z2.lt; have zne := Nat.ne_of_lt (Nat.lt_succ_self w60.heap.size); have z1 := z1.later b61; have z2 := z2.later b61; have kz1 := z1.cells; have fz1 := z1.free; have lz1 := z1.lt; have kz2 := z2.cells; have fz2 := z2.free; have lz2 := z2.lt) | (have z1 := (Box.new w60 23 #[.int .i64 0, .int .i64 0]); have zl1a := z1.lt; have z1 := z1.later b61; have kz1 := z1.cells; have fz1 := z1.free; have lz1 := z1.lt) | skip); (first | replace T := (T).below b61 (Nat.le_refl _) | replace T := (T.alloc _).below b61 (Nat.le_refl _) | replace T := ((T.alloc _).alloc _).below b61 (Nat.le_refl _)); have s61 := b61.size))
      all_goals (go_wp2_with fail; go_meet)
      all_goals
        have cs := cb.size
        refine ⟨_, _, rfl, rfl, ?_, ?_, ?_⟩
        · repeat' (first | (with_reducible exact z1) | (with_reducible exact z2) | ((with_reducible refine Box.new' ?_); (first | rfl | (simp; done) | (simp [World.setCell]; done))) | (with_reducible refine box2r (a := .int .i64 0) (b := .int .i64 0) ?_ _ _) | (with_reducible refine Box.alloc ?_ _) | (with_reducible refine Box.far' ?_ ?_ _))
          all_goals omega
        · repeat' (first | (with_reducible exact z1) | (with_reducible exact z2) | ((with_reducible refine Box.new' ?_); (first | rfl | (simp; done) | (simp [World.setCell]; done))) | (with_reducible refine box2r (a := .int .i64 0) (b := .int .i64 0) ?_ _ _) | (with_reducible refine Box.alloc ?_ _) | (with_reducible refine Box.far' ?_ ?_ _))
          all_goals omega
        · repeat' (with_reducible (first | exact cb | refine Below.alloc ?_ ?_ _ | refine Below.setCell ?_ ?_ _))
          all_goals first | exact cs | omega | (dsimp only; omega) | (simp; omega)
    case rest =>
      obtain ⟨g6, g7, rfl, rfl, x6, x7, bc⟩ := hcut
      obtain ⟨w6, rfl⟩ : ∃ w0 : World, w0 = wc := ⟨_, rfl⟩
      replace x2 := x2.later bc
      replace x3 := x3.later bc
      replace x4 := x4.later bc
      replace T := T.below bc (Nat.le_refl _)
      have B31 := BC.trans (bc.mono BC.size)
      clear bc BC
      clear NX NY
      clear x2 x3 T
      have k6 := x6.cells
      have k7 := x7.cells
      have l6 := x6.lt
      have l7 := x7.lt
      go_wp2_with fail
      refine (MX.out _).mono ?_
      rintro e w31 ⟨rfl, b31⟩
      replace x4 := x4.later b31
      replace x6 := x6.later b31
      replace x7 := x7.later b31
      have B32 := B31.trans (b31.mono B31.size)
      clear b31 B31
      clear k6 k7 l6 l7
      go_wp2_with fail
      refine (IX.out _).mono ?_
      rintro e w32 ⟨rfl, b32⟩
      replace x4 := x4.later b32
      replace x6 := x6.later b32
      replace x7 := x7.later b32
      have B33 := B32.trans (b32.mono B32.size)
      clear b32 B32
      have k6 := x6.cells
      have k7 := x7.cells
      have l6 := x6.lt
      have l7 := x7.lt
      go_wp2_with fail
      refine (MY.out _).mono ?_
      rintro e w33 ⟨rfl, b33⟩
      replace x4 := x4.later b33
      replace x6 := x6.later b33
      replace x7 := x7.later b33
      have B34 := B33.trans (b33.mono B33.size)
      clear b33 B33
      clear k6 k7 l6 l7
      go_wp2_with fail
      refine (IY.out _).mono ?_
      rintro e w34 ⟨rfl, b34⟩
      replace x4 := x4.later b34
      replace x6 := x6.later b34
      replace x7 := x7.later b34
      have B35 := B34.trans (b34.mono B34.size)
      clear b34 B34
      have k4 := x4.cells
      have f4 := x4.free
      have l4 := x4.lt
      clear MX IX MY IY x6 x7
      rcases HX.out with ⟨hx, ex⟩ | ⟨hx, ex⟩ <;> rcases HY.out with ⟨hy, ey⟩ | ⟨hy, ey⟩
      all_goals
        rewrite [ex, ey]
        clear ex ey HX HY
        rcases (by omega : P ≤ Q ∨ Q < P) with hpq | hpq
        all_goals try (exfalso; omega)
        all_goals
          go_wp2
          all_goals
            refine bodyPost_ret (by unfold results; simp only [Tryd.results11]; go_simp; rfl) rfl ?_
            refine ⟨?_, (B35.setCell (by first | omega | (dsimp only; omega)) _).setCell (by first | omega | (dsimp only; omega)) _⟩
            rw [hq.out]
            first
              | rw [if_pos (by omega)]
              | rw [if_neg (by omega)]

theorem rtimes_any (n d m e : Int) (w : World) (T : Tb w) :
    Calls Tryd.prog 11 #[.agg #[.int .i64 n, .int .i64 d], .agg #[.int .i64 m, .int .i64 e]] w fun e' w' => e' = .returned (.tuple #[.agg #[.int .i64 (timesI n d m e).1.1, .int .i64 (timesI n d m e).1.2], .int .i64 (timesI n d m e).2]) ∧ Below w.heap.size w w' := by
  by_cases h : okR n d = true ∧ okR m e = true
  · have hq : timesI n d m e = if (tmX n d m e).1 * (tmY n d m e).1 ≤ 1000000000000 ∧ (tmX n d m e).2 * (tmY n d m e).2 ≤ 1000000000000 then (((tmX n d m e).1 * (tmY n d m e).1, (tmX n d m e).2 * (tmY n d m e).2), 0) else ((0, 0), 10) := if_pos h
    exact times_good n d m e w T h.1 h.2 _ (Lib.hid hq)
  · have hq : timesI n d m e = ((0, 0), 11) := if_neg h
    rw [hq]
    exact times_bad n d m e w h
end Go.Proofs.YtkdpiikfiodopaaDoor
