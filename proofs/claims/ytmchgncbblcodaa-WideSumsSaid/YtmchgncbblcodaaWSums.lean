/-
  WideSums: the walk.
-/
import Derived.Test.YtmchgncbblcodaaWAwake
namespace Go.Proofs.Ytmchgncbblcodaa
open Go.RowKit

theorem bigIs_zero {S : Nat → Prop} {w : World} : BigIs S w (.agg #[.bool false, .slice none 0 0]) 0 0 := ⟨none, 0, [], rfl, can_nil, rfl, Nat.le_refl _, Nat.le_refl _, Nat.zero_le _, RowS.nil _ _ _⟩
theorem box2 {w : World} {g : Nat} {t : TypeId} {a b : Value} (h : Box w g t #[a, b]) (a' b' : Value) : Box ((w.setCell ⟨g, 0, none⟩ a').setCell ⟨g, 1, none⟩ b') g t #[a', b'] := by
  have := (h.set 0 a').set 1 b'
  simpa using this
theorem big_final {S : Nat → Prop} {w wx : World} {v : Value} {z : Int} {L : Nat} (m : BigIs S w v z L) (hs : w.heap.size ≤ wx.heap.size) (hk : ∀ b, S b → b < w.heap.size → wx.heap[b]? = w.heap[b]?) : BigIs (fun _ => True) wx v z L := by
  obtain ⟨A, c, xs, h1, h2, h3, h4, h5, h6, h7⟩ := m
  exact ⟨A, c, xs, h1, h2, h3, h4, h5, h6, (h7.keep hs hk).mono fun _ _ _ => trivial⟩
/-- What the first statement leaves: both numbers as whole ones, each in a block of its own. -/
def SumsCut (x y : Int) (W : World) (s5 s6 : Value) (wx : World) : Prop :=
  ∃ g5 g6 t5 A5 n5 c5 t6 A6 n6 c6, s5 = .pointer (some ⟨g5, 0, none⟩) ∧ s6 = .pointer (some ⟨g6, 0, none⟩) ∧ Box wx g5 24 #[.bool t5, .slice A5 n5 c5] ∧ Box wx g6 24 #[.bool t6, .slice A6 n6 c6] ∧
    BigIs (fun _ => True) wx (.agg #[.bool t5, .slice A5 n5 c5]) x 58 ∧ BigIs (fun _ => True) wx (.agg #[.bool t6, .slice A6 n6 c6]) y 58 ∧ Below W.heap.size W wx

set_option maxRecDepth 100000 in
set_option maxHeartbeats 8000000 in
theorem wsums_law (x y : Int) (w : World) (hx : W128 x) (hy : W128 y) :
    Calls Try.prog 4 #[WV x, WV y] w fun e w' => e = .returned (.bool true) ∧ Below w.heap.size w w' := by
  have AW := Lib.hid fun w => wawake_any w
  have RX := Lib.hid fun w => rofz_any hx (w := w)
  have RY := Lib.hid fun w => rofz_any hy (w := w)
  have AD := Lib.hid fun w => wadd_any hx hy (w := w)
  have SU := Lib.hid fun w => wsub_any hx hy (w := w)
  have NG := Lib.hid fun w => wneg_any hx (w := w)
  have WI := Lib.hid fun w => wint_any hx (w := w)
  have WC1 := Lib.hid fun w => wcmp_any (x := x) (y := y) (w := w)
  have WS := Lib.hid fun w => wsign_any (x := x) (w := w)
  have TX := Lib.hid fun (w : World) S va (ha : BigIs S w va x 58) => told_any ha (by omega)
  have PL := Lib.hid fun (w : World) S S' va vb (ha : BigIs S w va x 58) (hb : BigIs S' w vb y 58) => plus_any ha hb (by omega) (by omega)
  have MI := Lib.hid fun (w : World) S S' va vb (ha : BigIs S w va x 58) (hb : BigIs S' w vb y 58) => minus_any ha hb (by omega) (by omega)
  have FL := Lib.hid fun (w : World) S va (ha : BigIs S w va x 58) => flip_any ha
  have TA := Lib.hid fun (w : World) S va (ha : BigIs S w va (x + y) (max 58 58 + 1)) => rtold_any ha (by omega)
  have TS := Lib.hid fun (w : World) S va (ha : BigIs S w va (x - y) (max 58 58 + 1)) => rtold_any ha (by omega)
  have TF := Lib.hid fun (w : World) S va (ha : BigIs S w va (-x) 58) => rtold_any ha (by omega)
  have RC := Lib.hid fun (w : World) S S' va vb (ha : BigIs S w va x 58) (hb : BigIs S' w vb y 58) => cmp_any ha hb (by omega) (by omega)
  have RZ := Lib.hid fun (w : World) S va (ha : BigIs S w va x 58) => cmp_any ha (bigIs_zero (S := fun _ => True)) (by omega) (by omega)
  simp only [WV_out] at RX RY AD SU NG WI WC1 WS TA TS TF ⊢
  clear hx hy
  generalize cmpI x y = c at *
  generalize cmpI x 0 = sg at *
  generalize (toldI x).1 = p at *
  generalize (toldI x).2 = q at *
  generalize (toldW (x + y)).1 / 18446744073709551616 = ah at *
  generalize (toldW (x + y)).1 % 18446744073709551616 = al at *
  generalize (toldW (x + y)).2 = ae at *
  generalize (toldW (x - y)).1 / 18446744073709551616 = sh at *
  generalize (toldW (x - y)).1 % 18446744073709551616 = sl at *
  generalize (toldW (x - y)).2 = se at *
  generalize (toldW (-x)).1 / 18446744073709551616 = nh at *
  generalize (toldW (-x)).1 % 18446744073709551616 = nl at *
  generalize (toldW (-x)).2 = ne at *
  generalize x / 18446744073709551616 = xh at *
  generalize x % 18446744073709551616 = xl at *
  generalize y / 18446744073709551616 = yh at *
  generalize y % 18446744073709551616 = yl at *
  go_enter Try.func4, Try.ntmps4
  go_wp2
  obtain ⟨W1, hW1⟩ : ∃ W1, W1 = (w.alloc (.cells #[.int .i64 xh, .int .u64 xl] 28)).alloc (.cells #[.int .i64 yh, .int .u64 yl] 28) := ⟨_, rfl⟩
  have x2 : Box W1 w.heap.size 28 #[.int .i64 xh, .int .u64 xl] := by rw [hW1]; exact (Box.new _ _ _).alloc _
  have x3 : Box W1 (w.heap.size + 1) 28 #[.int .i64 yh, .int .u64 yl] := by rw [hW1]; exact Box.new' (by simp)
  have B1 : Below w.heap.size w W1 := by rw [hW1]; exact ((Below.refl _ _).alloc (Nat.le_refl _) _).alloc (by simp) _
  rewrite [← hW1]
  clear hW1
  go_cut [5, 6] from 17 to 20 (fun s5 s6 wx => SumsCut x y W1 s5 s6 wx)
  case first =>
    have kkx2 := x2.cells
    have nex2 := Nat.ne_of_gt x2.lt
    have nfx2 := Nat.ne_of_gt (Nat.lt_succ_of_lt x2.lt)
    have kkx3 := x3.cells
    have nex3 := Nat.ne_of_gt x3.lt
    have nfx3 := Nat.ne_of_gt (Nat.lt_succ_of_lt x3.lt)
    go_region_held3 (fun w' => w'.cell? ⟨w.heap.size, 0, none⟩ = some (.int .i64 xh) ∧ w'.cell? ⟨w.heap.size, 1, none⟩ = some (.int .u64 xl) ∧ w'.cell? ⟨w.heap.size + 1, 0, none⟩ = some (.int .i64 yh) ∧ w'.cell? ⟨w.heap.size + 1, 1, none⟩ = some (.int .u64 yl)) (go_keep)
      (first
        | (go_at_call 17; (with_reducible refine (RX.out _).mono ?_); rintro e w60 ⟨v1, rfl, m1, b60⟩; have yx2 : Box w60 (w.heap.size) 28 #[.int .i64 xh, .int .u64 xl] := (by first | exact (x2).drew.later b60 | exact (x2.alloc _).drew.later b60 | exact ((x2.alloc _).alloc _).drew.later b60); have kyx2 := yx2.cells; have nex20 := Nat.ne_of_gt yx2.lt; have nfx20 := Nat.ne_of_gt (Nat.lt_succ_of_lt yx2.lt); have yx3 : Box w60 (w.heap.size + 1) 28 #[.int .i64 yh, .int .u64 yl] := (by first | exact (x3).drew.later b60 | exact (x3.alloc _).drew.later b60 | exact ((x3.alloc _).alloc _).drew.later b60); have kyx3 := yx3.cells; have nex30 := Nat.ne_of_gt yx3.lt; have nfx30 := Nat.ne_of_gt (Nat.lt_succ_of_lt yx3.lt); have cb : Below W1.heap.size W1 w60 := (by first | exact (below_undrew b60) | exact (below_up (below_undrew b60)) | exact (below_up (below_up (below_undrew b60)))); (first | (have zl0a := z1.lt; have zl0b := z2.lt; have z1 := z1.later b60; have z2 := z2.later b60; have kz1 := z1.cells; have fz1 := z1.free; have lz1 := z1.lt; have kz2 := z2.cells; have fz2 := z2.free; have lz2 := z2.lt) | (have zl0a := z1.lt; have z1 := z1.later b60; have kz1 := z1.cells; have fz1 := z1.free; have lz1 := z1.lt) | (have zne := Nat.ne_of_lt z1.lt; have zl0b := (z1.alloc (.cells #[.bool false, .slice none 0 0] 24)).lt; have z1 := (z1.alloc _).drew.later b60; have z2 := (Box.new W1 24 #[.bool false, .slice none 0 0]).drew; have zl0a := z2.lt; have z2 := z2.later b60; have kz1 := z1.cells; have fz1 := z1.free; have lz1 := z1.lt; have kz2 := z2.cells; have fz2 := z2.free; have lz2 := z2.lt) | (have z1 := ((Box.new W1 24 #[.bool false, .slice none 0 0]).alloc (.cells #[.bool false, .slice none 0 0] 24)).drew; have z2 := (Box.new' (w := W1.alloc (.cells #[.bool false, .slice none 0 0] 24)) (g := W1.heap.size + 1) (t := 24) (cs := #[.bool false, .slice none 0 0]) (by simp)).drew; have zl0a := z1.lt; have zl0b := z2.lt; have zne := Nat.ne_of_lt (Nat.lt_succ_self W1.heap.size); have z1 := z1.later b60; have z2 := z2.later b60; have kz1 := z1.cells; have fz1 := z1.free; have lz1 := z1.lt; have kz2 := z2.cells; have fz2 := z2.free; have lz2 := z2.lt) | (have z1 := (Box.new W1 24 #[.bool false, .slice none 0 0]).drew; have zl0a := z1.lt; have z1 := z1.later b60; have kz1 := z1.cells; have fz1 := z1.free; have lz1 := z1.lt) | skip); have s60 := cb.size; obtain ⟨t1, A1, n1, c1, rfl⟩ := m1.form2; have m1 := m1.mono (fun b h1 h2 => And.intro h1 h2) (Nat.le_refl _))
        | (go_at_call 17; (with_reducible refine (RY.out _).mono ?_); rintro e w61 ⟨v2, rfl, m2, b61⟩; have yx2 : Box w61 (w.heap.size) 28 #[.int .i64 xh, .int .u64 xl] := (by first | exact (yx2).later b61 | exact (yx2.alloc _).later b61 | exact ((yx2.alloc _).alloc _).later b61); have kyx2 := yx2.cells; have nex21 := Nat.ne_of_gt yx2.lt; have nfx21 := Nat.ne_of_gt (Nat.lt_succ_of_lt yx2.lt); have yx3 : Box w61 (w.heap.size + 1) 28 #[.int .i64 yh, .int .u64 yl] := (by first | exact (yx3).later b61 | exact (yx3.alloc _).later b61 | exact ((yx3.alloc _).alloc _).later b61); have kyx3 := yx3.cells; have nex31 := Nat.ne_of_gt yx3.lt; have nfx31 := Nat.ne_of_gt (Nat.lt_succ_of_lt yx3.lt); have cb : Below W1.heap.size W1 w61 := (by first | exact cb.trans (b61.mono cb.size) | exact cb.trans ((below_up b61).mono cb.size) | exact cb.trans ((below_up (below_up b61)).mono cb.size)); (first | (have zl1a := z1.lt; have zl1b := z2.lt; have z1 := z1.later b61; have z2 := z2.later b61; have kz1 := z1.cells; have fz1 := z1.free; have lz1 := z1.lt; have kz2 := z2.cells; have fz2 := z2.free; have lz2 := z2.lt) | (have zl1a := z1.lt; have z1 := z1.later b61; have kz1 := z1.cells; have fz1 := z1.free; have lz1 := z1.lt) | (have zne := Nat.ne_of_lt z1.lt; have zl1b := (z1.alloc (.cells #[.bool false, .slice none 0 0] 24)).lt; have z1 := (z1.alloc _).later b61; have z2 := (Box.new w60 24 #[.bool false, .slice none 0 0]); have zl1a := z2.lt; have z2 := z2.later b61; have kz1 := z1.cells; have fz1 := z1.free; have lz1 := z1.lt; have kz2 := z2.cells; have fz2 := z2.free; have lz2 := z2.lt) | (have z1 := ((Box.new w60 24 #[.bool false, .slice none 0 0]).alloc (.cells #[.bool false, .slice none 0 0] 24)); have z2 := (Box.new' (w := w60.alloc (.cells #[.bool false, .slice none 0 0] 24)) (g := w60.heap.size + 1) (t := 24) (cs := #[.bool false, .slice none 0 0]) (by simp)); have zl1a := z1.lt; have zl1b := z2.lt; have zne := Nat.ne_of_lt (Nat.lt_succ_self w60.heap.size); have z1 := z1.later b61; have z2 := z2.later b61; have kz1 := z1.cells; have fz1 := z1.free; have lz1 := z1.lt; have kz2 := z2.cells; have fz2 := z2.free; have lz2 := z2.lt) | (have z1 := (Box.new w60 24 #[.bool false, .slice none 0 0]); have zl1a := z1.lt; have z1 := z1.later b61; have kz1 := z1.cells; have fz1 := z1.free; have lz1 := z1.lt) | skip); (first | replace m1 := (m1).below b61 (Nat.le_refl _) | replace m1 := (m1.alloc _).below b61 (Nat.le_refl _) | replace m1 := ((m1.alloc _).alloc _).below b61 (Nat.le_refl _)); obtain ⟨t2, A2, n2, c2, rfl⟩ := m2.form2; have m2 := m2.mono (fun b h1 h2 => And.intro h1 h2) (Nat.le_refl _); have s61 := b61.size))
    all_goals (go_wp2_with fail; go_meet)
    all_goals
      have cs := cb.size
      refine ⟨_, _, t1, A1, n1, c1, t2, A2, n2, c2, rfl, rfl, ?_, ?_, big_final m1 ?_ ?_, big_final m2 ?_ ?_, ?_⟩
      · repeat' (first | (with_reducible exact z1) | (with_reducible exact z2) | ((with_reducible refine Box.new' ?_); (first | rfl | (simp; done) | (simp [World.setCell]; done))) | (with_reducible refine box2 (a := .bool false) (b := .slice none 0 0) ?_ _ _) | (with_reducible refine Box.alloc ?_ _) | (with_reducible refine Box.far' ?_ ?_ _))
        all_goals omega
      · repeat' (first | (with_reducible exact z1) | (with_reducible exact z2) | ((with_reducible refine Box.new' ?_); (first | rfl | (simp; done) | (simp [World.setCell]; done))) | (with_reducible refine box2 (a := .bool false) (b := .slice none 0 0) ?_ _ _) | (with_reducible refine Box.alloc ?_ _) | (with_reducible refine Box.far' ?_ ?_ _))
        all_goals omega
      · (first | exact Nat.le_refl _ | (simp [World.setCell]; done) | (simp; omega))
      · rintro b ⟨h1, h2⟩ hb
        repeat' (with_reducible (first | rfl | refine (Below.heap_setCell _ _ _ _ ?_).trans ?_ | refine (Below.heap_alloc _ _ _ ?_).trans ?_))
        all_goals (first | omega | (dsimp only; omega) | (simp; omega))
      · (first | exact Nat.le_refl _ | (simp [World.setCell]; done) | (simp; omega))
      · rintro b ⟨h1, h2⟩ hb
        repeat' (with_reducible (first | rfl | refine (Below.heap_setCell _ _ _ _ ?_).trans ?_ | refine (Below.heap_alloc _ _ _ ?_).trans ?_))
        all_goals (first | omega | (dsimp only; omega) | (simp; omega))
      · repeat' (with_reducible (first | exact cb | refine Below.alloc ?_ ?_ _ | refine Below.setCell ?_ ?_ _))
        all_goals first | exact cs | omega | (dsimp only; omega) | (simp; omega)
  case rest =>
    obtain ⟨g5, g6, t5, A5, n5, c5, t6, A6, n6, c6, rfl, rfl, x5, x6, m5, m6, bc⟩ := hcut
    obtain ⟨w2, rfl⟩ : ∃ w0 : World, w0 = wc := ⟨_, rfl⟩
    replace x2 := x2.later bc
    replace x3 := x3.later bc
    have B2 := B1.trans (bc.mono B1.size)
    clear bc B1
    have k2 := x2.cells
    have k3 := x3.cells
    go_wp2_with fail
    refine (AD.out _).mono ?_
    rintro e w101 ⟨rfl, b101⟩
    replace x2 := x2.later b101
    replace x3 := x3.later b101
    replace x5 := x5.later b101
    replace x6 := x6.later b101
    replace m5 := m5.below b101 (Nat.le_refl _)
    replace m6 := m6.below b101 (Nat.le_refl _)
    have B3 := B2.trans (b101.mono B2.size)
    clear b101 B2
    clear k2 k3
    go_upto_region 3 with fail
    obtain ⟨W4, hW4⟩ : ∃ W, W = w101.alloc (.cells #[.int .i64 ah, .int .u64 al] 28) := ⟨_, rfl⟩
    have x7 : Box W4 w101.heap.size 28 #[.int .i64 ah, .int .u64 al] := by rw [hW4]; exact Box.new _ _ _
    replace x2 := x2.alloc (.cells #[.int .i64 ah, .int .u64 al] 28)
    replace x3 := x3.alloc (.cells #[.int .i64 ah, .int .u64 al] 28)
    replace x5 := x5.alloc (.cells #[.int .i64 ah, .int .u64 al] 28)
    replace x6 := x6.alloc (.cells #[.int .i64 ah, .int .u64 al] 28)
    replace m5 := m5.alloc (.cells #[.int .i64 ah, .int .u64 al] 28)
    replace m6 := m6.alloc (.cells #[.int .i64 ah, .int .u64 al] 28)
    have B4 := B3.alloc B3.size (.cells #[.int .i64 ah, .int .u64 al] 28)
    rw [← hW4] at x2 x3 x5 x6 m5 m6 B4
    rewrite [← hW4]
    clear hW4 B3
    obtain ⟨gx7, hgx7⟩ : ∃ g, g = w101.heap.size := ⟨_, rfl⟩
    rewrite [← hgx7] at x7 ⊢
    clear hgx7
    have kqx2 := x2.cells
    have kqx3 := x3.cells
    go_wp2_with fail
    refine (SU.out _).mono ?_
    rintro e w102 ⟨rfl, b102⟩
    replace x2 := x2.later b102
    replace x3 := x3.later b102
    replace x5 := x5.later b102
    replace x6 := x6.later b102
    replace m5 := m5.below b102 (Nat.le_refl _)
    replace m6 := m6.below b102 (Nat.le_refl _)
    replace x7 := x7.later b102
    have B5 := B4.trans (b102.mono B4.size)
    clear b102 B4
    clear kqx2 kqx3
    go_upto_region 4 with fail
    obtain ⟨W5, hW5⟩ : ∃ W, W = w102.alloc (.cells #[.int .i64 sh, .int .u64 sl] 28) := ⟨_, rfl⟩
    have x9 : Box W5 w102.heap.size 28 #[.int .i64 sh, .int .u64 sl] := by rw [hW5]; exact Box.new _ _ _
    replace x2 := x2.alloc (.cells #[.int .i64 sh, .int .u64 sl] 28)
    replace x3 := x3.alloc (.cells #[.int .i64 sh, .int .u64 sl] 28)
    replace x5 := x5.alloc (.cells #[.int .i64 sh, .int .u64 sl] 28)
    replace x6 := x6.alloc (.cells #[.int .i64 sh, .int .u64 sl] 28)
    replace m5 := m5.alloc (.cells #[.int .i64 sh, .int .u64 sl] 28)
    replace m6 := m6.alloc (.cells #[.int .i64 sh, .int .u64 sl] 28)
    replace x7 := x7.alloc (.cells #[.int .i64 sh, .int .u64 sl] 28)
    have B6 := B5.alloc B5.size (.cells #[.int .i64 sh, .int .u64 sl] 28)
    rw [← hW5] at x2 x3 x5 x6 m5 m6 x7 B6
    rewrite [← hW5]
    clear hW5 B5
    obtain ⟨gx9, hgx9⟩ : ∃ g, g = w102.heap.size := ⟨_, rfl⟩
    rewrite [← hgx9] at x9 ⊢
    clear hgx9
    have kqx2 := x2.cells
    go_wp2_with fail
    refine (NG.out _).mono ?_
    rintro e w103 ⟨rfl, b103⟩
    replace x2 := x2.later b103
    replace x3 := x3.later b103
    replace x5 := x5.later b103
    replace x6 := x6.later b103
    replace m5 := m5.below b103 (Nat.le_refl _)
    replace m6 := m6.below b103 (Nat.le_refl _)
    replace x7 := x7.later b103
    replace x9 := x9.later b103
    have B7 := B6.trans (b103.mono B6.size)
    clear b103 B6
    clear kqx2
    go_upto_region 5 with fail
    obtain ⟨W6, hW6⟩ : ∃ W, W = w103.alloc (.cells #[.int .i64 nh, .int .u64 nl] 28) := ⟨_, rfl⟩
    have x11 : Box W6 w103.heap.size 28 #[.int .i64 nh, .int .u64 nl] := by rw [hW6]; exact Box.new _ _ _
    replace x2 := x2.alloc (.cells #[.int .i64 nh, .int .u64 nl] 28)
    replace x3 := x3.alloc (.cells #[.int .i64 nh, .int .u64 nl] 28)
    replace x5 := x5.alloc (.cells #[.int .i64 nh, .int .u64 nl] 28)
    replace x6 := x6.alloc (.cells #[.int .i64 nh, .int .u64 nl] 28)
    replace m5 := m5.alloc (.cells #[.int .i64 nh, .int .u64 nl] 28)
    replace m6 := m6.alloc (.cells #[.int .i64 nh, .int .u64 nl] 28)
    replace x7 := x7.alloc (.cells #[.int .i64 nh, .int .u64 nl] 28)
    replace x9 := x9.alloc (.cells #[.int .i64 nh, .int .u64 nl] 28)
    have B8 := B7.alloc B7.size (.cells #[.int .i64 nh, .int .u64 nl] 28)
    rw [← hW6] at x2 x3 x5 x6 m5 m6 x7 x9 B8
    rewrite [← hW6]
    clear hW6 B7
    obtain ⟨gx11, hgx11⟩ : ∃ g, g = w103.heap.size := ⟨_, rfl⟩
    rewrite [← hgx11] at x11 ⊢
    clear hgx11
    have kqx2 := x2.cells
    go_wp2_with fail
    refine (WI.out _).mono ?_
    rintro e w104 ⟨rfl, b104⟩
    replace x2 := x2.later b104
    replace x3 := x3.later b104
    replace x5 := x5.later b104
    replace x6 := x6.later b104
    replace m5 := m5.below b104 (Nat.le_refl _)
    replace m6 := m6.below b104 (Nat.le_refl _)
    replace x7 := x7.later b104
    replace x9 := x9.later b104
    replace x11 := x11.later b104
    have B9 := B8.trans (b104.mono B8.size)
    clear b104 B8
    clear kqx2
    have kqx5 := x5.cells
    go_wp2_with fail
    refine (TX.out _ _ _ m5).mono ?_
    rintro e w105 ⟨rfl, b105⟩
    replace x2 := x2.later b105
    replace x3 := x3.later b105
    replace x5 := x5.later b105
    replace x6 := x6.later b105
    replace m5 := m5.below b105 (Nat.le_refl _)
    replace m6 := m6.below b105 (Nat.le_refl _)
    replace x7 := x7.later b105
    replace x9 := x9.later b105
    replace x11 := x11.later b105
    have B10 := B9.trans (b105.mono B9.size)
    clear b105 B9
    clear kqx5
    go_wp2_with fail
    skip
    have kkx2 := x2.cells
    have kkx3 := x3.cells
    have kkx5 := x5.cells
    have kkx6 := x6.cells
    have kkx7 := x7.cells
    have kkx9 := x9.cells
    have kkx11 := x11.cells
    go_region_held3 (fun w' => w'.cell? ⟨w.heap.size, 0, none⟩ = some (.int .i64 xh) ∧ w'.cell? ⟨w.heap.size, 1, none⟩ = some (.int .u64 xl) ∧ w'.cell? ⟨w.heap.size + 1, 0, none⟩ = some (.int .i64 yh) ∧ w'.cell? ⟨w.heap.size + 1, 1, none⟩ = some (.int .u64 yl) ∧ w'.cell? ⟨g5, 0, none⟩ = some (.bool t5) ∧ w'.cell? ⟨g5, 1, none⟩ = some (.slice A5 n5 c5) ∧ w'.cell? ⟨g6, 0, none⟩ = some (.bool t6) ∧ w'.cell? ⟨g6, 1, none⟩ = some (.slice A6 n6 c6) ∧ w'.cell? ⟨gx7, 0, none⟩ = some (.int .i64 ah) ∧ w'.cell? ⟨gx7, 1, none⟩ = some (.int .u64 al) ∧ w'.cell? ⟨gx9, 0, none⟩ = some (.int .i64 sh) ∧ w'.cell? ⟨gx9, 1, none⟩ = some (.int .u64 sl) ∧ w'.cell? ⟨gx11, 0, none⟩ = some (.int .i64 nh) ∧ w'.cell? ⟨gx11, 1, none⟩ = some (.int .u64 nl)) (go_keep)
      (first
        | (go_at_call 24; (with_reducible refine (PL.out _ _ _ _ _ m5.drew m6.drew).mono ?_); rintro e w200 ⟨v7, rfl, m7, b200⟩; have yx2 : Box w200 (w.heap.size) 28 #[.int .i64 xh, .int .u64 xl] := (by first | exact (x2).drew.later b200); have kyx2 := yx2.cells; have yx3 : Box w200 (w.heap.size + 1) 28 #[.int .i64 yh, .int .u64 yl] := (by first | exact (x3).drew.later b200); have kyx3 := yx3.cells; have yx5 : Box w200 (g5) 24 #[.bool t5, .slice A5 n5 c5] := (by first | exact (x5).drew.later b200); have kyx5 := yx5.cells; have yx6 : Box w200 (g6) 24 #[.bool t6, .slice A6 n6 c6] := (by first | exact (x6).drew.later b200); have kyx6 := yx6.cells; have yx7 : Box w200 (gx7) 28 #[.int .i64 ah, .int .u64 al] := (by first | exact (x7).drew.later b200); have kyx7 := yx7.cells; have yx9 : Box w200 (gx9) 28 #[.int .i64 sh, .int .u64 sl] := (by first | exact (x9).drew.later b200); have kyx9 := yx9.cells; have yx11 : Box w200 (gx11) 28 #[.int .i64 nh, .int .u64 nl] := (by first | exact (x11).drew.later b200); have kyx11 := yx11.cells; have cb : Below w105.heap.size w105 w200 := (by first | exact (below_undrew b200)); have m5 := m5.drew.below b200 (Nat.le_refl _); have m6 := m6.drew.below b200 (Nat.le_refl _))
        | (go_at_call 23; (with_reducible refine (TA.out _ _ _ m7).mono ?_); rintro e w201 ⟨rfl, b201⟩; have yx2 : Box w201 (w.heap.size) 28 #[.int .i64 xh, .int .u64 xl] := (by first | exact (yx2).later b201); have kyx2 := yx2.cells; have yx3 : Box w201 (w.heap.size + 1) 28 #[.int .i64 yh, .int .u64 yl] := (by first | exact (yx3).later b201); have kyx3 := yx3.cells; have yx5 : Box w201 (g5) 24 #[.bool t5, .slice A5 n5 c5] := (by first | exact (yx5).later b201); have kyx5 := yx5.cells; have yx6 : Box w201 (g6) 24 #[.bool t6, .slice A6 n6 c6] := (by first | exact (yx6).later b201); have kyx6 := yx6.cells; have yx7 : Box w201 (gx7) 28 #[.int .i64 ah, .int .u64 al] := (by first | exact (yx7).later b201); have kyx7 := yx7.cells; have yx9 : Box w201 (gx9) 28 #[.int .i64 sh, .int .u64 sl] := (by first | exact (yx9).later b201); have kyx9 := yx9.cells; have yx11 : Box w201 (gx11) 28 #[.int .i64 nh, .int .u64 nl] := (by first | exact (yx11).later b201); have kyx11 := yx11.cells; have cb : Below w105.heap.size w105 w201 := (by first | exact cb.trans (b201.mono cb.size)); have m5 := m5.below b201 (Nat.le_refl _); have m6 := m6.below b201 (Nat.le_refl _))
        | (go_at_call 25; (with_reducible refine (MI.out _ _ _ _ _ m5 m6).mono ?_); rintro e w202 ⟨v8, rfl, m8, b202⟩; have yx2 : Box w202 (w.heap.size) 28 #[.int .i64 xh, .int .u64 xl] := (by first | exact (yx2).later b202); have kyx2 := yx2.cells; have yx3 : Box w202 (w.heap.size + 1) 28 #[.int .i64 yh, .int .u64 yl] := (by first | exact (yx3).later b202); have kyx3 := yx3.cells; have yx5 : Box w202 (g5) 24 #[.bool t5, .slice A5 n5 c5] := (by first | exact (yx5).later b202); have kyx5 := yx5.cells; have yx6 : Box w202 (g6) 24 #[.bool t6, .slice A6 n6 c6] := (by first | exact (yx6).later b202); have kyx6 := yx6.cells; have yx7 : Box w202 (gx7) 28 #[.int .i64 ah, .int .u64 al] := (by first | exact (yx7).later b202); have kyx7 := yx7.cells; have yx9 : Box w202 (gx9) 28 #[.int .i64 sh, .int .u64 sl] := (by first | exact (yx9).later b202); have kyx9 := yx9.cells; have yx11 : Box w202 (gx11) 28 #[.int .i64 nh, .int .u64 nl] := (by first | exact (yx11).later b202); have kyx11 := yx11.cells; have cb : Below w105.heap.size w105 w202 := (by first | exact cb.trans (b202.mono cb.size)); have m5 := m5.below b202 (Nat.le_refl _); have m6 := m6.below b202 (Nat.le_refl _))
        | (go_at_call 23; (with_reducible refine (TS.out _ _ _ m8).mono ?_); rintro e w203 ⟨rfl, b203⟩; have yx2 : Box w203 (w.heap.size) 28 #[.int .i64 xh, .int .u64 xl] := (by first | exact (yx2).later b203); have kyx2 := yx2.cells; have yx3 : Box w203 (w.heap.size + 1) 28 #[.int .i64 yh, .int .u64 yl] := (by first | exact (yx3).later b203); have kyx3 := yx3.cells; have yx5 : Box w203 (g5) 24 #[.bool t5, .slice A5 n5 c5] := (by first | exact (yx5).later b203); have kyx5 := yx5.cells; have yx6 : Box w203 (g6) 24 #[.bool t6, .slice A6 n6 c6] := (by first | exact (yx6).later b203); have kyx6 := yx6.cells; have yx7 : Box w203 (gx7) 28 #[.int .i64 ah, .int .u64 al] := (by first | exact (yx7).later b203); have kyx7 := yx7.cells; have yx9 : Box w203 (gx9) 28 #[.int .i64 sh, .int .u64 sl] := (by first | exact (yx9).later b203); have kyx9 := yx9.cells; have yx11 : Box w203 (gx11) 28 #[.int .i64 nh, .int .u64 nl] := (by first | exact (yx11).later b203); have kyx11 := yx11.cells; have cb : Below w105.heap.size w105 w203 := (by first | exact cb.trans (b203.mono cb.size)); have m5 := m5.below b203 (Nat.le_refl _); have m6 := m6.below b203 (Nat.le_refl _))
        | (go_at_call 26; (with_reducible refine (FL.out _ _ _ m5).mono ?_); rintro e w204 ⟨v9, rfl, m9, b204⟩; have yx2 : Box w204 (w.heap.size) 28 #[.int .i64 xh, .int .u64 xl] := (by first | exact (yx2).later b204); have kyx2 := yx2.cells; have yx3 : Box w204 (w.heap.size + 1) 28 #[.int .i64 yh, .int .u64 yl] := (by first | exact (yx3).later b204); have kyx3 := yx3.cells; have yx5 : Box w204 (g5) 24 #[.bool t5, .slice A5 n5 c5] := (by first | exact (yx5).later b204); have kyx5 := yx5.cells; have yx6 : Box w204 (g6) 24 #[.bool t6, .slice A6 n6 c6] := (by first | exact (yx6).later b204); have kyx6 := yx6.cells; have yx7 : Box w204 (gx7) 28 #[.int .i64 ah, .int .u64 al] := (by first | exact (yx7).later b204); have kyx7 := yx7.cells; have yx9 : Box w204 (gx9) 28 #[.int .i64 sh, .int .u64 sl] := (by first | exact (yx9).later b204); have kyx9 := yx9.cells; have yx11 : Box w204 (gx11) 28 #[.int .i64 nh, .int .u64 nl] := (by first | exact (yx11).later b204); have kyx11 := yx11.cells; have cb : Below w105.heap.size w105 w204 := (by first | exact cb.trans (b204.mono cb.size)); have m5 := m5.below b204 (Nat.le_refl _); have m6 := m6.below b204 (Nat.le_refl _))
        | (go_at_call 23; (with_reducible refine (TF.out _ _ _ m9).mono ?_); rintro e w205 ⟨rfl, b205⟩; have yx2 : Box w205 (w.heap.size) 28 #[.int .i64 xh, .int .u64 xl] := (by first | exact (yx2).later b205); have kyx2 := yx2.cells; have yx3 : Box w205 (w.heap.size + 1) 28 #[.int .i64 yh, .int .u64 yl] := (by first | exact (yx3).later b205); have kyx3 := yx3.cells; have yx5 : Box w205 (g5) 24 #[.bool t5, .slice A5 n5 c5] := (by first | exact (yx5).later b205); have kyx5 := yx5.cells; have yx6 : Box w205 (g6) 24 #[.bool t6, .slice A6 n6 c6] := (by first | exact (yx6).later b205); have kyx6 := yx6.cells; have yx7 : Box w205 (gx7) 28 #[.int .i64 ah, .int .u64 al] := (by first | exact (yx7).later b205); have kyx7 := yx7.cells; have yx9 : Box w205 (gx9) 28 #[.int .i64 sh, .int .u64 sl] := (by first | exact (yx9).later b205); have kyx9 := yx9.cells; have yx11 : Box w205 (gx11) 28 #[.int .i64 nh, .int .u64 nl] := (by first | exact (yx11).later b205); have kyx11 := yx11.cells; have cb : Below w105.heap.size w105 w205 := (by first | exact cb.trans (b205.mono cb.size)); have m5 := m5.below b205 (Nat.le_refl _); have m6 := m6.below b205 (Nat.le_refl _))
        | (go_at_call 27; (with_reducible refine (WC1.out _).mono ?_); rintro e w206 ⟨rfl, b206⟩; have yx2 : Box w206 (w.heap.size) 28 #[.int .i64 xh, .int .u64 xl] := (by first | exact (yx2).later b206); have kyx2 := yx2.cells; have yx3 : Box w206 (w.heap.size + 1) 28 #[.int .i64 yh, .int .u64 yl] := (by first | exact (yx3).later b206); have kyx3 := yx3.cells; have yx5 : Box w206 (g5) 24 #[.bool t5, .slice A5 n5 c5] := (by first | exact (yx5).later b206); have kyx5 := yx5.cells; have yx6 : Box w206 (g6) 24 #[.bool t6, .slice A6 n6 c6] := (by first | exact (yx6).later b206); have kyx6 := yx6.cells; have yx7 : Box w206 (gx7) 28 #[.int .i64 ah, .int .u64 al] := (by first | exact (yx7).later b206); have kyx7 := yx7.cells; have yx9 : Box w206 (gx9) 28 #[.int .i64 sh, .int .u64 sl] := (by first | exact (yx9).later b206); have kyx9 := yx9.cells; have yx11 : Box w206 (gx11) 28 #[.int .i64 nh, .int .u64 nl] := (by first | exact (yx11).later b206); have kyx11 := yx11.cells; have cb : Below w105.heap.size w105 w206 := (by first | exact cb.trans (b206.mono cb.size)); have m5 := m5.below b206 (Nat.le_refl _); have m6 := m6.below b206 (Nat.le_refl _))
        | (go_at_call 16; (with_reducible refine (RC.out _ _ _ _ _ m5 m6).mono ?_); rintro e w207 ⟨rfl, b207⟩; have yx2 : Box w207 (w.heap.size) 28 #[.int .i64 xh, .int .u64 xl] := (by first | exact (yx2).later b207); have kyx2 := yx2.cells; have yx3 : Box w207 (w.heap.size + 1) 28 #[.int .i64 yh, .int .u64 yl] := (by first | exact (yx3).later b207); have kyx3 := yx3.cells; have yx5 : Box w207 (g5) 24 #[.bool t5, .slice A5 n5 c5] := (by first | exact (yx5).later b207); have kyx5 := yx5.cells; have yx6 : Box w207 (g6) 24 #[.bool t6, .slice A6 n6 c6] := (by first | exact (yx6).later b207); have kyx6 := yx6.cells; have yx7 : Box w207 (gx7) 28 #[.int .i64 ah, .int .u64 al] := (by first | exact (yx7).later b207); have kyx7 := yx7.cells; have yx9 : Box w207 (gx9) 28 #[.int .i64 sh, .int .u64 sl] := (by first | exact (yx9).later b207); have kyx9 := yx9.cells; have yx11 : Box w207 (gx11) 28 #[.int .i64 nh, .int .u64 nl] := (by first | exact (yx11).later b207); have kyx11 := yx11.cells; have cb : Below w105.heap.size w105 w207 := (by first | exact cb.trans (b207.mono cb.size)); have m5 := m5.below b207 (Nat.le_refl _); have m6 := m6.below b207 (Nat.le_refl _))
        | (go_at_call 28; (with_reducible refine (WS.out _).mono ?_); rintro e w208 ⟨rfl, b208⟩; have yx2 : Box w208 (w.heap.size) 28 #[.int .i64 xh, .int .u64 xl] := (by first | exact (yx2).later b208); have kyx2 := yx2.cells; have yx3 : Box w208 (w.heap.size + 1) 28 #[.int .i64 yh, .int .u64 yl] := (by first | exact (yx3).later b208); have kyx3 := yx3.cells; have yx5 : Box w208 (g5) 24 #[.bool t5, .slice A5 n5 c5] := (by first | exact (yx5).later b208); have kyx5 := yx5.cells; have yx6 : Box w208 (g6) 24 #[.bool t6, .slice A6 n6 c6] := (by first | exact (yx6).later b208); have kyx6 := yx6.cells; have yx7 : Box w208 (gx7) 28 #[.int .i64 ah, .int .u64 al] := (by first | exact (yx7).later b208); have kyx7 := yx7.cells; have yx9 : Box w208 (gx9) 28 #[.int .i64 sh, .int .u64 sl] := (by first | exact (yx9).later b208); have kyx9 := yx9.cells; have yx11 : Box w208 (gx11) 28 #[.int .i64 nh, .int .u64 nl] := (by first | exact (yx11).later b208); have kyx11 := yx11.cells; have cb : Below w105.heap.size w105 w208 := (by first | exact cb.trans (b208.mono cb.size)); have m5 := m5.below b208 (Nat.le_refl _); have m6 := m6.below b208 (Nat.le_refl _))
        | (go_at_call 16; (with_reducible refine (RZ.out _ _ _ m5).mono ?_); rintro e w209 ⟨rfl, b209⟩; have yx2 : Box w209 (w.heap.size) 28 #[.int .i64 xh, .int .u64 xl] := (by first | exact (yx2).later b209); have kyx2 := yx2.cells; have yx3 : Box w209 (w.heap.size + 1) 28 #[.int .i64 yh, .int .u64 yl] := (by first | exact (yx3).later b209); have kyx3 := yx3.cells; have yx5 : Box w209 (g5) 24 #[.bool t5, .slice A5 n5 c5] := (by first | exact (yx5).later b209); have kyx5 := yx5.cells; have yx6 : Box w209 (g6) 24 #[.bool t6, .slice A6 n6 c6] := (by first | exact (yx6).later b209); have kyx6 := yx6.cells; have yx7 : Box w209 (gx7) 28 #[.int .i64 ah, .int .u64 al] := (by first | exact (yx7).later b209); have kyx7 := yx7.cells; have yx9 : Box w209 (gx9) 28 #[.int .i64 sh, .int .u64 sl] := (by first | exact (yx9).later b209); have kyx9 := yx9.cells; have yx11 : Box w209 (gx11) 28 #[.int .i64 nh, .int .u64 nl] := (by first | exact (yx11).later b209); have kyx11 := yx11.cells; have cb : Below w105.heap.size w105 w209 := (by first | exact cb.trans (b209.mono cb.size)); have m5 := m5.below b209 (Nat.le_refl _); have m6 := m6.below b209 (Nat.le_refl _))
        | (go_at_call 19; (with_reducible refine (AW.out _).mono ?_); rintro e w210 ⟨rfl, b210⟩; have yx2 : Box w210 (w.heap.size) 28 #[.int .i64 xh, .int .u64 xl] := (by first | exact (yx2).later b210); have kyx2 := yx2.cells; have yx3 : Box w210 (w.heap.size + 1) 28 #[.int .i64 yh, .int .u64 yl] := (by first | exact (yx3).later b210); have kyx3 := yx3.cells; have yx5 : Box w210 (g5) 24 #[.bool t5, .slice A5 n5 c5] := (by first | exact (yx5).later b210); have kyx5 := yx5.cells; have yx6 : Box w210 (g6) 24 #[.bool t6, .slice A6 n6 c6] := (by first | exact (yx6).later b210); have kyx6 := yx6.cells; have yx7 : Box w210 (gx7) 28 #[.int .i64 ah, .int .u64 al] := (by first | exact (yx7).later b210); have kyx7 := yx7.cells; have yx9 : Box w210 (gx9) 28 #[.int .i64 sh, .int .u64 sl] := (by first | exact (yx9).later b210); have kyx9 := yx9.cells; have yx11 : Box w210 (gx11) 28 #[.int .i64 nh, .int .u64 nl] := (by first | exact (yx11).later b210); have kyx11 := yx11.cells; have cb : Below w105.heap.size w105 w210 := (by first | exact cb.trans (b210.mono cb.size)); have m5 := m5.below b210 (Nat.le_refl _); have m6 := m6.below b210 (Nat.le_refl _)))
    go_wp2
    go_ret
    exact ⟨rfl, B10.trans (cb.mono B10.size)⟩
end Go.Proofs.Ytmchgncbblcodaa
