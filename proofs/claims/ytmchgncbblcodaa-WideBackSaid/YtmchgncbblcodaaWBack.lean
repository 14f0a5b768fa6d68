/-
  WideBack: the walk.
-/
import Derived.Test.YtmchgncbblcodaaWAwake
namespace Go.Proofs.Ytmchgncbblcodaa
open Go.RowKit

set_option maxRecDepth 100000 in
set_option maxHeartbeats 8000000 in
theorem wback_law (n x y : Int) (w : World) (n1 : -9223372036854775808 ≤ n) (n2 : n ≤ 9223372036854775807) (hx : W128 x) (hy : W128 y) :
    Calls Try.prog 5 #[.int .i64 n, WV x, WV y] w fun e w' => e = .returned (.bool true) ∧ Below w.heap.size w w' := by
  have AW := Lib.hid fun w => wawake_any w
  have ON := Lib.hid fun w => wof_any (w := w) n1 n2
  have IN := Lib.hid fun w => wint_any (z := n) (w := w) ⟨by omega, by omega⟩
  rw [toldI_in n1 n2] at IN
  have IX := Lib.hid fun w => wint_any (z := x) (w := w) hx
  have AD := Lib.hid fun w => wadd_any (w := w) hx hy
  have NG := Lib.hid fun w => wneg_any (w := w) hx
  have C1 := Lib.hid fun w => wcmp_any (x := x) (y := y) (w := w)
  have C2 := Lib.hid fun w => wcmp_any (x := y) (y := x) (w := w)
  have SX := Lib.hid fun w => wsign_any (x := x) (w := w)
  have EXX := fun w => weqz x x w
  have EXY := fun w => weqz x y w
  rw [decide_eq_true rfl] at EXX
  have c21 : cmpI y x = -cmpI x y := by
    rcases (by omega : x < y ∨ y < x ∨ x = y) with h | h | h
    · rw [cmpI_lt h, cmpI_gt h]; rfl
    · rw [cmpI_lt h, cmpI_gt h]
    · rw [cmpI_eq h, cmpI_eq h.symm]; rfl
  rw [c21] at C2
  have hcb : (cmpI x y == 0) = decide (x = y) := by
    rcases (by omega : x < y ∨ y < x ∨ x = y) with h | h | h
    · rw [cmpI_lt h, decide_eq_false (by omega)]; rfl
    · rw [cmpI_gt h, decide_eq_false (by omega)]; rfl
    · rw [cmpI_eq h, decide_eq_true h]; rfl
  have cr := cmpI_range x y
  have sr := cmpI_range x 0
  simp only [WV_out] at ON IN IX AD NG C1 C2 SX ⊢
  have DI : Hid (((toldI x).2 = 0 ∧ ∀ w : World, Calls Try.prog 18 #[.int .i64 (toldI x).1] w fun e w' => e = .returned (.agg #[.int .i64 (x / 18446744073709551616), .int .u64 (x % 18446744073709551616)]) ∧ Below w.heap.size w w') ∨ (toldI x).2 = 10) := by
    by_cases h : -9223372036854775808 ≤ x ∧ x ≤ 9223372036854775807
    · left
      rw [toldI_in h.1 h.2]
      exact ⟨rfl, fun w => wof_any h.1 h.2⟩
    · right
      rw [toldI_out (by omega)]
  have DA : Hid (((toldW (x + y)).2 = 0 ∧ ∀ w : World, Calls Try.prog 21 #[.agg #[.int .i64 ((toldW (x + y)).1 / 18446744073709551616), .int .u64 ((toldW (x + y)).1 % 18446744073709551616)], .agg #[.int .i64 (y / 18446744073709551616), .int .u64 (y % 18446744073709551616)]] w fun e w' => e = .returned (.tuple #[.agg #[.int .i64 (x / 18446744073709551616), .int .u64 (x % 18446744073709551616)], .int .i64 0]) ∧ Below w.heap.size w w') ∨ (toldW (x + y)).2 = 10) := by
    by_cases h : W128 (x + y)
    · left
      rw [toldW_in h.1 h.2]
      refine ⟨rfl, fun w => ?_⟩
      have := wsub_any (w := w) h hy
      rw [show x + y - y = x by omega, toldW_in hx.1 hx.2] at this
      exact this
    · right
      rw [toldW_out (by unfold W128 at h; omega)]
  have DN : Hid (((toldW (-x)).2 = 0 ∧ (∀ w : World, Calls Try.prog 22 #[.agg #[.int .i64 ((toldW (-x)).1 / 18446744073709551616), .int .u64 ((toldW (-x)).1 % 18446744073709551616)]] w fun e w' => e = .returned (.tuple #[.agg #[.int .i64 (x / 18446744073709551616), .int .u64 (x % 18446744073709551616)], .int .i64 0]) ∧ Below w.heap.size w w') ∧ ∀ w : World, Calls Try.prog 28 #[.agg #[.int .i64 ((toldW (-x)).1 / 18446744073709551616), .int .u64 ((toldW (-x)).1 % 18446744073709551616)]] w fun e w' => e = .returned (.int .i64 (-cmpI x 0)) ∧ Below w.heap.size w w') ∨ (toldW (-x)).2 = 10) := by
    by_cases h : W128 (-x)
    · left
      rw [toldW_in h.1 h.2]
      refine ⟨rfl, fun w => ?_, fun w => ?_⟩
      · have := wneg_any (w := w) h
        rw [Int.neg_neg, toldW_in hx.1 hx.2] at this
        exact this
      · have := wsign_any (x := -x) (w := w)
        rw [show cmpI (-x) 0 = -cmpI x 0 by
          rcases (by omega : x < 0 ∨ 0 < x ∨ x = 0) with h | h | h
          · rw [cmpI_lt h, cmpI_gt (by omega)]; rfl
          · rw [cmpI_gt h, cmpI_lt (by omega)]
          · rw [cmpI_eq h, cmpI_eq (by omega)]; rfl] at this
        exact this
    · right
      rw [toldW_out (by unfold W128 at h; omega)]
  clear hx hy n1 n2 c21
  have v1 : IntKind.i64.wrap (-cmpI x 0) = -cmpI x 0 := IntWalk.i64_in _ (by omega)
  have v2 : IntKind.i64.wrap (-cmpI x y) = -cmpI x y := IntWalk.i64_in _ (by omega)
  have v3 : IntKind.i64.wrap (cmpI x y) = cmpI x y := IntWalk.i64_in _ (by omega)
  have v4 : IntKind.i64.wrap (- -cmpI x y) = cmpI x y := by rw [Int.neg_neg]; exact v3
  generalize decide (x = y) = bxy at *
  generalize cmpI x y = c at *
  generalize cmpI x 0 = sg at *
  generalize (toldI x).1 = p at *
  generalize (toldI x).2 = q at *
  generalize (toldW (x + y)).1 / 18446744073709551616 = uh at *
  generalize (toldW (x + y)).1 % 18446744073709551616 = ul at *
  generalize (toldW (x + y)).2 = eu at *
  generalize (toldW (-x)).1 / 18446744073709551616 = nh at *
  generalize (toldW (-x)).1 % 18446744073709551616 = nl at *
  generalize (toldW (-x)).2 = en at *
  generalize x / 18446744073709551616 = xh at *
  generalize x % 18446744073709551616 = xl at *
  generalize y / 18446744073709551616 = yh at *
  generalize y % 18446744073709551616 = yl at *
  generalize n / 18446744073709551616 = kh at *
  generalize n % 18446744073709551616 = kl at *
  go_enter Try.func5, Try.ntmps5
  have B0 := Below.refl w.heap.size w
  go_wp2_with fail
  refine (ON.out _).mono ?_
  rintro e w1 ⟨rfl, b1⟩
  have x4 := ((Box.new w 28 #[.int .i64 xh, .int .u64 xl]).alloc _).later b1
  have x5 := (Box.new' (w := w.alloc (.cells #[.int .i64 xh, .int .u64 xl] 28)) (g := w.heap.size + 1) (t := 28) (cs := #[.int .i64 yh, .int .u64 yl]) (by simp)).later b1
  have b1 := below_up b1
  have b1 := below_up b1
  have B1 := B0.trans (b1.mono B0.size)
  clear b1 B0
  go_wp2_with fail
  refine (IN.out _).mono ?_
  rintro e w2 ⟨rfl, b2⟩
  replace x4 := x4.later b2
  replace x5 := x5.later b2
  have B2 := B1.trans (b2.mono B1.size)
  clear b2 B1
  have k4 := x4.cells
  go_wp2_with fail
  refine (IX.out _).mono ?_
  rintro e w3 ⟨rfl, b3⟩
  replace x4 := x4.later b3
  replace x5 := x5.later b3
  have B3 := B2.trans (b3.mono B2.size)
  clear b3 B2
  clear k4
  go_wp2_with fail
  go_cut [44] from 37 to 43 (fun s44 wx => s44 = .bool false ∧ Below w3.heap.size w3 wx)
  case first =>
    rcases DI.out with ⟨rfl, DI1⟩ | rfl
    · have DI1 := Lib.hid DI1
      have kkx4 := x4.cells
      go_region_held3 (fun w' => w'.cell? ⟨w.heap.size, 0, none⟩ = some (.int .i64 xh) ∧ w'.cell? ⟨w.heap.size, 1, none⟩ = some (.int .u64 xl)) (go_keep)
        (first
          | (go_at_call 18; (with_reducible refine (DI1.out _).mono ?_); rintro e w60 ⟨rfl, b60⟩; have yx4 : Box w60 (w.heap.size) 28 #[.int .i64 xh, .int .u64 xl] := (by first | exact (x4).drew.later b60); have kyx4 := yx4.cells; have cb : Below w3.heap.size w3 w60 := (by first | exact (below_undrew b60))))
      go_wp2_with fail
      go_meet
      exact ⟨rfl, cb⟩
    · go_quiet (fail)
      go_wp2_with fail
      go_meet
      exact ⟨rfl, ⟨rfl, rfl, rfl, Nat.le_refl _, fun _ _ => rfl⟩⟩
  case rest =>
    obtain ⟨rfl, bc⟩ := hcut
    obtain ⟨w4, rfl⟩ : ∃ w0 : World, w0 = wc := ⟨_, rfl⟩
    replace x4 := x4.later bc
    replace x5 := x5.later bc
    have B4 := B3.trans (bc.mono B3.size)
    clear bc B3
    have k4 := x4.cells
    have k5 := x5.cells
    go_wp2_with fail
    refine (AD.out _).mono ?_
    rintro e w11 ⟨rfl, b11⟩
    replace x4 := x4.later b11
    replace x5 := x5.later b11
    have B5 := B4.trans (b11.mono B4.size)
    clear b11 B4
    clear k4 k5
    go_upto_if 52 with fail
    obtain ⟨W5, hW5⟩ : ∃ W5, W5 = w11.alloc (.cells #[.int .i64 uh, .int .u64 ul] 28) := ⟨_, rfl⟩
    have x11 : Box W5 w11.heap.size 28 #[.int .i64 uh, .int .u64 ul] := by rw [hW5]; exact Box.new _ _ _
    replace x4 : Box W5 w.heap.size 28 #[.int .i64 xh, .int .u64 xl] := by rw [hW5]; exact x4.alloc _
    replace x5 : Box W5 (w.heap.size + 1) 28 #[.int .i64 yh, .int .u64 yl] := by rw [hW5]; exact x5.alloc _
    have B20 : Below w.heap.size w W5 := by rw [hW5]; exact B5.alloc B5.size _
    rewrite [← hW5]
    clear hW5 B5
    obtain ⟨g11, hg11⟩ : ∃ g, g = w11.heap.size := ⟨_, rfl⟩
    rewrite [← hg11] at x11 ⊢
    clear hg11
    go_cut [13, 14] from 53 to 65 (fun s13 s14 wx => Below W5.heap.size W5 wx)
    case first =>
      rcases DA.out with ⟨rfl, DA1⟩ | rfl
      · have DA1 := Lib.hid DA1
        have B30 := Below.refl W5.heap.size W5
        have k11 := x11.cells
        have k5 := x5.cells
        go_wp2_with fail
        refine (DA1.out _).mono ?_
        rintro e w31 ⟨rfl, b31⟩
        replace x4 := x4.later b31
        have B31 := B30.trans (b31.mono B30.size)
        clear b31 B30
        have k4 := x4.cells
        have l4 := x4.lt
        clear k11 k5
        go_wp2_with fail
        go_meet
        exact B31.alloc B31.size _
      · go_wp2_with fail
        go_meet
        exact Below.refl _ _
    case rest =>
      have bc := hcut
      clear hcut
      obtain ⟨w6, rfl⟩ : ∃ w0 : World, w0 = wc := ⟨_, rfl⟩
      replace x4 := x4.later bc
      replace x5 := x5.later bc
      have B21 := B20.trans (bc.mono B20.size)
      clear bc B20
      have k4 := x4.cells
      go_wp2_with fail
      refine (NG.out _).mono ?_
      rintro e w41 ⟨rfl, b41⟩
      replace x4 := x4.later b41
      replace x5 := x5.later b41
      have B22 := B21.trans (b41.mono B21.size)
      clear b41 B21
      clear k4
      go_upto_if 72 with fail
      obtain ⟨W7, hW7⟩ : ∃ W7, W7 = w41.alloc (.cells #[.int .i64 nh, .int .u64 nl] 28) := ⟨_, rfl⟩
      have x15 : Box W7 w41.heap.size 28 #[.int .i64 nh, .int .u64 nl] := by rw [hW7]; exact Box.new _ _ _
      replace x4 : Box W7 w.heap.size 28 #[.int .i64 xh, .int .u64 xl] := by rw [hW7]; exact x4.alloc _
      replace x5 : Box W7 (w.heap.size + 1) 28 #[.int .i64 yh, .int .u64 yl] := by rw [hW7]; exact x5.alloc _
      have B50 : Below w.heap.size w W7 := by rw [hW7]; exact B22.alloc B22.size _
      rewrite [← hW7]
      clear hW7 B22
      obtain ⟨g15, hg15⟩ : ∃ g, g = w41.heap.size := ⟨_, rfl⟩
      rewrite [← hg15] at x15 ⊢
      clear hg15
      go_cut [17, 18] from 73 to 92 (fun s17 s18 wx => Below W7.heap.size W7 wx)
      case first =>
        rcases DN.out with ⟨rfl, DN1, DN2⟩ | rfl
        · have DN1 := Lib.hid DN1
          have DN2 := Lib.hid DN2
          have B70 := Below.refl W7.heap.size W7
          have k15 := x15.cells
          go_wp2_with fail
          refine (DN1.out _).mono ?_
          rintro e w71 ⟨rfl, b71⟩
          replace x4 := x4.later b71
          replace x15 := x15.later b71
          have B71 := B70.trans (b71.mono B70.size)
          clear b71 B70
          clear k15
          go_upto_region 15 with fail
          obtain ⟨W8, hW8⟩ : ∃ W8, W8 = w71.alloc (.cells #[.int .i64 xh, .int .u64 xl] 28) := ⟨_, rfl⟩
          have x17 : Box W8 w71.heap.size 28 #[.int .i64 xh, .int .u64 xl] := by rw [hW8]; exact Box.new _ _ _
          replace x4 : Box W8 w.heap.size 28 #[.int .i64 xh, .int .u64 xl] := by rw [hW8]; exact x4.alloc _
          replace x15 : Box W8 g15 28 #[.int .i64 nh, .int .u64 nl] := by rw [hW8]; exact x15.alloc _
          have B80 : Below W7.heap.size W7 W8 := by rw [hW8]; exact B71.alloc B71.size _
          rewrite [← hW8]
          clear hW8
          obtain ⟨g17, hg17⟩ : ∃ g, g = w71.heap.size := ⟨_, rfl⟩
          rewrite [← hg17] at x17 ⊢
          clear hg17
          have kkx4 := x4.cells
          have kkx15 := x15.cells
          have kkx17 := x17.cells
          go_region_held3 (fun w' => w'.cell? ⟨w.heap.size, 0, none⟩ = some (.int .i64 xh) ∧ w'.cell? ⟨w.heap.size, 1, none⟩ = some (.int .u64 xl) ∧ w'.cell? ⟨g15, 0, none⟩ = some (.int .i64 nh) ∧ w'.cell? ⟨g15, 1, none⟩ = some (.int .u64 nl) ∧ w'.cell? ⟨g17, 0, none⟩ = some (.int .i64 xh) ∧ w'.cell? ⟨g17, 1, none⟩ = some (.int .u64 xl)) (go_keep)
            (first
              | (go_at_call 28; (with_reducible refine (DN2.out _).mono ?_); rintro e w60 ⟨rfl, b60⟩; have yx4 : Box w60 (w.heap.size) 28 #[.int .i64 xh, .int .u64 xl] := (by first | exact (x4).drew.later b60); have kyx4 := yx4.cells; have yx15 : Box w60 (g15) 28 #[.int .i64 nh, .int .u64 nl] := (by first | exact (x15).drew.later b60); have kyx15 := yx15.cells; have yx17 : Box w60 (g17) 28 #[.int .i64 xh, .int .u64 xl] := (by first | exact (x17).drew.later b60); have kyx17 := yx17.cells; have cb : Below W8.heap.size W8 w60 := (by first | exact (below_undrew b60)))
              | (go_at_call 28; (with_reducible refine (SX.out _).mono ?_); rintro e w61 ⟨rfl, b61⟩; have yx4 : Box w61 (w.heap.size) 28 #[.int .i64 xh, .int .u64 xl] := (by first | exact (yx4).later b61); have kyx4 := yx4.cells; have yx15 : Box w61 (g15) 28 #[.int .i64 nh, .int .u64 nl] := (by first | exact (yx15).later b61); have kyx15 := yx15.cells; have yx17 : Box w61 (g17) 28 #[.int .i64 xh, .int .u64 xl] := (by first | exact (yx17).later b61); have kyx17 := yx17.cells; have cb : Below W8.heap.size W8 w61 := (by first | exact cb.trans (b61.mono cb.size))))
          go_wp2_with fail
          go_meet
          exact B80.trans (cb.mono B80.size)
        · go_wp2_with fail
          go_meet
          exact Below.refl _ _
      case rest =>
        have bc := hcut
        clear hcut
        obtain ⟨w8, rfl⟩ : ∃ w0 : World, w0 = wc := ⟨_, rfl⟩
        replace x4 := x4.later bc
        replace x5 := x5.later bc
        have B51 := B50.trans (bc.mono B50.size)
        clear bc B50
        go_wp2_with fail
        have kkx4 := x4.cells
        have kkx5 := x5.cells
        go_region_held3 (fun w' => w'.cell? ⟨w.heap.size, 0, none⟩ = some (.int .i64 xh) ∧ w'.cell? ⟨w.heap.size, 1, none⟩ = some (.int .u64 xl) ∧ w'.cell? ⟨w.heap.size + 1, 0, none⟩ = some (.int .i64 yh) ∧ w'.cell? ⟨w.heap.size + 1, 1, none⟩ = some (.int .u64 yl)) (go_keep)
          (first
            | (go_at_call 27; (with_reducible refine (C1.out _).mono ?_); rintro e w90 ⟨rfl, b90⟩; have yx4 : Box w90 (w.heap.size) 28 #[.int .i64 xh, .int .u64 xl] := (by first | exact (x4).drew.later b90); have kyx4 := yx4.cells; have yx5 : Box w90 (w.heap.size + 1) 28 #[.int .i64 yh, .int .u64 yl] := (by first | exact (x5).drew.later b90); have kyx5 := yx5.cells; have cb : Below w8.heap.size w8 w90 := (by first | exact (below_undrew b90)))
            | (go_at_call 27; (with_reducible refine (C2.out _).mono ?_); rintro e w91 ⟨rfl, b91⟩; have yx4 : Box w91 (w.heap.size) 28 #[.int .i64 xh, .int .u64 xl] := (by first | exact (yx4).later b91); have kyx4 := yx4.cells; have yx5 : Box w91 (w.heap.size + 1) 28 #[.int .i64 yh, .int .u64 yl] := (by first | exact (yx5).later b91); have kyx5 := yx5.cells; have cb : Below w8.heap.size w8 w91 := (by first | exact cb.trans (b91.mono cb.size)))
            | (go_at_call 27; (with_reducible refine (C1.out _).mono ?_); rintro e w92 ⟨rfl, b92⟩; have yx4 : Box w92 (w.heap.size) 28 #[.int .i64 xh, .int .u64 xl] := (by first | exact (yx4).later b92); have kyx4 := yx4.cells; have yx5 : Box w92 (w.heap.size + 1) 28 #[.int .i64 yh, .int .u64 yl] := (by first | exact (yx5).later b92); have kyx5 := yx5.cells; have cb : Below w8.heap.size w8 w92 := (by first | exact cb.trans (b92.mono cb.size)))
            | (go_at_call 19; (with_reducible refine (AW.out _).mono ?_); rintro e w93 ⟨rfl, b93⟩; have yx4 : Box w93 (w.heap.size) 28 #[.int .i64 xh, .int .u64 xl] := (by first | exact (yx4).later b93); have kyx4 := yx4.cells; have yx5 : Box w93 (w.heap.size + 1) 28 #[.int .i64 yh, .int .u64 yl] := (by first | exact (yx5).later b93); have kyx5 := yx5.cells; have cb : Below w8.heap.size w8 w93 := (by first | exact cb.trans (b93.mono cb.size))))
        go_wp2
        go_ret
        exact ⟨rfl, B51.trans (cb.mono B51.size)⟩
end Go.Proofs.Ytmchgncbblcodaa
