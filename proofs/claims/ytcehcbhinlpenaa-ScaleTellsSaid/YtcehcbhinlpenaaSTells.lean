/-
  ScaleTells: the walk.
-/
import Derived.Test.YtcehcbhinlpenaaSAwake
namespace Go.Proofs.Ytcehcbhinlpenaa
open Go.RowKit

set_option maxRecDepth 100000 in
set_option maxHeartbeats 4000000 in
theorem stells_bad (z d : Int) (w : World) (hz : W128 z) (d2 : d ≤ 9223372036854775807) (h : d < 1) :
    Calls Try.prog 7 #[WV z, .int .i64 d] w fun e w' => e = .returned (.bool true) ∧ Below w.heap.size w w' := by
  have AW := Lib.hid fun w => sawake_any w
  have RZ := Lib.hid fun (w : World) => rofz_any (w := w) hz
  have EV := Lib.hid fun w => even_all hz d2 w
  have RE := Lib.hid fun (w : World) S va (ha : BigIs S w va z 58) => reven_any ha (by omega) (by omega) d2
  have QU := Lib.hid fun w => quo_all hz d2 w
  unfold quoI at QU
  rw [if_pos h] at QU
  have E0 : ∀ w, (Op.equalIn 10000 28 (.agg #[.int .i64 0, .int .u64 0]) (.agg #[.int .i64 0, .int .u64 0])).run Try.prog w = .ok true w := fun w => by rw [weq _ (.inl rfl)]; simp
  simp only [WV_out] at QU RZ EV ⊢
  clear hz
  generalize evenI z d = p at *
  obtain ⟨p, p'⟩ := p
  generalize z / 18446744073709551616 = zh at *
  generalize z % 18446744073709551616 = zl at *
  go_enter Try.func7, Try.ntmps7
  have B0 := Below.refl w.heap.size w
  go_wp2_with fail
  refine (RZ.out _).mono ?_
  rintro e w1 ⟨v5, rfl, m5, b1⟩
  have x2 := (Box.new w 28 #[.int .i64 zh, .int .u64 zl]).later b1
  have b1 := below_up b1
  have B1 := B0.trans (b1.mono B0.size)
  clear b1 B0
  obtain ⟨t5, A5, n5, c5, rfl⟩ := m5.form2
  go_upto_region 2 with fail
  obtain ⟨W5, hW5⟩ : ∃ W, W = w1.alloc (.cells #[.bool t5, .slice A5 n5 c5] 24) := ⟨_, rfl⟩
  have x5 : Box W5 w1.heap.size 24 #[.bool t5, .slice A5 n5 c5] := by rw [hW5]; exact Box.new _ _ _
  replace x2 := x2.alloc (.cells #[.bool t5, .slice A5 n5 c5] 24)
  replace m5 := m5.alloc (.cells #[.bool t5, .slice A5 n5 c5] 24)
  have B2 := B1.alloc B1.size (.cells #[.bool t5, .slice A5 n5 c5] 24)
  rw [← hW5] at x2 m5 B2
  rewrite [← hW5]
  clear hW5 B1
  obtain ⟨gx5, hgx5⟩ : ∃ g, g = w1.heap.size := ⟨_, rfl⟩
  rewrite [← hgx5] at x5 ⊢
  clear hgx5
  have k2 := x2.cells
  go_wp2_with fail
  refine (QU.out _).mono ?_
  rintro e w2 ⟨rfl, b2⟩
  replace x2 := x2.later b2
  replace m5 := m5.below b2 (Nat.le_refl _)
  replace x5 := x5.later b2
  have B3 := B2.trans (b2.mono B2.size)
  clear b2 B2
  clear k2
  go_upto_region 3 with fail
  obtain ⟨W6, hW6⟩ : ∃ W, W = w2.alloc (.cells #[.int .i64 0, .int .u64 0] 28) := ⟨_, rfl⟩
  have x6 : Box W6 w2.heap.size 28 #[.int .i64 0, .int .u64 0] := by rw [hW6]; exact Box.new _ _ _
  replace x2 := x2.alloc (.cells #[.int .i64 0, .int .u64 0] 28)
  replace m5 := m5.alloc (.cells #[.int .i64 0, .int .u64 0] 28)
  replace x5 := x5.alloc (.cells #[.int .i64 0, .int .u64 0] 28)
  have B4 := B3.alloc B3.size (.cells #[.int .i64 0, .int .u64 0] 28)
  rw [← hW6] at x2 m5 x5 B4
  rewrite [← hW6]
  clear hW6 B3
  obtain ⟨gx6, hgx6⟩ : ∃ g, g = w2.heap.size := ⟨_, rfl⟩
  rewrite [← hgx6] at x6 ⊢
  clear hgx6
  have k2 := x2.cells
  go_wp2_with fail
  refine (EV.out _).mono ?_
  rintro e w3 ⟨rfl, b3⟩
  replace x2 := x2.later b3
  replace m5 := m5.below b3 (Nat.le_refl _)
  replace x5 := x5.later b3
  replace x6 := x6.later b3
  have B5 := B4.trans (b3.mono B4.size)
  clear b3 B4
  clear k2
  have k5 := x5.cells
  go_wp2_with fail
  refine (RE.out _ _ _ m5).mono ?_
  rintro e w4 ⟨rfl, b4⟩
  replace x2 := x2.later b4
  replace m5 := m5.below b4 (Nat.le_refl _)
  replace x5 := x5.later b4
  replace x6 := x6.later b4
  have B6 := B5.trans (b4.mono B5.size)
  clear b4 B5
  clear k5
  have k6 := x6.cells
  go_wp2_with fail
  refine (AW.out _).mono ?_
  rintro e w5 ⟨rfl, b5⟩
  replace x2 := x2.later b5
  replace m5 := m5.below b5 (Nat.le_refl _)
  replace x5 := x5.later b5
  replace x6 := x6.later b5
  have B7 := B6.trans (b5.mono B6.size)
  clear b5 B6
  go_wp2
  go_ret
  exact ⟨rfl, B7⟩

set_option maxRecDepth 100000 in
set_option maxHeartbeats 4000000 in
theorem stells_good (z d : Int) (w : World) (hz : W128 z) (d2 : d ≤ 9223372036854775807) (d1 : 1 ≤ d) :
    Calls Try.prog 7 #[WV z, .int .i64 d] w fun e w' => e = .returned (.bool true) ∧ Below w.heap.size w w' := by
  have AW := Lib.hid fun w => sawake_any w
  have RZ := Lib.hid fun (w : World) => rofz_any (w := w) hz
  have EV := Lib.hid fun w => even_all hz d2 w
  have RE := Lib.hid fun (w : World) S va (ha : BigIs S w va z 58) => reven_any ha (by omega) (by omega) d2
  have QU := Lib.hid fun w => quo_any hz d1 d2 w
  have hq := quo_range hz d1
  have r0 := Int.emod_nonneg z (show d ≠ 0 by omega)
  have r1 := Int.emod_lt_of_pos z (show 0 < d by omega)
  have RQ := Lib.hid fun (w : World) => rofz_any (w := w) hq
  have OD := Lib.hid fun (w : World) => of_any d w (by omega) d2
  have OR := Lib.hid fun (w : World) => of_any (z % d) w (by omega) (by omega)
  have DV := Lib.hid fun (w : World) S S' va vb (ha : BigIs S w va z 58) (hb : BigIs S' w vb d 19) => div_any ha hb d1 (by omega)
  have CQ := Lib.hid fun (w : World) S S' va vb (ha : BigIs S w va (z / d) 58) (hb : BigIs S' w vb (z / d) 60) => cmp_any ha hb (by omega) (by omega)
  have CR := Lib.hid fun (w : World) S S' va vb (ha : BigIs S w va (z % d) 19) (hb : BigIs S' w vb (z % d) 19) => cmp_any ha hb (by omega) (by omega)
  rw [cmpI_eq rfl] at CQ CR
  simp only [WV_out] at QU RQ RZ EV ⊢
  clear hz hq
  generalize evenI z d = p at *
  obtain ⟨p, p'⟩ := p
  generalize z % d = r at *
  generalize z / d / 18446744073709551616 = qh at *
  generalize z / d % 18446744073709551616 = ql at *
  generalize z / d = q at *
  generalize z / 18446744073709551616 = zh at *
  generalize z % 18446744073709551616 = zl at *
  go_enter Try.func7, Try.ntmps7
  have B0 := Below.refl w.heap.size w
  go_wp2_with fail
  refine (RZ.out _).mono ?_
  rintro e w1 ⟨v5, rfl, m5, b1⟩
  have x2 := (Box.new w 28 #[.int .i64 zh, .int .u64 zl]).later b1
  have b1 := below_up b1
  have B1 := B0.trans (b1.mono B0.size)
  clear b1 B0
  obtain ⟨t5, A5, n5, c5, rfl⟩ := m5.form2
  go_upto_region 2 with fail
  obtain ⟨W5, hW5⟩ : ∃ W, W = w1.alloc (.cells #[.bool t5, .slice A5 n5 c5] 24) := ⟨_, rfl⟩
  have x5 : Box W5 w1.heap.size 24 #[.bool t5, .slice A5 n5 c5] := by rw [hW5]; exact Box.new _ _ _
  replace x2 := x2.alloc (.cells #[.bool t5, .slice A5 n5 c5] 24)
  replace m5 := m5.alloc (.cells #[.bool t5, .slice A5 n5 c5] 24)
  have B2 := B1.alloc B1.size (.cells #[.bool t5, .slice A5 n5 c5] 24)
  rw [← hW5] at x2 m5 B2
  rewrite [← hW5]
  clear hW5 B1
  obtain ⟨gx5, hgx5⟩ : ∃ g, g = w1.heap.size := ⟨_, rfl⟩
  rewrite [← hgx5] at x5 ⊢
  clear hgx5
  have k2 := x2.cells
  go_wp2_with fail
  refine (QU.out _).mono ?_
  rintro e w2 ⟨rfl, b2⟩
  replace x2 := x2.later b2
  replace m5 := m5.below b2 (Nat.le_refl _)
  replace x5 := x5.later b2
  have B3 := B2.trans (b2.mono B2.size)
  clear b2 B2
  clear k2
  go_upto_region 3 with fail
  obtain ⟨W6, hW6⟩ : ∃ W, W = w2.alloc (.cells #[.int .i64 qh, .int .u64 ql] 28) := ⟨_, rfl⟩
  have x6 : Box W6 w2.heap.size 28 #[.int .i64 qh, .int .u64 ql] := by rw [hW6]; exact Box.new _ _ _
  replace x2 := x2.alloc (.cells #[.int .i64 qh, .int .u64 ql] 28)
  replace m5 := m5.alloc (.cells #[.int .i64 qh, .int .u64 ql] 28)
  replace x5 := x5.alloc (.cells #[.int .i64 qh, .int .u64 ql] 28)
  have B4 := B3.alloc B3.size (.cells #[.int .i64 qh, .int .u64 ql] 28)
  rw [← hW6] at x2 m5 x5 B4
  rewrite [← hW6]
  clear hW6 B3
  obtain ⟨gx6, hgx6⟩ : ∃ g, g = w2.heap.size := ⟨_, rfl⟩
  rewrite [← hgx6] at x6 ⊢
  clear hgx6
  have k2 := x2.cells
  go_wp2_with fail
  refine (EV.out _).mono ?_
  rintro e w3 ⟨rfl, b3⟩
  replace x2 := x2.later b3
  replace m5 := m5.below b3 (Nat.le_refl _)
  replace x5 := x5.later b3
  replace x6 := x6.later b3
  have B5 := B4.trans (b3.mono B4.size)
  clear b3 B4
  clear k2
  have k5 := x5.cells
  go_wp2_with fail
  refine (RE.out _ _ _ m5).mono ?_
  rintro e w4 ⟨rfl, b4⟩
  replace x2 := x2.later b4
  replace m5 := m5.below b4 (Nat.le_refl _)
  replace x5 := x5.later b4
  replace x6 := x6.later b4
  have B6 := B5.trans (b4.mono B5.size)
  clear b4 B5
  clear k5
  go_upto_region 9 with fail
  go_cut [13, 14] from 60 to 67 (fun s5 s6 wx => TwoCut 0 q r 60 19 w4 s5 s6 wx)
  case first =>
    have m5 := m5.mono (S' := fun _ => True) (fun _ _ _ => trivial) (Nat.le_refl _)
    have kkx5 := x5.cells
    have nex5 := Nat.ne_of_gt x5.lt
    have nfx5 := Nat.ne_of_gt (Nat.lt_succ_of_lt x5.lt)
    first | go_region_held3 (fun w' => w'.cell? ⟨gx5, 0, none⟩ = some (.bool t5) ∧ w'.cell? ⟨gx5, 1, none⟩ = some (.slice A5 n5 c5)) (go_keep)
      (first
        | (go_at_call 11; (with_reducible refine (OD.out _).mono ?_); rintro e w60 ⟨v1, rfl, m1, b60⟩; have yx5 : Box w60 (gx5) 24 #[.bool t5, .slice A5 n5 c5] := (by first | exact (x5).drew.later b60 | exact (x5.alloc _).drew.later b60 | exact ((x5.alloc _).alloc _).drew.later b60); have kyx5 := yx5.cells; have nex50 := Nat.ne_of_gt yx5.lt; have nfx50 := Nat.ne_of_gt (Nat.lt_succ_of_lt yx5.lt); have cb : Below w4.heap.size w4 w60 := (by first | exact (below_undrew b60) | exact (below_up (below_undrew b60)) | exact (below_up (below_up (below_undrew b60)))); (first | (have zl0a := z1.lt; have zl0b := z2.lt; have z1 := z1.later b60; have z2 := z2.later b60; have kz1 := z1.cells; have fz1 := z1.free; have lz1 := z1.lt; have kz2 := z2.cells; have fz2 := z2.free; have lz2 := z2.lt) | (have zl0a := z1.lt; have z1 := z1.later b60; have kz1 := z1.cells; have fz1 := z1.free; have lz1 := z1.lt) | (have zne := Nat.ne_of_lt z1.lt; have zl0b := (z1.alloc (.cells #[.bool false, .slice none 0 0] 24)).lt; have z1 := (z1.alloc _).drew.later b60; have z2 := (Box.new w4 24 #[.bool false, .slice none 0 0]).drew; have zl0a := z2.lt; have z2 := z2.later b60; have kz1 := z1.cells; have fz1 := z1.free; have lz1 := z1.lt; have kz2 := z2.cells; have fz2 := z2.free; have lz2 := z2.lt) | (have z1 := ((Box.new w4 24 #[.bool false, .slice none 0 0]).alloc (.cells #[.bool false, .slice none 0 0] 24)).drew; have z2 := (Box.new' (w := w4.alloc (.cells #[.bool false, .slice none 0 0] 24)) (g := w4.heap.size + 1) (t := 24) (cs := #[.bool false, .slice none 0 0]) (by simp)).drew; have zl0a := z1.lt; have zl0b := z2.lt; have zne := Nat.ne_of_lt (Nat.lt_succ_self w4.heap.size); have z1 := z1.later b60; have z2 := z2.later b60; have kz1 := z1.cells; have fz1 := z1.free; have lz1 := z1.lt; have kz2 := z2.cells; have fz2 := z2.free; have lz2 := z2.lt) | (have z1 := (Box.new w4 24 #[.bool false, .slice none 0 0]).drew; have zl0a := z1.lt; have z1 := z1.later b60; have kz1 := z1.cells; have fz1 := z1.free; have lz1 := z1.lt) | skip); (first | replace m5 := (m5).drew.below b60 (Nat.le_refl _) | replace m5 := (m5.alloc _).drew.below b60 (Nat.le_refl _) | replace m5 := ((m5.alloc _).alloc _).drew.below b60 (Nat.le_refl _)); have s60 := cb.size; have m1 := m1.mono (S' := fun _ => True) (fun _ _ _ => trivial) (Nat.le_refl _))
        | (go_at_call 33; (with_reducible refine (DV.out _ (fun _ => True) (fun _ => True) _ _ ?_ ?_).mono ?_); (first | exact m5 | exact m5.alloc _ | exact (m5.alloc _).alloc _); (first | exact m1 | exact m1.alloc _ | exact (m1.alloc _).alloc _); rintro e w61 ⟨v7, v8, rfl, m7, m8, b61⟩; have yx5 : Box w61 (gx5) 24 #[.bool t5, .slice A5 n5 c5] := (by first | exact (yx5).later b61 | exact (yx5.alloc _).later b61 | exact ((yx5.alloc _).alloc _).later b61); have kyx5 := yx5.cells; have nex51 := Nat.ne_of_gt yx5.lt; have nfx51 := Nat.ne_of_gt (Nat.lt_succ_of_lt yx5.lt); have cb : Below w4.heap.size w4 w61 := (by first | exact cb.trans (b61.mono cb.size) | exact cb.trans ((below_up b61).mono cb.size) | exact cb.trans ((below_up (below_up b61)).mono cb.size)); (first | (have zl1a := z1.lt; have zl1b := z2.lt; have z1 := z1.later b61; have z2 := z2.later b61; have kz1 := z1.cells; have fz1 := z1.free; have lz1 := z1.lt; have kz2 := z2.cells; have fz2 := z2.free; have lz2 := z2.lt) | (have zl1a := z1.lt; have z1 := z1.later b61; have kz1 := z1.cells; have fz1 := z1.free; have lz1 := z1.lt) | (have zne := Nat.ne_of_lt z1.lt; have zl1b := (z1.alloc (.cells #[.bool false, .slice none 0 0] 24)).lt; have z1 := (z1.alloc _).later b61; have z2 := (Box.new w60 24 #[.bool false, .slice none 0 0]); have zl1a := z2.lt; have z2 := z2.later b61; have kz1 := z1.cells; have fz1 := z1.free; have lz1 := z1.lt; have kz2 := z2.cells; have fz2 := z2.free; have lz2 := z2.lt) | (have z1 := ((Box.new w60 24 #[.bool false, .slice none 0 0]).alloc (.cells #[.bool false, .slice none 0 0] 24)); have z2 := (Box.new' (w := w60.alloc (.cells #[.bool false, .slice none 0 0] 24)) (g := w60.heap.size + 1) (t := 24) (cs := #[.bool false, .slice none 0 0]) (by simp)); have zl1a := z1.lt; have zl1b := z2.lt; have zne := Nat.ne_of_lt (Nat.lt_succ_self w60.heap.size); have z1 := z1.later b61; have z2 := z2.later b61; have kz1 := z1.cells; have fz1 := z1.free; have lz1 := z1.lt; have kz2 := z2.cells; have fz2 := z2.free; have lz2 := z2.lt) | (have z1 := (Box.new w60 24 #[.bool false, .slice none 0 0]); have zl1a := z1.lt; have z1 := z1.later b61; have kz1 := z1.cells; have fz1 := z1.free; have lz1 := z1.lt) | skip); (first | replace m5 := (m5).below b61 (Nat.le_refl _) | replace m5 := (m5.alloc _).below b61 (Nat.le_refl _) | replace m5 := ((m5.alloc _).alloc _).below b61 (Nat.le_refl _)); (first | replace m1 := (m1).below b61 (Nat.le_refl _) | replace m1 := (m1.alloc _).below b61 (Nat.le_refl _) | replace m1 := ((m1.alloc _).alloc _).below b61 (Nat.le_refl _)); obtain ⟨t7, A7, n7, c7, rfl⟩ := m7.form2; obtain ⟨t8, A8, n8, c8, rfl⟩ := m8.form2; have m7 := m7.mono (fun b h1 h2 => And.intro h1 h2) (Nat.le_refl _); have m8 := m8.mono (fun b h1 h2 => And.intro h1 h2) (Nat.le_refl _); have s61 := b61.size))
    all_goals (go_wp2_with fail; go_meet)
    all_goals
      have cs := cb.size
      refine ⟨_, _, t7, A7, n7, c7, t8, A8, n8, c8, rfl, rfl, ?_, ?_, big_keep m7 ?_ ?_ ?_, big_keep m8 ?_ ?_ ?_, ?_⟩
      · repeat' (first | (with_reducible exact z1) | (with_reducible exact z2) | ((with_reducible refine Box.new' ?_); (first | rfl | (simp; done) | (simp [World.setCell]; done))) | (with_reducible refine box2 (a := .bool false) (b := .slice none 0 0) ?_ _ _) | (with_reducible refine Box.alloc ?_ _) | (with_reducible refine Box.far' ?_ ?_ _))
        all_goals omega
      · repeat' (first | (with_reducible exact z1) | (with_reducible exact z2) | ((with_reducible refine Box.new' ?_); (first | rfl | (simp; done) | (simp [World.setCell]; done))) | (with_reducible refine box2 (a := .bool false) (b := .slice none 0 0) ?_ _ _) | (with_reducible refine Box.alloc ?_ _) | (with_reducible refine Box.far' ?_ ?_ _))
        all_goals omega
      · rintro b ⟨h1, h2⟩
        first | omega | (simp at h2; omega)
      · (first | exact Nat.le_refl _ | (simp [World.setCell]; done) | (simp; omega))
      · rintro b ⟨h1, h2⟩ hb
        try simp at h2
        repeat' (with_reducible (first | rfl | refine (Below.heap_setCell _ _ _ _ ?_).trans ?_ | refine (Below.heap_alloc _ _ _ ?_).trans ?_))
        all_goals (first | omega | (dsimp only; omega) | (simp; omega))
      · rintro b ⟨h1, h2⟩
        first | omega | (simp at h2; omega)
      · (first | exact Nat.le_refl _ | (simp [World.setCell]; done) | (simp; omega))
      · rintro b ⟨h1, h2⟩ hb
        try simp at h2
        repeat' (with_reducible (first | rfl | refine (Below.heap_setCell _ _ _ _ ?_).trans ?_ | refine (Below.heap_alloc _ _ _ ?_).trans ?_))
        all_goals (first | omega | (dsimp only; omega) | (simp; omega))
      · repeat' (with_reducible (first | exact cb | refine Below.alloc ?_ ?_ _ | refine Below.setCell ?_ ?_ _))
        all_goals first | exact cs | omega | (dsimp only; omega) | (simp; omega)
  case rest =>
    obtain ⟨g7, g8, t7, A7, n7, c7, t8, A8, n8, c8, rfl, rfl, x7, x8, m7, m8, bc⟩ := hcut
    obtain ⟨w20, rfl⟩ : ∃ w0 : World, w0 = wc := ⟨_, rfl⟩
    replace x2 := x2.later bc
    replace m5 := m5.below bc (Nat.le_refl _)
    replace x5 := x5.later bc
    replace x6 := x6.later bc
    have B7 := B6.trans (bc.mono B6.size)
    clear bc B6
    go_upto_region 10 with fail
    have kkx6 := x6.cells
    have kkx7 := x7.cells
    have kkx8 := x8.cells
    first | go_region_held3 (fun w' => w'.cell? ⟨gx6, 0, none⟩ = some (.int .i64 qh) ∧ w'.cell? ⟨gx6, 1, none⟩ = some (.int .u64 ql) ∧ w'.cell? ⟨g7, 0, none⟩ = some (.bool t7) ∧ w'.cell? ⟨g7, 1, none⟩ = some (.slice A7 n7 c7) ∧ w'.cell? ⟨g8, 0, none⟩ = some (.bool t8) ∧ w'.cell? ⟨g8, 1, none⟩ = some (.slice A8 n8 c8)) (go_keep)
      (first
        | (go_at_call 17; (with_reducible refine (RQ.out _).mono ?_); rintro e w80 ⟨v1, rfl, m1, b80⟩; have yx6 : Box w80 (gx6) 28 #[.int .i64 qh, .int .u64 ql] := (by first | exact (x6).drew.later b80); have kyx6 := yx6.cells; have yx7 : Box w80 (g7) 24 #[.bool t7, .slice A7 n7 c7] := (by first | exact (x7).drew.later b80); have kyx7 := yx7.cells; have yx8 : Box w80 (g8) 24 #[.bool t8, .slice A8 n8 c8] := (by first | exact (x8).drew.later b80); have kyx8 := yx8.cells; have cb : Below w20.heap.size w20 w80 := (by first | exact (below_undrew b80)); have m7 := m7.drew.below b80 (Nat.le_refl _); have m8 := m8.drew.below b80 (Nat.le_refl _))
        | (go_at_call 16; (with_reducible refine (CQ.out _ _ _ _ _ m1 m7).mono ?_); rintro e w81 ⟨rfl, b81⟩; have yx6 : Box w81 (gx6) 28 #[.int .i64 qh, .int .u64 ql] := (by first | exact (yx6).later b81); have kyx6 := yx6.cells; have yx7 : Box w81 (g7) 24 #[.bool t7, .slice A7 n7 c7] := (by first | exact (yx7).later b81); have kyx7 := yx7.cells; have yx8 : Box w81 (g8) 24 #[.bool t8, .slice A8 n8 c8] := (by first | exact (yx8).later b81); have kyx8 := yx8.cells; have cb : Below w20.heap.size w20 w81 := (by first | exact cb.trans (b81.mono cb.size)); have m7 := m7.below b81 (Nat.le_refl _); have m8 := m8.below b81 (Nat.le_refl _))
        | (go_at_call 11; (with_reducible refine (OR.out _).mono ?_); rintro e w82 ⟨v2, rfl, m2, b82⟩; have yx6 : Box w82 (gx6) 28 #[.int .i64 qh, .int .u64 ql] := (by first | exact (yx6).later b82); have kyx6 := yx6.cells; have yx7 : Box w82 (g7) 24 #[.bool t7, .slice A7 n7 c7] := (by first | exact (yx7).later b82); have kyx7 := yx7.cells; have yx8 : Box w82 (g8) 24 #[.bool t8, .slice A8 n8 c8] := (by first | exact (yx8).later b82); have kyx8 := yx8.cells; have cb : Below w20.heap.size w20 w82 := (by first | exact cb.trans (b82.mono cb.size)); have m7 := m7.below b82 (Nat.le_refl _); have m8 := m8.below b82 (Nat.le_refl _))
        | (go_at_call 16; (with_reducible refine (CR.out _ _ _ _ _ m2 m8).mono ?_); rintro e w83 ⟨rfl, b83⟩; have yx6 : Box w83 (gx6) 28 #[.int .i64 qh, .int .u64 ql] := (by first | exact (yx6).later b83); have kyx6 := yx6.cells; have yx7 : Box w83 (g7) 24 #[.bool t7, .slice A7 n7 c7] := (by first | exact (yx7).later b83); have kyx7 := yx7.cells; have yx8 : Box w83 (g8) 24 #[.bool t8, .slice A8 n8 c8] := (by first | exact (yx8).later b83); have kyx8 := yx8.cells; have cb : Below w20.heap.size w20 w83 := (by first | exact cb.trans (b83.mono cb.size)); have m7 := m7.below b83 (Nat.le_refl _); have m8 := m8.below b83 (Nat.le_refl _))
        | (go_at_call 32; (with_reducible refine (AW.out _).mono ?_); rintro e w84 ⟨rfl, b84⟩; have yx6 : Box w84 (gx6) 28 #[.int .i64 qh, .int .u64 ql] := (by first | exact (yx6).later b84); have kyx6 := yx6.cells; have yx7 : Box w84 (g7) 24 #[.bool t7, .slice A7 n7 c7] := (by first | exact (yx7).later b84); have kyx7 := yx7.cells; have yx8 : Box w84 (g8) 24 #[.bool t8, .slice A8 n8 c8] := (by first | exact (yx8).later b84); have kyx8 := yx8.cells; have cb : Below w20.heap.size w20 w84 := (by first | exact cb.trans (b84.mono cb.size)); have m7 := m7.below b84 (Nat.le_refl _); have m8 := m8.below b84 (Nat.le_refl _)))
    go_wp2
    go_ret
    exact ⟨rfl, B7.trans (cb.mono B7.size)⟩
theorem stells_law (z d : Int) (w : World) (hz : W128 z) (d2 : d ≤ 9223372036854775807) :
    Calls Try.prog 7 #[WV z, .int .i64 d] w fun e w' => e = .returned (.bool true) ∧ Below w.heap.size w w' := by
  by_cases h : d < 1
  · exact stells_bad z d w hz d2 h
  · exact stells_good z d w hz d2 (by omega)
end Go.Proofs.Ytcehcbhinlpenaa
