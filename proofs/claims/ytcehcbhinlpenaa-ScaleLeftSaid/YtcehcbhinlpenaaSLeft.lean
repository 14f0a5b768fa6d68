/-
  ScaleLeft: the walk.
-/
import Derived.Test.YtcehcbhinlpenaaSAwake
namespace Go.Proofs.Ytcehcbhinlpenaa
open Go.RowKit

set_option maxRecDepth 100000 in
set_option maxHeartbeats 4000000 in
theorem sleft_bad (z d : Int) (w : World) (hz : W128 z) (d2 : d ≤ 9223372036854775807) (h : d < 1) :
    Calls Try.prog 9 #[WV z, .int .i64 d] w fun e w' => e = .returned (.bool true) ∧ Below w.heap.size w w' := by
  have AW := Lib.hid fun w => sawake_any w
  have QU := Lib.hid fun w => quo_all hz d2 w
  unfold quoI at QU
  rw [if_pos h] at QU
  simp only [WV_out] at QU ⊢
  clear hz
  generalize z / 18446744073709551616 = zh at *
  generalize z % 18446744073709551616 = zl at *
  go_enter Try.func9, Try.ntmps9
  have B0 := Below.refl w.heap.size w
  go_wp2_with fail
  refine (QU.out _).mono ?_
  rintro e w1 ⟨rfl, b1⟩
  have b1 := below_up b1
  have B1 := B0.trans (b1.mono B0.size)
  clear b1 B0
  go_wp2_with fail
  refine (AW.out _).mono ?_
  rintro e w9 ⟨rfl, b9⟩
  have b9 := below_up b9
  have B9 := B1.trans (b9.mono B1.size)
  go_wp2
  go_ret
  exact ⟨rfl, B9⟩

set_option maxRecDepth 100000 in
set_option maxHeartbeats 4000000 in
theorem sleft_good (z d : Int) (w : World) (hz : W128 z) (d2 : d ≤ 9223372036854775807) (d1 : 1 ≤ d) :
    Calls Try.prog 9 #[WV z, .int .i64 d] w fun e w' => e = .returned (.bool true) ∧ Below w.heap.size w w' := by
  have AW := Lib.hid fun w => sawake_any w
  have QU := Lib.hid fun w => quo_any hz d1 d2 w
  have hq := quo_range hz d1
  have r0 := Int.emod_nonneg z (show d ≠ 0 by omega)
  have r1 := Int.emod_lt_of_pos z (show 0 < d by omega)
  have he : z / d * d + z % d = z := by
    have := Int.emod_add_mul_ediv z d
    rw [Int.mul_comm] at this
    omega
  have RQ := Lib.hid fun (w : World) => rofz_any (w := w) hq
  have RZ := Lib.hid fun (w : World) => rofz_any (w := w) hz
  have OD := Lib.hid fun (w : World) => of_any d w (by omega) d2
  have OR := Lib.hid fun (w : World) => of_any (z % d) w (by omega) (by omega)
  have TM := Lib.hid fun (w : World) S S' va vb (ha : BigIs S w va (z / d) 58) (hb : BigIs S' w vb d 19) => times_any ha hb (by omega)
  have PL := Lib.hid fun (w : World) S S' va vb (ha : BigIs S w va (z / d * d) 77) (hb : BigIs S' w vb (z % d) 19) => plus_any ha hb (by omega) (by omega)
  rw [he] at PL
  have CM := Lib.hid fun (w : World) S S' va vb (ha : BigIs S w va z (max 77 19 + 1)) (hb : BigIs S' w vb z 58) => cmp_any ha hb (by omega) (by omega)
  rw [cmpI_eq rfl] at CM
  simp only [WV_out] at QU RQ RZ ⊢
  clear hz hq he
  generalize z % d = r at *
  generalize z / d * d = P at *
  generalize z / d / 18446744073709551616 = qh at *
  generalize z / d % 18446744073709551616 = ql at *
  generalize z / d = q at *
  generalize z / 18446744073709551616 = zh at *
  generalize z % 18446744073709551616 = zl at *
  go_enter Try.func9, Try.ntmps9
  have B0 := Below.refl w.heap.size w
  go_wp2_with fail
  refine (QU.out _).mono ?_
  rintro e w1 ⟨rfl, b1⟩
  have x2 := (Box.new w 28 #[.int .i64 zh, .int .u64 zl]).later b1
  have b1 := below_up b1
  have B1 := B0.trans (b1.mono B0.size)
  clear b1 B0
  go_wp2_with fail
  refine (RQ.out _).mono ?_
  rintro e w2 ⟨v1, rfl, m1, b2⟩
  replace x2 := (x2.alloc _).later b2
  have b2 := below_up b2
  have B2 := B1.trans (b2.mono B1.size)
  clear b2 B1
  obtain ⟨t1, A1, n1, c1, rfl⟩ := m1.form2
  go_wp2_with fail
  refine (OD.out _).mono ?_
  rintro e w3 ⟨v2, rfl, m2, b3⟩
  replace x2 := x2.later b3
  replace m1 := m1.below b3 (Nat.le_refl _)
  have B3 := B2.trans (b3.mono B2.size)
  clear b3 B2
  obtain ⟨t2, A2, n2, c2, rfl⟩ := m2.form2
  go_wp2_with fail
  refine (TM.out _ _ _ _ _ m1 m2).mono ?_
  rintro e w4 ⟨v3, rfl, m3, b4⟩
  replace x2 := x2.later b4
  replace m1 := m1.below b4 (Nat.le_refl _)
  replace m2 := m2.below b4 (Nat.le_refl _)
  have B4 := B3.trans (b4.mono B3.size)
  clear b4 B3
  obtain ⟨t3, A3, n3, c3, rfl⟩ := m3.form2
  clear m1 m2
  go_wp2_with fail
  refine (OR.out _).mono ?_
  rintro e w5 ⟨v4, rfl, m4, b5⟩
  replace x2 := x2.later b5
  replace m3 := m3.below b5 (Nat.le_refl _)
  have B5 := B4.trans (b5.mono B4.size)
  clear b5 B4
  obtain ⟨t4, A4, n4, c4, rfl⟩ := m4.form2
  go_wp2_with fail
  refine (PL.out _ _ _ _ _ m3 m4).mono ?_
  rintro e w6 ⟨v5, rfl, m5, b6⟩
  replace x2 := x2.later b6
  replace m3 := m3.below b6 (Nat.le_refl _)
  replace m4 := m4.below b6 (Nat.le_refl _)
  have B6 := B5.trans (b6.mono B5.size)
  clear b6 B5
  obtain ⟨t5, A5, n5, c5, rfl⟩ := m5.form2
  clear m3 m4
  go_wp2_with fail
  obtain ⟨W8, hW8⟩ : ∃ W, W = w6.alloc (.cells #[.bool t5, .slice A5 n5 c5] 24) := ⟨_, rfl⟩
  have x8 : Box W8 w6.heap.size 24 #[.bool t5, .slice A5 n5 c5] := by rw [hW8]; exact Box.new _ _ _
  replace x2 := x2.alloc (.cells #[.bool t5, .slice A5 n5 c5] 24)
  replace m5 := m5.alloc (.cells #[.bool t5, .slice A5 n5 c5] 24)
  have B7 := B6.alloc B6.size (.cells #[.bool t5, .slice A5 n5 c5] 24)
  rw [← hW8] at x2 m5 B7
  rewrite [← hW8]
  clear hW8 B6
  obtain ⟨gx8, hgx8⟩ : ∃ g, g = w6.heap.size := ⟨_, rfl⟩
  rewrite [← hgx8] at x8 ⊢
  clear hgx8
  have kkx2 := x2.cells
  have kkx8 := x8.cells
  first | go_region_held3 (fun w' => w'.cell? ⟨w.heap.size, 0, none⟩ = some (.int .i64 zh) ∧ w'.cell? ⟨w.heap.size, 1, none⟩ = some (.int .u64 zl) ∧ w'.cell? ⟨gx8, 0, none⟩ = some (.bool t5) ∧ w'.cell? ⟨gx8, 1, none⟩ = some (.slice A5 n5 c5)) (go_keep)
    (first
      | (go_at_call 17; (with_reducible refine (RZ.out _).mono ?_); rintro e w60 ⟨v6, rfl, m6, b60⟩; have yx2 : Box w60 (w.heap.size) 28 #[.int .i64 zh, .int .u64 zl] := (by first | exact (x2).drew.later b60); have kyx2 := yx2.cells; have yx8 : Box w60 (gx8) 24 #[.bool t5, .slice A5 n5 c5] := (by first | exact (x8).drew.later b60); have kyx8 := yx8.cells; have cb : Below W8.heap.size W8 w60 := (by first | exact (below_undrew b60)); have m5 := m5.drew.below b60 (Nat.le_refl _))
      | (go_at_call 16; (with_reducible refine (CM.out _ _ _ _ _ m5 m6).mono ?_); rintro e w61 ⟨rfl, b61⟩; have yx2 : Box w61 (w.heap.size) 28 #[.int .i64 zh, .int .u64 zl] := (by first | exact (yx2).later b61); have kyx2 := yx2.cells; have yx8 : Box w61 (gx8) 24 #[.bool t5, .slice A5 n5 c5] := (by first | exact (yx8).later b61); have kyx8 := yx8.cells; have cb : Below W8.heap.size W8 w61 := (by first | exact cb.trans (b61.mono cb.size)); have m5 := m5.below b61 (Nat.le_refl _))
      | (go_at_call 32; (with_reducible refine (AW.out _).mono ?_); rintro e w62 ⟨rfl, b62⟩; have yx2 : Box w62 (w.heap.size) 28 #[.int .i64 zh, .int .u64 zl] := (by first | exact (yx2).later b62); have kyx2 := yx2.cells; have yx8 : Box w62 (gx8) 24 #[.bool t5, .slice A5 n5 c5] := (by first | exact (yx8).later b62); have kyx8 := yx8.cells; have cb : Below W8.heap.size W8 w62 := (by first | exact cb.trans (b62.mono cb.size)); have m5 := m5.below b62 (Nat.le_refl _)))
  go_wp2
  go_ret
  exact ⟨rfl, B7.trans (cb.mono B7.size)⟩
theorem sleft_law (z d : Int) (w : World) (hz : W128 z) (d2 : d ≤ 9223372036854775807) :
    Calls Try.prog 9 #[WV z, .int .i64 d] w fun e w' => e = .returned (.bool true) ∧ Below w.heap.size w w' := by
  by_cases h : d < 1
  · exact sleft_bad z d w hz d2 h
  · exact sleft_good z d w hz d2 (by omega)
end Go.Proofs.Ytcehcbhinlpenaa
