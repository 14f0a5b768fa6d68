/-
  The statements' own example of chapter 2, awake, returns true.
-/
import Derived.Test.YtmchgncbblcodaaWide3
namespace Go.Proofs.Ytmchgncbblcodaa
open Go.RowKit

set_option maxRecDepth 100000 in
set_option maxHeartbeats 4000000 in
theorem wawake_any (w : World) : Calls Try.prog 19 #[] w fun e w' => e = .returned (.bool true) ∧ Below w.heap.size w w' := by
  have O5 : Hid (∀ w, Calls Try.prog 18 #[.int .i64 (5)] w fun e w' => e = .returned (.agg #[.int .i64 (0), .int .u64 5]) ∧ Below w.heap.size w w') := fun w => wof_any (n := 5) (by omega) (by omega)
  have Om7 : Hid (∀ w, Calls Try.prog 18 #[.int .i64 (-7)] w fun e w' => e = .returned (.agg #[.int .i64 (-1), .int .u64 18446744073709551609]) ∧ Below w.heap.size w w') := fun w => wof_any (n := -7) (by omega) (by omega)
  have O1 : Hid (∀ w, Calls Try.prog 18 #[.int .i64 (1)] w fun e w' => e = .returned (.agg #[.int .i64 (0), .int .u64 1]) ∧ Below w.heap.size w w') := fun w => wof_any (n := 1) (by omega) (by omega)
  have O7 : Hid (∀ w, Calls Try.prog 18 #[.int .i64 (7)] w fun e w' => e = .returned (.agg #[.int .i64 (0), .int .u64 7]) ∧ Below w.heap.size w w') := fun w => wof_any (n := 7) (by omega) (by omega)
  have Om3 : Hid (∀ w, Calls Try.prog 18 #[.int .i64 (-3)] w fun e w' => e = .returned (.agg #[.int .i64 (-1), .int .u64 18446744073709551613]) ∧ Below w.heap.size w w') := fun w => wof_any (n := -3) (by omega) (by omega)
  have Om9 : Hid (∀ w, Calls Try.prog 18 #[.int .i64 (-9)] w fun e w' => e = .returned (.agg #[.int .i64 (-1), .int .u64 18446744073709551607]) ∧ Below w.heap.size w w') := fun w => wof_any (n := -9) (by omega) (by omega)
  have Om1 : Hid (∀ w, Calls Try.prog 18 #[.int .i64 (-1)] w fun e w' => e = .returned (.agg #[.int .i64 (-1), .int .u64 18446744073709551615]) ∧ Below w.heap.size w w') := fun w => wof_any (n := -1) (by omega) (by omega)
  have Om2 : Hid (∀ w, Calls Try.prog 18 #[.int .i64 (-2)] w fun e w' => e = .returned (.agg #[.int .i64 (-1), .int .u64 18446744073709551614]) ∧ Below w.heap.size w w') := fun w => wof_any (n := -2) (by omega) (by omega)
  have O3 : Hid (∀ w, Calls Try.prog 18 #[.int .i64 (3)] w fun e w' => e = .returned (.agg #[.int .i64 (0), .int .u64 3]) ∧ Below w.heap.size w w') := fun w => wof_any (n := 3) (by omega) (by omega)
  have A1 : Hid (∀ w, Calls Try.prog 20 #[.agg #[.int .i64 (0), .int .u64 5], .agg #[.int .i64 (-1), .int .u64 18446744073709551609]] w fun e w' => e = .returned (.tuple #[.agg #[.int .i64 (-1), .int .u64 18446744073709551614], .int .i64 0]) ∧ Below w.heap.size w w') := fun w => by have := wadd_any (x := 5) (y := -7) (w := w) ⟨by omega, by omega⟩ ⟨by omega, by omega⟩; rw [show (5 : Int) + (-7) = -2 by omega, toldW_in (by omega) (by omega)] at this; exact this
  have A2 : Hid (∀ w, Calls Try.prog 20 #[.agg #[.int .i64 (9223372036854775807), .int .u64 18446744073709551615], .agg #[.int .i64 (0), .int .u64 1]] w fun e w' => e = .returned (.tuple #[.agg #[.int .i64 (0), .int .u64 0], .int .i64 10]) ∧ Below w.heap.size w w') := fun w => by have := wadd_any (x := 170141183460469231731687303715884105727) (y := 1) (w := w) ⟨by omega, by omega⟩ ⟨by omega, by omega⟩; rw [show (170141183460469231731687303715884105727 : Int) + 1 = 170141183460469231731687303715884105728 by omega, toldW_out (by omega)] at this; exact this
  have S1 : Hid (∀ w, Calls Try.prog 21 #[.agg #[.int .i64 (0), .int .u64 5], .agg #[.int .i64 (0), .int .u64 7]] w fun e w' => e = .returned (.tuple #[.agg #[.int .i64 (-1), .int .u64 18446744073709551614], .int .i64 0]) ∧ Below w.heap.size w w') := fun w => by have := wsub_any (x := 5) (y := 7) (w := w) ⟨by omega, by omega⟩ ⟨by omega, by omega⟩; rw [show (5 : Int) - 7 = -2 by omega, toldW_in (by omega) (by omega)] at this; exact this
  have N1 : Hid (∀ w, Calls Try.prog 22 #[.agg #[.int .i64 (-1), .int .u64 18446744073709551613]] w fun e w' => e = .returned (.tuple #[.agg #[.int .i64 (0), .int .u64 3], .int .i64 0]) ∧ Below w.heap.size w w') := fun w => by have := wneg_any (z := -3) (w := w) ⟨by omega, by omega⟩; rw [show -(-3 : Int) = 3 by omega, toldW_in (by omega) (by omega)] at this; exact this
  have I1 : Hid (∀ w, Calls Try.prog 13 #[.agg #[.int .i64 (-1), .int .u64 18446744073709551607]] w fun e w' => e = .returned (.tuple #[.int .i64 (-9), .int .i64 0]) ∧ Below w.heap.size w w') := fun w => by have := wint_any (z := -9) (w := w) ⟨by omega, by omega⟩; rw [toldI_in (by omega) (by omega)] at this; exact this
  have I2 : Hid (∀ w, Calls Try.prog 13 #[.agg #[.int .i64 (1), .int .u64 0]] w fun e w' => e = .returned (.tuple #[.int .i64 (0), .int .i64 10]) ∧ Below w.heap.size w w') := fun w => by have := wint_any (z := 18446744073709551616) (w := w) ⟨by omega, by omega⟩; rw [toldI_out (by omega)] at this; exact this
  have M1 : Hid (∀ w, Calls Try.prog 12 #[.int .i64 4611686018427387904, .int .i64 4] w fun e w' => e = .returned (.agg #[.int .i64 (1), .int .u64 0]) ∧ Below w.heap.size w w') := fun w => by have := wmul_any (a := 4611686018427387904) (b := 4) (w := w) (by omega) (by omega) (by omega) (by omega); rw [show (4611686018427387904 : Int) * 4 = 18446744073709551616 by omega] at this; exact this
  have C1 : Hid (∀ w, Calls Try.prog 27 #[.agg #[.int .i64 (0), .int .u64 1], .agg #[.int .i64 (9223372036854775807), .int .u64 18446744073709551615]] w fun e w' => e = .returned (.int .i64 (-1)) ∧ Below w.heap.size w w') := fun w => by have := wcmp_any (x := 1) (y := 170141183460469231731687303715884105727) (w := w); rw [cmpI_lt (by omega)] at this; exact this
  have G1 : Hid (∀ w, Calls Try.prog 28 #[.agg #[.int .i64 (-1), .int .u64 18446744073709551615]] w fun e w' => e = .returned (.int .i64 (-1)) ∧ Below w.heap.size w w') := fun w => by have := wsign_any (x := -1) (w := w); rw [cmpI_lt (by omega)] at this; exact this
  have G2 : Hid (∀ w, Calls Try.prog 28 #[.agg #[.int .i64 (9223372036854775807), .int .u64 18446744073709551615]] w fun e w' => e = .returned (.int .i64 1) ∧ Below w.heap.size w w') := fun w => by have := wsign_any (x := 170141183460469231731687303715884105727) (w := w); rw [cmpI_gt (by omega)] at this; exact this
  have E0 : ∀ w, (Op.equalIn 10000 28 (.agg #[.int .i64 (1), .int .u64 0]) (.agg #[.int .i64 (1), .int .u64 0])).run Try.prog w = .ok true w := fun w => by rw [weq _ (.inl rfl)]; simp
  have E1 : ∀ w, (Op.equalIn 10000 28 (.agg #[.int .i64 (-1), .int .u64 18446744073709551615]) (.agg #[.int .i64 (-1), .int .u64 18446744073709551615])).run Try.prog w = .ok true w := fun w => by rw [weq _ (.inl rfl)]; simp
  have E2 : ∀ w, (Op.equalIn 10000 28 (.agg #[.int .i64 (-1), .int .u64 18446744073709551614]) (.agg #[.int .i64 (-1), .int .u64 18446744073709551614])).run Try.prog w = .ok true w := fun w => by rw [weq _ (.inl rfl)]; simp
  have E3 : ∀ w, (Op.equalIn 10000 28 (.agg #[.int .i64 (0), .int .u64 3]) (.agg #[.int .i64 (0), .int .u64 3])).run Try.prog w = .ok true w := fun w => by rw [weq _ (.inl rfl)]; simp
  go_enter Try.func19, Try.ntmps19
  have B0 := Below.refl w.heap.size w
  go_wp2_with fail
  refine (O5.out _).mono ?_
  rintro e w1 ⟨rfl, b1⟩
  have x1 := (Box.new w 28 #[.int .i64 (9223372036854775807), .int .u64 18446744073709551615]).later b1
  have b1 := below_up b1
  have B1 := B0.trans (b1.mono B0.size)
  clear b1 B0
  go_wp2_with fail
  refine (Om7.out _).mono ?_
  rintro e w2 ⟨rfl, b2⟩
  replace x1 := x1.later b2
  have B2 := B1.trans (b2.mono B1.size)
  clear b2 B1
  go_wp2_with fail
  refine (A1.out _).mono ?_
  rintro e w3 ⟨rfl, b3⟩
  replace x1 := x1.later b3
  have B3 := B2.trans (b3.mono B2.size)
  clear b3 B2
  go_wp2
  obtain ⟨W3, hW3⟩ : ∃ W3, W3 = w3.alloc (.cells #[.int .i64 (-1), .int .u64 18446744073709551614] 28) := ⟨_, rfl⟩
  have x2 : Box W3 w3.heap.size 28 #[.int .i64 (-1), .int .u64 18446744073709551614] := by rw [hW3]; exact Box.new _ _ _
  replace x1 : Box W3 w.heap.size 28 #[.int .i64 (9223372036854775807), .int .u64 18446744073709551615] := by rw [hW3]; exact x1.alloc _
  replace B3 : Below w.heap.size w W3 := by rw [hW3]; exact B3.alloc B3.size _
  rewrite [← hW3]
  clear hW3
  obtain ⟨g2, hg2⟩ : ∃ g, g = w3.heap.size := ⟨_, rfl⟩
  rewrite [← hg2] at x2 ⊢
  clear hg2
  have k1 := x1.cells
  have l1 := x1.lt
  go_cut [4, 5] from 21 to 26 (fun s4 s5 wx => s5 = .int .i64 10 ∧ Below W3.heap.size W3 wx)
  case first =>
    have kkx1 := x1.cells
    have nex1 := Nat.ne_of_gt x1.lt
    go_region_held3 (fun w' => w'.cell? ⟨w.heap.size, 0, none⟩ = some (.int .i64 9223372036854775807) ∧ w'.cell? ⟨w.heap.size, 1, none⟩ = some (.int .u64 18446744073709551615)) (go_keep)
      (first
        | (go_at_call 18; (with_reducible refine (O1.out _).mono ?_); rintro e w60 ⟨rfl, b60⟩; have yx1 : Box w60 (w.heap.size) 28 #[.int .i64 9223372036854775807, .int .u64 18446744073709551615] := (by first | exact (x1).drew.later b60 | exact (x1.alloc _).drew.later b60); have kyx1 := yx1.cells; have nex10 := Nat.ne_of_gt yx1.lt; have cb : Below W3.heap.size W3 w60 := (by first | exact (below_undrew b60) | exact (below_up (below_undrew b60))); (first | (have z1 := z1.later b60; have kz1 := z1.cells; have fz1 := z1.free) | (have z1 := (Box.new W3 28 #[.int .i64 0, .int .u64 0]).drew.later b60; have kz1 := z1.cells; have fz1 := z1.free) | skip))
        | (go_at_call 20; (with_reducible refine (A2.out _).mono ?_); rintro e w61 ⟨rfl, b61⟩; have yx1 : Box w61 (w.heap.size) 28 #[.int .i64 9223372036854775807, .int .u64 18446744073709551615] := (by first | exact (yx1).later b61 | exact (yx1.alloc _).later b61); have kyx1 := yx1.cells; have nex11 := Nat.ne_of_gt yx1.lt; have cb : Below W3.heap.size W3 w61 := (by first | exact cb.trans (b61.mono cb.size) | exact cb.trans ((below_up b61).mono cb.size)); (first | (have z1 := z1.later b61; have kz1 := z1.cells; have fz1 := z1.free) | (have z1 := (Box.new w60 28 #[.int .i64 0, .int .u64 0]).later b61; have kz1 := z1.cells; have fz1 := z1.free) | skip)))
    all_goals (go_wp2_with fail; go_meet)
    all_goals first
      | exact ⟨rfl, cb.alloc cb.size _⟩
      | exact ⟨rfl, (cb.setCell (Nat.le_refl _) _).setCell (Nat.le_refl _) _⟩
      | exact ⟨rfl, (cb.setCell (below_undrew b60).size _).setCell (below_undrew b60).size _⟩
  case rest =>
    obtain ⟨rfl, bc⟩ := hcut
    replace x1 := x1.later bc
    replace x2 := x2.later bc
    have B4 := B3.trans (bc.mono B3.size)
    clear bc B3 k1 l1
    go_wp2_with fail
    refine (O5.out _).mono ?_
    rintro e w11 ⟨rfl, b11⟩
    replace x1 := x1.later b11
    replace x2 := x2.later b11
    have B5 := B4.trans (b11.mono B4.size)
    clear b11 B4
    go_wp2_with fail
    refine (O7.out _).mono ?_
    rintro e w12 ⟨rfl, b12⟩
    replace x1 := x1.later b12
    replace x2 := x2.later b12
    have B6 := B5.trans (b12.mono B5.size)
    clear b12 B5
    go_wp2_with fail
    refine (S1.out _).mono ?_
    rintro e w13 ⟨rfl, b13⟩
    replace x1 := x1.later b13
    replace x2 := x2.later b13
    have B7 := B6.trans (b13.mono B6.size)
    clear b13 B6
    go_wp2_with fail
    refine (Om3.out _).mono ?_
    rintro e w14 ⟨rfl, b14⟩
    have x3 := (Box.new w13 28 #[.int .i64 (-1), .int .u64 18446744073709551614]).later b14
    replace x1 := (x1.alloc _).later b14
    replace x2 := (x2.alloc _).later b14
    have b14 := below_up b14
    have B8 := B7.trans (b14.mono B7.size)
    clear b14 B7
    go_wp2_with fail
    refine (N1.out _).mono ?_
    rintro e w15 ⟨rfl, b15⟩
    replace x1 := x1.later b15
    replace x2 := x2.later b15
    replace x3 := x3.later b15
    have B9 := B8.trans (b15.mono B8.size)
    clear b15 B8
    go_wp2_with fail
    refine (Om9.out _).mono ?_
    rintro e w16 ⟨rfl, b16⟩
    have x4 := (Box.new w15 28 #[.int .i64 (0), .int .u64 3]).later b16
    replace x1 := (x1.alloc _).later b16
    replace x2 := (x2.alloc _).later b16
    replace x3 := (x3.alloc _).later b16
    have b16 := below_up b16
    have B10 := B9.trans (b16.mono B9.size)
    clear b16 B9
    go_wp2_with fail
    refine (I1.out _).mono ?_
    rintro e w17 ⟨rfl, b17⟩
    replace x1 := x1.later b17
    replace x2 := x2.later b17
    replace x3 := x3.later b17
    replace x4 := x4.later b17
    have B11 := B10.trans (b17.mono B10.size)
    clear b17 B10
    go_wp2_with fail
    refine (I2.out _).mono ?_
    rintro e w18 ⟨rfl, b18⟩
    replace x1 := x1.later b18
    replace x2 := x2.later b18
    replace x3 := x3.later b18
    replace x4 := x4.later b18
    have B12 := B11.trans (b18.mono B11.size)
    clear b18 B11
    go_wp2_with fail
    simp only [List.append]
    have kkx1 := x1.cells
    have kkx2 := x2.cells
    have kkx3 := x3.cells
    have kkx4 := x4.cells
    go_region_held3 (fun w' => w'.cell? ⟨w.heap.size, 0, none⟩ = some (.int .i64 (9223372036854775807)) ∧ w'.cell? ⟨w.heap.size, 1, none⟩ = some (.int .u64 18446744073709551615) ∧ w'.cell? ⟨g2, 0, none⟩ = some (.int .i64 (-1)) ∧ w'.cell? ⟨g2, 1, none⟩ = some (.int .u64 18446744073709551614) ∧ w'.cell? ⟨w13.heap.size, 0, none⟩ = some (.int .i64 (-1)) ∧ w'.cell? ⟨w13.heap.size, 1, none⟩ = some (.int .u64 18446744073709551614) ∧ w'.cell? ⟨w15.heap.size, 0, none⟩ = some (.int .i64 (0)) ∧ w'.cell? ⟨w15.heap.size, 1, none⟩ = some (.int .u64 3)) (go_keep)
      (first
        | (go_at_call 12; (with_reducible refine (M1.out _).mono ?_); rintro e w60 ⟨rfl, b60⟩; have yx1 : Box w60 (w.heap.size) 28 #[.int .i64 (9223372036854775807), .int .u64 18446744073709551615] := (by first | exact (x1).drew.later b60); have kyx1 := yx1.cells; have yx2 : Box w60 (g2) 28 #[.int .i64 (-1), .int .u64 18446744073709551614] := (by first | exact (x2).drew.later b60); have kyx2 := yx2.cells; have yx3 : Box w60 (w13.heap.size) 28 #[.int .i64 (-1), .int .u64 18446744073709551614] := (by first | exact (x3).drew.later b60); have kyx3 := yx3.cells; have yx4 : Box w60 (w15.heap.size) 28 #[.int .i64 (0), .int .u64 3] := (by first | exact (x4).drew.later b60); have kyx4 := yx4.cells; have cb : Below w18.heap.size w18 w60 := (by first | exact (below_undrew b60)))
        | (go_at_call 18; (with_reducible refine (Om1.out _).mono ?_); rintro e w61 ⟨rfl, b61⟩; have yx1 : Box w61 (w.heap.size) 28 #[.int .i64 (9223372036854775807), .int .u64 18446744073709551615] := (by first | exact (yx1).later b61); have kyx1 := yx1.cells; have yx2 : Box w61 (g2) 28 #[.int .i64 (-1), .int .u64 18446744073709551614] := (by first | exact (yx2).later b61); have kyx2 := yx2.cells; have yx3 : Box w61 (w13.heap.size) 28 #[.int .i64 (-1), .int .u64 18446744073709551614] := (by first | exact (yx3).later b61); have kyx3 := yx3.cells; have yx4 : Box w61 (w15.heap.size) 28 #[.int .i64 (0), .int .u64 3] := (by first | exact (yx4).later b61); have kyx4 := yx4.cells; have cb : Below w18.heap.size w18 w61 := (by first | exact cb.trans (b61.mono cb.size)))
        | (go_at_call 18; (with_reducible refine (Om2.out _).mono ?_); rintro e w62 ⟨rfl, b62⟩; have yx1 : Box w62 (w.heap.size) 28 #[.int .i64 (9223372036854775807), .int .u64 18446744073709551615] := (by first | exact (yx1).later b62); have kyx1 := yx1.cells; have yx2 : Box w62 (g2) 28 #[.int .i64 (-1), .int .u64 18446744073709551614] := (by first | exact (yx2).later b62); have kyx2 := yx2.cells; have yx3 : Box w62 (w13.heap.size) 28 #[.int .i64 (-1), .int .u64 18446744073709551614] := (by first | exact (yx3).later b62); have kyx3 := yx3.cells; have yx4 : Box w62 (w15.heap.size) 28 #[.int .i64 (0), .int .u64 3] := (by first | exact (yx4).later b62); have kyx4 := yx4.cells; have cb : Below w18.heap.size w18 w62 := (by first | exact cb.trans (b62.mono cb.size)))
        | (go_at_call 18; (with_reducible refine (O3.out _).mono ?_); rintro e w63 ⟨rfl, b63⟩; have yx1 : Box w63 (w.heap.size) 28 #[.int .i64 (9223372036854775807), .int .u64 18446744073709551615] := (by first | exact (yx1).later b63); have kyx1 := yx1.cells; have yx2 : Box w63 (g2) 28 #[.int .i64 (-1), .int .u64 18446744073709551614] := (by first | exact (yx2).later b63); have kyx2 := yx2.cells; have yx3 : Box w63 (w13.heap.size) 28 #[.int .i64 (-1), .int .u64 18446744073709551614] := (by first | exact (yx3).later b63); have kyx3 := yx3.cells; have yx4 : Box w63 (w15.heap.size) 28 #[.int .i64 (0), .int .u64 3] := (by first | exact (yx4).later b63); have kyx4 := yx4.cells; have cb : Below w18.heap.size w18 w63 := (by first | exact cb.trans (b63.mono cb.size)))
        | (go_at_call 18; (with_reducible refine (O1.out _).mono ?_); rintro e w64 ⟨rfl, b64⟩; have yx1 : Box w64 (w.heap.size) 28 #[.int .i64 (9223372036854775807), .int .u64 18446744073709551615] := (by first | exact (yx1).later b64); have kyx1 := yx1.cells; have yx2 : Box w64 (g2) 28 #[.int .i64 (-1), .int .u64 18446744073709551614] := (by first | exact (yx2).later b64); have kyx2 := yx2.cells; have yx3 : Box w64 (w13.heap.size) 28 #[.int .i64 (-1), .int .u64 18446744073709551614] := (by first | exact (yx3).later b64); have kyx3 := yx3.cells; have yx4 : Box w64 (w15.heap.size) 28 #[.int .i64 (0), .int .u64 3] := (by first | exact (yx4).later b64); have kyx4 := yx4.cells; have cb : Below w18.heap.size w18 w64 := (by first | exact cb.trans (b64.mono cb.size)))
        | (go_at_call 27; (with_reducible refine (C1.out _).mono ?_); rintro e w65 ⟨rfl, b65⟩; have yx1 : Box w65 (w.heap.size) 28 #[.int .i64 (9223372036854775807), .int .u64 18446744073709551615] := (by first | exact (yx1).later b65); have kyx1 := yx1.cells; have yx2 : Box w65 (g2) 28 #[.int .i64 (-1), .int .u64 18446744073709551614] := (by first | exact (yx2).later b65); have kyx2 := yx2.cells; have yx3 : Box w65 (w13.heap.size) 28 #[.int .i64 (-1), .int .u64 18446744073709551614] := (by first | exact (yx3).later b65); have kyx3 := yx3.cells; have yx4 : Box w65 (w15.heap.size) 28 #[.int .i64 (0), .int .u64 3] := (by first | exact (yx4).later b65); have kyx4 := yx4.cells; have cb : Below w18.heap.size w18 w65 := (by first | exact cb.trans (b65.mono cb.size)))
        | (go_at_call 28; (with_reducible refine (G1.out _).mono ?_); rintro e w66 ⟨rfl, b66⟩; have yx1 : Box w66 (w.heap.size) 28 #[.int .i64 (9223372036854775807), .int .u64 18446744073709551615] := (by first | exact (yx1).later b66); have kyx1 := yx1.cells; have yx2 : Box w66 (g2) 28 #[.int .i64 (-1), .int .u64 18446744073709551614] := (by first | exact (yx2).later b66); have kyx2 := yx2.cells; have yx3 : Box w66 (w13.heap.size) 28 #[.int .i64 (-1), .int .u64 18446744073709551614] := (by first | exact (yx3).later b66); have kyx3 := yx3.cells; have yx4 : Box w66 (w15.heap.size) 28 #[.int .i64 (0), .int .u64 3] := (by first | exact (yx4).later b66); have kyx4 := yx4.cells; have cb : Below w18.heap.size w18 w66 := (by first | exact cb.trans (b66.mono cb.size)))
        | (go_at_call 28; (with_reducible refine (G2.out _).mono ?_); rintro e w67 ⟨rfl, b67⟩; have yx1 : Box w67 (w.heap.size) 28 #[.int .i64 (9223372036854775807), .int .u64 18446744073709551615] := (by first | exact (yx1).later b67); have kyx1 := yx1.cells; have yx2 : Box w67 (g2) 28 #[.int .i64 (-1), .int .u64 18446744073709551614] := (by first | exact (yx2).later b67); have kyx2 := yx2.cells; have yx3 : Box w67 (w13.heap.size) 28 #[.int .i64 (-1), .int .u64 18446744073709551614] := (by first | exact (yx3).later b67); have kyx3 := yx3.cells; have yx4 : Box w67 (w15.heap.size) 28 #[.int .i64 (0), .int .u64 3] := (by first | exact (yx4).later b67); have kyx4 := yx4.cells; have cb : Below w18.heap.size w18 w67 := (by first | exact cb.trans (b67.mono cb.size))))
    go_wp2
    go_ret
    exact ⟨rfl, B12.trans (cb.mono B12.size)⟩
end Go.Proofs.Ytmchgncbblcodaa
