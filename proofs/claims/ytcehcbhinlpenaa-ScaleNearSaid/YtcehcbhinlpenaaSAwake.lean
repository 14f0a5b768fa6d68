/-
  The statements' own example of chapter 3, awake, returns true.
-/
import Derived.Test.YtcehcbhinlpenaaRef3
namespace Go.Proofs.Ytcehcbhinlpenaa
open Go.RowKit

set_option maxRecDepth 100000 in
set_option maxHeartbeats 2000000 in
theorem sawake_any (w : World) : Calls Try.prog 32 #[] w fun e w' => e = .returned (.bool true) ∧ Below w.heap.size w w' := by
  have O5 : Hid (∀ w, Calls Try.prog 18 #[.int .i64 (5)] w fun e w' => e = .returned (.agg #[.int .i64 (0), .int .u64 5]) ∧ Below w.heap.size w w') := fun w => wof_any (n := 5) (by omega) (by omega)
  have O7 : Hid (∀ w, Calls Try.prog 18 #[.int .i64 (7)] w fun e w' => e = .returned (.agg #[.int .i64 (0), .int .u64 7]) ∧ Below w.heap.size w w') := fun w => wof_any (n := 7) (by omega) (by omega)
  have Om7 : Hid (∀ w, Calls Try.prog 18 #[.int .i64 (-7)] w fun e w' => e = .returned (.agg #[.int .i64 (-1), .int .u64 18446744073709551609]) ∧ Below w.heap.size w w') := fun w => wof_any (n := -7) (by omega) (by omega)
  have Om4 : Hid (∀ w, Calls Try.prog 18 #[.int .i64 (-4)] w fun e w' => e = .returned (.agg #[.int .i64 (-1), .int .u64 18446744073709551612]) ∧ Below w.heap.size w w') := fun w => wof_any (n := -4) (by omega) (by omega)
  have E5 : Hid (∀ w, Calls Try.prog 30 #[.agg #[.int .i64 (0), .int .u64 5], .int .i64 2] w fun e w' => e = .returned (.tuple #[.int .i64 2, .int .i64 0]) ∧ Below w.heap.size w w') := fun w => by have := even_all (z := 5) (d := 2) ⟨by omega, by omega⟩ (by omega) w; rw [show evenI 5 2 = (2, 0) by decide] at this; exact this
  have E7 : Hid (∀ w, Calls Try.prog 30 #[.agg #[.int .i64 (0), .int .u64 7], .int .i64 2] w fun e w' => e = .returned (.tuple #[.int .i64 4, .int .i64 0]) ∧ Below w.heap.size w w') := fun w => by have := even_all (z := 7) (d := 2) ⟨by omega, by omega⟩ (by omega) w; rw [show evenI 7 2 = (4, 0) by decide] at this; exact this
  have Q7 : Hid (∀ w, Calls Try.prog 29 #[.agg #[.int .i64 (-1), .int .u64 18446744073709551609], .int .i64 2] w fun e w' => e = .returned (.tuple #[.agg #[.int .i64 (-1), .int .u64 18446744073709551612], .int .i64 1, .int .i64 0]) ∧ Below w.heap.size w w') := fun w => by have := quo_any (z := -7) (d := 2) ⟨by omega, by omega⟩ (by omega) (by omega) w; rw [show (-7 : Int) / 2 = -4 by decide, show (-7 : Int) % 2 = 1 by decide] at this; exact this
  have S1 : Hid (∀ w, Calls Try.prog 34 #[.int .i64 10, .int .i64 1, .int .i64 3] w fun e w' => e = .returned (.tuple #[.int .i64 3, .int .i64 0]) ∧ Below w.heap.size w w') := fun w => by have := scale_any (x := 10) (n := 1) (d := 3) (by omega) (by omega) (by omega) (by omega) (by omega) w; rw [show evenI (10 * 1) 3 = (3, 0) by decide] at this; exact this
  have S2 : Hid (∀ w, Calls Try.prog 34 #[.int .i64 1, .int .i64 1, .int .i64 0] w fun e w' => e = .returned (.tuple #[.int .i64 0, .int .i64 2]) ∧ Below w.heap.size w w') := fun w => by have := scale_any (x := 1) (n := 1) (d := 0) (by omega) (by omega) (by omega) (by omega) (by omega) w; rw [show evenI (1 * 1) 0 = (0, 2) by decide] at this; exact this
  have S3 : Hid (∀ w, Calls Try.prog 34 #[.int .i64 9223372036854775807, .int .i64 2, .int .i64 1] w fun e w' => e = .returned (.tuple #[.int .i64 0, .int .i64 10]) ∧ Below w.heap.size w w') := fun w => by have := scale_any (x := 9223372036854775807) (n := 2) (d := 1) (by omega) (by omega) (by omega) (by omega) (by omega) w; rw [show evenI (9223372036854775807 * 2) 1 = (0, 10) by decide] at this; exact this
  have F1 : Hid (∀ w, Calls Try.prog 36 #[.int .i64 (-10), .int .i64 1, .int .i64 3] w fun e w' => e = .returned (.tuple #[.int .i64 (-4), .int .i64 0]) ∧ Below w.heap.size w w') := fun w => by have := floor_any (x := -10) (n := 1) (d := 3) (by omega) (by omega) (by omega) (by omega) (by omega) w; rw [show floorI (-10 * 1) 3 = (-4, 0) by decide] at this; exact this
  have EQ : ∀ w, (Op.equalIn 10000 28 (.agg #[.int .i64 (-1), .int .u64 18446744073709551612]) (.agg #[.int .i64 (-1), .int .u64 18446744073709551612])).run Try.prog w = .ok true w := fun w => by rw [weq _ (.inl rfl)]; simp
  go_enter Try.func32, Try.ntmps32
  have B0 := Below.refl w.heap.size w
  go_wp2_with fail
  refine (O5.out _).mono ?_
  rintro e w1 ⟨rfl, b1⟩
  have B1 := B0.trans (b1.mono B0.size)
  clear b1 B0
  go_wp2_with fail
  refine (E5.out _).mono ?_
  rintro e w2 ⟨rfl, b2⟩
  have B2 := B1.trans (b2.mono B1.size)
  clear b2 B1
  go_wp2_with fail
  refine (O7.out _).mono ?_
  rintro e w3 ⟨rfl, b3⟩
  have B3 := B2.trans (b3.mono B2.size)
  clear b3 B2
  go_wp2_with fail
  refine (E7.out _).mono ?_
  rintro e w4 ⟨rfl, b4⟩
  have B4 := B3.trans (b4.mono B3.size)
  clear b4 B3
  go_wp2_with fail
  refine (Om7.out _).mono ?_
  rintro e w5 ⟨rfl, b5⟩
  have B5 := B4.trans (b5.mono B4.size)
  clear b5 B4
  go_wp2_with fail
  refine (Q7.out _).mono ?_
  rintro e w6 ⟨rfl, b6⟩
  have B6 := B5.trans (b6.mono B5.size)
  clear b6 B5
  go_wp2_with fail
  refine (S1.out _).mono ?_
  rintro e w7 ⟨rfl, b7⟩
  have x5 := (Box.new w6 28 #[.int .i64 (-1), .int .u64 18446744073709551612]).later b7
  have b7 := below_up b7
  have B7 := B6.trans (b7.mono B6.size)
  clear b7 B6
  go_wp2_with fail
  refine (F1.out _).mono ?_
  rintro e w8 ⟨rfl, b8⟩
  replace x5 := x5.later b8
  have B8 := B7.trans (b8.mono B7.size)
  clear b8 B7
  go_wp2_with fail
  refine (S2.out _).mono ?_
  rintro e w9 ⟨rfl, b9⟩
  replace x5 := x5.later b9
  have B9 := B8.trans (b9.mono B8.size)
  clear b9 B8
  go_wp2_with fail
  refine (S3.out _).mono ?_
  rintro e w10 ⟨rfl, b10⟩
  replace x5 := x5.later b10
  have B10 := B9.trans (b10.mono B9.size)
  clear b10 B9
  go_wp2_with fail
  have kkx5 := x5.cells
  first | go_region_held3 (fun w' => w'.cell? ⟨w6.heap.size, 0, none⟩ = some (.int .i64 (-1)) ∧ w'.cell? ⟨w6.heap.size, 1, none⟩ = some (.int .u64 18446744073709551612)) (go_keep)
    (first
      | (go_at_call 18; (with_reducible refine (Om4.out _).mono ?_); rintro e w60 ⟨rfl, b60⟩; have yx5 : Box w60 (w6.heap.size) 28 #[.int .i64 (-1), .int .u64 18446744073709551612] := (by first | exact (x5).drew.later b60); have kyx5 := yx5.cells; have cb : Below w10.heap.size w10 w60 := (by first | exact (below_undrew b60))))
  go_wp2
  go_ret
  exact ⟨rfl, B10.trans (cb.mono B10.size)⟩
end Go.Proofs.Ytcehcbhinlpenaa
