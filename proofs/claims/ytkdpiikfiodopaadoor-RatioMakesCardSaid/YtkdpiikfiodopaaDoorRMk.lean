/-
  RatioMakes: the walk.
-/
import Derived.Test.YtkdpiikfiodopaaDoorRg
namespace Go.Proofs.YtkdpiikfiodopaaDoor
open Go.RowKit

set_option maxRecDepth 100000 in
set_option maxHeartbeats 4000000 in
theorem rmakes_walk (a b c d x i i' ie t t' te p pe : Int) (w : World) (T : Tb w) (AW : Hid (∀ w, Tb w → Calls Tryd.prog 15 #[] w fun e w' => e = .returned (.bool true) ∧ Below w.heap.size w w')) (I1 : Hid (∀ w, Tb w → Calls Tryd.prog 9 #[.agg #[.int .i64 a, .int .i64 b]] w fun e w' => e = .returned (.tuple #[.agg #[.int .i64 i, .int .i64 i'], .int .i64 ie]) ∧ Below w.heap.size w w')) (I2 : Hid (∀ w, Calls Tryd.prog 10 #[.agg #[.int .i64 a, .int .i64 b]] w fun e w' => e = .returned (.tuple #[.agg #[.int .i64 i, .int .i64 i'], .int .i64 ie]) ∧ Below w.heap.size w w')) (T1 : Hid (∀ w, Tb w → Calls Tryd.prog 11 #[.agg #[.int .i64 a, .int .i64 b], .agg #[.int .i64 c, .int .i64 d]] w fun e w' => e = .returned (.tuple #[.agg #[.int .i64 t, .int .i64 t'], .int .i64 te]) ∧ Below w.heap.size w w')) (T2 : Hid (∀ w, Calls Tryd.prog 12 #[.agg #[.int .i64 a, .int .i64 b], .agg #[.int .i64 c, .int .i64 d]] w fun e w' => e = .returned (.tuple #[.agg #[.int .i64 t, .int .i64 t'], .int .i64 te]) ∧ Below w.heap.size w w')) (P1 : Hid (∀ w, Calls Tryd.prog 13 #[.int .i64 x, .agg #[.int .i64 a, .int .i64 b]] w fun e w' => e = .returned (.tuple #[.int .i64 p, .int .i64 pe]) ∧ Below w.heap.size w w')) (P2 : Hid (∀ w, Calls Tryd.prog 14 #[.int .i64 x, .agg #[.int .i64 a, .int .i64 b]] w fun e w' => e = .returned (.tuple #[.int .i64 p, .int .i64 pe]) ∧ Below w.heap.size w w')) :
    Calls Tryd.prog 3 #[.agg #[.int .i64 a, .int .i64 b], .agg #[.int .i64 c, .int .i64 d], .int .i64 x] w fun e w' => e = .returned (.bool true) ∧ Below w.heap.size w w' := by
  have EQ : ∀ w, (Op.equalIn 10000 23 (.agg #[.int .i64 i, .int .i64 i']) (.agg #[.int .i64 i, .int .i64 i'])).run Tryd.prog w = .ok true w := fun w => by rw [req]; simp
  have EQ2 : ∀ w, (Op.equalIn 10000 23 (.agg #[.int .i64 t, .int .i64 t']) (.agg #[.int .i64 t, .int .i64 t'])).run Tryd.prog w = .ok true w := fun w => by rw [req]; simp
  go_enter Tryd.func3, Tryd.ntmps3
  have B0 := Below.refl w.heap.size w
  go_wp2_with fail
  refine (I1.out _ ((T.alloc _).alloc _)).mono ?_
  rintro e w1 ⟨rfl, b1⟩
  have x3 := ((Box.new w 23 #[.int .i64 a, .int .i64 b]).alloc (.cells #[.int .i64 c, .int .i64 d] 23)).later b1
  have x4 := (Box.new' (w := (w.alloc (.cells #[.int .i64 a, .int .i64 b] 23))) (g := w.heap.size + 1) (t := 23) (cs := #[.int .i64 c, .int .i64 d]) (by simp)).later b1
  replace T := ((T.alloc _).alloc _).below b1 (Nat.le_refl _)
  have b1 := below_up b1
  have b1 := below_up b1
  have B1 := B0.trans (b1.mono B0.size)
  clear b1 B0
  have k_x3 := x3.cells
  have l_x3 := x3.lt
  have f_x3 := x3.free
  go_wp2_with fail
  refine (I2.out _).mono ?_
  rintro e w2 ⟨rfl, b2⟩
  have x7 := (Box.new w1 23 #[.int .i64 i, .int .i64 i']).later b2
  replace T := (T.alloc _).below b2 (Nat.le_refl _)
  replace x3 := (x3.alloc _).later b2
  replace x4 := (x4.alloc _).later b2
  have b2 := below_up b2
  have B2 := B1.trans (b2.mono B1.size)
  clear b2 B1
  clear k_x3 l_x3 f_x3
  have k_x3 := x3.cells
  have l_x3 := x3.lt
  have f_x3 := x3.free
  have k_x4 := x4.cells
  have l_x4 := x4.lt
  have f_x4 := x4.free
  go_wp2_with fail
  refine (T1.out _ (T.alloc _)).mono ?_
  rintro e w3 ⟨rfl, b3⟩
  have x9 := (Box.new w2 23 #[.int .i64 i, .int .i64 i']).later b3
  replace T := (T.alloc _).below b3 (Nat.le_refl _)
  replace x3 := (x3.alloc _).later b3
  replace x4 := (x4.alloc _).later b3
  replace x7 := (x7.alloc _).later b3
  have b3 := below_up b3
  have B3 := B2.trans (b3.mono B2.size)
  clear b3 B2
  clear k_x3 l_x3 f_x3 k_x4 l_x4 f_x4
  have k_x3 := x3.cells
  have l_x3 := x3.lt
  have f_x3 := x3.free
  have k_x4 := x4.cells
  have l_x4 := x4.lt
  have f_x4 := x4.free
  go_wp2_with fail
  refine (T2.out _).mono ?_
  rintro e w4 ⟨rfl, b4⟩
  have x11 := (Box.new w3 23 #[.int .i64 t, .int .i64 t']).later b4
  replace T := (T.alloc _).below b4 (Nat.le_refl _)
  replace x3 := (x3.alloc _).later b4
  replace x4 := (x4.alloc _).later b4
  replace x7 := (x7.alloc _).later b4
  replace x9 := (x9.alloc _).later b4
  have b4 := below_up b4
  have B4 := B3.trans (b4.mono B3.size)
  clear b4 B3
  clear k_x3 l_x3 f_x3 k_x4 l_x4 f_x4
  have k_x3 := x3.cells
  have l_x3 := x3.lt
  have f_x3 := x3.free
  go_wp2_with fail
  refine (P1.out _).mono ?_
  rintro e w5 ⟨rfl, b5⟩
  have x13 := (Box.new w4 23 #[.int .i64 t, .int .i64 t']).later b5
  replace T := (T.alloc _).below b5 (Nat.le_refl _)
  replace x3 := (x3.alloc _).later b5
  replace x4 := (x4.alloc _).later b5
  replace x7 := (x7.alloc _).later b5
  replace x9 := (x9.alloc _).later b5
  replace x11 := (x11.alloc _).later b5
  have b5 := below_up b5
  have B5 := B4.trans (b5.mono B4.size)
  clear b5 B4
  clear k_x3 l_x3 f_x3
  have k_x3 := x3.cells
  have l_x3 := x3.lt
  have f_x3 := x3.free
  go_wp2_with fail
  refine (P2.out _).mono ?_
  rintro e w6 ⟨rfl, b6⟩
  replace T := T.below b6 (Nat.le_refl _)
  replace x3 := x3.later b6
  replace x4 := x4.later b6
  replace x7 := x7.later b6
  replace x9 := x9.later b6
  replace x11 := x11.later b6
  replace x13 := x13.later b6
  have B6 := B5.trans (b6.mono B5.size)
  clear b6 B5
  clear k_x3 l_x3 f_x3
  clear x3 x4
  have k_x7 := x7.cells
  have l_x7 := x7.lt
  have f_x7 := x7.free
  have k_x9 := x9.cells
  have l_x9 := x9.lt
  have f_x9 := x9.free
  have k_x11 := x11.cells
  have l_x11 := x11.lt
  have f_x11 := x11.free
  have k_x13 := x13.cells
  have l_x13 := x13.lt
  have f_x13 := x13.free
  go_wp2_with fail
  refine (AW.out _ T).mono ?_
  rintro e w7 ⟨rfl, b7⟩
  replace T := T.below b7 (Nat.le_refl _)
  replace x7 := x7.later b7
  replace x9 := x9.later b7
  replace x11 := x11.later b7
  replace x13 := x13.later b7
  have B7 := B6.trans (b7.mono B6.size)
  clear b7 B6
  go_wp2
  go_ret
  exact ⟨rfl, B7⟩

theorem rmakes_law (a b c d x : Int) (w : World) (x1 : -9223372036854775808 ≤ x) (x2 : x ≤ 9223372036854775807) (T : Tb w) :
    Calls Tryd.prog 3 #[.agg #[.int .i64 a, .int .i64 b], .agg #[.int .i64 c, .int .i64 d], .int .i64 x] w fun e w' => e = .returned (.bool true) ∧ Below w.heap.size w w' :=
  rmakes_walk a b c d x _ _ _ _ _ _ _ _ w T (Lib.hid fun w T => rawake_any w T) (Lib.hid fun w T => inverse_any a b w T) (Lib.hid fun w => r4inverse_any a b w) (Lib.hid fun w T => rtimes_any a b c d w T) (Lib.hid fun w => r4times_any a b c d w) (Lib.hid fun w => apply_any x a b w x1 x2) (Lib.hid fun w => r4apply_any x a b w x1 x2)
end Go.Proofs.YtkdpiikfiodopaaDoor
