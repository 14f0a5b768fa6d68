/-
  RatioBack: the walk.
-/
import Derived.Test.YtkjdkhcpeaepoaaDoorRAw
import Derived.Test.YtkjdkhcpeaepoaaDoorRp
import Derived.Test.YtkjdkhcpeaepoaaDoorScP
namespace Go.Proofs.YtkjdkhcpeaepoaaDoor
open Go.RowKit

set_option maxRecDepth 100000 in
set_option maxHeartbeats 2000000 in
theorem rback_no (a b c d x p p' : Int) (w : World) (T : Tb w) (AW : Hid (∀ w, Tb w → Calls Tryd.prog 19 #[] w fun e w' => e = .returned (.bool true) ∧ Below w.heap.size w w')) (T1 : Hid (∀ w, Tb w → Calls Tryd.prog 22 #[.agg #[.int .i64 a, .int .i64 b], .agg #[.int .i64 c, .int .i64 d]] w fun e w' => e = .returned (.tuple #[.agg #[.int .i64 p, .int .i64 p'], .int .i64 11]) ∧ Below w.heap.size w w')) (T2 : Hid (∀ w, Tb w → Calls Tryd.prog 22 #[.agg #[.int .i64 c, .int .i64 d], .agg #[.int .i64 a, .int .i64 b]] w fun e w' => e = .returned (.tuple #[.agg #[.int .i64 p, .int .i64 p'], .int .i64 11]) ∧ Below w.heap.size w w')) (CA : Hid (∀ w, Calls Tryd.prog 11 #[.agg #[.int .i64 a, .int .i64 b]] w fun e w' => e = .returned (.int .i64 11) ∧ Below w.heap.size w w')) (NA : Hid (∀ w, Tb w → Calls Tryd.prog 13 #[.agg #[.int .i64 a, .int .i64 b]] w fun e w' => e = .returned (.agg #[.int .i64 0, .int .i64 0]) ∧ Below w.heap.size w w')) :
    Calls Tryd.prog 6 #[.agg #[.int .i64 a, .int .i64 b], .agg #[.int .i64 c, .int .i64 d], .int .i64 x] w fun e w' => e = .returned (.bool true) ∧ Below w.heap.size w w' := by
  have E0 : ∀ w, (Op.equalIn 10000 23 (.agg #[.int .i64 0, .int .i64 0]) (.agg #[.int .i64 0, .int .i64 0])).run Tryd.prog w = .ok true w := fun w => by rw [req]; simp
  go_enter Tryd.func6, Tryd.ntmps6
  have B0 := Below.refl w.heap.size w
  have EQ : ∀ w, (Op.equalIn 10000 23 (.agg #[.int .i64 p, .int .i64 p']) (.agg #[.int .i64 p, .int .i64 p'])).run Tryd.prog w = .ok true w := fun w => by rw [req]; simp
  go_wp2_with fail
  refine (T1.out _ ((T.alloc _).alloc _)).mono ?_
  rintro e w1 ⟨rfl, b1⟩
  have x3 := ((Box.new w 23 #[.int .i64 a, .int .i64 b]).alloc (.cells #[.int .i64 c, .int .i64 d] 23)).later b1
  have x4 := (Box.new' (w := (w.alloc (.cells #[.int .i64 a, .int .i64 b] 23))) (g := w.heap.size + 1) (t := 23) (cs := #[.int .i64 c, .int .i64 d]) (by simp)).later b1
  replace T := ((T.alloc _).alloc _).below b1 (Nat.le_refl _)
  have b1 := below_up b1
  have b1 := below_up b1
  have B1 := B0.trans (b1.mono B0.size)
  clear b1 B0
  go_upto_region 2 with fail
  obtain ⟨W7, hW7⟩ : ∃ W, W = w1.alloc (.cells #[.int .i64 p, .int .i64 p'] 23) := ⟨_, rfl⟩
  have x7 : Box W7 w1.heap.size 23 #[.int .i64 p, .int .i64 p'] := by rw [hW7]; exact Box.new _ _ _
  replace T := T.alloc (.cells #[.int .i64 p, .int .i64 p'] 23)
  replace x3 := x3.alloc (.cells #[.int .i64 p, .int .i64 p'] 23)
  replace x4 := x4.alloc (.cells #[.int .i64 p, .int .i64 p'] 23)
  have B2 := B1.alloc B1.size (.cells #[.int .i64 p, .int .i64 p'] 23)
  rw [← hW7] at T x3 x4 B2
  rewrite [← hW7]
  clear hW7 B1
  obtain ⟨gx7, hgx7⟩ : ∃ g, g = w1.heap.size := ⟨_, rfl⟩
  rewrite [← hgx7] at x7 ⊢
  clear hgx7
  have k_x3 := x3.cells
  have l_x3 := x3.lt
  have k_x4 := x4.cells
  have l_x4 := x4.lt
  go_wp2_with fail
  refine (T2.out _ T).mono ?_
  rintro e w2 ⟨rfl, b2⟩
  replace T := T.below b2 (Nat.le_refl _)
  replace x3 := x3.later b2
  replace x4 := x4.later b2
  replace x7 := x7.later b2
  have B3 := B2.trans (b2.mono B2.size)
  clear b2 B2
  clear k_x3 l_x3 k_x4 l_x4
  go_upto_region 3 with fail
  obtain ⟨W9, hW9⟩ : ∃ W, W = w2.alloc (.cells #[.int .i64 p, .int .i64 p'] 23) := ⟨_, rfl⟩
  have x9 : Box W9 w2.heap.size 23 #[.int .i64 p, .int .i64 p'] := by rw [hW9]; exact Box.new _ _ _
  replace T := T.alloc (.cells #[.int .i64 p, .int .i64 p'] 23)
  replace x3 := x3.alloc (.cells #[.int .i64 p, .int .i64 p'] 23)
  replace x4 := x4.alloc (.cells #[.int .i64 p, .int .i64 p'] 23)
  replace x7 := x7.alloc (.cells #[.int .i64 p, .int .i64 p'] 23)
  have B4 := B3.alloc B3.size (.cells #[.int .i64 p, .int .i64 p'] 23)
  rw [← hW9] at T x3 x4 x7 B4
  rewrite [← hW9]
  clear hW9 B3
  obtain ⟨gx9, hgx9⟩ : ∃ g, g = w2.heap.size := ⟨_, rfl⟩
  rewrite [← hgx9] at x9 ⊢
  clear hgx9
  have k_x3 := x3.cells
  have l_x3 := x3.lt
  have k_x7 := x7.cells
  have l_x7 := x7.lt
  have k_x9 := x9.cells
  have l_x9 := x9.lt
  go_wp2_with fail
  refine (CA.out _).mono ?_
  rintro e w3 ⟨rfl, b3⟩
  replace T := T.below b3 (Nat.le_refl _)
  replace x3 := x3.later b3
  replace x4 := x4.later b3
  replace x7 := x7.later b3
  replace x9 := x9.later b3
  have B5 := B4.trans (b3.mono B4.size)
  clear b3 B4
  clear k_x3 l_x3 k_x7 l_x7 k_x9 l_x9
  have k_x3 := x3.cells
  have l_x3 := x3.lt
  go_wp2_with fail
  refine (NA.out _ T).mono ?_
  rintro e w4 ⟨rfl, b4⟩
  replace T := T.below b4 (Nat.le_refl _)
  replace x3 := x3.later b4
  replace x4 := x4.later b4
  replace x7 := x7.later b4
  replace x9 := x9.later b4
  have B6 := B5.trans (b4.mono B5.size)
  clear b4 B5
  clear k_x3 l_x3
  go_wp2_with fail
  go_wp2_with fail
  refine (AW.out _ T).mono ?_
  rintro e w5 ⟨rfl, b5⟩
  replace T := T.below b5 (Nat.le_refl _)
  replace x3 := x3.later b5
  replace x4 := x4.later b5
  replace x7 := x7.later b5
  replace x9 := x9.later b5
  have B7 := B6.trans (b5.mono B6.size)
  clear b5 B6
  go_wp2
  go_ret
  exact ⟨rfl, B7⟩

set_option maxRecDepth 100000 in
set_option maxHeartbeats 2000000 in
theorem rback_yes (a b c d x p p' q n n' i i' u v : Int) (w : World) (T : Tb w) (AW : Hid (∀ w, Tb w → Calls Tryd.prog 19 #[] w fun e w' => e = .returned (.bool true) ∧ Below w.heap.size w w')) (T1 : Hid (∀ w, Tb w → Calls Tryd.prog 22 #[.agg #[.int .i64 a, .int .i64 b], .agg #[.int .i64 c, .int .i64 d]] w fun e w' => e = .returned (.tuple #[.agg #[.int .i64 p, .int .i64 p'], .int .i64 q]) ∧ Below w.heap.size w w')) (T2 : Hid (∀ w, Tb w → Calls Tryd.prog 22 #[.agg #[.int .i64 c, .int .i64 d], .agg #[.int .i64 a, .int .i64 b]] w fun e w' => e = .returned (.tuple #[.agg #[.int .i64 p, .int .i64 p'], .int .i64 q]) ∧ Below w.heap.size w w')) (CA : Hid (∀ w, Calls Tryd.prog 11 #[.agg #[.int .i64 a, .int .i64 b]] w fun e w' => e = .returned (.int .i64 0) ∧ Below w.heap.size w w')) (NA : Hid (∀ w, Tb w → Calls Tryd.prog 13 #[.agg #[.int .i64 a, .int .i64 b]] w fun e w' => e = .returned (.agg #[.int .i64 n, .int .i64 n']) ∧ Below w.heap.size w w')) (IA : Hid (∀ w, Tb w → Calls Tryd.prog 20 #[.agg #[.int .i64 a, .int .i64 b]] w fun e w' => e = .returned (.tuple #[.agg #[.int .i64 i, .int .i64 i'], .int .i64 0]) ∧ Below w.heap.size w w')) (T3 : Hid (∀ w, Tb w → Calls Tryd.prog 22 #[.agg #[.int .i64 a, .int .i64 b], .agg #[.int .i64 i, .int .i64 i']] w fun e w' => e = .returned (.tuple #[.agg #[.int .i64 1, .int .i64 1], .int .i64 0]) ∧ Below w.heap.size w w')) (A1 : Hid (∀ w, Calls Tryd.prog 24 #[.int .i64 x, .agg #[.int .i64 a, .int .i64 b]] w fun e w' => e = .returned (.tuple #[.int .i64 u, .int .i64 v]) ∧ Below w.heap.size w w')) (A2 : Hid (∀ w, Calls Tryd.prog 24 #[.int .i64 x, .agg #[.int .i64 n, .int .i64 n']] w fun e w' => e = .returned (.tuple #[.int .i64 u, .int .i64 v]) ∧ Below w.heap.size w w')) (SM : Hid (∀ w, Tb w → Calls Tryd.prog 15 #[.agg #[.int .i64 a, .int .i64 b], .agg #[.int .i64 n, .int .i64 n']] w fun e w' => e = .returned (.bool true) ∧ Below w.heap.size w w')) (NN : Hid (∀ w, Tb w → Calls Tryd.prog 13 #[.agg #[.int .i64 n, .int .i64 n']] w fun e w' => e = .returned (.agg #[.int .i64 n, .int .i64 n']) ∧ Below w.heap.size w w')) :
    Calls Tryd.prog 6 #[.agg #[.int .i64 a, .int .i64 b], .agg #[.int .i64 c, .int .i64 d], .int .i64 x] w fun e w' => e = .returned (.bool true) ∧ Below w.heap.size w w' := by
  have E1 : ∀ w, (Op.equalIn 10000 23 (.agg #[.int .i64 1, .int .i64 1]) (.agg #[.int .i64 1, .int .i64 1])).run Tryd.prog w = .ok true w := fun w => by rw [req]; simp
  have EN : ∀ w, (Op.equalIn 10000 23 (.agg #[.int .i64 n, .int .i64 n']) (.agg #[.int .i64 n, .int .i64 n'])).run Tryd.prog w = .ok true w := fun w => by rw [req]; simp
  go_enter Tryd.func6, Tryd.ntmps6
  have B0 := Below.refl w.heap.size w
  have EQ : ∀ w, (Op.equalIn 10000 23 (.agg #[.int .i64 p, .int .i64 p']) (.agg #[.int .i64 p, .int .i64 p'])).run Tryd.prog w = .ok true w := fun w => by rw [req]; simp
  go_wp2_with fail
  refine (T1.out _ ((T.alloc _).alloc _)).mono ?_
  rintro e w1 ⟨rfl, b1⟩
  have x3 := ((Box.new w 23 #[.int .i64 a, .int .i64 b]).alloc (.cells #[.int .i64 c, .int .i64 d] 23)).later b1
  have x4 := (Box.new' (w := (w.alloc (.cells #[.int .i64 a, .int .i64 b] 23))) (g := w.heap.size + 1) (t := 23) (cs := #[.int .i64 c, .int .i64 d]) (by simp)).later b1
  replace T := ((T.alloc _).alloc _).below b1 (Nat.le_refl _)
  have b1 := below_up b1
  have b1 := below_up b1
  have B1 := B0.trans (b1.mono B0.size)
  clear b1 B0
  go_upto_region 2 with fail
  obtain ⟨W7, hW7⟩ : ∃ W, W = w1.alloc (.cells #[.int .i64 p, .int .i64 p'] 23) := ⟨_, rfl⟩
  have x7 : Box W7 w1.heap.size 23 #[.int .i64 p, .int .i64 p'] := by rw [hW7]; exact Box.new _ _ _
  replace T := T.alloc (.cells #[.int .i64 p, .int .i64 p'] 23)
  replace x3 := x3.alloc (.cells #[.int .i64 p, .int .i64 p'] 23)
  replace x4 := x4.alloc (.cells #[.int .i64 p, .int .i64 p'] 23)
  have B2 := B1.alloc B1.size (.cells #[.int .i64 p, .int .i64 p'] 23)
  rw [← hW7] at T x3 x4 B2
  rewrite [← hW7]
  clear hW7 B1
  obtain ⟨gx7, hgx7⟩ : ∃ g, g = w1.heap.size := ⟨_, rfl⟩
  rewrite [← hgx7] at x7 ⊢
  clear hgx7
  have k_x3 := x3.cells
  have l_x3 := x3.lt
  have k_x4 := x4.cells
  have l_x4 := x4.lt
  go_wp2_with fail
  refine (T2.out _ T).mono ?_
  rintro e w2 ⟨rfl, b2⟩
  replace T := T.below b2 (Nat.le_refl _)
  replace x3 := x3.later b2
  replace x4 := x4.later b2
  replace x7 := x7.later b2
  have B3 := B2.trans (b2.mono B2.size)
  clear b2 B2
  clear k_x3 l_x3 k_x4 l_x4
  go_upto_region 3 with fail
  obtain ⟨W9, hW9⟩ : ∃ W, W = w2.alloc (.cells #[.int .i64 p, .int .i64 p'] 23) := ⟨_, rfl⟩
  have x9 : Box W9 w2.heap.size 23 #[.int .i64 p, .int .i64 p'] := by rw [hW9]; exact Box.new _ _ _
  replace T := T.alloc (.cells #[.int .i64 p, .int .i64 p'] 23)
  replace x3 := x3.alloc (.cells #[.int .i64 p, .int .i64 p'] 23)
  replace x4 := x4.alloc (.cells #[.int .i64 p, .int .i64 p'] 23)
  replace x7 := x7.alloc (.cells #[.int .i64 p, .int .i64 p'] 23)
  have B4 := B3.alloc B3.size (.cells #[.int .i64 p, .int .i64 p'] 23)
  rw [← hW9] at T x3 x4 x7 B4
  rewrite [← hW9]
  clear hW9 B3
  obtain ⟨gx9, hgx9⟩ : ∃ g, g = w2.heap.size := ⟨_, rfl⟩
  rewrite [← hgx9] at x9 ⊢
  clear hgx9
  have k_x3 := x3.cells
  have l_x3 := x3.lt
  have k_x7 := x7.cells
  have l_x7 := x7.lt
  have k_x9 := x9.cells
  have l_x9 := x9.lt
  go_wp2_with fail
  refine (CA.out _).mono ?_
  rintro e w3 ⟨rfl, b3⟩
  replace T := T.below b3 (Nat.le_refl _)
  replace x3 := x3.later b3
  replace x4 := x4.later b3
  replace x7 := x7.later b3
  replace x9 := x9.later b3
  have B5 := B4.trans (b3.mono B4.size)
  clear b3 B4
  clear k_x3 l_x3 k_x7 l_x7 k_x9 l_x9
  clear x4 x7 x9
  have k_x3 := x3.cells
  have l_x3 := x3.lt
  go_wp2_with fail
  refine (NA.out _ T).mono ?_
  rintro e w4 ⟨rfl, b4⟩
  replace T := T.below b4 (Nat.le_refl _)
  replace x3 := x3.later b4
  have B6 := B5.trans (b4.mono B5.size)
  clear b4 B5
  clear k_x3 l_x3
  go_upto_region 8 with fail
  obtain ⟨W11, hW11⟩ : ∃ W, W = w4.alloc (.cells #[.int .i64 n, .int .i64 n'] 23) := ⟨_, rfl⟩
  have x11 : Box W11 w4.heap.size 23 #[.int .i64 n, .int .i64 n'] := by rw [hW11]; exact Box.new _ _ _
  replace T := T.alloc (.cells #[.int .i64 n, .int .i64 n'] 23)
  replace x3 := x3.alloc (.cells #[.int .i64 n, .int .i64 n'] 23)
  have B7 := B6.alloc B6.size (.cells #[.int .i64 n, .int .i64 n'] 23)
  rw [← hW11] at T x3 B7
  rewrite [← hW11]
  clear hW11 B6
  obtain ⟨gx11, hgx11⟩ : ∃ g, g = w4.heap.size := ⟨_, rfl⟩
  rewrite [← hgx11] at x11 ⊢
  clear hgx11
  have k_x3 := x3.cells
  have l_x3 := x3.lt
  go_wp2_with fail
  refine (IA.out _ T).mono ?_
  rintro e w5 ⟨rfl, b5⟩
  replace T := T.below b5 (Nat.le_refl _)
  replace x3 := x3.later b5
  replace x11 := x11.later b5
  have B8 := B7.trans (b5.mono B7.size)
  clear b5 B7
  clear k_x3 l_x3
  go_upto_region 9 with fail
  obtain ⟨W12, hW12⟩ : ∃ W, W = w5.alloc (.cells #[.int .i64 i, .int .i64 i'] 23) := ⟨_, rfl⟩
  have x12 : Box W12 w5.heap.size 23 #[.int .i64 i, .int .i64 i'] := by rw [hW12]; exact Box.new _ _ _
  replace T := T.alloc (.cells #[.int .i64 i, .int .i64 i'] 23)
  replace x3 := x3.alloc (.cells #[.int .i64 i, .int .i64 i'] 23)
  replace x11 := x11.alloc (.cells #[.int .i64 i, .int .i64 i'] 23)
  have B9 := B8.alloc B8.size (.cells #[.int .i64 i, .int .i64 i'] 23)
  rw [← hW12] at T x3 x11 B9
  rewrite [← hW12]
  clear hW12 B8
  obtain ⟨gx12, hgx12⟩ : ∃ g, g = w5.heap.size := ⟨_, rfl⟩
  rewrite [← hgx12] at x12 ⊢
  clear hgx12
  have k_x3 := x3.cells
  have l_x3 := x3.lt
  have k_x12 := x12.cells
  have l_x12 := x12.lt
  go_wp2_with fail
  refine (T3.out _ T).mono ?_
  rintro e w6 ⟨rfl, b6⟩
  replace T := T.below b6 (Nat.le_refl _)
  replace x3 := x3.later b6
  replace x11 := x11.later b6
  replace x12 := x12.later b6
  have B10 := B9.trans (b6.mono B9.size)
  clear b6 B9
  clear k_x3 l_x3 k_x12 l_x12
  go_upto_region 10 with fail
  obtain ⟨W14, hW14⟩ : ∃ W, W = w6.alloc (.cells #[.int .i64 1, .int .i64 1] 23) := ⟨_, rfl⟩
  have x14 : Box W14 w6.heap.size 23 #[.int .i64 1, .int .i64 1] := by rw [hW14]; exact Box.new _ _ _
  replace T := T.alloc (.cells #[.int .i64 1, .int .i64 1] 23)
  replace x3 := x3.alloc (.cells #[.int .i64 1, .int .i64 1] 23)
  replace x11 := x11.alloc (.cells #[.int .i64 1, .int .i64 1] 23)
  replace x12 := x12.alloc (.cells #[.int .i64 1, .int .i64 1] 23)
  have B11 := B10.alloc B10.size (.cells #[.int .i64 1, .int .i64 1] 23)
  rw [← hW14] at T x3 x11 x12 B11
  rewrite [← hW14]
  clear hW14 B10
  obtain ⟨gx14, hgx14⟩ : ∃ g, g = w6.heap.size := ⟨_, rfl⟩
  rewrite [← hgx14] at x14 ⊢
  clear hgx14
  clear x12
  have k_x3 := x3.cells
  have l_x3 := x3.lt
  go_wp2_with fail
  refine (A1.out _).mono ?_
  rintro e w7 ⟨rfl, b7⟩
  replace T := T.below b7 (Nat.le_refl _)
  replace x3 := x3.later b7
  replace x11 := x11.later b7
  replace x14 := x14.later b7
  have B12 := B11.trans (b7.mono B11.size)
  clear b7 B11
  clear k_x3 l_x3
  have k_x11 := x11.cells
  have l_x11 := x11.lt
  go_wp2_with fail
  refine (A2.out _).mono ?_
  rintro e w8 ⟨rfl, b8⟩
  replace T := T.below b8 (Nat.le_refl _)
  replace x3 := x3.later b8
  replace x11 := x11.later b8
  replace x14 := x14.later b8
  have B13 := B12.trans (b8.mono B12.size)
  clear b8 B12
  clear k_x11 l_x11
  go_upto_region 12 with fail
  have kkx3 := x3.cells
  have kkx11 := x11.cells
  have kkx14 := x14.cells
  first | go_region_held3 (fun w' => w'.cell? ⟨w.heap.size, 0, none⟩ = some (.int .i64 a) ∧ w'.cell? ⟨w.heap.size, 1, none⟩ = some (.int .i64 b) ∧ w'.cell? ⟨gx11, 0, none⟩ = some (.int .i64 n) ∧ w'.cell? ⟨gx11, 1, none⟩ = some (.int .i64 n') ∧ w'.cell? ⟨gx14, 0, none⟩ = some (.int .i64 1) ∧ w'.cell? ⟨gx14, 1, none⟩ = some (.int .i64 1)) (go_keep)
    (first
      | (go_at_call 15; (with_reducible refine (SM.out _ T.drew).mono ?_); rintro e w70 ⟨rfl, b70⟩; have yx3 : Box w70 (w.heap.size) 23 #[.int .i64 a, .int .i64 b] := (by first | exact (x3).drew.later b70); have kyx3 := yx3.cells; have yx11 : Box w70 (gx11) 23 #[.int .i64 n, .int .i64 n'] := (by first | exact (x11).drew.later b70); have kyx11 := yx11.cells; have yx14 : Box w70 (gx14) 23 #[.int .i64 1, .int .i64 1] := (by first | exact (x14).drew.later b70); have kyx14 := yx14.cells; have cb : Below w8.heap.size w8 w70 := (by first | exact (below_undrew b70)); have T := T.drew.below b70 (Nat.le_refl _))
      | (go_at_call 13; (with_reducible refine (NN.out _ T).mono ?_); rintro e w71 ⟨rfl, b71⟩; have yx3 : Box w71 (w.heap.size) 23 #[.int .i64 a, .int .i64 b] := (by first | exact (yx3).later b71); have kyx3 := yx3.cells; have yx11 : Box w71 (gx11) 23 #[.int .i64 n, .int .i64 n'] := (by first | exact (yx11).later b71); have kyx11 := yx11.cells; have yx14 : Box w71 (gx14) 23 #[.int .i64 1, .int .i64 1] := (by first | exact (yx14).later b71); have kyx14 := yx14.cells; have cb : Below w8.heap.size w8 w71 := (by first | exact cb.trans (b71.mono cb.size)); have T := T.below b71 (Nat.le_refl _))
      | (go_at_call 19; (with_reducible refine (AW.out _ T).mono ?_); rintro e w72 ⟨rfl, b72⟩; have yx3 : Box w72 (w.heap.size) 23 #[.int .i64 a, .int .i64 b] := (by first | exact (yx3).later b72); have kyx3 := yx3.cells; have yx11 : Box w72 (gx11) 23 #[.int .i64 n, .int .i64 n'] := (by first | exact (yx11).later b72); have kyx11 := yx11.cells; have yx14 : Box w72 (gx14) 23 #[.int .i64 1, .int .i64 1] := (by first | exact (yx14).later b72); have kyx14 := yx14.cells; have cb : Below w8.heap.size w8 w72 := (by first | exact cb.trans (b72.mono cb.size)); have T := T.below b72 (Nat.le_refl _)))
  go_wp2
  go_ret
  exact ⟨rfl, B13.trans (cb.mono B13.size)⟩

theorem lowI_low {n d : Int} (hg : Nat.gcd n.toNat d.toNat = 1) : lowI n d = (n, d) := by
  unfold lowI gcdI
  rw [hg]
  simp
theorem lowI_self {n : Int} (h1 : 1 ≤ n) : lowI n n = (1, 1) := by
  unfold lowI gcdI
  rw [Nat.gcd_self, show ((n.toNat : Nat) : Int) = n by omega, Int.ediv_self (by omega)]
theorem lowI_swap {n d : Int} : lowI d n = ((lowI n d).2, (lowI n d).1) := by
  unfold lowI gcdI
  rw [Nat.gcd_comm]
theorem near_scale {z d g : Int} (h1 : 1 ≤ d) (hg : 1 ≤ g) : nearI (g * z) (g * d) = nearI z d := by
  have hgd : 1 ≤ g * d := by
    have := Int.mul_le_mul hg h1 (by omega) (by omega : (0 : Int) ≤ g)
    omega
  obtain ⟨k1, k2, k3⟩ := near_spec (z := z) h1
  generalize hn : nearI z d = n at *
  have e : ∀ t : Int, g * z - g * d * n = g * (z - d * n) := fun _ => by grind
  have e' := e 0
  have h' : -(g * d) ≤ 2 * (g * z - g * d * n) ∧ 2 * (g * z - g * d * n) ≤ g * d ∧ (2 * (g * z - g * d * n) = g * d ∨ 2 * (g * z - g * d * n) = -(g * d) → n % 2 = 0) := by
    rw [e']
    generalize z - d * n = t at *
    have m1 : g * (-d) ≤ g * (2 * t) := Int.mul_le_mul_of_nonneg_left k1 (by omega)
    have m2 : g * (2 * t) ≤ g * d := Int.mul_le_mul_of_nonneg_left k2 (by omega)
    have m3 : g * (2 * t) = 2 * (g * t) := by grind
    have m4 : g * (-d) = -(g * d) := by grind
    refine ⟨by omega, by omega, fun h => k3 ?_⟩
    rcases h with h | h
    · refine .inl (Int.eq_of_mul_eq_mul_left (show g ≠ 0 by omega) ?_)
      omega
    · refine .inr (Int.eq_of_mul_eq_mul_left (show g ≠ 0 by omega) ?_)
      omega
  have u1 := near_one hgd (Int.le_refl _) (near_spec (z := g * z) hgd) h'
  have u2 := near_one hgd (Int.le_refl _) h' (near_spec (z := g * z) hgd)
  omega
theorem timesI_comm (a b c d : Int) : timesI c d a b = timesI a b c d := by
  have e1 : tmX c d a b = tmY a b c d := rfl
  have e2 : tmY c d a b = tmX a b c d := rfl
  unfold timesI
  rw [e1, e2, Int.mul_comm (tmY a b c d).1, Int.mul_comm (tmY a b c d).2]
  by_cases h : okR a b = true ∧ okR c d = true
  · rw [if_pos h, if_pos ⟨h.2, h.1⟩]
  · rw [if_neg h, if_neg (fun h' => h ⟨h'.2, h'.1⟩)]

theorem rback_law (a b c d x : Int) (w : World) (x1 : -9223372036854775808 ≤ x) (x2 : x ≤ 9223372036854775807) (T : Tb w) :
    Calls Tryd.prog 6 #[.agg #[.int .i64 a, .int .i64 b], .agg #[.int .i64 c, .int .i64 d], .int .i64 x] w fun e w' => e = .returned (.bool true) ∧ Below w.heap.size w w' := by
  have AW := Lib.hid fun (w : World) (T : Tb w) => rawake_any w T
  have T1 := fun (w : World) (T : Tb w) => rtimes_any a b c d w T
  have T2 := fun (w : World) (T : Tb w) => rtimes_any c d a b w T
  rw [timesI_comm a b c d] at T2
  have CA := fun w => check_any a b w
  have NA := fun (w : World) (T : Tb w) => norm_any a b w T
  cases h1 : okR a b
  · have e : timesI a b c d = ((0, 0), 11) := if_neg (by rw [h1]; simp)
    rw [e] at T1 T2
    rw [okR_false h1] at CA
    rw [show normI a b = (0, 0) from if_neg (by rw [h1]; decide)] at NA
    exact rback_no a b c d x 0 0 w T AW (Lib.hid T1) (Lib.hid T2) (Lib.hid CA) (Lib.hid NA)
  · obtain ⟨b1, b2, b3, b4⟩ := (okR_iff a b).1 h1
    obtain ⟨g, g1, ea, eb, p1, q1, c1⟩ := lowI_spec b1 b2
    obtain ⟨o1, o2⟩ := lowI_ok h1
    have hsw := lowI_swap (n := a) (d := b)
    have h1' : okR b a = true := (okR_iff b a).2 ⟨b2, b1, b4, b3⟩
    have hlow : lowI (lowI a b).1 (lowI a b).2 = lowI a b := lowI_low c1
    have hn : normI a b = lowI a b := if_pos h1
    have hnb : normI b a = lowI b a := if_pos h1'
    rw [okR_true h1] at CA
    rw [hn] at NA
    have IA := fun (w : World) (T : Tb w) => inverse_any a b w T
    rw [show invI a b = (lowI b a, 0) from (if_pos h1).trans (by rw [hnb])] at IA
    have T3 := fun (w : World) (T : Tb w) => rtimes_any a b (lowI b a).1 (lowI b a).2 w T
    have A1 := fun w => apply_any x a b w x1 x2
    have A2 := fun w => apply_any x (lowI a b).1 (lowI a b).2 w x1 x2
    have SM := fun (w : World) (T : Tb w) => same_any a b (lowI a b).1 (lowI a b).2 w T
    have NN := fun (w : World) (T : Tb w) => norm_any (lowI a b).1 (lowI a b).2 w T
    have hsame : sameI a b (lowI a b).1 (lowI a b).2 = true := (same_iff h1 o1).2 (by
      generalize lowI a b = X at *
      obtain ⟨p, q⟩ := X
      simp only at ea eb ⊢
      rw [ea, eb]
      grind)
    have hnn : normI (lowI a b).1 (lowI a b).2 = lowI a b := (if_pos o1).trans hlow
    have hev : applyI x a b = applyI x (lowI a b).1 (lowI a b).2 := by
      unfold applyI evenI
      rw [if_pos h1, if_pos o1, if_neg (by omega), if_neg (by omega)]
      have e1 : x * a = g * (x * (lowI a b).1) := by
        conv => lhs; rw [ea]
        grind
      have e2 : nearI (g * (x * (lowI a b).1)) (g * (lowI a b).2) = nearI (x * (lowI a b).1) (lowI a b).2 := near_scale q1 g1
      rw [← e1, ← eb] at e2
      rw [e2]
    have htm : timesI a b (lowI b a).1 (lowI b a).2 = ((1, 1), 0) := by
      have hX : tmX a b (lowI b a).1 (lowI b a).2 = (1, 1) := by
        unfold tmX
        rw [hn, show normI (lowI b a).1 (lowI b a).2 = lowI (lowI b a).1 (lowI b a).2 from if_pos o2, hsw]
        simp only
        rw [lowI_swap (n := (lowI a b).1) (d := (lowI a b).2), hlow]
        simp only
        have oo : okR (lowI a b).1 (lowI a b).1 = true := by
          have := (okR_iff _ _).1 o1
          exact (okR_iff _ _).2 ⟨this.1, this.1, this.2.2.1, this.2.2.1⟩
        rw [show normI (lowI a b).1 (lowI a b).1 = lowI (lowI a b).1 (lowI a b).1 from if_pos oo]
        exact lowI_self p1
      have hY : tmY a b (lowI b a).1 (lowI b a).2 = (1, 1) := by
        unfold tmY
        rw [hn, show normI (lowI b a).1 (lowI b a).2 = lowI (lowI b a).1 (lowI b a).2 from if_pos o2, hsw]
        simp only
        rw [lowI_swap (n := (lowI a b).1) (d := (lowI a b).2), hlow]
        simp only
        have oo : okR (lowI a b).2 (lowI a b).2 = true := by
          have := (okR_iff _ _).1 o1
          exact (okR_iff _ _).2 ⟨this.2.1, this.2.1, this.2.2.2, this.2.2.2⟩
        rw [show normI (lowI a b).2 (lowI a b).2 = lowI (lowI a b).2 (lowI a b).2 from if_pos oo]
        exact lowI_self q1
      unfold timesI
      rw [hX, hY, if_pos ⟨h1, o2⟩, if_pos (by decide)]
      rfl
    rw [htm] at T3
    rw [hev] at A1
    rw [hsame] at SM
    rw [hnn] at NN
    exact rback_yes a b c d x _ _ _ _ _ _ _ _ _ w T AW (Lib.hid T1) (Lib.hid T2) (Lib.hid CA) (Lib.hid NA) (Lib.hid IA) (Lib.hid T3) (Lib.hid A1) (Lib.hid A2) (Lib.hid SM) (Lib.hid NN)
end Go.Proofs.YtkjdkhcpeaepoaaDoor
