/-
  RatioOrders: the walk.
-/
import Derived.Test.YtkjdkhcpeaepoaaDoorRAw
import Derived.Test.YtkjdkhcpeaepoaaDoorRp
namespace Go.Proofs.YtkjdkhcpeaepoaaDoor
open Go.RowKit

set_option maxRecDepth 100000 in
set_option maxHeartbeats 2000000 in
theorem rorders_no1 (a b c d e f : Int) (w : World) (T : Tb w) (AW : Hid (∀ w, Tb w → Calls Tryd.prog 19 #[] w fun e w' => e = .returned (.bool true) ∧ Below w.heap.size w w')) (L1 : Hid (∀ w, Calls Tryd.prog 17 #[.agg #[.int .i64 a, .int .i64 b], .agg #[.int .i64 c, .int .i64 d]] w fun e w' => e = .returned (.bool false) ∧ Below w.heap.size w w')) (L2 : Hid (∀ w, Calls Tryd.prog 17 #[.agg #[.int .i64 c, .int .i64 d], .agg #[.int .i64 a, .int .i64 b]] w fun e w' => e = .returned (.bool false) ∧ Below w.heap.size w w')) (S1 : Hid (∀ w, Tb w → Calls Tryd.prog 15 #[.agg #[.int .i64 a, .int .i64 b], .agg #[.int .i64 c, .int .i64 d]] w fun e w' => e = .returned (.bool false) ∧ Below w.heap.size w w')) (CA : Hid (∀ w, Calls Tryd.prog 11 #[.agg #[.int .i64 a, .int .i64 b]] w fun e w' => e = .returned (.int .i64 11) ∧ Below w.heap.size w w')) :
    Calls Tryd.prog 5 #[.agg #[.int .i64 a, .int .i64 b], .agg #[.int .i64 c, .int .i64 d], .agg #[.int .i64 e, .int .i64 f]] w fun e w' => e = .returned (.bool true) ∧ Below w.heap.size w w' := by
  go_enter Tryd.func5, Tryd.ntmps5
  have B0 := Below.refl w.heap.size w
  go_wp2_with fail
  refine (L1.out _).mono ?_
  rintro e w1 ⟨rfl, b1⟩
  have x3 := (((Box.new w 23 #[.int .i64 a, .int .i64 b]).alloc (.cells #[.int .i64 c, .int .i64 d] 23)).alloc (.cells #[.int .i64 e, .int .i64 f] 23)).later b1
  have x4 := ((Box.new' (w := (w.alloc (.cells #[.int .i64 a, .int .i64 b] 23))) (g := w.heap.size + 1) (t := 23) (cs := #[.int .i64 c, .int .i64 d]) (by simp)).alloc (.cells #[.int .i64 e, .int .i64 f] 23)).later b1
  have x5 := (Box.new' (w := ((w.alloc (.cells #[.int .i64 a, .int .i64 b] 23)).alloc (.cells #[.int .i64 c, .int .i64 d] 23))) (g := w.heap.size + 2) (t := 23) (cs := #[.int .i64 e, .int .i64 f]) (by simp)).later b1
  replace T := (((T.alloc _).alloc _).alloc _).below b1 (Nat.le_refl _)
  have b1 := below_up b1
  have b1 := below_up b1
  have b1 := below_up b1
  have B1 := B0.trans (b1.mono B0.size)
  clear b1 B0
  have k_x3 := x3.cells
  have l_x3 := x3.lt
  have k_x4 := x4.cells
  have l_x4 := x4.lt
  go_wp2_with fail
  refine (L2.out _).mono ?_
  rintro e w2 ⟨rfl, b2⟩
  replace T := T.below b2 (Nat.le_refl _)
  replace x3 := x3.later b2
  replace x4 := x4.later b2
  replace x5 := x5.later b2
  have B2 := B1.trans (b2.mono B1.size)
  clear b2 B1
  clear k_x3 l_x3 k_x4 l_x4
  have k_x3 := x3.cells
  have l_x3 := x3.lt
  have k_x4 := x4.cells
  have l_x4 := x4.lt
  go_wp2_with fail
  refine (S1.out _ T).mono ?_
  rintro e w3 ⟨rfl, b3⟩
  replace T := T.below b3 (Nat.le_refl _)
  replace x3 := x3.later b3
  replace x4 := x4.later b3
  replace x5 := x5.later b3
  have B3 := B2.trans (b3.mono B2.size)
  clear b3 B2
  clear k_x3 l_x3 k_x4 l_x4
  have k_x3 := x3.cells
  have l_x3 := x3.lt
  go_wp2_with fail
  refine (CA.out _).mono ?_
  rintro e w4 ⟨rfl, b4⟩
  replace T := T.below b4 (Nat.le_refl _)
  replace x3 := x3.later b4
  replace x4 := x4.later b4
  replace x5 := x5.later b4
  have B4 := B3.trans (b4.mono B3.size)
  clear b4 B3
  clear k_x3 l_x3
  go_wp2_with fail
  go_wp2_with fail
  refine (AW.out _ T).mono ?_
  rintro e w5 ⟨rfl, b5⟩
  replace T := T.below b5 (Nat.le_refl _)
  replace x3 := x3.later b5
  replace x4 := x4.later b5
  replace x5 := x5.later b5
  have B5 := B4.trans (b5.mono B4.size)
  clear b5 B4
  go_wp2
  go_ret
  exact ⟨rfl, B5⟩

set_option maxRecDepth 100000 in
set_option maxHeartbeats 2000000 in
theorem rorders_no2 (a b c d e f : Int) (w : World) (T : Tb w) (AW : Hid (∀ w, Tb w → Calls Tryd.prog 19 #[] w fun e w' => e = .returned (.bool true) ∧ Below w.heap.size w w')) (L1 : Hid (∀ w, Calls Tryd.prog 17 #[.agg #[.int .i64 a, .int .i64 b], .agg #[.int .i64 c, .int .i64 d]] w fun e w' => e = .returned (.bool false) ∧ Below w.heap.size w w')) (L2 : Hid (∀ w, Calls Tryd.prog 17 #[.agg #[.int .i64 c, .int .i64 d], .agg #[.int .i64 a, .int .i64 b]] w fun e w' => e = .returned (.bool false) ∧ Below w.heap.size w w')) (S1 : Hid (∀ w, Tb w → Calls Tryd.prog 15 #[.agg #[.int .i64 a, .int .i64 b], .agg #[.int .i64 c, .int .i64 d]] w fun e w' => e = .returned (.bool false) ∧ Below w.heap.size w w')) (CA : Hid (∀ w, Calls Tryd.prog 11 #[.agg #[.int .i64 a, .int .i64 b]] w fun e w' => e = .returned (.int .i64 0) ∧ Below w.heap.size w w')) (CB : Hid (∀ w, Calls Tryd.prog 11 #[.agg #[.int .i64 c, .int .i64 d]] w fun e w' => e = .returned (.int .i64 11) ∧ Below w.heap.size w w')) :
    Calls Tryd.prog 5 #[.agg #[.int .i64 a, .int .i64 b], .agg #[.int .i64 c, .int .i64 d], .agg #[.int .i64 e, .int .i64 f]] w fun e w' => e = .returned (.bool true) ∧ Below w.heap.size w w' := by
  go_enter Tryd.func5, Tryd.ntmps5
  have B0 := Below.refl w.heap.size w
  go_wp2_with fail
  refine (L1.out _).mono ?_
  rintro e w1 ⟨rfl, b1⟩
  have x3 := (((Box.new w 23 #[.int .i64 a, .int .i64 b]).alloc (.cells #[.int .i64 c, .int .i64 d] 23)).alloc (.cells #[.int .i64 e, .int .i64 f] 23)).later b1
  have x4 := ((Box.new' (w := (w.alloc (.cells #[.int .i64 a, .int .i64 b] 23))) (g := w.heap.size + 1) (t := 23) (cs := #[.int .i64 c, .int .i64 d]) (by simp)).alloc (.cells #[.int .i64 e, .int .i64 f] 23)).later b1
  have x5 := (Box.new' (w := ((w.alloc (.cells #[.int .i64 a, .int .i64 b] 23)).alloc (.cells #[.int .i64 c, .int .i64 d] 23))) (g := w.heap.size + 2) (t := 23) (cs := #[.int .i64 e, .int .i64 f]) (by simp)).later b1
  replace T := (((T.alloc _).alloc _).alloc _).below b1 (Nat.le_refl _)
  have b1 := below_up b1
  have b1 := below_up b1
  have b1 := below_up b1
  have B1 := B0.trans (b1.mono B0.size)
  clear b1 B0
  have k_x3 := x3.cells
  have l_x3 := x3.lt
  have k_x4 := x4.cells
  have l_x4 := x4.lt
  go_wp2_with fail
  refine (L2.out _).mono ?_
  rintro e w2 ⟨rfl, b2⟩
  replace T := T.below b2 (Nat.le_refl _)
  replace x3 := x3.later b2
  replace x4 := x4.later b2
  replace x5 := x5.later b2
  have B2 := B1.trans (b2.mono B1.size)
  clear b2 B1
  clear k_x3 l_x3 k_x4 l_x4
  have k_x3 := x3.cells
  have l_x3 := x3.lt
  have k_x4 := x4.cells
  have l_x4 := x4.lt
  go_wp2_with fail
  refine (S1.out _ T).mono ?_
  rintro e w3 ⟨rfl, b3⟩
  replace T := T.below b3 (Nat.le_refl _)
  replace x3 := x3.later b3
  replace x4 := x4.later b3
  replace x5 := x5.later b3
  have B3 := B2.trans (b3.mono B2.size)
  clear b3 B2
  clear k_x3 l_x3 k_x4 l_x4
  have k_x3 := x3.cells
  have l_x3 := x3.lt
  go_wp2_with fail
  refine (CA.out _).mono ?_
  rintro e w4 ⟨rfl, b4⟩
  replace T := T.below b4 (Nat.le_refl _)
  replace x3 := x3.later b4
  replace x4 := x4.later b4
  replace x5 := x5.later b4
  have B4 := B3.trans (b4.mono B3.size)
  clear b4 B3
  clear k_x3 l_x3
  have k_x4 := x4.cells
  have l_x4 := x4.lt
  go_wp2_with fail
  refine (CB.out _).mono ?_
  rintro e w5 ⟨rfl, b5⟩
  replace T := T.below b5 (Nat.le_refl _)
  replace x3 := x3.later b5
  replace x4 := x4.later b5
  replace x5 := x5.later b5
  have B5 := B4.trans (b5.mono B4.size)
  clear b5 B4
  clear k_x4 l_x4
  go_wp2_with fail
  go_wp2_with fail
  refine (AW.out _ T).mono ?_
  rintro e w6 ⟨rfl, b6⟩
  replace T := T.below b6 (Nat.le_refl _)
  replace x3 := x3.later b6
  replace x4 := x4.later b6
  replace x5 := x5.later b6
  have B6 := B5.trans (b6.mono B5.size)
  clear b6 B5
  go_wp2
  go_ret
  exact ⟨rfl, B6⟩

set_option maxRecDepth 100000 in
set_option maxHeartbeats 2000000 in
theorem rorders_lt1 (a b c d e f x x' y y' : Int) (w : World) (T : Tb w) (AW : Hid (∀ w, Tb w → Calls Tryd.prog 19 #[] w fun e w' => e = .returned (.bool true) ∧ Below w.heap.size w w')) (L1 : Hid (∀ w, Calls Tryd.prog 17 #[.agg #[.int .i64 a, .int .i64 b], .agg #[.int .i64 c, .int .i64 d]] w fun e w' => e = .returned (.bool true) ∧ Below w.heap.size w w')) (L2 : Hid (∀ w, Calls Tryd.prog 17 #[.agg #[.int .i64 c, .int .i64 d], .agg #[.int .i64 a, .int .i64 b]] w fun e w' => e = .returned (.bool false) ∧ Below w.heap.size w w')) (S1 : Hid (∀ w, Tb w → Calls Tryd.prog 15 #[.agg #[.int .i64 a, .int .i64 b], .agg #[.int .i64 c, .int .i64 d]] w fun e w' => e = .returned (.bool false) ∧ Below w.heap.size w w')) (CA : Hid (∀ w, Calls Tryd.prog 11 #[.agg #[.int .i64 a, .int .i64 b]] w fun e w' => e = .returned (.int .i64 0) ∧ Below w.heap.size w w')) (CB : Hid (∀ w, Calls Tryd.prog 11 #[.agg #[.int .i64 c, .int .i64 d]] w fun e w' => e = .returned (.int .i64 0) ∧ Below w.heap.size w w')) (IA : Hid (∀ w, Tb w → Calls Tryd.prog 20 #[.agg #[.int .i64 a, .int .i64 b]] w fun e w' => e = .returned (.tuple #[.agg #[.int .i64 x, .int .i64 x'], .int .i64 0]) ∧ Below w.heap.size w w')) (IB : Hid (∀ w, Tb w → Calls Tryd.prog 20 #[.agg #[.int .i64 c, .int .i64 d]] w fun e w' => e = .returned (.tuple #[.agg #[.int .i64 y, .int .i64 y'], .int .i64 0]) ∧ Below w.heap.size w w')) (LYX : Hid (∀ w, Calls Tryd.prog 17 #[.agg #[.int .i64 y, .int .i64 y'], .agg #[.int .i64 x, .int .i64 x']] w fun e w' => e = .returned (.bool true) ∧ Below w.heap.size w w')) (SXY : Hid (∀ w, Tb w → Calls Tryd.prog 15 #[.agg #[.int .i64 x, .int .i64 x'], .agg #[.int .i64 y, .int .i64 y']] w fun e w' => e = .returned (.bool false) ∧ Below w.heap.size w w')) (LBC : Hid (∀ w, Calls Tryd.prog 17 #[.agg #[.int .i64 c, .int .i64 d], .agg #[.int .i64 e, .int .i64 f]] w fun e w' => e = .returned (.bool false) ∧ Below w.heap.size w w')) :
    Calls Tryd.prog 5 #[.agg #[.int .i64 a, .int .i64 b], .agg #[.int .i64 c, .int .i64 d], .agg #[.int .i64 e, .int .i64 f]] w fun e w' => e = .returned (.bool true) ∧ Below w.heap.size w w' := by
  go_enter Tryd.func5, Tryd.ntmps5
  have B0 := Below.refl w.heap.size w
  go_wp2_with fail
  refine (L1.out _).mono ?_
  rintro e w1 ⟨rfl, b1⟩
  have x3 := (((Box.new w 23 #[.int .i64 a, .int .i64 b]).alloc (.cells #[.int .i64 c, .int .i64 d] 23)).alloc (.cells #[.int .i64 e, .int .i64 f] 23)).later b1
  have x4 := ((Box.new' (w := (w.alloc (.cells #[.int .i64 a, .int .i64 b] 23))) (g := w.heap.size + 1) (t := 23) (cs := #[.int .i64 c, .int .i64 d]) (by simp)).alloc (.cells #[.int .i64 e, .int .i64 f] 23)).later b1
  have x5 := (Box.new' (w := ((w.alloc (.cells #[.int .i64 a, .int .i64 b] 23)).alloc (.cells #[.int .i64 c, .int .i64 d] 23))) (g := w.heap.size + 2) (t := 23) (cs := #[.int .i64 e, .int .i64 f]) (by simp)).later b1
  replace T := (((T.alloc _).alloc _).alloc _).below b1 (Nat.le_refl _)
  have b1 := below_up b1
  have b1 := below_up b1
  have b1 := below_up b1
  have B1 := B0.trans (b1.mono B0.size)
  clear b1 B0
  have k_x3 := x3.cells
  have l_x3 := x3.lt
  have k_x4 := x4.cells
  have l_x4 := x4.lt
  go_wp2_with fail
  refine (L2.out _).mono ?_
  rintro e w2 ⟨rfl, b2⟩
  replace T := T.below b2 (Nat.le_refl _)
  replace x3 := x3.later b2
  replace x4 := x4.later b2
  replace x5 := x5.later b2
  have B2 := B1.trans (b2.mono B1.size)
  clear b2 B1
  clear k_x3 l_x3 k_x4 l_x4
  have k_x3 := x3.cells
  have l_x3 := x3.lt
  have k_x4 := x4.cells
  have l_x4 := x4.lt
  go_wp2_with fail
  refine (S1.out _ T).mono ?_
  rintro e w3 ⟨rfl, b3⟩
  replace T := T.below b3 (Nat.le_refl _)
  replace x3 := x3.later b3
  replace x4 := x4.later b3
  replace x5 := x5.later b3
  have B3 := B2.trans (b3.mono B2.size)
  clear b3 B2
  clear k_x3 l_x3 k_x4 l_x4
  have k_x3 := x3.cells
  have l_x3 := x3.lt
  go_wp2_with fail
  refine (CA.out _).mono ?_
  rintro e w4 ⟨rfl, b4⟩
  replace T := T.below b4 (Nat.le_refl _)
  replace x3 := x3.later b4
  replace x4 := x4.later b4
  replace x5 := x5.later b4
  have B4 := B3.trans (b4.mono B3.size)
  clear b4 B3
  clear k_x3 l_x3
  have k_x4 := x4.cells
  have l_x4 := x4.lt
  go_wp2_with fail
  refine (CB.out _).mono ?_
  rintro e w5 ⟨rfl, b5⟩
  replace T := T.below b5 (Nat.le_refl _)
  replace x3 := x3.later b5
  replace x4 := x4.later b5
  replace x5 := x5.later b5
  have B5 := B4.trans (b5.mono B4.size)
  clear b5 B4
  clear k_x4 l_x4
  have k_x3 := x3.cells
  have l_x3 := x3.lt
  go_wp2_with fail
  refine (IA.out _ T).mono ?_
  rintro e w6 ⟨rfl, b6⟩
  replace T := T.below b6 (Nat.le_refl _)
  replace x3 := x3.later b6
  replace x4 := x4.later b6
  replace x5 := x5.later b6
  have B6 := B5.trans (b6.mono B5.size)
  clear b6 B5
  clear k_x3 l_x3
  have k_x4 := x4.cells
  have l_x4 := x4.lt
  go_upto_region 11 with fail
  clear k_x4 l_x4
  obtain ⟨W8, hW8⟩ : ∃ W, W = w6.alloc (.cells #[.int .i64 x, .int .i64 x'] 23) := ⟨_, rfl⟩
  have x8 : Box W8 w6.heap.size 23 #[.int .i64 x, .int .i64 x'] := by rw [hW8]; exact Box.new _ _ _
  replace T := T.alloc (.cells #[.int .i64 x, .int .i64 x'] 23)
  replace x3 := x3.alloc (.cells #[.int .i64 x, .int .i64 x'] 23)
  replace x4 := x4.alloc (.cells #[.int .i64 x, .int .i64 x'] 23)
  replace x5 := x5.alloc (.cells #[.int .i64 x, .int .i64 x'] 23)
  have B7 := B6.alloc B6.size (.cells #[.int .i64 x, .int .i64 x'] 23)
  rw [← hW8] at T x3 x4 x5 B7
  rewrite [← hW8]
  clear hW8 B6
  obtain ⟨gx8, hgx8⟩ : ∃ g, g = w6.heap.size := ⟨_, rfl⟩
  rewrite [← hgx8] at x8 ⊢
  clear hgx8
  have k_x4 := x4.cells
  have l_x4 := x4.lt
  go_wp2_with fail
  refine (IB.out _ T).mono ?_
  rintro e w7 ⟨rfl, b7⟩
  replace T := T.below b7 (Nat.le_refl _)
  replace x3 := x3.later b7
  replace x4 := x4.later b7
  replace x5 := x5.later b7
  replace x8 := x8.later b7
  have B8 := B7.trans (b7.mono B7.size)
  clear b7 B7
  clear k_x4 l_x4
  go_upto_region 12 with fail
  obtain ⟨W10, hW10⟩ : ∃ W, W = w7.alloc (.cells #[.int .i64 y, .int .i64 y'] 23) := ⟨_, rfl⟩
  have x10 : Box W10 w7.heap.size 23 #[.int .i64 y, .int .i64 y'] := by rw [hW10]; exact Box.new _ _ _
  replace T := T.alloc (.cells #[.int .i64 y, .int .i64 y'] 23)
  replace x3 := x3.alloc (.cells #[.int .i64 y, .int .i64 y'] 23)
  replace x4 := x4.alloc (.cells #[.int .i64 y, .int .i64 y'] 23)
  replace x5 := x5.alloc (.cells #[.int .i64 y, .int .i64 y'] 23)
  replace x8 := x8.alloc (.cells #[.int .i64 y, .int .i64 y'] 23)
  have B9 := B8.alloc B8.size (.cells #[.int .i64 y, .int .i64 y'] 23)
  rw [← hW10] at T x3 x4 x5 x8 B9
  rewrite [← hW10]
  clear hW10 B8
  obtain ⟨gx10, hgx10⟩ : ∃ g, g = w7.heap.size := ⟨_, rfl⟩
  rewrite [← hgx10] at x10 ⊢
  clear hgx10
  have kkx3 := x3.cells
  have kkx4 := x4.cells
  have kkx8 := x8.cells
  have kkx10 := x10.cells
  first | go_region_held3 (fun w' => w'.cell? ⟨w.heap.size, 0, none⟩ = some (.int .i64 a) ∧ w'.cell? ⟨w.heap.size, 1, none⟩ = some (.int .i64 b) ∧ w'.cell? ⟨w.heap.size + 1, 0, none⟩ = some (.int .i64 c) ∧ w'.cell? ⟨w.heap.size + 1, 1, none⟩ = some (.int .i64 d) ∧ w'.cell? ⟨gx8, 0, none⟩ = some (.int .i64 x) ∧ w'.cell? ⟨gx8, 1, none⟩ = some (.int .i64 x') ∧ w'.cell? ⟨gx10, 0, none⟩ = some (.int .i64 y) ∧ w'.cell? ⟨gx10, 1, none⟩ = some (.int .i64 y')) (go_keep)
    (first
      | (go_at_call 17; (with_reducible refine (L1.out _).mono ?_); rintro e w70 ⟨rfl, b70⟩; have yx3 : Box w70 (w.heap.size) 23 #[.int .i64 a, .int .i64 b] := (by first | exact (x3).drew.later b70); have kyx3 := yx3.cells; have yx4 : Box w70 (w.heap.size + 1) 23 #[.int .i64 c, .int .i64 d] := (by first | exact (x4).drew.later b70); have kyx4 := yx4.cells; have yx8 : Box w70 (gx8) 23 #[.int .i64 x, .int .i64 x'] := (by first | exact (x8).drew.later b70); have kyx8 := yx8.cells; have yx10 : Box w70 (gx10) 23 #[.int .i64 y, .int .i64 y'] := (by first | exact (x10).drew.later b70); have kyx10 := yx10.cells; have cb : Below W10.heap.size W10 w70 := (by first | exact (below_undrew b70)); have T := T.drew.below b70 (Nat.le_refl _))
      | (go_at_call 17; (with_reducible refine (LYX.out _).mono ?_); rintro e w71 ⟨rfl, b71⟩; have yx3 : Box w71 (w.heap.size) 23 #[.int .i64 a, .int .i64 b] := (by first | exact (yx3).later b71); have kyx3 := yx3.cells; have yx4 : Box w71 (w.heap.size + 1) 23 #[.int .i64 c, .int .i64 d] := (by first | exact (yx4).later b71); have kyx4 := yx4.cells; have yx8 : Box w71 (gx8) 23 #[.int .i64 x, .int .i64 x'] := (by first | exact (yx8).later b71); have kyx8 := yx8.cells; have yx10 : Box w71 (gx10) 23 #[.int .i64 y, .int .i64 y'] := (by first | exact (yx10).later b71); have kyx10 := yx10.cells; have cb : Below W10.heap.size W10 w71 := (by first | exact cb.trans (b71.mono cb.size)); have T := T.below b71 (Nat.le_refl _))
      | (go_at_call 15; (with_reducible refine (S1.out _ T).mono ?_); rintro e w72 ⟨rfl, b72⟩; have yx3 : Box w72 (w.heap.size) 23 #[.int .i64 a, .int .i64 b] := (by first | exact (yx3).later b72); have kyx3 := yx3.cells; have yx4 : Box w72 (w.heap.size + 1) 23 #[.int .i64 c, .int .i64 d] := (by first | exact (yx4).later b72); have kyx4 := yx4.cells; have yx8 : Box w72 (gx8) 23 #[.int .i64 x, .int .i64 x'] := (by first | exact (yx8).later b72); have kyx8 := yx8.cells; have yx10 : Box w72 (gx10) 23 #[.int .i64 y, .int .i64 y'] := (by first | exact (yx10).later b72); have kyx10 := yx10.cells; have cb : Below W10.heap.size W10 w72 := (by first | exact cb.trans (b72.mono cb.size)); have T := T.below b72 (Nat.le_refl _))
      | (go_at_call 15; (with_reducible refine (SXY.out _ T).mono ?_); rintro e w73 ⟨rfl, b73⟩; have yx3 : Box w73 (w.heap.size) 23 #[.int .i64 a, .int .i64 b] := (by first | exact (yx3).later b73); have kyx3 := yx3.cells; have yx4 : Box w73 (w.heap.size + 1) 23 #[.int .i64 c, .int .i64 d] := (by first | exact (yx4).later b73); have kyx4 := yx4.cells; have yx8 : Box w73 (gx8) 23 #[.int .i64 x, .int .i64 x'] := (by first | exact (yx8).later b73); have kyx8 := yx8.cells; have yx10 : Box w73 (gx10) 23 #[.int .i64 y, .int .i64 y'] := (by first | exact (yx10).later b73); have kyx10 := yx10.cells; have cb : Below W10.heap.size W10 w73 := (by first | exact cb.trans (b73.mono cb.size)); have T := T.below b73 (Nat.le_refl _)))
  have B50 := B9.trans (cb.mono B9.size)
  replace x5 := x5.later cb
  replace x3 := yx3
  replace x4 := yx4
  have k_x3 := x3.cells
  have l_x3 := x3.lt
  have k_x4 := x4.cells
  have l_x4 := x4.lt
  go_wp2_with fail
  refine (L1.out _).mono ?_
  rintro e w51 ⟨rfl, b51⟩
  replace x3 := x3.later b51
  replace x4 := x4.later b51
  replace x5 := x5.later b51
  replace T := T.below b51 (Nat.le_refl _)
  have B51 := B50.trans (b51.mono B50.size)
  clear b51 B50
  clear k_x3 l_x3 k_x4 l_x4
  have k_x4 := x4.cells
  have l_x4 := x4.lt
  have k_x5 := x5.cells
  have l_x5 := x5.lt
  go_wp2_with fail
  refine (LBC.out _).mono ?_
  rintro e w52 ⟨rfl, b52⟩
  replace x3 := x3.later b52
  replace x4 := x4.later b52
  replace x5 := x5.later b52
  replace T := T.below b52 (Nat.le_refl _)
  have B52 := B51.trans (b52.mono B51.size)
  clear b52 B51
  clear k_x4 l_x4 k_x5 l_x5
  go_wp2_with fail
  go_wp2_with fail
  refine (AW.out _ T).mono ?_
  rintro e w53 ⟨rfl, b53⟩
  replace x3 := x3.later b53
  replace x4 := x4.later b53
  replace x5 := x5.later b53
  replace T := T.below b53 (Nat.le_refl _)
  have B53 := B52.trans (b53.mono B52.size)
  clear b53 B52
  go_wp2
  go_ret
  exact ⟨rfl, B53⟩

set_option maxRecDepth 100000 in
set_option maxHeartbeats 2000000 in
theorem rorders_lt2 (a b c d e f x x' y y' : Int) (w : World) (T : Tb w) (AW : Hid (∀ w, Tb w → Calls Tryd.prog 19 #[] w fun e w' => e = .returned (.bool true) ∧ Below w.heap.size w w')) (L1 : Hid (∀ w, Calls Tryd.prog 17 #[.agg #[.int .i64 a, .int .i64 b], .agg #[.int .i64 c, .int .i64 d]] w fun e w' => e = .returned (.bool true) ∧ Below w.heap.size w w')) (L2 : Hid (∀ w, Calls Tryd.prog 17 #[.agg #[.int .i64 c, .int .i64 d], .agg #[.int .i64 a, .int .i64 b]] w fun e w' => e = .returned (.bool false) ∧ Below w.heap.size w w')) (S1 : Hid (∀ w, Tb w → Calls Tryd.prog 15 #[.agg #[.int .i64 a, .int .i64 b], .agg #[.int .i64 c, .int .i64 d]] w fun e w' => e = .returned (.bool false) ∧ Below w.heap.size w w')) (CA : Hid (∀ w, Calls Tryd.prog 11 #[.agg #[.int .i64 a, .int .i64 b]] w fun e w' => e = .returned (.int .i64 0) ∧ Below w.heap.size w w')) (CB : Hid (∀ w, Calls Tryd.prog 11 #[.agg #[.int .i64 c, .int .i64 d]] w fun e w' => e = .returned (.int .i64 0) ∧ Below w.heap.size w w')) (IA : Hid (∀ w, Tb w → Calls Tryd.prog 20 #[.agg #[.int .i64 a, .int .i64 b]] w fun e w' => e = .returned (.tuple #[.agg #[.int .i64 x, .int .i64 x'], .int .i64 0]) ∧ Below w.heap.size w w')) (IB : Hid (∀ w, Tb w → Calls Tryd.prog 20 #[.agg #[.int .i64 c, .int .i64 d]] w fun e w' => e = .returned (.tuple #[.agg #[.int .i64 y, .int .i64 y'], .int .i64 0]) ∧ Below w.heap.size w w')) (LYX : Hid (∀ w, Calls Tryd.prog 17 #[.agg #[.int .i64 y, .int .i64 y'], .agg #[.int .i64 x, .int .i64 x']] w fun e w' => e = .returned (.bool true) ∧ Below w.heap.size w w')) (SXY : Hid (∀ w, Tb w → Calls Tryd.prog 15 #[.agg #[.int .i64 x, .int .i64 x'], .agg #[.int .i64 y, .int .i64 y']] w fun e w' => e = .returned (.bool false) ∧ Below w.heap.size w w')) (LBC : Hid (∀ w, Calls Tryd.prog 17 #[.agg #[.int .i64 c, .int .i64 d], .agg #[.int .i64 e, .int .i64 f]] w fun e w' => e = .returned (.bool true) ∧ Below w.heap.size w w')) (LAC : Hid (∀ w, Calls Tryd.prog 17 #[.agg #[.int .i64 a, .int .i64 b], .agg #[.int .i64 e, .int .i64 f]] w fun e w' => e = .returned (.bool true) ∧ Below w.heap.size w w')) :
    Calls Tryd.prog 5 #[.agg #[.int .i64 a, .int .i64 b], .agg #[.int .i64 c, .int .i64 d], .agg #[.int .i64 e, .int .i64 f]] w fun e w' => e = .returned (.bool true) ∧ Below w.heap.size w w' := by
  go_enter Tryd.func5, Tryd.ntmps5
  have B0 := Below.refl w.heap.size w
  go_wp2_with fail
  refine (L1.out _).mono ?_
  rintro e w1 ⟨rfl, b1⟩
  have x3 := (((Box.new w 23 #[.int .i64 a, .int .i64 b]).alloc (.cells #[.int .i64 c, .int .i64 d] 23)).alloc (.cells #[.int .i64 e, .int .i64 f] 23)).later b1
  have x4 := ((Box.new' (w := (w.alloc (.cells #[.int .i64 a, .int .i64 b] 23))) (g := w.heap.size + 1) (t := 23) (cs := #[.int .i64 c, .int .i64 d]) (by simp)).alloc (.cells #[.int .i64 e, .int .i64 f] 23)).later b1
  have x5 := (Box.new' (w := ((w.alloc (.cells #[.int .i64 a, .int .i64 b] 23)).alloc (.cells #[.int .i64 c, .int .i64 d] 23))) (g := w.heap.size + 2) (t := 23) (cs := #[.int .i64 e, .int .i64 f]) (by simp)).later b1
  replace T := (((T.alloc _).alloc _).alloc _).below b1 (Nat.le_refl _)
  have b1 := below_up b1
  have b1 := below_up b1
  have b1 := below_up b1
  have B1 := B0.trans (b1.mono B0.size)
  clear b1 B0
  have k_x3 := x3.cells
  have l_x3 := x3.lt
  have k_x4 := x4.cells
  have l_x4 := x4.lt
  go_wp2_with fail
  refine (L2.out _).mono ?_
  rintro e w2 ⟨rfl, b2⟩
  replace T := T.below b2 (Nat.le_refl _)
  replace x3 := x3.later b2
  replace x4 := x4.later b2
  replace x5 := x5.later b2
  have B2 := B1.trans (b2.mono B1.size)
  clear b2 B1
  clear k_x3 l_x3 k_x4 l_x4
  have k_x3 := x3.cells
  have l_x3 := x3.lt
  have k_x4 := x4.cells
  have l_x4 := x4.lt
  go_wp2_with fail
  refine (S1.out _ T).mono ?_
  rintro e w3 ⟨rfl, b3⟩
  replace T := T.below b3 (Nat.le_refl _)
  replace x3 := x3.later b3
  replace x4 := x4.later b3
  replace x5 := x5.later b3
  have B3 := B2.trans (b3.mono B2.size)
  clear b3 B2
  clear k_x3 l_x3 k_x4 l_x4
  have k_x3 := x3.cells
  have l_x3 := x3.lt
  go_wp2_with fail
  refine (CA.out _).mono ?_
  rintro e w4 ⟨rfl, b4⟩
  replace T := T.below b4 (Nat.le_refl _)
  replace x3 := x3.later b4
  replace x4 := x4.later b4
  replace x5 := x5.later b4
  have B4 := B3.trans (b4.mono B3.size)
  clear b4 B3
  clear k_x3 l_x3
  have k_x4 := x4.cells
  have l_x4 := x4.lt
  go_wp2_with fail
  refine (CB.out _).mono ?_
  rintro e w5 ⟨rfl, b5⟩
  replace T := T.below b5 (Nat.le_refl _)
  replace x3 := x3.later b5
  replace x4 := x4.later b5
  replace x5 := x5.later b5
  have B5 := B4.trans (b5.mono B4.size)
  clear b5 B4
  clear k_x4 l_x4
  have k_x3 := x3.cells
  have l_x3 := x3.lt
  go_wp2_with fail
  refine (IA.out _ T).mono ?_
  rintro e w6 ⟨rfl, b6⟩
  replace T := T.below b6 (Nat.le_refl _)
  replace x3 := x3.later b6
  replace x4 := x4.later b6
  replace x5 := x5.later b6
  have B6 := B5.trans (b6.mono B5.size)
  clear b6 B5
  clear k_x3 l_x3
  have k_x4 := x4.cells
  have l_x4 := x4.lt
  go_upto_region 11 with fail
  clear k_x4 l_x4
  obtain ⟨W8, hW8⟩ : ∃ W, W = w6.alloc (.cells #[.int .i64 x, .int .i64 x'] 23) := ⟨_, rfl⟩
  have x8 : Box W8 w6.heap.size 23 #[.int .i64 x, .int .i64 x'] := by rw [hW8]; exact Box.new _ _ _
  replace T := T.alloc (.cells #[.int .i64 x, .int .i64 x'] 23)
  replace x3 := x3.alloc (.cells #[.int .i64 x, .int .i64 x'] 23)
  replace x4 := x4.alloc (.cells #[.int .i64 x, .int .i64 x'] 23)
  replace x5 := x5.alloc (.cells #[.int .i64 x, .int .i64 x'] 23)
  have B7 := B6.alloc B6.size (.cells #[.int .i64 x, .int .i64 x'] 23)
  rw [← hW8] at T x3 x4 x5 B7
  rewrite [← hW8]
  clear hW8 B6
  obtain ⟨gx8, hgx8⟩ : ∃ g, g = w6.heap.size := ⟨_, rfl⟩
  rewrite [← hgx8] at x8 ⊢
  clear hgx8
  have k_x4 := x4.cells
  have l_x4 := x4.lt
  go_wp2_with fail
  refine (IB.out _ T).mono ?_
  rintro e w7 ⟨rfl, b7⟩
  replace T := T.below b7 (Nat.le_refl _)
  replace x3 := x3.later b7
  replace x4 := x4.later b7
  replace x5 := x5.later b7
  replace x8 := x8.later b7
  have B8 := B7.trans (b7.mono B7.size)
  clear b7 B7
  clear k_x4 l_x4
  go_upto_region 12 with fail
  obtain ⟨W10, hW10⟩ : ∃ W, W = w7.alloc (.cells #[.int .i64 y, .int .i64 y'] 23) := ⟨_, rfl⟩
  have x10 : Box W10 w7.heap.size 23 #[.int .i64 y, .int .i64 y'] := by rw [hW10]; exact Box.new _ _ _
  replace T := T.alloc (.cells #[.int .i64 y, .int .i64 y'] 23)
  replace x3 := x3.alloc (.cells #[.int .i64 y, .int .i64 y'] 23)
  replace x4 := x4.alloc (.cells #[.int .i64 y, .int .i64 y'] 23)
  replace x5 := x5.alloc (.cells #[.int .i64 y, .int .i64 y'] 23)
  replace x8 := x8.alloc (.cells #[.int .i64 y, .int .i64 y'] 23)
  have B9 := B8.alloc B8.size (.cells #[.int .i64 y, .int .i64 y'] 23)
  rw [← hW10] at T x3 x4 x5 x8 B9
  rewrite [← hW10]
  clear hW10 B8
  obtain ⟨gx10, hgx10⟩ : ∃ g, g = w7.heap.size := ⟨_, rfl⟩
  rewrite [← hgx10] at x10 ⊢
  clear hgx10
  have kkx3 := x3.cells
  have kkx4 := x4.cells
  have kkx8 := x8.cells
  have kkx10 := x10.cells
  first | go_region_held3 (fun w' => w'.cell? ⟨w.heap.size, 0, none⟩ = some (.int .i64 a) ∧ w'.cell? ⟨w.heap.size, 1, none⟩ = some (.int .i64 b) ∧ w'.cell? ⟨w.heap.size + 1, 0, none⟩ = some (.int .i64 c) ∧ w'.cell? ⟨w.heap.size + 1, 1, none⟩ = some (.int .i64 d) ∧ w'.cell? ⟨gx8, 0, none⟩ = some (.int .i64 x) ∧ w'.cell? ⟨gx8, 1, none⟩ = some (.int .i64 x') ∧ w'.cell? ⟨gx10, 0, none⟩ = some (.int .i64 y) ∧ w'.cell? ⟨gx10, 1, none⟩ = some (.int .i64 y')) (go_keep)
    (first
      | (go_at_call 17; (with_reducible refine (L1.out _).mono ?_); rintro e w70 ⟨rfl, b70⟩; have yx3 : Box w70 (w.heap.size) 23 #[.int .i64 a, .int .i64 b] := (by first | exact (x3).drew.later b70); have kyx3 := yx3.cells; have yx4 : Box w70 (w.heap.size + 1) 23 #[.int .i64 c, .int .i64 d] := (by first | exact (x4).drew.later b70); have kyx4 := yx4.cells; have yx8 : Box w70 (gx8) 23 #[.int .i64 x, .int .i64 x'] := (by first | exact (x8).drew.later b70); have kyx8 := yx8.cells; have yx10 : Box w70 (gx10) 23 #[.int .i64 y, .int .i64 y'] := (by first | exact (x10).drew.later b70); have kyx10 := yx10.cells; have cb : Below W10.heap.size W10 w70 := (by first | exact (below_undrew b70)); have T := T.drew.below b70 (Nat.le_refl _))
      | (go_at_call 17; (with_reducible refine (LYX.out _).mono ?_); rintro e w71 ⟨rfl, b71⟩; have yx3 : Box w71 (w.heap.size) 23 #[.int .i64 a, .int .i64 b] := (by first | exact (yx3).later b71); have kyx3 := yx3.cells; have yx4 : Box w71 (w.heap.size + 1) 23 #[.int .i64 c, .int .i64 d] := (by first | exact (yx4).later b71); have kyx4 := yx4.cells; have yx8 : Box w71 (gx8) 23 #[.int .i64 x, .int .i64 x'] := (by first | exact (yx8).later b71); have kyx8 := yx8.cells; have yx10 : Box w71 (gx10) 23 #[.int .i64 y, .int .i64 y'] := (by first | exact (yx10).later b71); have kyx10 := yx10.cells; have cb : Below W10.heap.size W10 w71 := (by first | exact cb.trans (b71.mono cb.size)); have T := T.below b71 (Nat.le_refl _))
      | (go_at_call 15; (with_reducible refine (S1.out _ T).mono ?_); rintro e w72 ⟨rfl, b72⟩; have yx3 : Box w72 (w.heap.size) 23 #[.int .i64 a, .int .i64 b] := (by first | exact (yx3).later b72); have kyx3 := yx3.cells; have yx4 : Box w72 (w.heap.size + 1) 23 #[.int .i64 c, .int .i64 d] := (by first | exact (yx4).later b72); have kyx4 := yx4.cells; have yx8 : Box w72 (gx8) 23 #[.int .i64 x, .int .i64 x'] := (by first | exact (yx8).later b72); have kyx8 := yx8.cells; have yx10 : Box w72 (gx10) 23 #[.int .i64 y, .int .i64 y'] := (by first | exact (yx10).later b72); have kyx10 := yx10.cells; have cb : Below W10.heap.size W10 w72 := (by first | exact cb.trans (b72.mono cb.size)); have T := T.below b72 (Nat.le_refl _))
      | (go_at_call 15; (with_reducible refine (SXY.out _ T).mono ?_); rintro e w73 ⟨rfl, b73⟩; have yx3 : Box w73 (w.heap.size) 23 #[.int .i64 a, .int .i64 b] := (by first | exact (yx3).later b73); have kyx3 := yx3.cells; have yx4 : Box w73 (w.heap.size + 1) 23 #[.int .i64 c, .int .i64 d] := (by first | exact (yx4).later b73); have kyx4 := yx4.cells; have yx8 : Box w73 (gx8) 23 #[.int .i64 x, .int .i64 x'] := (by first | exact (yx8).later b73); have kyx8 := yx8.cells; have yx10 : Box w73 (gx10) 23 #[.int .i64 y, .int .i64 y'] := (by first | exact (yx10).later b73); have kyx10 := yx10.cells; have cb : Below W10.heap.size W10 w73 := (by first | exact cb.trans (b73.mono cb.size)); have T := T.below b73 (Nat.le_refl _)))
  have B50 := B9.trans (cb.mono B9.size)
  replace x5 := x5.later cb
  replace x3 := yx3
  replace x4 := yx4
  have k_x3 := x3.cells
  have l_x3 := x3.lt
  have k_x4 := x4.cells
  have l_x4 := x4.lt
  go_wp2_with fail
  refine (L1.out _).mono ?_
  rintro e w51 ⟨rfl, b51⟩
  replace x3 := x3.later b51
  replace x4 := x4.later b51
  replace x5 := x5.later b51
  replace T := T.below b51 (Nat.le_refl _)
  have B51 := B50.trans (b51.mono B50.size)
  clear b51 B50
  clear k_x3 l_x3 k_x4 l_x4
  have k_x4 := x4.cells
  have l_x4 := x4.lt
  have k_x5 := x5.cells
  have l_x5 := x5.lt
  go_wp2_with fail
  refine (LBC.out _).mono ?_
  rintro e w52 ⟨rfl, b52⟩
  replace x3 := x3.later b52
  replace x4 := x4.later b52
  replace x5 := x5.later b52
  replace T := T.below b52 (Nat.le_refl _)
  have B52 := B51.trans (b52.mono B51.size)
  clear b52 B51
  clear k_x4 l_x4 k_x5 l_x5
  have k_x3 := x3.cells
  have l_x3 := x3.lt
  have k_x5 := x5.cells
  have l_x5 := x5.lt
  go_wp2_with fail
  refine (LAC.out _).mono ?_
  rintro e w53 ⟨rfl, b53⟩
  replace x3 := x3.later b53
  replace x4 := x4.later b53
  replace x5 := x5.later b53
  replace T := T.below b53 (Nat.le_refl _)
  have B53 := B52.trans (b53.mono B52.size)
  clear b53 B52
  clear k_x3 l_x3 k_x5 l_x5
  go_wp2_with fail
  go_wp2_with fail
  refine (AW.out _ T).mono ?_
  rintro e w54 ⟨rfl, b54⟩
  replace x3 := x3.later b54
  replace x4 := x4.later b54
  replace x5 := x5.later b54
  replace T := T.below b54 (Nat.le_refl _)
  have B54 := B53.trans (b54.mono B53.size)
  clear b54 B53
  go_wp2
  go_ret
  exact ⟨rfl, B54⟩

set_option maxRecDepth 100000 in
set_option maxHeartbeats 2000000 in
theorem rorders_gt (a b c d e f x x' y y' : Int) (w : World) (T : Tb w) (AW : Hid (∀ w, Tb w → Calls Tryd.prog 19 #[] w fun e w' => e = .returned (.bool true) ∧ Below w.heap.size w w')) (L1 : Hid (∀ w, Calls Tryd.prog 17 #[.agg #[.int .i64 a, .int .i64 b], .agg #[.int .i64 c, .int .i64 d]] w fun e w' => e = .returned (.bool false) ∧ Below w.heap.size w w')) (L2 : Hid (∀ w, Calls Tryd.prog 17 #[.agg #[.int .i64 c, .int .i64 d], .agg #[.int .i64 a, .int .i64 b]] w fun e w' => e = .returned (.bool true) ∧ Below w.heap.size w w')) (S1 : Hid (∀ w, Tb w → Calls Tryd.prog 15 #[.agg #[.int .i64 a, .int .i64 b], .agg #[.int .i64 c, .int .i64 d]] w fun e w' => e = .returned (.bool false) ∧ Below w.heap.size w w')) (CA : Hid (∀ w, Calls Tryd.prog 11 #[.agg #[.int .i64 a, .int .i64 b]] w fun e w' => e = .returned (.int .i64 0) ∧ Below w.heap.size w w')) (CB : Hid (∀ w, Calls Tryd.prog 11 #[.agg #[.int .i64 c, .int .i64 d]] w fun e w' => e = .returned (.int .i64 0) ∧ Below w.heap.size w w')) (IA : Hid (∀ w, Tb w → Calls Tryd.prog 20 #[.agg #[.int .i64 a, .int .i64 b]] w fun e w' => e = .returned (.tuple #[.agg #[.int .i64 x, .int .i64 x'], .int .i64 0]) ∧ Below w.heap.size w w')) (IB : Hid (∀ w, Tb w → Calls Tryd.prog 20 #[.agg #[.int .i64 c, .int .i64 d]] w fun e w' => e = .returned (.tuple #[.agg #[.int .i64 y, .int .i64 y'], .int .i64 0]) ∧ Below w.heap.size w w')) (LYX : Hid (∀ w, Calls Tryd.prog 17 #[.agg #[.int .i64 y, .int .i64 y'], .agg #[.int .i64 x, .int .i64 x']] w fun e w' => e = .returned (.bool false) ∧ Below w.heap.size w w')) (SXY : Hid (∀ w, Tb w → Calls Tryd.prog 15 #[.agg #[.int .i64 x, .int .i64 x'], .agg #[.int .i64 y, .int .i64 y']] w fun e w' => e = .returned (.bool false) ∧ Below w.heap.size w w')) :
    Calls Tryd.prog 5 #[.agg #[.int .i64 a, .int .i64 b], .agg #[.int .i64 c, .int .i64 d], .agg #[.int .i64 e, .int .i64 f]] w fun e w' => e = .returned (.bool true) ∧ Below w.heap.size w w' := by
  go_enter Tryd.func5, Tryd.ntmps5
  have B0 := Below.refl w.heap.size w
  go_wp2_with fail
  refine (L1.out _).mono ?_
  rintro e w1 ⟨rfl, b1⟩
  have x3 := (((Box.new w 23 #[.int .i64 a, .int .i64 b]).alloc (.cells #[.int .i64 c, .int .i64 d] 23)).alloc (.cells #[.int .i64 e, .int .i64 f] 23)).later b1
  have x4 := ((Box.new' (w := (w.alloc (.cells #[.int .i64 a, .int .i64 b] 23))) (g := w.heap.size + 1) (t := 23) (cs := #[.int .i64 c, .int .i64 d]) (by simp)).alloc (.cells #[.int .i64 e, .int .i64 f] 23)).later b1
  have x5 := (Box.new' (w := ((w.alloc (.cells #[.int .i64 a, .int .i64 b] 23)).alloc (.cells #[.int .i64 c, .int .i64 d] 23))) (g := w.heap.size + 2) (t := 23) (cs := #[.int .i64 e, .int .i64 f]) (by simp)).later b1
  replace T := (((T.alloc _).alloc _).alloc _).below b1 (Nat.le_refl _)
  have b1 := below_up b1
  have b1 := below_up b1
  have b1 := below_up b1
  have B1 := B0.trans (b1.mono B0.size)
  clear b1 B0
  have k_x3 := x3.cells
  have l_x3 := x3.lt
  have k_x4 := x4.cells
  have l_x4 := x4.lt
  go_wp2_with fail
  refine (L2.out _).mono ?_
  rintro e w2 ⟨rfl, b2⟩
  replace T := T.below b2 (Nat.le_refl _)
  replace x3 := x3.later b2
  replace x4 := x4.later b2
  replace x5 := x5.later b2
  have B2 := B1.trans (b2.mono B1.size)
  clear b2 B1
  clear k_x3 l_x3 k_x4 l_x4
  have k_x3 := x3.cells
  have l_x3 := x3.lt
  have k_x4 := x4.cells
  have l_x4 := x4.lt
  go_wp2_with fail
  refine (S1.out _ T).mono ?_
  rintro e w3 ⟨rfl, b3⟩
  replace T := T.below b3 (Nat.le_refl _)
  replace x3 := x3.later b3
  replace x4 := x4.later b3
  replace x5 := x5.later b3
  have B3 := B2.trans (b3.mono B2.size)
  clear b3 B2
  clear k_x3 l_x3 k_x4 l_x4
  have k_x3 := x3.cells
  have l_x3 := x3.lt
  go_wp2_with fail
  refine (CA.out _).mono ?_
  rintro e w4 ⟨rfl, b4⟩
  replace T := T.below b4 (Nat.le_refl _)
  replace x3 := x3.later b4
  replace x4 := x4.later b4
  replace x5 := x5.later b4
  have B4 := B3.trans (b4.mono B3.size)
  clear b4 B3
  clear k_x3 l_x3
  have k_x4 := x4.cells
  have l_x4 := x4.lt
  go_wp2_with fail
  refine (CB.out _).mono ?_
  rintro e w5 ⟨rfl, b5⟩
  replace T := T.below b5 (Nat.le_refl _)
  replace x3 := x3.later b5
  replace x4 := x4.later b5
  replace x5 := x5.later b5
  have B5 := B4.trans (b5.mono B4.size)
  clear b5 B4
  clear k_x4 l_x4
  have k_x3 := x3.cells
  have l_x3 := x3.lt
  go_wp2_with fail
  refine (IA.out _ T).mono ?_
  rintro e w6 ⟨rfl, b6⟩
  replace T := T.below b6 (Nat.le_refl _)
  replace x3 := x3.later b6
  replace x4 := x4.later b6
  replace x5 := x5.later b6
  have B6 := B5.trans (b6.mono B5.size)
  clear b6 B5
  clear k_x3 l_x3
  have k_x4 := x4.cells
  have l_x4 := x4.lt
  go_upto_region 11 with fail
  clear k_x4 l_x4
  obtain ⟨W8, hW8⟩ : ∃ W, W = w6.alloc (.cells #[.int .i64 x, .int .i64 x'] 23) := ⟨_, rfl⟩
  have x8 : Box W8 w6.heap.size 23 #[.int .i64 x, .int .i64 x'] := by rw [hW8]; exact Box.new _ _ _
  replace T := T.alloc (.cells #[.int .i64 x, .int .i64 x'] 23)
  replace x3 := x3.alloc (.cells #[.int .i64 x, .int .i64 x'] 23)
  replace x4 := x4.alloc (.cells #[.int .i64 x, .int .i64 x'] 23)
  replace x5 := x5.alloc (.cells #[.int .i64 x, .int .i64 x'] 23)
  have B7 := B6.alloc B6.size (.cells #[.int .i64 x, .int .i64 x'] 23)
  rw [← hW8] at T x3 x4 x5 B7
  rewrite [← hW8]
  clear hW8 B6
  obtain ⟨gx8, hgx8⟩ : ∃ g, g = w6.heap.size := ⟨_, rfl⟩
  rewrite [← hgx8] at x8 ⊢
  clear hgx8
  have k_x4 := x4.cells
  have l_x4 := x4.lt
  go_wp2_with fail
  refine (IB.out _ T).mono ?_
  rintro e w7 ⟨rfl, b7⟩
  replace T := T.below b7 (Nat.le_refl _)
  replace x3 := x3.later b7
  replace x4 := x4.later b7
  replace x5 := x5.later b7
  replace x8 := x8.later b7
  have B8 := B7.trans (b7.mono B7.size)
  clear b7 B7
  clear k_x4 l_x4
  go_upto_region 12 with fail
  obtain ⟨W10, hW10⟩ : ∃ W, W = w7.alloc (.cells #[.int .i64 y, .int .i64 y'] 23) := ⟨_, rfl⟩
  have x10 : Box W10 w7.heap.size 23 #[.int .i64 y, .int .i64 y'] := by rw [hW10]; exact Box.new _ _ _
  replace T := T.alloc (.cells #[.int .i64 y, .int .i64 y'] 23)
  replace x3 := x3.alloc (.cells #[.int .i64 y, .int .i64 y'] 23)
  replace x4 := x4.alloc (.cells #[.int .i64 y, .int .i64 y'] 23)
  replace x5 := x5.alloc (.cells #[.int .i64 y, .int .i64 y'] 23)
  replace x8 := x8.alloc (.cells #[.int .i64 y, .int .i64 y'] 23)
  have B9 := B8.alloc B8.size (.cells #[.int .i64 y, .int .i64 y'] 23)
  rw [← hW10] at T x3 x4 x5 x8 B9
  rewrite [← hW10]
  clear hW10 B8
  obtain ⟨gx10, hgx10⟩ : ∃ g, g = w7.heap.size := ⟨_, rfl⟩
  rewrite [← hgx10] at x10 ⊢
  clear hgx10
  have kkx3 := x3.cells
  have kkx4 := x4.cells
  have kkx8 := x8.cells
  have kkx10 := x10.cells
  first | go_region_held3 (fun w' => w'.cell? ⟨w.heap.size, 0, none⟩ = some (.int .i64 a) ∧ w'.cell? ⟨w.heap.size, 1, none⟩ = some (.int .i64 b) ∧ w'.cell? ⟨w.heap.size + 1, 0, none⟩ = some (.int .i64 c) ∧ w'.cell? ⟨w.heap.size + 1, 1, none⟩ = some (.int .i64 d) ∧ w'.cell? ⟨gx8, 0, none⟩ = some (.int .i64 x) ∧ w'.cell? ⟨gx8, 1, none⟩ = some (.int .i64 x') ∧ w'.cell? ⟨gx10, 0, none⟩ = some (.int .i64 y) ∧ w'.cell? ⟨gx10, 1, none⟩ = some (.int .i64 y')) (go_keep)
    (first
      | (go_at_call 17; (with_reducible refine (L1.out _).mono ?_); rintro e w70 ⟨rfl, b70⟩; have yx3 : Box w70 (w.heap.size) 23 #[.int .i64 a, .int .i64 b] := (by first | exact (x3).drew.later b70); have kyx3 := yx3.cells; have yx4 : Box w70 (w.heap.size + 1) 23 #[.int .i64 c, .int .i64 d] := (by first | exact (x4).drew.later b70); have kyx4 := yx4.cells; have yx8 : Box w70 (gx8) 23 #[.int .i64 x, .int .i64 x'] := (by first | exact (x8).drew.later b70); have kyx8 := yx8.cells; have yx10 : Box w70 (gx10) 23 #[.int .i64 y, .int .i64 y'] := (by first | exact (x10).drew.later b70); have kyx10 := yx10.cells; have cb : Below W10.heap.size W10 w70 := (by first | exact (below_undrew b70)); have T := T.drew.below b70 (Nat.le_refl _))
      | (go_at_call 17; (with_reducible refine (LYX.out _).mono ?_); rintro e w71 ⟨rfl, b71⟩; have yx3 : Box w71 (w.heap.size) 23 #[.int .i64 a, .int .i64 b] := (by first | exact (yx3).later b71); have kyx3 := yx3.cells; have yx4 : Box w71 (w.heap.size + 1) 23 #[.int .i64 c, .int .i64 d] := (by first | exact (yx4).later b71); have kyx4 := yx4.cells; have yx8 : Box w71 (gx8) 23 #[.int .i64 x, .int .i64 x'] := (by first | exact (yx8).later b71); have kyx8 := yx8.cells; have yx10 : Box w71 (gx10) 23 #[.int .i64 y, .int .i64 y'] := (by first | exact (yx10).later b71); have kyx10 := yx10.cells; have cb : Below W10.heap.size W10 w71 := (by first | exact cb.trans (b71.mono cb.size)); have T := T.below b71 (Nat.le_refl _))
      | (go_at_call 15; (with_reducible refine (S1.out _ T).mono ?_); rintro e w72 ⟨rfl, b72⟩; have yx3 : Box w72 (w.heap.size) 23 #[.int .i64 a, .int .i64 b] := (by first | exact (yx3).later b72); have kyx3 := yx3.cells; have yx4 : Box w72 (w.heap.size + 1) 23 #[.int .i64 c, .int .i64 d] := (by first | exact (yx4).later b72); have kyx4 := yx4.cells; have yx8 : Box w72 (gx8) 23 #[.int .i64 x, .int .i64 x'] := (by first | exact (yx8).later b72); have kyx8 := yx8.cells; have yx10 : Box w72 (gx10) 23 #[.int .i64 y, .int .i64 y'] := (by first | exact (yx10).later b72); have kyx10 := yx10.cells; have cb : Below W10.heap.size W10 w72 := (by first | exact cb.trans (b72.mono cb.size)); have T := T.below b72 (Nat.le_refl _))
      | (go_at_call 15; (with_reducible refine (SXY.out _ T).mono ?_); rintro e w73 ⟨rfl, b73⟩; have yx3 : Box w73 (w.heap.size) 23 #[.int .i64 a, .int .i64 b] := (by first | exact (yx3).later b73); have kyx3 := yx3.cells; have yx4 : Box w73 (w.heap.size + 1) 23 #[.int .i64 c, .int .i64 d] := (by first | exact (yx4).later b73); have kyx4 := yx4.cells; have yx8 : Box w73 (gx8) 23 #[.int .i64 x, .int .i64 x'] := (by first | exact (yx8).later b73); have kyx8 := yx8.cells; have yx10 : Box w73 (gx10) 23 #[.int .i64 y, .int .i64 y'] := (by first | exact (yx10).later b73); have kyx10 := yx10.cells; have cb : Below W10.heap.size W10 w73 := (by first | exact cb.trans (b73.mono cb.size)); have T := T.below b73 (Nat.le_refl _)))
  have B50 := B9.trans (cb.mono B9.size)
  replace x5 := x5.later cb
  replace x3 := yx3
  replace x4 := yx4
  have k_x3 := x3.cells
  have l_x3 := x3.lt
  have k_x4 := x4.cells
  have l_x4 := x4.lt
  go_wp2_with fail
  refine (L1.out _).mono ?_
  rintro e w51 ⟨rfl, b51⟩
  replace x3 := x3.later b51
  replace x4 := x4.later b51
  replace x5 := x5.later b51
  replace T := T.below b51 (Nat.le_refl _)
  have B51 := B50.trans (b51.mono B50.size)
  clear b51 B50
  clear k_x3 l_x3 k_x4 l_x4
  go_wp2_with fail
  go_wp2_with fail
  refine (AW.out _ T).mono ?_
  rintro e w52 ⟨rfl, b52⟩
  replace x3 := x3.later b52
  replace x4 := x4.later b52
  replace x5 := x5.later b52
  replace T := T.below b52 (Nat.le_refl _)
  have B52 := B51.trans (b52.mono B51.size)
  clear b52 B51
  go_wp2
  go_ret
  exact ⟨rfl, B52⟩

set_option maxRecDepth 100000 in
set_option maxHeartbeats 2000000 in
theorem rorders_eq (a b c d e f x x' y y' : Int) (w : World) (T : Tb w) (AW : Hid (∀ w, Tb w → Calls Tryd.prog 19 #[] w fun e w' => e = .returned (.bool true) ∧ Below w.heap.size w w')) (L1 : Hid (∀ w, Calls Tryd.prog 17 #[.agg #[.int .i64 a, .int .i64 b], .agg #[.int .i64 c, .int .i64 d]] w fun e w' => e = .returned (.bool false) ∧ Below w.heap.size w w')) (L2 : Hid (∀ w, Calls Tryd.prog 17 #[.agg #[.int .i64 c, .int .i64 d], .agg #[.int .i64 a, .int .i64 b]] w fun e w' => e = .returned (.bool false) ∧ Below w.heap.size w w')) (S1 : Hid (∀ w, Tb w → Calls Tryd.prog 15 #[.agg #[.int .i64 a, .int .i64 b], .agg #[.int .i64 c, .int .i64 d]] w fun e w' => e = .returned (.bool true) ∧ Below w.heap.size w w')) (CA : Hid (∀ w, Calls Tryd.prog 11 #[.agg #[.int .i64 a, .int .i64 b]] w fun e w' => e = .returned (.int .i64 0) ∧ Below w.heap.size w w')) (CB : Hid (∀ w, Calls Tryd.prog 11 #[.agg #[.int .i64 c, .int .i64 d]] w fun e w' => e = .returned (.int .i64 0) ∧ Below w.heap.size w w')) (IA : Hid (∀ w, Tb w → Calls Tryd.prog 20 #[.agg #[.int .i64 a, .int .i64 b]] w fun e w' => e = .returned (.tuple #[.agg #[.int .i64 x, .int .i64 x'], .int .i64 0]) ∧ Below w.heap.size w w')) (IB : Hid (∀ w, Tb w → Calls Tryd.prog 20 #[.agg #[.int .i64 c, .int .i64 d]] w fun e w' => e = .returned (.tuple #[.agg #[.int .i64 y, .int .i64 y'], .int .i64 0]) ∧ Below w.heap.size w w')) (LYX : Hid (∀ w, Calls Tryd.prog 17 #[.agg #[.int .i64 y, .int .i64 y'], .agg #[.int .i64 x, .int .i64 x']] w fun e w' => e = .returned (.bool false) ∧ Below w.heap.size w w')) (SXY : Hid (∀ w, Tb w → Calls Tryd.prog 15 #[.agg #[.int .i64 x, .int .i64 x'], .agg #[.int .i64 y, .int .i64 y']] w fun e w' => e = .returned (.bool true) ∧ Below w.heap.size w w')) :
    Calls Tryd.prog 5 #[.agg #[.int .i64 a, .int .i64 b], .agg #[.int .i64 c, .int .i64 d], .agg #[.int .i64 e, .int .i64 f]] w fun e w' => e = .returned (.bool true) ∧ Below w.heap.size w w' := by
  go_enter Tryd.func5, Tryd.ntmps5
  have B0 := Below.refl w.heap.size w
  go_wp2_with fail
  refine (L1.out _).mono ?_
  rintro e w1 ⟨rfl, b1⟩
  have x3 := (((Box.new w 23 #[.int .i64 a, .int .i64 b]).alloc (.cells #[.int .i64 c, .int .i64 d] 23)).alloc (.cells #[.int .i64 e, .int .i64 f] 23)).later b1
  have x4 := ((Box.new' (w := (w.alloc (.cells #[.int .i64 a, .int .i64 b] 23))) (g := w.heap.size + 1) (t := 23) (cs := #[.int .i64 c, .int .i64 d]) (by simp)).alloc (.cells #[.int .i64 e, .int .i64 f] 23)).later b1
  have x5 := (Box.new' (w := ((w.alloc (.cells #[.int .i64 a, .int .i64 b] 23)).alloc (.cells #[.int .i64 c, .int .i64 d] 23))) (g := w.heap.size + 2) (t := 23) (cs := #[.int .i64 e, .int .i64 f]) (by simp)).later b1
  replace T := (((T.alloc _).alloc _).alloc _).below b1 (Nat.le_refl _)
  have b1 := below_up b1
  have b1 := below_up b1
  have b1 := below_up b1
  have B1 := B0.trans (b1.mono B0.size)
  clear b1 B0
  have k_x3 := x3.cells
  have l_x3 := x3.lt
  have k_x4 := x4.cells
  have l_x4 := x4.lt
  go_wp2_with fail
  refine (L2.out _).mono ?_
  rintro e w2 ⟨rfl, b2⟩
  replace T := T.below b2 (Nat.le_refl _)
  replace x3 := x3.later b2
  replace x4 := x4.later b2
  replace x5 := x5.later b2
  have B2 := B1.trans (b2.mono B1.size)
  clear b2 B1
  clear k_x3 l_x3 k_x4 l_x4
  have k_x3 := x3.cells
  have l_x3 := x3.lt
  have k_x4 := x4.cells
  have l_x4 := x4.lt
  go_wp2_with fail
  refine (S1.out _ T).mono ?_
  rintro e w3 ⟨rfl, b3⟩
  replace T := T.below b3 (Nat.le_refl _)
  replace x3 := x3.later b3
  replace x4 := x4.later b3
  replace x5 := x5.later b3
  have B3 := B2.trans (b3.mono B2.size)
  clear b3 B2
  clear k_x3 l_x3 k_x4 l_x4
  have k_x3 := x3.cells
  have l_x3 := x3.lt
  go_wp2_with fail
  refine (CA.out _).mono ?_
  rintro e w4 ⟨rfl, b4⟩
  replace T := T.below b4 (Nat.le_refl _)
  replace x3 := x3.later b4
  replace x4 := x4.later b4
  replace x5 := x5.later b4
  have B4 := B3.trans (b4.mono B3.size)
  clear b4 B3
  clear k_x3 l_x3
  have k_x4 := x4.cells
  have l_x4 := x4.lt
  go_wp2_with fail
  refine (CB.out _).mono ?_
  rintro e w5 ⟨rfl, b5⟩
  replace T := T.below b5 (Nat.le_refl _)
  replace x3 := x3.later b5
  replace x4 := x4.later b5
  replace x5 := x5.later b5
  have B5 := B4.trans (b5.mono B4.size)
  clear b5 B4
  clear k_x4 l_x4
  have k_x3 := x3.cells
  have l_x3 := x3.lt
  go_wp2_with fail
  refine (IA.out _ T).mono ?_
  rintro e w6 ⟨rfl, b6⟩
  replace T := T.below b6 (Nat.le_refl _)
  replace x3 := x3.later b6
  replace x4 := x4.later b6
  replace x5 := x5.later b6
  have B6 := B5.trans (b6.mono B5.size)
  clear b6 B5
  clear k_x3 l_x3
  have k_x4 := x4.cells
  have l_x4 := x4.lt
  go_upto_region 11 with fail
  clear k_x4 l_x4
  obtain ⟨W8, hW8⟩ : ∃ W, W = w6.alloc (.cells #[.int .i64 x, .int .i64 x'] 23) := ⟨_, rfl⟩
  have x8 : Box W8 w6.heap.size 23 #[.int .i64 x, .int .i64 x'] := by rw [hW8]; exact Box.new _ _ _
  replace T := T.alloc (.cells #[.int .i64 x, .int .i64 x'] 23)
  replace x3 := x3.alloc (.cells #[.int .i64 x, .int .i64 x'] 23)
  replace x4 := x4.alloc (.cells #[.int .i64 x, .int .i64 x'] 23)
  replace x5 := x5.alloc (.cells #[.int .i64 x, .int .i64 x'] 23)
  have B7 := B6.alloc B6.size (.cells #[.int .i64 x, .int .i64 x'] 23)
  rw [← hW8] at T x3 x4 x5 B7
  rewrite [← hW8]
  clear hW8 B6
  obtain ⟨gx8, hgx8⟩ : ∃ g, g = w6.heap.size := ⟨_, rfl⟩
  rewrite [← hgx8] at x8 ⊢
  clear hgx8
  have k_x4 := x4.cells
  have l_x4 := x4.lt
  go_wp2_with fail
  refine (IB.out _ T).mono ?_
  rintro e w7 ⟨rfl, b7⟩
  replace T := T.below b7 (Nat.le_refl _)
  replace x3 := x3.later b7
  replace x4 := x4.later b7
  replace x5 := x5.later b7
  replace x8 := x8.later b7
  have B8 := B7.trans (b7.mono B7.size)
  clear b7 B7
  clear k_x4 l_x4
  go_upto_region 12 with fail
  obtain ⟨W10, hW10⟩ : ∃ W, W = w7.alloc (.cells #[.int .i64 y, .int .i64 y'] 23) := ⟨_, rfl⟩
  have x10 : Box W10 w7.heap.size 23 #[.int .i64 y, .int .i64 y'] := by rw [hW10]; exact Box.new _ _ _
  replace T := T.alloc (.cells #[.int .i64 y, .int .i64 y'] 23)
  replace x3 := x3.alloc (.cells #[.int .i64 y, .int .i64 y'] 23)
  replace x4 := x4.alloc (.cells #[.int .i64 y, .int .i64 y'] 23)
  replace x5 := x5.alloc (.cells #[.int .i64 y, .int .i64 y'] 23)
  replace x8 := x8.alloc (.cells #[.int .i64 y, .int .i64 y'] 23)
  have B9 := B8.alloc B8.size (.cells #[.int .i64 y, .int .i64 y'] 23)
  rw [← hW10] at T x3 x4 x5 x8 B9
  rewrite [← hW10]
  clear hW10 B8
  obtain ⟨gx10, hgx10⟩ : ∃ g, g = w7.heap.size := ⟨_, rfl⟩
  rewrite [← hgx10] at x10 ⊢
  clear hgx10
  have kkx3 := x3.cells
  have kkx4 := x4.cells
  have kkx8 := x8.cells
  have kkx10 := x10.cells
  first | go_region_held3 (fun w' => w'.cell? ⟨w.heap.size, 0, none⟩ = some (.int .i64 a) ∧ w'.cell? ⟨w.heap.size, 1, none⟩ = some (.int .i64 b) ∧ w'.cell? ⟨w.heap.size + 1, 0, none⟩ = some (.int .i64 c) ∧ w'.cell? ⟨w.heap.size + 1, 1, none⟩ = some (.int .i64 d) ∧ w'.cell? ⟨gx8, 0, none⟩ = some (.int .i64 x) ∧ w'.cell? ⟨gx8, 1, none⟩ = some (.int .i64 x') ∧ w'.cell? ⟨gx10, 0, none⟩ = some (.int .i64 y) ∧ w'.cell? ⟨gx10, 1, none⟩ = some (.int .i64 y')) (go_keep)
    (first
      | (go_at_call 17; (with_reducible refine (L1.out _).mono ?_); rintro e w70 ⟨rfl, b70⟩; have yx3 : Box w70 (w.heap.size) 23 #[.int .i64 a, .int .i64 b] := (by first | exact (x3).drew.later b70); have kyx3 := yx3.cells; have yx4 : Box w70 (w.heap.size + 1) 23 #[.int .i64 c, .int .i64 d] := (by first | exact (x4).drew.later b70); have kyx4 := yx4.cells; have yx8 : Box w70 (gx8) 23 #[.int .i64 x, .int .i64 x'] := (by first | exact (x8).drew.later b70); have kyx8 := yx8.cells; have yx10 : Box w70 (gx10) 23 #[.int .i64 y, .int .i64 y'] := (by first | exact (x10).drew.later b70); have kyx10 := yx10.cells; have cb : Below W10.heap.size W10 w70 := (by first | exact (below_undrew b70)); have T := T.drew.below b70 (Nat.le_refl _))
      | (go_at_call 17; (with_reducible refine (LYX.out _).mono ?_); rintro e w71 ⟨rfl, b71⟩; have yx3 : Box w71 (w.heap.size) 23 #[.int .i64 a, .int .i64 b] := (by first | exact (yx3).later b71); have kyx3 := yx3.cells; have yx4 : Box w71 (w.heap.size + 1) 23 #[.int .i64 c, .int .i64 d] := (by first | exact (yx4).later b71); have kyx4 := yx4.cells; have yx8 : Box w71 (gx8) 23 #[.int .i64 x, .int .i64 x'] := (by first | exact (yx8).later b71); have kyx8 := yx8.cells; have yx10 : Box w71 (gx10) 23 #[.int .i64 y, .int .i64 y'] := (by first | exact (yx10).later b71); have kyx10 := yx10.cells; have cb : Below W10.heap.size W10 w71 := (by first | exact cb.trans (b71.mono cb.size)); have T := T.below b71 (Nat.le_refl _))
      | (go_at_call 15; (with_reducible refine (S1.out _ T).mono ?_); rintro e w72 ⟨rfl, b72⟩; have yx3 : Box w72 (w.heap.size) 23 #[.int .i64 a, .int .i64 b] := (by first | exact (yx3).later b72); have kyx3 := yx3.cells; have yx4 : Box w72 (w.heap.size + 1) 23 #[.int .i64 c, .int .i64 d] := (by first | exact (yx4).later b72); have kyx4 := yx4.cells; have yx8 : Box w72 (gx8) 23 #[.int .i64 x, .int .i64 x'] := (by first | exact (yx8).later b72); have kyx8 := yx8.cells; have yx10 : Box w72 (gx10) 23 #[.int .i64 y, .int .i64 y'] := (by first | exact (yx10).later b72); have kyx10 := yx10.cells; have cb : Below W10.heap.size W10 w72 := (by first | exact cb.trans (b72.mono cb.size)); have T := T.below b72 (Nat.le_refl _))
      | (go_at_call 15; (with_reducible refine (SXY.out _ T).mono ?_); rintro e w73 ⟨rfl, b73⟩; have yx3 : Box w73 (w.heap.size) 23 #[.int .i64 a, .int .i64 b] := (by first | exact (yx3).later b73); have kyx3 := yx3.cells; have yx4 : Box w73 (w.heap.size + 1) 23 #[.int .i64 c, .int .i64 d] := (by first | exact (yx4).later b73); have kyx4 := yx4.cells; have yx8 : Box w73 (gx8) 23 #[.int .i64 x, .int .i64 x'] := (by first | exact (yx8).later b73); have kyx8 := yx8.cells; have yx10 : Box w73 (gx10) 23 #[.int .i64 y, .int .i64 y'] := (by first | exact (yx10).later b73); have kyx10 := yx10.cells; have cb : Below W10.heap.size W10 w73 := (by first | exact cb.trans (b73.mono cb.size)); have T := T.below b73 (Nat.le_refl _)))
  have B50 := B9.trans (cb.mono B9.size)
  replace x5 := x5.later cb
  replace x3 := yx3
  replace x4 := yx4
  have k_x3 := x3.cells
  have l_x3 := x3.lt
  have k_x4 := x4.cells
  have l_x4 := x4.lt
  go_wp2_with fail
  refine (L1.out _).mono ?_
  rintro e w51 ⟨rfl, b51⟩
  replace x3 := x3.later b51
  replace x4 := x4.later b51
  replace x5 := x5.later b51
  replace T := T.below b51 (Nat.le_refl _)
  have B51 := B50.trans (b51.mono B50.size)
  clear b51 B50
  clear k_x3 l_x3 k_x4 l_x4
  go_wp2_with fail
  go_wp2_with fail
  refine (AW.out _ T).mono ?_
  rintro e w52 ⟨rfl, b52⟩
  replace x3 := x3.later b52
  replace x4 := x4.later b52
  replace x5 := x5.later b52
  replace T := T.below b52 (Nat.le_refl _)
  have B52 := B51.trans (b52.mono B51.size)
  clear b52 B51
  go_wp2
  go_ret
  exact ⟨rfl, B52⟩

theorem rorders_law (a b c d e f : Int) (w : World) (T : Tb w) :
    Calls Tryd.prog 5 #[.agg #[.int .i64 a, .int .i64 b], .agg #[.int .i64 c, .int .i64 d], .agg #[.int .i64 e, .int .i64 f]] w fun e w' => e = .returned (.bool true) ∧ Below w.heap.size w w' := by
  have AW := Lib.hid fun (w : World) (T : Tb w) => rawake_any w T
  have L1 := fun w => less_any a b c d w
  have L2 := fun w => less_any c d a b w
  have S1 := fun (w : World) (T : Tb w) => same_any a b c d w T
  have CA := fun w => check_any a b w
  have CB := fun w => check_any c d w
  have hk : okR a b = false → lessI a b c d = false ∧ lessI c d a b = false ∧ sameI a b c d = false := fun h => by
    unfold lessI sameI
    rw [h]
    simp
  have hk2 : okR a b = true → okR c d = false → lessI a b c d = false ∧ lessI c d a b = false ∧ sameI a b c d = false := fun h h2 => by
    obtain ⟨b1, b2, _, _⟩ := (okR_iff a b).1 h
    obtain ⟨g1, g2, g3, e1, e2, e3, e4⟩ := gcdI_spec b1 b2
    unfold lessI sameI normI
    rw [h, h2, if_pos rfl, if_neg (by decide)]
    refine ⟨by simp, by simp, ?_⟩
    have : ¬ ((lowI a b).1 = 0) := by unfold lowI; simp only; omega
    simp [this]
  cases h1 : okR a b
  · obtain ⟨u1, u2, u3⟩ := hk h1
    rw [u1] at L1
    rw [u2] at L2
    rw [u3] at S1
    rw [okR_false h1] at CA
    exact rorders_no1 a b c d e f w T AW (Lib.hid L1) (Lib.hid L2) (Lib.hid S1) (Lib.hid CA)
  · cases h2 : okR c d
    · obtain ⟨u1, u2, u3⟩ := hk2 h1 h2
      rw [u1] at L1
      rw [u2] at L2
      rw [u3] at S1
      rw [okR_true h1] at CA
      rw [okR_false h2] at CB
      exact rorders_no2 a b c d e f w T AW (Lib.hid L1) (Lib.hid L2) (Lib.hid S1) (Lib.hid CA) (Lib.hid CB)
    · rw [okR_true h1] at CA
      rw [okR_true h2] at CB
      have IA := fun (w : World) (T : Tb w) => inverse_any a b w T
      have IB := fun (w : World) (T : Tb w) => inverse_any c d w T
      have hn1 : normI b a = lowI b a := if_pos (by have := (okR_iff a b).1 h1; exact (okR_iff b a).2 ⟨this.2.1, this.1, this.2.2.2, this.2.2.1⟩)
      have hn2 : normI d c = lowI d c := if_pos (by have := (okR_iff c d).1 h2; exact (okR_iff d c).2 ⟨this.2.1, this.1, this.2.2.2, this.2.2.1⟩)
      rw [show invI a b = (lowI b a, 0) from (if_pos h1).trans (by rw [hn1])] at IA
      rw [show invI c d = (lowI d c, 0) from (if_pos h2).trans (by rw [hn2])] at IB
      have o1 := (lowI_ok h1).2
      have o2 := (lowI_ok h2).2
      obtain ⟨ic, is⟩ := inv_cross h1 h2
      have LYX := fun w => less_any (lowI d c).1 (lowI d c).2 (lowI b a).1 (lowI b a).2 w
      have SXY := fun (w : World) (T : Tb w) => same_any (lowI b a).1 (lowI b a).2 (lowI d c).1 (lowI d c).2 w T
      have q1 := less_iff h1 h2
      have q2 := less_iff h2 h1
      have q3 := same_iff h1 h2
      have q4 := (less_iff o2 o1).trans ic
      have q5 := (same_iff o1 o2).trans is
      rcases (by omega : a * d < c * b ∨ c * b < a * d ∨ a * d = c * b) with h | h | h
      · have v1 : lessI a b c d = true := q1.2 h
        have v2 : lessI c d a b = false := Bool.eq_false_iff.2 fun h' => by have := q2.1 h'; omega
        have v3 : sameI a b c d = false := Bool.eq_false_iff.2 fun h' => by have := q3.1 h'; omega
        have v4 : lessI (lowI d c).1 (lowI d c).2 (lowI b a).1 (lowI b a).2 = true := q4.2 h
        have v5 : sameI (lowI b a).1 (lowI b a).2 (lowI d c).1 (lowI d c).2 = false := Bool.eq_false_iff.2 fun h' => by have := q5.1 h'; omega
        rw [v1] at L1
        rw [v2] at L2
        rw [v3] at S1
        rw [v4] at LYX
        rw [v5] at SXY
        have LBC := fun w => less_any c d e f w
        have LAC := fun w => less_any a b e f w
        cases hm : lessI c d e f
        · rw [hm] at LBC
          exact rorders_lt1 a b c d e f _ _ _ _ w T AW (Lib.hid L1) (Lib.hid L2) (Lib.hid S1) (Lib.hid CA) (Lib.hid CB) (Lib.hid IA) (Lib.hid IB) (Lib.hid LYX) (Lib.hid SXY) (Lib.hid LBC)
        · have h3 : okR e f = true := by
            unfold lessI at hm
            rw [h2] at hm
            simp at hm
            exact hm.1
          have v6 : lessI a b e f = true := (less_iff h1 h3).2 (less_trans h1 h2 h3 h ((less_iff h2 h3).1 hm))
          rw [hm] at LBC
          rw [v6] at LAC
          exact rorders_lt2 a b c d e f _ _ _ _ w T AW (Lib.hid L1) (Lib.hid L2) (Lib.hid S1) (Lib.hid CA) (Lib.hid CB) (Lib.hid IA) (Lib.hid IB) (Lib.hid LYX) (Lib.hid SXY) (Lib.hid LBC) (Lib.hid LAC)
      · have v1 : lessI a b c d = false := Bool.eq_false_iff.2 fun h' => by have := q1.1 h'; omega
        have v2 : lessI c d a b = true := q2.2 h
        have v3 : sameI a b c d = false := Bool.eq_false_iff.2 fun h' => by have := q3.1 h'; omega
        have v4 : lessI (lowI d c).1 (lowI d c).2 (lowI b a).1 (lowI b a).2 = false := Bool.eq_false_iff.2 fun h' => by have := q4.1 h'; omega
        have v5 : sameI (lowI b a).1 (lowI b a).2 (lowI d c).1 (lowI d c).2 = false := Bool.eq_false_iff.2 fun h' => by have := q5.1 h'; omega
        rw [v1] at L1
        rw [v2] at L2
        rw [v3] at S1
        rw [v4] at LYX
        rw [v5] at SXY
        exact rorders_gt a b c d e f _ _ _ _ w T AW (Lib.hid L1) (Lib.hid L2) (Lib.hid S1) (Lib.hid CA) (Lib.hid CB) (Lib.hid IA) (Lib.hid IB) (Lib.hid LYX) (Lib.hid SXY)
      · have v1 : lessI a b c d = false := Bool.eq_false_iff.2 fun h' => by have := q1.1 h'; omega
        have v2 : lessI c d a b = false := Bool.eq_false_iff.2 fun h' => by have := q2.1 h'; omega
        have v3 : sameI a b c d = true := q3.2 h
        have v4 : lessI (lowI d c).1 (lowI d c).2 (lowI b a).1 (lowI b a).2 = false := Bool.eq_false_iff.2 fun h' => by have := q4.1 h'; omega
        have v5 : sameI (lowI b a).1 (lowI b a).2 (lowI d c).1 (lowI d c).2 = true := q5.2 h
        rw [v1] at L1
        rw [v2] at L2
        rw [v3] at S1
        rw [v4] at LYX
        rw [v5] at SXY
        exact rorders_eq a b c d e f _ _ _ _ w T AW (Lib.hid L1) (Lib.hid L2) (Lib.hid S1) (Lib.hid CA) (Lib.hid CB) (Lib.hid IA) (Lib.hid IB) (Lib.hid LYX) (Lib.hid SXY)
end Go.Proofs.YtkjdkhcpeaepoaaDoor
