/-
  Chapter 4: Same, Less, Inverse, Apply.
-/
import Derived.Test.YtkdpiikfiodopaaDoorRa
import Derived.Test.YtkdpiikfiodopaaDoorSc2
namespace Go.Proofs.YtkdpiikfiodopaaDoor
open Go.RowKit

def sameI (n d m e : Int) : Bool := okR n d && (((normI n d).1 == (normI m e).1) && ((normI n d).2 == (normI m e).2))
def lessI (n d m e : Int) : Bool := okR n d && (okR m e && decide (n * e < m * d))
theorem okR_false {n d : Int} (h : okR n d = false) : chkI n d = 11 := by
  unfold chkI
  rw [h]
  rfl
theorem okR_true {n d : Int} (h : okR n d = true) : chkI n d = 0 := if_pos h
theorem normI_range (n d : Int) : 0 ≤ (normI n d).1 ∧ (normI n d).1 ≤ 1000000000000 ∧ 0 ≤ (normI n d).2 ∧ (normI n d).2 ≤ 1000000000000 := by
  unfold normI lowI
  split
  · rename_i h
    have h' := (okR_iff n d).1 h
    obtain ⟨g1, g2, g3, e1, e2, e3, e4⟩ := gcdI_spec h'.1 h'.2.1
    simp only
    omega
  · simp

set_option maxRecDepth 100000 in
set_option maxHeartbeats 1000000 in
theorem same_any (n d m e : Int) (w : World) (T : Tb w) :
    Calls Tryd.prog 52 #[.agg #[.int .i64 n, .int .i64 d], .agg #[.int .i64 m, .int .i64 e]] w fun e' w' => e' = .returned (.bool (sameI n d m e)) ∧ Below w.heap.size w w' := by
  have CH := Lib.hid fun w => check_any n d w
  have NA := Lib.hid fun (w : World) (T : Tb w) => norm_any n d w T
  have NB := Lib.hid fun (w : World) (T : Tb w) => norm_any m e w T
  have EQ := fun (w : World) => req (normI n d).1 (normI n d).2 (normI m e).1 (normI m e).2 w
  unfold sameI
  cases h : okR n d
  · rw [okR_false h] at CH
    go_enter Tryd.func52, Tryd.ntmps52
    go_wp2_with fail
    obtain ⟨W1, hW1⟩ : ∃ W1, W1 = (w.alloc (.cells #[.int .i64 n, .int .i64 d] 23)).alloc (.cells #[.int .i64 m, .int .i64 e] 23) := ⟨_, rfl⟩
    have x2 : Box W1 w.heap.size 23 #[.int .i64 n, .int .i64 d] := by rw [hW1]; exact (Box.new _ _ _).alloc _
    have x3 : Box W1 (w.heap.size + 1) 23 #[.int .i64 m, .int .i64 e] := by rw [hW1]; exact Box.new' (by simp)
    have B1 : Below w.heap.size w W1 := by rw [hW1]; exact ((Below.refl _ _).alloc (Nat.le_refl _) _).alloc (by simp) _
    replace T : Tb W1 := by rw [hW1]; exact (T.alloc _).alloc _
    rewrite [← hW1]
    clear hW1
    have k2 := x2.cells
    have k3 := x3.cells
    go_region_with (first | (go_at_call 41; (with_reducible refine (CH.out _).mono ?_); rintro e' w1 ⟨rfl, b1⟩))
    all_goals
      go_wp2
      go_ret
      exact ⟨rfl, B1.trans ((below_undrew b1).mono B1.size)⟩
  · rw [okR_true h] at CH
    generalize normI n d = p at *
    generalize normI m e = q at *
    generalize hb : ((p.1 == q.1) && (p.2 == q.2)) = bb at *
    clear hb h
    go_enter Tryd.func52, Tryd.ntmps52
    go_wp2_with fail
    obtain ⟨W1, hW1⟩ : ∃ W1, W1 = (w.alloc (.cells #[.int .i64 n, .int .i64 d] 23)).alloc (.cells #[.int .i64 m, .int .i64 e] 23) := ⟨_, rfl⟩
    have x2 : Box W1 w.heap.size 23 #[.int .i64 n, .int .i64 d] := by rw [hW1]; exact (Box.new _ _ _).alloc _
    have x3 : Box W1 (w.heap.size + 1) 23 #[.int .i64 m, .int .i64 e] := by rw [hW1]; exact Box.new' (by simp)
    have B1 : Below w.heap.size w W1 := by rw [hW1]; exact ((Below.refl _ _).alloc (Nat.le_refl _) _).alloc (by simp) _
    replace T : Tb W1 := by rw [hW1]; exact (T.alloc _).alloc _
    rewrite [← hW1]
    clear hW1
    have k2 := x2.cells
    have k3 := x3.cells
    have kkx2 := x2.cells
    have kkx3 := x3.cells
    first | go_region_held3 (fun w' => w'.cell? ⟨w.heap.size, 0, none⟩ = some (.int .i64 n) ∧ w'.cell? ⟨w.heap.size, 1, none⟩ = some (.int .i64 d) ∧ w'.cell? ⟨w.heap.size + 1, 0, none⟩ = some (.int .i64 m) ∧ w'.cell? ⟨w.heap.size + 1, 1, none⟩ = some (.int .i64 e)) (go_keep)
      (first
        | (go_at_call 41; (with_reducible refine (CH.out _).mono ?_); rintro e w60 ⟨rfl, b60⟩; have yx2 : Box w60 (w.heap.size) 23 #[.int .i64 n, .int .i64 d] := (by first | exact (x2).drew.later b60); have kyx2 := yx2.cells; have yx3 : Box w60 (w.heap.size + 1) 23 #[.int .i64 m, .int .i64 e] := (by first | exact (x3).drew.later b60); have kyx3 := yx3.cells; have cb : Below W1.heap.size W1 w60 := (by first | exact (below_undrew b60)); have T := T.drew.below b60 (Nat.le_refl _))
        | (go_at_call 42; (with_reducible refine (NA.out _ T).mono ?_); rintro e w61 ⟨rfl, b61⟩; have yx2 : Box w61 (w.heap.size) 23 #[.int .i64 n, .int .i64 d] := (by first | exact (yx2).later b61); have kyx2 := yx2.cells; have yx3 : Box w61 (w.heap.size + 1) 23 #[.int .i64 m, .int .i64 e] := (by first | exact (yx3).later b61); have kyx3 := yx3.cells; have cb : Below W1.heap.size W1 w61 := (by first | exact cb.trans (b61.mono cb.size)); have T := T.below b61 (Nat.le_refl _))
        | (go_at_call 42; (with_reducible refine (NB.out _ T).mono ?_); rintro e w62 ⟨rfl, b62⟩; have yx2 : Box w62 (w.heap.size) 23 #[.int .i64 n, .int .i64 d] := (by first | exact (yx2).later b62); have kyx2 := yx2.cells; have yx3 : Box w62 (w.heap.size + 1) 23 #[.int .i64 m, .int .i64 e] := (by first | exact (yx3).later b62); have kyx3 := yx3.cells; have cb : Below W1.heap.size W1 w62 := (by first | exact cb.trans (b62.mono cb.size)); have T := T.below b62 (Nat.le_refl _)))
    go_wp2
    go_ret
    rw [Bool.true_and]
    exact ⟨rfl, B1.trans (cb.mono B1.size)⟩

set_option maxRecDepth 100000 in
set_option maxHeartbeats 1000000 in
theorem sides_any (n d m e : Int) (w : World) (n1 : 0 ≤ n) (n2 : n ≤ 1000000000000) (d1 : 0 ≤ d) (d2 : d ≤ 1000000000000) (m1 : 0 ≤ m) (m2 : m ≤ 1000000000000) (e1 : 0 ≤ e) (e2 : e ≤ 1000000000000) :
    Calls Tryd.prog 91 #[.agg #[.int .i64 n, .int .i64 d, .int .i64 m, .int .i64 e]] w fun e' w' => e' = .returned (.tuple #[WV (n * e), WV (m * d)]) ∧ Below w.heap.size w w' := by
  have M1 := Lib.hid fun w => wmul_any (a := n) (b := e) (w := w) (by omega) (by omega) (by omega) (by omega)
  have M2 := Lib.hid fun w => wmul_any (a := m) (b := d) (w := w) (by omega) (by omega) (by omega) (by omega)
  simp only [WV_out] at M1 M2 ⊢
  clear n1 n2 d1 d2 m1 m2 e1 e2
  generalize n * e / 18446744073709551616 = xh at *
  generalize n * e % 18446744073709551616 = xl at *
  generalize m * d / 18446744073709551616 = yh at *
  generalize m * d % 18446744073709551616 = yl at *
  go_enter Tryd.func91, Tryd.ntmps91
  go_wp2
  obtain ⟨W1, hW1⟩ : ∃ W1, W1 = ((w.alloc (.cells #[.int .i64 n, .int .i64 d, .int .i64 m, .int .i64 e] 119)).alloc (.cells #[.int .i64 0, .int .u64 0] 69)).alloc (.cells #[.int .i64 0, .int .u64 0] 69) := ⟨_, rfl⟩
  have x1 : Box W1 w.heap.size 119 #[.int .i64 n, .int .i64 d, .int .i64 m, .int .i64 e] := by rw [hW1]; exact ((Box.new _ _ _).alloc _).alloc _
  have x2 : Box W1 (w.heap.size + 1) 69 #[.int .i64 0, .int .u64 0] := by rw [hW1]; exact (Box.new' (by simp)).alloc _
  have x3 : Box W1 (w.heap.size + 2) 69 #[.int .i64 0, .int .u64 0] := by rw [hW1]; exact Box.new' (by simp)
  have B1 : Below w.heap.size w W1 := by rw [hW1]; exact (((Below.refl _ _).alloc (Nat.le_refl _) _).alloc (by simp) _).alloc (by simp; omega) _
  rewrite [← hW1]
  clear hW1
  have k1 := x1.cells
  have ne1 : w.heap.size ≠ w.heap.size + 1 := by omega
  have ne2 : w.heap.size ≠ w.heap.size + 1 + 1 := by omega
  have ne3 : w.heap.size + 1 ≠ w.heap.size := by omega
  have ne4 : w.heap.size + 1 + 1 ≠ w.heap.size := by omega
  have ne5 : w.heap.size + 1 ≠ w.heap.size + 1 + 1 := by omega
  have ne6 : w.heap.size + 1 + 1 ≠ w.heap.size + 1 := by omega
  have kkx1 := x1.cells
  first | go_region_held3 (fun w' => w'.cell? ⟨w.heap.size, 0, none⟩ = some (.int .i64 n) ∧ w'.cell? ⟨w.heap.size, 1, none⟩ = some (.int .i64 d) ∧ w'.cell? ⟨w.heap.size, 2, none⟩ = some (.int .i64 m) ∧ w'.cell? ⟨w.heap.size, 3, none⟩ = some (.int .i64 e)) (go_keep)
    (first
      | (go_at_call 46; (with_reducible refine (M1.out _).mono ?_); rintro e w60 ⟨rfl, b60⟩; have yx1 : Box w60 (w.heap.size) 119 #[.int .i64 n, .int .i64 d, .int .i64 m, .int .i64 e] := (by first | exact (x1).drew.later b60); have kyx1 := yx1.cells; have cb : Below W1.heap.size W1 w60 := (by first | exact (below_undrew b60)); have x2 := x2.drew.later b60; have x3 := x3.drew.later b60; have f2 := x2.free; have f3 := x3.free; have l2 := x2.lt; have l3 := x3.lt; have k2 := x2.cells; have k3 := x3.cells)
      | (go_at_call 46; (with_reducible refine (M2.out _).mono ?_); rintro e w61 ⟨rfl, b61⟩; have yx1 : Box w61 (w.heap.size) 119 #[.int .i64 n, .int .i64 d, .int .i64 m, .int .i64 e] := (by first | exact (yx1).later b61); have kyx1 := yx1.cells; have cb : Below W1.heap.size W1 w61 := (by first | exact cb.trans (b61.mono cb.size)); have x2 := x2.later b61; have x3 := x3.later b61; have f2 := x2.free; have f3 := x3.free; have l2 := x2.lt; have l3 := x3.lt; have k2 := x2.cells; have k3 := x3.cells))
  all_goals
    have B2 := B1.trans (cb.mono B1.size)
    go_wp2
    refine bodyPost_ret (by unfold results; simp only [Tryd.results91]; go_simp; rfl) rfl ?_
    exact ⟨rfl, (((B2.setCell (by simp) _).setCell (by simp) _).setCell (by simp; omega) _).setCell (by simp; omega) _⟩

set_option maxRecDepth 100000 in
set_option maxHeartbeats 1000000 in
theorem less_any (n d m e : Int) (w : World) :
    Calls Tryd.prog 53 #[.agg #[.int .i64 n, .int .i64 d], .agg #[.int .i64 m, .int .i64 e]] w fun e' w' => e' = .returned (.bool (lessI n d m e)) ∧ Below w.heap.size w w' := by
  have CA := Lib.hid fun w => check_any n d w
  have CB := Lib.hid fun w => check_any m e w
  unfold lessI
  cases h : okR n d
  · rw [okR_false h] at CA
    go_enter Tryd.func53, Tryd.ntmps53
    have B0 := Below.refl w.heap.size w
    go_wp2_with fail
    refine (CA.out _).mono ?_
    rintro e w1 ⟨rfl, b1⟩
    have x2 := ((Box.new w 23 #[.int .i64 n, .int .i64 d]).alloc (.cells #[.int .i64 m, .int .i64 e] 23)).later b1
    have x3 := (Box.new' (w := w.alloc (.cells #[.int .i64 n, .int .i64 d] 23)) (g := w.heap.size + 1) (t := 23) (cs := #[.int .i64 m, .int .i64 e]) (by simp)).later b1
    have b1 := below_up b1
    have b1 := below_up b1
    have B1 := B0.trans (b1.mono B0.size)
    clear b1 B0
    have k2 := x2.cells
    have k3 := x3.cells
    have l2 := x2.lt
    have l3 := x3.lt
    go_wp2
    go_ret
    exact ⟨rfl, B1⟩
  · rw [okR_true h] at CA
    cases h2 : okR m e
    · rw [okR_false h2] at CB
      go_enter Tryd.func53, Tryd.ntmps53
      have B0 := Below.refl w.heap.size w
      go_wp2_with fail
      refine (CA.out _).mono ?_
      rintro e w1 ⟨rfl, b1⟩
      have x2 := ((Box.new w 23 #[.int .i64 n, .int .i64 d]).alloc (.cells #[.int .i64 m, .int .i64 e] 23)).later b1
      have x3 := (Box.new' (w := w.alloc (.cells #[.int .i64 n, .int .i64 d] 23)) (g := w.heap.size + 1) (t := 23) (cs := #[.int .i64 m, .int .i64 e]) (by simp)).later b1
      have b1 := below_up b1
      have b1 := below_up b1
      have B1 := B0.trans (b1.mono B0.size)
      clear b1 B0
      have k2 := x2.cells
      have k3 := x3.cells
      have l2 := x2.lt
      have l3 := x3.lt
      clear CA
      go_wp2_with fail
      refine (CB.out _).mono ?_
      rintro e w2 ⟨rfl, b2⟩
      replace x2 := x2.later b2
      replace x3 := x3.later b2
      have B2 := B1.trans (b2.mono B1.size)
      clear b2 B1
      go_wp2
      go_ret
      exact ⟨rfl, B2⟩
    · rw [okR_true h2] at CB
      have h' := (okR_iff n d).1 h
      have h2' := (okR_iff m e).1 h2
      have SD := Lib.hid fun w => sides_any n d m e w (by omega) (by omega) (by omega) (by omega) (by omega) (by omega) (by omega) (by omega)
      have WC := Lib.hid fun (w : World) => wcmp_any (x := n * e) (y := m * d) (w := w)
      have CC := Lib.hid (show decide (cmpI (n * e) (m * d) < 0) = (true && (true && decide (n * e < m * d))) by
        rw [Bool.true_and, Bool.true_and]
        rcases (by omega : n * e < m * d ∨ n * e = m * d ∨ m * d < n * e) with h | h | h
        · rw [cmpI_lt h, decide_eq_true h]; rfl
        · rw [cmpI_eq h]; have h3 : ¬ n * e < m * d := by omega
          simp [h3]
        · rw [cmpI_gt h]; have h3 : ¬ n * e < m * d := by omega
          simp [h3])
      simp only [WV_out] at SD WC
      clear h h2 h' h2'
      generalize n * e / 18446744073709551616 = xh at *
      generalize n * e % 18446744073709551616 = xl at *
      generalize m * d / 18446744073709551616 = yh at *
      generalize m * d % 18446744073709551616 = yl at *
      go_enter Tryd.func53, Tryd.ntmps53
      have B0 := Below.refl w.heap.size w
      go_wp2_with fail
      refine (CA.out _).mono ?_
      rintro e w1 ⟨rfl, b1⟩
      have x2 := ((Box.new w 23 #[.int .i64 n, .int .i64 d]).alloc (.cells #[.int .i64 m, .int .i64 e] 23)).later b1
      have x3 := (Box.new' (w := w.alloc (.cells #[.int .i64 n, .int .i64 d] 23)) (g := w.heap.size + 1) (t := 23) (cs := #[.int .i64 m, .int .i64 e]) (by simp)).later b1
      have b1 := below_up b1
      have b1 := below_up b1
      have B1 := B0.trans (b1.mono B0.size)
      clear b1 B0
      have k2 := x2.cells
      have k3 := x3.cells
      have l2 := x2.lt
      have l3 := x3.lt
      clear CA
      go_wp2_with fail
      refine (CB.out _).mono ?_
      rintro e w2 ⟨rfl, b2⟩
      replace x2 := x2.later b2
      replace x3 := x3.later b2
      have B2 := B1.trans (b2.mono B1.size)
      clear b2 B1
      clear k2 k3 l2 l3
      have k2 := x2.cells
      have k3 := x3.cells
      have l2 := x2.lt
      have l3 := x3.lt
      go_wp2_with fail
      refine (SD.out _).mono ?_
      rintro e w3 ⟨rfl, b3⟩
      replace x2 := x2.later b3
      replace x3 := x3.later b3
      have B3 := B2.trans (b3.mono B2.size)
      clear b3 B2
      clear k2 k3 l2 l3
      go_wp2_with fail
      refine (WC.out _).mono ?_
      rintro e w4 ⟨rfl, b4⟩
      replace x2 := ((x2.alloc _).alloc _).later b4
      replace x3 := ((x3.alloc _).alloc _).later b4
      have b4 := below_up b4
      have b4 := below_up b4
      have B4 := B3.trans (b4.mono B3.size)
      clear b4 B3
      go_wp2
      go_ret
      exact ⟨congrArg (fun b => Ending.returned (.bool b)) CC.out, B4⟩

def invI (n d : Int) : (Int × Int) × Int := if okR n d = true then (normI d n, 0) else ((0, 0), 11)
set_option maxRecDepth 100000 in
set_option maxHeartbeats 1000000 in
theorem inverse_any (n d : Int) (w : World) (T : Tb w) :
    Calls Tryd.prog 9 #[.agg #[.int .i64 n, .int .i64 d]] w fun e' w' => e' = .returned (.tuple #[.agg #[.int .i64 (invI n d).1.1, .int .i64 (invI n d).1.2], .int .i64 (invI n d).2]) ∧ Below w.heap.size w w' := by
  have CA := Lib.hid fun w => check_any n d w
  have NR := Lib.hid fun (w : World) (T : Tb w) => norm_any d n w T
  unfold invI
  cases h : okR n d
  · rw [okR_false h] at CA
    rw [if_neg (by decide)]
    go_enter Tryd.func9, Tryd.ntmps9
    have B0 := Below.refl w.heap.size w
    go_wp2_with fail
    refine (CA.out _).mono ?_
    rintro e w1 ⟨rfl, b1⟩
    have x1 := ((Box.new w 23 #[.int .i64 n, .int .i64 d]).alloc (.cells #[.int .i64 0, .int .i64 0] 23)).later b1
    have x2 := (Box.new' (w := w.alloc (.cells #[.int .i64 n, .int .i64 d] 23)) (g := w.heap.size + 1) (t := 23) (cs := #[.int .i64 0, .int .i64 0]) (by simp)).later b1
    replace T := ((T.alloc _).alloc _).below b1 (Nat.le_refl _)
    have b1 := below_up b1
    have b1 := below_up b1
    have B1 := B0.trans (b1.mono B0.size)
    clear b1 B0
    have k1 := x1.cells
    have k2 := x2.cells
    have l1 := x1.lt
    have l2 := x2.lt
    have f2 := x2.free
    go_wp2
    refine bodyPost_ret (by unfold results; simp only [Tryd.results9]; go_simp; rfl) rfl ?_
    exact ⟨rfl, (B1.setCell (by simp) _).setCell (by simp) _⟩
  · rw [okR_true h] at CA
    rw [if_pos rfl]
    generalize normI d n = p at *
    go_enter Tryd.func9, Tryd.ntmps9
    have B0 := Below.refl w.heap.size w
    go_wp2_with fail
    refine (CA.out _).mono ?_
    rintro e w1 ⟨rfl, b1⟩
    have x1 := ((Box.new w 23 #[.int .i64 n, .int .i64 d]).alloc (.cells #[.int .i64 0, .int .i64 0] 23)).later b1
    have x2 := (Box.new' (w := w.alloc (.cells #[.int .i64 n, .int .i64 d] 23)) (g := w.heap.size + 1) (t := 23) (cs := #[.int .i64 0, .int .i64 0]) (by simp)).later b1
    replace T := ((T.alloc _).alloc _).below b1 (Nat.le_refl _)
    have b1 := below_up b1
    have b1 := below_up b1
    have B1 := B0.trans (b1.mono B0.size)
    clear b1 B0
    have k1 := x1.cells
    have k2 := x2.cells
    have l1 := x1.lt
    have l2 := x2.lt
    have f2 := x2.free
    clear CA
    go_wp2_with fail
    refine (NR.out _ T).mono ?_
    rintro e w2 ⟨rfl, b2⟩
    replace T := T.below b2 (Nat.le_refl _)
    replace x1 := x1.later b2
    replace x2 := x2.later b2
    have B2 := B1.trans (b2.mono B1.size)
    clear b2 B1
    clear k1 k2 l1 l2 f2
    have k2 := x2.cells
    have l2 := x2.lt
    have f2 := x2.free
    go_wp2
    refine bodyPost_ret (by unfold results; simp only [Tryd.results9]; go_simp; rfl) rfl ?_
    exact ⟨rfl, (B2.setCell (by simp) _).setCell (by simp) _⟩

def applyI (x n d : Int) : Int × Int := if okR n d = true then evenI (x * n) d else (0, 11)
set_option maxRecDepth 100000 in
set_option maxHeartbeats 1000000 in
theorem apply_any (x n d : Int) (w : World) (x1 : -9223372036854775808 ≤ x) (x2 : x ≤ 9223372036854775807) :
    Calls Tryd.prog 13 #[.int .i64 x, .agg #[.int .i64 n, .int .i64 d]] w fun e' w' => e' = .returned (.tuple #[.int .i64 (applyI x n d).1, .int .i64 (applyI x n d).2]) ∧ Below w.heap.size w w' := by
  have CA := Lib.hid fun w => check_any n d w
  unfold applyI
  cases h : okR n d
  · rw [okR_false h] at CA
    rw [if_neg (by decide)]
    go_enter Tryd.func13, Tryd.ntmps13
    have B0 := Below.refl w.heap.size w
    go_wp2_with fail
    refine (CA.out _).mono ?_
    rintro e w1 ⟨rfl, b1⟩
    have x3 := (Box.new w 23 #[.int .i64 n, .int .i64 d]).later b1
    have b1 := below_up b1
    have B1 := B0.trans (b1.mono B0.size)
    clear b1 B0
    have k3 := x3.cells
    have l3 := x3.lt
    go_wp2
    go_ret2
    exact ⟨rfl, B1⟩
  · have h' := (okR_iff n d).1 h
    rw [okR_true h] at CA
    rw [if_pos rfl]
    have SC := Lib.hid fun w => scale_any (x := x) (n := n) (d := d) x1 x2 (by omega) (by omega) (by omega) w
    generalize evenI (x * n) d = p at *
    clear h h' x1 x2
    go_enter Tryd.func13, Tryd.ntmps13
    have B0 := Below.refl w.heap.size w
    go_wp2_with fail
    refine (CA.out _).mono ?_
    rintro e w1 ⟨rfl, b1⟩
    have x3 := (Box.new w 23 #[.int .i64 n, .int .i64 d]).later b1
    have b1 := below_up b1
    have B1 := B0.trans (b1.mono B0.size)
    clear b1 B0
    have k3 := x3.cells
    have l3 := x3.lt
    clear CA
    go_wp2_with fail
    refine (SC.out _).mono ?_
    rintro e w2 ⟨rfl, b2⟩
    replace x3 := x3.later b2
    have B2 := B1.trans (b2.mono B1.size)
    clear b2 B1
    go_wp2
    go_ret2
    exact ⟨rfl, B2⟩

end Go.Proofs.YtkdpiikfiodopaaDoor
