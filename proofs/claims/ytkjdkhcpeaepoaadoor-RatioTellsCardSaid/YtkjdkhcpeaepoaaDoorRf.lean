/-
  The reference of chapter 4: cross, Same, Less, Norm.
-/
import Derived.Test.YtkjdkhcpeaepoaaDoorRe
import Derived.Test.YtkjdkhcpeaepoaaDoorRAw
namespace Go.Proofs.YtkjdkhcpeaepoaaDoor
open Go.RowKit

set_option maxRecDepth 100000 in
set_option maxHeartbeats 2000000 in
theorem cross_any (n d m e : Int) (w : World) (n1 : -9223372036854775808 ≤ n) (n2 : n ≤ 9223372036854775807) (d1 : -9223372036854775808 ≤ d) (d2 : d ≤ 9223372036854775807) (m1 : -9223372036854775808 ≤ m) (m2 : m ≤ 9223372036854775807) (e1 : -9223372036854775808 ≤ e) (e2 : e ≤ 9223372036854775807) :
    Calls Tryd.prog 40 #[.agg #[.int .i64 n, .int .i64 d], .agg #[.int .i64 m, .int .i64 e]] w fun e' w' => e' = .returned (.int .i64 (cmpI (n * e) (m * d))) ∧ Below w.heap.size w w' := by
  have On := Lib.hid fun (w : World) => of_any n w n1 n2
  have Od := Lib.hid fun (w : World) => of_any d w d1 d2
  have Om := Lib.hid fun (w : World) => of_any m w m1 m2
  have Oe := Lib.hid fun (w : World) => of_any e w e1 e2
  have TA := Lib.hid fun (w : World) S S' va vb (ha : BigIs S w va n 19) (hb : BigIs S' w vb e 19) => times_any ha hb (by omega)
  have TB := Lib.hid fun (w : World) S S' va vb (ha : BigIs S w va m 19) (hb : BigIs S' w vb d 19) => times_any ha hb (by omega)
  have CM := Lib.hid fun (w : World) S S' va vb (ha : BigIs S w va (n * e) 38) (hb : BigIs S' w vb (m * d) 38) => cmp_any ha hb (by omega) (by omega)
  clear n1 n2 d1 d2 m1 m2 e1 e2
  generalize cmpI (n * e) (m * d) = q at *
  go_enter Tryd.func40, Tryd.ntmps40
  go_wp2
  obtain ⟨W1, hW1⟩ : ∃ W1, W1 = (w.alloc (.cells #[.int .i64 n, .int .i64 d] 23)).alloc (.cells #[.int .i64 m, .int .i64 e] 23) := ⟨_, rfl⟩
  have x2 : Box W1 w.heap.size 23 #[.int .i64 n, .int .i64 d] := by rw [hW1]; exact (Box.new _ _ _).alloc _
  have x3 : Box W1 (w.heap.size + 1) 23 #[.int .i64 m, .int .i64 e] := by rw [hW1]; exact Box.new' (by simp)
  have B1 : Below w.heap.size w W1 := by rw [hW1]; exact ((Below.refl _ _).alloc (Nat.le_refl _) _).alloc (by simp) _
  rewrite [← hW1]
  clear hW1
  have kkx2 := x2.cells
  have kkx3 := x3.cells
  first | go_region_held3 (fun w' => w'.cell? ⟨w.heap.size, 0, none⟩ = some (.int .i64 n) ∧ w'.cell? ⟨w.heap.size, 1, none⟩ = some (.int .i64 d) ∧ w'.cell? ⟨w.heap.size + 1, 0, none⟩ = some (.int .i64 m) ∧ w'.cell? ⟨w.heap.size + 1, 1, none⟩ = some (.int .i64 e)) (go_keep)
    (first
      | (go_at_call 37; (with_reducible refine (On.out _).mono ?_); rintro e w60 ⟨v1, rfl, m1, b60⟩; have yx2 : Box w60 (w.heap.size) 23 #[.int .i64 n, .int .i64 d] := (by first | exact (x2).drew.later b60); have kyx2 := yx2.cells; have yx3 : Box w60 (w.heap.size + 1) 23 #[.int .i64 m, .int .i64 e] := (by first | exact (x3).drew.later b60); have kyx3 := yx3.cells; have cb : Below W1.heap.size W1 w60 := (by first | exact (below_undrew b60)); obtain ⟨t1, A1, j1, c1, rfl⟩ := m1.form2)
      | (go_at_call 37; (with_reducible refine (Oe.out _).mono ?_); rintro e w61 ⟨v2, rfl, m2, b61⟩; have yx2 : Box w61 (w.heap.size) 23 #[.int .i64 n, .int .i64 d] := (by first | exact (yx2).later b61); have kyx2 := yx2.cells; have yx3 : Box w61 (w.heap.size + 1) 23 #[.int .i64 m, .int .i64 e] := (by first | exact (yx3).later b61); have kyx3 := yx3.cells; have cb : Below W1.heap.size W1 w61 := (by first | exact cb.trans (b61.mono cb.size)); have m1 := m1.below b61 (Nat.le_refl _); obtain ⟨t2, A2, j2, c2, rfl⟩ := m2.form2)
      | (go_at_call 45; (with_reducible refine (TA.out _ _ _ _ _ m1 m2).mono ?_); rintro e w62 ⟨v3, rfl, m3, b62⟩; have yx2 : Box w62 (w.heap.size) 23 #[.int .i64 n, .int .i64 d] := (by first | exact (yx2).later b62); have kyx2 := yx2.cells; have yx3 : Box w62 (w.heap.size + 1) 23 #[.int .i64 m, .int .i64 e] := (by first | exact (yx3).later b62); have kyx3 := yx3.cells; have cb : Below W1.heap.size W1 w62 := (by first | exact cb.trans (b62.mono cb.size)); obtain ⟨t3, A3, j3, c3, rfl⟩ := m3.form2)
      | (go_at_call 37; (with_reducible refine (Om.out _).mono ?_); rintro e w63 ⟨v4, rfl, m4, b63⟩; have yx2 : Box w63 (w.heap.size) 23 #[.int .i64 n, .int .i64 d] := (by first | exact (yx2).later b63); have kyx2 := yx2.cells; have yx3 : Box w63 (w.heap.size + 1) 23 #[.int .i64 m, .int .i64 e] := (by first | exact (yx3).later b63); have kyx3 := yx3.cells; have cb : Below W1.heap.size W1 w63 := (by first | exact cb.trans (b63.mono cb.size)); have m3 := m3.below b63 (Nat.le_refl _); obtain ⟨t4, A4, j4, c4, rfl⟩ := m4.form2)
      | (go_at_call 37; (with_reducible refine (Od.out _).mono ?_); rintro e w64 ⟨v5, rfl, m5, b64⟩; have yx2 : Box w64 (w.heap.size) 23 #[.int .i64 n, .int .i64 d] := (by first | exact (yx2).later b64); have kyx2 := yx2.cells; have yx3 : Box w64 (w.heap.size + 1) 23 #[.int .i64 m, .int .i64 e] := (by first | exact (yx3).later b64); have kyx3 := yx3.cells; have cb : Below W1.heap.size W1 w64 := (by first | exact cb.trans (b64.mono cb.size)); have m3 := m3.below b64 (Nat.le_refl _); have m4 := m4.below b64 (Nat.le_refl _); obtain ⟨t5, A5, j5, c5, rfl⟩ := m5.form2)
      | (go_at_call 45; (with_reducible refine (TB.out _ _ _ _ _ m4 m5).mono ?_); rintro e w65 ⟨v6, rfl, m6, b65⟩; have yx2 : Box w65 (w.heap.size) 23 #[.int .i64 n, .int .i64 d] := (by first | exact (yx2).later b65); have kyx2 := yx2.cells; have yx3 : Box w65 (w.heap.size + 1) 23 #[.int .i64 m, .int .i64 e] := (by first | exact (yx3).later b65); have kyx3 := yx3.cells; have cb : Below W1.heap.size W1 w65 := (by first | exact cb.trans (b65.mono cb.size)); have m3 := m3.below b65 (Nat.le_refl _); obtain ⟨t6, A6, j6, c6, rfl⟩ := m6.form2)
      | (go_at_call 53; (with_reducible refine (CM.out _ _ _ _ _ m3 m6).mono ?_); rintro e w66 ⟨rfl, b66⟩; have yx2 : Box w66 (w.heap.size) 23 #[.int .i64 n, .int .i64 d] := (by first | exact (yx2).later b66); have kyx2 := yx2.cells; have yx3 : Box w66 (w.heap.size + 1) 23 #[.int .i64 m, .int .i64 e] := (by first | exact (yx3).later b66); have kyx3 := yx3.cells; have cb : Below W1.heap.size W1 w66 := (by first | exact cb.trans (b66.mono cb.size))))
  go_wp2
  go_ret
  exact ⟨rfl, B1.trans (cb.mono B1.size)⟩

set_option maxRecDepth 100000 in
set_option maxHeartbeats 1000000 in
theorem r4same_any (n d m e : Int) (w : World) (q : Bool) (hq : Hid (okR n d = true → okR m e = true → (cmpI (n * e) (m * d) == 0) = q)) (hn : Hid (okR n d = false ∨ okR m e = false → q = false)) :
    Calls Tryd.prog 16 #[.agg #[.int .i64 n, .int .i64 d], .agg #[.int .i64 m, .int .i64 e]] w fun e' w' => e' = .returned (.bool q) ∧ Below w.heap.size w w' := by
  have CA := Lib.hid fun w => r4check_any n d w
  have CB := Lib.hid fun w => r4check_any m e w
  cases h : okR n d
  · rw [okR_false h] at CA
    obtain rfl := hn.out (.inl h)
    go_enter Tryd.func16, Tryd.ntmps16
    have B0 := Below.refl w.heap.size w
    go_wp2_with fail
    refine (CA.out _).mono ?_
    rintro e w1 ⟨rfl, b1⟩
    have x2 := ((Box.new w 23 #[.int .i64 n, .int .i64 d]).alloc (.cells #[.int .i64 m, .int .i64 e] 23)).later b1
    have x3 := (Box.new' (w := w.alloc (.cells #[.int .i64 n, .int .i64 d] 23)) (g := w.heap.size + 1) (t := 23) (cs := #[.int .i64 m, .int .i64 e]) (by simp)).later b1
    have b1 := below_up b1
    have b1 := below_up b1
    have B1 := B0.trans (b1.mono B0.size)
    clear b1 B0
    go_wp2
    go_ret
    exact ⟨rfl, B1⟩
  · rw [okR_true h] at CA
    cases h2 : okR m e
    · rw [okR_false h2] at CB
      obtain rfl := hn.out (.inr h2)
      go_enter Tryd.func16, Tryd.ntmps16
      have B0 := Below.refl w.heap.size w
      go_wp2_with fail
      refine (CA.out _).mono ?_
      rintro e w1 ⟨rfl, b1⟩
      have x2 := ((Box.new w 23 #[.int .i64 n, .int .i64 d]).alloc (.cells #[.int .i64 m, .int .i64 e] 23)).later b1
      have x3 := (Box.new' (w := w.alloc (.cells #[.int .i64 n, .int .i64 d] 23)) (g := w.heap.size + 1) (t := 23) (cs := #[.int .i64 m, .int .i64 e]) (by simp)).later b1
      have b1 := below_up b1
      have b1 := below_up b1
      have B1 := B0.trans (b1.mono B0.size)
      clear b1 B0
      have k_x3 := x3.cells
      have l_x3 := x3.lt
      clear CA
      go_wp2_with fail
      refine (CB.out _).mono ?_
      rintro e w2 ⟨rfl, b2⟩
      replace x2 := x2.later b2
      replace x3 := x3.later b2
      have B2 := B1.trans (b2.mono B1.size)
      clear b2 B1
      clear k_x3 l_x3
      go_wp2
      go_ret
      exact ⟨rfl, B2⟩
    · rw [okR_true h2] at CB
      have h' := (okR_iff n d).1 h
      have h2' := (okR_iff m e).1 h2
      have XR := Lib.hid fun w => cross_any n d m e w (by omega) (by omega) (by omega) (by omega) (by omega) (by omega) (by omega) (by omega)
      have HQ := Lib.hid (hq.out h h2)
      generalize cmpI (n * e) (m * d) = c at *
      clear h h2 h' h2' hq hn
      go_enter Tryd.func16, Tryd.ntmps16
      have B0 := Below.refl w.heap.size w
      go_wp2_with fail
      refine (CA.out _).mono ?_
      rintro e w1 ⟨rfl, b1⟩
      have x2 := ((Box.new w 23 #[.int .i64 n, .int .i64 d]).alloc (.cells #[.int .i64 m, .int .i64 e] 23)).later b1
      have x3 := (Box.new' (w := w.alloc (.cells #[.int .i64 n, .int .i64 d] 23)) (g := w.heap.size + 1) (t := 23) (cs := #[.int .i64 m, .int .i64 e]) (by simp)).later b1
      have b1 := below_up b1
      have b1 := below_up b1
      have B1 := B0.trans (b1.mono B0.size)
      clear b1 B0
      have k_x3 := x3.cells
      have l_x3 := x3.lt
      clear CA
      go_wp2_with fail
      refine (CB.out _).mono ?_
      rintro e w2 ⟨rfl, b2⟩
      replace x2 := x2.later b2
      replace x3 := x3.later b2
      have B2 := B1.trans (b2.mono B1.size)
      clear b2 B1
      clear k_x3 l_x3
      have k_x2 := x2.cells
      have l_x2 := x2.lt
      have k_x3 := x3.cells
      have l_x3 := x3.lt
      go_wp2_with fail
      refine (XR.out _).mono ?_
      rintro e w3 ⟨rfl, b3⟩
      replace x2 := x2.later b3
      replace x3 := x3.later b3
      have B3 := B2.trans (b3.mono B2.size)
      clear b3 B2
      clear k_x2 l_x2 k_x3 l_x3
      go_wp2
      go_ret
      exact ⟨congrArg (fun b => Ending.returned (.bool b)) HQ.out, B3⟩

set_option maxRecDepth 100000 in
set_option maxHeartbeats 1000000 in
theorem r4less_any (n d m e : Int) (w : World) (q : Bool) (hq : Hid (okR n d = true → okR m e = true → (decide (cmpI (n * e) (m * d) < 0)) = q)) (hn : Hid (okR n d = false ∨ okR m e = false → q = false)) :
    Calls Tryd.prog 18 #[.agg #[.int .i64 n, .int .i64 d], .agg #[.int .i64 m, .int .i64 e]] w fun e' w' => e' = .returned (.bool q) ∧ Below w.heap.size w w' := by
  have CA := Lib.hid fun w => r4check_any n d w
  have CB := Lib.hid fun w => r4check_any m e w
  cases h : okR n d
  · rw [okR_false h] at CA
    obtain rfl := hn.out (.inl h)
    go_enter Tryd.func18, Tryd.ntmps18
    have B0 := Below.refl w.heap.size w
    go_wp2_with fail
    refine (CA.out _).mono ?_
    rintro e w1 ⟨rfl, b1⟩
    have x2 := ((Box.new w 23 #[.int .i64 n, .int .i64 d]).alloc (.cells #[.int .i64 m, .int .i64 e] 23)).later b1
    have x3 := (Box.new' (w := w.alloc (.cells #[.int .i64 n, .int .i64 d] 23)) (g := w.heap.size + 1) (t := 23) (cs := #[.int .i64 m, .int .i64 e]) (by simp)).later b1
    have b1 := below_up b1
    have b1 := below_up b1
    have B1 := B0.trans (b1.mono B0.size)
    clear b1 B0
    go_wp2
    go_ret
    exact ⟨rfl, B1⟩
  · rw [okR_true h] at CA
    cases h2 : okR m e
    · rw [okR_false h2] at CB
      obtain rfl := hn.out (.inr h2)
      go_enter Tryd.func18, Tryd.ntmps18
      have B0 := Below.refl w.heap.size w
      go_wp2_with fail
      refine (CA.out _).mono ?_
      rintro e w1 ⟨rfl, b1⟩
      have x2 := ((Box.new w 23 #[.int .i64 n, .int .i64 d]).alloc (.cells #[.int .i64 m, .int .i64 e] 23)).later b1
      have x3 := (Box.new' (w := w.alloc (.cells #[.int .i64 n, .int .i64 d] 23)) (g := w.heap.size + 1) (t := 23) (cs := #[.int .i64 m, .int .i64 e]) (by simp)).later b1
      have b1 := below_up b1
      have b1 := below_up b1
      have B1 := B0.trans (b1.mono B0.size)
      clear b1 B0
      have k_x3 := x3.cells
      have l_x3 := x3.lt
      clear CA
      go_wp2_with fail
      refine (CB.out _).mono ?_
      rintro e w2 ⟨rfl, b2⟩
      replace x2 := x2.later b2
      replace x3 := x3.later b2
      have B2 := B1.trans (b2.mono B1.size)
      clear b2 B1
      clear k_x3 l_x3
      go_wp2
      go_ret
      exact ⟨rfl, B2⟩
    · rw [okR_true h2] at CB
      have h' := (okR_iff n d).1 h
      have h2' := (okR_iff m e).1 h2
      have XR := Lib.hid fun w => cross_any n d m e w (by omega) (by omega) (by omega) (by omega) (by omega) (by omega) (by omega) (by omega)
      have HQ := Lib.hid (hq.out h h2)
      generalize cmpI (n * e) (m * d) = c at *
      clear h h2 h' h2' hq hn
      go_enter Tryd.func18, Tryd.ntmps18
      have B0 := Below.refl w.heap.size w
      go_wp2_with fail
      refine (CA.out _).mono ?_
      rintro e w1 ⟨rfl, b1⟩
      have x2 := ((Box.new w 23 #[.int .i64 n, .int .i64 d]).alloc (.cells #[.int .i64 m, .int .i64 e] 23)).later b1
      have x3 := (Box.new' (w := w.alloc (.cells #[.int .i64 n, .int .i64 d] 23)) (g := w.heap.size + 1) (t := 23) (cs := #[.int .i64 m, .int .i64 e]) (by simp)).later b1
      have b1 := below_up b1
      have b1 := below_up b1
      have B1 := B0.trans (b1.mono B0.size)
      clear b1 B0
      have k_x3 := x3.cells
      have l_x3 := x3.lt
      clear CA
      go_wp2_with fail
      refine (CB.out _).mono ?_
      rintro e w2 ⟨rfl, b2⟩
      replace x2 := x2.later b2
      replace x3 := x3.later b2
      have B2 := B1.trans (b2.mono B1.size)
      clear b2 B1
      clear k_x3 l_x3
      have k_x2 := x2.cells
      have l_x2 := x2.lt
      have k_x3 := x3.cells
      have l_x3 := x3.lt
      go_wp2_with fail
      refine (XR.out _).mono ?_
      rintro e w3 ⟨rfl, b3⟩
      replace x2 := x2.later b3
      replace x3 := x3.later b3
      have B3 := B2.trans (b3.mono B2.size)
      clear b3 B2
      clear k_x2 l_x2 k_x3 l_x3
      go_wp2
      go_ret
      exact ⟨congrArg (fun b => Ending.returned (.bool b)) HQ.out, B3⟩

def NormCut (p : Int × Int) (W : World) (s3 : Value) (wx : World) : Prop := ∃ g, s3 = .pointer (some ⟨g, 0, none⟩) ∧ Box wx g 23 #[.int .i64 p.1, .int .i64 p.2] ∧ Below W.heap.size W wx
set_option maxRecDepth 100000 in
set_option maxHeartbeats 2000000 in
theorem r4norm_any (n d : Int) (w : World) :
    Calls Tryd.prog 14 #[.agg #[.int .i64 n, .int .i64 d]] w fun e' w' => e' = .returned (.agg #[.int .i64 (normI n d).1, .int .i64 (normI n d).2]) ∧ Below w.heap.size w w' := by
  have CA := Lib.hid fun w => r4check_any n d w
  cases h : okR n d
  · rw [okR_false h] at CA
    rw [show normI n d = (0, 0) from if_neg (by rw [h]; decide)]
    go_enter Tryd.func14, Tryd.ntmps14
    have B0 := Below.refl w.heap.size w
    go_wp2_with fail
    refine (CA.out _).mono ?_
    rintro e w1 ⟨rfl, b1⟩
    have x1 := ((Box.new w 23 #[.int .i64 n, .int .i64 d]).alloc (.cells #[.int .i64 0, .int .i64 0] 23)).later b1
    have x2 := (Box.new' (w := w.alloc (.cells #[.int .i64 n, .int .i64 d] 23)) (g := w.heap.size + 1) (t := 23) (cs := #[.int .i64 0, .int .i64 0]) (by simp)).later b1
    have b1 := below_up b1
    have b1 := below_up b1
    have B1 := B0.trans (b1.mono B0.size)
    clear b1 B0
    have k2 := x2.cells
    have l2 := x2.lt
    have f2 := x2.free
    go_wp2
    refine bodyPost_ret (by unfold results; simp only [Tryd.results14]; go_simp; rfl) rfl ?_
    exact ⟨rfl, (B1.setCell (by simp) _).setCell (by simp) _⟩
  · rw [okR_true h] at CA
    have h' := (okR_iff n d).1 h
    have On := Lib.hid fun (w : World) => of_any n w (by omega) (by omega)
    have Od := Lib.hid fun (w : World) => of_any d w (by omega) (by omega)
    have LO := Lib.hid fun (w : World) S S' va vb (ha : BigIs S w va n 19) (hb : BigIs S' w vb d 19) => lowest_any ha hb h'.1 h'.2.1 (by omega) (by omega)
    obtain ⟨g1, g2, g3, e1, e2, e3, e4⟩ := gcdI_spec h'.1 h'.2.1
    have hl : lowestI n d = (lowI n d, true) := if_pos (by omega)
    rw [hl] at LO
    rw [show normI n d = lowI n d from if_pos h]
    generalize lowI n d = p at *
    clear h h' hl g1 g2 g3 e1 e2 e3 e4
    go_enter Tryd.func14, Tryd.ntmps14
    have B0 := Below.refl w.heap.size w
    go_wp2_with fail
    refine (CA.out _).mono ?_
    rintro e w1 ⟨rfl, b1⟩
    have x1 := ((Box.new w 23 #[.int .i64 n, .int .i64 d]).alloc (.cells #[.int .i64 0, .int .i64 0] 23)).later b1
    have x2 := (Box.new' (w := w.alloc (.cells #[.int .i64 n, .int .i64 d] 23)) (g := w.heap.size + 1) (t := 23) (cs := #[.int .i64 0, .int .i64 0]) (by simp)).later b1
    have b1 := below_up b1
    have b1 := below_up b1
    have B1 := B0.trans (b1.mono B0.size)
    clear b1 B0
    go_upto_region 3 with fail
    go_cut [3, 4] from 9 to 19 (fun s3 s4 wx => s4 = .bool true ∧ NormCut p w1 s3 wx)
    case first =>
      have kkx1 := x1.cells
      have nex1 := Nat.ne_of_gt x1.lt
      first | go_region_held3 (fun w' => w'.cell? ⟨w.heap.size, 0, none⟩ = some (.int .i64 n) ∧ w'.cell? ⟨w.heap.size, 1, none⟩ = some (.int .i64 d)) (go_keep)
        (first
          | (go_at_call 37; (with_reducible refine (On.out _).mono ?_); rintro e w60 ⟨v1, rfl, m1, b60⟩; have yx1 : Box w60 (w.heap.size) 23 #[.int .i64 n, .int .i64 d] := (by first | exact (x1).drew.later b60 | exact (x1.alloc _).drew.later b60); have kyx1 := yx1.cells; have nex10 := Nat.ne_of_gt yx1.lt; have cb : Below w1.heap.size w1 w60 := (by first | exact (below_undrew b60) | exact (below_up (below_undrew b60))); (first | (have z1 := z1.later b60; have kz1 := z1.cells; have fz1 := z1.free) | (have z1 := (Box.new w1 23 #[.int .i64 0, .int .i64 0]).drew.later b60; have kz1 := z1.cells; have fz1 := z1.free) | skip); have m1 := m1.mono (S' := fun _ => True) (fun _ _ _ => trivial) (Nat.le_refl _); obtain ⟨t1, A1, j1, c1, rfl⟩ := m1.form2; (first | (have z1l := z1.lt) | skip); have s60 := cb.size)
          | (go_at_call 37; (with_reducible refine (Od.out _).mono ?_); rintro e w61 ⟨v2, rfl, m2, b61⟩; have yx1 : Box w61 (w.heap.size) 23 #[.int .i64 n, .int .i64 d] := (by first | exact (yx1).later b61 | exact (yx1.alloc _).later b61); have kyx1 := yx1.cells; have nex11 := Nat.ne_of_gt yx1.lt; have cb : Below w1.heap.size w1 w61 := (by first | exact cb.trans (b61.mono cb.size) | exact cb.trans ((below_up b61).mono cb.size)); (first | (have z1 := z1.later b61; have kz1 := z1.cells; have fz1 := z1.free) | (have z1 := (Box.new w60 23 #[.int .i64 0, .int .i64 0]).later b61; have kz1 := z1.cells; have fz1 := z1.free) | skip); (first | replace m1 := (m1).below b61 (Nat.le_refl _) | replace m1 := (m1.alloc _).below b61 (Nat.le_refl _)); have m2 := m2.mono (S' := fun _ => True) (fun _ _ _ => trivial) (Nat.le_refl _); obtain ⟨t2, A2, j2, c2, rfl⟩ := m2.form2; have s61 := cb.size)
          | (go_at_call 39; (with_reducible refine (LO.out _ (fun _ => True) (fun _ => True) _ _ ?_ ?_).mono ?_); (first | exact m1 | exact m1.alloc _); (first | exact m2 | exact m2.alloc _); rintro e w62 ⟨rfl, b62⟩; have yx1 : Box w62 (w.heap.size) 23 #[.int .i64 n, .int .i64 d] := (by first | exact (yx1).later b62 | exact (yx1.alloc _).later b62); have kyx1 := yx1.cells; have nex12 := Nat.ne_of_gt yx1.lt; have cb : Below w1.heap.size w1 w62 := (by first | exact cb.trans (b62.mono cb.size) | exact cb.trans ((below_up b62).mono cb.size)); (first | (have z1 := z1.later b62; have kz1 := z1.cells; have fz1 := z1.free) | (have z1 := (Box.new w61 23 #[.int .i64 0, .int .i64 0]).later b62; have kz1 := z1.cells; have fz1 := z1.free) | skip); (first | replace m1 := (m1).below b62 (Nat.le_refl _) | replace m1 := (m1.alloc _).below b62 (Nat.le_refl _)); (first | replace m2 := (m2).below b62 (Nat.le_refl _) | replace m2 := (m2.alloc _).below b62 (Nat.le_refl _)); have s62 := cb.size))
      all_goals (go_wp2_with fail; go_meet)
      all_goals
        have cs := cb.size
        refine ⟨rfl, _, rfl, ?_, ?_⟩
        · repeat' (first | (with_reducible exact z1) | ((with_reducible refine Box.new' ?_); (first | rfl | (simp; done) | (simp [World.setCell]; done))) | (with_reducible refine box2r (a := .int .i64 0) (b := .int .i64 0) ?_ _ _) | (with_reducible refine Box.alloc ?_ _) | (with_reducible refine Box.far' ?_ ?_ _))
          all_goals omega
        · repeat' (with_reducible (first | exact cb | refine Below.alloc ?_ ?_ _ | refine Below.setCell ?_ ?_ _))
          all_goals first | exact cs | omega | (dsimp only; omega) | (simp; omega)
    case rest =>
      obtain ⟨rfl, g3, rfl, x3, bc⟩ := hcut
      obtain ⟨w9, rfl⟩ : ∃ w0 : World, w0 = wc := ⟨_, rfl⟩
      replace x1 := x1.later bc
      replace x2 := x2.later bc
      have B2 := B1.trans (bc.mono B1.size)
      clear bc B1
      have k2 := x2.cells
      have l2 := x2.lt
      have f2 := x2.free
      have k3 := x3.cells
      have l3 := x3.lt
      go_wp2
      refine bodyPost_ret (by unfold results; simp only [Tryd.results14]; go_simp; rfl) rfl ?_
      exact ⟨rfl, (B2.setCell (by simp) _).setCell (by simp) _⟩
end Go.Proofs.YtkjdkhcpeaepoaaDoor
