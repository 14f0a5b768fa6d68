/-
  The reference of chapter 4: Lowest.
-/
import Derived.Test.YtkdpiikfiodopaaDoorRd
namespace Go.Proofs.YtkdpiikfiodopaaDoor
open Go.RowKit

def lowestI (a b : Int) : (Int × Int) × Bool := if a / gcdI a b ≤ 1000000000000 ∧ b / gcdI a b ≤ 1000000000000 then ((a / gcdI a b, b / gcdI a b), true) else ((0, 0), false)

set_option maxRecDepth 100000 in
set_option maxHeartbeats 2000000 in
theorem lowest_over1 {S S' : Nat → Prop} {w : World} {va vb : Value} {a b p q : Int} {L : Nat} (m2 : BigIs S w va a L) (m3 : BigIs S' w vb b L) (a1 : 1 ≤ a) (b1 : 1 ≤ b) (hL : L ≤ 20000) (hL2 : 19 ≤ L) (hp : Hid (a / gcdI a b = p)) (hq : Hid (b / gcdI a b = q)) (_p0 : 0 ≤ p) (_q0 : 0 ≤ q) (hp1 : 1000000000000 < p) :
    Calls Tryd.prog 47 #[va, vb] w fun e w' => e = .returned (.tuple #[.agg #[.int .i64 0, .int .i64 0], .bool false]) ∧ Below w.heap.size w w' := by
  have hg : 0 < gcdI a b := by have := (gcdI_spec a1 b1).1; omega
  have GV := Lib.hid fun (w : World) S S' va vb (ha : BigIs S w va a L) (hb : BigIs S' w vb b L) => divisor_any ha hb a1 (show 0 ≤ b by omega) (by omega)
  have D1 := Lib.hid fun (w : World) S S' va vb (ha : BigIs S w va a L) (hb : BigIs S' w vb (gcdI a b) L) => div_any ha hb hg (by omega)
  have D2 := Lib.hid fun (w : World) S S' va vb (ha : BigIs S w va b L) (hb : BigIs S' w vb (gcdI a b) L) => div_any ha hb hg (by omega)
  rw [hp.out] at D1
  rw [hq.out] at D2
  change Hid (∀ (w : World) S S' va vb, BigIs S w va a L → BigIs S' w vb b L → Calls Tryd.prog 83 #[va, vb] w fun e w' => ∃ v, e = .returned v ∧ BigIs (fun _ => True) w' v (gcdI a b) L ∧ Below w.heap.size w w') at GV
  have OM := Lib.hid fun (w : World) => of_any 1000000000000 w (by omega) (by omega)
  have CP := Lib.hid fun (w : World) S S' va vb (ha : BigIs S w va p (L + 2)) (hb : BigIs S' w vb 1000000000000 19) => cmp_any ha hb (by omega) (by omega)
  have CQ := Lib.hid fun (w : World) S S' va vb (ha : BigIs S w va q (L + 2)) (hb : BigIs S' w vb 1000000000000 19) => cmp_any ha hb (by omega) (by omega)
  obtain ⟨t2, A2, n2, c2, rfl⟩ := m2.form2
  obtain ⟨t3, A3, n3, c3, rfl⟩ := m3.form2
  rw [cmpI_gt hp1] at CP
  go_enter Tryd.func47, Tryd.ntmps47
  have B0 := Below.refl w.heap.size w
  go_wp2_with fail
  refine (GV.out _ _ _ _ _ (((m2.alloc _).alloc _).alloc _) (((m3.alloc _).alloc _).alloc _)).mono ?_
  rintro e w1 ⟨v6, rfl, m6, b1⟩
  have x2 := (((Box.new w 74 #[.bool t2, .slice A2 n2 c2]).alloc (.cells #[.bool t3, .slice A3 n3 c3] 74)).alloc (.cells #[.int .i64 0, .int .i64 0] 23)).later b1
  have x3 := ((Box.new' (w := (w.alloc (.cells #[.bool t2, .slice A2 n2 c2] 74))) (g := w.heap.size + 1) (t := 74) (cs := #[.bool t3, .slice A3 n3 c3]) (by simp)).alloc (.cells #[.int .i64 0, .int .i64 0] 23)).later b1
  have x4 := (Box.new' (w := ((w.alloc (.cells #[.bool t2, .slice A2 n2 c2] 74)).alloc (.cells #[.bool t3, .slice A3 n3 c3] 74))) (g := w.heap.size + 2) (t := 23) (cs := #[.int .i64 0, .int .i64 0]) (by simp)).later b1
  replace m2 := (((m2.alloc _).alloc _).alloc _).below b1 (Nat.le_refl _)
  replace m3 := (((m3.alloc _).alloc _).alloc _).below b1 (Nat.le_refl _)
  have b1 := below_up b1
  have b1 := below_up b1
  have b1 := below_up b1
  have B1 := B0.trans (b1.mono B0.size)
  clear b1 B0
  obtain ⟨t6, A6, n6, c6, rfl⟩ := m6.form2
  have k2 := x2.cells
  have l2 := x2.lt
  go_wp2_with fail
  refine (D1.out _ _ _ _ _ (m2.alloc _) (m6.alloc _)).mono ?_
  rintro e w2 ⟨v7, v8, rfl, m7, m8, b2⟩
  have x6 := (Box.new w1 74 #[.bool t6, .slice A6 n6 c6]).later b2
  replace m2 := (m2.alloc _).below b2 (Nat.le_refl _)
  replace m3 := (m3.alloc _).below b2 (Nat.le_refl _)
  replace x2 := (x2.alloc _).later b2
  replace x3 := (x3.alloc _).later b2
  replace x4 := (x4.alloc _).later b2
  replace m6 := (m6.alloc _).below b2 (Nat.le_refl _)
  have b2 := below_up b2
  have B2 := B1.trans (b2.mono B1.size)
  clear b2 B1
  obtain ⟨t7, A7, n7, c7, rfl⟩ := m7.form2
  obtain ⟨t8, A8, n8, c8, rfl⟩ := m8.form2
  clear k2 l2 m8
  have k3 := x3.cells
  have l3 := x3.lt
  have k6 := x6.cells
  have l6 := x6.lt
  have l3b := Nat.lt_succ_of_lt l3
  have l6b := Nat.lt_succ_of_lt l6
  clear m2 x2
  go_wp2_with fail
  refine (D2.out _ _ _ _ _ ((m3.alloc _).alloc _) ((m6.alloc _).alloc _)).mono ?_
  rintro e w3 ⟨v9, v10, rfl, m9, m10, b3⟩
  have x7 := ((Box.new w2 74 #[.bool t7, .slice A7 n7 c7]).alloc (.cells #[.bool t8, .slice A8 n8 c8] 74)).later b3
  replace m3 := ((m3.alloc _).alloc _).below b3 (Nat.le_refl _)
  replace x3 := ((x3.alloc _).alloc _).later b3
  replace x4 := ((x4.alloc _).alloc _).later b3
  replace m6 := ((m6.alloc _).alloc _).below b3 (Nat.le_refl _)
  replace x6 := ((x6.alloc _).alloc _).later b3
  replace m7 := ((m7.alloc _).alloc _).below b3 (Nat.le_refl _)
  have b3 := below_up b3
  have b3 := below_up b3
  have B3 := B2.trans (b3.mono B2.size)
  clear b3 B2
  obtain ⟨t9, A9, n9, c9, rfl⟩ := m9.form2
  obtain ⟨t10, A10, n10, c10, rfl⟩ := m10.form2
  clear k3 l3 k6 l6 m10 l3b l6b
  clear m3 m6 x3 x6
  go_upto_region 4 with fail
  obtain ⟨W9, hW9⟩ : ∃ W, W = (w3.alloc (.cells #[.bool t9, .slice A9 n9 c9] 74)).alloc (.cells #[.bool t10, .slice A10 n10 c10] 74) := ⟨_, rfl⟩
  have x9 : Box W9 w3.heap.size 74 #[.bool t9, .slice A9 n9 c9] := by rw [hW9]; exact (Box.new _ _ _).alloc _
  replace x7 := (x7.alloc (.cells #[.bool t9, .slice A9 n9 c9] 74)).alloc (.cells #[.bool t10, .slice A10 n10 c10] 74)
  replace x4 := (x4.alloc (.cells #[.bool t9, .slice A9 n9 c9] 74)).alloc (.cells #[.bool t10, .slice A10 n10 c10] 74)
  replace m7 := (m7.alloc (.cells #[.bool t9, .slice A9 n9 c9] 74)).alloc (.cells #[.bool t10, .slice A10 n10 c10] 74)
  replace m9 := (m9.alloc (.cells #[.bool t9, .slice A9 n9 c9] 74)).alloc (.cells #[.bool t10, .slice A10 n10 c10] 74)
  have B9 := (B3.alloc B3.size (.cells #[.bool t9, .slice A9 n9 c9] 74)).alloc (by have := B3.size; simp; omega) (.cells #[.bool t10, .slice A10 n10 c10] 74)
  rw [← hW9] at x7 x4 m7 m9 B9
  rewrite [← hW9]
  clear hW9 GV D1 D2
  obtain ⟨g9, hg9⟩ : ∃ g, g = w3.heap.size := ⟨_, rfl⟩
  rewrite [← hg9] at x9 ⊢
  clear hg9
  obtain ⟨g7, hg7⟩ : ∃ g, g = w2.heap.size := ⟨_, rfl⟩
  rewrite [← hg7] at x7 ⊢
  clear hg7
  clear CQ m9 x9
  have k7 := x7.cells
  have l7 := x7.lt
  go_region_with (first
    | (go_at_call 49; (with_reducible refine (OM.out _).mono ?_); rintro e w60 ⟨v1, rfl, m1, b60⟩; have x7 := x7.drew.later b60; have x4 := x4.drew.later b60; have m7 := m7.drew.later b60; have k7 := x7.cells; have l7 := x7.lt; have b60 := below_undrew b60)
    | (go_at_call 85; (with_reducible refine (CP.out _ _ _ _ _ m7 m1).mono ?_); rintro e w61 ⟨rfl, b61⟩; have x4 := x4.later b61))
  all_goals
    have B61 := B9.trans ((b60.trans (b61.mono b60.size)).mono B9.size)
    have k4 := x4.cells
    have l4 := x4.lt
    have f4 := x4.free
    go_wp2
    refine bodyPost_ret (by unfold results; simp only [Tryd.results47]; go_simp; rfl) rfl ?_
    exact ⟨rfl, (B61.setCell (by simp; omega) _).setCell (by simp; omega) _⟩

set_option maxRecDepth 100000 in
set_option maxHeartbeats 2000000 in
theorem lowest_over2 {S S' : Nat → Prop} {w : World} {va vb : Value} {a b p q : Int} {L : Nat} (m2 : BigIs S w va a L) (m3 : BigIs S' w vb b L) (a1 : 1 ≤ a) (b1 : 1 ≤ b) (hL : L ≤ 20000) (hL2 : 19 ≤ L) (hp : Hid (a / gcdI a b = p)) (hq : Hid (b / gcdI a b = q)) (_p0 : 0 ≤ p) (_q0 : 0 ≤ q) (hp1 : p ≤ 1000000000000) (hq1 : 1000000000000 < q) :
    Calls Tryd.prog 47 #[va, vb] w fun e w' => e = .returned (.tuple #[.agg #[.int .i64 0, .int .i64 0], .bool false]) ∧ Below w.heap.size w w' := by
  have hg : 0 < gcdI a b := by have := (gcdI_spec a1 b1).1; omega
  have GV := Lib.hid fun (w : World) S S' va vb (ha : BigIs S w va a L) (hb : BigIs S' w vb b L) => divisor_any ha hb a1 (show 0 ≤ b by omega) (by omega)
  have D1 := Lib.hid fun (w : World) S S' va vb (ha : BigIs S w va a L) (hb : BigIs S' w vb (gcdI a b) L) => div_any ha hb hg (by omega)
  have D2 := Lib.hid fun (w : World) S S' va vb (ha : BigIs S w va b L) (hb : BigIs S' w vb (gcdI a b) L) => div_any ha hb hg (by omega)
  rw [hp.out] at D1
  rw [hq.out] at D2
  change Hid (∀ (w : World) S S' va vb, BigIs S w va a L → BigIs S' w vb b L → Calls Tryd.prog 83 #[va, vb] w fun e w' => ∃ v, e = .returned v ∧ BigIs (fun _ => True) w' v (gcdI a b) L ∧ Below w.heap.size w w') at GV
  have OM := Lib.hid fun (w : World) => of_any 1000000000000 w (by omega) (by omega)
  have CP := Lib.hid fun (w : World) S S' va vb (ha : BigIs S w va p (L + 2)) (hb : BigIs S' w vb 1000000000000 19) => cmp_any ha hb (by omega) (by omega)
  have CQ := Lib.hid fun (w : World) S S' va vb (ha : BigIs S w va q (L + 2)) (hb : BigIs S' w vb 1000000000000 19) => cmp_any ha hb (by omega) (by omega)
  obtain ⟨t2, A2, n2, c2, rfl⟩ := m2.form2
  obtain ⟨t3, A3, n3, c3, rfl⟩ := m3.form2
  obtain ⟨cp, hcp, hcp0⟩ : ∃ cp : Int, cmpI p 1000000000000 = cp ∧ ¬ 0 < cp := ⟨_, rfl, by unfold cmpI; split <;> (try split) <;> omega⟩
  rw [hcp] at CP
  clear hcp
  have hcpd : decide (0 < cp) = false := decide_eq_false hcp0
  rw [cmpI_gt hq1] at CQ
  go_enter Tryd.func47, Tryd.ntmps47
  have B0 := Below.refl w.heap.size w
  go_wp2_with fail
  refine (GV.out _ _ _ _ _ (((m2.alloc _).alloc _).alloc _) (((m3.alloc _).alloc _).alloc _)).mono ?_
  rintro e w1 ⟨v6, rfl, m6, b1⟩
  have x2 := (((Box.new w 74 #[.bool t2, .slice A2 n2 c2]).alloc (.cells #[.bool t3, .slice A3 n3 c3] 74)).alloc (.cells #[.int .i64 0, .int .i64 0] 23)).later b1
  have x3 := ((Box.new' (w := (w.alloc (.cells #[.bool t2, .slice A2 n2 c2] 74))) (g := w.heap.size + 1) (t := 74) (cs := #[.bool t3, .slice A3 n3 c3]) (by simp)).alloc (.cells #[.int .i64 0, .int .i64 0] 23)).later b1
  have x4 := (Box.new' (w := ((w.alloc (.cells #[.bool t2, .slice A2 n2 c2] 74)).alloc (.cells #[.bool t3, .slice A3 n3 c3] 74))) (g := w.heap.size + 2) (t := 23) (cs := #[.int .i64 0, .int .i64 0]) (by simp)).later b1
  replace m2 := (((m2.alloc _).alloc _).alloc _).below b1 (Nat.le_refl _)
  replace m3 := (((m3.alloc _).alloc _).alloc _).below b1 (Nat.le_refl _)
  have b1 := below_up b1
  have b1 := below_up b1
  have b1 := below_up b1
  have B1 := B0.trans (b1.mono B0.size)
  clear b1 B0
  obtain ⟨t6, A6, n6, c6, rfl⟩ := m6.form2
  have k2 := x2.cells
  have l2 := x2.lt
  go_wp2_with fail
  refine (D1.out _ _ _ _ _ (m2.alloc _) (m6.alloc _)).mono ?_
  rintro e w2 ⟨v7, v8, rfl, m7, m8, b2⟩
  have x6 := (Box.new w1 74 #[.bool t6, .slice A6 n6 c6]).later b2
  replace m2 := (m2.alloc _).below b2 (Nat.le_refl _)
  replace m3 := (m3.alloc _).below b2 (Nat.le_refl _)
  replace x2 := (x2.alloc _).later b2
  replace x3 := (x3.alloc _).later b2
  replace x4 := (x4.alloc _).later b2
  replace m6 := (m6.alloc _).below b2 (Nat.le_refl _)
  have b2 := below_up b2
  have B2 := B1.trans (b2.mono B1.size)
  clear b2 B1
  obtain ⟨t7, A7, n7, c7, rfl⟩ := m7.form2
  obtain ⟨t8, A8, n8, c8, rfl⟩ := m8.form2
  clear k2 l2 m8
  have k3 := x3.cells
  have l3 := x3.lt
  have k6 := x6.cells
  have l6 := x6.lt
  have l3b := Nat.lt_succ_of_lt l3
  have l6b := Nat.lt_succ_of_lt l6
  clear m2 x2
  go_wp2_with fail
  refine (D2.out _ _ _ _ _ ((m3.alloc _).alloc _) ((m6.alloc _).alloc _)).mono ?_
  rintro e w3 ⟨v9, v10, rfl, m9, m10, b3⟩
  have x7 := ((Box.new w2 74 #[.bool t7, .slice A7 n7 c7]).alloc (.cells #[.bool t8, .slice A8 n8 c8] 74)).later b3
  replace m3 := ((m3.alloc _).alloc _).below b3 (Nat.le_refl _)
  replace x3 := ((x3.alloc _).alloc _).later b3
  replace x4 := ((x4.alloc _).alloc _).later b3
  replace m6 := ((m6.alloc _).alloc _).below b3 (Nat.le_refl _)
  replace x6 := ((x6.alloc _).alloc _).later b3
  replace m7 := ((m7.alloc _).alloc _).below b3 (Nat.le_refl _)
  have b3 := below_up b3
  have b3 := below_up b3
  have B3 := B2.trans (b3.mono B2.size)
  clear b3 B2
  obtain ⟨t9, A9, n9, c9, rfl⟩ := m9.form2
  obtain ⟨t10, A10, n10, c10, rfl⟩ := m10.form2
  clear k3 l3 k6 l6 m10 l3b l6b
  clear m3 m6 x3 x6
  go_upto_region 4 with fail
  obtain ⟨W9, hW9⟩ : ∃ W, W = (w3.alloc (.cells #[.bool t9, .slice A9 n9 c9] 74)).alloc (.cells #[.bool t10, .slice A10 n10 c10] 74) := ⟨_, rfl⟩
  have x9 : Box W9 w3.heap.size 74 #[.bool t9, .slice A9 n9 c9] := by rw [hW9]; exact (Box.new _ _ _).alloc _
  replace x7 := (x7.alloc (.cells #[.bool t9, .slice A9 n9 c9] 74)).alloc (.cells #[.bool t10, .slice A10 n10 c10] 74)
  replace x4 := (x4.alloc (.cells #[.bool t9, .slice A9 n9 c9] 74)).alloc (.cells #[.bool t10, .slice A10 n10 c10] 74)
  replace m7 := (m7.alloc (.cells #[.bool t9, .slice A9 n9 c9] 74)).alloc (.cells #[.bool t10, .slice A10 n10 c10] 74)
  replace m9 := (m9.alloc (.cells #[.bool t9, .slice A9 n9 c9] 74)).alloc (.cells #[.bool t10, .slice A10 n10 c10] 74)
  have B9 := (B3.alloc B3.size (.cells #[.bool t9, .slice A9 n9 c9] 74)).alloc (by have := B3.size; simp; omega) (.cells #[.bool t10, .slice A10 n10 c10] 74)
  rw [← hW9] at x7 x4 m7 m9 B9
  rewrite [← hW9]
  clear hW9 GV D1 D2
  obtain ⟨g9, hg9⟩ : ∃ g, g = w3.heap.size := ⟨_, rfl⟩
  rewrite [← hg9] at x9 ⊢
  clear hg9
  obtain ⟨g7, hg7⟩ : ∃ g, g = w2.heap.size := ⟨_, rfl⟩
  rewrite [← hg7] at x7 ⊢
  clear hg7
  have kkx7 := x7.cells
  have kkx9 := x9.cells
  first | go_region_held3 (fun w' => w'.cell? ⟨g7, 0, none⟩ = some (.bool t7) ∧ w'.cell? ⟨g7, 1, none⟩ = some (.slice A7 n7 c7) ∧ w'.cell? ⟨g9, 0, none⟩ = some (.bool t9) ∧ w'.cell? ⟨g9, 1, none⟩ = some (.slice A9 n9 c9)) (go_keep)
    (first
      | (go_at_call 49; (with_reducible refine (OM.out _).mono ?_); rintro e w60 ⟨v1, rfl, m1, b60⟩; have yx7 : Box w60 (g7) 74 #[.bool t7, .slice A7 n7 c7] := (by first | exact (x7).drew.later b60); have kyx7 := yx7.cells; have yx9 : Box w60 (g9) 74 #[.bool t9, .slice A9 n9 c9] := (by first | exact (x9).drew.later b60); have kyx9 := yx9.cells; have cb : Below W9.heap.size W9 w60 := (by first | exact (below_undrew b60)); have m7 := m7.drew.below b60 (Nat.le_refl _); have m9 := m9.drew.below b60 (Nat.le_refl _))
      | (go_at_call 85; (with_reducible refine (CP.out _ _ _ _ _ m7 m1).mono ?_); rintro e w61 ⟨rfl, b61⟩; have yx7 : Box w61 (g7) 74 #[.bool t7, .slice A7 n7 c7] := (by first | exact (yx7).later b61); have kyx7 := yx7.cells; have yx9 : Box w61 (g9) 74 #[.bool t9, .slice A9 n9 c9] := (by first | exact (yx9).later b61); have kyx9 := yx9.cells; have cb : Below W9.heap.size W9 w61 := (by first | exact cb.trans (b61.mono cb.size)); have m7 := m7.below b61 (Nat.le_refl _); have m9 := m9.below b61 (Nat.le_refl _))
      | (go_at_call 49; (with_reducible refine (OM.out _).mono ?_); rintro e w62 ⟨v2, rfl, m21, b62⟩; have yx7 : Box w62 (g7) 74 #[.bool t7, .slice A7 n7 c7] := (by first | exact (yx7).later b62); have kyx7 := yx7.cells; have yx9 : Box w62 (g9) 74 #[.bool t9, .slice A9 n9 c9] := (by first | exact (yx9).later b62); have kyx9 := yx9.cells; have cb : Below W9.heap.size W9 w62 := (by first | exact cb.trans (b62.mono cb.size)); have m7 := m7.below b62 (Nat.le_refl _); have m9 := m9.below b62 (Nat.le_refl _))
      | (go_at_call 85; (with_reducible refine (CQ.out _ _ _ _ _ m9 m21).mono ?_); rintro e w63 ⟨rfl, b63⟩; have yx7 : Box w63 (g7) 74 #[.bool t7, .slice A7 n7 c7] := (by first | exact (yx7).later b63); have kyx7 := yx7.cells; have yx9 : Box w63 (g9) 74 #[.bool t9, .slice A9 n9 c9] := (by first | exact (yx9).later b63); have kyx9 := yx9.cells; have cb : Below W9.heap.size W9 w63 := (by first | exact cb.trans (b63.mono cb.size)); have m7 := m7.below b63 (Nat.le_refl _); have m9 := m9.below b63 (Nat.le_refl _)))
  have B60 := B9.trans (cb.mono B9.size)
  replace x4 := x4.later cb
  replace x7 := yx7
  replace x9 := yx9
  have k4 := x4.cells
  have l4 := x4.lt
  have f4 := x4.free
  go_wp2
  refine bodyPost_ret (by unfold results; simp only [Tryd.results47]; go_simp; rfl) rfl ?_
  exact ⟨rfl, (B60.setCell (by simp; omega) _).setCell (by simp; omega) _⟩

set_option maxRecDepth 100000 in
set_option maxHeartbeats 2000000 in
theorem lowest_good {S S' : Nat → Prop} {w : World} {va vb : Value} {a b p q : Int} {L : Nat} (m2 : BigIs S w va a L) (m3 : BigIs S' w vb b L) (a1 : 1 ≤ a) (b1 : 1 ≤ b) (hL : L ≤ 20000) (hL2 : 19 ≤ L) (hp : Hid (a / gcdI a b = p)) (hq : Hid (b / gcdI a b = q)) (_p0 : 0 ≤ p) (_q0 : 0 ≤ q) (hp1 : p ≤ 1000000000000) (hq1 : q ≤ 1000000000000) :
    Calls Tryd.prog 47 #[va, vb] w fun e w' => e = .returned (.tuple #[.agg #[.int .i64 p, .int .i64 q], .bool true]) ∧ Below w.heap.size w w' := by
  have hg : 0 < gcdI a b := by have := (gcdI_spec a1 b1).1; omega
  have GV := Lib.hid fun (w : World) S S' va vb (ha : BigIs S w va a L) (hb : BigIs S' w vb b L) => divisor_any ha hb a1 (show 0 ≤ b by omega) (by omega)
  have D1 := Lib.hid fun (w : World) S S' va vb (ha : BigIs S w va a L) (hb : BigIs S' w vb (gcdI a b) L) => div_any ha hb hg (by omega)
  have D2 := Lib.hid fun (w : World) S S' va vb (ha : BigIs S w va b L) (hb : BigIs S' w vb (gcdI a b) L) => div_any ha hb hg (by omega)
  rw [hp.out] at D1
  rw [hq.out] at D2
  change Hid (∀ (w : World) S S' va vb, BigIs S w va a L → BigIs S' w vb b L → Calls Tryd.prog 83 #[va, vb] w fun e w' => ∃ v, e = .returned v ∧ BigIs (fun _ => True) w' v (gcdI a b) L ∧ Below w.heap.size w w') at GV
  have OM := Lib.hid fun (w : World) => of_any 1000000000000 w (by omega) (by omega)
  have CP := Lib.hid fun (w : World) S S' va vb (ha : BigIs S w va p (L + 2)) (hb : BigIs S' w vb 1000000000000 19) => cmp_any ha hb (by omega) (by omega)
  have CQ := Lib.hid fun (w : World) S S' va vb (ha : BigIs S w va q (L + 2)) (hb : BigIs S' w vb 1000000000000 19) => cmp_any ha hb (by omega) (by omega)
  obtain ⟨t2, A2, n2, c2, rfl⟩ := m2.form2
  obtain ⟨t3, A3, n3, c3, rfl⟩ := m3.form2
  obtain ⟨cp, hcp, hcp0⟩ : ∃ cp : Int, cmpI p 1000000000000 = cp ∧ ¬ 0 < cp := ⟨_, rfl, by unfold cmpI; split <;> (try split) <;> omega⟩
  rw [hcp] at CP
  clear hcp
  have hcpd : decide (0 < cp) = false := decide_eq_false hcp0
  obtain ⟨cq, hcq, hcq0⟩ : ∃ cq : Int, cmpI q 1000000000000 = cq ∧ ¬ 0 < cq := ⟨_, rfl, by unfold cmpI; split <;> (try split) <;> omega⟩
  rw [hcq] at CQ
  clear hcq
  have hcqd : decide (0 < cq) = false := decide_eq_false hcq0
  have IP := Lib.hid fun (w : World) S va (ha : BigIs S w va p (L + 2)) => int_in ha (by omega) (by rw [leastI_eq]; omega) (by rw [mostI_eq]; omega)
  have IQ := Lib.hid fun (w : World) S va (ha : BigIs S w va q (L + 2)) => int_in ha (by omega) (by rw [leastI_eq]; omega) (by rw [mostI_eq]; omega)
  go_enter Tryd.func47, Tryd.ntmps47
  have B0 := Below.refl w.heap.size w
  go_wp2_with fail
  refine (GV.out _ _ _ _ _ (((m2.alloc _).alloc _).alloc _) (((m3.alloc _).alloc _).alloc _)).mono ?_
  rintro e w1 ⟨v6, rfl, m6, b1⟩
  have x2 := (((Box.new w 74 #[.bool t2, .slice A2 n2 c2]).alloc (.cells #[.bool t3, .slice A3 n3 c3] 74)).alloc (.cells #[.int .i64 0, .int .i64 0] 23)).later b1
  have x3 := ((Box.new' (w := (w.alloc (.cells #[.bool t2, .slice A2 n2 c2] 74))) (g := w.heap.size + 1) (t := 74) (cs := #[.bool t3, .slice A3 n3 c3]) (by simp)).alloc (.cells #[.int .i64 0, .int .i64 0] 23)).later b1
  have x4 := (Box.new' (w := ((w.alloc (.cells #[.bool t2, .slice A2 n2 c2] 74)).alloc (.cells #[.bool t3, .slice A3 n3 c3] 74))) (g := w.heap.size + 2) (t := 23) (cs := #[.int .i64 0, .int .i64 0]) (by simp)).later b1
  replace m2 := (((m2.alloc _).alloc _).alloc _).below b1 (Nat.le_refl _)
  replace m3 := (((m3.alloc _).alloc _).alloc _).below b1 (Nat.le_refl _)
  have b1 := below_up b1
  have b1 := below_up b1
  have b1 := below_up b1
  have B1 := B0.trans (b1.mono B0.size)
  clear b1 B0
  obtain ⟨t6, A6, n6, c6, rfl⟩ := m6.form2
  have k2 := x2.cells
  have l2 := x2.lt
  go_wp2_with fail
  refine (D1.out _ _ _ _ _ (m2.alloc _) (m6.alloc _)).mono ?_
  rintro e w2 ⟨v7, v8, rfl, m7, m8, b2⟩
  have x6 := (Box.new w1 74 #[.bool t6, .slice A6 n6 c6]).later b2
  replace m2 := (m2.alloc _).below b2 (Nat.le_refl _)
  replace m3 := (m3.alloc _).below b2 (Nat.le_refl _)
  replace x2 := (x2.alloc _).later b2
  replace x3 := (x3.alloc _).later b2
  replace x4 := (x4.alloc _).later b2
  replace m6 := (m6.alloc _).below b2 (Nat.le_refl _)
  have b2 := below_up b2
  have B2 := B1.trans (b2.mono B1.size)
  clear b2 B1
  obtain ⟨t7, A7, n7, c7, rfl⟩ := m7.form2
  obtain ⟨t8, A8, n8, c8, rfl⟩ := m8.form2
  clear k2 l2 m8
  have k3 := x3.cells
  have l3 := x3.lt
  have k6 := x6.cells
  have l6 := x6.lt
  have l3b := Nat.lt_succ_of_lt l3
  have l6b := Nat.lt_succ_of_lt l6
  clear m2 x2
  go_wp2_with fail
  refine (D2.out _ _ _ _ _ ((m3.alloc _).alloc _) ((m6.alloc _).alloc _)).mono ?_
  rintro e w3 ⟨v9, v10, rfl, m9, m10, b3⟩
  have x7 := ((Box.new w2 74 #[.bool t7, .slice A7 n7 c7]).alloc (.cells #[.bool t8, .slice A8 n8 c8] 74)).later b3
  replace m3 := ((m3.alloc _).alloc _).below b3 (Nat.le_refl _)
  replace x3 := ((x3.alloc _).alloc _).later b3
  replace x4 := ((x4.alloc _).alloc _).later b3
  replace m6 := ((m6.alloc _).alloc _).below b3 (Nat.le_refl _)
  replace x6 := ((x6.alloc _).alloc _).later b3
  replace m7 := ((m7.alloc _).alloc _).below b3 (Nat.le_refl _)
  have b3 := below_up b3
  have b3 := below_up b3
  have B3 := B2.trans (b3.mono B2.size)
  clear b3 B2
  obtain ⟨t9, A9, n9, c9, rfl⟩ := m9.form2
  obtain ⟨t10, A10, n10, c10, rfl⟩ := m10.form2
  clear k3 l3 k6 l6 m10 l3b l6b
  clear m3 m6 x3 x6
  go_upto_region 4 with fail
  obtain ⟨W9, hW9⟩ : ∃ W, W = (w3.alloc (.cells #[.bool t9, .slice A9 n9 c9] 74)).alloc (.cells #[.bool t10, .slice A10 n10 c10] 74) := ⟨_, rfl⟩
  have x9 : Box W9 w3.heap.size 74 #[.bool t9, .slice A9 n9 c9] := by rw [hW9]; exact (Box.new _ _ _).alloc _
  replace x7 := (x7.alloc (.cells #[.bool t9, .slice A9 n9 c9] 74)).alloc (.cells #[.bool t10, .slice A10 n10 c10] 74)
  replace x4 := (x4.alloc (.cells #[.bool t9, .slice A9 n9 c9] 74)).alloc (.cells #[.bool t10, .slice A10 n10 c10] 74)
  replace m7 := (m7.alloc (.cells #[.bool t9, .slice A9 n9 c9] 74)).alloc (.cells #[.bool t10, .slice A10 n10 c10] 74)
  replace m9 := (m9.alloc (.cells #[.bool t9, .slice A9 n9 c9] 74)).alloc (.cells #[.bool t10, .slice A10 n10 c10] 74)
  have B9 := (B3.alloc B3.size (.cells #[.bool t9, .slice A9 n9 c9] 74)).alloc (by have := B3.size; simp; omega) (.cells #[.bool t10, .slice A10 n10 c10] 74)
  rw [← hW9] at x7 x4 m7 m9 B9
  rewrite [← hW9]
  clear hW9 GV D1 D2
  obtain ⟨g9, hg9⟩ : ∃ g, g = w3.heap.size := ⟨_, rfl⟩
  rewrite [← hg9] at x9 ⊢
  clear hg9
  obtain ⟨g7, hg7⟩ : ∃ g, g = w2.heap.size := ⟨_, rfl⟩
  rewrite [← hg7] at x7 ⊢
  clear hg7
  have kkx7 := x7.cells
  have kkx9 := x9.cells
  first | go_region_held3 (fun w' => w'.cell? ⟨g7, 0, none⟩ = some (.bool t7) ∧ w'.cell? ⟨g7, 1, none⟩ = some (.slice A7 n7 c7) ∧ w'.cell? ⟨g9, 0, none⟩ = some (.bool t9) ∧ w'.cell? ⟨g9, 1, none⟩ = some (.slice A9 n9 c9)) (go_keep)
    (first
      | (go_at_call 49; (with_reducible refine (OM.out _).mono ?_); rintro e w60 ⟨v1, rfl, m1, b60⟩; have yx7 : Box w60 (g7) 74 #[.bool t7, .slice A7 n7 c7] := (by first | exact (x7).drew.later b60); have kyx7 := yx7.cells; have yx9 : Box w60 (g9) 74 #[.bool t9, .slice A9 n9 c9] := (by first | exact (x9).drew.later b60); have kyx9 := yx9.cells; have cb : Below W9.heap.size W9 w60 := (by first | exact (below_undrew b60)); have m7 := m7.drew.below b60 (Nat.le_refl _); have m9 := m9.drew.below b60 (Nat.le_refl _))
      | (go_at_call 85; (with_reducible refine (CP.out _ _ _ _ _ m7 m1).mono ?_); rintro e w61 ⟨rfl, b61⟩; have yx7 : Box w61 (g7) 74 #[.bool t7, .slice A7 n7 c7] := (by first | exact (yx7).later b61); have kyx7 := yx7.cells; have yx9 : Box w61 (g9) 74 #[.bool t9, .slice A9 n9 c9] := (by first | exact (yx9).later b61); have kyx9 := yx9.cells; have cb : Below W9.heap.size W9 w61 := (by first | exact cb.trans (b61.mono cb.size)); have m7 := m7.below b61 (Nat.le_refl _); have m9 := m9.below b61 (Nat.le_refl _))
      | (go_at_call 49; (with_reducible refine (OM.out _).mono ?_); rintro e w62 ⟨v2, rfl, m21, b62⟩; have yx7 : Box w62 (g7) 74 #[.bool t7, .slice A7 n7 c7] := (by first | exact (yx7).later b62); have kyx7 := yx7.cells; have yx9 : Box w62 (g9) 74 #[.bool t9, .slice A9 n9 c9] := (by first | exact (yx9).later b62); have kyx9 := yx9.cells; have cb : Below W9.heap.size W9 w62 := (by first | exact cb.trans (b62.mono cb.size)); have m7 := m7.below b62 (Nat.le_refl _); have m9 := m9.below b62 (Nat.le_refl _))
      | (go_at_call 85; (with_reducible refine (CQ.out _ _ _ _ _ m9 m21).mono ?_); rintro e w63 ⟨rfl, b63⟩; have yx7 : Box w63 (g7) 74 #[.bool t7, .slice A7 n7 c7] := (by first | exact (yx7).later b63); have kyx7 := yx7.cells; have yx9 : Box w63 (g9) 74 #[.bool t9, .slice A9 n9 c9] := (by first | exact (yx9).later b63); have kyx9 := yx9.cells; have cb : Below W9.heap.size W9 w63 := (by first | exact cb.trans (b63.mono cb.size)); have m7 := m7.below b63 (Nat.le_refl _); have m9 := m9.below b63 (Nat.le_refl _)))
  have B60 := B9.trans (cb.mono B9.size)
  replace x4 := x4.later cb
  replace x7 := yx7
  replace x9 := yx9
  have k7 := x7.cells
  have l7 := x7.lt
  go_wp2_with fail
  refine (IP.out _ _ _ m7).mono ?_
  rintro e w61 ⟨rfl, b61⟩
  replace x7 := x7.later b61
  replace x9 := x9.later b61
  replace x4 := x4.later b61
  replace m7 := m7.below b61 (Nat.le_refl _)
  replace m9 := m9.below b61 (Nat.le_refl _)
  have B61 := B60.trans (b61.mono B60.size)
  clear b61 B60
  clear k7 l7
  have k9 := x9.cells
  have l9 := x9.lt
  go_wp2_with fail
  refine (IQ.out _ _ _ m9).mono ?_
  rintro e w62 ⟨rfl, b62⟩
  replace x7 := x7.later b62
  replace x9 := x9.later b62
  replace x4 := x4.later b62
  replace m7 := m7.below b62 (Nat.le_refl _)
  replace m9 := m9.below b62 (Nat.le_refl _)
  have B62 := B61.trans (b62.mono B61.size)
  clear b62 B61
  clear k9 l9
  have k4 := x4.cells
  have l4 := x4.lt
  have f4 := x4.free
  go_wp2
  refine bodyPost_ret (by unfold results; simp only [Tryd.results47]; go_simp; rfl) rfl ?_
  exact ⟨rfl, (B62.setCell (by simp; omega) _).setCell (by simp; omega) _⟩

theorem lowest_any {S S' : Nat → Prop} {w : World} {va vb : Value} {a b : Int} {L : Nat} (m2 : BigIs S w va a L) (m3 : BigIs S' w vb b L) (a1 : 1 ≤ a) (b1 : 1 ≤ b) (hL : L ≤ 20000) (hL2 : 19 ≤ L) :
    Calls Tryd.prog 47 #[va, vb] w fun e w' => e = .returned (.tuple #[.agg #[.int .i64 (lowestI a b).1.1, .int .i64 (lowestI a b).1.2], .bool (lowestI a b).2]) ∧ Below w.heap.size w w' := by
  obtain ⟨g1, g2, g3, e1, e2, e3, e4⟩ := gcdI_spec a1 b1
  unfold lowestI
  by_cases h : a / gcdI a b ≤ 1000000000000
  · by_cases h' : b / gcdI a b ≤ 1000000000000
    · rw [if_pos ⟨h, h'⟩]
      exact lowest_good (p := a / gcdI a b) (q := b / gcdI a b) m2 m3 a1 b1 hL hL2 (Lib.hid rfl) (Lib.hid rfl) (by omega) (by omega) h h'
    · rw [if_neg (fun k => h' k.2)]
      exact lowest_over2 (p := a / gcdI a b) (q := b / gcdI a b) m2 m3 a1 b1 hL hL2 (Lib.hid rfl) (Lib.hid rfl) (by omega) (by omega) h (by omega)
  · rw [if_neg (fun k => h k.1)]
    exact lowest_over1 (p := a / gcdI a b) (q := b / gcdI a b) m2 m3 a1 b1 hL hL2 (Lib.hid rfl) (Lib.hid rfl) (by omega) (by omega) (by omega)
end Go.Proofs.YtkdpiikfiodopaaDoor
