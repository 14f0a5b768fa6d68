/-
  The reference of chapter 5: Check, Parent, Minor; ShareTells: the walk.
-/
import Derived.Test.YtkjdkhcpeaepoaaDoorShAw
import Derived.Test.YtkjdkhcpeaepoaaDoorRef3
namespace Go.Proofs.YtkjdkhcpeaepoaaDoor
open Go.RowKit

theorem r5check_any (s : Int) (w : World) : Calls Tryd.prog 31 #[.int .i64 s] w fun e w' => e = .returned (.int .i64 (chkS s)) ∧ w = w' := by
  by_cases h1 : s < 0
  · rw [show chkS s = 12 from if_neg (by omega)]
    go_enter Tryd.func31, Tryd.ntmps31
    go_wp2
    go_ret
    exact ⟨rfl, rfl⟩
  · by_cases h2 : 10000 < s
    · rw [show chkS s = 12 from if_neg (by omega)]
      go_enter Tryd.func31, Tryd.ntmps31
      go_wp2
      go_ret
      exact ⟨rfl, rfl⟩
    · rw [show chkS s = 0 from if_pos (by omega)]
      go_enter Tryd.func31, Tryd.ntmps31
      go_wp2
      go_ret
      exact ⟨rfl, rfl⟩

set_option maxHeartbeats 1000000 in
theorem r5parent_any (x s : Int) (w : World) (x1 : -9223372036854775808 ≤ x) (x2 : x ≤ 9223372036854775807) :
    Calls Tryd.prog 27 #[.int .i64 x, .int .i64 s] w fun e w' => e = .returned (.tuple #[.int .i64 (parI x s).1, .int .i64 (parI x s).2]) ∧ Below w.heap.size w w' := by
  have CH := Lib.hid fun w => r5check_any s w
  by_cases h : 0 ≤ s ∧ s ≤ 10000
  · have SC := Lib.hid fun w => rscale_any (x := x) (n := s) (d := 10000) x1 x2 (by omega) (by omega) (by omega) w
    have hb := near_between (x := x) h.1 h.2
    have e1 : evenI (x * s) 10000 = (nearI (x * s) 10000, 0) := by
      unfold evenI toldI
      rw [if_neg (by omega), leastI_eq, mostI_eq]
      refine if_pos ?_
      rcases Int.le_total 0 x with h' | h'
      · have := hb.1 h'; omega
      · have := hb.2 h'; omega
    rw [e1] at SC
    rw [show chkS s = 0 from if_pos h] at CH
    rw [show parI x s = (nearI (x * s) 10000, 0) from if_pos h]
    generalize nearI (x * s) 10000 = p at *
    clear h hb e1 x1 x2
    go_enter Tryd.func27, Tryd.ntmps27
    go_wp2_with fail
    refine (CH.out _).mono ?_
    rintro e _ ⟨rfl, rfl⟩
    go_wp2_with fail
    refine (SC.out _).mono ?_
    rintro e w1 ⟨rfl, b1⟩
    go_wp2
    go_ret2
    exact ⟨rfl, b1⟩
  · rw [show chkS s = 12 from if_neg h] at CH
    rw [show parI x s = (0, 12) from if_neg h]
    clear h x1 x2
    go_enter Tryd.func27, Tryd.ntmps27
    go_wp2_with fail
    refine (CH.out _).mono ?_
    rintro e _ ⟨rfl, rfl⟩
    go_wp2
    go_ret2
    exact ⟨rfl, Below.refl _ _⟩

set_option maxRecDepth 100000 in
set_option maxHeartbeats 1000000 in
theorem r5minor_any (x s : Int) (w : World) (x1 : -9223372036854775808 ≤ x) (x2 : x ≤ 9223372036854775807) :
    Calls Tryd.prog 29 #[.int .i64 x, .int .i64 s] w fun e w' => e = .returned (.tuple #[.int .i64 (minI x s).1, .int .i64 (minI x s).2]) ∧ Below w.heap.size w w' := by
  have PA := Lib.hid fun w => r5parent_any x s w x1 x2
  unfold parI at PA
  unfold minI
  by_cases h : 0 ≤ s ∧ s ≤ 10000
  · have hb := near_between (x := x) h.1 h.2
    rw [if_pos h] at PA
    rw [if_pos h]
    generalize nearI (x * s) 10000 = p at *
    have hp : -9223372036854775808 ≤ p ∧ p ≤ 9223372036854775807 ∧ -9223372036854775808 ≤ x - p ∧ x - p ≤ 9223372036854775807 := by
      rcases Int.le_total 0 x with h' | h'
      · have := hb.1 h'; omega
      · have := hb.2 h'; omega
    obtain ⟨p1, p2, r1, r2⟩ := hp
    have OX := Lib.hid fun (w : World) => of_any x w x1 x2
    have OP := Lib.hid fun (w : World) => of_any p w p1 p2
    have MI := Lib.hid fun (w : World) S S' va vb (ha : BigIs S w va x 19) (hb : BigIs S' w vb p 19) => minus_any ha hb (by omega) (by omega)
    have TD := Lib.hid fun (w : World) S va (ha : BigIs S w va (x - p) (max 19 19 + 1)) => told_any ha (by omega)
    rw [toldI_in r1 r2] at TD
    clear h hb x1 x2 r1 r2 p1 p2
    go_enter Tryd.func29, Tryd.ntmps29
    have B0 := Below.refl w.heap.size w
    go_wp2_with fail
    refine (PA.out _).mono ?_
    rintro e w1 ⟨rfl, b1⟩
    have B1 := B0.trans (b1.mono B0.size)
    clear b1 B0
    go_wp2_with fail
    refine (OX.out _).mono ?_
    rintro e w2 ⟨v1, rfl, m1, b2⟩
    have B2 := B1.trans (b2.mono B1.size)
    clear b2 B1
    obtain ⟨t1, A1, n1, c1, rfl⟩ := m1.form2
    go_wp2_with fail
    refine (OP.out _).mono ?_
    rintro e w3 ⟨v2, rfl, m2, b3⟩
    replace m1 := m1.below b3 (Nat.le_refl _)
    have B3 := B2.trans (b3.mono B2.size)
    clear b3 B2
    obtain ⟨t2, A2, n2, c2, rfl⟩ := m2.form2
    go_wp2_with fail
    refine (MI.out _ _ _ _ _ m1 m2).mono ?_
    rintro e w4 ⟨v3, rfl, m3, b4⟩
    replace m1 := m1.below b4 (Nat.le_refl _)
    replace m2 := m2.below b4 (Nat.le_refl _)
    have B4 := B3.trans (b4.mono B3.size)
    clear b4 B3
    obtain ⟨t3, A3, n3, c3, rfl⟩ := m3.form2
    clear m1 m2
    go_wp2_with fail
    refine (TD.out _ _ _ m3).mono ?_
    rintro e w5 ⟨rfl, b5⟩
    replace m3 := m3.below b5 (Nat.le_refl _)
    have B5 := B4.trans (b5.mono B4.size)
    clear b5 B4
    go_wp2
    go_ret2
    exact ⟨rfl, B5⟩
  · rw [if_neg h] at PA
    rw [if_neg h]
    clear h x1 x2
    go_enter Tryd.func29, Tryd.ntmps29
    go_wp2_with fail
    refine (PA.out _).mono ?_
    rintro e w1 ⟨rfl, b1⟩
    go_wp2
    go_ret2
    exact ⟨rfl, b1⟩

set_option maxRecDepth 100000 in
set_option maxHeartbeats 1000000 in
theorem stells_share (x s : Int) (w : World) (x1 : -9223372036854775808 ≤ x) (x2 : x ≤ 9223372036854775807) (T : Tb w) :
    Calls Tryd.prog 7 #[.int .i64 x, .int .i64 s] w fun e w' => e = .returned (.bool true) ∧ Below w.heap.size w w' := by
  have AW := Lib.hid fun (w : World) (T : Tb w) => shawake_any w T
  have P1 := Lib.hid fun w => parent_any x s w x1 x2
  have P2 := Lib.hid fun w => r5parent_any x s w x1 x2
  have M1 := Lib.hid fun w => minor_any x s w x1 x2
  have M2 := Lib.hid fun w => r5minor_any x s w x1 x2
  have C1 := Lib.hid fun w => scheck_any s w
  have C2 := Lib.hid fun w => r5check_any s w
  clear x1 x2
  generalize parI x s = p at *
  generalize minI x s = q at *
  generalize chkS s = c at *
  obtain ⟨p, p'⟩ := p
  obtain ⟨q, q'⟩ := q
  go_enter Tryd.func7, Tryd.ntmps7
  have B0 := Below.refl w.heap.size w
  go_wp2_with fail
  refine (P1.out _).mono ?_
  rintro e w1 ⟨rfl, b1⟩
  replace T := T.below b1 (Nat.le_refl _)
  have B1 := B0.trans (b1.mono B0.size)
  clear b1 B0
  go_wp2_with fail
  refine (P2.out _).mono ?_
  rintro e w2 ⟨rfl, b2⟩
  replace T := T.below b2 (Nat.le_refl _)
  have B2 := B1.trans (b2.mono B1.size)
  clear b2 B1
  go_wp2_with fail
  refine (M1.out _).mono ?_
  rintro e w3 ⟨rfl, b3⟩
  replace T := T.below b3 (Nat.le_refl _)
  have B3 := B2.trans (b3.mono B2.size)
  clear b3 B2
  go_wp2_with fail
  refine (M2.out _).mono ?_
  rintro e w4 ⟨rfl, b4⟩
  replace T := T.below b4 (Nat.le_refl _)
  have B4 := B3.trans (b4.mono B3.size)
  clear b4 B3
  go_wp2_with fail
  refine (C1.out _).mono ?_
  rintro e _ ⟨rfl, rfl⟩
  go_wp2_with fail
  refine (C2.out _).mono ?_
  rintro e _ ⟨rfl, rfl⟩
  go_wp2_with fail
  refine (AW.out _ T).mono ?_
  rintro e w5 ⟨rfl, b5⟩
  replace T := T.below b5 (Nat.le_refl _)
  have B5 := B4.trans (b5.mono B4.size)
  clear b5 B4
  go_wp2
  go_ret
  exact ⟨rfl, B5⟩
end Go.Proofs.YtkjdkhcpeaepoaaDoor
