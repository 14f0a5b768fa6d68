/-
  ShareParts, ShareRises: the walks.
-/
import Derived.Test.YtkjdkhcpeaepoaaDoorShAw
namespace Go.Proofs.YtkjdkhcpeaepoaaDoor
open Go.RowKit

set_option maxRecDepth 100000 in
set_option maxHeartbeats 1000000 in
theorem sparts_no (x s : Int) (w : World) (T : Tb w) (AW : Hid (∀ w, Tb w → Calls Tryd.prog 32 #[] w fun e w' => e = .returned (.bool true) ∧ Below w.heap.size w w')) (h : chkS s = 12) :
    Calls Tryd.prog 9 #[.int .i64 x, .int .i64 s] w fun e w' => e = .returned (.bool true) ∧ Below w.heap.size w w' := by
  have CH := Lib.hid fun w => scheck_any s w
  rw [h] at CH
  clear h
  go_enter Tryd.func9, Tryd.ntmps9
  go_wp2_with fail
  refine (CH.out _).mono ?_
  rintro e _ ⟨rfl, rfl⟩
  go_wp2_with fail
  refine (AW.out _ T).mono ?_
  rintro e w1 ⟨rfl, b1⟩
  go_wp2
  go_ret
  exact ⟨rfl, b1⟩

set_option maxRecDepth 100000 in
set_option maxHeartbeats 4000000 in
theorem sparts_yes (x s p m : Int) (w : World) (T : Tb w) (AW : Hid (∀ w, Tb w → Calls Tryd.prog 32 #[] w fun e w' => e = .returned (.bool true) ∧ Below w.heap.size w w')) (x1 : -9223372036854775808 ≤ x) (x2 : x ≤ 9223372036854775807)
    (CH : Hid (∀ w, Calls Tryd.prog 30 #[.int .i64 s] w fun e w' => e = .returned (.int .i64 0) ∧ w = w'))
    (PA : Hid (∀ w, Calls Tryd.prog 26 #[.int .i64 x, .int .i64 s] w fun e w' => e = .returned (.tuple #[.int .i64 p, .int .i64 0]) ∧ Below w.heap.size w w'))
    (MI : Hid (∀ w, Calls Tryd.prog 28 #[.int .i64 x, .int .i64 s] w fun e w' => e = .returned (.tuple #[.int .i64 m, .int .i64 0]) ∧ Below w.heap.size w w'))
    (hpm : Hid (p + m = x)) (hpos : Hid (0 ≤ x → 0 ≤ p ∧ p ≤ x ∧ 0 ≤ m ∧ m ≤ x)) (hneg : Hid (x ≤ 0 → p ≤ 0 ∧ x ≤ p ∧ m ≤ 0 ∧ x ≤ m)) (hs : Hid ((s = 0 → p = 0) ∧ (s = 10000 → p = x))) :
    Calls Tryd.prog 9 #[.int .i64 x, .int .i64 s] w fun e w' => e = .returned (.bool true) ∧ Below w.heap.size w w' := by
  have OP := Lib.hid fun (w : World) => of_any p w (by rcases Int.le_total 0 x with h | h <;> first | (have := hpos.out h; omega) | (have := hneg.out h; omega)) (by rcases Int.le_total 0 x with h | h <;> first | (have := hpos.out h; omega) | (have := hneg.out h; omega))
  have OM := Lib.hid fun (w : World) => of_any m w (by rcases Int.le_total 0 x with h | h <;> first | (have := hpos.out h; omega) | (have := hneg.out h; omega)) (by rcases Int.le_total 0 x with h | h <;> first | (have := hpos.out h; omega) | (have := hneg.out h; omega))
  have PL := Lib.hid fun (w : World) S S' va vb (ha : BigIs S w va p 19) (hb : BigIs S' w vb m 19) => plus_any ha hb (by omega) (by omega)
  rw [hpm.out] at PL
  have IN := Lib.hid fun (w : World) S va (ha : BigIs S w va x (max 19 19 + 1)) => int_in ha (by omega) (by rw [leastI_eq]; exact x1) (by rw [mostI_eq]; exact x2)
  clear hpm x1 x2
  go_enter Tryd.func9, Tryd.ntmps9
  have B0 := Below.refl w.heap.size w
  go_wp2_with fail
  refine (CH.out _).mono ?_
  rintro e _ ⟨rfl, rfl⟩
  go_wp2_with fail
  refine (PA.out _).mono ?_
  rintro e w1 ⟨rfl, b1⟩
  replace T := T.below b1 (Nat.le_refl _)
  have B1 := B0.trans (b1.mono B0.size)
  clear b1 B0
  go_wp2_with fail
  refine (MI.out _).mono ?_
  rintro e w2 ⟨rfl, b2⟩
  replace T := T.below b2 (Nat.le_refl _)
  have B2 := B1.trans (b2.mono B1.size)
  clear b2 B1
  go_wp2_with fail
  refine (OP.out _).mono ?_
  rintro e w3 ⟨v1, rfl, m1, b3⟩
  replace T := T.below b3 (Nat.le_refl _)
  have B3 := B2.trans (b3.mono B2.size)
  clear b3 B2
  obtain ⟨t1, A1, n1, c1, rfl⟩ := m1.form2
  go_wp2_with fail
  refine (OM.out _).mono ?_
  rintro e w4 ⟨v2, rfl, m2, b4⟩
  replace T := T.below b4 (Nat.le_refl _)
  replace m1 := m1.below b4 (Nat.le_refl _)
  have B4 := B3.trans (b4.mono B3.size)
  clear b4 B3
  obtain ⟨t2, A2, n2, c2, rfl⟩ := m2.form2
  go_wp2_with fail
  refine (PL.out _ _ _ _ _ m1 m2).mono ?_
  rintro e w5 ⟨v3, rfl, m3, b5⟩
  replace T := T.below b5 (Nat.le_refl _)
  replace m1 := m1.below b5 (Nat.le_refl _)
  replace m2 := m2.below b5 (Nat.le_refl _)
  have B5 := B4.trans (b5.mono B4.size)
  clear b5 B4
  obtain ⟨t3, A3, n3, c3, rfl⟩ := m3.form2
  clear m1 m2
  go_wp2_with fail
  refine (IN.out _ _ _ m3).mono ?_
  rintro e w6 ⟨rfl, b6⟩
  replace T := T.below b6 (Nat.le_refl _)
  replace m3 := m3.below b6 (Nat.le_refl _)
  have B6 := B5.trans (b6.mono B5.size)
  clear b6 B5
  clear m3
  clear CH PA MI OP OM PL IN
  have AK := Lib.hid (AW.out _ T)
  clear AW
  rcases (by omega : x < 0 ∨ x = 0 ∨ 0 < x) with hx | rfl | hx
  · obtain ⟨a1, a2, a3, a4⟩ := hneg.out (by omega)
    have f1 : ¬ 0 ≤ x := by omega
    have f2 : x ≤ 0 := by omega
    rcases (by omega : s = 0 ∨ s = 10000 ∨ (s ≠ 0 ∧ s ≠ 10000)) with rfl | rfl | ⟨h1, h2⟩
    · obtain rfl : p = 0 := hs.out.1 rfl
      (go_wp2_with fail; refine AK.out.mono ?_; rintro e w9 ⟨rfl, b9⟩; go_wp2; go_ret; exact ⟨rfl, B6.trans (b9.mono B6.size)⟩)
    · obtain rfl : p = x := hs.out.2 rfl
      (go_wp2_with fail; refine AK.out.mono ?_; rintro e w9 ⟨rfl, b9⟩; go_wp2; go_ret; exact ⟨rfl, B6.trans (b9.mono B6.size)⟩)
    · have g1 : (s != 0) = true := bne_iff_ne.2 h1
      have g2 : (s != 10000) = true := bne_iff_ne.2 h2
      clear h1 h2
      (go_wp2_with fail; refine AK.out.mono ?_; rintro e w9 ⟨rfl, b9⟩; go_wp2; go_ret; exact ⟨rfl, B6.trans (b9.mono B6.size)⟩)
  · obtain ⟨a1, a2, a3, a4⟩ := hpos.out (by omega)
    obtain rfl : p = 0 := by omega
    obtain rfl : m = 0 := by omega
    clear a1 a2 a3 a4
    rcases (by omega : s = 0 ∨ s = 10000 ∨ (s ≠ 0 ∧ s ≠ 10000)) with rfl | rfl | ⟨h1, h2⟩
    · (go_wp2_with fail; refine AK.out.mono ?_; rintro e w9 ⟨rfl, b9⟩; go_wp2; go_ret; exact ⟨rfl, B6.trans (b9.mono B6.size)⟩)
    · (go_wp2_with fail; refine AK.out.mono ?_; rintro e w9 ⟨rfl, b9⟩; go_wp2; go_ret; exact ⟨rfl, B6.trans (b9.mono B6.size)⟩)
    · have g1 : (s != 0) = true := bne_iff_ne.2 h1
      have g2 : (s != 10000) = true := bne_iff_ne.2 h2
      clear h1 h2
      (go_wp2_with fail; refine AK.out.mono ?_; rintro e w9 ⟨rfl, b9⟩; go_wp2; go_ret; exact ⟨rfl, B6.trans (b9.mono B6.size)⟩)
  · obtain ⟨a1, a2, a3, a4⟩ := hpos.out (by omega)
    have f1 : 0 ≤ x := by omega
    have f2 : ¬ x ≤ 0 := by omega
    rcases (by omega : s = 0 ∨ s = 10000 ∨ (s ≠ 0 ∧ s ≠ 10000)) with rfl | rfl | ⟨h1, h2⟩
    · obtain rfl : p = 0 := hs.out.1 rfl
      (go_wp2_with fail; refine AK.out.mono ?_; rintro e w9 ⟨rfl, b9⟩; go_wp2; go_ret; exact ⟨rfl, B6.trans (b9.mono B6.size)⟩)
    · obtain rfl : p = x := hs.out.2 rfl
      (go_wp2_with fail; refine AK.out.mono ?_; rintro e w9 ⟨rfl, b9⟩; go_wp2; go_ret; exact ⟨rfl, B6.trans (b9.mono B6.size)⟩)
    · have g1 : (s != 0) = true := bne_iff_ne.2 h1
      have g2 : (s != 10000) = true := bne_iff_ne.2 h2
      clear h1 h2
      (go_wp2_with fail; refine AK.out.mono ?_; rintro e w9 ⟨rfl, b9⟩; go_wp2; go_ret; exact ⟨rfl, B6.trans (b9.mono B6.size)⟩)

theorem sparts_law (x s : Int) (w : World) (x1 : -9223372036854775808 ≤ x) (x2 : x ≤ 9223372036854775807) (T : Tb w) :
    Calls Tryd.prog 9 #[.int .i64 x, .int .i64 s] w fun e w' => e = .returned (.bool true) ∧ Below w.heap.size w w' := by
  have AW := Lib.hid fun (w : World) (T : Tb w) => shawake_any w T
  by_cases h : 0 ≤ s ∧ s ≤ 10000
  · have CH := fun w => scheck_any s w
    rw [show chkS s = 0 from if_pos h] at CH
    have PA := fun w => parent_any x s w x1 x2
    have MI := fun w => minor_any x s w x1 x2
    rw [show parI x s = (nearI (x * s) 10000, 0) from if_pos h] at PA
    rw [show minI x s = (x - nearI (x * s) 10000, 0) from if_pos h] at MI
    have hb := near_between (x := x) h.1 h.2
    have h0 : s = 0 → nearI (x * s) 10000 = 0 := fun e => by rw [e, Int.mul_zero]; exact near_zero
    have h1 : s = 10000 → nearI (x * s) 10000 = x := fun e => by rw [e]; exact near_whole x
    refine sparts_yes x s _ _ w T AW x1 x2 (Lib.hid CH) (Lib.hid PA) (Lib.hid MI) (Lib.hid (by omega)) (Lib.hid fun hx => ?_) (Lib.hid fun hx => ?_) (Lib.hid ⟨h0, h1⟩)
    · have := hb.1 hx
      omega
    · have := hb.2 hx
      omega
  · exact sparts_no x s w T AW (if_neg h)
end Go.Proofs.YtkjdkhcpeaepoaaDoor
