/-
  The statements' own example of chapter 5, awake, returns true.
-/
import Derived.Test.YtkdpiikfiodopaaDoorSh2
namespace Go.Proofs.YtkdpiikfiodopaaDoor
open Go.RowKit

theorem RowAt.lit2 {w : World} {t : TypeId} {g : Nat} (hg : g = w.heap.size) (l : List Int) (cs : Array Value) (h : cs = (ivals l).toArray) : RowAt (w.alloc (.cells cs t)) (some ⟨g, 0, none⟩) (ivals l) := by
  subst hg
  exact RowAt.lit l cs h

set_option maxRecDepth 100000 in
set_option maxHeartbeats 1000000 in
theorem shawake_any (w : World) (T : Tb w) : Calls Tryd.prog 16 #[] w fun e w' => e = .returned (.bool true) ∧ Below w.heap.size w w' := by
  have P1 : Hid (∀ w, Calls Tryd.prog 54 #[.int .i64 7, .int .i64 5000] w fun e w' => e = .returned (.tuple #[.int .i64 4, .int .i64 0]) ∧ Below w.heap.size w w') := Lib.hid fun w => by
    have h := parent_any 7 5000 w (by omega) (by omega)
    rw [show parI 7 5000 = (4, 0) by decide +kernel] at h
    exact h
  have M1 : Hid (∀ w, Calls Tryd.prog 55 #[.int .i64 7, .int .i64 5000] w fun e w' => e = .returned (.tuple #[.int .i64 3, .int .i64 0]) ∧ Below w.heap.size w w') := Lib.hid fun w => by
    have h := minor_any 7 5000 w (by omega) (by omega)
    rw [show minI 7 5000 = (3, 0) by decide +kernel] at h
    exact h
  have P2 : Hid (∀ w, Calls Tryd.prog 54 #[.int .i64 7, .int .i64 10001] w fun e w' => e = .returned (.tuple #[.int .i64 0, .int .i64 12]) ∧ Below w.heap.size w w') := Lib.hid fun w => by
    have h := parent_any 7 10001 w (by omega) (by omega)
    rw [show parI 7 10001 = (0, 12) by decide +kernel] at h
    exact h
  have K1 : Hid (∀ (w : World) (A : Option Addr), RowAt w A (ivals [8000, 5000]) → Tb w → Calls Tryd.prog 17 #[.slice A 2 2] w fun e w' => e = .returned (.tuple #[.agg #[.int .i64 2, .int .i64 5], .int .i64 0]) ∧ Below w.heap.size w w') := Lib.hid fun w A h T => by
    have h := chain_any (c := 2) (l := [8000, 5000]) (by decide) h T
    rw [show chainI [8000, 5000] = ((2, 5), 0) by decide +kernel] at h
    exact h
  have K2 : Hid (∀ (w : World) (A : Option Addr), RowAt w A (ivals [8000, 0]) → Tb w → Calls Tryd.prog 17 #[.slice A 2 2] w fun e w' => e = .returned (.tuple #[.agg #[.int .i64 0, .int .i64 1], .int .i64 0]) ∧ Below w.heap.size w w') := Lib.hid fun w A h T => by
    have h := chain_any (c := 2) (l := [8000, 0]) (by decide) h T
    rw [show chainI [8000, 0] = ((0, 1), 0) by decide +kernel] at h
    exact h
  have K3 : Hid (∀ (w : World) (A : Option Addr), RowAt w A (ivals []) → Tb w → Calls Tryd.prog 17 #[.slice A 0 0] w fun e w' => e = .returned (.tuple #[.agg #[.int .i64 1, .int .i64 1], .int .i64 0]) ∧ Below w.heap.size w w') := Lib.hid fun w A h T => by
    have h := chain_any (c := 0) (l := []) (by decide) h T
    rw [show chainI [] = ((1, 1), 0) by decide +kernel] at h
    exact h
  have C1 : Hid (∀ w, Calls Tryd.prog 56 #[.int .i64 (-1)] w fun e w' => e = .returned (.int .i64 12) ∧ w = w') := Lib.hid fun w => by
    have h := scheck_any (-1) w
    rw [show chkS (-1) = 12 by decide +kernel] at h
    exact h
  have C2 : Hid (∀ w, Calls Tryd.prog 56 #[.int .i64 10000] w fun e w' => e = .returned (.int .i64 0) ∧ w = w') := Lib.hid fun w => by
    have h := scheck_any 10000 w
    rw [show chkS 10000 = 0 by decide +kernel] at h
    exact h
  have E1 : ∀ w, (Op.equalIn 10000 23 (.agg #[.int .i64 2, .int .i64 5]) (.agg #[.int .i64 2, .int .i64 5])).run Tryd.prog w = .ok true w := fun w => by rw [req]; simp
  have E2 : ∀ w, (Op.equalIn 10000 23 (.agg #[.int .i64 0, .int .i64 1]) (.agg #[.int .i64 0, .int .i64 1])).run Tryd.prog w = .ok true w := fun w => by rw [req]; simp
  have E3 : ∀ w, (Op.equalIn 10000 23 (.agg #[.int .i64 1, .int .i64 1]) (.agg #[.int .i64 1, .int .i64 1])).run Tryd.prog w = .ok true w := fun w => by rw [req]; simp
  go_enter Tryd.func16, Tryd.ntmps16
  have B0 := Below.refl w.heap.size w
  go_wp2_with fail
  refine (P1.out _).mono ?_
  rintro e w1 ⟨rfl, b1⟩
  replace T := T.below b1 (Nat.le_refl _)
  have B1 := B0.trans (b1.mono B0.size)
  clear b1 B0
  go_wp2_with fail
  refine (M1.out _).mono ?_
  rintro e w2 ⟨rfl, b2⟩
  replace T := T.below b2 (Nat.le_refl _)
  have B2 := B1.trans (b2.mono B1.size)
  clear b2 B1
  go_wp2_with fail
  refine (P2.out _).mono ?_
  rintro e w3 ⟨rfl, b3⟩
  replace T := T.below b3 (Nat.le_refl _)
  have B3 := B2.trans (b3.mono B2.size)
  clear b3 B2
  go_wp2_with fail
  refine (K1.out _ _ (RowAt.lit2 rfl [8000, 5000] _ rfl) (T.alloc _)).mono ?_
  rintro e w4 ⟨rfl, b4⟩
  replace T := (T.alloc _).below b4 (Nat.le_refl _)
  have b4 := below_up b4
  have B4 := B3.trans (b4.mono B3.size)
  clear b4 B3
  go_wp2_with fail
  refine (K2.out _ _ (RowAt.lit2 (by simp) [8000, 0] _ rfl) ((T.alloc _).alloc _)).mono ?_
  rintro e w5 ⟨rfl, b5⟩
  have x7 := ((Box.new w4 23 #[.int .i64 2, .int .i64 5]).alloc (.cells #[.int .i64 8000, .int .i64 0] 3)).later b5
  replace T := ((T.alloc _).alloc _).below b5 (Nat.le_refl _)
  have b5 := below_up b5
  have b5 := below_up b5
  have B5 := B4.trans (b5.mono B4.size)
  clear b5 B4
  go_wp2_with fail
  refine (K3.out _ _ (RowAt.nil _ _) (T.alloc _)).mono ?_
  rintro e w6 ⟨rfl, b6⟩
  have x9 := (Box.new w5 23 #[.int .i64 0, .int .i64 1]).later b6
  replace T := (T.alloc _).below b6 (Nat.le_refl _)
  replace x7 := (x7.alloc _).later b6
  have b6 := below_up b6
  have B6 := B5.trans (b6.mono B5.size)
  clear b6 B5
  have k7 := x7.cells
  have k9 := x9.cells
  have l7 := x7.lt
  have l9 := x9.lt
  go_wp2_with fail
  refine (C1.out _).mono ?_
  rintro e _ ⟨rfl, rfl⟩
  go_wp2_with fail
  refine (C2.out _).mono ?_
  rintro e _ ⟨rfl, rfl⟩
  go_wp2
  go_ret
  exact ⟨rfl, B6.alloc B6.size _⟩
end Go.Proofs.YtkdpiikfiodopaaDoor
