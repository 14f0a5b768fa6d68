/-
  The statements' own example, awake, returns true; it leaves what was there as it was.
-/
import Derived.Test.YteclnbokfgebkaaY
namespace Go.Proofs.Yteclnbokfgebkaa
open Go.RowKit

theorem RowAt.lit {w : World} {t : TypeId} (l : List Int) (cs : Array Value) (h : cs = (ivals l).toArray) : RowAt (w.alloc (.cells cs t)) (some ⟨w.heap.size, 0, none⟩) (ivals l) := by
  subst h
  refine RowAt.of_cells fun j u hj => ?_
  rw [addr_add, (Box.new w t _).cells]
  simpa using hj

set_option maxHeartbeats 1000000 in
theorem awake_any (w : World) : Calls Try.prog 18 #[] w fun e w' => e = .returned (.bool true) ∧ Below w.heap.size w w' := by
  have c1 := Lib.hid fun w => add_any (a := 2) (b := 3) (w := w) (by omega) (by omega) (by omega) (by omega)
  have c2 := Lib.hid fun w => add_any (a := 9223372036854775807) (b := 1) (w := w) (by omega) (by omega) (by omega) (by omega)
  have c3 := Lib.hid fun w => sub_any (a := -5) (b := 3) (w := w) (by omega) (by omega) (by omega) (by omega)
  have c4 := Lib.hid fun w => neg_any (a := -9223372036854775808) (w := w) (by omega) (by omega)
  have c5 := Lib.hid fun w => abs_any (a := -4) (w := w) (by omega) (by omega)
  have c6 := Lib.hid fun w A (h : RowAt w A (ivals [9223372036854775807, 1, -5])) => sum_any (c := 3) (A := A) (w := w) (by simp) (by simp [I64s]) h
  have c7 := Lib.hid fun w A (h : RowAt w A (ivals [9223372036854775807, 1])) => sum_any (c := 2) (A := A) (w := w) (by simp) (by simp [I64s]) h
  have c8 := Lib.hid fun w A A' (h : RowAt w A (ivals [1, 2])) (h' : RowAt w A' (ivals [5])) => net_any (c := 2) (c' := 1) (A := A) (A' := A') (w := w) (by simp) (by simp) (by simp [I64s]) (by simp [I64s]) h h'
  have d1 := Lib.hid fun w => ncmp_any (a := 1) (b := 2) (w := w)
  have d2 := Lib.hid fun w => ncmp_any (a := 2) (b := 1) (w := w)
  have d3 := Lib.hid fun w => ncmp_any (a := 2) (b := 2) (w := w)
  rw [show (2 : Int) + 3 = 5 by omega, toldI_in (by omega) (by omega)] at c1
  rw [show (9223372036854775807 : Int) + 1 = 9223372036854775808 by omega, toldI_out (by omega)] at c2
  rw [show (-5 : Int) - 3 = -8 by omega, toldI_in (by omega) (by omega)] at c3
  rw [toldI_out (by omega)] at c4
  rw [show ((-4 : Int).natAbs : Int) = 4 by omega, toldI_in (by omega) (by omega)] at c5
  rw [show sumI [9223372036854775807, 1, -5] = 9223372036854775803 by simp [sumI], toldI_in (by omega) (by omega)] at c6
  rw [show sumI [9223372036854775807, 1] = 9223372036854775808 by simp [sumI], toldI_out (by omega)] at c7
  rw [show sumI [1, 2] - sumI [5] = -2 by simp [sumI], toldI_in (by omega) (by omega)] at c8
  rw [show cmpI 1 2 = -1 by simp [cmpI]] at d1
  rw [show cmpI 2 1 = 1 by simp [cmpI]] at d2
  rw [show cmpI 2 2 = 0 by simp [cmpI]] at d3
  go_enter Try.func18, Try.ntmps18
  go_wp2_with fail
  refine (c1.out _).mono ?_
  rintro e w1 ⟨rfl, rfl⟩
  go_wp2_with fail
  refine (c2.out _).mono ?_
  rintro e w2 ⟨rfl, rfl⟩
  go_wp2_with fail
  refine (c3.out _).mono ?_
  rintro e w3 ⟨rfl, rfl⟩
  go_wp2_with fail
  refine (c4.out _).mono ?_
  rintro e w4 ⟨rfl, rfl⟩
  go_wp2_with fail
  refine (c5.out _).mono ?_
  rintro e w5 ⟨rfl, rfl⟩
  go_wp2_with fail
  refine (c6.out _ _ (RowAt.lit _ _ rfl)).mono ?_
  rintro e w6 ⟨rfl, b6⟩
  have s6 := b6.size
  have b6 := ((Below.refl _ _).alloc (Nat.le_refl _) _).trans (b6.mono (by simp))
  go_wp2_with fail
  refine (c7.out _ _ (RowAt.lit _ _ rfl)).mono ?_
  rintro e w7 ⟨rfl, b7⟩
  have b7 := b6.trans (((Below.refl _ _).alloc (Nat.le_refl _) _ |>.trans (b7.mono (by simp))).mono b6.size)
  go_wp2_with fail
  have r1 := (RowAt.lit (w := w7) (t := 3) [1, 2] #[.int .i64 1, .int .i64 2] rfl).alloc (.cells #[.int .i64 5] 3)
  have r2 := RowAt.lit (w := w7.alloc (.cells #[.int .i64 1, .int .i64 2] 3)) (t := 3) [5] #[.int .i64 5] rfl
  rw [show (w7.alloc (.cells #[.int .i64 1, .int .i64 2] 3)).heap.size = w7.heap.size + 1 by simp] at r2
  refine (c8.out _ _ _ r1 r2).mono ?_
  rintro e w8 ⟨rfl, b8⟩
  have b8 := b7.trans ((((Below.refl _ _).alloc (Nat.le_refl _) _).alloc (by simp) _ |>.trans (b8.mono (by simp; omega))).mono b7.size)
  go_wp2_with fail
  refine (d1.out _).mono ?_
  rintro e w9 ⟨rfl, rfl⟩
  go_wp2_with fail
  refine (d2.out _).mono ?_
  rintro e w9 ⟨rfl, rfl⟩
  go_wp2_with fail
  refine (d3.out _).mono ?_
  rintro e w9 ⟨rfl, rfl⟩
  go_wp2
  go_ret
  exact ⟨rfl, b8⟩
end Go.Proofs.Yteclnbokfgebkaa
