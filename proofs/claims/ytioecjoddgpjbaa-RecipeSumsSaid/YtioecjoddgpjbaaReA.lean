/-
  Chapter 4, the document's: Check, Apply.
-/
import Derived.Test.YtioecjoddgpjbaaRb
import Derived.Test.YtioecjoddgpjbaaRef3
namespace Go.Proofs.Ytioecjoddgpjbaa
open Go.RowKit

set_option maxHeartbeats 1000000 in
theorem r4check_any (n d : Int) (w : World) :
    Calls Try.prog 56 #[.agg #[.int .i64 n, .int .i64 d]] w fun e w' => e = .returned (.int .i64 (chkI n d)) ∧ Below w.heap.size w w' := by
  obtain ⟨q, hq⟩ : ∃ q, chkI n d = q := ⟨_, rfl⟩
  have h1 := fun h => hq ▸ chkI_in (n := n) (d := d) h
  have h2 := fun h => hq ▸ chkI_out (n := n) (d := d) h
  rw [hq]
  have H := Lib.hid (And.intro h1 h2)
  clear h1 h2 hq
  have B := (Below.refl w.heap.size w).alloc (Nat.le_refl _) (.cells #[.int .i64 n, .int .i64 d] 29)
  go_enter Try.func56, Try.ntmps56
  go_wp2
  all_goals
    go_ret
    first
      | exact ⟨congrArg (fun z => Ending.returned (.int .i64 z)) (H.out.1 (by omega)).symm, B⟩
      | exact ⟨congrArg (fun z => Ending.returned (.int .i64 z)) (H.out.2 (by omega)).symm, B⟩

set_option maxRecDepth 100000 in
set_option maxHeartbeats 1000000 in
theorem r4apply_any (x n d : Int) (w : World) (x1 : -9223372036854775808 ≤ x) (x2 : x ≤ 9223372036854775807) :
    Calls Try.prog 42 #[.int .i64 x, .agg #[.int .i64 n, .int .i64 d]] w fun e' w' => e' = .returned (.tuple #[.int .i64 (applyI x n d).1, .int .i64 (applyI x n d).2]) ∧ Below w.heap.size w w' := by
  have CA := Lib.hid fun w => r4check_any n d w
  unfold applyI
  cases h : okR n d
  · rw [okR_false h] at CA
    rw [if_neg (by decide)]
    go_enter Try.func42, Try.ntmps42
    have B0 := Below.refl w.heap.size w
    go_wp2_with fail
    refine (CA.out _).mono ?_
    rintro e w1 ⟨rfl, b1⟩
    have x3 := (Box.new w 29 #[.int .i64 n, .int .i64 d]).later b1
    have b1 := below_up b1
    have B1 := B0.trans (b1.mono B0.size)
    clear b1 B0
    have k3 := x3.cells
    have l3 := x3.lt
    go_wp2
    go_ret2
    exact ⟨rfl, B1⟩
  · have h' := (okR_iff n d).1 h
    rw [okR_true h] at CA
    rw [if_pos rfl]
    have SC := Lib.hid fun w => rscale_any (x := x) (n := n) (d := d) x1 x2 (by omega) (by omega) (by omega) w
    generalize evenI (x * n) d = p at *
    clear h h' x1 x2
    go_enter Try.func42, Try.ntmps42
    have B0 := Below.refl w.heap.size w
    go_wp2_with fail
    refine (CA.out _).mono ?_
    rintro e w1 ⟨rfl, b1⟩
    have x3 := (Box.new w 29 #[.int .i64 n, .int .i64 d]).later b1
    have b1 := below_up b1
    have B1 := B0.trans (b1.mono B0.size)
    clear b1 B0
    have k3 := x3.cells
    have l3 := x3.lt
    clear CA
    go_wp2_with fail
    refine (SC.out _).mono ?_
    rintro e w2 ⟨rfl, b2⟩
    replace x3 := x3.later b2
    have B2 := B1.trans (b2.mono B1.size)
    clear b2 B1
    go_wp2
    go_ret2
    exact ⟨rfl, B2⟩
end Go.Proofs.Ytioecjoddgpjbaa
