/-
  ScaleScales: the walk.
-/
import Derived.Test.YtcehcbhinlpenaaSAwake
namespace Go.Proofs.Ytcehcbhinlpenaa
open Go.RowKit

set_option maxRecDepth 100000 in
set_option maxHeartbeats 2000000 in
theorem sscales_law (x n d : Int) (w : World) (x1 : -9223372036854775808 ≤ x) (x2 : x ≤ 9223372036854775807) (n1 : -9223372036854775808 ≤ n) (n2 : n ≤ 9223372036854775807) (d2 : d ≤ 9223372036854775807) :
    Calls Try.prog 8 #[.int .i64 x, .int .i64 n, .int .i64 d] w fun e w' => e = .returned (.bool true) ∧ Below w.heap.size w w' := by
  have AW := Lib.hid fun w => sawake_any w
  have SC := Lib.hid fun w => scale_any x1 x2 n1 n2 d2 w
  have RS := Lib.hid fun w => rscale_any x1 x2 n1 n2 d2 w
  have FL := Lib.hid fun w => floor_any x1 x2 n1 n2 d2 w
  have RF := Lib.hid fun w => rfloor_any x1 x2 n1 n2 d2 w
  clear x1 x2 n1 n2 d2
  generalize evenI (x * n) d = p at *
  generalize floorI (x * n) d = q at *
  obtain ⟨p, p'⟩ := p
  obtain ⟨q, q'⟩ := q
  go_enter Try.func8, Try.ntmps8
  have B0 := Below.refl w.heap.size w
  go_wp2_with fail
  refine (SC.out _).mono ?_
  rintro e w1 ⟨rfl, b1⟩
  have B1 := B0.trans (b1.mono B0.size)
  clear b1 B0
  go_wp2_with fail
  refine (RS.out _).mono ?_
  rintro e w2 ⟨rfl, b2⟩
  have B2 := B1.trans (b2.mono B1.size)
  clear b2 B1
  go_wp2_with fail
  refine (FL.out _).mono ?_
  rintro e w3 ⟨rfl, b3⟩
  have B3 := B2.trans (b3.mono B2.size)
  clear b3 B2
  go_wp2_with fail
  refine (RF.out _).mono ?_
  rintro e w4 ⟨rfl, b4⟩
  have B4 := B3.trans (b4.mono B3.size)
  clear b4 B3
  go_wp2_with fail
  refine (AW.out _).mono ?_
  rintro e w5 ⟨rfl, b5⟩
  have B5 := B4.trans (b5.mono B4.size)
  clear b5 B4
  go_wp2
  go_ret
  exact ⟨rfl, B5⟩
end Go.Proofs.Ytcehcbhinlpenaa
