/-
  The program's num: Add, Sub, Neg, Abs, Cmp: each tells the integer result, or ErrOver where it is out of an int's range.
-/
import Derived.Test.YtioecjoddgpjbaaW
namespace Go.Proofs.Ytioecjoddgpjbaa
open Go.RowKit

section
variable {a b : Int} {w : World}

theorem toldI_in {z : Int} (h1 : -9223372036854775808 ≤ z) (h2 : z ≤ 9223372036854775807) : toldI z = (z, 0) := by unfold toldI; rw [if_pos ⟨h1, h2⟩]
theorem toldI_out {z : Int} (h : z < -9223372036854775808 ∨ 9223372036854775807 < z) : toldI z = (0, 10) := by
  unfold toldI
  rw [if_neg]
  rintro ⟨h1, h2⟩
  rw [leastI_eq] at h1
  rw [mostI_eq] at h2
  omega

theorem wrap_over {z : Int} (h1 : 9223372036854775807 < z) (h2 : z ≤ 18446744073709551615) : wrap64 z = z - 18446744073709551616 := by unfold wrap64; omega
theorem wrap_under {z : Int} (h1 : z < -9223372036854775808) (h2 : -18446744073709551616 ≤ z) : wrap64 z = z + 18446744073709551616 := by unfold wrap64; omega

end
end Go.Proofs.Ytioecjoddgpjbaa
