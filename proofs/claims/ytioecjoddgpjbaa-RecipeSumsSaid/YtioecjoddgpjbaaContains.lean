/-
  The library's slices.Contains and slices.Clone, of ints.
-/
import Derived.Test.YtioecjoddgpjbaaHas
import Derived.Lib.SliceRun
namespace Go.Proofs.Ytioecjoddgpjbaa
open Go.RowKit

theorem Try.infoInt' : (Try.prog.info? 3).map (fun i => (i.zero, i.size, i.bytes)) = some (some (.int .i64 0), 1, 8) := by kernel_rfl

/-- A list in a row of the call's own, as a result. -/
def NewRow (zs : List Int) (w : World) (e : Ending) (w' : World) : Prop :=
  ∃ A c, e = .returned (.slice A zs.length c) ∧ zs.length ≤ c ∧ c ≤ maxLen ∧ w'.ownsRow w.heap.size 3 1 (.slice A zs.length c) zs.length (ivals zs) ∧ Below w.heap.size w w'

end Go.Proofs.Ytioecjoddgpjbaa
