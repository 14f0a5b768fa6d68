/-
  The contract of the reference's Has: is a number in a list?
-/
import Derived.Test.YtkjdkhcpeaepoaaDoorFirst
namespace Go.Proofs.YtkjdkhcpeaepoaaDoor
open Go.RowKit

end Go.Proofs.YtkjdkhcpeaepoaaDoor
