/-
  The contract of the reference's Has: is a number in a list?
-/
import Derived.Test.YtioecjoddgpjbaaFirst
namespace Go.Proofs.Ytioecjoddgpjbaa
open Go.RowKit

end Go.Proofs.Ytioecjoddgpjbaa
