/-
  Copies, comparisons and markings of []int and []byte, as the laws make them.
-/
import Derived.Test.YtfkeiegajaofdaaG01
import Derived.Test.YtfkeiegajaofdaaSlice
namespace Go.Proofs.Ytfkeiegajaofdaa
open Go.RowKit
set_option maxRecDepth 100000

end Go.Proofs.Ytfkeiegajaofdaa
