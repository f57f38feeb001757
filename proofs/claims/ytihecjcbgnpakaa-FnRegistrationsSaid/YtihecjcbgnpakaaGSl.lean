/-
  Copies, comparisons and markings of []int and []byte, as the laws make them.
-/
import Derived.Test.YtihecjcbgnpakaaG01
import Derived.Test.YtihecjcbgnpakaaSlice
namespace Go.Proofs.Ytihecjcbgnpakaa
open Go.RowKit
set_option maxRecDepth 100000

end Go.Proofs.Ytihecjcbgnpakaa
