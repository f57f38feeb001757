/-
  Copies, comparisons and markings of []int and []byte, as the laws make them.
-/
import Derived.Test.YtchkiohikhfecaaG01
import Derived.Test.YtchkiohikhfecaaSlice
namespace Go.Proofs.Ytchkiohikhfecaa
open Go.RowKit
set_option maxRecDepth 100000

end Go.Proofs.Ytchkiohikhfecaa
