/-
  Contracts of IsValidSender.
-/
import Derived.Test.YtchkiohikhfecaaGWi
import Derived.Test.YtchkiohikhfecaaWin
namespace Go.Proofs.Ytchkiohikhfecaa
open Go.RowKit
set_option maxRecDepth 100000

end Go.Proofs.Ytchkiohikhfecaa
