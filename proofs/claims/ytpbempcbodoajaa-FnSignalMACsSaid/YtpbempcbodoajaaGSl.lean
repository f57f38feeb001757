/-
  Copies, comparisons and markings of []int and []byte, as the laws make them.
-/
import Derived.Test.YtpbempcbodoajaaG01
import Derived.Test.YtpbempcbodoajaaSlice
namespace Go.Proofs.Ytpbempcbodoajaa
open Go.RowKit
set_option maxRecDepth 100000

end Go.Proofs.Ytpbempcbodoajaa
