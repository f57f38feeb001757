/-
  Contracts of InRange, Mod, CeilDiv and the hash.
-/
import Derived.Test.YtepfcnpojhlpdaaPlain2
namespace Go.Proofs.Ytepfcnpojhlpdaa
open Go.RowKit
set_option maxRecDepth 100000

end Go.Proofs.Ytepfcnpojhlpdaa
