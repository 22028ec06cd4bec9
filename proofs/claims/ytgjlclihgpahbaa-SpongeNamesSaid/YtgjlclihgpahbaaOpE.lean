/- Operations as bytes: Encode, in op and in the document. -/
import Derived.Test.YtgjlclihgpahbaaOpA
import Derived.LoopN
namespace Go.Proofs.Ytgjlclihgpahbaa
open Go.RowKit
set_option linter.unusedVariables false

end Go.Proofs.Ytgjlclihgpahbaa
