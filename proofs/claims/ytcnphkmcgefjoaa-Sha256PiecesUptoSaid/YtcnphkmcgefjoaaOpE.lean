/- Operations as bytes: Encode, in op and in the document. -/
import Derived.Test.YtcnphkmcgefjoaaOpA
import Derived.LoopN
namespace Go.Proofs.Ytcnphkmcgefjoaa
open Go.RowKit
set_option linter.unusedVariables false

end Go.Proofs.Ytcnphkmcgefjoaa
