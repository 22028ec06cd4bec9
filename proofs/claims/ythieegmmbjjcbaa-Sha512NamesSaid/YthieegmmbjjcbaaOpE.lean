/- Operations as bytes: Encode, in op and in the document. -/
import Derived.Test.YthieegmmbjjcbaaOpA
import Derived.LoopN
namespace Go.Proofs.Ythieegmmbjjcbaa
open Go.RowKit
set_option linter.unusedVariables false

end Go.Proofs.Ythieegmmbjjcbaa
