/- The plain law: what the functions that the law compares make is the same, over lists and numbers alone. -/
import Derived.Test.YtcblodlmddeamaaDoorNoneWalk
import Derived.Test.YtcblodlmddeamaaDoorEv4
import Derived.KernelRfl
set_option linter.unusedVariables false
set_option linter.unusedSimpArgs false
set_option linter.unusedSectionVars false
set_option maxRecDepth 100000
namespace Go.Proofs.Tryd.S
open Go Go.Ev
theorem argsNone (k : Nat) (a b : ByteArray) : F8.go (k + 300) a b = some ((true, ()), (), ()) := by kernel_rfl
end Go.Proofs.Tryd.S

