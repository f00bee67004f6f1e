/- The plain law: what the functions that the law compares make is the same, over lists and numbers alone. -/
import Derived.Test.YtplebkbclhgkbaaGreatDoorNoneWalk
import Derived.Test.YtplebkbclhgkbaaGreatDoorEv5
set_option linter.unusedVariables false
set_option linter.unusedSimpArgs false
set_option linter.unusedSectionVars false
set_option maxRecDepth 100000
namespace Go.Proofs.Tryz.S
/-- an expression that no call made says nothing -/
theorem findNone (k : Nat) (x : F4.tin.T) : F4.fn k x = some (F4.r true) := rfl
end Go.Proofs.Tryz.S

