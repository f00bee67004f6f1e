/- The plain law: what the functions that the law compares make is the same, over lists and numbers alone. -/
import Derived.Test.YtgmmgbdohkdinaaDoorNamesWalk2
import Derived.Test.YtgmmgbdohkdinaaDoorEv4
set_option linter.unusedVariables false
set_option linter.unusedSimpArgs false
set_option linter.unusedSectionVars false
set_option maxRecDepth 100000
namespace Go.Proofs.Tryd.S
open Go Go.Ev
theorem awake : F12.go 300 = some ((true, ()), (), ()) := by kernel_rfl
theorem globNames : F3.go 300 = some ((true, ()), (), ()) := by kernel_rfl
end Go.Proofs.Tryd.S

