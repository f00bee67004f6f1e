/- The plain law: what the functions that the law compares make is the same, over lists and numbers alone. -/
import Derived.Test.YtpobfjefkefadaaDoorNamesWalk
import Derived.Test.YtpobfjefkefadaaDoorEv5
set_option linter.unusedVariables false
set_option linter.unusedSimpArgs false
set_option linter.unusedSectionVars false
set_option maxRecDepth 100000
namespace Go.Proofs.Tryd.S
/-- the flags have the document's numbers, and the examples live -/
theorem orderNames (k : Nat) : F3.go k = some (F3.r true) := by kernel_rfl
end Go.Proofs.Tryd.S

