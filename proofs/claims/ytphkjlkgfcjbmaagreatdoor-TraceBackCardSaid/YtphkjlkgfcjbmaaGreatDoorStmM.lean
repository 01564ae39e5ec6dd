/- A closed fact of the program. No condition. -/
import Derived.Test.YtphkjlkgfcjbmaaGreatDoorStmA
set_option linter.all false
set_option linter.unusedVariables false
namespace Go.Proofs.YtphkjlkgfcjbmaaGreatDoor
open Go
theorem jInit : Tryz.checked.prog.inits.idxOf? 4 = none := by kernel_rfl
end Go.Proofs.YtphkjlkgfcjbmaaGreatDoor
