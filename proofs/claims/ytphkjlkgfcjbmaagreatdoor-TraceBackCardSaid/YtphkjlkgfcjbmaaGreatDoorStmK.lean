/- A closed fact of the row. No condition. -/
import Derived.Test.YtphkjlkgfcjbmaaGreatDoorStmA
set_option linter.all false
set_option linter.unusedVariables false
namespace Go.Proofs.YtphkjlkgfcjbmaaGreatDoor
open Go
theorem j12 : ((Rows.traceBackRow.named == Tryz.prog.varsNamed 4)) = true := by kernel_rfl
end Go.Proofs.YtphkjlkgfcjbmaaGreatDoor
