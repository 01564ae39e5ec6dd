/- A closed fact of the row. No condition. -/
import Derived.Test.YtphkjlkgfcjbmaaGreatDoorStmA
set_option linter.all false
set_option linter.unusedVariables false
namespace Go.Proofs.YtphkjlkgfcjbmaaGreatDoor
open Go
theorem j11 : ((Rows.traceBackRow.recurses == Tryz.prog.recurses 4)) = true := by kernel_rfl
end Go.Proofs.YtphkjlkgfcjbmaaGreatDoor
