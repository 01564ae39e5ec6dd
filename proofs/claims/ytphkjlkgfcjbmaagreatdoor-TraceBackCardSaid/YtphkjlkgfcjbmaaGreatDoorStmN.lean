/- Closed facts of the card. No condition. -/
import Derived.Test.YtphkjlkgfcjbmaaGreatDoorStmA
set_option linter.all false
set_option linter.unusedVariables false
namespace Go.Proofs.YtphkjlkgfcjbmaaGreatDoor
open Go
theorem z1 : OpenClaim.wfByText (OpenSpec.ofChange Rows.traceBackSpec) Rows.traceBackRow = true := by kernel_rfl
end Go.Proofs.YtphkjlkgfcjbmaaGreatDoor
set_option linter.unusedVariables false
namespace Go.Proofs.YtphkjlkgfcjbmaaGreatDoor
open Go
theorem z2 : Tryz.prog.mainIs = some (true, ( "1cef0d17c6a4aeaf83c3910e3b599835e219bc288581bf1fb289afea2da66f1e").toList) := by kernel_rfl
end Go.Proofs.YtphkjlkgfcjbmaaGreatDoor
set_option linter.unusedVariables false
namespace Go.Proofs.YtphkjlkgfcjbmaaGreatDoor
open Go
theorem z3 : false = Tryz.prog.looks [] := by kernel_rfl
end Go.Proofs.YtphkjlkgfcjbmaaGreatDoor
set_option linter.unusedVariables false
namespace Go.Proofs.YtphkjlkgfcjbmaaGreatDoor
open Go
theorem z4 : ([22, 9].all fun u => !Tryz.prog.wantsStandIn u) = true := by kernel_rfl
end Go.Proofs.YtphkjlkgfcjbmaaGreatDoor
