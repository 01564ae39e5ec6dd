/- Closed facts of the program that the statement's texts share. No condition. -/
import Derived.Test.YtphkjlkgfcjbmaaGreatDoorWldA
import Derived.Test.YtphkjlkgfcjbmaaGreatDoorCards
import Derived.Test.YtphkjlkgfcjbmaaGreatDoorTie
import Derived.SevenTiedAt
set_option linter.all false
set_option linter.unusedVariables false
namespace Go.Proofs.YtphkjlkgfcjbmaaGreatDoor
open Go Go.ChangeShapes Go.WideShapes Go.ChangeAt Go.WideMaps Go.WideElems Go.RowKit
abbrev laidL : List (String × DataW Unit) := Rows.traceBackRow.laid
theorem laidOut : laidOutB Tryz.prog = true := by kernel_rfl
theorem read22 : Tryz.prog.readableRec 22 = true := by kernel_rfl
theorem row22 : (22 : Nat) < Tryz.prog.types.size := of_decide_eq_true (by kernel_rfl)
end Go.Proofs.YtphkjlkgfcjbmaaGreatDoor
