/- The closed facts of the row, as one. No condition. -/
import Derived.Test.YtphkjlkgfcjbmaaGreatDoorStmH
import Derived.Test.YtphkjlkgfcjbmaaGreatDoorStmI
import Derived.Test.YtphkjlkgfcjbmaaGreatDoorStmJ
import Derived.Test.YtphkjlkgfcjbmaaGreatDoorStmK
import Derived.Test.YtphkjlkgfcjbmaaGreatDoorStmL
set_option linter.all false
set_option linter.unusedVariables false
namespace Go.Proofs.YtphkjlkgfcjbmaaGreatDoor
open Go
theorem bAnd {a b : Bool} (h : a = true) (k : b = true) : (a && b) = true := by rw [h, k]; rfl
set_option maxRecDepth 100000 in
theorem jFacts : joinedFacts Tryz.prog 4 Tryz.f4 Rows.traceBackSpec Rows.traceBackRow = true := by
  unfold joinedFacts
  exact bAnd (bAnd (bAnd (bAnd (bAnd (bAnd (bAnd (bAnd (bAnd (bAnd (bAnd (bAnd (bAnd (bAnd (bAnd (bAnd (bAnd (bAnd (bAnd (bAnd (bAnd (bAnd (bAnd (bAnd (bAnd (bAnd (bAnd (bAnd (bAnd (bAnd (bAnd (j0) laidOut) j2) j3) j4) j5) j6) j7) j8) j9) j10) j11) j12) j13) j14) j15) j16) j17) j18) j19) j20) j21) j22) j23) j24) j25) j26) j27) j28) j29) j30) j31
end Go.Proofs.YtphkjlkgfcjbmaaGreatDoor
