/- The second piece of lives answers true. No condition. -/
import Derived.Test.YtphkjlkgfcjbmaaGreatDoorLivE
set_option linter.all false
open Go Go.Ev Go.Proofs
namespace T
set_option maxRecDepth 100000
theorem k1b : good (evC E M11 (restN 5 c11) cx11 L1.st (fnK rs11)) = true := by kernel_rfl
end T
