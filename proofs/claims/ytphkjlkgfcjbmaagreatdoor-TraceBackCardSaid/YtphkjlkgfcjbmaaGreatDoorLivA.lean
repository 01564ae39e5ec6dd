/- The first piece of lives runs to the state that is written. No condition. -/
import Derived.Test.YtphkjlkgfcjbmaaGreatDoorLivE
set_option linter.all false
open Go Go.Ev Go.Proofs
namespace T
set_option maxRecDepth 100000
theorem k1a : isS (evN E M11 5 c11 cx11 s11 (fun _ s => L1.chk s (some (.st .normal s11)))) = true := by kernel_rfl
end T
