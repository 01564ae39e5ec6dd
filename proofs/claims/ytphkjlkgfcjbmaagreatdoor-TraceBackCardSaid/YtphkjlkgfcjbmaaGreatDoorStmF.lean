/- TraceBack's row holds, given that lives answers. -/
import Derived.Test.YtphkjlkgfcjbmaaGreatDoorStmE
import Derived.Test.YtphkjlkgfcjbmaaGreatDoorStmD
set_option linter.all false
set_option linter.unusedVariables false
namespace Go.Proofs.YtphkjlkgfcjbmaaGreatDoor
open Go
theorem row_holds (hlv : ∃ h', Ev.Leaves Tryz.prog T.E 11 [] T.h0 (.bool true) h') : Rows.TraceBackSaid :=
  OpenClaim.holds_of_wide 4 Tryz.f4 rfl rfl rfl rfl rfl rfl rfl ⟨rfl, rfl, rfl, rfl, rfl⟩ rfl rfl rfl rfl rfl jName Tryz.func4 jFacts
    (of_decide_eq_true (by kernel_rfl)) (by unfold Func.isWrapper; first | (rw [if_pos (by decide +kernel)]; kernel_rfl) | (rw [if_neg (by decide +kernel)]; exact ⟨rfl, rfl⟩))
    (fun os started H enc _ => lifted hlv os started H enc)
end Go.Proofs.YtphkjlkgfcjbmaaGreatDoor
