/- The tied card of TraceBack holds: notes' bytes are read as them; bytes that are read have themselves. No condition. -/
import Derived.Test.YtphkjlkgfcjbmaaGreatDoorStmF
import Derived.Test.YtphkjlkgfcjbmaaGreatDoorStmN
import Derived.Test.YtphkjlkgfcjbmaaGreatDoorStmO
import Derived.Test.YtphkjlkgfcjbmaaGreatDoorLivA
import Derived.Test.YtphkjlkgfcjbmaaGreatDoorLivB
set_option linter.all false
set_option linter.unusedVariables false
namespace Go.Proofs.YtphkjlkgfcjbmaaGreatDoor
open Go
theorem card_of (hlv : ∃ h', Ev.Leaves Tryz.prog T.E 11 [] T.h0 (.bool true) h') : Rows.TraceBackCardSaid :=
  Claim7.holds_tied_plain_at .later [] [.data] true (true, "1cef0d17c6a4aeaf83c3910e3b599835e219bc288581bf1fb289afea2da66f1e") false
    (row_holds hlv) (fun _ h => by cases h) z1 (fun _ h => by cases h) traceBack_row_tie rfl ⟨rfl, rfl⟩ z2 rfl
    (fun f fn hf hfn => by
      obtain rfl : f = 4 := Option.some.inj (jName.symm.trans hf) |>.symm
      obtain rfl : fn = Tryz.f4 := (Option.some.inj (Tryz.func4.symm.trans hfn)).symm
      exact ⟨z3, fun j t ht => by
        rw [Tryz.params4] at ht
        have hm : t ∈ [22, 9] := by simpa using Array.mem_of_getElem? ht
        exact (show Tryz.prog.wantsStandIn t = false by simpa using List.all_eq_true.1 z4 t hm)⟩)
    z5
/-- The tied card of TraceBack. -/
theorem traceBack_holds : Rows.TraceBackCardSaid := card_of (T.lives_of T.k1a T.k1b)
#print axioms traceBack_holds
end Go.Proofs.YtphkjlkgfcjbmaaGreatDoor
