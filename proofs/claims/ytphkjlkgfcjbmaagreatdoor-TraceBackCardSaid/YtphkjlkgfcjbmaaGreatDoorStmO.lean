/- No function of the program starts a goroutine. No condition. -/
import Derived.Test.YtphkjlkgfcjbmaaGreatDoorStmA
set_option linter.all false
set_option linter.unusedVariables false
namespace Go.Proofs.YtphkjlkgfcjbmaaGreatDoor
open Go
theorem z5a : Tryz.prog.funcs.toList.any Func.goes = false := by kernel_rfl
theorem none_goes {P : Program} (h : P.funcs.toList.any Func.goes = false) (f : FuncId) : P.goes f = false := by
  have ha : P.funcs.any Func.goes = false := by rw [← Array.any_toList]; exact h
  have h1 : ∀ x ∈ P.funcs, Func.goes x = false := fun x hx => by
    cases hg : Func.goes x with
    | false => rfl
    | true =>
      have hm : x ∈ P.funcs.toList := Array.mem_toList_iff.2 hx
      have : P.funcs.toList.any Func.goes = true := List.any_eq_true.2 ⟨x, hm, hg⟩
      rw [h] at this; exact this.symm
  have hb : ((P.closure f).any fun g => (P.funcs[g]?).any Func.goes) = false := by
    rw [List.any_eq_false]
    intro g _
    cases hg : P.funcs[g]? with
    | none => simp
    | some fn => simp [h1 fn (Array.mem_of_getElem? hg)]
  unfold Program.goes
  rw [hb, ha, Bool.and_false]; rfl
theorem none_goesAt {P : Program} (h : P.funcs.toList.any Func.goes = false) (st : Start) (s : String) : P.goesAt st s = false := by
  unfold Program.goesAt Program.goesFrom
  have h1 : (P.funcNamed s).any P.goes = false := by
    cases P.funcNamed s with
    | none => rfl
    | some f => exact none_goes h f
  have h2 : P.inits.toList.any P.goes = false := by
    rw [List.any_eq_false]; intro f _; rw [none_goes h f]; exact Bool.false_ne_true
  rw [h1, Bool.false_or]
  cases st <;> first | rfl | exact h2
theorem z5 : false = Rows.traceBackRow.goesBy Tryz.prog := (none_goesAt z5a _ _).symm
end Go.Proofs.YtphkjlkgfcjbmaaGreatDoor
