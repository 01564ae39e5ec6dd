/- The tables are the program's own (EnvOK). No condition. -/
import Derived.Test.YtphkjlkgfcjbmaaGreatDoorTabT
import Derived.Test.YtphkjlkgfcjbmaaGreatDoorEvA
set_option linter.all false
set_option linter.unusedVariables false
namespace Go.Ev
open Go.Proofs
set_option maxRecDepth 100000

theorem foldr_get {l : List Nat} {t : Nat} : (l.foldr (fun t (T : Tr Bool) => T.put (some true) t) .leaf).get t = some true → t ∈ l := by
  induction l with
  | nil => intro h; cases h
  | cons a l ih =>
    intro h
    rw [List.foldr_cons] at h
    rcases Tr.get_put _ _ _ _ h with ⟨e, _⟩ | ⟨_, h⟩
    · rw [e]; exact List.mem_cons_self
    · exact List.mem_cons_of_mem _ (ih h)
theorem ty_eq : T.tyT = Tr.ofList Tryz.prog.types.toList := by kernel_rfl
theorem fn_eq : T.fnT = Tr.ofList Tryz.prog.funcs.toList := by kernel_rfl
theorem mixed_ : Tryz.prog.follows .mixedOrders = true := by kernel_rfl
theorem names_ : (Tryz.prog.funcs.toList.all fun f => (f.name == "runtime.NumGoroutine") == false) = true := by kernel_rfl
theorem cmp_eq : T.cmpT = T.cmpL.foldr (fun t (T : Tr Bool) => T.put (some true) t) .leaf := by kernel_rfl
theorem cmps_ : (T.cmpL.all fun t => (Tryz.prog.eqGuardType Tryz.prog.depth t == false) && (Tryz.prog.stoodInHeld t == false)) = true := by kernel_rfl
theorem tsize : Tryz.prog.types.size = 611 := by kernel_rfl
theorem cmp_facts (t : Nat) (h : t ∈ T.cmpL) : Tryz.prog.eqGuardType Tryz.prog.depth t = false ∧ Tryz.prog.stoodInHeld t = false := by
  have := List.all_eq_true.1 cmps_ t h
  rw [Bool.and_eq_true] at this
  exact ⟨eq_of_beq this.1, eq_of_beq this.2⟩
theorem envOK : EnvOK Tryz.prog T.E where
  ty := fun t i h => by
    have h := Tr.get_ofList (show (Tr.ofList Tryz.prog.types.toList).get t = some i from ty_eq ▸ h)
    have h2 : Tryz.prog.types[t]? = some i := by simpa using h
    have hlt := (Array.getElem?_eq_some_iff.1 h2).1
    rw [tsize] at hlt
    show (if t < Tryz.prog.types.size then Tryz.prog.types[t]? else _) = some i
    rw [tsize, if_pos hlt]; exact h2
  fn := fun k f h => by
    have h := Tr.get_ofList (show (Tr.ofList Tryz.prog.funcs.toList).get k = some f from fn_eq ▸ h)
    refine ⟨by simpa using h, ?_⟩
    have := List.all_eq_true.1 names_ f (List.mem_of_getElem? h)
    simpa using this
  mixed := mixed_
  cmp := fun t h => cmp_facts t (foldr_get (show (T.cmpL.foldr (fun t (T : Tr Bool) => T.put (some true) t) .leaf).get t = some true from cmp_eq ▸ h))
end Go.Ev
