/- Any operation that the evaluator does is the machine's, given that its tables are the program's (EnvOK). -/
import Derived.Test.YtphkjlkgfcjbmaaGreatDoorEvA
import Derived.Laws.StructEq
import Derived.Laws.BytesString
import Derived.Laws.Tables
set_option linter.all false
set_option linter.unusedVariables false
namespace Go.Ev
variable {P : Program} {E : Env} {M : MN} {r : Res} {F : FF}

/-! ## Numbers -/
/-- A function of two values that leaves the memory as it is. -/
def BinOk (P : Program) (op : BinOp) (t : TypeId) (g : Value → Value → KV → R) : Prop :=
  ∀ x y f r, g x y f = some r → ∃ v, f v = some r ∧ ∀ σ w x' y' (X Y : Operand), VR σ x x' → VR σ y y' → ∃ v', (do eqGuard op t X Y x' y'; binOp op t x' y' : Sem Value).run P w = .ok v' w ∧ VR σ v v'

theorem guard_int (op : BinOp) (t : TypeId) (X Y : Operand) (k : IntKind) (a : Int) (y : Value) (w : World) : (eqGuard op t X Y (.int k a) y).run P w = .ok () w := by
  unfold eqGuard; split <;> simp

theorem int_ok {op : BinOp} {t : TypeId} {i : IOp} (hi : ∀ k a b f r, i k a b f = some r → ∃ v, f v = some r ∧ (∀ σ, VR σ v v) ∧ ∀ w, (binOp op t (.int k a) (.int k b)).run P w = .ok v w) : BinOk P op t (intOp i) := fun x y f r hh => by
  obtain ⟨k, a, e1, h0⟩ := vInt_inv hh
  obtain ⟨k', b, e2, h1⟩ := vInt_inv h0
  obtain ⟨hk, h2⟩ := bT_inv h1
  subst e1 e2
  have hk := kindN_inj hk
  subst hk
  obtain ⟨v, hf, hv, hrun⟩ := hi _ _ _ _ _ h2
  refine ⟨v, hf, fun σ w x' y' X Y hx hy => ⟨v, ?_, hv σ⟩⟩
  rw [hx.int_inv, hy.int_inv]
  simp [guard_int, hrun w]

theorem kInt_ok {k : IntKind} {f : KV} {n : Int} (h : kInt k f n = some r) : f (.int k n) = some r := by rw [kInt_eq] at h; exact h
theorem kBool_ok {f : KV} {b : Bool} (h : kBool f b = some r) : f (.bool b) = some r := by rw [kBool_eq] at h; exact h

theorem leLt (a b : Int) : decide (a ≤ b) = !decide (b < a) := by rw [Bool.eq_iff_iff]; simp
section ints
variable {t : TypeId}
theorem bin_add : BinOk P .add t (intOp iAdd) := int_ok fun k a b f r h => ⟨_, kInt_ok h, fun σ => .int _ _, fun w => by simp [binOp, Op.intArith, wrapE_eq]⟩
theorem bin_sub : BinOk P .sub t (intOp iSub) := int_ok fun k a b f r h => ⟨_, kInt_ok h, fun σ => .int _ _, fun w => by simp [binOp, Op.intArith, wrapE_eq]; rfl⟩
theorem bin_mul : BinOk P .mul t (intOp iMul) := int_ok fun k a b f r h => ⟨_, kInt_ok h, fun σ => .int _ _, fun w => by simp [binOp, Op.intArith, wrapE_eq]⟩
theorem bin_quo : BinOk P .quo t (intOp iQuo) := int_ok fun k a b f r h => by
  change bI (eqI b (.ofNat 0)) none (kInt k f (wrapE k (Int.tdiv a b))) = some r at h
  rw [bI_eq, eqI_eq] at h
  split at h
  · cases h
  · rename_i hb
    have hb : b ≠ 0 := fun e => hb (by subst e; rfl)
    exact ⟨_, kInt_ok h, fun σ => .int _ _, fun w => by simp [binOp, Op.intDiv, wrapE_eq, hb]⟩
theorem bin_rem : BinOk P .rem t (intOp iRem) := int_ok fun k a b f r h => by
  change bI (eqI b (.ofNat 0)) none (kInt k f (Int.tmod a b)) = some r at h
  rw [bI_eq, eqI_eq] at h
  split at h
  · cases h
  · rename_i hb
    have hb : b ≠ 0 := fun e => hb (by subst e; rfl)
    exact ⟨_, kInt_ok h, fun σ => .int _ _, fun w => by simp [binOp, Op.intDiv, wrapE_eq, hb]⟩
theorem bin_and : BinOk P .and t (intOp iAnd) := int_ok fun k a b f r h => ⟨_, kInt_ok h, fun σ => .int _ _, fun w => by
  simp only [binOp, Op.intBits, wrapNat_eq, toU_eq]
  simp [BitVec.toNat_and]⟩
theorem bin_or : BinOk P .or t (intOp iOr) := int_ok fun k a b f r h => ⟨_, kInt_ok h, fun σ => .int _ _, fun w => by
  simp only [binOp, Op.intBits, wrapNat_eq, toU_eq]
  simp [BitVec.toNat_or]⟩
theorem bin_xor : BinOk P .xor t (intOp iXor) := int_ok fun k a b f r h => ⟨_, kInt_ok h, fun σ => .int _ _, fun w => by
  simp only [binOp, Op.intBits, wrapNat_eq, toU_eq]
  simp [BitVec.toNat_xor]⟩
theorem bin_andNot : BinOk P .andNot t (intOp iAndNot) := int_ok fun k a b f r h => ⟨_, kInt_ok h, fun σ => .int _ _, fun w => by
  simp only [binOp, Op.intBits, wrapNat_eq, toU_eq, modOf_eq]
  simp [BitVec.toNat_and, BitVec.toNat_not]⟩
theorem bin_lss : BinOk P .lss t (intOp iLss) := int_ok fun k a b f r h => ⟨_, kBool_ok h, fun σ => .bool _, fun w => by simp [binOp, Op.intCmp, ltI_eq]⟩
theorem bin_leq : BinOk P .leq t (intOp iLeq) := int_ok fun k a b f r h => ⟨_, kBool_ok h, fun σ => .bool _, fun w => by simp [binOp, Op.intCmp, ltI_eq, notB_eq]; exact leLt _ _⟩
theorem bin_gtr : BinOk P .gtr t (intOp iGtr) := int_ok fun k a b f r h => ⟨_, kBool_ok h, fun σ => .bool _, fun w => by simp [binOp, Op.intCmp, ltI_eq]⟩
theorem bin_geq : BinOk P .geq t (intOp iGeq) := int_ok fun k a b f r h => ⟨_, kBool_ok h, fun σ => .bool _, fun w => by simp [binOp, Op.intCmp, ltI_eq, notB_eq]; exact leLt _ _⟩
theorem bin_shl : BinOk P .shl t (shOp iShl) := fun x y f r hh => by
  obtain ⟨k, a, e1, h0⟩ := vInt_inv hh
  obtain ⟨k', b, e2, h1⟩ := vInt_inv h0
  obtain ⟨m, e3, h2⟩ := natI_inv h1
  subst e1 e2 e3
  refine ⟨_, kInt_ok h2, fun σ w x' y' X Y hx hy => ⟨_, ?_, .int _ _⟩⟩
  rw [hx.int_inv, hy.int_inv]
  simp [guard_int, binOp, Op.shift, wrapE_eq, minN_eq, bitsOf_eq]
  omega
theorem bin_shr : BinOk P .shr t (shOp iShr) := fun x y f r hh => by
  obtain ⟨k, a, e1, h0⟩ := vInt_inv hh
  obtain ⟨k', b, e2, h1⟩ := vInt_inv h0
  obtain ⟨m, e3, h2⟩ := natI_inv h1
  subst e1 e2 e3
  refine ⟨_, kInt_ok h2, fun σ w x' y' X Y hx hy => ⟨_, ?_, .int _ _⟩⟩
  rw [hx.int_inv, hy.int_inv]
  simp [guard_int, binOp, Op.shift, minN_eq, bitsOf_eq]
  omega
end ints
end Go.Ev
set_option linter.unusedVariables false
namespace Go.Ev
variable {P : Program} {E : Env} {M : MN} {r : Res} {F : FF}

theorem does_value {ev : Operand → Value} {op : Op} {v : Value} {w w' : World} (h : ∀ o : Oper, o.op = op → (execOp ev o).run P w = .ok (.value v) w') : Does P ev op w v w' := fun o ho => ⟨.value v, w', h o ho, rfl, rfl⟩
theorem os_bin (hM : M.ng = E.ng) {op : BinOp} {t : TypeId} {g : Value → Value → KV → R} (hg : BinOk P op t g) (x y : Operand) (c : TypeId) : OS P E M F (.binOp op t x y c) (xBin g (po M x) (po M y)) := os_quiet fun fr h f r hh => by
  obtain ⟨v, h1, hv⟩ := evO_ok hM hh
  obtain ⟨u, h2, hu⟩ := evO_ok hM h1
  obtain ⟨z, hf, hz⟩ := hg _ _ _ _ h2
  refine ⟨z, hf, fun σ w a ha hr hfr => ?_⟩
  obtain ⟨z', h3, h4⟩ := hz σ w _ _ x y (hv σ a ha hfr) (hu σ a ha hfr)
  refine ⟨z', fun o ho => ?_, h4⟩
  simp only [execOp, ho]
  rw [Sem.run_bind, h3]
  simp

theorem os_un (hM : M.ng = E.ng) (op : UnOp) (t : TypeId) (x : Operand) : OS P E M F (.unOp op t x) (xUn (unE op) (po M x)) := os_quiet fun fr h f r hh => by
  obtain ⟨v, h1, hv⟩ := evO_ok hM hh
  cases op with
  | neg =>
    obtain ⟨k, n, e, h2⟩ := vInt_inv h1
    subst e
    rw [kInt_eq] at h2
    refine ⟨_, h2, fun σ w a ha hr hfr => ⟨_, fun o ho => ?_, .int _ _⟩⟩
    simp [execOp, ho, (hv σ a ha hfr).int_inv, Op.unary, Op.intArith, wrapE_eq]
    exact congrArg k.wrap (Int.zero_sub n).symm
  | xor =>
    obtain ⟨k, n, e, h2⟩ := vInt_inv h1
    subst e
    rw [kInt_eq] at h2
    refine ⟨_, h2, fun σ w a ha hr hfr => ⟨_, fun o ho => ?_, .int _ _⟩⟩
    have h3 : BitVec.ofInt k.bits (if k.signed then -1 else k.max) = BitVec.allOnes k.bits := by cases k <;> decide
    simp [execOp, ho, (hv σ a ha hfr).int_inv, Op.unary, Op.intBits, wrapNat_eq, toU_eq, modOf_eq, h3, BitVec.toNat_not]
  | not =>
    obtain ⟨b, e, h2⟩ := vBool_inv h1
    subst e
    rw [kBool_eq, notB_eq] at h2
    exact ⟨_, h2, fun σ w a ha hr hfr => ⟨_, fun o ho => by simp [execOp, ho, (hv σ a ha hfr).bool_inv, Op.unary], .bool _⟩⟩
  | _ => cases h1

theorem os_alloc (ok : EnvOK P E) (e : TypeId) : OS P E M F (.alloc e) (xAlloc e (zeroC E e)) := fun fr h f r hh => by
  obtain ⟨z, hz, h1⟩ := oS_inv hh
  obtain ⟨h', hf, hn, hgo⟩ := mkVar_ok h1
  refine ⟨_, h', hf, by omega, fun _ σ w a ha hr hfr fre => ?_⟩
  obtain ⟨zv, hrun, hzc, hcl⟩ := zeroC_ok ok hz w
  obtain ⟨h2, h3⟩ := hgo σ w z hr (fre _ (Nat.le_refl _) (by omega)) (hcl σ)
  refine ⟨_, _, _, does_value fun o ho => ?_, h3, h2⟩
  have : zv.cells = ⟨z⟩ := by rw [← hzc]
  simp [execOp, ho, Instr.alloc, hrun, newVar, newRow, this]

theorem os_box (hM : M.ng = E.ng) (e : TypeId) (x : Operand) : OS P E M F (.box e x) (xBox e (po M x)) := fun fr h f r hh => by
  obtain ⟨v, h1, hv⟩ := evO_ok hM hh
  obtain ⟨l, h2, hl⟩ := flatK_inv h1
  obtain ⟨h', hf, hn, hgo⟩ := mkVar_ok h2
  refine ⟨_, h', hf, by omega, fun _ σ w a ha hr hfr fre => ?_⟩
  obtain ⟨h3, h4⟩ := hgo σ w (a.eval x).cells.toList hr (fre _ (Nat.le_refl _) (by omega)) (hl σ _ (hv σ a ha hfr))
  refine ⟨_, _, _, does_value fun o ho => ?_, h4, h3⟩
  simp [execOp, ho, Instr.box, newVar, newRow]

/-- A field, or a place in an array. -/
theorem part_ok (ok : EnvOK P E) {t : TypeId} {off : Nat} {l : Cells} {f : KV} (hh : partE (aggOf E t) off l f = some r) :
    ∃ v, f v = some r ∧ ∀ σ (l' : Array Value) w, CL σ l l'.toList → ∃ v', (part t l' off).run P w = .ok v' w ∧ VR σ v v' := by
  unfold partE at hh
  obtain ⟨g, hg, h1⟩ := oS_inv hh
  cases g with
  | none =>
    rw [oC_none, dropE_eq] at h1
    cases hd : l.drop off with
    | nil => rw [hd] at h1; cases h1
    | cons v rest =>
      rw [hd, lC_cons] at h1
      have hv : l[off]? = some v := by
        have := congrArg (·[0]?) hd
        simpa using this
      refine ⟨v, h1, fun σ l' w hc => ?_⟩
      obtain ⟨v', h2, h3⟩ := hc.1.get hv
      have h2' : l'[off]? = some v' := by simpa using h2
      have := (aggOf_ok ok hg w).1
      exact ⟨v', by simp [part, this, h2'], h3⟩
  | some n =>
    rw [oC_some] at h1
    obtain ⟨hle, h2⟩ := bT_inv h1
    rw [len_eq] at hle
    have hle := Nat.le_of_ble_eq_true hle
    rw [takeE_eq, dropE_eq] at h2
    refine ⟨_, h2, fun σ l' w hc => ?_⟩
    have h3 := aggOf_ok ok hg w
    refine ⟨.agg (l'.extract off (off + n)), by simp [part, h3.1, h3.2 n rfl], ?_⟩
    have e : (l'.extract off (off + n)).toList = (l'.toList.drop off).take n := by simp [List.extract_eq_take_drop]
    refine .agg ?_ ?_ ?_
    · rw [e]; have := hc.1.1; simp only [List.length_take, List.length_drop]; omega
    · intro i x y hx hy
      rw [e] at hy
      simp only [List.getElem?_take, List.getElem?_drop] at hx hy
      split at hx
      · rename_i hi; rw [if_pos hi] at hy; exact hc.1.2 _ _ _ hx hy
      · cases hx
    · intro x hx
      exact hc.2 x (List.mem_of_mem_drop (List.mem_of_mem_take hx))

theorem fieldOf_ok {t : TypeId} {i : Nat} {fd : Nat × Option (Option Nat) × Nat} (h : fieldOf E t i = some fd) :
    ∃ fs f, under E t = some (.struct fs) ∧ fs[i]? = some f ∧ szOf E f.type = some fd.2.2 ∧ fd.1 = f.offset ∧ fd.2.1 = aggOf E f.type := by
  unfold fieldOf at h
  split at h
  · rename_i fs hu
    split at h
    · rename_i f hf
      split at h
      · rename_i n hn; cases h; exact ⟨fs, f, hu, by simpa using hf, hn, rfl, rfl⟩
      · cases h
    · cases h
  · cases h
theorem os_field (ok : EnvOK P E) (hM : M.ng = E.ng) (t : TypeId) (x : Operand) (i : Nat) : OS P E M F (.field t x i) (xField (fieldOf E t i) (po M x)) := os_quiet fun fr h f r hh => by
  obtain ⟨v, h1, hv⟩ := evO_ok hM hh
  obtain ⟨l, e, h2⟩ := vAgg_inv h1
  subst e
  obtain ⟨fd, hfd, h3⟩ := oS_inv h2
  obtain ⟨fs, fl, hu, hfl, hsz, ho, hag⟩ := fieldOf_ok hfd
  rw [hag, ho] at h3
  obtain ⟨u, hf, hp⟩ := part_ok ok h3
  refine ⟨u, hf, fun σ w a ha hr hfr => ?_⟩
  obtain ⟨l', he, hl⟩ := (hv σ a ha hfr).agg_inv
  obtain ⟨v', hrun, hvr⟩ := hp σ l' w hl
  exact ⟨v', fun o ho => by simp [execOp, ho, he, Instr.field, run_under ok hu, hfl, asAgg, hrun], hvr⟩
theorem ptrK_ok {f : KV} {a : Addr} {n : Nat} (hh : ptrK f a n = some r) : f (.pointer (some ⟨a.block, a.off + n, none⟩)) = some r ∧ a.spot = none := by
  unfold ptrK at hh
  obtain ⟨hs, h1⟩ := noSpot_inv hh
  rw [forceN_eq] at h1
  exact ⟨h1, hs⟩
theorem os_fieldAddr (ok : EnvOK P E) (hM : M.ng = E.ng) (t : TypeId) (x : Operand) (i : Nat) : OS P E M F (.fieldAddr t x i) (xFieldAddr (fieldOf E t i) (po M x)) := os_quiet fun fr h f r hh => by
  obtain ⟨v, h1, hv⟩ := evO_ok hM hh
  obtain ⟨p, e, h2⟩ := vPtr_inv h1
  subst e
  obtain ⟨fd, hfd, h3⟩ := oS_inv h2
  obtain ⟨fs, fl, hu, hfl, hsz, ho, hag⟩ := fieldOf_ok hfd
  obtain ⟨o1, g1, n1⟩ := fd
  simp only at h3 ho hsz
  subst ho
  cases n1 with
  | zero => cases h3
  | succ n1 =>
    rw [nC_succ] at h3
    have hrun : ∀ σ w (a : Act), GOK E σ → HR E σ h w → FrR M σ fr a → ∃ p', a.eval x = .pointer (some p') ∧ AR σ p p' ∧ ∀ o : Oper, o.op = .fieldAddr t x i → (execOp a.eval o).run P w = .ok (.value (.pointer (some (p'.add fl.offset)))) w := fun σ w a ha hr hfr => by
      obtain ⟨p', he, hp⟩ := (hv σ a ha hfr).ptr_inv
      refine ⟨p', he, hp, fun o ho => ?_⟩
      simp [execOp, ho, he, Instr.fieldAt, run_under ok hu, hfl, Instr.sureAddr, fieldPlace, run_size ok hsz]
    cases hoff : fl.offset with
    | zero =>
      rw [hoff, nC_zero] at h3
      refine ⟨_, h3, fun σ w a ha hr hfr => ?_⟩
      obtain ⟨p', he, hp, h4⟩ := hrun σ w a ha hr hfr
      refine ⟨_, h4, ?_⟩
      rw [hoff, hp.add]
      obtain ⟨b, base, κ, h6, h7, h8⟩ := hp
      rw [h8]
      exact .ptr ⟨b, base, κ, h6, h7, rfl⟩
    | succ n =>
      rw [hoff, nC_succ] at h3
      obtain ⟨h5, hs⟩ := ptrK_ok h3
      refine ⟨_, h5, fun σ w a ha hr hfr => ?_⟩
      obtain ⟨p', he, hp, h4⟩ := hrun σ w a ha hr hfr
      refine ⟨_, h4, ?_⟩
      rw [hoff, hp.add]
      exact .ptr (hp.shift _)

theorem sliceElem_ok (ok : EnvOK P E) {t : TypeId} {e : Elem} (h : sliceElem E t = some e) :
    under E t = some (.slice e.e) ∧ szOf E e.e = some e.sz ∧ e.sz ≠ 0 ∧ zeroC E e.e = some e.z ∧ e.z.length = e.sz ∧ ∃ i, P.info? e.e = some i ∧ i.bytes = e.by_ ∧ i.size = e.sz := by
  unfold sliceElem at h
  split at h
  · rename_i el hu
    split at h
    · rename_i i z hi hz
      split at h
      · rename_i h1 h2
        cases h
        rw [len_eq] at h2
        refine ⟨hu, by simp [szOf, hi], fun e0 => ?_, hz, Nat.eq_of_beq_eq_true h2, i, ok.ty _ _ hi, rfl, rfl⟩
        have e1 : i.size = 0 := e0
        rw [e1] at h1; cases h1
      · cases h
    · cases h
  · cases h
theorem os_indexSl (ok : EnvOK P E) (hM : M.ng = E.ng) (t : TypeId) (x i : Operand) : OS P E M F (.indexAddr t x i) (xIndexSl (sliceElem E t) (po M x) (po M i)) := os_quiet fun fr h f r hh => by
  obtain ⟨v, h1, hv⟩ := evO_ok hM hh
  obtain ⟨u, h2, hu⟩ := evO_ok hM h1
  obtain ⟨k, n, e, h3⟩ := natK_inv h2
  subst e
  obtain ⟨se, hse, h4⟩ := oS_inv h3
  obtain ⟨p, l, c, e, h5⟩ := vSlice_inv h4
  subst e
  obtain ⟨p, e, h6⟩ := oS_inv h5
  subst e
  obtain ⟨hlt, h7⟩ := bT_inv h6
  have hlt := (blt_iff _ _).1 hlt
  obtain ⟨h8, hs⟩ := ptrK_ok h7
  obtain ⟨hun, hsz, -⟩ := sliceElem_ok ok hse
  refine ⟨_, h8, fun σ w a ha hr hfr => ?_⟩
  have hs := hv σ a ha hfr
  have : ∃ p' c', a.eval x = .slice (some p') l c' ∧ AR σ p p' := by
    generalize a.eval x = y at hs
    cases hs with
    | slice h1 h2 => exact ⟨_, _, rfl, h1⟩
  obtain ⟨p', c', he, hp⟩ := this
  refine ⟨.pointer (some (p'.add (n * se.sz))), fun o ho => ?_, by rw [hp.add]; exact .ptr (hp.shift _)⟩
  simp [execOp, ho, he, (hu σ a ha hfr).int_inv, Instr.indexAt, asIntOf, run_under ok hun, run_size ok hsz]
  exact fun hc => absurd hlt (by omega)
theorem arrLen_ok {t : TypeId} {n sz : Nat} (h1 : arrLen E t = some n) (h2 : elSz E t = some sz) : ∃ e, under E t = some (.array n e) ∧ szOf E e = some sz := by
  unfold arrLen at h1
  unfold elSz at h2
  split at h1
  · rename_i m e hu
    rw [hu] at h2
    cases h1
    exact ⟨e, hu, h2⟩
  · cases h1
theorem os_indexArr (ok : EnvOK P E) (hM : M.ng = E.ng) (t : TypeId) (x i : Operand) : OS P E M F (.indexAddr t x i) (xIndexArr (arrLen E t) (elSz E t) (po M x) (po M i)) := os_quiet fun fr h f r hh => by
  obtain ⟨v, h1, hv⟩ := evO_ok hM hh
  obtain ⟨u, h2, hu⟩ := evO_ok hM h1
  obtain ⟨k, n, e, h3⟩ := natK_inv h2
  subst e
  obtain ⟨sz, hsz, h4⟩ := oS_inv h3
  obtain ⟨p, e, h5⟩ := vPtr_inv h4
  subst e
  obtain ⟨l, hl, h6⟩ := oS_inv h5
  obtain ⟨hlt, h7⟩ := bT_inv h6
  have hlt := (blt_iff _ _).1 hlt
  obtain ⟨h8, hs⟩ := ptrK_ok h7
  obtain ⟨el, hun, hsz'⟩ := arrLen_ok hl hsz
  refine ⟨_, h8, fun σ w a ha hr hfr => ?_⟩
  obtain ⟨p', he, hp⟩ := (hv σ a ha hfr).ptr_inv
  refine ⟨.pointer (some (p'.add (n * sz))), fun o ho => ?_, by rw [hp.add]; exact .ptr (hp.shift _)⟩
  simp [execOp, ho, he, (hu σ a ha hfr).int_inv, Instr.indexAt, asIntOf, run_under ok hun, run_size ok hsz', Instr.sureAddr]
  exact fun hc => absurd hlt (by omega)
theorem os_indexStr (ok : EnvOK P E) (hM : M.ng = E.ng) (t : TypeId) (x i : Operand) (hun : under E t = some .string) : OS P E M F (.index t x i) (xIndexStr (po M x) (po M i)) := os_quiet fun fr h f r hh => by
  obtain ⟨v, h1, hv⟩ := evO_ok hM hh
  obtain ⟨u, h2, hu⟩ := evO_ok hM h1
  obtain ⟨k, n, e, h3⟩ := natK_inv h2
  subst e
  obtain ⟨s, e, h4⟩ := vStr_inv h3
  subst e
  obtain ⟨b, hb, h5⟩ := oS_inv h4
  rw [kInt_eq] at h5
  rw [nth_eq] at hb
  refine ⟨_, h5, fun σ w a ha hr hfr => ⟨_, fun o ho => ?_, .int _ _⟩⟩
  have hb' : s[n]? = some b := by
    obtain ⟨h6, h7⟩ := List.getElem?_eq_some_iff.1 hb
    have h8 : n < s.size := by simpa using h6
    rw [getElem?_pos s n h8]
    exact congrArg some h7
  simp [execOp, ho, (hv σ a ha hfr).string_inv, (hu σ a ha hfr).int_inv, Instr.index, asIntOf, run_under ok hun, hb']
end Go.Ev
set_option linter.unusedVariables false
namespace Go.Ev
variable {P : Program} {E : Env} {M : MN} {r : Res} {F : FF}

/-- A bound that may be missing. -/
def OptN (v : Option Value) (d n : Nat) : Prop := (v = none ∧ n = d) ∨ ∃ k, v = some (.int k (.ofNat n))
theorem optN_inv {v : Option Value} {d : Nat} {f : Nat → R} (h : optN v d f = some r) : ∃ n, OptN v d n ∧ f n = some r := by
  cases v with
  | none => exact ⟨d, .inl ⟨rfl, rfl⟩, h⟩
  | some v =>
    obtain ⟨k, n, e, h1⟩ := natK_inv (show natK v f = some r from h)
    subst e
    exact ⟨n, .inr ⟨k, rfl⟩, h1⟩
def OptR (σ : Sg) (v v' : Option Value) : Prop := v.isSome = v'.isSome ∧ ∀ u, v = some u → ∃ u', v' = some u' ∧ VR σ u u'
theorem OptN.of {σ : Sg} {v v' : Option Value} {d n : Nat} (h : OptN v d n) (k : OptR σ v v') : OptN v' d n := by
  rcases h with ⟨rfl, rfl⟩ | ⟨q, rfl⟩
  · refine .inl ⟨?_, rfl⟩
    have := k.1
    cases v' with
    | none => rfl
    | some x => cases this
  · obtain ⟨u', e, hv⟩ := k.2 _ rfl
    rw [hv.int_inv] at e
    exact .inr ⟨q, e⟩
theorem evOpt_R (hM : M.ng = E.ng) {x : Option Operand} {fr : Fr} {f : Option Value → R} (hh : evOpt (x.map (po M)) fr f = some r) :
    ∃ v : Option Value, f v = some r ∧ ∀ σ (a : Act), GOK E σ → FrR M σ fr a → OptR σ v (x.map a.eval) := by
  obtain ⟨v, h1, h2, h3⟩ := evOpt_ok hM hh
  exact ⟨v, h1, fun σ a ha hfr => ⟨by rw [h2]; cases x <;> rfl, h3 σ a ha hfr⟩⟩

theorem bound_run {k : IntKind} {n y : Nat} {c : BoundsCode} (h : n ≤ y) (w : World) : (Instr.sliceBound (.int k (n : Int)) y c).run P w = .ok n w := by
  have h1 : (n : Int) ≤ y := by omega
  simp [Instr.sliceBound, asIntOf, h]
/-- The bounds of a slice. -/
theorem bounds_run {s : Bool} {n cap l h m : Nat} {lo hi mx : Option Value} (hl : OptN lo 0 l) (hh : OptN hi n h) (hm : OptN mx cap m) (h1 : l ≤ h) (h2 : hi.isSome = true ∨ mx.isSome = true → h ≤ m) (h3 : m ≤ cap)
    (h4 : mx.isSome = true → hi.isSome = true) (w : World) : (Instr.sliceBounds s n cap lo hi mx).run P w = .ok (l, h, m) w := by
  rcases hm with ⟨rfl, rfl⟩ | ⟨km, rfl⟩
  · rcases hh with ⟨rfl, rfl⟩ | ⟨kh, rfl⟩
    · rcases hl with ⟨rfl, rfl⟩ | ⟨kl, rfl⟩
      · simp [Instr.sliceBounds]
      · simp [Instr.sliceBounds, bound_run h1]
    · have h5 := h2 (.inl rfl)
      rcases hl with ⟨rfl, rfl⟩ | ⟨kl, rfl⟩
      · simp [Instr.sliceBounds, bound_run h5]
      · simp [Instr.sliceBounds, bound_run h1, bound_run h5]
  · rcases hh with ⟨rfl, rfl⟩ | ⟨kh, rfl⟩
    · cases h4 rfl
    · have h5 := h2 (.inl rfl)
      rcases hl with ⟨rfl, rfl⟩ | ⟨kl, rfl⟩
      · simp [Instr.sliceBounds, bound_run h5, bound_run h3]
      · simp [Instr.sliceBounds, bound_run h1, bound_run h5, bound_run h3]

theorem addO_inv {a : Option Addr} {n : Nat} {f : Option Addr → R} (h : addO a n f = some r) : (a = none ∧ f none = some r) ∨ ∃ p, a = some p ∧ p.spot = none ∧ f (some ⟨p.block, p.off + n, none⟩) = some r := by
  cases a with
  | none => exact .inl ⟨rfl, h⟩
  | some p =>
    obtain ⟨h1, h2⟩ := noSpot_inv (show noSpot p _ = some r from h)
    rw [forceN_eq] at h2
    exact .inr ⟨p, rfl, h1, h2⟩
theorem AR.add0 {σ : Sg} {a a' : Addr} (h : AR σ a a') : a'.add 0 = a' := by
  obtain ⟨b, base, κ, h1, h2, rfl⟩ := h
  rfl
theorem AR.addR {σ : Sg} {a a' : Addr} (h : AR σ a a') (n : Nat) : AR σ ⟨a.block, a.off + n, none⟩ (a'.add n) := by rw [h.add]; exact h.shift n

/-- What a slice of a slice is. -/
def SlR (σ : Sg) (v : Value) (sz l h m : Nat) (a' : Option Addr) : Prop := VR σ v (.slice (if m = l then a' else a'.map (·.add (l * sz))) (h - l) (m - l))
theorem sliceTo_ok {sz : Nat} {a : Option Addr} {l h m : Nat} {f : KV} (hh : sliceTo sz a l h m f = some r) (h1 : h ≤ m) (h2 : m < BIG) :
    ∃ v, f v = some r ∧ ∀ σ a', (∀ p, a = some p → ∃ p', a' = some p' ∧ AR σ p p') → (a = none → a' = none) → SlR σ v sz l h m a' := by
  unfold sliceTo at hh
  rw [bI_eq] at hh
  split at hh
  · rename_i e
    have e := Nat.eq_of_beq_eq_true e
    rw [forceN_eq] at hh
    refine ⟨_, hh, fun σ a' ha hn => ?_⟩
    unfold SlR
    rw [if_pos e]
    subst e
    have e0 : m - m = 0 := by omega
    rw [e0]
    cases a with
    | none => rw [hn rfl]; exact .nilSlice _ _ (by unfold BIG; omega)
    | some p => obtain ⟨p', rfl, hp⟩ := ha p rfl; exact .slice hp (.inl ⟨by unfold BIG; omega, rfl⟩)
  · rename_i e
    have e : ¬ m = l := fun e1 => e (by rw [e1]; exact Nat.beq_refl l)
    rw [forceN_eq, forceN_eq] at hh
    rcases addO_inv hh with ⟨rfl, h3⟩ | ⟨p, rfl, hs, h3⟩
    · refine ⟨_, h3, fun σ a' ha hn => ?_⟩
      unfold SlR
      rw [if_neg e, hn rfl]
      exact .nilSlice _ _ (by show m - l < BIG; omega)
    · refine ⟨_, h3, fun σ a' ha hn => ?_⟩
      unfold SlR
      obtain ⟨p', rfl, hp⟩ := ha p rfl
      rw [if_neg e]
      exact .slice (hp.addR _) (.inl ⟨by show m - l < BIG; omega, rfl⟩)

theorem sliceK_ok {sz : Nat} {a : Option Addr} {n cap : Nat} {lo hi mx : Option Value} {f : KV} (hh : sliceK sz a n cap lo hi mx f = some r) (hmx : mx.isSome = true → hi.isSome = true) :
    ∃ v, f v = some r ∧ ∀ σ w a' c' (lo' hi' mx' : Option Value), VR σ (.slice a n cap) (.slice a' n c') → OptR σ lo lo' → OptR σ hi hi' → OptR σ mx mx' →
      ∃ l h m, (Instr.sliceBounds true n c' lo' hi' mx').run P w = .ok (l, h, m) w ∧ SlR σ v sz l h m a' := by
  unfold sliceK at hh
  obtain ⟨h, hoh, h1⟩ := optN_inv hh
  obtain ⟨l, hol, h2⟩ := optN_inv h1
  obtain ⟨hlh, h3⟩ := bT_inv h2
  have hlh := Nat.le_of_ble_eq_true hlh
  have hadr : ∀ {σ : Sg} {a' : Option Addr} {c' : Nat}, VR σ (.slice a n cap) (.slice a' n c') → (∀ p, a = some p → ∃ p', a' = some p' ∧ AR σ p p') ∧ (a = none → a' = none) := fun hv => by
    cases hv with
    | nilSlice => exact ⟨fun p e => (by cases e), fun _ => rfl⟩
    | slice hp => exact ⟨fun p e => (by cases e; exact ⟨_, rfl, hp⟩), fun e => (by cases e)⟩
  rw [bI_eq] at h3
  split at h3
  · rename_i hb
    have hb := Nat.le_of_ble_eq_true hb
    have hun : ∀ {σ : Sg} {a' : Option Addr} {c' : Nat}, VR σ (.slice a n cap) (.slice a' n c') → n ≤ c' ∧ ∃ p p', a = some p ∧ a' = some p' ∧ AR σ p p' ∧ ∃ b base κ, σ.ρ p.block = some (b, base, κ) ∧ c' + (cap - BIG) = κ := fun hv => by
      cases hv with
      | nilSlice _ _ hc => omega
      | slice hp hc =>
        rcases hc with ⟨hc, _⟩ | ⟨_, hn, b, base, κ, h5, h6⟩
        · omega
        · exact ⟨hn, _, _, rfl, rfl, hp, b, base, κ, h5, h6⟩
    cases mx with
    | none =>
      rw [oC_none] at h3
      obtain ⟨hhn, h4⟩ := bT_inv h3
      have hhn := Nat.le_of_ble_eq_true hhn
      have hbd : ∀ {σ : Sg} {w : World} {a' : Option Addr} {c' : Nat} {lo' hi' mx' : Option Value}, VR σ (.slice a n cap) (.slice a' n c') → OptR σ lo lo' → OptR σ hi hi' → OptR σ none mx' →
          (Instr.sliceBounds true n c' lo' hi' mx').run P w = .ok (l, h, c') w := fun hv r1 r2 r3 => by
        have := (hun hv).1
        refine bounds_run (hol.of r1) (hoh.of r2) ((show OptN none _ _ from .inl ⟨rfl, rfl⟩).of r3) hlh (fun _ => by omega) (Nat.le_refl _) (fun e => ?_) _
        rw [← r3.1] at e; cases e
      rw [bI_eq] at h4
      split at h4
      · rename_i hln
        have hln := (blt_iff _ _).1 hln
        rw [forceN_eq, forceN_eq] at h4
        rcases addO_inv h4 with ⟨rfl, h5⟩ | ⟨p, rfl, hs, h5⟩
        · exact ⟨_, h5, fun σ w a' c' lo' hi' mx' hv r1 r2 r3 => by obtain ⟨_, p, p', e, _⟩ := hun hv; cases e⟩
        · refine ⟨_, h5, fun σ w a' c' lo' hi' mx' hv r1 r2 r3 => ⟨l, h, c', hbd hv r1 r2 r3, ?_⟩⟩
          obtain ⟨hn, q, p', e, rfl, hp, b, base, κ, h6, h7⟩ := hun hv
          cases e
          unfold SlR
          rw [if_neg (by omega)]
          refine .slice (hp.addR _) (.inr ⟨?_, ?_, b, base, κ, h6, ?_⟩)
          · show BIG ≤ cap + l; omega
          · show h - l ≤ c' - l; omega
          · show c' - l + (cap + l - BIG) = κ; omega
      · rename_i hln
        have hln : ¬ l < n := fun e => hln ((blt_iff _ _).2 e)
        obtain ⟨h0, h5⟩ := bT_inv h4
        have h0 := Nat.eq_of_beq_eq_true h0
        refine ⟨_, h5, fun σ w a' c' lo' hi' mx' hv r1 r2 r3 => ⟨l, h, c', hbd hv r1 r2 r3, ?_⟩⟩
        obtain ⟨hn, q, p', rfl, rfl, hp, b, base, κ, h6, h7⟩ := hun hv
        subst h0
        have e1 : h - 0 = 0 := by omega
        unfold SlR
        rw [e1]
        have e2 : (if c' = 0 then some p' else (some p').map (·.add (0 * sz))) = some p' := by
          rw [Nat.zero_mul]; split
          · rfl
          · show some (p'.add 0) = _; rw [hp.add0]
        rw [e2]
        exact .slice hp (.inr ⟨hb, Nat.zero_le _, b, base, κ, h6, by omega⟩)
    | some mx =>
      rw [oC_some] at h3
      obtain ⟨k, m, e, h4⟩ := natK_inv h3
      subst e
      obtain ⟨hm1, h5⟩ := bT_inv h4
      obtain ⟨hm2, h6⟩ := bT_inv h5
      obtain ⟨hm3, h7⟩ := bT_inv h6
      have hm1 := (blt_iff _ _).1 hm1
      have hm2 := Nat.le_of_ble_eq_true hm2
      have hm3 := Nat.le_of_ble_eq_true hm3
      obtain ⟨v, h8, h9⟩ := sliceTo_ok h7 hm3 hm1
      refine ⟨v, h8, fun σ w a' c' lo' hi' mx' hv r1 r2 r3 => ⟨l, h, m, ?_, h9 σ a' (hadr hv).1 (hadr hv).2⟩⟩
      have := (hun hv).1
      refine bounds_run (hol.of r1) (hoh.of r2) ((show OptN (some (.int k (.ofNat m))) c' m from .inr ⟨k, rfl⟩).of r3) hlh (fun _ => hm3) (by omega) (fun e => ?_) _
      rw [← r2.1]; exact hmx rfl
  · rename_i hb
    have hb : cap < BIG := by
      rcases Nat.lt_or_ge cap BIG with h1 | h1
      · exact h1
      · exact absurd (Nat.ble_eq_true_of_le h1) hb
    obtain ⟨m, hom, h4⟩ := optN_inv h3
    obtain ⟨hm2, h6⟩ := bT_inv h4
    obtain ⟨hm3, h7⟩ := bT_inv h6
    have hm2 := Nat.le_of_ble_eq_true hm2
    have hm3 := Nat.le_of_ble_eq_true hm3
    obtain ⟨v, h8, h9⟩ := sliceTo_ok h7 hm3 (by omega)
    refine ⟨v, h8, fun σ w a' c' lo' hi' mx' hv r1 r2 r3 => ⟨l, h, m, ?_, h9 σ a' (hadr hv).1 (hadr hv).2⟩⟩
    have hc : c' = cap := by
      cases hv with
      | nilSlice => rfl
      | slice hp hc => rcases hc with ⟨_, e⟩ | ⟨hc, _⟩ <;> first | exact e | omega
    subst hc
    refine bounds_run (hol.of r1) (hoh.of r2) (hom.of r3) hlh (fun _ => hm3) hm2 (fun e => ?_) _
    rw [← r2.1]; exact hmx (by rw [r3.1]; exact e)

theorem slice_shape {σ : Sg} {a : Option Addr} {n cap : Nat} {v : Value} (h : VR σ (.slice a n cap) v) : ∃ a' c', v = .slice a' n c' := by cases h <;> exact ⟨_, _, rfl⟩
theorem os_slice (ok : EnvOK P E) (hM : M.ng = E.ng) (t : TypeId) (x : Operand) (lo hi mx : Option Operand) (hmx : mx.isSome = true → hi.isSome = true) :
    OS P E M F (.slice t x lo hi mx) (xSlice (sliceElem E t) (po M x) (lo.map (po M)) (hi.map (po M)) (mx.map (po M))) := os_quiet fun fr h f r hh => by
  obtain ⟨v, h1, hv⟩ := evO_ok hM hh
  obtain ⟨lv, h2, hl⟩ := evOpt_R hM h1
  obtain ⟨hv', h3, hhi⟩ := evOpt_ok hM h2
  obtain ⟨mv, h4, hm⟩ := evOpt_ok hM h3
  obtain ⟨a0, n, cap, e, h5⟩ := vSlice_inv h4
  subst e
  obtain ⟨se, hse, h6⟩ := oS_inv h5
  obtain ⟨hun, hsz, -⟩ := sliceElem_ok ok hse
  obtain ⟨u, hf, hu⟩ := sliceK_ok (P := P) h6 (by rw [hm.1, hhi.1]; exact hmx)
  refine ⟨u, hf, fun σ w a ha hr hfr => ?_⟩
  obtain ⟨a', c', he⟩ := slice_shape (hv σ a ha hfr)
  have hvr := hv σ a ha hfr
  rw [he] at hvr
  have r2 : OptR σ hv' (hi.map a.eval) := ⟨by rw [hhi.1]; cases hi <;> rfl, hhi.2 σ a ha hfr⟩
  have r3 : OptR σ mv (mx.map a.eval) := ⟨by rw [hm.1]; cases mx <;> rfl, hm.2 σ a ha hfr⟩
  obtain ⟨l, h', m, hrun, hsl⟩ := hu σ w a' c' _ _ _ hvr (hl σ a ha hfr) r2 r3
  exact ⟨_, fun o ho => by simp [execOp, ho, he, Instr.sliceAt, Instr.slice, run_under ok hun, run_size ok hsz, hrun], hsl⟩

theorem os_strSlice (ok : EnvOK P E) (hM : M.ng = E.ng) (t : TypeId) (x : Operand) (lo hi : Option Operand) (hun : under E t = some .string) :
    OS P E M F (.slice t x lo hi none) (xStrSlice (po M x) (lo.map (po M)) (hi.map (po M))) := os_quiet fun fr h f r hh => by
  obtain ⟨v, h1, hv⟩ := evO_ok hM hh
  obtain ⟨lv, h2, hl⟩ := evOpt_R hM h1
  obtain ⟨hv', h3, hhi⟩ := evOpt_R hM h2
  obtain ⟨s, e, h4⟩ := vStr_inv h3
  subst e
  unfold strSlice at h4
  rw [forceN_eq, len_eq] at h4
  obtain ⟨q, hoh, h5⟩ := optN_inv h4
  obtain ⟨l, hol, h6⟩ := optN_inv h5
  obtain ⟨hlq, h7⟩ := bT_inv h6
  obtain ⟨hqn, h8⟩ := bT_inv h7
  have hlq := Nat.le_of_ble_eq_true hlq
  have hqn := Nat.le_of_ble_eq_true hqn
  have hsz : s.data.toList.length = s.size := Array.length_toList
  rw [hsz] at hqn hoh
  refine ⟨_, h8, fun σ w a ha hr hfr => ?_⟩
  have hrun := bounds_run (P := P) (s := false) (hol.of (hl σ a ha hfr)) (hoh.of (hhi σ a ha hfr)) (show OptN none s.size s.size from .inl ⟨rfl, rfl⟩) hlq (fun _ => hqn) (Nat.le_refl _) (fun e => by cases e) w
  have e : s.extract l q = ⟨⟨takeE (Nat.sub q l) (dropE l s.data.toList)⟩⟩ := by
    rw [takeE_eq, dropE_eq]
    apply ByteArray.ext
    rw [ByteArray.data_extract]
    apply Array.ext'
    rw [Array.toList_extract, List.extract_eq_take_drop]
    rfl
  refine ⟨.string (s.extract l q), fun o ho => ?_, by rw [e]; exact .string _⟩
  simp [execOp, ho, (hv σ a ha hfr).string_inv, Instr.sliceAt, Instr.slice, run_under ok hun, hrun]

theorem rep_flat {z : Cells} : ∀ {n : Nat} (i : Nat), (List.replicate n z).flatten[i]? = if i < n * z.length then z[i % z.length]? else none
  | 0, i => by simp
  | n + 1, i => by
    rw [List.replicate_succ, List.flatten_cons, List.getElem?_append]
    by_cases h : i < z.length
    · have : i < (n + 1) * z.length := Nat.lt_of_lt_of_le h (Nat.le_mul_of_pos_left _ (by omega))
      rw [if_pos h, if_pos this, Nat.mod_eq_of_lt h]
    · rw [if_neg h, rep_flat (n := n)]
      have e1 : (i - z.length) % z.length = i % z.length := by
        rw [Nat.mod_eq_sub_mod (by omega : z.length ≤ i)]
      have e2 : i - z.length < n * z.length ↔ i < (n + 1) * z.length := by rw [Nat.add_mul, Nat.one_mul]; omega
      rw [e1]
      by_cases h3 : i < (n + 1) * z.length
      · rw [if_pos h3, if_pos (e2.2 h3)]
      · rw [if_neg h3, if_neg (fun e => h3 (e2.1 e))]
/-- Zeroes, laid in a row. -/
theorem zeroes_eq {z : Array Value} {n : Nat} : ((Array.range (n * z.size)).map (z[· % z.size]!)).toList = (List.replicate n z.toList).flatten := by
  apply List.ext_getElem?
  intro i
  rw [rep_flat]
  simp only [Array.toList_map, Array.toList_range, List.getElem?_map, Array.length_toList]
  by_cases h : i < n * z.size
  · rw [if_pos h, List.getElem?_range h]
    have hz : 0 < z.size := Nat.pos_of_ne_zero fun e => by rw [e] at h; omega
    have : i % z.size < z.size := Nat.mod_lt _ hz
    rw [Array.getElem?_toList, Array.getElem?_eq_getElem this, Option.map_some, getElem!_pos z _ this]
  · rw [if_neg h, List.getElem?_eq_none (by rw [List.length_range]; omega)]
    rfl
theorem flat_CL {σ : Sg} {z : Cells} (h : CL σ z z) : ∀ n, CL σ (List.replicate n z).flatten (List.replicate n z).flatten
  | 0 => CL.nil σ
  | n + 1 => by
    rw [List.replicate_succ, List.flatten_cons]
    exact h.append (flat_CL h n)
end Go.Ev
set_option linter.unusedVariables false
namespace Go.Ev
variable {P : Program} {E : Env} {M : MN} {r : Res} {F : FF}

theorem wrap_small {n : Nat} (h : n ≤ 65536) : IntKind.i64.wrap (n : Int) = n := by
  have := wrapNat_eq .i64 n
  unfold wrapNat at this
  have hb : Nat.blt n 9223372036854775808 = true := (blt_iff _ _).2 (by omega)
  simp only [hb] at this
  exact this.symm

theorem os_makeSlice (ok : EnvOK P E) (hM : M.ng = E.ng) (t : TypeId) (x y : Operand) : OS P E M F (.makeSlice t x y) (xMakeSlice (sliceElem E t) (po M x) (po M y)) := fun fr h f r hh => by
  obtain ⟨v, h1, hv⟩ := evO_ok hM hh
  obtain ⟨kl, l, e, h2⟩ := natK_inv h1
  subst e
  obtain ⟨u, h3, hu⟩ := evO_ok hM h2
  obtain ⟨kc, c, e, h4⟩ := natK_inv h3
  subst e
  obtain ⟨se, hse, h5⟩ := oS_inv h4
  obtain ⟨hun, hsz, hne, hz, hzl, i, hi, hby, hsi⟩ := sliceElem_ok ok hse
  obtain ⟨hlc, h6⟩ := bT_inv h5
  obtain ⟨hc, h7⟩ := bT_inv h6
  obtain ⟨hb, h8⟩ := bT_inv h7
  have hlc := Nat.le_of_ble_eq_true hlc
  have hc := Nat.le_of_ble_eq_true hc
  have hb := Nat.le_of_ble_eq_true hb
  obtain ⟨h', hf, hn, hgo⟩ := mkRows_ok h8
  refine ⟨_, h', hf, by omega, fun _ σ w a ha hr hfr fre => ?_⟩
  obtain ⟨zv, hrun, hzc, hcl⟩ := zeroC_ok ok hz w
  have hzs : zv.cells.size = se.sz := by rw [← hzl, ← hzc]; simp
  have hflat : ((Array.range (c * se.sz)).map (zv.cells[· % zv.cells.size]!)).toList = (List.replicate c se.z).flatten := by
    have := zeroes_eq (z := zv.cells) (n := c)
    rw [hzc, hzs] at this
    rw [hzs]; exact this
  have hfl : (List.replicate c se.z).flatten.length = c * se.sz := by
    rw [flatten_length (es := se.sz) (fun row hrow => by rw [List.eq_of_mem_replicate hrow]; exact hzl)]; simp
  have hasz : ((Array.range (c * se.sz)).map (zv.cells[· % zv.cells.size]!)).size = c * se.sz := by rw [Array.size_map, Array.size_range]
  have hwl := wrap_small (n := l) (by omega)
  have hwc := wrap_small hc
  have hprod : i.bytes * c ≤ 4096 * 65536 := Nat.mul_le_mul (by omega) hc
  have hrl : (replC se.z c).length = c := by rw [replC_eq]; simp
  obtain ⟨h9, h10⟩ := hgo σ w ((Array.range (c * se.sz)).map (zv.cells[· % zv.cells.size]!)) 0 c hr (fre _ (Nat.le_refl _) (by omega)) (fun row hrow => by rw [replC_eq] at hrow; rw [List.eq_of_mem_replicate hrow]; exact hzl)
    (by rw [hrl, hasz]; exact Nat.le_refl _) (by
      rw [hrl, hflat, List.take_of_length_le (by rw [hfl]; exact Nat.le_refl _), replC_eq]
      exact flat_CL (hcl σ) c) (fun e => by cases e) (.inl ⟨by unfold BIG; omega, rfl⟩)
  refine ⟨_, _, _, does_value fun o ho => ?_, h10, h9⟩
  have hp1 : ¬ ((i.bytes : Int) * (c : Int) > 2 ^ 48) := by
    have : ((i.bytes * c : Nat) : Int) ≤ ((4096 * 65536 : Nat) : Int) := Int.ofNat_le.2 hprod
    rw [Int.natCast_mul] at this
    omega
  have hp2 : ¬ (c * i.bytes > roomBytes) := by
    unfold roomBytes
    rw [Nat.mul_comm]; omega
  have hlc' : (l : Int) ≤ c := by omega
  have hask : (askRoom (c * i.bytes)).run P w = .ok () w := by unfold askRoom; rw [if_neg hp2]; simp
  have hcond : ¬ ((((c : Int) < 0 ∨ 281474976710656 < (i.bytes : Int) * (c : Int)) ∨ (l : Int) < 0) ∨ c < l) := by
    have : (281474976710656 : Int) = 2 ^ 48 := by decide
    omega
  simp [execOp, ho, (hv σ a ha hfr).int_inv, (hu σ a ha hfr).int_inv, Instr.makeSlice, run_under ok hun, asInt, asIntOf, run_info hi, hwl, hwc, run_size ok hsz, newRow]
  rw [if_neg hcond]
  by_cases hc0 : c * se.sz = 0
  · have hm : ∀ g : Nat → Value, (Array.range 0).map g = #[] := fun g => by simp
    rw [if_pos hc0, hc0, hm, hm]
  · rw [if_neg hc0, hrun]
    rfl
end Go.Ev
set_option linter.unusedVariables false
namespace Go.Ev
variable {P : Program} {E : Env} {M : MN} {r : Res} {F : FF}

/-- Less of the memory is known. -/
theorem go_sub {σ : Sg} {h h' : Heap} {w : World} (hr : HR E σ h w) (hn : h'.next = h.next) (hs : ∀ n B, h'.b.get n = some B → h.b.get n = some B) : Go E σ h w σ h' w :=
  ⟨Ext.refl σ, fun _ _ hx => .inl hx, Nat.le_of_eq hn.symm, hr.sub hs, rfl, rfl, rfl, Nat.le_refl _, fun _ _ _ => rfl, fun n B x hB hx _ => ⟨n, B, x, hs n B hB, id, hx, rfl⟩⟩
/-- A block gets a new name, and is written. -/
theorem go_reuse {σ : Sg} {h : Heap} {w w' : World} (hr : HR E σ h w) {n : Nat} {B B' : Blk} {b base κ base' κ' : Nat} {o' : Obj} (hf : σ.ρ h.next = none) (hB : h.b.get n = some B) (hnf : B.fix = false) (hρ : σ.ρ n = some (b, base, κ))
    (hw : w' = { w with heap := w.heap.setIfInBounds b o' }) (hb : BR E (σ.add h.next b base' κ') B' base' κ' o') :
    Go E σ h w (σ.add h.next b base' κ') ⟨h.next + 1, (h.b.put none n).put (some B') h.next⟩ w' where
  ext := Sg.add_ext hf
  new := fun n x hx => by
    by_cases e : n = h.next
    · exact .inr ⟨by omega, by show n < h.next + 1; omega⟩
    · rw [Sg.add_other e] at hx; exact .inl hx
  le := Nat.le_succ _
  hr := by
    subst hw
    have hlt := hr.lt hB hρ
    have hold : ∀ {m : Nat} {C : Blk}, (h.b.put none n).get m = some C → m ≠ n ∧ h.b.get m = some C := fun {m C} hC => by
      rcases Tr.get_put _ _ _ _ hC with ⟨_, e⟩ | ⟨e, hC'⟩
      · cases e
      · exact ⟨e, hC'⟩
    refine ⟨fun m C hC => ?_, fun m k C D b2 x y hC hD hx hy => ?_⟩
    · rcases Tr.get_put _ _ _ _ hC with ⟨rfl, e⟩ | ⟨e, hC'⟩
      · cases e; exact ⟨b, base', κ', o', Sg.add_self .., by simp [hlt], hb⟩
      · obtain ⟨hmn, hC''⟩ := hold hC'
        obtain ⟨b2, base2, κ2, o2, h1, h2, h3⟩ := hr.live m C hC''
        have hne : b ≠ b2 := fun he => by subst he; exact hmn (hr.inj m n C B _ _ _ hC'' hB h1 hρ)
        exact ⟨b2, base2, κ2, o2, by rw [Sg.add_other e]; exact h1, by simp [hne, h2], h3.mono (Sg.add_ext hf)⟩
    · rcases Tr.get_put _ _ _ _ hC with ⟨rfl, _⟩ | ⟨e, hC'⟩ <;> rcases Tr.get_put _ _ _ _ hD with ⟨rfl, _⟩ | ⟨e', hD'⟩
      · rfl
      · rw [Sg.add_self] at hx; rw [Sg.add_other e'] at hy; cases hx
        obtain ⟨hkn, hD''⟩ := hold hD'
        exact absurd (hr.inj k n D B _ _ _ hD'' hB hy hρ) hkn
      · rw [Sg.add_self] at hy; rw [Sg.add_other e] at hx; cases hy
        obtain ⟨hmn, hC''⟩ := hold hC'
        exact absurd (hr.inj m n C B _ _ _ hC'' hB hx hρ) hmn
      · rw [Sg.add_other e] at hx; rw [Sg.add_other e'] at hy
        exact hr.inj m k C D b2 x y (hold hC').2 (hold hD').2 hx hy
  os := by subst hw; rfl
  tape := by subst hw; rfl
  output := by subst hw; rfl
  size := by subst hw; simp
  keep := fun k hk hn => by
    subst hw
    have : b ≠ k := hn n B _ hB hnf hρ
    simp [this]
  img := fun m C x hC hx hlt => by
    rcases Tr.get_put _ _ _ _ hC with ⟨rfl, _⟩ | ⟨e, hC'⟩
    · rw [Sg.add_self] at hx; cases hx; exact ⟨n, B, _, hB, fun _ => hnf, hρ, rfl⟩
    · rw [Sg.add_other e] at hx
      rcases Tr.get_put _ _ _ _ hC' with ⟨_, e2⟩ | ⟨_, hC''⟩
      · cases e2
      · exact ⟨m, C, x, hC'', id, hx, rfl⟩

/-! ## What the machine does -/
theorem growBy_le {n : Nat} : ∀ (k c : Nat), c ≤ 2 * n + 1000 → Builtin.growBy n k c ≤ 2 * n + 1000
  | 0, c, h => h
  | k + 1, c, h => by
    unfold Builtin.growBy
    split
    · exact h
    · exact growBy_le k _ (by omega)
theorem next_le {n c : Nat} (h : c < n) : Builtin.nextslicecap n c ≤ 2 * n + 1000 := by
  unfold Builtin.nextslicecap
  split
  · omega
  · split
    · omega
    · exact growBy_le 4 c (by omega)

theorem append_in (ok : EnvOK P E) {t u ty : TypeId} {e : Elem} {d : TypeId} (hse : sliceElem E t = some e) (hu : under E u = some (.slice d)) {b' bx : Option Addr} {n c' m cx : Nat} {new : List Value} {w w' : World}
    (hle : n + m ≤ c') (hfc : (Builtin.firstCells e.sz m (.slice bx m cx)).run P w = .ok ⟨new⟩ w)
    (hst : match b' with | some p => (storeCells (p.add (n * e.sz)) new).run P w = .ok () w' | none => w' = w) :
    (Builtin.append_ #[t, u] ty #[.slice b' n c', .slice bx m cx]).run P w = .ok (.slice b' (n + m) c') w' := by
  obtain ⟨hun, hsz, -⟩ := sliceElem_ok ok hse
  cases b' with
  | none => subst hst; simp [Builtin.append_, run_under ok hun, run_size ok hsz, run_under ok hu, Builtin.lenOf, hle, hfc]
  | some p => simp [Builtin.append_, run_under ok hun, run_size ok hsz, run_under ok hu, Builtin.lenOf, hle, hfc, hst]

theorem append_new (ok : EnvOK P E) {t u ty : TypeId} {e : Elem} {d : TypeId} (hse : sliceElem E t = some e) (hu : under E u = some (.slice d)) {b' bx : Option Addr} {n c' m cx : Nat} {old new : List Value} {w : World}
    (hlt : c' < n + m) (hsm : (n + m) * 65536 ≤ 140737488355328) (hby : e.by_ ≤ 4096) (h1 : (Builtin.firstCells e.sz n (.slice b' n c')).run P { w with drawn := w.drawn + 1 } = .ok ⟨old⟩ { w with drawn := w.drawn + 1 })
    (h2 : (Builtin.firstCells e.sz m (.slice bx m cx)).run P { w with drawn := w.drawn + 1 } = .ok ⟨new⟩ { w with drawn := w.drawn + 1 }) :
    ∃ (cap q : Nat) (rest : Array Value), n + m ≤ cap ∧ rest.size = (cap - (n + m)) * e.sz ∧
      (Builtin.append_ #[t, u] ty #[.slice b' n c', .slice bx m cx]).run P w = .ok (.slice (some ⟨w.heap.size, 0, none⟩) (n + m) cap) { w with drawn := q, heap := w.heap.push (.cells (⟨old⟩ ++ ⟨new⟩ ++ rest) e.e (0, 0)) } := by
  obtain ⟨hun, hsz, hne, hz, hzl, i, hi, hiby, hisz⟩ := sliceElem_ok ok hse
  obtain ⟨zv, hrun, hzc, -⟩ := zeroC_ok ok hz { w with drawn := w.drawn + 1 }
  have hcap := next_le hlt
  have hp1 : ¬ (Builtin.nextslicecap (n + m) c' * i.bytes > 2 ^ 48) := by
    have := Nat.mul_le_mul hcap (show i.bytes ≤ 4096 by omega)
    omega
  have hp2 : ¬ ((n : Int) + (m : Int) > IntKind.i64.max) := by
    have : IntKind.i64.max = 9223372036854775807 := by decide
    rw [this]; omega
  have hnle : ¬ (n + m ≤ c') := by omega
  refine ⟨(n + m) + w.tape w.drawn (.appendCap (n + m) c' e.e) % (2 ^ 63 - (n + m)), w.drawn + 1, Builtin.zeroCells zv.cells (n + m + w.tape w.drawn (.appendCap (n + m) c' e.e) % (2 ^ 63 - (n + m)) - (n + m)), Nat.le_add_right .., ?_, ?_⟩
  · unfold Builtin.zeroCells
    have : zv.cells.size = e.sz := by rw [← hzl, ← hzc]; simp
    simp [this]
  · simp [Builtin.append_, run_under ok hun, run_size ok hsz, run_under ok hu, Builtin.lenOf, hnle, run_info hi, Question.forced, Question.cut]
    rw [if_neg (by omega), if_neg (by omega)]
    have h1' : (Builtin.firstCells e.sz n (.slice b' n c')).run P w.drew = .ok ⟨old⟩ w.drew := h1
    have h2' : (Builtin.firstCells e.sz m (.slice bx m cx)).run P w.drew = .ok ⟨new⟩ w.drew := h2
    have hrun' : (zeroValue e.e).run P w.drew = .ok zv w.drew := hrun
    simp [h1', h2', hrun', newRow]
    have e3 : ∀ Z : Array Value, ((⟨old⟩ : Array Value) ++ ((⟨new⟩ : Array Value) ++ Z)) = (old ++ new).toArray ++ Z := fun Z => by apply Array.ext'; simp
    rw [e3]
    rfl

/-! ## The evaluator's -/
theorem appIn_ok {e : Elem} {h : Heap} {a : Addr} {n m cap : Nat} {new : List Cells} {f : KH} (hh : appIn e h a n m cap new f = some r) :
    ∃ h', f (.slice (some a) (n + m) cap) h' = some r ∧ h'.next = h.next ∧ ∀ σ w a' vs', HR E σ h w → AR σ a a' → (∀ row ∈ new, row.length = e.sz) → CL σ new.flatten vs' →
      ∃ w', (storeCells (a'.add (n * e.sz)) vs').run P w = .ok () w' ∧ Go E σ h w σ h' w' := by
  unfold appIn at hh
  obtain ⟨h', h1, hn, h2⟩ := putRows_ok (P := P) (E := E) hh
  rw [forceN_eq] at h1
  exact ⟨h', h1, hn, fun σ w a' vs' hr ha hrow hc => h2 σ w _ _ hr (ha.addR _) hrow hc⟩

/-- What is asked of the two arguments. -/
def AppSem (P : Program) (E : Env) (t u ty : TypeId) (s x : Value) (h : Heap) (v : Value) (h' : Heap) : Prop :=
  ∀ σ w s' x', HR E σ h w → VR σ s s' → VR σ x x' → Fresh σ h.next h'.next → ∃ v' w' τ, (Builtin.append_ #[t, u] ty #[s', x']).run P w = .ok v' w' ∧ VR τ v v' ∧ Go E σ h w τ h' w'

/-- A new block. h1: what is left of the memory. -/
theorem appNew_ok (ok : EnvOK P E) {t u ty : TypeId} {e : Elem} {d : TypeId} (hse : sliceElem E t = some e) (hu : under E u = some (.slice d)) {h h1 : Heap} {a : Option Addr} {bx : Option Addr} {n m cap mx : Nat} {new : List Cells} {f : KH}
    (hh : appNew e h h1 (.slice a n cap) n m new f = some r) (hn1 : h1.next = h.next) (hs : ∀ n B, h1.b.get n = some B → h.b.get n = some B) (hnl : new.length = m)
    (hx : ∀ σ w v', HR E σ h w → VR σ (.slice bx m mx) v' → (∀ row ∈ new, row.length = e.sz) ∧ ∃ l', (Builtin.firstCells e.sz m v').run P w = .ok ⟨l'⟩ w ∧ CL σ new.flatten l') :
    ∃ rows h', f (.slice (some ⟨h.next, 0, none⟩) (n + m) BIG) h' = some r ∧ h' = ⟨h.next + 1, h1.b.put (some (.cells (n + m) e.e true e.sz (Tr.ofList (rows ++ new)))) h.next⟩ ∧ rows.length = n ∧
      (∀ σ w v', HR E σ h w → VR σ (.slice a n cap) v' → (∀ row ∈ rows, row.length = e.sz) ∧ ∃ l', (Builtin.firstCells e.sz n v').run P w = .ok ⟨l'⟩ w ∧ CL σ rows.flatten l' ∧
        ∀ (p' : Addr) n' c' arr e1 fr, v' = .slice (some p') n' c' → w.heap[p'.block]? = some (.cells arr e1 fr) → l' = (arr.toList.drop p'.off).take (n * e.sz)) ∧
      ∀ σ w a' c' bx' mx', HR E σ h w → VR σ (.slice a n cap) (.slice a' n c') → VR σ (.slice bx m mx) (.slice bx' m mx') → Fresh σ h.next (h.next + 1) → c' < n + m →
        ∃ v' w' τ, (Builtin.append_ #[t, u] ty #[.slice a' n c', .slice bx' m mx']).run P w = .ok v' w' ∧ VR τ (.slice (some ⟨h.next, 0, none⟩) (n + m) BIG) v' ∧ Go E σ h w τ h' w' := by
  unfold appNew at hh
  obtain ⟨rows, h2, hlen, hrows⟩ := rowsOf_ok (P := P) (E := E) hh
  obtain ⟨hsm, h3⟩ := bT_inv h2
  obtain ⟨hby, h4⟩ := bT_inv h3
  have hsm : (n + m) * 65536 ≤ 140737488355328 := Nat.le_of_ble_eq_true hsm
  have hby := Nat.le_of_ble_eq_true hby
  rw [forceN_eq, app_eq] at h4
  have hmk := h4
  unfold mkRows at hmk
  rw [newB_eq, len_eq, List.length_append, hlen, hnl, hn1] at hmk
  refine ⟨rows, _, hmk, rfl, hlen, hrows, fun σ w a' c' bx' mx' hr hv hvx fre hlt => ?_⟩
  have hr1 : HR E σ h { w with drawn := w.drawn + 1 } := hr.drawn _
  obtain ⟨hr2, lo, hfo, hco, -⟩ := hrows σ _ _ hr1 hv
  obtain ⟨hr3, ln, hfn, hcn⟩ := hx σ _ _ hr1 hvx
  obtain ⟨cp, q, rest, hcp, hrest, hrun⟩ := append_new (ty := ty) ok hse hu hlt hsm hby hfo hfn
  obtain ⟨hun, hsz, hne, -⟩ := sliceElem_ok ok hse
  have hfl1 := flatten_length hr2
  have hfl2 := flatten_length hr3
  have hlo := hco.1.1
  have hln := hcn.1.1
  have hrow : ∀ row ∈ rows ++ new, row.length = e.sz := fun row hm => (List.mem_append.1 hm).elim (hr2 row) (hr3 row)
  have hsub : Go E σ h w σ h1 w := go_sub hr hn1 hs
  have hdr : Go E σ h1 w σ h1 { w with drawn := q } := Go.drawn hsub.hr q
  have harr : (⟨lo⟩ ++ ⟨ln⟩ ++ rest : Array Value).toList = lo ++ ln ++ rest.toList := by simp
  have hll : (rows ++ new).length * e.sz = lo.length + ln.length := by
    rw [List.length_append, Nat.add_mul, ← hfl1, ← hfl2, hlo, hln]
  have hasz : (⟨lo⟩ ++ ⟨ln⟩ ++ rest : Array Value).size = lo.length + ln.length + (cp - (n + m)) * e.sz := by
    rw [← Array.length_toList, harr]; simp [hrest]; omega
  have hcpz : cp * e.sz = lo.length + ln.length + (cp - (n + m)) * e.sz := by
    rw [← hll, List.length_append, hlen, hnl, ← Nat.add_mul]; congr 1; omega
  obtain ⟨h7, h8⟩ := mkRows_go (E := E) (e := e.e) (g := true) (es := e.sz) (L := rows ++ new) (n := n + m) (cap := BIG) (arr := ⟨lo⟩ ++ ⟨ln⟩ ++ rest) (κ := cp) (capc := cp) (h := h1) (hdr.hr) (by rw [hn1]; exact fre _ (Nat.le_refl _) (by omega)) hrow
    (by rw [hll, hasz]; omega)
    (by
      rw [hll, harr, List.take_append_of_le_length (by simp), List.take_of_length_le (by simp), List.flatten_append]
      exact hco.append hcn)
    (fun _ => ⟨by rw [hasz, hcpz]; exact Nat.le_refl _, by rw [List.length_append, hlen, hnl]; exact hcp⟩)
    (.inr ⟨Nat.le_refl _, hcp, _, _, _, Sg.add_self .., by omega⟩)
  rw [len_eq, List.length_append, hlen, hnl, hn1] at h7
  rw [hn1] at h8
  exact ⟨_, _, _, hrun, h8, (hsub.trans hdr).trans h7⟩
end Go.Ev
set_option linter.unusedVariables false
namespace Go.Ev
variable {P : Program} {E : Env} {M : MN} {r : Res} {F : FF}

theorem store_rows {p : Addr} {vs : List Value} {arr : Array Value} {e : TypeId} {w : World} (hs : p.spot = none) (hw : w.heap[p.block]? = some (.cells arr e (0, 0))) (hfit : p.off + vs.length ≤ arr.size) (hsc : ∀ v ∈ vs, Sc v) :
    (storeCells p vs).run P w = .ok () { w with heap := w.heap.setIfInBounds p.block (.cells (arr.toList.take p.off ++ vs ++ arr.toList.drop (p.off + vs.length)).toArray e (0, 0)) } := by
  have ha' : p = ⟨p.block, p.off, none⟩ := by rw [← hs]
  have hrun := run_storeCells_at (P := P) p.block p.off e vs 0 arr w hw hfit (fun v hv => oneCell_of_sc (hsc v hv))
  rw [← ha', setRow_eq hw] at hrun
  exact hrun

theorem CL.sc' {σ : Sg} {l l' : List Value} (h : CL σ l l') : ∀ v ∈ l', Sc v := fun v hv => by
  obtain ⟨i, hi, he⟩ := List.getElem_of_mem hv
  have hi' : i < l.length := by have := h.1.1; omega
  have := h.1.2 i _ _ (List.getElem?_eq_getElem hi') (List.getElem?_eq_getElem hi)
  rw [← he]; exact this.sc (h.2 _ (List.getElem_mem hi'))

theorem appendE_ok (ok : EnvOK P E) {t u ty : TypeId} {d : TypeId} (hu : under E u = some (.slice d)) {h : Heap} {s x : Value} {f : KH} (hh : appendE (sliceElem E t) h s x f = some r) :
    ∃ v h', f v h' = some r ∧ h.next ≤ h'.next ∧ AppSem P E t u ty s x h v h' := by
  unfold appendE at hh
  obtain ⟨e, hse, h1⟩ := oS_inv hh
  obtain ⟨bx, m, mx, ex, h2⟩ := vSlice_inv h1
  obtain ⟨base, n, cap, es, h3⟩ := vSlice_inv h2
  subst ex es
  obtain ⟨new, h4, hnl, hnew⟩ := rowsOf_ok (P := P) (E := E) h3
  obtain ⟨hun, hsz, hne, -⟩ := sliceElem_ok ok hse
  rw [bI_eq] at h4
  have hnew' : ∀ σ w v', HR E σ h w → VR σ (.slice bx m mx) v' → (∀ row ∈ new, row.length = e.sz) ∧ ∃ l', (Builtin.firstCells e.sz m v').run P w = .ok ⟨l'⟩ w ∧ CL σ new.flatten l' := fun σ w v' hr hv => by
    obtain ⟨h5, l', h6, h7, _⟩ := hnew σ w v' hr hv
    exact ⟨h5, l', h6, h7⟩
  -- within the capacity
  have inPlace : ∀ {a : Addr} {h' : Heap}, base = some a → appIn e h a n m cap new f = some r → (∀ σ w a' c', HR E σ h w → VR σ (.slice (some a) n cap) (.slice a' n c') → n + m ≤ c' ∧ (BIG ≤ cap → True)) →
      ∃ v h', f v h' = some r ∧ h.next ≤ h'.next ∧ AppSem P E t u ty (.slice base n cap) (.slice bx m mx) h v h' := fun {a h'} hb hin hle => by
    subst hb
    obtain ⟨h2', hf, hn, hgo⟩ := appIn_ok (P := P) (E := E) hin
    refine ⟨_, h2', hf, by omega, fun σ w s' x' hr hs hx _ => ?_⟩
    obtain ⟨a', c', rfl⟩ := slice_shape hs
    obtain ⟨bx', mx', rfl⟩ := slice_shape hx
    obtain ⟨hrow, l', hfc, hcl⟩ := hnew' σ w _ hr hx
    have hle' := (hle σ w a' c' hr hs).1
    cases hs with
    | slice ha hc =>
      rename_i p'
      obtain ⟨w', hst, hg⟩ := hgo σ w p' l' hr ha hrow hcl
      refine ⟨_, w', σ, append_in ok hse hu hle' hfc hst, .slice ha ?_, hg⟩
      rcases hc with ⟨h5, h6⟩ | ⟨h5, h6, h7⟩
      · exact .inl ⟨h5, h6⟩
      · exact .inr ⟨h5, hle', h7⟩
  split at h4
  · rename_i hb
    have hb := Nat.le_of_ble_eq_true hb
    obtain ⟨a, ea, h5⟩ := oS_inv h4
    subst ea
    obtain ⟨hsp, h6⟩ := noSpot_inv h5
    obtain ⟨N, t0, g, es, c, hblk, h7⟩ := cBlk_inv h6
    obtain ⟨hg, h8⟩ := bT_inv h7
    obtain ⟨hes, h9⟩ := bT_inv h8
    obtain ⟨hoff, h10⟩ := bT_inv h9
    have hes := Nat.eq_of_beq_eq_true hes
    have hoff : a.off = (cap - BIG) * es := Nat.eq_of_beq_eq_true hoff
    subst hes hg
    -- what the capacity is
    have hcap : ∀ {σ : Sg} {w : World} {a' : Option Addr} {c' : Nat}, HR E σ h w → VR σ (.slice (some a) n cap) (.slice a' n c') → ∃ p' b κ arr, a' = some p' ∧ AR σ a p' ∧ σ.ρ a.block = some (p'.block, b, κ) ∧ p'.off = b + a.off ∧ p'.spot = none ∧
        w.heap[p'.block]? = some (.cells arr t0 (0, 0)) ∧ b + κ * e.sz ≤ arr.size ∧ N ≤ κ ∧ c' + (cap - BIG) = κ ∧ n ≤ c' := fun {σ w a' c'} hr hv => by
      cases hv with
      | slice ha hc =>
        rcases hc with ⟨hc, _⟩ | ⟨_, hn, b, bs, κ, h11, h12⟩
        · omega
        · obtain ⟨bs2, κ2, arr, h13, h14, h15, h16, h17, _, h18⟩ := block_of hr ha hblk
          rw [h11] at h13; cases h13
          exact ⟨_, bs, κ, arr, rfl, ha, h11, h14, h15, h16, (h18 rfl).1, (h18 rfl).2, h12, hn⟩
    rw [bI_eq] at h10
    split at h10
    · rename_i hM
      have hM : cap - BIG + (n + m) ≤ N := Nat.le_of_ble_eq_true hM
      refine inPlace (h' := h) rfl h10 fun σ w a' c' hr hv => ⟨?_, fun _ => trivial⟩
      obtain ⟨p', b, κ, arr, _, _, _, _, _, _, _, h18, h19, _⟩ := hcap hr hv
      omega
    · obtain ⟨ht, h11⟩ := bT_inv h10
      have ht := Nat.eq_of_beq_eq_true ht
      subst ht
      have hsub : ∀ k B, (⟨h.next, h.b.put none a.block⟩ : Heap).b.get k = some B → h.b.get k = some B := fun k B hk => by
        rcases Tr.get_put _ _ _ _ hk with ⟨_, e1⟩ | ⟨_, h12⟩
        · cases e1
        · exact h12
      obtain ⟨rows, h', hf, hh', hrl, hrows, hgo⟩ := appNew_ok (ty := ty) ok hse hu h11 rfl hsub hnl hnew'
      subst hh'
      refine ⟨_, _, hf, Nat.le_succ _, fun σ w s' x' hr hs hx fre => ?_⟩
      obtain ⟨a', c', rfl⟩ := slice_shape hs
      obtain ⟨bx', mx', rfl⟩ := slice_shape hx
      by_cases hlt : c' < n + m
      · exact hgo σ w a' c' bx' mx' hr hs hx fre hlt
      · obtain ⟨p', b, κ, arr, rfl, ha, hρ, hpo, hps, hw, hk1, hk2, hk3, hk4⟩ := hcap hr hs
        obtain ⟨hr2, lo, hfo, hco, hlo⟩ := hrows σ w _ hr hs
        obtain ⟨hr3, ln, hfn, hcn⟩ := hnew' σ w _ hr hx
        have hlo := hlo p' n c' arr e.e (0, 0) rfl hw
        have hfl1 := flatten_length hr2
        have hfl2 := flatten_length hr3
        have hll := hcn.1.1
        have hl1 := hco.1.1
        rw [hfl2, hnl] at hll
        rw [hfl1, hrl] at hl1
        have hspace : p'.off + c' * e.sz ≤ arr.size := by
          have e1 : κ * e.sz = c' * e.sz + (cap - BIG) * e.sz := by rw [← hk3, Nat.add_mul]
          omega
        have hnm : (n + m) * e.sz ≤ c' * e.sz := Nat.mul_le_mul_right _ (by omega)
        rw [Nat.add_mul] at hnm
        have hadd := ha.add (n * e.sz)
        have hst := store_rows (P := P) (p := p'.add (n * e.sz)) (vs := ln) (w := w) (arr := arr) (e := e.e) (by rw [hadd]) (by rw [hadd]; exact hw) (by rw [hadd]; show p'.off + n * e.sz + ln.length ≤ arr.size; omega) hcn.sc'
        rw [hadd] at hst
        have hst' : (storeCells (p'.add (n * e.sz)) ln).run P w = .ok () { w with heap := w.heap.setIfInBounds p'.block (.cells (arr.toList.take (p'.off + n * e.sz) ++ ln ++ arr.toList.drop (p'.off + n * e.sz + ln.length)).toArray e.e (0, 0)) } := by rw [hadd]; exact hst
        refine ⟨_, _, σ.add h.next p'.block p'.off c', append_in ok hse hu (by omega) hfn hst', .slice ⟨_, _, _, Sg.add_self .., rfl, ?_⟩ (.inr ⟨Nat.le_refl _, by omega, _, _, _, Sg.add_self .., by omega⟩), ?_⟩
        · obtain ⟨pb, po, ps⟩ := p'
          simp only at hps
          subst hps; rfl
        · have hL : (rows ++ new).length = n + m := by rw [List.length_append, hrl, hnl]
          have hbr := rows_BR (E := E) (σ := σ) (τ := σ.add h.next p'.block p'.off c') (e := e.e) (g := true) (es := e.sz) (L := rows ++ new) (base := p'.off) (κ := c')
            (arr := (arr.toList.take (p'.off + n * e.sz) ++ ln ++ arr.toList.drop (p'.off + n * e.sz + ln.length)).toArray) (fun row hm => (List.mem_append.1 hm).elim (hr2 row) (hr3 row))
            (by rw [hL, Nat.add_mul]; simp; omega)
            (by
              rw [hL, List.flatten_append]
              have : ((arr.toList.take (p'.off + n * e.sz) ++ ln ++ arr.toList.drop (p'.off + n * e.sz + ln.length)).toArray.toList.drop p'.off).take ((n + m) * e.sz) = lo ++ ln := by
                rw [List.toList_toArray, List.append_assoc, List.drop_append_of_le_length (by simp; omega), List.drop_take, show p'.off + n * e.sz - p'.off = n * e.sz from by omega, ← hlo, ← List.append_assoc,
                  List.take_append_of_le_length (by rw [Nat.add_mul]; simp; omega), List.take_of_length_le (by rw [Nat.add_mul]; simp; omega)]
              rw [this]
              exact hco.append hcn)
            (Sg.add_ext (fre _ (Nat.le_refl _) (Nat.lt_succ_self _))) (fun _ => ⟨by simp; omega, by omega⟩)
          rw [len_eq, hL] at hbr
          exact go_reuse hr (fre _ (Nat.le_refl _) (Nat.lt_succ_self _)) hblk rfl hρ rfl hbr
  · rename_i hb
    have hb : cap < BIG := by
      rcases Nat.lt_or_ge cap BIG with h1 | h1
      · exact h1
      · exact absurd (Nat.ble_eq_true_of_le h1) hb
    have hc : ∀ {σ : Sg} {a' : Option Addr} {c' : Nat}, VR σ (.slice base n cap) (.slice a' n c') → c' = cap := fun hv => by
      cases hv with
      | nilSlice => rfl
      | slice hp hc => rcases hc with ⟨_, e⟩ | ⟨hc, _⟩ <;> first | exact e | omega
    rw [bI_eq] at h4
    split at h4
    · rename_i hle
      have hle : n + m ≤ cap := Nat.le_of_ble_eq_true hle
      cases m with
      | zero =>
        rw [nC_zero] at h4
        refine ⟨_, h, h4, Nat.le_refl _, fun σ w s' x' hr hs hx _ => ?_⟩
        obtain ⟨a', c', rfl⟩ := slice_shape hs
        obtain ⟨bx', mx', rfl⟩ := slice_shape hx
        obtain ⟨hrow, l', hfc, hcl⟩ := hnew' σ w _ hr hx
        have hl0 : l' = [] := by
          have := hcl.1.1
          rw [flatten_length hrow, hnl, Nat.zero_mul] at this
          exact List.length_eq_zero_iff.1 this.symm
        subst hl0
        refine ⟨_, w, σ, append_in ok hse hu (by rw [hc hs]; exact hle) hfc ?_, hs, Go.refl hr⟩
        cases a' with
        | none => rfl
        | some p => simp [storeCells]
      | succ m =>
        rw [nC_succ] at h4
        obtain ⟨a, ea, h5⟩ := oS_inv h4
        exact inPlace (h' := h) ea h5 fun σ w a' c' hr hv => ⟨by subst ea; rw [hc hv]; exact hle, fun _ => trivial⟩
    · rename_i hle
      have hle : ¬ n + m ≤ cap := fun e => hle (Nat.ble_eq_true_of_le e)
      obtain ⟨rows, h', hf, hh', hrl, hrows, hgo⟩ := appNew_ok (ty := ty) ok hse hu h4 rfl (fun _ _ hk => hk) hnl hnew'
      subst hh'
      refine ⟨_, _, hf, Nat.le_succ _, fun σ w s' x' hr hs hx fre => ?_⟩
      obtain ⟨a', c', rfl⟩ := slice_shape hs
      obtain ⟨bx', mx', rfl⟩ := slice_shape hx
      exact hgo σ w a' c' bx' mx' hr hs hx fre (by rw [hc hs]; omega)

theorem os_append (ok : EnvOK P E) (hM : M.ng = E.ng) {c : Call} {s x : Operand} {t u d : TypeId} (hc : c.callee = .builtin .append) (ha : c.args = #[s, x]) (ht : c.argTypes = #[t, u]) (hu : under E u = some (.slice d)) :
    OS P E M F (.call c) (xAppend (sliceElem E t) (po M s) (po M x)) := fun fr h f r hh => by
  obtain ⟨sv, h1, hs⟩ := evO_ok hM hh
  obtain ⟨xv, h2, hx⟩ := evO_ok hM h1
  obtain ⟨v, h', hf, hn, hap⟩ := appendE_ok (P := P) (ty := 0) ok hu h2
  refine ⟨v, h', hf, hn, fun _ σ w a hg hr hfr fre => ?_⟩
  obtain ⟨v', w', τ, hrun, h3, h4⟩ := hap σ w _ _ hr (hs σ a hg hfr) (hx σ a hg hfr) fre
  refine ⟨v', w', τ, does_value fun o ho => ?_, h3, h4⟩
  have e : ∀ ty, (Builtin.append_ #[t, u] ty #[a.eval s, a.eval x]).run P w = .ok v' w' := fun ty => hrun
  simp [execOp, ho, resolve, hc, ha, ht, invoke, builtin, e]
end Go.Ev
set_option linter.unusedVariables false
namespace Go.Ev
variable {P : Program} {E : Env} {M : MN} {r : Res} {F : FF}

/-! ## Comparisons -/
/-- A comparison that the machine makes through a type. -/
def EqIn (P : Program) (D : Nat) (t : TypeId) (g : (Bool → R) → R) (x y : Value) : Prop :=
  ∀ k r, g k = some r → ∃ b, k b = some r ∧ ∀ σ w x' y', VR σ x x' → VR σ y y' → (Op.equalIn D t x' y').run P w = .ok b w

theorem eqFs_ok (ok : EnvOK P E) {D : Nat} {ih : TypeId → Value → Value → (Bool → R) → R} (hi : ∀ t x y, EqIn P D t (ih t x y) x y) (xs ys : Cells) : ∀ (fs : List Field) (k : Bool → R) (r : Res), eqFs E ih fs xs ys k = some r →
    ∃ b, k b = some r ∧ ∀ σ w (xs' ys' : Array Value), CL σ xs xs'.toList → CL σ ys ys'.toList → (Op.eqFields D xs' ys' fs).run P w = .ok b w
  | [], k, r, h => ⟨true, h, fun σ w xs' ys' _ _ => by simp [Op.eqFields]⟩
  | f :: fs, k, r, h => by
    have h : bI (f.name == "_") none (partE (aggOf E f.type) f.offset xs fun a => partE (aggOf E f.type) f.offset ys fun b => ih f.type a b fun t => bI t (eqFs E ih fs xs ys k) (k false)) = some r := h
    rw [bI_eq] at h
    split at h
    · cases h
    · rename_i hn
      have hn : f.name ≠ "_" := fun e => hn (by rw [e]; rfl)
      obtain ⟨a, h1, ha⟩ := part_ok (P := P) ok h
      obtain ⟨b, h2, hb⟩ := part_ok (P := P) ok h1
      obtain ⟨c, h3, hc⟩ := hi _ _ _ _ _ h2
      rw [bI_eq] at h3
      cases c with
      | true =>
        obtain ⟨q, h4, hq⟩ := eqFs_ok ok hi xs ys fs k r h3
        refine ⟨q, h4, fun σ w xs' ys' hx hy => ?_⟩
        obtain ⟨a', h5, h6⟩ := ha σ xs' w hx
        obtain ⟨b', h7, h8⟩ := hb σ ys' w hy
        have h9 := hc σ w _ _ h6 h8
        simp only [Op.eqFields, if_pos hn, Sem.run_bind, h5, h7, h9, Result.andThen_ok, Bool.not_true, Bool.false_eq_true, if_false]
        exact hq σ w xs' ys' hx hy
      | false =>
        refine ⟨false, h3, fun σ w xs' ys' hx hy => ?_⟩
        obtain ⟨a', h5, h6⟩ := ha σ xs' w hx
        obtain ⟨b', h7, h8⟩ := hb σ ys' w hy
        have h9 := hc σ w _ _ h6 h8
        simp [Op.eqFields, if_pos hn, h5, h7, h9]

theorem eqF_int {q : IntKind} {a : Int} {y : Value} {k : Bool → R} (h : eqF (.int q a) y k = some r) : ∃ b, y = .int q b ∧ k (a == b) = some r := by
  obtain ⟨q', b, e, h1⟩ := vInt_inv (show vInt y (fun q' b => bT (Nat.beq (kindN q) (kindN q')) (k (eqI a b))) = some r from h)
  obtain ⟨h2, h3⟩ := bT_inv h1
  have := kindN_inj h2
  subst this
  rw [eqI_eq] at h3
  exact ⟨b, e, h3⟩
theorem eqF_bool {a : Bool} {y : Value} {k : Bool → R} (h : eqF (.bool a) y k = some r) : ∃ b, y = .bool b ∧ k (a == b) = some r := by
  obtain ⟨b, e, h1⟩ := vBool_inv (show vBool y (fun b => bI a (k b) (k (notB b))) = some r from h)
  rw [bI_eq, notB_eq] at h1
  refine ⟨b, e, ?_⟩
  cases a <;> cases b <;> exact h1

theorem eqTy_ok (ok : EnvOK P E) : ∀ (n D : Nat), n ≤ D → ∀ t x y, EqIn P D t (eqTy E n t x y) x y
  | 0, D, hD, t, x, y, k, r, h => by cases h
  | n + 1, 0, hD, t, x, y, k, r, h => by omega
  | n + 1, D + 1, hD, t, x, y, k, r, h => by
    have ih := eqTy_ok ok n D (by omega)
    change (match under E t with
    | some (.struct fs) => match E.cmp.get t with
      | some true => vAgg x fun xs => vAgg y fun ys => eqFs E (eqTy E n) fs.toList xs ys k
      | _ => none
    | some (.int _) => vInt x fun _ _ => eqF x y k
    | some .bool => vBool x fun _ => eqF x y k
    | _ => none) = some r at h
    split at h
    · rename_i fs hu
      split at h
      · rename_i hcmp
        obtain ⟨xs, e1, h1⟩ := vAgg_inv h
        obtain ⟨ys, e2, h2⟩ := vAgg_inv h1
        subst e1 e2
        obtain ⟨b, h3, h4⟩ := eqFs_ok ok ih _ _ _ _ _ h2
        refine ⟨b, h3, fun σ w x' y' hx hy => ?_⟩
        obtain ⟨xs', ex, hxc⟩ := hx.agg_inv
        obtain ⟨ys', ey, hyc⟩ := hy.agg_inv
        subst ex ey
        have hun := under_ok ok hu
        have hf : P.fieldsOf t = fs := by simp [Program.fieldsOf, hun]
        rw [run_equalIn_struct w D t xs' ys' (by rw [hf]; exact hun) (ok.cmp t hcmp).2, hf]
        exact h4 σ w xs' ys' hxc hyc
      · cases h
    · rename_i q hu
      obtain ⟨q', a, e1, h1⟩ := vInt_inv h
      subst e1
      obtain ⟨b, e2, h2⟩ := eqF_int h1
      subst e2
      refine ⟨_, h2, fun σ w x' y' hx hy => ?_⟩
      rw [hx.int_inv, hy.int_inv]
      exact run_equalIn_int w D t _ _ _ _ (under_ok ok hu)
    · rename_i hu
      obtain ⟨a, e1, h1⟩ := vBool_inv h
      subst e1
      obtain ⟨b, e2, h2⟩ := eqF_bool h1
      subst e2
      refine ⟨_, h2, fun σ w x' y' hx hy => ?_⟩
      rw [hx.bool_inv, hy.bool_inv]
      exact run_equalIn_bool' w D t _ _ (under_ok ok hu)
    · cases h

theorem eqNil_inv {a b : Option Addr} {k : Bool → R} (h : eqNil a b k = some r) : (a = none ∧ k b.isNone = some r) ∨ (a.isSome = true ∧ b = none ∧ k false = some r) := by
  cases a with
  | none => exact .inl ⟨rfl, by cases b <;> exact h⟩
  | some a =>
    cases b with
    | none => exact .inr ⟨rfl, rfl, h⟩
    | some b => cases h

theorem eqIn_nil_left {w : World} (d : Nat) {t e : TypeId} {b : Option Addr} {n c n' c' : Nat} (h : P.underlying t = some (.slice e)) : (Op.equalIn (d + 1) t (.slice none n c) (.slice b n' c')).run P w = .ok b.isNone w := by
  simp [Op.equalIn, run_underlying h]
theorem eqIn_nil_right {w : World} (d : Nat) {t e : TypeId} {a : Addr} {n c n' c' : Nat} (h : P.underlying t = some (.slice e)) : (Op.equalIn (d + 1) t (.slice (some a) n c) (.slice none n' c')).run P w = .ok false w := by
  simp [Op.equalIn, run_underlying h]
theorem eql_slices {w : World} {t : TypeId} {a b : Option Addr} {n c n' c' : Nat} : (binOp .eql t (.slice a n c) (.slice b n' c')).run P w = ((Op.equalIn 10000 t (.slice a n c) (.slice b n' c')).run P w).andThen fun b w' => .ok (.bool b) w' := by
  simp only [binOp]
  simp [Op.equal, Op.maxDepth]
theorem neq_slices {w : World} {t : TypeId} {a b : Option Addr} {n c n' c' : Nat} : (binOp .neq t (.slice a n c) (.slice b n' c')).run P w = ((Op.equalIn 10000 t (.slice a n c) (.slice b n' c')).run P w).andThen fun b w' => .ok (.bool (!b)) w' := by
  simp only [binOp]
  simp [Op.equal, Op.maxDepth]
theorem eqE_ok (ok : EnvOK P E) {t : TypeId} {x y : Value} {k : Bool → R} (h : eqE E (ekOf E t) x y k = some r) :
    ∃ b, k b = some r ∧ ∀ σ w x' y' (X Y : Operand), VR σ x x' → VR σ y y' → (eqGuard .eql t X Y x' y').run P w = .ok () w ∧ (eqGuard .neq t X Y x' y').run P w = .ok () w ∧
      (binOp .eql t x' y').run P w = .ok (.bool b) w ∧ (binOp .neq t x' y').run P w = .ok (.bool !b) w := by
  unfold ekOf at h
  split at h
  · rename_i q hu
    obtain ⟨q1, a, e1, h1⟩ := vInt_inv (show vInt x (fun q a => vInt y fun q' b => bT (Nat.beq (kindN q) (kindN q')) (k (eqI a b))) = some r from h)
    obtain ⟨q2, b, e2, h2⟩ := vInt_inv h1
    obtain ⟨h3, h4⟩ := bT_inv h2
    have := kindN_inj h3
    subst e1 e2 this
    refine ⟨_, h4, fun σ w x' y' X Y hx hy => ?_⟩
    rw [hx.int_inv, hy.int_inv, eqI_eq]
    refine ⟨guard_int _ _ _ _ _ _ _ _, guard_int _ _ _ _ _ _ _ _, ?_, ?_⟩ <;> simp [binOp, Op.intCmp, bne]
  · rename_i hu
    obtain ⟨a, e1, h1⟩ := vStr_inv (show vStr x (fun a => vStr y fun b => k (eqB a.data.toList b.data.toList)) = some r from h)
    obtain ⟨b, e2, h2⟩ := vStr_inv h1
    subst e1 e2
    rw [eqB_eq] at h2
    refine ⟨_, h2, fun σ w x' y' X Y hx hy => ?_⟩
    rw [hx.string_inv, hy.string_inv]
    refine ⟨by simp [eqGuard], by simp [eqGuard], ?_, ?_⟩ <;> simp [binOp, Op.stringOp, ByteArray.toList_eq]
  · rename_i e hu
    obtain ⟨a, n1, c1, e1, h1⟩ := vSlice_inv (show vSlice x (fun a _ _ => vSlice y fun b _ _ => eqNil a b k) = some r from h)
    obtain ⟨b, n2, c2, e2, h2⟩ := vSlice_inv h1
    subst e1 e2
    have hun := under_ok ok hu
    have hnil : ∀ {σ : Sg} {a a' : Option Addr} {n c c' : Nat}, VR σ (.slice a n c) (.slice a' n c') → a'.isNone = a.isNone := fun hv => by cases hv <;> rfl
    rcases eqNil_inv h2 with ⟨e1, h3⟩ | ⟨e1, e2, h3⟩
    · subst e1
      refine ⟨_, h3, fun σ w x' y' X Y hx hy => ?_⟩
      obtain ⟨a', c', rfl⟩ := slice_shape hx
      obtain ⟨b', c2', rfl⟩ := slice_shape hy
      have h4 := hnil hx
      rw [← hnil hy]
      cases a' with
      | some a' => cases h4
      | none => exact ⟨by simp [eqGuard], by simp [eqGuard], by rw [eql_slices, eqIn_nil_left 9999 hun]; rfl, by rw [neq_slices, eqIn_nil_left 9999 hun]; rfl⟩
    · subst e2
      refine ⟨_, h3, fun σ w x' y' X Y hx hy => ?_⟩
      obtain ⟨a', c', rfl⟩ := slice_shape hx
      obtain ⟨b', c2', rfl⟩ := slice_shape hy
      have h4 := hnil hx
      have h5 := hnil hy
      cases b' with
      | some b' => cases h5
      | none =>
        cases a' with
        | none => cases a <;> first | (cases e1; done) | (cases h4; done)
        | some a' => exact ⟨by simp [eqGuard], by simp [eqGuard], by rw [eql_slices, eqIn_nil_right 9999 hun]; rfl, by rw [neq_slices, eqIn_nil_right 9999 hun]; rfl⟩
  · rename_i fs hu
    split at h
    · rename_i hcmp
      obtain ⟨b, h1, h2⟩ := eqTy_ok (P := P) ok 50 10000 (by omega) t x y _ _ (show eqTy E 50 t x y k = some r from h)
      have hx0 : ∃ xs ys, x = .agg xs ∧ y = .agg ys := by
        have h3 : eqTy E (49 + 1) t x y k = some r := h
        change (match under E t with
          | some (.struct fs) => match E.cmp.get t with
            | some true => vAgg x fun xs => vAgg y fun ys => eqFs E (eqTy E 49) fs.toList xs ys k
            | _ => none
          | some (.int _) => vInt x fun _ _ => eqF x y k
          | some .bool => vBool x fun _ => eqF x y k
          | _ => none) = some r at h3
        rw [hu] at h3
        simp only [hcmp] at h3
        obtain ⟨xs, e1, h4⟩ := vAgg_inv h3
        obtain ⟨ys, e2, h5⟩ := vAgg_inv h4
        exact ⟨xs, ys, e1, e2⟩
      obtain ⟨xs, ys, rfl, rfl⟩ := hx0
      refine ⟨b, h1, fun σ w x' y' X Y hx hy => ?_⟩
      have h6 := h2 σ w x' y' hx hy
      obtain ⟨xs', rfl, hx⟩ := hx.agg_inv
      obtain ⟨ys', rfl, hy⟩ := hy.agg_inv
      refine ⟨run_eqGuard_agg w _ _ _ _ _ _ (ok.cmp t hcmp).1, run_eqGuard_agg w _ _ _ _ _ _ (ok.cmp t hcmp).1, ?_, ?_⟩
      · rw [run_eql_struct, h6]; rfl
      · rw [run_neq_struct, h6]; rfl
    · cases h
  · cases h
theorem bin_eql (ok : EnvOK P E) (t : TypeId) : BinOk P .eql t (eqlOp E (ekOf E t)) := fun x y f r hh => by
  obtain ⟨b, h1, h2⟩ := eqE_ok (P := P) ok hh
  rw [kBool_eq] at h1
  refine ⟨_, h1, fun σ w x' y' X Y hx hy => ⟨_, ?_, .bool _⟩⟩
  obtain ⟨g, _, h3, _⟩ := h2 σ w x' y' X Y hx hy
  simp [g, h3]
theorem bin_neq (ok : EnvOK P E) (t : TypeId) : BinOk P .neq t (neqOp E (ekOf E t)) := fun x y f r hh => by
  obtain ⟨b, h1, h2⟩ := eqE_ok (P := P) ok hh
  rw [kBool_eq, notB_eq] at h1
  refine ⟨_, h1, fun σ w x' y' X Y hx hy => ⟨_, ?_, .bool _⟩⟩
  obtain ⟨_, g, _, h3⟩ := h2 σ w x' y' X Y hx hy
  simp [g, h3]
theorem binE_ok (ok : EnvOK P E) (op : BinOp) (t : TypeId) : BinOk P op t (binE E t op) := by
  cases op
  · exact bin_add
  · exact bin_sub
  · exact bin_mul
  · exact bin_quo
  · exact bin_rem
  · exact bin_and
  · exact bin_or
  · exact bin_xor
  · exact bin_shl
  · exact bin_shr
  · exact bin_andNot
  · exact bin_eql ok t
  · exact bin_neq ok t
  · exact bin_lss
  · exact bin_leq
  · exact bin_gtr
  · exact bin_geq
end Go.Ev
set_option linter.unusedVariables false
namespace Go.Ev
variable {P : Program} {E : Env} {M : MN} {r : Res} {F : FF}

theorem bytesE_inv : ∀ {rows : List Cells} {f : List UInt8 → R}, bytesE rows f = some r → ∃ ns : List Nat, f (ns.map UInt8.ofNat) = some r ∧ rows = ns.map fun n : Nat => [Value.int .u8 (n : Int)]
  | [], f, h => ⟨[], h, rfl⟩
  | c :: rows, f, h => by
    have h : lC c none (fun v l => bT (hasLen l 0) (vInt v fun k n => bT (Nat.beq (kindN k) 4) (natI n fun n => bytesE rows fun bs => f (UInt8.ofNat n :: bs)))) = some r := h
    cases c with
    | nil => cases h
    | cons v l =>
      rw [lC_cons] at h
      obtain ⟨hl, h1⟩ := bT_inv h
      obtain ⟨k, n, e, h2⟩ := vInt_inv h1
      obtain ⟨hk, h3⟩ := bT_inv h2
      obtain ⟨m, e2, h4⟩ := natI_inv h3
      obtain ⟨ns, h5, h6⟩ := bytesE_inv h4
      have hk : k = .u8 := kindN_inj hk
      have hl := hasLen_eq _ _ hl
      refine ⟨m :: ns, h5, ?_⟩
      subst e e2 hk h6
      rw [List.length_eq_zero_iff.1 hl]
      rfl
theorem bytes_fold : ∀ (ns : List Int) (s : ByteArray), ns.foldl (fun r n => r.push (UInt8.ofNat n.toNat)) s = ⟨⟨s.data.toList ++ ns.map fun n => UInt8.ofNat n.toNat⟩⟩
  | [], s => by simp
  | n :: ns, s => by
    rw [List.foldl_cons, bytes_fold ns]
    simp

theorem ck_int {s d : TypeId} {k : IntKind} (h : ckOf E s d = .int k) : under E d = some (.int k) ∧ ∃ q, under E s = some (.int q) := by
  unfold ckOf at h
  split at h
  · rename_i k' hd
    split at h
    · rename_i q hs; cases h; exact ⟨hd, q, hs⟩
    · cases h
  · split at h
    · split at h <;> cases h
    · cases h
  · cases h
theorem ck_bytes {s d : TypeId} (h : ckOf E s d = .bytes) : under E d = some .string ∧ ∃ e, under E s = some (.slice e) ∧ under E e = some (.int .u8) := by
  unfold ckOf at h
  split at h
  · split at h <;> cases h
  · rename_i hd
    split at h
    · rename_i e hs
      split at h
      · rename_i he; exact ⟨hd, e, hs, he⟩
      · cases h
    · cases h
  · cases h
theorem os_conv (ok : EnvOK P E) (hM : M.ng = E.ng) (s d : TypeId) (x : Operand) : OS P E M F (.convert s d x) (xConv (ckOf E s d) (po M x)) := os_quiet fun fr h f r hh => by
  obtain ⟨v, h1, hv⟩ := evO_ok hM hh
  cases hc : ckOf E s d with
  | none => rw [hc] at h1; cases h1
  | int k =>
    rw [hc] at h1
    obtain ⟨hd, q, hs⟩ := ck_int hc
    obtain ⟨k', n, e, h2⟩ := vInt_inv (show vInt v (fun _ n => kInt k (fun v => f v h) (wrapE k n)) = some r from h1)
    subst e
    rw [kInt_eq] at h2
    refine ⟨_, h2, fun σ w a ha hr hfr => ⟨_, fun o ho => ?_, .int _ _⟩⟩
    simp [execOp, ho, convert, run_under ok hs, run_under ok hd, (hv σ a ha hfr).int_inv, Conv.intToInt, wrapE_eq]
  | bytes =>
    rw [hc] at h1
    obtain ⟨hd, e, hs, he⟩ := ck_bytes hc
    obtain ⟨b, n, c, e1, h2⟩ := vSlice_inv (show vSlice v (fun _ n _ => rowsOf 1 h v n fun rs => bytesE rs fun bs => f (.string ⟨⟨bs⟩⟩) h) = some r from h1)
    subst e1
    obtain ⟨rows, h3, hrl, hrows⟩ := rowsOf_ok (P := P) (E := E) h2
    obtain ⟨ns, h4, h5⟩ := bytesE_inv h3
    refine ⟨_, h4, fun σ w a ha hr hfr => ⟨_, fun o ho => ?_, .string _⟩⟩
    have hvr := hv σ a ha hfr
    obtain ⟨b', c', he'⟩ := slice_shape hvr
    rw [he'] at hvr
    obtain ⟨_, l', hfc, hcl, _⟩ := hrows σ w _ hr hvr
    have hl' : l' = ns.map fun n : Nat => Value.int .u8 (n : Int) := by
      have hfl : rows.flatten = ns.map fun n : Nat => Value.int .u8 (n : Int) := by
        rw [h5]; clear h5 h3 h4 hrl hrows
        induction ns with
        | nil => rfl
        | cons n ns ih => simpa using ih
      rw [hfl] at hcl
      apply List.ext_getElem?
      intro i
      cases hi : (ns.map fun n : Nat => Value.int .u8 (n : Int))[i]? with
      | none =>
        rw [List.getElem?_eq_none_iff] at hi ⊢
        have := hcl.1.1; omega
      | some y =>
        obtain ⟨y', h6, h7⟩ := hcl.1.get hi
        rw [h6]
        rw [List.getElem?_map] at hi
        cases hn : ns[i]? with
        | none => rw [hn] at hi; cases hi
        | some m => rw [hn] at hi; cases hi; rw [h7.int_inv]
    have hun : (convert s d (.slice b' n c')).run P w = (Conv.bytesToString (.slice b' n c')).run P w := by
      simp [convert, run_under ok hs, run_under ok hd, run_under ok he]
    cases b' with
    | none =>
      have hn0 : ns = [] := by
        have h6 : (Builtin.firstCells 1 n (.slice none n c')).run P w = .ok #[] w := by simp [Builtin.firstCells]
        rw [hfc] at h6
        cases h6
        cases ns with
        | nil => rfl
        | cons => cases hl'
      subst hn0
      simp [execOp, ho, he', hun, Conv.bytesToString]
      rfl
    | some p =>
      have hlc : (loadCells p n).run P w = .ok ((ns.map fun n : Nat => (n : Int)).map (Value.int .u8)).toArray w := by
        have h6 : (Builtin.firstCells 1 n (.slice (some p) n c')).run P w = (loadCells p n).run P w := by simp [Builtin.firstCells]
        rw [← h6, hfc, hl']
        simp
      have := run_bytesToString w p n c' _ hlc
      rw [bytes_fold] at this
      simp [execOp, ho, he', hun, this, Function.comp_def]

theorem os_call (hF : FFOK P E F) (hM : M.ng = E.ng) {c : Call} {g : Operand} (hc : c.callee = .value g) : OS P E M F (.call c) (xCall F (po M g) (c.args.toList.map (po M))) := fun fr h f r hh => by
  obtain ⟨gv, h1, hg⟩ := evO_ok hM hh
  obtain ⟨vs, h2, hvs⟩ := evL_ok hM h1
  obtain ⟨fn, first, cap, e, h3⟩ := vFunc_inv h2
  subst e
  obtain ⟨v, h', h4, h5⟩ := rVal_inv h3
  obtain ⟨hle, hF⟩ := hF _ _ _ _ _ _ h4
  refine ⟨v, h', h5, hle, fun _ σ w a ha hr hfr fre => ?_⟩
  obtain ⟨fn', f1, c1, he, hfn, hf1, hc1⟩ := (hg σ a ha hfr).func_inv
  have hargs : LR σ (app first.toList vs) (f1.toList ++ c.args.toList.map a.eval) := by rw [app_eq]; exact hf1.append (hvs σ a ha hfr)
  obtain ⟨nx, w₁, v', w', τ, h6, h7, h8, h9⟩ := hF σ w fn' _ c1.toList ha hr hfn hargs hc1 fre
  refine ⟨v', w', τ, fun o ho => ⟨nx, w₁, ?_, h7⟩, h8, h9⟩
  rw [← h6]
  simp only [execOp, ho, resolve, hc, he, Deferred.ofValue]
  have e : (f1 ++ c.args.map a.eval : Array Value) = ⟨f1.toList ++ c.args.toList.map a.eval⟩ := by apply Array.ext'; simp
  simp [e]
end Go.Ev
set_option linter.unusedVariables false
namespace Go.Ev
variable {P : Program} {E : Env} {M : MN} {r : Res} {F : FF}

theorem fold_set_get : ∀ (vs : List Value) (i : Nat) (off : Nat) (cs : Array Value) (k : Nat), off + i + vs.length ≤ cs.size →
    ((vs.zipIdx i).foldl (fun cs (p : Value × Nat) => cs.setIfInBounds (off + p.2) p.1) cs)[k]? = if off + i ≤ k ∧ k < off + i + vs.length then vs[k - (off + i)]? else cs[k]?
  | [], i, off, cs, k, h => by
    rw [if_neg (by simp)]; rfl
  | v :: vs, i, off, cs, k, h => by
    rw [List.zipIdx_cons, List.foldl_cons, fold_set_get vs (i + 1) off _ k (by simp at h ⊢; omega)]
    simp only [List.length_cons] at h ⊢
    by_cases h1 : off + i = k
    · subst h1
      rw [if_neg (by omega), if_pos (by omega), Nat.sub_self, Array.getElem?_setIfInBounds_self_of_lt (by omega)]
      rfl
    · by_cases h2 : off + (i + 1) ≤ k ∧ k < off + (i + 1) + vs.length
      · rw [if_pos h2, if_pos (by omega), show k - (off + i) = (k - (off + (i + 1))) + 1 from by omega]
        simp
      · rw [if_neg h2, if_neg (by omega)]
        simp [Array.getElem?_setIfInBounds, h1]
theorem fold_set_size : ∀ (vs : List (Value × Nat)) (off : Nat) (cs : Array Value), (vs.foldl (fun cs (p : Value × Nat) => cs.setIfInBounds (off + p.2) p.1) cs).size = cs.size
  | [], off, cs => rfl
  | v :: vs, off, cs => by rw [List.foldl_cons, fold_set_size vs]; simp

/-- A part that is put. -/
theorem put_CL {σ : Sg} {l c : Cells} {off : Nat} {u : Value} {cells : Array Value} (hl : CL σ l u.cells.toList) (hc : CL σ c cells.toList) (hfit : off + l.length ≤ c.length) :
    CL σ (putAt l off c) (u.cells.zipIdx.foldl (fun cs (p : Value × Nat) => cs.setIfInBounds (off + p.2) p.1) cells).toList := by
  have h1 := hl.1.1
  have h2 := hc.1.1
  have hu : u.cells.size = l.length := by rw [h1]; simp
  have hcs : cells.size = c.length := by rw [h2]; simp
  rw [← Array.foldl_toList, Array.toList_zipIdx]
  refine ⟨⟨?_, fun i x y hx hy => ?_⟩, fun x hx => ?_⟩
  · exact (putAt_length hfit).trans (hcs.symm.trans (fold_set_size _ _ _).symm)
  · rw [putAt_get hfit] at hx
    rw [Array.getElem?_toList, fold_set_get _ 0 off _ _ (by simp; omega)] at hy
    simp only [Nat.add_zero] at hy
    rw [← h1] at hy
    split at hx
    · rename_i hi
      rw [if_pos hi] at hy
      exact hl.1.2 _ _ _ hx hy
    · rename_i hi
      rw [if_neg hi] at hy
      exact hc.1.2 _ _ _ hx (by simpa using hy)
  · rw [putAt_eq] at hx
    rcases List.mem_append.1 hx with hx | hx
    · rcases List.mem_append.1 hx with hx | hx
      · exact hc.2 _ (List.mem_of_mem_take hx)
      · exact hl.2 _ hx
    · exact hc.2 _ (List.mem_of_mem_drop hx)

theorem fillE_ok {place : Nat → Option (Nat × Nat)} : ∀ {ps : List Nat} {vs : List Value} {c : Cells} {f : Cells → R}, fillE place ps vs c f = some r →
    ∃ l, f l = some r ∧ ∀ σ (cells : Array Value) (us : List Value), CL σ c cells.toList → LR σ vs us → us.length = ps.length → ∃ out, Instr.fill place cells (ps.zip us) = some out ∧ CL σ l out.toList
  | [], vs, c, f, h => ⟨c, h, fun σ cells us hc _ _ => ⟨cells, by simp [Instr.fill], hc⟩⟩
  | i :: ps, vs, c, f, h => by
    have h : lC vs none (fun v vs => oS (place i) fun q => flatK v fun l => bT (hasLen l q.2) (bT (Nat.ble (Nat.add q.1 q.2) (len c)) (fillE place ps vs (putAt l q.1 c) f))) = some r := h
    cases vs with
    | nil => cases h
    | cons v vs =>
      rw [lC_cons] at h
      obtain ⟨⟨qo, qs⟩, hq, h1⟩ := oS_inv h
      obtain ⟨l, h2, hl⟩ := flatK_inv h1
      obtain ⟨hlen, h3⟩ := bT_inv h2
      obtain ⟨hle, h4⟩ := bT_inv h3
      have hlen : l.length = qs := hasLen_eq _ _ hlen
      rw [len_eq] at hle
      have hle : qo + qs ≤ c.length := Nat.le_of_ble_eq_true hle
      obtain ⟨out, h5, h6⟩ := fillE_ok h4
      refine ⟨out, h5, fun σ cells us hc hvs hus => ?_⟩
      cases us with
      | nil => cases hus
      | cons u us =>
        have hv : VR σ v u := hvs.2 0 v u rfl rfl
        have htl : LR σ vs us := ⟨by have := hvs.1; simp at this; exact this, fun i x y hx hy => hvs.2 (i + 1) x y hx hy⟩
        have hlu := hl σ u hv
        have husz : u.cells.size = qs := by rw [← hlen, hlu.1.1]; simp
        have hcsz : cells.size = c.length := by rw [hc.1.1]; simp
        obtain ⟨o, h7, h8⟩ := h6 σ _ us (put_CL (off := qo) hlu hc (by omega)) htl (by simpa using hus)
        refine ⟨o, ?_, h8⟩
        rw [List.zip_cons_cons]
        unfold Instr.fill
        rw [hq]
        simp only
        rw [if_neg (by simp only [Bool.or_eq_true, decide_eq_true_eq, bne_iff_ne]; omega)]
        exact h7

theorem allPl_ok (ok : EnvOK P E) : ∀ {fs : List Field} {l : List (Nat × Nat)}, allPl E fs = some l → fs.mapM (fun f => (P.info? f.type).map fun i => (f.offset, i.size)) = some l
  | [], l, h => by cases h; rfl
  | f :: fs, l, h => by
    change (match szOf E f.type, allPl E fs with | some n, some l => some ((f.offset, n) :: l) | _, _ => none) = some l at h
    split at h
    · rename_i n m hn hm
      cases h
      obtain ⟨i, hi, hs⟩ := szOf_ok ok hn
      have := allPl_ok ok hm
      subst hs
      simp [List.mapM_cons, hi, this]
    · cases h
theorem zip_maps {ps : List (Nat × Operand)} {ev : Operand → Value} : (ps.map (·.1)).zip ((ps.map (·.2)).map ev) = ps.map fun p => (p.1, ev p.2) := by
  induction ps with
  | nil => rfl
  | cons p ps ih => rw [List.map_cons, List.map_cons, List.map_cons, List.zip_cons_cons, ih, List.map_cons]
theorem os_build (ok : EnvOK P E) (hM : M.ng = E.ng) (t : TypeId) (ps : Array (Nat × Operand)) : OS P E M F (.build t ps) (xBuild (placesOf E t) (zeroC E t) (ps.toList.map (·.1)) (ps.toList.map fun p => po M p.2)) := os_quiet fun fr h f r hh => by
  have hh : evL ((ps.toList.map (·.2)).map (po M)) fr (fun vs => oS (placesOf E t) fun place => oS (zeroC E t) fun z => fillE place (ps.toList.map (·.1)) vs z fun l => f (.agg ⟨l⟩) h) = some r := by
    rw [List.map_map]; exact hh
  obtain ⟨vs, h1, hvs⟩ := evL_ok hM hh
  obtain ⟨place, hp, h2⟩ := oS_inv h1
  obtain ⟨z, hz, h3⟩ := oS_inv h2
  obtain ⟨l, h4, h5⟩ := fillE_ok h3
  refine ⟨_, h4, fun σ w a ha hr hfr => ?_⟩
  obtain ⟨zv, hrun, hzc, hcl⟩ := zeroC_ok ok hz w
  obtain ⟨out, hfill, hout⟩ := h5 σ zv.cells _ (by rw [hzc]; exact hcl σ) (hvs σ a ha hfr) (by simp)
  rw [zip_maps] at hfill
  refine ⟨.agg out, fun o ho => ?_, ?_⟩
  · unfold placesOf at hp
    split at hp
    · rename_i fs hu
      split at hp
      · rename_i pl hpl
        cases hp
        have hf2 : Instr.fill (fun i => pl[i]?) zv.cells (ps.toList.map fun p => (p.1, a.eval p.2)) = some out := by
          rw [← hfill]; congr 1; funext i; rw [nth_eq]
        simp [execOp, ho, Instr.build, hrun, run_under ok hu, Array.mapM_eq_mapM_toList, run_places w _ _ (allPl_ok ok hpl), hf2]
      · cases hp
    · rename_i k e hu
      split at hp
      · rename_i n hn
        cases hp
        have hf2 : Instr.fill (fun i => some (i * n, n)) zv.cells (ps.toList.map fun p => (p.1, a.eval p.2)) = some out := hfill
        simp [execOp, ho, Instr.build, hrun, run_under ok hu, run_size ok hn, hf2]
      · cases hp
    · cases hp
  · exact hout.agg
end Go.Ev
set_option linter.unusedVariables false
namespace Go.Ev
variable {P : Program} {E : Env} {M : MN} {r : Res} {F : FF}

theorem take_flat {sz : Nat} : ∀ (i : Nat) {c : List Cells}, (∀ row ∈ c, row.length = sz) → (c.take i).flatten = c.flatten.take (i * sz)
  | 0, c, h => by simp
  | i + 1, [], h => by simp
  | i + 1, row :: c, h => by
    have h1 := h row List.mem_cons_self
    rw [List.take_succ_cons, List.flatten_cons, take_flat i (fun x hx => h x (List.mem_cons_of_mem _ hx)), List.flatten_cons, Nat.add_mul, Nat.one_mul, List.take_append, List.take_of_length_le (l := row) (by omega)]
    congr 2
    omega
theorem drop_flat {sz : Nat} : ∀ (i : Nat) {c : List Cells}, (∀ row ∈ c, row.length = sz) → (c.drop i).flatten = c.flatten.drop (i * sz)
  | 0, c, h => by simp
  | i + 1, [], h => by simp
  | i + 1, row :: c, h => by
    have h1 := h row List.mem_cons_self
    rw [List.drop_succ_cons, drop_flat i (fun x hx => h x (List.mem_cons_of_mem _ hx)), List.flatten_cons, Nat.add_mul, Nat.one_mul, List.drop_append, List.drop_eq_nil_of_le (as := row) (by omega), List.nil_append]
    congr 1
    omega
theorem putAt_flat {sz : Nat} {l : Cells} {i : Nat} {c : List Cells} (hl : l.length = sz) (h : ∀ row ∈ c, row.length = sz) : (putAt [l] i c).flatten = putAt l (i * sz) c.flatten := by
  rw [putAt_eq, putAt_eq, List.flatten_append, List.flatten_append, take_flat i h, drop_flat _ h]
  simp [hl, Nat.add_mul]

theorem elemsOf_ok {sz : Nat} : ∀ {ps : List Nat} {vs : List Value} {c : List Cells} {f : List Cells → R}, elemsOf sz ps vs c f = some r →
    ∃ L, f L = some r ∧ L.length = c.length ∧ ((∀ row ∈ c, row.length = sz) → ∀ row ∈ L, row.length = sz) ∧ ∀ σ (cells : Array Value) (us : List Value), (∀ row ∈ c, row.length = sz) → CL σ c.flatten cells.toList → LR σ vs us → us.length = ps.length →
      ∃ out, Instr.fill (fun i => some (i * sz, sz)) cells (ps.zip us) = some out ∧ CL σ L.flatten out.toList
  | [], vs, c, f, h => ⟨c, h, rfl, fun h => h, fun σ cells us _ hc _ _ => ⟨cells, by simp [Instr.fill], hc⟩⟩
  | i :: ps, vs, c, f, h => by
    have h : lC vs none (fun v vs => flatK v fun l => bT (hasLen l sz) (bT (Nat.blt i (len c)) (elemsOf sz ps vs (putAt [l] i c) f))) = some r := h
    cases vs with
    | nil => cases h
    | cons v vs =>
      rw [lC_cons] at h
      obtain ⟨l, h2, hl⟩ := flatK_inv h
      obtain ⟨hlen, h3⟩ := bT_inv h2
      obtain ⟨hlt, h4⟩ := bT_inv h3
      have hlen : l.length = sz := hasLen_eq _ _ hlen
      rw [len_eq] at hlt
      have hlt := (blt_iff _ _).1 hlt
      obtain ⟨L, h5, h6, hrw, h7⟩ := elemsOf_ok h4
      have hpl : (putAt [l] i c).length = c.length := putAt_length (by simp; omega)
      have hrow : (∀ row ∈ c, row.length = sz) → ∀ row ∈ putAt [l] i c, row.length = sz := fun hc row hr => by
        rw [putAt_eq] at hr
        rcases List.mem_append.1 hr with hr | hr
        · rcases List.mem_append.1 hr with hr | hr
          · exact hc _ (List.mem_of_mem_take hr)
          · rw [List.mem_singleton.1 hr]; exact hlen
        · exact hc _ (List.mem_of_mem_drop hr)
      refine ⟨L, h5, h6.trans hpl, fun hc => hrw (hrow hc), fun σ cells us hc hcl hvs hus => ?_⟩
      cases us with
      | nil => cases hus
      | cons u us =>
        have hv : VR σ v u := hvs.2 0 v u rfl rfl
        have htl : LR σ vs us := ⟨by have := hvs.1; simp at this; exact this, fun i x y hx hy => hvs.2 (i + 1) x y hx hy⟩
        have hlu := hl σ u hv
        have husz : u.cells.size = sz := by rw [← hlen, hlu.1.1]; simp
        have hfl := flatten_length hc
        have hcsz : cells.size = c.length * sz := by rw [← hfl, hcl.1.1]; simp
        have hfit : i * sz + sz ≤ c.length * sz := by
          have : (i + 1) * sz ≤ c.length * sz := Nat.mul_le_mul_right sz hlt
          rw [Nat.add_mul, Nat.one_mul] at this; exact this
        obtain ⟨o, h8, h9⟩ := h7 σ _ us (hrow hc) (by rw [putAt_flat hlen hc]; exact put_CL (off := i * sz) hlu hcl (by rw [hfl, hlen]; exact hfit)) htl (by simpa using hus)
        refine ⟨o, ?_, h9⟩
        rw [List.zip_cons_cons]
        unfold Instr.fill
        simp only
        rw [if_neg (by simp only [Bool.or_eq_true, decide_eq_true_eq, bne_iff_ne]; omega)]
        exact h8

theorem os_buildSlice (ok : EnvOK P E) (hM : M.ng = E.ng) (t : TypeId) (n : Nat) (ps : Array (Nat × Operand)) :
    OS P E M F (.buildSlice t n ps) (xBuildSlice (sliceElem E t) n (ps.toList.map (·.1)) (ps.toList.map fun p => po M p.2)) := fun fr h f r hh => by
  have hh : evL ((ps.toList.map (·.2)).map (po M)) fr (fun vs => oS (sliceElem E t) fun e => bT (Nat.ble (Nat.mul n e.sz) 65536) (elemsOf e.sz (ps.toList.map (·.1)) vs (replC e.z n) fun l => mkRows h e.e false e.sz l f n n)) = some r := by
    rw [List.map_map]; exact hh
  obtain ⟨vs, h1, hvs⟩ := evL_ok hM hh
  obtain ⟨e, hse, h2⟩ := oS_inv h1
  obtain ⟨hle, h3⟩ := bT_inv h2
  have hle : n * e.sz ≤ 65536 := Nat.le_of_ble_eq_true hle
  obtain ⟨hun, hsz, hne, hz, hzl, -⟩ := sliceElem_ok ok hse
  obtain ⟨L, h4, hLl, hLr, h5⟩ := elemsOf_ok h3
  obtain ⟨h', h6, hn, h7⟩ := mkRows_ok (E := E) h4
  refine ⟨_, h', h6, by omega, fun _ σ w a ha hr hfr fre => ?_⟩
  obtain ⟨zv, hrun, hzc, hcl⟩ := zeroC_ok ok hz w
  have hzs : zv.cells.size = e.sz := by rw [← hzl, ← hzc]; simp
  have hflat : ((Array.range (n * e.sz)).map (zv.cells[· % zv.cells.size]!)).toList = (List.replicate n e.z).flatten := by
    have := zeroes_eq (z := zv.cells) (n := n)
    rw [hzc, hzs] at this
    rw [hzs]; exact this
  rw [replC_eq] at hLl hLr h5
  have hrows : ∀ row ∈ List.replicate n e.z, row.length = e.sz := fun row hrow => by rw [List.eq_of_mem_replicate hrow]; exact hzl
  have hLl : L.length = n := by simpa using hLl
  have hLr := hLr hrows
  obtain ⟨out, hfill, hout⟩ := h5 σ _ _ hrows (by rw [hflat]; exact flat_CL (hcl σ) n) (hvs σ a ha hfr) (by simp)
  have hosz : out.size = n * e.sz := by
    have h8 := hout.1.1
    rw [flatten_length hLr, hLl] at h8
    exact h8.symm
  have hnb : n < BIG := by
    have : 1 * n ≤ e.sz * n := Nat.mul_le_mul_right n (by omega)
    rw [Nat.mul_comm e.sz] at this
    unfold BIG; omega
  obtain ⟨h9, h10⟩ := h7 σ w out 0 n hr (fre _ (Nat.le_refl _) (by omega)) hLr (by rw [hLl, hosz]; exact Nat.le_refl _)
    (by rw [hLl, List.take_of_length_le (by rw [Array.length_toList, hosz]; exact Nat.le_refl _)]; exact hout) (fun e => by cases e) (.inl ⟨hnb, rfl⟩)
  refine ⟨_, _, _, does_value fun o ho => ?_, h10, h9⟩
  rw [zip_maps] at hfill
  have hle2 : ¬ (n * e.sz > 2 ^ 24) := by omega
  by_cases hn0 : n * e.sz = 0
  · have hm : ∀ g : Nat → Value, (Array.range 0).map g = #[] := fun g => by simp
    have hf0 : Instr.fill (fun i => some (i * e.sz, e.sz)) #[] (ps.toList.map fun p => (p.1, a.eval p.2)) = some out := by
      rw [← hfill, hn0, hm]
    simp [execOp, ho, Instr.buildSlice, run_under ok hun, run_size ok hsz, hn0, hm, hf0, newRow]
  · simp [execOp, ho, Instr.buildSlice, run_under ok hun, run_size ok hsz, hle2, hn0, hrun, hfill, newRow]
end Go.Ev
set_option linter.unusedVariables false
namespace Go.Ev
variable {P : Program} {E : Env} {M : MN} {r : Res} {F : FF}

theorem os_none {op : Op} : OS P E M F op (fun _ _ _ => none) := fun fr h f r hh => by cases hh

theorem isStr_inv {d : Option TypeDesc} (h : isStr d = true) : d = some .string := by
  unfold isStr at h; split at h
  · rfl
  · cases h
theorem isSl_inv {d : Option TypeDesc} (h : isSl d = true) : ∃ e, d = some (.slice e) := by
  unfold isSl at h; split at h
  · exact ⟨_, rfl⟩
  · cases h

theorem exec_builtin (ok : EnvOK P E) (hM : M.ng = E.ng) {c : Call} {b : Builtin} (hc : c.callee = .builtin b) : OS P E M F (.call c) (exec (readyB E M b c.args.toList c.argTypes.toList) F) := by
  have harg : ∀ {l : List Operand}, c.args.toList = l → c.args = l.toArray := fun h => by rw [← h]
  have hty : ∀ {l : List TypeId}, c.argTypes.toList = l → c.argTypes = l.toArray := fun h => by rw [← h]
  unfold readyB
  split
  · rename_i x t ha ht
    split
    · rename_i h1
      exact os_lenStr ok hM hc (harg ha) (hty ht) (isStr_inv h1)
    · rename_i h1 _
      obtain ⟨e, he⟩ := isSl_inv h1
      exact os_len ok hM hc (harg ha) (hty ht) he
    · exact os_none
  · rename_i x t ha ht
    split
    · rename_i h1
      obtain ⟨e, he⟩ := isSl_inv h1
      exact os_cap ok hM hc (harg ha) (hty ht) he
    · exact os_none
  · rename_i x y ts ha
    exact os_min hM hc (harg ha)
  · rename_i s x t u ha ht
    split
    · rename_i h1
      obtain ⟨e, he⟩ := isSl_inv h1
      exact os_append ok hM hc (harg ha) (hty ht) he
    · exact os_none
  · exact os_none

theorem exec_ok (ok : EnvOK P E) (hM : M.ng = E.ng) (hF : FFOK P E F) (op : Op) : OS P E M F op (exec (ready E M op) F) := by
  unfold ready
  split
  · exact os_move hM _
  · exact os_assign hM _
  · exact os_pick hM _ _ _
  · exact os_alloc ok _
  · exact os_box hM _ _
  · exact os_build ok hM _ _
  · exact os_buildSlice ok hM _ _ _
  · exact os_load ok hM _ _
  · exact os_store ok hM _ _ _
  · exact os_nil hM _
  · exact os_bin hM (binE_ok ok _ _) _ _ _
  · exact os_un hM _ _ _
  · exact os_conv ok hM _ _ _
  · exact os_func hM _ _ _
  · exact os_makeSlice ok hM _ _ _
  · split
    · rename_i h1
      exact os_strSlice ok hM _ _ _ _ (isStr_inv h1)
    · exact os_none
    · rename_i hn _
      refine os_slice ok hM _ _ _ _ _ (fun e => ?_)
      obtain ⟨m, hm⟩ := Option.isSome_iff_exists.1 e
      rw [Option.isSome_iff_ne_none]
      exact fun h => hn m hm h
  · exact os_fieldAddr ok hM _ _ _
  · exact os_field ok hM _ _ _
  · split
    · exact os_indexSl ok hM _ _ _
    · exact os_indexArr ok hM _ _ _
  · split
    · rename_i h1
      exact os_indexStr ok hM _ _ _ (isStr_inv h1)
    · exact os_none
  · exact os_extract hM _ _
  · split
    · rename_i h1
      exact exec_builtin ok hM h1
    · rename_i h1
      exact os_call hF hM h1
    · exact os_none
  · exact os_none
end Go.Ev
