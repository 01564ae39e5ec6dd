/- Rules for runs of the evaluator over what is not known. No condition. -/
import Derived.Test.YtphkjlkgfcjbmaaGreatDoorEvE
set_option linter.all false
set_option linter.unusedVariables false
namespace Go.Ev
/-- So that simp sees no equation by unfolding. -/
theorem nr {p : Prop} (h : p) : p := h
section
variable {α : Type}
@[congr] theorem cg_oS {x y : Option α} {f : α → R} (h : x = y) : oS x f = oS y f := h ▸ rfl
@[congr] theorem cg_oC {x y : Option α} {n : R} {f : α → R} (h : x = y) : oC x n f = oC y n f := h ▸ rfl
@[congr] theorem cg_bT {x y : Bool} {f : R} (h : x = y) : bT x f = bT y f := h ▸ rfl
@[congr] theorem cg_bI {x y : Bool} {f g : R} (h : x = y) : bI x f g = bI y f g := h ▸ rfl
@[congr] theorem cg_nC {x y : Nat} {z : R} {f : Nat → R} (h : x = y) : nC x z f = nC y z f := h ▸ rfl
@[congr] theorem cg_lC {x y : List α} {n : R} {f : α → List α → R} (h : x = y) : lC x n f = lC y n f := h ▸ rfl
@[congr] theorem cg_vInt {x y : Value} {f : IntKind → Int → R} (h : x = y) : vInt x f = vInt y f := h ▸ rfl
@[congr] theorem cg_vBool {x y : Value} {f : Bool → R} (h : x = y) : vBool x f = vBool y f := h ▸ rfl
@[congr] theorem cg_vGuard {x y : Value} {n : R} {f : Bool → R} (h : x = y) : vGuard x n f = vGuard y n f := h ▸ rfl
@[congr] theorem cg_vPtr {x y : Value} {f : Addr → R} (h : x = y) : vPtr x f = vPtr y f := h ▸ rfl
@[congr] theorem cg_vSlice {x y : Value} {f : Option Addr → Nat → Nat → R} (h : x = y) : vSlice x f = vSlice y f := h ▸ rfl
@[congr] theorem cg_vStr {x y : Value} {f : ByteArray → R} (h : x = y) : vStr x f = vStr y f := h ▸ rfl
@[congr] theorem cg_vAgg {x y : Value} {f : Cells → R} (h : x = y) : vAgg x f = vAgg y f := h ▸ rfl
@[congr] theorem cg_vTuple {x y : Value} {f : Cells → R} (h : x = y) : vTuple x f = vTuple y f := h ▸ rfl
@[congr] theorem cg_vFunc {x y : Value} {f : Fn → Cells → Cells → R} (h : x = y) : vFunc x f = vFunc y f := h ▸ rfl
@[congr] theorem cg_flatK {x y : Value} {f : Cells → R} (h : x = y) : flatK x f = flatK y f := h ▸ rfl
@[congr] theorem cg_rVal {x y : R} {f : Value → Heap → R} (h : x = y) : rVal x f = rVal y f := h ▸ rfl
@[congr] theorem cg_natK {x y : Value} {f : Nat → R} (h : x = y) : natK x f = natK y f := h ▸ rfl
@[congr] theorem cg_natI {x y : Int} {f : Nat → R} (h : x = y) : natI x f = natI y f := h ▸ rfl
@[congr] theorem cg_noSpot {a b : Addr} {x : R} (h : a = b) : noSpot a x = noSpot b x := h ▸ rfl
@[congr] theorem cg_evO {x : PO} {fr : Fr} {f : KV} : evO x fr f = evO x fr f := rfl
@[congr] theorem cg_evL {l : List PO} {fr : Fr} {f : List Value → R} : evL l fr f = evL l fr f := rfl
@[congr] theorem cg_evOpt {x : Option PO} {fr : Fr} {f : Option Value → R} : evOpt x fr f = evOpt x fr f := rfl
@[congr] theorem cg_exec {i : I} {F : FF} {fr : Fr} {h : Heap} {f : KH} : exec i F fr h f = exec i F fr h f := rfl
@[congr] theorem cg_putK {d : PD} {fr : Fr} {v : Value} {f : Fr → R} : putK d fr v f = putK d fr v f := rfl
@[congr] theorem cg_loadE {g : Option (Option Nat)} {h : Heap} {a b : Addr} {f : KV} (e : a = b) : loadE g h a f = loadE g h b f := e ▸ rfl
@[congr] theorem cg_storeE {g : Option Nat} {h : Heap} {a b : Addr} {v : Value} {f : KS} (e : a = b) : storeE g h a v f = storeE g h b v f := e ▸ rfl
@[congr] theorem cg_mkVar {h : Heap} {e : TypeId} {l : Cells} {f : KH} : mkVar h e l f = mkVar h e l f := rfl
@[congr] theorem cg_mkRows {h : Heap} {e : TypeId} {g : Bool} {es : Nat} {l : List Cells} {f : KH} {n cap : Nat} : mkRows h e g es l f n cap = mkRows h e g es l f n cap := rfl
@[congr] theorem cg_appendE {e : Option Elem} {h : Heap} {s x : Value} {f : KH} : appendE e h s x f = appendE e h s x f := rfl
@[congr] theorem cg_elemsOf {sz : Nat} {ps : List Nat} {vs : List Value} {c : List Cells} {f : List Cells → R} : elemsOf sz ps vs c f = elemsOf sz ps vs c f := rfl
@[congr] theorem cg_fillE {p : Nat → Option (Nat × Nat)} {ps : List Nat} {vs : List Value} {c : Cells} {f : Cells → R} : fillE p ps vs c f = fillE p ps vs c f := rfl
@[congr] theorem cg_convK {h : Heap} {c : CK} {x : Value} {f : KV} : convK h c x f = convK h c x f := rfl
@[congr] theorem cg_cLoop {x y : Option Blk} {f : LoopR → R} (h : x = y) : cLoop x f = cLoop y f := h ▸ rfl
@[congr] theorem cg_cDfr {x y : Option Blk} {f : Bool → R} (h : x = y) : cDfr x f = cDfr y f := h ▸ rfl
@[congr] theorem cg_evOps {l : List RO} {F : FF} {fr : Fr} {h : Heap} {k : Fr → Heap → R} : evOps l F fr h k = evOps l F fr h k := rfl
@[congr] theorem cg_stepD {o : DO} {F : FF} {s : DS} {k : DS → R} : stepD o F s k = stepD o F s k := rfl
@[congr] theorem cg_evD {l : List DO} {F : FF} {s : DS} {k : DS → R} : evD l F s k = evD l F s k := rfl
@[congr] theorem cg_tryOld {A : Nat} {f : Heap → R → R} {l : List (Nat × Heap)} {k : R} : tryOld A f l k = tryOld A f l k := rfl
@[congr] theorem cg_tryRd {A : Nat} {h : Heap} {l : List (Nat × Nat × (Heap → R → R))} {k : R} : tryRd A h l k = tryRd A h l k := rfl
@[congr] theorem cg_evP {c : PC} {cx : Cx} {s : St} {k : K} : evP c cx s k = evP c cx s k := rfl
@[congr] theorem cg_loopS {c : Cx → St → K → R} {cx : Cx} {k : K} {n : Nat} {s : St} : loopS c cx k n s = loopS c cx k n s := rfl
@[congr] theorem cg_ptrK {f : KV} {a b : Addr} {n m : Nat} (h : a = b) (h2 : n = m) : ptrK f a n = ptrK f b m := h ▸ h2 ▸ rfl
@[congr] theorem cg_intOp {i : IOp} {x y : Value} {f : KV} : intOp i x y f = intOp i x y f := rfl
@[congr] theorem cg_shOp {i : IOp} {x y : Value} {f : KV} : shOp i x y f = shOp i x y f := rfl
@[congr] theorem cg_eqlOp {E : Env} {k : EK} {x y : Value} {f : KV} : eqlOp E k x y f = eqlOp E k x y f := rfl
@[congr] theorem cg_neqOp {E : Env} {k : EK} {x y : Value} {f : KV} : neqOp E k x y f = neqOp E k x y f := rfl
@[congr] theorem cg_resL {l : List RV} {T : Tr Value} {h : Heap} {f : List Value → R} : resL l T h f = resL l T h f := rfl
@[congr] theorem cg_seqK {b : Cx → St → K → R} {cx : Cx} {k : K} {o : Out} {s : St} : seqK b cx k o s = seqK b cx k o s := rfl
@[congr] theorem cg_blockK {id : Nat} {k : K} {o : Out} {s : St} : blockK id k o s = blockK id k o s := rfl
end
end Go.Ev
set_option linter.unusedVariables false
namespace Go.Ev
variable {E : Env} {M : MN} {F : FF}
namespace S
/-! ## Code -/
theorem skip {cx : Cx} {s : St} {k : K} : evP .skip cx s k = k .normal s := nr rfl
theorem seq {a b : PC} {cx : Cx} {s : St} {k : K} : evP (.seq a b) cx s k = evP a cx s (seqK (evP b) cx k) := nr rfl
theorem reg {l : List RO} {F : FF} {ro : Option Nat} {fn n : Nat} {T : Tr Value} {D : List Deferred} {h : Heap} {k : K} :
    evP (.reg l) ⟨F, ro, fn, n⟩ ⟨T, D, h⟩ k = evOps l F ⟨[], T⟩ h fun fr h => k .normal ⟨fr.T, D, h⟩ := nr rfl
theorem cond {x : PO} {a b : PC} {cx : Cx} {T : Tr Value} {D : List Deferred} {h : Heap} {k : K} :
    evP (.cond x a b) cx ⟨T, D, h⟩ k = evO x ⟨[], T⟩ fun v => vBool v fun t => bI t (evP a cx ⟨T, D, h⟩ k) (evP b cx ⟨T, D, h⟩ k) := nr rfl
theorem block {id : Nat} {c : PC} {cx : Cx} {s : St} {k : K} : evP (.block id c) cx s k = evP c cx s (blockK id k) := nr rfl
theorem loop {c : PC} {F : FF} {ro : Option Nat} {fn n : Nat} {s : St} {k : K} : evP (.loop c) ⟨F, ro, fn, n⟩ s k = loopS (evP c) ⟨F, ro, fn, n⟩ k n s := nr rfl
theorem exit {id : Nat} {cx : Cx} {s : St} {k : K} : evP (.exit id) cx s k = k (.exit id) s := nr rfl
theorem ret {cx : Cx} {s : St} {k : K} : evP .ret cx s k = k .ret s := nr rfl
theorem seqK_n {b : Cx → St → K → R} {cx : Cx} {k : K} {s : St} : seqK b cx k .normal s = b cx s k := nr rfl
theorem seqK_e {b : Cx → St → K → R} {cx : Cx} {k : K} {s : St} {i : Nat} : seqK b cx k (.exit i) s = k (.exit i) s := nr rfl
theorem seqK_r {b : Cx → St → K → R} {cx : Cx} {k : K} {s : St} : seqK b cx k .ret s = k .ret s := nr rfl
theorem blockK_n {id : Nat} {k : K} {s : St} : blockK id k .normal s = k .normal s := nr rfl
theorem blockK_r {id : Nat} {k : K} {s : St} : blockK id k .ret s = k .ret s := nr rfl
theorem blockK_e {id i : Nat} {k : K} {s : St} : blockK id k (.exit i) s = if i = id then k .normal s else k (.exit i) s := by
  show Bool.rec (motive := fun _ => St → R) (k (.exit i)) (k .normal) (Nat.beq i id) s = _
  by_cases h : i = id
  · subst h; rw [Nat.beq_refl, if_pos rfl]
  · rw [if_neg h]
    have : Nat.beq i id = false := by
      cases hb : Nat.beq i id with
      | false => rfl
      | true => exact absurd (Nat.eq_of_beq_eq_true hb) h
    rw [this]
theorem loop_s {c : Cx → St → K → R} {cx : Cx} {k : K} {n : Nat} {s : St} : loopS c cx k (n + 1) s = c cx s fun o => Out.rec (motive := fun _ => St → R) (loopS c cx k n) (fun i => k (.exit i)) (k .ret) o := nr rfl

/-! ## Operations of a region -/
theorem ops_nil {fr : Fr} {h : Heap} {k : Fr → Heap → R} : evOps [] F fr h k = k fr h := nr rfl
theorem ops_cons {i : I} {d : PD} {l : List RO} {fr : Fr} {h : Heap} {k : Fr → Heap → R} : evOps (⟨i, d, none⟩ :: l) F fr h k = exec i F fr h fun v h => putK d fr v fun fr => evOps l F fr h k := nr rfl
theorem ops_gt {i : I} {d : PD} {x : PO} {l : List RO} {fr : Fr} {h : Heap} {k : Fr → Heap → R} :
    evOps (⟨i, d, some (x, true)⟩ :: l) F fr h k = evO x fr fun v => vGuard v (putK d fr undef fun fr => evOps l F fr h k) fun t => bI t (exec i F fr h fun v h => putK d fr v fun fr => evOps l F fr h k) (putK d fr undef fun fr => evOps l F fr h k) := by
  show (evO x fr fun v => vGuard v _ fun t => bI (Bool.rec (motive := fun _ => Bool) (notB true) true t) _ _) = _
  congr; funext v; congr; funext t
  cases t <;> rfl
theorem ops_gf {i : I} {d : PD} {x : PO} {l : List RO} {fr : Fr} {h : Heap} {k : Fr → Heap → R} :
    evOps (⟨i, d, some (x, false)⟩ :: l) F fr h k = evO x fr fun v => vGuard v (putK d fr undef fun fr => evOps l F fr h k) fun t => bI t (putK d fr undef fun fr => evOps l F fr h k) (exec i F fr h fun v h => putK d fr v fun fr => evOps l F fr h k) := by
  show (evO x fr fun v => vGuard v _ fun t => bI (Bool.rec (motive := fun _ => Bool) (notB false) false t) _ _) = _
  congr; funext v; congr; funext t
  cases t <;> rfl
theorem g_bool {b : Bool} {n : R} {f : Bool → R} : vGuard (.bool b) n f = f b := nr rfl
theorem g_undef {n : R} {f : Bool → R} : vGuard undef n f = n := nr rfl
theorem put_non {fr : Fr} {v : Value} {f : Fr → R} : putK .non fr v f = f fr := nr rfl
theorem put_loc {t : Nat} {L : List (Nat × Value)} {T : Tr Value} {v : Value} {f : Fr → R} : putK (.loc t) ⟨L, T⟩ v f = f ⟨(t, v) :: L, T⟩ := nr rfl
theorem put_frm {t : Nat} {L : List (Nat × Value)} {T : Tr Value} {v : Value} {f : Fr → R} : putK (.frm t) ⟨L, T⟩ v f = f ⟨L, T.put (some v) t⟩ := nr rfl
theorem o_loc {t : Nat} {L : List (Nat × Value)} {T : Tr Value} {f : KV} : evO (.loc t) ⟨L, T⟩ f = oS (firstL t L) f := by
  have := evO_tmp ⟨2 ^ t, 0, 0⟩ t ⟨L, T⟩ f
  unfold po look at this
  have hb : Nat.testBit (2 ^ t) t = true := by simp
  simp only [hb, if_true] at this
  exact this
theorem o_frm {t : Nat} {L : List (Nat × Value)} {T : Tr Value} {f : KV} : evO (.frm t) ⟨L, T⟩ f = oS (T.get t) f := nr rfl
theorem o_const {v : Value} {fr : Fr} {f : KV} : evO (.const v) fr f = f v := nr rfl
theorem first_nil {t : Nat} : firstL t [] = none := nr rfl
theorem first_cons {t u : Nat} {v : Value} {l : List (Nat × Value)} : firstL t ((u, v) :: l) = if u = t then some v else firstL t l := nr rfl
theorem l_nil {fr : Fr} {f : List Value → R} : evL [] fr f = f [] := nr rfl
theorem l_cons {x : PO} {l : List PO} {fr : Fr} {f : List Value → R} : evL (x :: l) fr f = evO x fr fun v => evL l fr fun vs => f (v :: vs) := nr rfl
theorem op_none {fr : Fr} {f : Option Value → R} : evOpt none fr f = f none := nr rfl
theorem op_some {x : PO} {fr : Fr} {f : Option Value → R} : evOpt (some x) fr f = evO x fr fun v => f (some v) := nr rfl
section exec
variable {fr : Fr} {h : Heap} {f : KH}
theorem move {x : PO} : exec (.move x) F fr h f = evO x fr fun v => f v h := nr rfl
theorem pick {c a b : PO} : exec (.pick c a b) F fr h f = evO c fr fun c => vBool c fun t => bI t (evO a fr fun v => f v h) (evO b fr fun v => f v h) := nr rfl
theorem alloc {e : TypeId} {z : Option Cells} : exec (.alloc e z) F fr h f = oS z fun z => mkVar h e z f := nr rfl
theorem box {e : TypeId} {x : PO} : exec (.box e x) F fr h f = evO x fr fun v => flatK v fun l => mkVar h e l f := nr rfl
theorem build {p : Option (Nat → Option (Nat × Nat))} {z : Option Cells} {ps : List Nat} {xs : List PO} : exec (.build p z ps xs) F fr h f = evL xs fr fun vs => oS p fun place => oS z fun z => fillE place ps vs z fun l => f (.agg ⟨l⟩) h := nr rfl
theorem buildSlice {e : Elem} {n : Nat} {ps : List Nat} {xs : List PO} :
    exec (.buildSlice (some e) n ps xs) F fr h f = evL xs fr fun vs => bT (Nat.ble (Nat.mul n e.sz) 65536) (elemsOf e.sz ps vs (replC e.z n) fun l => mkRows h e.e false e.sz l f n n) := nr rfl
theorem load {g : Option (Option Nat)} {a : PO} : exec (.load g a) F fr h f = evO a fr fun a => vPtr a fun a => loadE g h a fun v => f v h := nr rfl
theorem store {sz : Option Nat} {a x : PO} : exec (.store sz a x) F fr h f = evO a fr fun a => vPtr a fun a => evO x fr fun v => storeE sz h a v fun h => f undef h := nr rfl
theorem nil_ {x : PO} : exec (.nil x) F fr h f = evO x fr fun v => vPtr v fun _ => f v h := nr rfl
theorem bin {op : Value → Value → KV → R} {x y : PO} : exec (.bin op x y) F fr h f = evO x fr fun a => evO y fr fun b => op a b fun v => f v h := nr rfl
theorem un {op : Value → KV → R} {x : PO} : exec (.un op x) F fr h f = evO x fr fun a => op a fun v => f v h := nr rfl
theorem conv {c : CK} {x : PO} : exec (.conv c x) F fr h f = evO x fr fun a => convK h c a fun v => f v h := nr rfl
theorem func {fn : Fn} {a b : List PO} : exec (.func fn a b) F fr h f = evL a fr fun a => evL b fr fun b => f (.func fn ⟨a⟩ ⟨b⟩) h := nr rfl
theorem makeSlice {e : Elem} {l c : PO} : exec (.makeSlice (some e) l c) F fr h f =
    evO l fr fun l => natK l fun l => evO c fr fun c => natK c fun c => bT (Nat.ble l c) (bT (Nat.ble c 65536) (bT (Nat.ble e.by_ 4096) (mkRows h e.e false e.sz (replC e.z c) f l c))) := nr rfl
theorem strSlice {x : PO} {lo hi : Option PO} : exec (.strSlice x lo hi) F fr h f = evO x fr fun x => evOpt lo fr fun lo => evOpt hi fr fun hi => vStr x fun s => Ev.strSlice s lo hi fun v => f v h := nr rfl
theorem fieldAddr {o n : Nat} {g : Option (Option Nat)} {x : PO} : exec (.fieldAddr (some (o, g, n)) x) F fr h f = evO x fr fun x => vPtr x fun a => nC n none fun _ => nC o (f x h) fun o => ptrK (fun v => f v h) a (Nat.succ o) := nr rfl
theorem field {o n : Nat} {g : Option (Option Nat)} {x : PO} : exec (.field (some (o, g, n)) x) F fr h f = evO x fr fun x => vAgg x fun l => partE g o l fun v => f v h := nr rfl
theorem indexSl {e : Elem} {x i : PO} : exec (.indexSl (some e) x i) F fr h f = evO x fr fun x => evO i fr fun i => natK i fun i => vSlice x fun a l _ => oS a fun a => bT (Nat.blt i l) (ptrK (fun v => f v h) a (Nat.mul i e.sz)) := nr rfl
theorem indexStr {x i : PO} : exec (.indexStr x i) F fr h f = evO x fr fun x => evO i fr fun i => natK i fun i => vStr x fun s => oS (nth s.data.toList i) fun b => kInt .u8 (fun v => f v h) (.ofNat b.toNat) := nr rfl
theorem extract {x : PO} {i : Nat} : exec (.extract x i) F fr h f = evO x fr fun x => vTuple x fun l => oS (nth l i) fun v => f v h := nr rfl
theorem len {x : PO} : exec (.len x) F fr h f = evO x fr fun x => vSlice x fun _ n _ => f (.int .i64 (.ofNat n)) h := nr rfl
theorem lenStr {x : PO} : exec (.lenStr x) F fr h f = evO x fr fun x => vStr x fun s => kInt .i64 (fun v => f v h) (.ofNat (Ev.len s.data.toList)) := nr rfl
theorem min {x y : PO} : exec (.min x y) F fr h f = evO x fr fun x => evO y fr fun y => vInt x fun k a => vInt y fun k' b => bT (Nat.beq (kindN k) (kindN k')) (bI (ltI b a) (f y h) (f x h)) := nr rfl
theorem append {se : Option Elem} {s x : PO} : exec (.append se s x) F fr h f = evO s fr fun s => evO x fr fun x => appendE se h s x f := nr rfl
theorem call {g : PO} {xs : List PO} : exec (.call g xs) F fr h f = evO g fr fun g => evL xs fr fun as => vFunc g fun fn first cap => rVal (F fn (first ++ as) cap h) f := by
  show (evO g fr fun g => evL xs fr fun as => vFunc g fun fn first cap => rVal (F fn (app first as) cap h) f) = _
  simp only [app_eq]
end exec

/-! ## Looking into a thing -/
theorem some_ {α : Type} {a : α} {f : α → R} : oS (some a) f = f a := nr rfl
theorem oc_some {α : Type} {a : α} {n : R} {f : α → R} : oC (some a) n f = f a := nr rfl
theorem oc_none {α : Type} {n : R} {f : α → R} : oC none n f = n := nr rfl
theorem bT_t {x : R} : bT true x = x := nr rfl
theorem bI_t {x y : R} : bI true x y = x := nr rfl
theorem bI_f {x y : R} : bI false x y = y := nr rfl
theorem nC_0 {z : R} {s : Nat → R} : nC 0 z s = z := nr rfl
theorem nC_s {n : Nat} {z : R} {s : Nat → R} : nC (n + 1) z s = s n := nr rfl
theorem lc_nil {α : Type} {n : R} {c : α → List α → R} : lC [] n c = n := nr rfl
theorem lc_cons {α : Type} {a : α} {l : List α} {n : R} {c : α → List α → R} : lC (a :: l) n c = c a l := nr rfl
theorem v_int {k : IntKind} {n : Int} {f : IntKind → Int → R} : vInt (.int k n) f = f k n := nr rfl
theorem v_bool {b : Bool} {f : Bool → R} : vBool (.bool b) f = f b := nr rfl
theorem v_ptr {a : Addr} {f : Addr → R} : vPtr (.pointer (some a)) f = f a := nr rfl
theorem v_slice {a : Option Addr} {n c : Nat} {f : Option Addr → Nat → Nat → R} : vSlice (.slice a n c) f = f a n c := nr rfl
theorem v_str {s : ByteArray} {f : ByteArray → R} : vStr (.string s) f = f s := nr rfl
theorem v_agg {l : Array Value} {f : Cells → R} : vAgg (.agg l) f = f l.toList := nr rfl
theorem v_tuple {l : Array Value} {f : Cells → R} : vTuple (.tuple l) f = f l.toList := nr rfl
theorem v_func {fn : Fn} {a b : Array Value} {f : Fn → Cells → Cells → R} : vFunc (.func fn a b) f = f fn a.toList b.toList := nr rfl
theorem r_val {v : Value} {h : Heap} {f : Value → Heap → R} : rVal (some (.val v h)) f = f v h := nr rfl
theorem f_int {k : IntKind} {n : Int} {f : Cells → R} : flatK (.int k n) f = f [.int k n] := nr rfl
theorem f_bool {b : Bool} {f : Cells → R} : flatK (.bool b) f = f [.bool b] := nr rfl
theorem f_ptr {a : Option Addr} {f : Cells → R} : flatK (.pointer a) f = f [.pointer a] := nr rfl
theorem f_slice {a : Option Addr} {n c : Nat} {f : Cells → R} : flatK (.slice a n c) f = f [.slice a n c] := nr rfl
theorem f_agg {l : Array Value} {f : Cells → R} : flatK (.agg l) f = f l.toList := nr rfl
theorem spot_ {b o : Nat} {x : R} : noSpot ⟨b, o, none⟩ x = x := nr rfl
theorem nat_k {k : IntKind} {n : Nat} {f : Nat → R} : natK (.int k (.ofNat n)) f = f n := nr rfl
theorem nat_i {n : Nat} {f : Nat → R} : natI (.ofNat n) f = f n := nr rfl
theorem ptr_k {f : KV} {b o n : Nat} : ptrK f ⟨b, o, none⟩ n = f (.pointer (some ⟨b, o + n, none⟩)) := by
  show forceN (o + n) (fun q => f (.pointer (some ⟨b, q, none⟩))) = _
  rw [forceN_eq]

/-! ## Numbers -/
theorem int_op {i : IOp} {k : IntKind} {a b : Int} {f : KV} : intOp i (.int k a) (.int k b) f = i k a b f := by
  show bT (Nat.beq (kindN k) (kindN k)) (i k a b f) = _
  rw [Nat.beq_refl]; rfl
theorem sh_op {i : IOp} {k k' : IntKind} {a b : Int} {f : KV} : shOp i (.int k a) (.int k' b) f = i k a b f := nr rfl
section num
variable {k : IntKind} {a b : Int} {f : KV}
theorem add : iAdd k a b f = f (.int k (k.wrap (a + b))) := by unfold iAdd; rw [kInt_eq, wrapE_eq]; rfl
theorem sub : iSub k a b f = f (.int k (k.wrap (a - b))) := by unfold iSub; rw [kInt_eq, wrapE_eq]; rfl
theorem mul : iMul k a b f = f (.int k (k.wrap (a * b))) := by unfold iMul; rw [kInt_eq, wrapE_eq]; rfl
theorem lss : iLss k a b f = f (.bool (decide (a < b))) := by unfold iLss; rw [kBool_eq, ltI_eq]
theorem gtr : iGtr k a b f = f (.bool (decide (b < a))) := by unfold iGtr; rw [kBool_eq, ltI_eq]
theorem leq : iLeq k a b f = f (.bool (!decide (b < a))) := by unfold iLeq; rw [kBool_eq, ltI_eq, notB_eq]
theorem geq : iGeq k a b f = f (.bool (!decide (a < b))) := by unfold iGeq; rw [kBool_eq, ltI_eq, notB_eq]
theorem eqi : eqlOp E .int (.int k a) (.int k b) f = f (.bool (a == b)) := by
  show bT (Nat.beq (kindN k) (kindN k)) (kBool f (eqI a b)) = _
  rw [Nat.beq_refl, kBool_eq, eqI_eq]; rfl
theorem nei : neqOp E .int (.int k a) (.int k b) f = f (.bool (!(a == b))) := by
  show bT (Nat.beq (kindN k) (kindN k)) (kBool f (notB (eqI a b))) = _
  rw [Nat.beq_refl, kBool_eq, eqI_eq, notB_eq]; rfl
theorem not_ {b : Bool} : unE .not (.bool b) f = f (.bool (!b)) := by
  show kBool f (notB b) = _
  rw [kBool_eq, notB_eq]
theorem convi {h : Heap} {j : IntKind} : convK h (.int k) (.int j a) f = f (.int k (k.wrap a)) := by
  show kInt k f (wrapE k a) = _
  rw [kInt_eq, wrapE_eq]
end num

/-! ## The end of a function -/
theorem fn_n {rs : List RV} {s : St} : fnK rs .normal s = doneS rs s.T s.D s.h := nr rfl
theorem fn_r {rs : List RV} {s : St} : fnK rs .ret s = doneS rs s.T s.D s.h := nr rfl
theorem done_nil {rs : List RV} {T : Tr Value} {h : Heap} : doneS rs T [] h = resL rs T h (resK h) := nr rfl
theorem done_mark {rs : List RV} {T : Tr Value} {r : Nat} {ds : List Deferred} {h : Heap} : doneS rs T ({ target := .collected r, args := #[] } :: ds) h = cDfr (blk h r) fun c => bT c (doneS rs T ds (upd h r (.dfr false))) := nr rfl
theorem res_nil {T : Tr Value} {h : Heap} {f : List Value → R} : resL [] T h f = f [] := nr rfl
theorem res_tmp {x : PO} {l : List RV} {T : Tr Value} {h : Heap} {f : List Value → R} : resL (.tmp x :: l) T h f = evO x ⟨[], T⟩ fun v => resL l T h fun vs => f (v :: vs) := nr rfl
theorem res_cell {g : Option (Option Nat)} {x : PO} {l : List RV} {T : Tr Value} {h : Heap} {f : List Value → R} : resL (.cell g x :: l) T h f = evO x ⟨[], T⟩ fun a => vPtr a fun a => loadE g h a fun v => resL l T h fun vs => f (v :: vs) := nr rfl
theorem res_0 {h : Heap} : resK h [] = some (.val (.tuple #[]) h) := nr rfl
theorem res_1 {h : Heap} {v : Value} : resK h [v] = some (.val v h) := nr rfl
theorem res_2 {h : Heap} {u v : Value} {l : List Value} : resK h (u :: v :: l) = some (.val (.tuple ⟨u :: v :: l⟩) h) := nr rfl
theorem args_nil {i : Nat} {T : Tr Value} : argsT [] i T = T := nr rfl
theorem args_cons {v : Value} {l : List Value} {i : Nat} {T : Tr Value} : argsT (v :: l) i T = argsT l (i + 1) (T.put (some v) i) := nr rfl
end S
end Go.Ev
namespace Go.Ev.S
open Go.Ev
/-! ## Loops -/
noncomputable def loopK (ih : St → R) (k : K) : K := fun o => Out.rec (motive := fun _ => St → R) ih (fun i => k (.exit i)) (k .ret) o
theorem loop1 {c : Cx → St → K → R} {cx : Cx} {k : K} {n : Nat} {s : St} : loopS c cx k (n + 1) s = c cx s (loopK (loopS c cx k n) k) := nr rfl
theorem loopK_n {ih : St → R} {k : K} {s : St} : loopK ih k .normal s = ih s := nr rfl
theorem loopK_e {ih : St → R} {k : K} {s : St} {i : Nat} : loopK ih k (.exit i) s = k (.exit i) s := nr rfl
theorem loopK_r {ih : St → R} {k : K} {s : St} : loopK ih k .ret s = k .ret s := nr rfl

/-! ## Memory -/
variable {h : Heap} {b : Nat}
theorem rd_eq {o : Option Blk} {N es : Nat} {c : Tr Cells} {f : Nat → Nat → Tr Cells → R} (hr : Rd o N es c) : cRd o f = f N es c := by
  rcases hr with ⟨e, g, rfl⟩ | rfl <;> rfl
/-- A row of cells that lies at a place. -/
structure RowAt (h : Heap) (b o : Nat) (row : Cells) : Prop where
  ex : ∃ N c, 0 < row.length ∧ Rd (h.b.get b) N row.length c ∧ o * row.length < N * row.length ∧ c.get o = some row
theorem RowAt.elem {row : Cells} {o j : Nat} (hr : RowAt h b o row) (hj : j < row.length) {f : Cells → Nat → R} : elemAt h ⟨b, o * row.length + j, none⟩ f = f row j := by
  obtain ⟨N, c, h0, h1, h2, h3⟩ := hr.ex
  have hlt : o * row.length + j < N * row.length := by
    have : o < N := Nat.lt_of_mul_lt_mul_right h2
    have : (o + 1) * row.length ≤ N * row.length := Nat.mul_le_mul_right _ this
    rw [Nat.add_mul, Nat.one_mul] at this; omega
  have hd : (o * row.length + j) / row.length = o := by rw [Nat.mul_comm, Nat.mul_add_div h0, Nat.div_eq_of_lt hj, Nat.add_zero]
  have hm : (o * row.length + j) % row.length = j := by rw [Nat.mul_comm, Nat.mul_add_mod, Nat.mod_eq_of_lt hj]
  show cRd (h.b.get b) (fun n es c => bT (Nat.blt (o * row.length + j) (Nat.mul n es)) (oS (c.get (Nat.div (o * row.length + j) es)) fun l => f l (Nat.mod (o * row.length + j) es))) = _
  rw [rd_eq h1]
  have hb : Nat.blt (o * row.length + j) (Nat.mul N row.length) = true := (blt_iff _ _).2 hlt
  rw [hb]
  show oS (c.get ((o * row.length + j) / row.length)) (fun l => f l ((o * row.length + j) % row.length)) = _
  rw [hd, hm, h3]; rfl
theorem RowAt.cell {row : Cells} {o j : Nat} (hr : RowAt h b o row) {v : Value} (hj : row[j]? = some v) {f : KV} : loadE (some none) h ⟨b, o * row.length + j, none⟩ f = f v := by
  show elemAt h ⟨b, o * row.length + j, none⟩ (fun l j => oS (nth l j) f) = _
  rw [hr.elem (List.getElem?_eq_some_iff.1 hj).1, nth_eq, hj]; rfl
theorem hasLen_self {α : Type} : ∀ l : List α, hasLen l l.length = true
  | [] => rfl
  | a :: l => hasLen_self l
theorem RowAt.whole {row : Cells} {o : Nat} (hr : RowAt h b o row) {f : KV} : loadE (some (some row.length)) h ⟨b, o * row.length, none⟩ f = f (.agg ⟨row⟩) := by
  have h0 : 0 < row.length := hr.ex.choose_spec.choose_spec.1
  obtain ⟨n, hn⟩ : ∃ n, row.length = n + 1 := ⟨row.length - 1, by omega⟩
  have he := hr.elem (j := 0) h0 (f := fun l j => nC j (bI (hasLen l (n + 1)) (f (.agg ⟨l⟩)) (bT (Nat.ble (n + 1) (Ev.len l)) (f (.agg ⟨takeE (n + 1) l⟩)))) fun j => bT (Nat.ble (Nat.add (Nat.succ j) (n + 1)) (Ev.len l)) (f (.agg ⟨takeE (n + 1) (dropE (Nat.succ j) l)⟩)))
  rw [Nat.add_zero, nC_0, ← hn, hasLen_self, bI_t] at he
  rw [hn] at he ⊢
  exact he

/-- A variable's block. -/
def varB (e : TypeId) (l : Cells) : Blk := .cells 1 e false l.length (.node .leaf (some l) .leaf)
theorem var_row {e : TypeId} {l : Cells} (hb : h.b.get b = some (varB e l)) (hl : 0 < l.length) : RowAt h b 0 l := ⟨1, _, hl, .inl ⟨_, _, hb⟩, by omega, rfl⟩
theorem var_cell {e : TypeId} {l : Cells} (hb : h.b.get b = some (varB e l)) {j : Nat} {v : Value} (hj : l[j]? = some v) {f : KV} : loadE (some none) h ⟨b, j, none⟩ f = f v := by
  have := (var_row hb (by have := (List.getElem?_eq_some_iff.1 hj).1; omega)).cell hj (f := f)
  rwa [Nat.zero_mul, Nat.zero_add] at this
theorem var_whole {e : TypeId} {l : Cells} (hb : h.b.get b = some (varB e l)) (hl : 0 < l.length) {f : KV} : loadE (some (some l.length)) h ⟨b, 0, none⟩ f = f (.agg ⟨l⟩) := by
  have := (var_row hb hl).whole (f := f)
  rwa [Nat.zero_mul] at this
theorem mkVar_eq {e : TypeId} {l : Cells} {f : KH} : mkVar h e l f = f (.pointer (some ⟨h.next, 0, none⟩)) ⟨h.next + 1, h.b.put (some (varB e l)) h.next⟩ := by
  unfold mkVar; rw [newB_eq, len_eq]; rfl
theorem mkRows_eq {e : TypeId} {g : Bool} {es : Nat} {l : List Cells} {f : KH} {n cap : Nat} : mkRows h e g es l f n cap = f (.slice (some ⟨h.next, 0, none⟩) n cap) ⟨h.next + 1, h.b.put (some (.cells l.length e g es (Tr.ofList l))) h.next⟩ := by
  unfold mkRows; rw [newB_eq, len_eq]
theorem var_store {e : TypeId} {l : Cells} (hb : h.b.get b = some (varB e l)) {j : Nat} {vs : Cells} (hv : 0 < vs.length) (hj : j + vs.length ≤ l.length) {f : KS} :
    storeRow h ⟨b, j, none⟩ vs f = f (upd h b (varB e (l.take j ++ vs ++ l.drop (j + vs.length)))) := by
  have hlt : j < l.length := by omega
  show cBlk (h.b.get b) (fun n e g es c => bT (Nat.blt j (Nat.mul n es)) (oS (c.get (Nat.div j es)) fun l => bT (Nat.ble (Nat.add (Nat.mod j es) (Ev.len vs)) (Ev.len l)) (f (upd h b (.cells n e g es (c.put (some (putAt vs (Nat.mod j es) l)) (Nat.div j es))))))) = _
  rw [hb]
  show bT (Nat.blt j (1 * l.length)) (oS ((Tr.node .leaf (some l) .leaf).get (j / l.length)) fun l' => bT (Nat.ble (j % l.length + Ev.len vs) (Ev.len l')) (f (upd h b (.cells 1 e false l.length ((Tr.node .leaf (some l) .leaf).put (some (putAt vs (j % l.length) l')) (j / l.length)))))) = _
  rw [Nat.div_eq_of_lt hlt, Nat.mod_eq_of_lt hlt, Tr.get_zero, some_, len_eq, len_eq, Tr.put_zero, putAt_eq]
  have h1 : Nat.blt j (1 * l.length) = true := (blt_iff _ _).2 (by omega)
  have h2 : Nat.ble (j + vs.length) l.length = true := by rw [Nat.ble_eq]; exact hj
  rw [h1, h2, bT_t, bT_t]
  congr 2
  unfold varB
  congr 1
  simp; omega
theorem store_1 {a : Addr} {v : Value} {f : KS} (hf : ∀ g : Cells → R, flatK v g = g [v]) : storeE (some 1) h a v f = storeRow h a [v] f := by
  show flatK v (fun l => bT (hasLen l 1) (storeRow h a l f)) = _
  rw [hf]; rfl
theorem store_agg {a : Addr} {l : Cells} {n : Nat} (hn : l.length = n + 1) {f : KS} : storeE (some (n + 1)) h a (.agg ⟨l⟩) f = storeRow h a l f := by
  show bT (hasLen l (n + 1)) (storeRow h a l f) = _
  rw [← hn, hasLen_self]; rfl
theorem get_upd {B : Blk} {n : Nat} : (upd h b B).b.get n = if n = b then some B else h.b.get n := Tr.get_put_eq _ _ _
theorem next_upd {B : Blk} : (upd h b B).next = h.next := nr rfl
end Go.Ev.S
set_option linter.unusedVariables false
namespace Go.Ev.Tr
variable {α : Type}
theorem get_ofListFrom_eq : ∀ (l : List α) (i : Nat) (t : Tr α) (k : Nat), (ofListFrom l i t).get k = if i ≤ k ∧ k < i + l.length then l[k - i]? else t.get k
  | [], i, t, k => by rw [if_neg (by simp)]; rfl
  | a :: l, i, t, k => by
    rw [ofListFrom_cons, get_ofListFrom_eq l (i + 1), get_put_eq]
    by_cases h1 : i + 1 ≤ k ∧ k < i + 1 + l.length
    · rw [if_pos h1, if_pos (by simp; omega), show k - i = (k - (i + 1)) + 1 from by omega]; rfl
    · rw [if_neg h1]
      by_cases h2 : k = i
      · subst h2; rw [if_pos rfl, if_pos (by simp)]; simp
      · rw [if_neg h2, if_neg (by simp; omega)]
theorem get_ofList_eq (l : List α) (k : Nat) : (ofList l).get k = l[k]? := by
  unfold ofList
  rw [get_ofListFrom_eq]
  by_cases h : k < l.length
  · rw [if_pos (by omega), Nat.sub_zero]
  · rw [if_neg (by omega), List.getElem?_eq_none (by omega)]; rfl
end Go.Ev.Tr
namespace Go.Ev.S
open Go.Ev
variable {h : Heap} {b : Nat}
theorem setRows_eq : ∀ (L : List Cells) (i : Nat) (c : Tr Cells) (k : Nat), (setRows L i c).get k = if i ≤ k ∧ k < i + L.length then L[k - i]? else c.get k
  | [], i, c, k => by rw [if_neg (by simp)]; rfl
  | a :: L, i, c, k => by
    show (setRows L (i + 1) (c.put (some a) i)).get k = _
    rw [setRows_eq L (i + 1), Tr.get_put_eq]
    by_cases h1 : i + 1 ≤ k ∧ k < i + 1 + L.length
    · rw [if_pos h1, if_pos (by simp; omega), show k - i = (k - (i + 1)) + 1 from by omega]; rfl
    · rw [if_neg h1]
      by_cases h2 : k = i
      · subst h2; rw [if_pos rfl, if_pos (by simp)]; simp
      · rw [if_neg h2, if_neg (by simp; omega)]
theorem rowsFrom_eq {c : Tr Cells} {f : List Cells → R} : ∀ {n i : Nat} {acc rows : List Cells}, rows.length = n → (∀ k, k < n → c.get (i + k) = rows[k]?) → rowsFrom c n i acc f = f (rows ++ acc)
  | 0, i, acc, rows, hl, _ => by rw [List.eq_nil_of_length_eq_zero hl]; rfl
  | n + 1, i, acc, rows, hl, hc => by
    have hn : n < rows.length := by omega
    show oS (c.get (i + n)) (fun l => rowsFrom c n i (l :: acc) f) = _
    rw [hc n (Nat.lt_succ_self n), List.getElem?_eq_getElem hn, some_]
    have e : rows = rows.take n ++ [rows[n]] := by
      rw [List.take_append_getElem hn, List.take_of_length_le (by omega)]
    rw [rowsFrom_eq (rows := rows.take n) (by simp; omega) (fun k hk => by rw [hc k (by omega), List.getElem?_take, if_pos hk])]
    rw [List.append_cons, ← e]
/-- The rows of a slice. -/
def RowsAt (h : Heap) (es : Nat) (v : Value) (rows : List Cells) : Prop :=
  ∃ a c, v = .slice a rows.length c ∧ (rows = [] ∨ ∃ b o N t, a = some ⟨b, o * es, none⟩ ∧ Rd (h.b.get b) N es t ∧ o + rows.length ≤ N ∧ ∀ k, k < rows.length → t.get (o + k) = rows[k]?)
theorem rowsOf_eq {es : Nat} {v : Value} {rows : List Cells} (hr : RowsAt h es v rows) (he : 0 < es) {f : List Cells → R} : rowsOf es h v rows.length f = f rows := by
  obtain ⟨a, c, e, hc⟩ := hr
  subst e
  rcases hc with e | ⟨b, o, N, t, e, hrd, hle, hget⟩
  · subst e
    show oC a (nC 0 (f []) fun _ => none) (fun a => nC 0 (f []) _) = _
    cases a <;> rfl
  · subst e
    show nC rows.length (f []) (fun n => cRd (h.b.get b) fun m es' c => bT (Nat.beq es' es) (bT (Nat.beq (Nat.mod (o * es) es') 0) (bT (Nat.ble (Nat.add (Nat.div (o * es) es') (Nat.succ n)) m) (rowsFrom c (Nat.succ n) (Nat.div (o * es) es') [] f)))) = _
    cases hn : rows.length with
    | zero => rw [List.eq_nil_of_length_eq_zero hn]; rfl
    | succ n =>
      rw [nC_s, rd_eq hrd]
      have h1 : Nat.mod (o * es) es = 0 := Nat.mul_mod_left o es
      have h2 : Nat.div (o * es) es = o := Nat.mul_div_cancel o he
      have h3 : Nat.ble (Nat.add o (Nat.succ n)) N = true := by rw [Nat.ble_eq]; show o + (n + 1) ≤ N; omega
      rw [Nat.beq_refl, h1, h2, h3]
      show rowsFrom t (n + 1) o [] f = f rows
      rw [rowsFrom_eq (rows := rows) hn (fun k hk => hget k (by omega)), List.append_nil]
theorem new_rows {e : TypeId} {g : Bool} {es : Nat} {L : List Cells} {N c : Nat} (hb : h.b.get b = some (.cells N e g es (Tr.ofList L))) (hn : N = L.length) : RowsAt h es (.slice (some ⟨b, 0, none⟩) L.length c) L :=
  ⟨_, _, rfl, .inr ⟨b, 0, N, _, by rw [Nat.zero_mul], .inl ⟨_, _, hb⟩, by omega, fun k hk => by rw [Nat.zero_add, Tr.get_ofList_eq]⟩⟩
theorem RowsAt.row {es : Nat} {a : Option Addr} {n c : Nat} {rows : List Cells} (hr : RowsAt h es (.slice a n c) rows) {i : Nat} {row : Cells} (hi : rows[i]? = some row) (hl : row.length = es) (h0 : 0 < es) :
    ∃ b o, a = some ⟨b, o * es, none⟩ ∧ RowAt h b (o + i) row := by
  obtain ⟨a', c', e, hc⟩ := hr
  cases e
  have hlt : i < rows.length := (List.getElem?_eq_some_iff.1 hi).1
  rcases hc with e | ⟨b, o, N, t, e, hrd, hle, hget⟩
  · subst e; simp at hi
  · subst hl
    exact ⟨b, o, e, N, t, h0, hrd, (Nat.mul_lt_mul_right h0).2 (by omega), by rw [hget i hlt, hi]⟩

/-! ## Bytes that grow within their room -/
def bytes (zs : List Nat) : List Cells := zs.map fun z => [.int .u8 (.ofNat z)]
def Bytes (h : Heap) (b cap : Nat) (bs : List Nat) : Prop := ∃ c, h.b.get b = some (.cells cap 5 false 1 c) ∧ bs.length ≤ cap ∧ ∀ i z, bs[i]? = some z → c.get i = some [.int .u8 (.ofNat z)]
theorem Bytes.rows {cap c : Nat} {bs : List Nat} (hb : Bytes h b cap bs) : RowsAt h 1 (.slice (some ⟨b, 0, none⟩) bs.length c) (bytes bs) := by
  obtain ⟨t, h1, h2, h3⟩ := hb
  refine ⟨_, c, by simp [bytes], .inr ⟨b, 0, cap, t, rfl, .inl ⟨_, _, h1⟩, by simp [bytes]; omega, fun k hk => ?_⟩⟩
  have hk' : k < bs.length := by simpa [bytes] using hk
  rw [Nat.zero_add, h3 k bs[k] (by simp [hk'])]
  simp [bytes, hk']
def eB : Elem := ⟨5, 1, 1, [.int .u8 (.ofNat 0)]⟩
theorem append_bytes {cap xc : Nat} {bs zs : List Nat} {xa : Option Addr} (hb : Bytes h b cap bs) (hc : cap < BIG) (hx : RowsAt h 1 (.slice xa zs.length xc) (bytes zs)) (hm : 0 < zs.length) (hle : bs.length + zs.length ≤ cap) :
    ∃ B, Bytes (upd h b B) b cap (bs ++ zs) ∧ ∀ f : KH, appendE (some eB) h (.slice (some ⟨b, 0, none⟩) bs.length cap) (.slice xa zs.length xc) f = f (.slice (some ⟨b, 0, none⟩) (bs.length + zs.length) cap) (upd h b B) := by
  obtain ⟨t, h1, h2, h3⟩ := hb
  refine ⟨.cells cap 5 false 1 (setRows (bytes zs) bs.length t), ⟨_, by rw [get_upd, if_pos rfl], by simp; omega, fun i z hz => ?_⟩, fun f => ?_⟩
  · rw [setRows_eq]
    rcases Nat.lt_or_ge i bs.length with hi | hi
    · rw [if_neg (by omega)]
      rw [List.getElem?_append_left hi] at hz
      exact h3 i z hz
    · rw [List.getElem?_append_right hi] at hz
      have hlt := (List.getElem?_eq_some_iff.1 hz).1
      rw [if_pos (by simp [bytes]; omega)]
      simp [bytes, hz]
  · have hrw := rowsOf_eq hx (by omega) (f := fun new => bI (Nat.ble BIG cap)
      (oS (some (⟨b, 0, none⟩ : Addr)) fun a => noSpot a (cBlk (blk h a.block) fun M t g es _ => bT g (bT (Nat.beq es eB.sz) (bT (Nat.beq a.off (Nat.mul (Nat.sub cap BIG) es)) (bI (Nat.ble (Nat.add (Nat.sub cap BIG) (Nat.add bs.length zs.length)) M)
        (appIn eB h a bs.length zs.length cap new f)
        (bT (Nat.beq t eB.e) (appNew eB h ⟨h.next, h.b.put none a.block⟩ (.slice (some ⟨b, 0, none⟩) bs.length cap) bs.length zs.length new f)))))))
      (bI (Nat.ble (Nat.add bs.length zs.length) cap) (nC zs.length (f (.slice (some ⟨b, 0, none⟩) bs.length cap) h) fun _ => oS (some (⟨b, 0, none⟩ : Addr)) fun a => appIn eB h a bs.length zs.length cap new f) (appNew eB h h (.slice (some ⟨b, 0, none⟩) bs.length cap) bs.length zs.length new f)))
    rw [show (bytes zs).length = zs.length from by simp [bytes]] at hrw
    refine Eq.trans hrw ?_
    have a1 : Nat.ble BIG cap = false := by
      cases hh : Nat.ble BIG cap with
      | false => rfl
      | true => rw [Nat.ble_eq] at hh; omega
    have a2 : Nat.ble (Nat.add bs.length zs.length) cap = true := by rw [Nat.ble_eq]; exact hle
    obtain ⟨q, hq⟩ : ∃ q, zs.length = q + 1 := ⟨zs.length - 1, by omega⟩
    rw [a1, bI_f, a2, bI_t]
    rw [hq, nC_s, ← hq, some_]
    show noSpot (addA ⟨b, 0, none⟩ (Nat.mul bs.length 1)) (cBlk (h.b.get b) fun m e g es c => bT (Nat.beq es 1) (bT (Nat.beq (Nat.mod (Nat.add 0 (Nat.mul bs.length 1)) es) 0) (bT (Nat.ble (Nat.add (Nat.div (Nat.add 0 (Nat.mul bs.length 1)) es) (Ev.len (bytes zs))) m) (forceN (Nat.add bs.length zs.length) fun q => f (.slice (some ⟨b, 0, none⟩) q cap) (upd h b (.cells m e g es (setRows (bytes zs) (Nat.div (Nat.add 0 (Nat.mul bs.length 1)) es) c))))))) = _
    rw [h1]
    have e0 : Nat.add 0 (Nat.mul bs.length 1) = bs.length := by show 0 + bs.length * 1 = _; omega
    have e1 : Nat.mod bs.length 1 = 0 := Nat.mod_one _
    have e2 : Nat.div bs.length 1 = bs.length := Nat.div_one _
    have e3 : Nat.ble (Nat.add bs.length (Ev.len (bytes zs))) cap = true := by rw [Nat.ble_eq, len_eq]; simp [bytes]; exact hle
    show bT (Nat.beq 1 1) (bT (Nat.beq (Nat.mod (Nat.add 0 (Nat.mul bs.length 1)) 1) 0) (bT (Nat.ble (Nat.add (Nat.div (Nat.add 0 (Nat.mul bs.length 1)) 1) (Ev.len (bytes zs))) cap) (forceN (Nat.add bs.length zs.length) fun q => f (.slice (some ⟨b, 0, none⟩) q cap) (upd h b (.cells cap 5 false 1 (setRows (bytes zs) (Nat.div (Nat.add 0 (Nat.mul bs.length 1)) 1) t)))))) = _
    rw [e0, e1, e2, e3, forceN_eq]
    rfl
theorem shr {k : IntKind} {a : Int} {m : Nat} {f : KV} : iShr k a (.ofNat m) f = f (.int k (Int.fdiv a (.ofNat (2 ^ (Nat.min m k.bits))))) := by
  show kInt k f (Int.fdiv a (.ofNat (Nat.pow 2 (minN m (bitsOf k))))) = _
  rw [kInt_eq, minN_eq, bitsOf_eq]; rfl

/-! ## Loops over functions -/
theorem rf {t fn n : Nat} {ps : Array Tmp} {a c : Code} {F : FF} {T : Tr Value} {D : List Deferred} {k : K} {f : Fn} {u w : Array Value} (hT : T.get t = some (.func f u w)) :
    evP (.rf (.frm t) ps a c) ⟨F, none, fn, n⟩ ⟨T, D, h⟩ k =
      rVal (F f (u.toList ++ [.func (.yield (h.next + 1)) #[] #[]]) w.toList ⟨h.next + 2, (h.b.put (some (.dfr true)) h.next).put (some (.loop ⟨.ready, none, fn, T, ps, a, c, h.next⟩)) (h.next + 1)⟩)
        fun _ h' => cLoop (blk h' (h.next + 1)) fun r => stOut r.state (oS (jumpOut r.pending) fun o => k o ⟨T, { target := .collected h.next, args := #[] } :: D, putLoop h' (h.next + 1) r .exhausted r.pending⟩) := by
  show oS (T.get t) (fun g => newB h (.dfr true) fun r h1 => rfGo ps a c ⟨F, none, fn, n⟩ ⟨T, D, h⟩ k g r [{ target := .collected r, args := #[] }] h1) = _
  rw [hT, some_, newB_eq]
  unfold rfGo
  rw [newB_eq]
  show rfOut _ _ _ _ (F f (app u.toList [.func (.yield (h.next + 1)) #[] #[]]) w.toList _) = _
  rw [app_eq]
  rfl
end Go.Ev.S
set_option linter.unusedVariables false
namespace Go.Ev.S
open Go.Ev
variable {h : Heap} {b : Nat} {F : FF}
theorem draw {l : List DO} {ro : Option Nat} {fn n : Nat} {T : Tr Value} {D : List Deferred} {k : K} :
    evP (.draw (some l)) ⟨F, ro, fn, n⟩ ⟨T, D, h⟩ k = evD l F ⟨⟨[], T⟩, h, [], [], []⟩ fun s' => merge 0 true s'.fl s'.h.b fun b _ => k .normal ⟨s'.fr.T, D, ⟨s'.h.next, b⟩⟩ := nr rfl
theorem d_nil {s : DS} {k : DS → R} : evD [] F s k = k s := nr rfl
theorem d_cons {o : DO} {l : List DO} {s : DS} {k : DS → R} : evD (o :: l) F s k = stepD o F s fun s => evD l F s k := nr rfl
section step
variable {i : I} {d : PD} {j A : Nat} {fr : Fr} {fl : List (Nat × Nat × Blk)} {old : List (Nat × Heap)} {rd : List (Nat × Nat × (Heap → R → R))} {k : DS → R}
theorem d0 : stepD ⟨⟨i, d, none⟩, 0, j, A⟩ F ⟨fr, h, fl, old, rd⟩ k = rVal (exec i F fr ⟨h.next, .leaf⟩ retK) fun v h' => bT (Nat.beq h'.next h.next) (putK d fr v fun fr => k ⟨fr, h, fl, old, rd⟩) := nr rfl
theorem d1 : stepD ⟨⟨i, d, none⟩, 1, j, A⟩ F ⟨fr, h, fl, old, rd⟩ k = rVal (exec i F fr h retK) fun v _ => tryOld A (again i F fr v) old (putK d fr v fun fr' => k ⟨fr', h, fl, old, (j, A, again i F fr v) :: rd⟩) := nr rfl
theorem d2 : stepD ⟨⟨i, d, none⟩, 2, j, A⟩ F ⟨fr, h, fl, old, rd⟩ k = rVal (exec i F fr ⟨h.next, .leaf⟩ retK) fun v h' => bT (Nat.blt h.next h'.next) (oS (h'.b.get h.next) fun b => putK d fr v fun fr => k ⟨fr, ⟨h'.next, h.b⟩, (j, h.next, b) :: fl, old, rd⟩) := nr rfl
theorem d3 : stepD ⟨⟨i, d, none⟩, 3, j, A⟩ F ⟨fr, h, fl, old, rd⟩ k = merge A false fl h.b fun b fl => exec i F fr ⟨h.next, b⟩ fun v h' => tryRd A h' rd (putK d fr v fun fr => k ⟨fr, h', fl, (j, h) :: old, rd⟩) := nr rfl
theorem to_nil {A : Nat} {f : Heap → R → R} {k : R} : tryOld A f [] k = k := nr rfl
theorem to_cons {A e : Nat} {h : Heap} {l : List (Nat × Heap)} {f : Heap → R → R} {k : R} : tryOld A f ((e, h) :: l) k = bI (bitK A e) (tryOld A f l k) (f h (tryOld A f l k)) := nr rfl
theorem tr_nil {A : Nat} {k : R} : tryRd A h [] k = k := nr rfl
theorem tr_cons {A e B : Nat} {f : Heap → R → R} {l : List (Nat × Nat × (Heap → R → R))} {k : R} : tryRd A h ((e, B, f) :: l) k = bI (bitK A e) (tryRd A h l k) (f h (tryRd A h l k)) := nr rfl
theorem again_ {i : I} {v : Value} {k : R} : again i F fr v h k = rVal (exec i F fr h retK) fun v' _ => bT (same v v') k := nr rfl
end step
/-- What is merged, with what is not. -/
noncomputable def mergeA (anc : Nat) (all : Bool) (l : List (Nat × Nat × Blk)) : Tr Blk → List (Nat × Nat × Blk) → (Tr Blk → List (Nat × Nat × Blk) → R) → R := fun b acc f =>
  List.rec (motive := fun _ => Tr Blk → List (Nat × Nat × Blk) → R) (fun b l => f b l) (fun p _ ih b l => Bool.rec (motive := fun _ => R) (ih b (p :: l)) (ih (b.put (some p.2.2) p.2.1) l) (all || bitK anc p.1)) l b acc
theorem merge_ {anc : Nat} {all : Bool} {l : List (Nat × Nat × Blk)} {b : Tr Blk} {f : Tr Blk → List (Nat × Nat × Blk) → R} : merge anc all l b f = mergeA anc all l b [] f := nr rfl
theorem ma_nil {anc : Nat} {all : Bool} {b : Tr Blk} {acc : List (Nat × Nat × Blk)} {f : Tr Blk → List (Nat × Nat × Blk) → R} : mergeA anc all [] b acc f = f b acc := nr rfl
theorem ma_all {anc j n : Nat} {B : Blk} {l : List (Nat × Nat × Blk)} {b : Tr Blk} {acc : List (Nat × Nat × Blk)} {f : Tr Blk → List (Nat × Nat × Blk) → R} : mergeA anc true ((j, n, B) :: l) b acc f = mergeA anc true l (b.put (some B) n) acc f := nr rfl
theorem ma_cons {anc j n : Nat} {B : Blk} {l : List (Nat × Nat × Blk)} {b : Tr Blk} {acc : List (Nat × Nat × Blk)} {f : Tr Blk → List (Nat × Nat × Blk) → R} :
    mergeA anc false ((j, n, B) :: l) b acc f = bI (bitK anc j) (mergeA anc false l (b.put (some B) n) acc f) (mergeA anc false l b ((j, n, B) :: acc) f) := nr rfl
theorem ret_ {v : Value} {h : Heap} : retK v h = some (.val v h) := nr rfl
theorem same_int {k : IntKind} {a : Int} : same (.int k a) (.int k a) = true := by
  show (Nat.beq (kindN k) (kindN k) && eqI a a) = true
  rw [Nat.beq_refl, eqI_eq]; simp
theorem same_bool {a : Bool} : same (.bool a) (.bool a) = true := by
  show (a == a) = true
  simp
theorem beq_self {n : Nat} : Nat.beq n n = true := Nat.beq_refl n
theorem blt_succ {n : Nat} : Nat.blt n (n + 1) = true := (blt_iff _ _).2 (Nat.lt_succ_self n)
/-- A part of a row. -/
theorem RowAt.part {row : Cells} {o j n : Nat} (hr : RowAt h b o row) (hj : j + (n + 1) ≤ row.length) {f : KV} : loadE (some (some (n + 1))) h ⟨b, o * row.length + j, none⟩ f = f (.agg ⟨(row.drop j).take (n + 1)⟩) := by
  have he := hr.elem (j := j) (by omega) (f := fun l j => nC j (bI (hasLen l (n + 1)) (f (.agg ⟨l⟩)) (bT (Nat.ble (n + 1) (Ev.len l)) (f (.agg ⟨takeE (n + 1) l⟩)))) fun j => bT (Nat.ble (Nat.add (Nat.succ j) (n + 1)) (Ev.len l)) (f (.agg ⟨takeE (n + 1) (dropE (Nat.succ j) l)⟩)))
  refine Eq.trans he ?_
  cases j with
  | zero =>
    rw [nC_0]
    cases hb : hasLen row (n + 1) with
    | true =>
      have := hasLen_eq _ _ hb
      rw [bI_t, List.drop_zero, List.take_of_length_le (by omega)]
    | false =>
      have h1 : Nat.ble (n + 1) (Ev.len row) = true := by rw [Nat.ble_eq, len_eq]; omega
      rw [bI_f, h1, bT_t, takeE_eq, List.drop_zero]
  | succ j =>
    have h1 : Nat.ble (Nat.add (Nat.succ j) (n + 1)) (Ev.len row) = true := by rw [Nat.ble_eq, len_eq]; exact hj
    rw [nC_s, h1, bT_t, takeE_eq, dropE_eq]
theorem var_part {e : TypeId} {l : Cells} (hb : h.b.get b = some (varB e l)) {j n : Nat} (hj : j + (n + 1) ≤ l.length) {f : KV} : loadE (some (some (n + 1))) h ⟨b, j, none⟩ f = f (.agg ⟨(l.drop j).take (n + 1)⟩) := by
  have := (var_row hb (by omega)).part hj (f := f)
  rwa [Nat.zero_mul, Nat.zero_add] at this
theorem RowsAt.mono {h' : Heap} {es : Nat} {v : Value} {rows : List Cells} (hr : RowsAt h es v rows) (hk : ∀ q o n c, v = .slice (some ⟨q, o, none⟩) n c → h'.b.get q = h.b.get q) : RowsAt h' es v rows := by
  obtain ⟨a, c, e, hc⟩ := hr
  refine ⟨a, c, e, ?_⟩
  rcases hc with hc | ⟨b, o, N, t, e2, h1, h2, h3⟩
  · exact .inl hc
  · subst e2
    exact .inr ⟨b, o, N, t, rfl, by rw [hk b _ _ _ e]; exact h1, h2, h3⟩
end Go.Ev.S
set_option linter.unusedVariables false
namespace Go.Ev.S
open Go.Ev
variable {h : Heap} {F : FF}
/-- A slice that grows, of its own memory. -/
def OutAt (h : Heap) (e : Elem) (v : Value) (rows : List Cells) (lo : Nat) : Prop :=
  (rows = [] ∧ v = .slice none 0 0) ∨ ∃ r t, lo ≤ r ∧ r < h.next ∧ v = .slice (some ⟨r, 0, none⟩) rows.length BIG ∧ h.b.get r = some (.cells rows.length e.e true e.sz t) ∧ ∀ k, k < rows.length → t.get k = rows[k]?
theorem OutAt.rows {e : Elem} {v : Value} {rows : List Cells} {lo : Nat} (ho : OutAt h e v rows lo) : RowsAt h e.sz v rows := by
  rcases ho with ⟨h1, h2⟩ | ⟨r, t, h1, h2, h3, h4, h5⟩
  · subst h1 h2; exact ⟨none, 0, rfl, .inl rfl⟩
  · subst h3; exact ⟨_, _, rfl, .inr ⟨r, 0, rows.length, t, by rw [Nat.zero_mul], .inl ⟨_, _, h4⟩, by omega, fun k hk => by rw [Nat.zero_add]; exact h5 k hk⟩⟩
theorem ble_f {a b : Nat} (h : b < a) : Nat.ble a b = false := by
  cases hh : Nat.ble a b with
  | false => rfl
  | true => rw [Nat.ble_eq] at hh; omega
theorem ble_t {a b : Nat} (h : a ≤ b) : Nat.ble a b = true := by rw [Nat.ble_eq]; exact h
theorem appendE_eq {e : Elem} {base xa : Option Addr} {n cap m xc : Nat} {f : KH} : appendE (some e) h (.slice base n cap) (.slice xa m xc) f = rowsOf e.sz h (.slice xa m xc) m fun new =>
    bI (Nat.ble BIG cap)
      (oS base fun a => noSpot a (cBlk (blk h a.block) fun M t g es _ => bT g (bT (Nat.beq es e.sz) (bT (Nat.beq a.off (Nat.mul (Nat.sub cap BIG) es)) (bI (Nat.ble (Nat.add (Nat.sub cap BIG) (Nat.add n m)) M)
        (appIn e h a n m cap new f)
        (bT (Nat.beq t e.e) (appNew e h ⟨h.next, h.b.put none a.block⟩ (.slice base n cap) n m new f)))))))
      (bI (Nat.ble (Nat.add n m) cap) (nC m (f (.slice base n cap) h) fun _ => oS base fun a => appIn e h a n m cap new f) (appNew e h h (.slice base n cap) n m new f)) := rfl
theorem append_row {e : Elem} {v x : Value} {rows : List Cells} {lo : Nat} {row : Cells} (ho : OutAt h e v rows lo) (hlo : lo ≤ h.next) (hx : RowsAt h e.sz x [row]) (hs : 0 < e.sz) (hby : e.by_ ≤ 4096) (hn : rows.length < 2147483647) :
    ∃ v' h', (∀ f : KH, appendE (some e) h v x f = f v' h') ∧ OutAt h' e v' (rows ++ [row]) lo ∧ h.next ≤ h'.next ∧ ∀ q, q < lo → h'.b.get q = h.b.get q := by
  obtain ⟨xa, xc, hxv, _⟩ := id hx
  subst hxv
  have hnew : ∀ (s : Value) (n : Nat) (h1 : Heap) (f : KH), n = rows.length → RowsAt h e.sz s rows → appNew e h h1 s n 1 [row] f = f (.slice (some ⟨h1.next, 0, none⟩) (n + 1) BIG) ⟨h1.next + 1, h1.b.put (some (.cells (rows ++ [row]).length e.e true e.sz (Tr.ofList (rows ++ [row])))) h1.next⟩ := fun s n h1 f hn' hr => by
    subst hn'
    have := rowsOf_eq hr hs (f := fun old => bT (Nat.ble (Nat.mul (Nat.add rows.length 1) 65536) 140737488355328) (bT (Nat.ble e.by_ 4096) (forceN (Nat.add rows.length 1) fun q => mkRows h1 e.e true e.sz (app old [row]) f q BIG)))
    refine Eq.trans this ?_
    have e1 : Nat.ble (Nat.mul (Nat.add rows.length 1) 65536) 140737488355328 = true := ble_t (by show (rows.length + 1) * 65536 ≤ _; omega)
    rw [e1, ble_t hby, bT_t, bT_t, forceN_eq, app_eq, mkRows_eq]
  have hout : ∀ (h1 : Heap), h1.next = h.next → OutAt ⟨h1.next + 1, h1.b.put (some (.cells (rows ++ [row]).length e.e true e.sz (Tr.ofList (rows ++ [row])))) h1.next⟩ e (.slice (some ⟨h1.next, 0, none⟩) (rows.length + 1) BIG) (rows ++ [row]) lo := fun h1 e1 =>
    .inr ⟨h1.next, _, by omega, Nat.lt_succ_self _, by simp, Tr.get_put_self _ _, fun k hk => Tr.get_ofList_eq _ _⟩
  have hrow1 := fun g => rowsOf_eq (f := g) hx hs
  rcases id ho with ⟨h1, h2⟩ | ⟨r, t, h1, h2, h3, h4, h5⟩
  · subst h1 h2
    refine ⟨_, _, fun f => ?_, hout h rfl, Nat.le_succ _, fun q hq => Tr.get_put_ne _ _ _ (by omega)⟩
    have z1 : Nat.ble BIG 0 = false := ble_f (show 0 < BIG from Nat.zero_lt_succ 9223372036854775807)
    have z2 : Nat.ble (Nat.add 0 [row].length) 0 = false := ble_f (show 0 < 0 + 1 by omega)
    rw [appendE_eq, hrow1, z1, bI_f, z2, bI_f]
    exact hnew _ 0 h f rfl ho.rows
  · subst h3
    refine ⟨_, _, fun f => ?_, hout ⟨h.next, h.b.put none r⟩ rfl, Nat.le_succ _, fun q hq => ?_⟩
    · rw [appendE_eq, hrow1]
      show bI (Nat.ble BIG BIG) (cBlk (h.b.get r) fun M t g es _ => bT g (bT (Nat.beq es e.sz) (bT (Nat.beq 0 (Nat.mul (Nat.sub BIG BIG) es)) (bI (Nat.ble (Nat.add (Nat.sub BIG BIG) (Nat.add rows.length 1)) M) (appIn e h ⟨r, 0, none⟩ rows.length 1 BIG [row] f)
        (bT (Nat.beq t e.e) (appNew e h ⟨h.next, h.b.put none r⟩ (.slice (some ⟨r, 0, none⟩) rows.length BIG) rows.length 1 [row] f)))))) _ = _
      rw [ble_t (Nat.le_refl BIG), bI_t, h4]
      show bT (Nat.beq e.sz e.sz) (bT (Nat.beq 0 (Nat.mul (Nat.sub BIG BIG) e.sz)) (bI (Nat.ble (Nat.add (Nat.sub BIG BIG) (Nat.add rows.length 1)) rows.length) _ (bT (Nat.beq e.e e.e) (appNew e h ⟨h.next, h.b.put none r⟩ (.slice (some ⟨r, 0, none⟩) rows.length BIG) rows.length 1 [row] f)))) = _
      have e0 : Nat.sub BIG BIG = 0 := Nat.sub_self BIG
      have e1 : Nat.mul 0 e.sz = 0 := Nat.zero_mul _
      have e2 : Nat.ble (Nat.add 0 (Nat.add rows.length 1)) rows.length = false := ble_f (by show rows.length < 0 + (rows.length + 1); omega)
      rw [e0, e1, e2, Nat.beq_refl, Nat.beq_refl, Nat.beq_refl]
      exact hnew _ rows.length ⟨h.next, h.b.put none r⟩ f rfl ho.rows
    · show ((h.b.put none r).put _ h.next).get q = _
      rw [Tr.get_put_ne _ _ _ (by omega), Tr.get_put_ne _ _ _ (by omega)]
end Go.Ev.S
