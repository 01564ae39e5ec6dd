/- Code, functions, loops over functions: what the evaluator answers is what the machine does, given EnvOK and what is said of drawn regions (DrawOK). -/
import Derived.Test.YtphkjlkgfcjbmaaGreatDoorEvB
import Derived.RangeFuncLeaves
import Derived.RangeFuncRecord
import Derived.RangeFuncNested
import Derived.RangeFuncIn
import Derived.Conc.MuLone
set_option linter.all false
set_option linter.unusedVariables false
namespace Go.Ev
variable {P : Program} {E : Env} {M : MN} {r : Res} {F : FF}

theorem op_steps {b : Frame} {a : Act} {k : List Item} {cs : List Frame} {w w' : World} {ops : Array Oper} {i : Nat} {rest : List Nat} {o : Oper} {v : Value} (ho : ops[i]? = some o) (hw : Region.wanted o (yielded ops a.tmps) = true)
    (hnd : ∀ c, o.op ≠ .defer c) (hd : Does P a.eval o.op w v w') :
    Steps P (lone (b.atR a (.inRegion ops (i :: rest) :: k)) cs w) (lone (b.atR (a.put o.dst v) (.inRegion ops rest :: k)) cs w') := by
  obtain ⟨nx, w₁, hrun, hnext⟩ := hd o rfl
  have hs := stepGR_op (P := P) (b := b) (a := a) (k := k) (cs := cs) (w := w) (ops := ops) (rest := rest) ho hw
  rw [Oper.semAt_eq _ _ _ hnd] at hs
  have hdst : (ops[i]?).bind (·.dst) = o.dst := by rw [ho]; rfl
  have hfin : ∀ v, (b.atR a (.inRegion ops (i :: rest) :: k)).finish v = b.atR (a.put o.dst v) (.inRegion ops rest :: k) := fun v => by
    rw [Frame.finish_atR, hdst]
  cases nx with
  | value u =>
    obtain ⟨rfl, rfl⟩ := hnext
    rw [← hfin]
    exact .one (step_lone_go (by rw [hs]; simp [stepG.apply, Sem.runT_eq, hrun]))
  | skip =>
    obtain ⟨rfl, rfl⟩ := hnext
    rw [← hfin]
    exact .one (step_lone_go (by rw [hs]; simp [stepG.apply, Sem.runT_eq, hrun]))
  | enter f args =>
    rw [← hfin]
    exact .head (step_lone_go (by rw [hs]; simp [stepG.apply, Sem.runT_eq, hrun, Frame.atR])) (hnext _ _)
  | round l f tmps assign body =>
    rw [← hfin]
    exact .head (step_lone_go (by rw [hs]; simp [stepG.apply, Sem.runT_eq, hrun, Frame.atR])) (hnext _ _)
  | _ => exact hnext.elim

theorem putK_ok {dst : Option Tmp} {fr : Fr} {v : Value} {f : Fr → R} (hh : putK (pd M dst) fr v f = some r) :
    ∃ fr', f fr' = some r ∧ ∀ σ (a : Act) v', FrR M σ fr a → VR σ v v' → FrR M σ fr' (a.put dst v') := by
  cases dst with
  | none => exact ⟨fr, hh, fun σ a v' h _ => h⟩
  | some t =>
    unfold pd at hh
    simp only [] at hh
    cases hb : Nat.blt t M.nt with
    | false => rw [hb] at hh; cases hh
    | true =>
      have hlt := (blt_iff _ _).1 hb
      rw [hb] at hh
      cases hm : Nat.testBit M.m t with
      | true =>
        rw [hm] at hh
        refine ⟨_, hh, fun σ a v' h hv => ⟨by have := h.size; simpa [Act.put] using this, fun t2 u ht hu => ?_, fun t2 u ht hu => ?_⟩⟩
        · have hne : t ≠ t2 := fun e => by subst e; rw [hm] at ht; cases ht
          obtain ⟨u', h1, h2⟩ := h.T t2 u ht hu
          exact ⟨u', by simpa [Act.put, hne] using h1, h2⟩
        · unfold firstL at hu
          split at hu
          · rename_i e
            cases hu
            have e : t = t2 := e
            subst e
            have := h.size
            exact ⟨v', Array.getElem?_setIfInBounds_self_of_lt (by omega), hv⟩
          · rename_i e
            have hne : t ≠ t2 := e
            obtain ⟨u', h1, h2⟩ := h.L t2 u ht hu
            exact ⟨u', by simpa [Act.put, hne] using h1, h2⟩
      | false =>
        rw [hm] at hh
        refine ⟨_, hh, fun σ a v' h hv => ⟨by have := h.size; simpa [Act.put] using this, fun t2 u ht hu => ?_, fun t2 u ht hu => ?_⟩⟩
        · rcases Tr.get_put _ _ _ _ hu with ⟨e, e2⟩ | ⟨hne, hu'⟩
          · cases e2
            subst e
            have := h.size
            exact ⟨v', Array.getElem?_setIfInBounds_self_of_lt (by omega), hv⟩
          · obtain ⟨u', h1, h2⟩ := h.T t2 u ht hu'
            exact ⟨u', by simpa [Act.put, Ne.symm hne] using h1, h2⟩
        · have hne : t ≠ t2 := fun e => by subst e; rw [hm] at ht; cases ht
          obtain ⟨u', h1, h2⟩ := h.L t2 u ht hu
          exact ⟨u', by simpa [Act.put, hne] using h1, h2⟩

theorem wantK_ok (hM : M.ng = E.ng) {ops : Array Oper} {o : Oper} {fr : Fr} {f : Bool → R} (hh : wantK (guardOf M ops.toList o.guard) fr f = some r) :
    ∃ b, f b = some r ∧ ∀ σ (a : Act), GOK E σ → FrR M σ fr a → Region.wanted o (yielded ops a.tmps) = b := by
  cases hg : o.guard with
  | none => rw [hg] at hh; exact ⟨true, hh, fun σ a _ _ => by simp [Region.wanted, hg]⟩
  | some g =>
    obtain ⟨j, want⟩ := g
    rw [hg] at hh
    unfold guardOf at hh
    simp only [] at hh
    cases hj : ops.toList[j]? with
    | none => rw [hj] at hh; cases hh
    | some o' =>
      rw [hj] at hh
      simp only [] at hh
      cases hd : o'.dst with
      | none => rw [hd] at hh; cases hh
      | some t =>
        rw [hd] at hh
        obtain ⟨v, h1, hv⟩ := evO_ok hM (x := .tmp t) (show evO (po M (.tmp t)) fr (fun v => vGuard v (f false) fun t => f (Bool.rec (motive := fun _ => Bool) (notB want) want t)) = some r from hh)
        have hj' : ops[j]? = some o' := by simpa using hj
        rcases vGuard_inv h1 with ⟨q, e, h2⟩ | ⟨q, e, h2⟩
        · subst e
          refine ⟨_, h2, fun σ a hgo hfr => ?_⟩
          have h3 := (hv σ a hgo hfr).bool_inv
          have h4 : a.tmps[t]? = some (.bool q) := by
            simp only [Act.eval, Array.getD_eq_getD_getElem?] at h3
            cases ht : a.tmps[t]? with
            | none => rw [ht] at h3; cases h3
            | some u => rw [ht] at h3; exact congrArg some h3
          have hy : yielded ops a.tmps j = some q := by simp [yielded, hj', hd, h4]
          simp only [Region.wanted, hg, hy, notB_eq]
          cases q <;> cases want <;> rfl
        · subst e
          refine ⟨_, h2, fun σ a hgo hfr => ?_⟩
          obtain ⟨q', h3, _⟩ := (hv σ a hgo hfr).tuple_inv
          have hy : yielded ops a.tmps j = none := by
            simp only [Act.eval, Array.getD_eq_getD_getElem?] at h3
            cases ht : a.tmps[t]? with
            | none => simp [yielded, hj', hd, ht]
            | some u => rw [ht] at h3; simp at h3; subst h3; simp [yielded, hj', hd, ht]
          simp only [Region.wanted, hg, hy]
          cases want <;> rfl

/-- What steps do to a frame. -/
def Runs (P : Program) (E : Env) (M : MN) (h : Heap) (h' : Heap) (fr fr' : Fr) (σ : Sg) (w : World) (a : Act) (at_ : Frame → List Item → List Frame → Act → World → Machine) (at' : Frame → List Item → List Frame → Act → World → Machine) : Prop :=
  ∃ a' w' τ, (∀ b kk cs, Steps P (at_ b kk cs a w) (at' b kk cs a' w')) ∧ Go E σ h w τ h' w' ∧ FrR M τ fr' a' ∧ a'.defers = a.defers

theorem not_defer {op : Op} {fr : Fr} {h : Heap} {f : KH} (hh : exec (ready E M op) F fr h f = some r) : ∀ c, op ≠ .defer c := fun c e => by subst e; cases hh

theorem stepO_ok (ok : EnvOK P E) (hM : M.ng = E.ng) (hF : FFOK P E F) {ops : Array Oper} {i : Nat} {o : Oper} (ho : ops[i]? = some o) {fr : Fr} {h : Heap} {k : Fr → Heap → R} (hh : stepO (ro E M ops.toList o) F fr h k = some r) :
    ∃ fr' h', k fr' h' = some r ∧ h.next ≤ h'.next ∧ ∀ σ w a, GOK E σ → HR E σ h w → FrR M σ fr a → Fresh σ h.next h'.next → ∀ (rest : List Nat),
      Runs P E M h h' fr fr' σ w a (fun b kk cs a w => lone (b.atR a (.inRegion ops (i :: rest) :: kk)) cs w) (fun b kk cs a w => lone (b.atR a (.inRegion ops rest :: kk)) cs w) := by
  have hh : wantK (guardOf M ops.toList o.guard) fr (fun w => bI w (exec (ready E M o.op) F fr h fun v h => putK (pd M o.dst) fr v fun fr => k fr h) (putK (pd M o.dst) fr undef fun fr => k fr h)) = some r := hh
  obtain ⟨b, h1, hw⟩ := wantK_ok (E := E) hM hh
  rw [bI_eq] at h1
  cases b with
  | true =>
    have hnd := not_defer h1
    obtain ⟨v, h', h2, hn, hop⟩ := exec_ok ok hM hF o.op fr h _ r h1
    obtain ⟨fr', h3, hfr'⟩ := putK_ok h2
    refine ⟨fr', h', h3, hn, fun σ w a hg hr hfr fre rest => ?_⟩
    obtain ⟨v', w', τ, hd, hv, hgo⟩ := hop hF σ w a hg hr hfr fre
    exact ⟨a.put o.dst v', w', τ, fun b kk cs => op_steps ho (hw σ a hg hfr) hnd hd, hgo, hfr' τ a v' (hfr.mono hgo.ext) hv, by cases o.dst <;> rfl⟩
  | false =>
    obtain ⟨fr', h3, hfr'⟩ := putK_ok (show putK (pd M o.dst) fr undef (fun fr => k fr h) = some r from h1)
    refine ⟨fr', h, h3, Nat.le_refl _, fun σ w a hg hr hfr fre rest => ?_⟩
    have hskip := fun b kk cs => stepR_op_skip (P := P) (b := b) (a := a) (k := kk) (cs := cs) (w := w) (ops := ops) (i := i) (rest := rest) (by rw [ho]; simpa using hw σ a hg hfr)
    rw [show (ops[i]?).bind (·.dst) = o.dst from by rw [ho]; rfl] at hskip
    exact ⟨a.put o.dst undef, w, σ, fun b kk cs => .one (hskip b kk cs), Go.refl hr, hfr' σ a undef hfr VR.undef, by cases o.dst <;> rfl⟩

theorem GOK.go {σ τ : Sg} {h h' : Heap} {w w' : World} (hg : GOK E σ) (g : Go E σ h w τ h' w') : GOK E τ := hg.mono g.ext

/-- The operations of a region, in their order. -/
theorem evOps_ok (ok : EnvOK P E) (hM : M.ng = E.ng) (hF : FFOK P E F) {ops : Array Oper} : ∀ {l : List Oper} {i : Nat} {fr : Fr} {h : Heap} {k : Fr → Heap → R}, (∀ j o, l[j]? = some o → ops[i + j]? = some o) →
    evOps (readyOps E M ops.toList l) F fr h k = some r →
    ∃ fr' h', k fr' h' = some r ∧ h.next ≤ h'.next ∧ ∀ σ w a, GOK E σ → HR E σ h w → FrR M σ fr a → Fresh σ h.next h'.next →
      Runs P E M h h' fr fr' σ w a (fun b kk cs a w => lone (b.atR a (.inRegion ops (List.range' i l.length) :: kk)) cs w) (fun b kk cs a w => lone (b.atR a (.inRegion ops [] :: kk)) cs w)
  | [], i, fr, h, k, hl, hh => ⟨fr, h, hh, Nat.le_refl _, fun σ w a hg hr hfr _ => ⟨a, w, σ, fun b kk cs => .refl _ _, Go.refl hr, hfr, rfl⟩⟩
  | o :: l, i, fr, h, k, hl, hh => by
    obtain ⟨fr1, h1, hh1, hn1, hs1⟩ := stepO_ok ok hM hF (hl 0 o rfl) hh
    obtain ⟨fr2, h2, hh2, hn2, hs2⟩ := evOps_ok ok hM hF (l := l) (i := i + 1) (fun j o ho => by rw [show i + 1 + j = i + (j + 1) from by omega]; exact hl (j + 1) o ho) hh1
    refine ⟨fr2, h2, hh2, by omega, fun σ w a hg hr hfr fre => ?_⟩
    obtain ⟨a1, w1, τ1, s1, g1, f1, d1⟩ := hs1 σ w a hg hr hfr (fre.left hn2) (List.range' (i + 1) l.length)
    obtain ⟨a2, w2, τ2, s2, g2, f2, d2⟩ := hs2 τ1 w1 a1 (hg.go g1) g1.hr f1 (fre.of_go g1)
    exact ⟨a2, w2, τ2, fun b kk cs => by rw [List.length_cons, List.range'_succ]; exact (s1 b kk cs).trans (s2 b kk cs), g1.trans g2, f2, d2.trans d1⟩
end Go.Ev
set_option linter.unusedVariables false
namespace Go.Ev
variable {P : Program} {E : Env} {M : MN} {r : Res} {F : FF}

/-- The calls that a frame has put off: marks alone. -/
def DR (σ : Sg) : List Deferred → List Deferred → Prop
  | [], [] => True
  | d :: D, d' :: D' => (∃ n n', d = { target := .collected n, args := #[] } ∧ d' = { target := .collected n', args := #[] } ∧ NR σ n n') ∧ DR σ D D'
  | _, _ => False
theorem DR.mono {σ τ : Sg} (e : Ext σ τ) : ∀ {D D' : List Deferred}, DR σ D D' → DR τ D D'
  | [], [], _ => trivial
  | d :: D, d' :: D', ⟨⟨n, n', h1, h2, h3⟩, h4⟩ => ⟨⟨n, n', h1, h2, h3.mono e⟩, DR.mono e h4⟩
  | [], _ :: _, h => h.elim
  | _ :: _, [], h => h.elim

structure StR (M : MN) (σ : Sg) (s : St) (a : Act) : Prop where
  T : TR M σ s.T a.tmps
  D : DR σ s.D a.defers
theorem StR.mono {σ τ : Sg} (e : Ext σ τ) {s : St} {a : Act} (h : StR M σ s a) : StR M τ s a := ⟨h.T.mono e, h.D.mono e⟩
theorem StR.frR {σ : Sg} {s : St} {a : Act} (h : StR M σ s a) : FrR M σ ⟨[], s.T⟩ a := ⟨h.T.1, h.T.2, fun t v _ hv => by cases hv⟩
theorem FrR.tr {σ : Sg} {fr : Fr} {a : Act} (h : FrR M σ fr a) : TR M σ fr.T a.tmps := ⟨h.size, h.T⟩

/-- The frame is one of the function's, or one of a round of its loop. -/
structure FB (σ : Sg) (cx : Cx) (b : Frame) : Prop where
  fn : b.fn = cx.fn
  ro : (cx.ro = none ∧ b.roundOf = none) ∨ ∃ l l', cx.ro = some l ∧ b.roundOf = some l' ∧ NR σ l l'
theorem FB.mono {σ τ : Sg} (e : Ext σ τ) {cx : Cx} {b : Frame} (h : FB σ cx b) : FB τ cx b :=
  ⟨h.fn, h.ro.imp id fun ⟨l, l', h1, h2, h3⟩ => ⟨l, l', h1, h2, h3.mono e⟩⟩

def todoOut (o : Out) (its kk : List Item) : List Item :=
  match o with
  | .normal => kk
  | .exit i => .code (.exit i) :: (its ++ kk)
  | .ret => .code .ret :: its
/-- From one todo to another. -/
def Go2 (P : Program) (E : Env) (M : MN) (cx : Cx) (s s' : St) (o : Out) (t : List Item → List Item) : Prop :=
  ∀ σ w a b, GOK E σ → HR E σ s.h w → StR M σ s a → FB σ cx b → Fresh σ s.h.next s'.h.next → ∃ a' w' τ, Go E σ s.h w τ s'.h w' ∧ StR M τ s' a' ∧ ∀ kk cs, ∃ its,
    Steps P (lone (b.atR a (t kk)) cs w) (lone (b.atR a' (todoOut o its kk)) cs w') ∧ (∀ i, o = .exit i → ∀ q, exitTo i (its ++ q) = exitTo i q)
def KOK (P : Program) (E : Env) (M : MN) (f : Cx → St → K → R) (t : List Item → List Item) : Prop :=
  ∀ cx s k r, FFOK P E cx.F → (∀ p, pf E cx.fn = some p → p.M = M) → f cx s k = some r → ∃ o s', k o s' = some r ∧ s.h.next ≤ s'.h.next ∧ Go2 P E M cx s s' o t
def CodeOK (P : Program) (E : Env) (M : MN) (c : Code) : Prop := KOK P E M (evC E M c) (fun kk => .code c :: kk)

/-- One step ahead of the rest. -/
theorem Go2.head {cx : Cx} {s s' : St} {o : Out} {t t' : List Item → List Item} (h : Go2 P E M cx s s' o t) (hs : ∀ (b : Frame) a kk cs w, step P (lone (b.atR a (t' kk)) cs w) = .next (lone (b.atR a (t kk)) cs w)) : Go2 P E M cx s s' o t' :=
  fun σ w a b hg hr hst hb fre => by
    obtain ⟨a', w', τ, g, f, h1⟩ := h σ w a b hg hr hst hb fre
    refine ⟨a', w', τ, g, f, fun kk cs => ?_⟩
    obtain ⟨its, h2, h3⟩ := h1 kk cs
    exact ⟨its, .head (hs b a kk cs w) h2, h3⟩
/-- Two runs, one after the other. -/
theorem Go2.seq {cx : Cx} {s s1 s2 : St} {o : Out} {t u : List Item → List Item} (h : Go2 P E M cx s s1 .normal t) (hn1 : s.h.next ≤ s1.h.next) (h' : Go2 P E M cx s1 s2 o u) (hn2 : s1.h.next ≤ s2.h.next) :
    Go2 P E M cx s s2 o (fun kk => t (u kk)) := fun σ w a b hg hr hst hb fre => by
  obtain ⟨a1, w1, τ1, g1, f1, s1⟩ := h σ w a b hg hr hst hb (fre.left hn2)
  obtain ⟨a2, w2, τ2, g2, f2, s2⟩ := h' τ1 w1 a1 b (hg.go g1) g1.hr f1 (hb.mono g1.ext) (fre.of_go g1)
  refine ⟨a2, w2, τ2, g1.trans g2, f2, fun kk cs => ?_⟩
  obtain ⟨its1, s1, _⟩ := s1 (u kk) cs
  obtain ⟨its2, s2, e2⟩ := s2 kk cs
  exact ⟨its2, s1.trans s2, e2⟩
/-- What is left by a jump. -/
theorem Go2.jump {cx : Cx} {s s1 : St} {o : Out} {t : List Item → List Item} {its0 : List Item} (h : Go2 P E M cx s s1 o t) (ho : o ≠ .normal) (hi : ∀ i, o = .exit i → ∀ q, exitTo i (its0 ++ q) = exitTo i q) :
    Go2 P E M cx s s1 o (fun kk => t (its0 ++ kk)) := fun σ w a b hg hr hst hb fre => by
  obtain ⟨a1, w1, τ1, g1, f1, s1⟩ := h σ w a b hg hr hst hb fre
  refine ⟨a1, w1, τ1, g1, f1, fun kk cs => ?_⟩
  obtain ⟨its1, s1, e1⟩ := s1 (its0 ++ kk) cs
  cases o with
  | normal => exact absurd rfl ho
  | exit i => exact ⟨its1 ++ its0, by simpa [todoOut] using s1, fun j e q => by cases e; rw [List.append_assoc, e1 i rfl, hi i rfl]⟩
  | ret => exact ⟨its1, s1, fun j e => by cases e⟩

theorem step_scope {b : Frame} {a : Act} {kk : List Item} {cs : List Frame} {w : World} {c : Code} : step P (lone (b.atR a (.code (.scope c) :: kk)) cs w) = .next (lone (b.atR a (.code c :: .inScope c :: kk)) cs w) :=
  step_lone_go (by simp [stepG, stepG.exec, Frame.atR])
theorem step_inScope {b : Frame} {a : Act} {kk : List Item} {cs : List Frame} {w : World} {c : Code} : step P (lone (b.atR a (.inScope c :: kk)) cs w) = .next (lone (b.atR a kk) cs w) :=
  step_lone_go (by simp [stepG, stepG.exec, Frame.atR])

theorem go2_refl {cx : Cx} {s : St} : Go2 P E M cx s s .normal (fun kk => kk) := fun σ w a b hg hr hst hb fre => ⟨a, w, σ, Go.refl hr, hst, fun kk cs => ⟨[], .refl _ _, fun i e => by cases e⟩⟩

theorem code_skip : CodeOK P E M .skip := fun cx s k r hF hp hh => ⟨.normal, s, hh, Nat.le_refl _, go2_refl.head fun b a kk cs w => stepR_skip⟩
theorem code_label (l : Nat) : CodeOK P E M (.label l) := fun cx s k r hF hp hh => ⟨.normal, s, hh, Nat.le_refl _, go2_refl.head fun b a kk cs w => stepR_label⟩
theorem code_exit (i : Nat) : CodeOK P E M (.exit i) := fun cx s k r hF hp hh => ⟨.exit i, s, hh, Nat.le_refl _, fun σ w a b hg hr hst hb fre => ⟨a, w, σ, Go.refl hr, hst, fun kk cs => ⟨[], .refl _ _, fun j e q => rfl⟩⟩⟩
theorem code_ret : CodeOK P E M .ret := fun cx s k r hF hp hh => ⟨.ret, s, hh, Nat.le_refl _, fun σ w a b hg hr hst hb fre => ⟨a, w, σ, Go.refl hr, hst, fun kk cs => ⟨kk, .refl _ _, fun j e => by cases e⟩⟩⟩
theorem code_seq {x y : Code} (hx : CodeOK P E M x) (hy : CodeOK P E M y) : CodeOK P E M (.seq x y) := fun cx s k r hF hp hh => by
  obtain ⟨o, s1, h1, hn1, g1⟩ := hx cx s _ r hF hp (show evC E M x cx s (seqK (evC E M y) cx k) = some r from hh)
  have hst : ∀ (b : Frame) a kk cs w, step P (lone (b.atR a (.code (.seq x y) :: kk)) cs w) = .next (lone (b.atR a (.code x :: .code y :: kk)) cs w) := fun b a kk cs w => stepR_seq
  cases o with
  | normal =>
    obtain ⟨o2, s2, h2, hn2, g2⟩ := hy cx s1 k r hF hp h1
    exact ⟨o2, s2, h2, by omega, (g1.seq hn1 g2 hn2).head hst⟩
  | exit i => exact ⟨.exit i, s1, h1, hn1, (g1.jump (its0 := [.code y]) (by simp) (fun j _ q => rfl)).head hst⟩
  | ret => exact ⟨.ret, s1, h1, hn1, (g1.jump (its0 := [.code y]) (by simp) (fun j e => by cases e)).head hst⟩
theorem code_cond (hM : M.ng = E.ng) {c : Operand} {x y : Code} (hx : CodeOK P E M x) (hy : CodeOK P E M y) : CodeOK P E M (.cond c x y) := fun cx s k r hF hp hh => by
  obtain ⟨v, h1, hv⟩ := evO_ok (E := E) hM (show evO (po M c) ⟨[], s.T⟩ (fun v => vBool v fun t => Bool.rec (motive := fun _ => R) (evC E M y cx s k) (evC E M x cx s k) t) = some r from hh)
  obtain ⟨t, e, h2⟩ := vBool_inv h1
  subst e
  cases t with
  | true =>
    obtain ⟨o, s1, h3, hn, g⟩ := hx cx s k r hF hp h2
    refine ⟨o, s1, h3, hn, fun σ w a b hg hr hst hb fre => ?_⟩
    obtain ⟨a', w', τ, g1, f1, h4⟩ := g σ w a b hg hr hst hb fre
    refine ⟨a', w', τ, g1, f1, fun kk cs => ?_⟩
    obtain ⟨its, h4, h5⟩ := h4 kk cs
    exact ⟨its, .head (stepR_cond ((hv σ a hg hst.frR).bool_inv)) h4, h5⟩
  | false =>
    obtain ⟨o, s1, h3, hn, g⟩ := hy cx s k r hF hp h2
    refine ⟨o, s1, h3, hn, fun σ w a b hg hr hst hb fre => ?_⟩
    obtain ⟨a', w', τ, g1, f1, h4⟩ := g σ w a b hg hr hst hb fre
    refine ⟨a', w', τ, g1, f1, fun kk cs => ?_⟩
    obtain ⟨its, h4, h5⟩ := h4 kk cs
    exact ⟨its, .head (stepR_cond ((hv σ a hg hst.frR).bool_inv)) h4, h5⟩
theorem code_block {id : Nat} {x : Code} (hx : CodeOK P E M x) : CodeOK P E M (.block id x) := fun cx s k r hF hp hh => by
  obtain ⟨o, s1, h1, hn1, g1⟩ := hx cx s _ r hF hp (show evC E M x cx s (blockK id k) = some r from hh)
  have hst : ∀ (b : Frame) a kk cs w, step P (lone (b.atR a (.code (.block id x) :: kk)) cs w) = .next (lone (b.atR a (.code x :: .inBlock id :: kk)) cs w) := fun b a kk cs w => stepR_block
  cases o with
  | normal => exact ⟨.normal, s1, h1, hn1, (g1.seq hn1 (go2_refl.head (t' := fun kk => .inBlock id :: kk) fun b a kk cs w => stepR_inBlock) (Nat.le_refl _)).head hst⟩
  | exit i =>
    have h8 : Bool.rec (motive := fun _ => St → R) (k (.exit i)) (k .normal) (Nat.beq i id) s1 = some r := h1
    clear h1
    cases hb : Nat.beq i id with
    | true =>
      rw [hb] at h8
      have e := Nat.eq_of_beq_eq_true hb
      subst e
      refine ⟨.normal, s1, h8, hn1, fun σ w a b hg hr hst' hb fre => ?_⟩
      obtain ⟨a', w', τ, h5, h6, h4⟩ := g1 σ w a b hg hr hst' hb fre
      refine ⟨a', w', τ, h5, h6, fun kk cs => ?_⟩
      obtain ⟨its, h4, h7⟩ := h4 (.inBlock i :: kk) cs
      refine ⟨[], .head (hst b a kk cs w) (h4.trans (.one (stepR_exit ?_))), fun j e => by cases e⟩
      rw [h7 i rfl]
      simp [exitTo, todoOut]
    | false =>
      rw [hb] at h8
      have hne : (id == i) = false := by
        have : i ≠ id := fun e => by subst e; rw [Nat.beq_refl] at hb; cases hb
        simpa using Ne.symm this
      exact ⟨.exit i, s1, h8, hn1, (g1.jump (its0 := [.inBlock id]) (by simp) (fun j e q => by cases e; simp [exitTo, hne])).head hst⟩
  | ret => exact ⟨.ret, s1, h1, hn1, (g1.jump (its0 := [.inBlock id]) (by simp) (fun j e => by cases e)).head hst⟩
theorem code_scope {x : Code} (hx : CodeOK P E M x) : CodeOK P E M (.scope x) := fun cx s k r hF hp hh => by
  obtain ⟨o, s1, h1, hn1, g1⟩ := hx cx s _ r hF hp (show evC E M x cx s k = some r from hh)
  have hst : ∀ (b : Frame) a kk cs w, step P (lone (b.atR a (.code (.scope x) :: kk)) cs w) = .next (lone (b.atR a (.code x :: .inScope x :: kk)) cs w) := fun b a kk cs w => step_scope
  cases o with
  | normal => exact ⟨.normal, s1, h1, hn1, (g1.seq hn1 (go2_refl.head (t' := fun kk => .inScope x :: kk) fun b a kk cs w => step_inScope) (Nat.le_refl _)).head hst⟩
  | exit i => exact ⟨.exit i, s1, h1, hn1, (g1.jump (its0 := [.inScope x]) (by simp) (fun j _ q => rfl)).head hst⟩
  | ret => exact ⟨.ret, s1, h1, hn1, (g1.jump (its0 := [.inScope x]) (by simp) (fun j e => by cases e)).head hst⟩
theorem loopS_ok {x : Code} (hx : CodeOK P E M x) {cx : Cx} (hF : FFOK P E cx.F) (hp : ∀ p, pf E cx.fn = some p → p.M = M) {k : K} : ∀ (n : Nat) (s : St), loopS (evC E M x) cx k n s = some r →
    ∃ o s', k o s' = some r ∧ s.h.next ≤ s'.h.next ∧ Go2 P E M cx s s' o (fun kk => .code x :: .inLoop x :: kk)
  | 0, s, h => by cases h
  | n + 1, s, h => by
    obtain ⟨o, s1, h1, hn1, g1⟩ := hx cx s _ r hF hp (show evC E M x cx s (fun o => Out.rec (motive := fun _ => St → R) (loopS (evC E M x) cx k n) (fun i => k (.exit i)) (k .ret) o) = some r from h)
    cases o with
    | normal =>
      obtain ⟨o2, s2, h2, hn2, g2⟩ := loopS_ok hx hF hp n s1 h1
      exact ⟨o2, s2, h2, by omega, g1.seq hn1 (g2.head (t' := fun kk => .inLoop x :: kk) fun b a kk cs w => stepR_inLoop) hn2⟩
    | exit i => exact ⟨.exit i, s1, h1, hn1, g1.jump (its0 := [.inLoop x]) (by simp) (fun j _ q => rfl)⟩
    | ret => exact ⟨.ret, s1, h1, hn1, g1.jump (its0 := [.inLoop x]) (by simp) (fun j e => by cases e)⟩
theorem code_loop {x : Code} (hx : CodeOK P E M x) : CodeOK P E M (.loop x) := fun cx s k r hF hp hh => by
  obtain ⟨o, s1, h1, hn1, g1⟩ := loopS_ok hx hF hp cx.fuel s (show loopS (evC E M x) cx k cx.fuel s = some r from hh)
  exact ⟨o, s1, h1, hn1, g1.head fun b a kk cs w => stepR_loop⟩
theorem code_region (ok : EnvOK P E) (hM : M.ng = E.ng) {id : Nat} {ops : Array Oper} : CodeOK P E M (.region id ops false) := fun cx s k r hF hp hh => by
  obtain ⟨fr, h, h1, hn, hs⟩ := evOps_ok ok hM hF (ops := ops) (l := ops.toList) (i := 0) (fun j o ho => by simpa using ho)
    (show evOps (readyOps E M ops.toList ops.toList) cx.F ⟨[], s.T⟩ s.h (fun fr h => k .normal ⟨fr.T, s.D, h⟩) = some r from hh)
  refine ⟨.normal, _, h1, hn, fun σ w a b hg hr hst hb fre => ?_⟩
  obtain ⟨a', w', τ, h2, h3, h4, h5⟩ := hs σ w a hg hr hst.frR fre
  refine ⟨a', w', τ, h3, ⟨h4.tr, by rw [h5]; exact hst.D.mono h3.ext⟩, fun kk cs => ⟨[], .head stepR_region (Steps.trans (m₁ := lone (b.atR a' (.inRegion ops [] :: kk)) cs w') ?_ (.one stepR_region_end)), fun i e => by cases e⟩⟩
  rw [List.range_eq_range', ← Array.length_toList]
  exact h2 b kk cs

/-- Code, but for what is left to show of regions whose order is open, and of loops over functions. -/
theorem code_ok (ok : EnvOK P E) (hM : M.ng = E.ng) (hD : ∀ id ops, CodeOK P E M (.region id ops true)) (hL : ∀ g ps assign body, CodeOK P E M (.rangeFunc g ps assign body)) : ∀ c : Code, CodeOK P E M c
  | .skip => code_skip
  | .region id ops true => hD id ops
  | .region id ops false => code_region ok hM
  | .seq a b => code_seq (code_ok ok hM hD hL a) (code_ok ok hM hD hL b)
  | .cond c a b => code_cond hM (code_ok ok hM hD hL a) (code_ok ok hM hD hL b)
  | .block id a => code_block (code_ok ok hM hD hL a)
  | .loop a => code_loop (code_ok ok hM hD hL a)
  | .rangeFunc g ps assign body => hL g ps assign body
  | .exit i => code_exit i
  | .scope a => code_scope (code_ok ok hM hD hL a)
  | .label l => code_label l
  | .goto l => fun cx s k r hF hp hh => by cases hh
  | .ret => code_ret
  | .refuse why => fun cx s k r hF hp hh => by cases hh
end Go.Ev
set_option linter.unusedVariables false
namespace Go.Ev
variable {P : Program} {E : Env} {M : MN} {r : Res} {F : FF}

/-- What a result variable holds. -/
def resOf (tmps : Array Value) : ResultVar → Sem Value
  | .tmp t => pure (tmps.getD t undef)
  | .cell a t => do loadVar t (← asAddr (tmps.getD a undef))

theorem resL_ok (ok : EnvOK P E) (hM : M.ng = E.ng) : ∀ {l : List ResultVar} {T : Tr Value} {h : Heap} {f : List Value → R}, resL (l.map (rv E M)) T h f = some r →
    ∃ vs, f vs = some r ∧ vs.length = l.length ∧ ∀ σ w (a : Act), GOK E σ → HR E σ h w → FrR M σ ⟨[], T⟩ a → ∃ vs', (l.mapM (resOf a.tmps)).run P w = .ok vs' w ∧ LR σ vs vs'
  | [], T, h, f, hh => ⟨[], hh, rfl, fun σ w a _ _ _ => ⟨[], by simp, LR.nil σ⟩⟩
  | .tmp t :: l, T, h, f, hh => by
    obtain ⟨v, h1, hv⟩ := evO_ok (E := E) hM (x := .tmp t) (show evO (po M (.tmp t)) ⟨[], T⟩ (fun v => resL (l.map (rv E M)) T h fun vs => f (v :: vs)) = some r from hh)
    obtain ⟨vs, h2, hl, h3⟩ := resL_ok ok hM h1
    refine ⟨_, h2, by simp [hl], fun σ w a hg hr hfr => ?_⟩
    obtain ⟨vs', h4, h5⟩ := h3 σ w a hg hr hfr
    exact ⟨a.eval (.tmp t) :: vs', by simp [List.mapM_cons, resOf, h4, Act.eval], LR.cons (hv σ a hg hfr) h5⟩
  | .cell t ty :: l, T, h, f, hh => by
    obtain ⟨v, h1, hv⟩ := evO_ok (E := E) hM (x := .tmp t) (show evO (po M (.tmp t)) ⟨[], T⟩ (fun a => vPtr a fun a => loadE (aggOf E ty) h a fun v => resL (l.map (rv E M)) T h fun vs => f (v :: vs)) = some r from hh)
    obtain ⟨p, e, h2⟩ := vPtr_inv h1
    subst e
    obtain ⟨u, h3, hu⟩ := loadE_ok (P := P) ok h2
    obtain ⟨vs, h4, hl, h5⟩ := resL_ok ok hM h3
    refine ⟨_, h4, by simp [hl], fun σ w a hg hr hfr => ?_⟩
    obtain ⟨vs', h6, h7⟩ := h5 σ w a hg hr hfr
    obtain ⟨p', he, hp⟩ := (hv σ a hg hfr).ptr_inv
    obtain ⟨u', h8, h9⟩ := hu σ w p' hr hp
    have he' : a.tmps.getD t undef = .pointer (some p') := he
    exact ⟨u' :: vs', by simp only [List.mapM_cons, resOf, Sem.run_bind, he', asAddr, Sem.run_pure, Result.andThen_ok, h8, h6], LR.cons h9 h7⟩

theorem resK_ok {h : Heap} {vs : List Value} {v : Value} {h' : Heap} (hh : resK h vs = some (.val v h')) : h' = h ∧ ∀ σ (vs' : Array Value), LR σ vs vs'.toList → VR σ v (if hs : vs'.size = 1 then vs'[0] else .tuple vs') := by
  unfold resK at hh
  cases vs with
  | nil =>
    rw [lC_nil] at hh
    cases hh
    refine ⟨rfl, fun σ vs' hl => ?_⟩
    have h0 : vs'.size = 0 := by have := hl.1; simpa using this.symm
    rw [dif_neg (by omega)]
    exact .tuple hl.1 hl.2
  | cons x vs =>
    rw [lC_cons] at hh
    cases vs with
    | nil =>
      rw [lC_nil] at hh
      cases hh
      refine ⟨rfl, fun σ vs' hl => ?_⟩
      have h0 : vs'.size = 1 := by have := hl.1; simpa using this.symm
      rw [dif_pos h0]
      exact hl.2 0 _ _ rfl (by simp [h0])
    | cons y vs =>
      rw [lC_cons] at hh
      cases hh
      refine ⟨rfl, fun σ vs' hl => ?_⟩
      have h0 : vs'.size = vs.length + 2 := by have := hl.1; simpa using this.symm
      rw [dif_neg (by omega)]
      exact .tuple hl.1 hl.2

theorem done_ok (ok : EnvOK P E) (hM : M.ng = E.ng) {fn : Func} {T : Tr Value} : ∀ {ds : List Deferred} {h : Heap} {v : Value} {h' : Heap}, doneS (fn.results.toList.map (rv E M)) T ds h = some (.val v h') →
    h.next ≤ h'.next ∧ ∀ σ w (tmps : Array Value) (dfs : List Deferred) (k : FuncId), GOK E σ → HR E σ h w → TR M σ T tmps → DR σ ds dfs → P.funcs[k]? = some fn →
      ∃ v' w', VR σ v v' ∧ Go E σ h w σ h' w' ∧ ∀ (fr : Frame) cs, fr.tmps = tmps → fr.defers = dfs → fr.fn = k → fr.mode = .returning → fr.kind = .normal →
        ∃ fr', Steps P (lone fr cs w) (lone fr' cs w') ∧ fr'.leaving P w' (.returned v') ∧ fr'.fn = k
  | [], h, v, h', hh => by
    obtain ⟨vs, h1, hl, h2⟩ := resL_ok ok hM (show resL (fn.results.toList.map (rv E M)) T h (resK h) = some (.val v h') from hh)
    obtain ⟨e, h3⟩ := resK_ok h1
    subst e
    refine ⟨Nat.le_refl _, fun σ w tmps dfs k hg hr hT hD hf => ?_⟩
    have hd : dfs = [] := by
      cases hd : dfs with
      | nil => rfl
      | cons d ds => rw [hd] at hD; exact hD.elim
    obtain ⟨vs', h4, h5⟩ := h2 σ w ⟨tmps, dfs⟩ hg hr ⟨hT.1, hT.2, fun t v _ hv => by cases hv⟩
    refine ⟨_, w, h3 σ ⟨vs'⟩ h5, Go.refl hr, fun fr cs e1 e2 e3 hm hk => ⟨fr, .refl _ _, ⟨hm, e2.trans hd, hk, fn, by rw [e3]; exact hf, ?_⟩, e3⟩⟩
    have e : results fn fr.tmps = (do let vs ← fn.results.mapM (resOf fr.tmps); pure (if h : vs.size = 1 then vs[0] else .tuple vs)) := by
      unfold results
      congr 1
    rw [e, Array.mapM_eq_mapM_toList, e1]
    simp [h4]
  | d :: ds, h, v, h', hh => by
    have hh : colK d.target (fun b => cDfr (blk h b) fun c => bT c (doneS (fn.results.toList.map (rv E M)) T ds (upd h b (.dfr false)))) = some (.val v h') := hh
    cases ht : d.target with
    | collected n =>
      rw [ht] at hh
      obtain ⟨c, hb, h1⟩ := cDfr_inv (show cDfr (blk h n) (fun c => bT c (doneS (fn.results.toList.map (rv E M)) T ds (upd h n (.dfr false)))) = some (.val v h') from hh)
      obtain ⟨hc, h2⟩ := bT_inv h1
      subst hc
      obtain ⟨hn, h3⟩ := done_ok ok hM h2
      refine ⟨hn, fun σ w tmps dfs k hg hr hT hD hf => ?_⟩
      cases hd : dfs with
      | nil => rw [hd] at hD; exact hD.elim
      | cons d' ds' =>
        rw [hd] at hD
        obtain ⟨⟨m, m', e1, e2, hnr⟩, hD'⟩ := hD
        subst e1 e2
        cases ht
        obtain ⟨base, κ, hρ⟩ := hnr
        obtain ⟨b2, base2, κ2, o, hρ2, ho, hbr⟩ := hr.live n _ hb
        rw [hρ] at hρ2; cases hρ2
        cases hbr with
        | live =>
          have htk := run_takeDeferred (P := P) ho
          have hgo : Go E σ h w σ (upd h n (.dfr false)) (w.putObj m' (.deferred none)) := go_upd hr hb rfl hρ rfl .gone
          obtain ⟨v', w', s3, s4, s5⟩ := h3 σ _ tmps ([] ++ ds') k hg hgo.hr hT hD' hf
          refine ⟨v', w', s3, hgo.trans s4, fun fr cs e1 e2 e3 hm hk => ?_⟩
          obtain ⟨fr', s6, s7, s8⟩ := s5 { fr with defers := [] ++ ds' } cs e1 rfl e3 hm hk
          exact ⟨fr', .head (step_collected (P := P) (cs := cs) (by rw [hm]; simp) e2 rfl htk) s6, s7, s8⟩
    | _ => rw [ht] at hh; cases hh
end Go.Ev
set_option linter.unusedVariables false
namespace Go.Ev
variable {P : Program} {E : Env} {M : MN} {r : Res} {F : FF}

theorem DR.append {σ : Sg} : ∀ {A A' B B' : List Deferred}, DR σ A A' → DR σ B B' → DR σ (A ++ B) (A' ++ B')
  | [], [], B, B', _, h => h
  | d :: D, d' :: D', B, B', ⟨h1, h2⟩, h => ⟨h1, DR.append h2 h⟩
  | [], _ :: _, _, _, h, _ => h.elim
  | _ :: _, [], _, _, h, _ => h.elim

theorem jumpOut_inv {pe : Option Code} {o : Out} (h : jumpOut pe = some o) : ∀ kk : List Item, (pe.map Item.code).toList ++ kk = todoOut o [] kk ∨ (o = .ret ∧ pe = some .ret) := fun kk => by
  unfold jumpOut at h
  split at h
  · cases h; exact .inl rfl
  · cases h; exact .inr ⟨rfl, rfl⟩
  · cases h; exact .inl rfl
  · cases h
theorem stOut_inv {s : LoopState} {x : R} (h : stOut s x = some r) : s ≠ .busy ∧ x = some r := by
  cases s
  · exact ⟨by simp, h⟩
  · cases h
  · exact ⟨by simp, h⟩
  · exact ⟨by simp, h⟩

/-- The call that a loop over a function makes. -/
theorem enter_range {b : Frame} {a : Act} {k : List Item} {cs : List Frame} {w w₁ : World} {g : Operand} {ps : Array Tmp} {assign body : Code} {l : Nat} {mark : List Deferred} {w₀ : World} {nx : Next} {v : Value} {w' : World}
    (hen : (Instr.enterLoop b.fn a.tmps ps assign body b.roundOf).run P w = .ok (l, mark) w₀)
    (hc : ((do let d ← resolve a.eval { callee := .value g, args := #[.const (.func (.yield l) #[] #[])], argTypes := #[] } 0; invoke d.target d.args) : Sem Next).run P w₀ = .ok nx w₁) (hnx : NextTo P nx w₁ v w') :
    Steps P (lone (b.atR a (.code (.rangeFunc g ps assign body) :: k)) cs w) (lone (b.atR { a with defers := mark ++ a.defers } (.endRangeFunc l :: k)) cs w') := by
  have hev := Frame.eval_atR b { a with defers := mark ++ a.defers } (.inRangeFunc l :: k)
  simp only [Frame.atR] at hev
  have hev2 : Act.eval { a with defers := mark ++ a.defers } = a.eval := by funext x; cases x <;> rfl
  rw [hev2] at hev
  cases nx with
  | value u =>
    obtain ⟨rfl, rfl⟩ := hnx
    rw [← finish_atR_inRangeFunc l u]
    exact .one (step_lone_go (by simp [stepG, stepG.exec, stepG.apply, Frame.atR, Sem.runT_eq, hen, hev, hc]))
  | skip =>
    obtain ⟨rfl, rfl⟩ := hnx
    rw [← finish_atR_inRangeFunc l undef]
    exact .one (step_lone_go (by simp [stepG, stepG.exec, stepG.apply, Frame.atR, Sem.runT_eq, hen, hev, hc]))
  | enter f args =>
    rw [← finish_atR_inRangeFunc l v]
    exact .head (step_lone_go (by simp [stepG, stepG.exec, stepG.apply, Frame.atR, Sem.runT_eq, hen, hev, hc])) (hnx _ _)
  | round l' f tmps assign' body' =>
    rw [← finish_atR_inRangeFunc l v]
    exact .head (step_lone_go (by simp [stepG, stepG.exec, stepG.apply, Frame.atR, Sem.runT_eq, hen, hev, hc])) (hnx _ _)
  | _ => exact hnx.elim

theorem rfGo_inv {ps : Array Tmp} {assign body : Code} {cx : Cx} {s : St} {k : K} {gv : Value} {d : Nat} {mark : List Deferred} {h1 : Heap} (hh : rfGo ps assign body cx s k gv d mark h1 = some r) :
    ∃ (fn : Fn) (first cap : Array Value) (v : Value) (h3 : Heap) (rr : LoopR) (o : Out), gv = .func fn first cap ∧
      cx.F fn (first.toList ++ [.func (.yield h1.next) #[] #[]]) cap.toList ⟨h1.next + 1, h1.b.put (some (.loop ⟨.ready, none, cx.fn, s.T, ps, assign, body, d⟩)) h1.next⟩ = some (.val v h3) ∧
      h3.b.get h1.next = some (.loop rr) ∧ rr.state ≠ .busy ∧ jumpOut rr.pending = some o ∧ k o ⟨s.T, mark ++ s.D, putLoop h3 h1.next rr .exhausted rr.pending⟩ = some r := by
  unfold rfGo at hh
  rw [newB_eq] at hh
  obtain ⟨fn, first, cap, e, h2⟩ := vFunc_inv hh
  unfold rfOut at h2
  obtain ⟨v, h3, h4, h5⟩ := rVal_inv h2
  obtain ⟨rr, h6, h7⟩ := cLoop_inv h5
  obtain ⟨h8, h9⟩ := stOut_inv h7
  obtain ⟨o, h10, h11⟩ := oS_inv h9
  rw [app_eq] at h4 h11
  exact ⟨fn, first, cap, v, h3, rr, o, e, h4, h6, h8, h10, h11⟩

/-- The loop, from where its record is to be laid. -/
theorem range_run {ps : Array Tmp} {assign body : Code} {cx : Cx} {s : St} {g : Operand} {d : Nat} {mark : List Deferred} {h1 h3 : Heap} {fn : Fn} {first cap : Array Value} {v : Value} {rr : LoopR} {o : Out} (hF : FFOK P E cx.F) (hp : ∀ p, pf E cx.fn = some p → p.M = M)
    (hcall : cx.F fn (first.toList ++ [.func (.yield h1.next) #[] #[]]) cap.toList ⟨h1.next + 1, h1.b.put (some (.loop ⟨.ready, none, cx.fn, s.T, ps, assign, body, d⟩)) h1.next⟩ = some (.val v h3))
    (hl : h3.b.get h1.next = some (.loop rr)) (hb : rr.state ≠ .busy) (ho : jumpOut rr.pending = some o) :
    h1.next + 1 ≤ h3.next ∧ ∀ σ σ1 w w1 (a : Act) (b : Frame) (d' : Nat) (mark' : List Deferred), GOK E σ → StR M σ s a → FB σ cx b → VR σ (.func fn first cap) (a.eval g) → Go E σ s.h w σ1 h1 w1 → Fresh σ1 h1.next h3.next → NR σ1 d d' → DR σ1 mark mark' →
      (Instr.enterLoop b.fn a.tmps ps assign body b.roundOf).run P w = .ok (w1.heap.size, mark') { w1 with heap := w1.heap.push (.loop { state := .ready, pending := none, fn := b.fn, tmps := a.tmps, params := ps, assign, body, defers := d' }) } →
      ∃ a' w' τ, Go E σ s.h w τ (putLoop h3 h1.next rr .exhausted rr.pending) w' ∧ StR M τ ⟨s.T, mark ++ s.D, putLoop h3 h1.next rr .exhausted rr.pending⟩ a' ∧
        ∀ kk cs, ∃ its, Steps P (lone (b.atR a (.code (.rangeFunc g ps assign body) :: kk)) cs w) (lone (b.atR a' (todoOut o its kk)) cs w') ∧ (∀ i, o = .exit i → ∀ q, exitTo i (its ++ q) = exitTo i q) := by
  obtain ⟨hle, hF⟩ := hF _ _ _ _ _ _ hcall
  refine ⟨hle, fun σ σ1 w w1 a b d' mark' hg hst hfb hgv g1 fre hnd hmark hen => ?_⟩
  have hf1 : σ1.ρ h1.next = none := fre _ (Nat.le_refl _) (by have : h1.next + 1 ≤ h3.next := hle; omega)
  have g2 := go_new (E := E) (σ := σ1) (h := h1) (w := w1) (B := .loop ⟨.ready, none, cx.fn, s.T, ps, assign, body, d⟩) (κ := 0) (o := .loop { state := .ready, pending := none, fn := cx.fn, tmps := a.tmps, params := ps, assign, body, defers := d' }) g1.hr hf1
    (.loop (fun p hpf => by rw [hp p hpf]; exact (hst.T.mono g1.ext).mono (Sg.add_ext hf1)) (hnd.mono (Sg.add_ext hf1)))
  rw [hfb.fn] at hen
  have e02 := g1.ext.trans g2.ext
  obtain ⟨fn', f1, c1, he, hfn, hf1', hc1⟩ := (hgv.mono e02).func_inv
  have hy : VR (σ1.add h1.next w1.heap.size 0 0) (.func (.yield h1.next) #[] #[]) (.func (.yield w1.heap.size) #[] #[]) :=
    .func (.yield ⟨0, 0, Sg.add_self ..⟩) rfl (fun i x y hx => by simp at hx) rfl (fun i x y hx => by simp at hx)
  obtain ⟨nx, w₁, v', w', τ, h6, h7, h8, g3⟩ := hF _ _ fn' (f1.toList ++ [.func (.yield w1.heap.size) #[] #[]]) c1.toList (hg.mono e02) g2.hr hfn (hf1'.append (LR.cons hy (LR.nil _))) hc1 (fre.of_go g2)
  have hcall' : ((do let d ← resolve a.eval { callee := .value g, args := #[.const (.func (.yield w1.heap.size) #[] #[])], argTypes := #[] } 0; invoke d.target d.args) : Sem Next).run P { w1 with heap := w1.heap.push (.loop { state := .ready, pending := none, fn := cx.fn, tmps := a.tmps, params := ps, assign, body, defers := d' }) } = .ok nx w₁ := by
    rw [← h6]
    have e : f1.push (.func (.yield w1.heap.size) #[] #[]) = ⟨f1.toList ++ [.func (.yield w1.heap.size) #[] #[]]⟩ := by apply Array.ext'; simp
    have ec : ∀ v, a.eval (.const v) = v := fun _ => rfl
    simp [resolve, he, Deferred.ofValue, ec, e]
  have hsteps := fun kk cs => enter_range (k := kk) (cs := cs) (by rw [hfb.fn]; exact hen) hcall' h7
  -- the loop ends
  obtain ⟨b2, base2, κ2, ob, hρ, hob, hbr⟩ := g3.hr.live _ _ hl
  have hρ2 := g3.ext _ _ (Sg.add_self σ1 h1.next w1.heap.size 0 0)
  rw [hρ2] at hρ
  cases hρ
  cases hbr with
  | loop hT hnr =>
    rename_i tmps dd
    have hend := run_endLoop (P := P) hob hb
    have g4 : Go E τ h3 w' τ (putLoop h3 h1.next rr .exhausted rr.pending) _ := go_upd (w' := w'.putObj w1.heap.size (.loop { state := .exhausted, pending := rr.pending, fn := rr.fn, tmps, params := rr.params, assign := rr.assign, body := rr.body, defers := dd })) g3.hr hl rfl hρ2 rfl (.loop hT hnr)
    have gall := ((g1.trans g2).trans g3).trans g4
    have hst' : StR M τ ⟨s.T, mark ++ s.D, putLoop h3 h1.next rr .exhausted rr.pending⟩ { a with defers := mark' ++ a.defers } :=
      ⟨(hst.T.mono (e02.trans g3.ext)), DR.append (hmark.mono (g2.ext.trans g3.ext)) (hst.D.mono (e02.trans g3.ext))⟩
    refine ⟨_, _, τ, gall, hst', fun kk cs => ?_⟩
    have hstep := stepR_endRangeFunc (P := P) (b := b) (a := { a with defers := mark' ++ a.defers }) (k := kk) (cs := cs) hend
    rcases jumpOut_inv ho kk with e | ⟨e1, e2⟩
    · refine ⟨[], (hsteps kk cs).trans (.one ?_), fun i _ q => rfl⟩
      rw [← e]; exact hstep
    · subst e1
      refine ⟨kk, (hsteps kk cs).trans (.one ?_), fun i e q => by cases e⟩
      rw [e2] at hstep
      rw [e2]; exact hstep
theorem code_range (hM : M.ng = E.ng) (g : Operand) (ps : Array Tmp) (assign body : Code) : CodeOK P E M (.rangeFunc g ps assign body) := fun cx s k r hF hp hh => by
  obtain ⟨gv, h1, hgv⟩ := evO_ok (E := E) hM (show evO (po M g) ⟨[], s.T⟩ (fun g => oC cx.ro (newB s.h (.dfr true) fun r h => rfGo ps assign body cx s k g r [{ target := .collected r, args := #[] }] h)
    fun l => cLoop (blk s.h l) fun r => rfGo ps assign body cx s k g r.defers [] s.h) = some r from hh)
  cases hro : cx.ro with
  | none =>
    rw [hro, oC_none, newB_eq] at h1
    obtain ⟨fn, first, cap, v, h3, rr, o, e, h4, h5, h6, h7, h8⟩ := rfGo_inv h1
    subst e
    obtain ⟨hle, hrun⟩ := range_run (P := P) (g := g) (mark := [{ target := .collected s.h.next, args := #[] }]) hF hp h4 h5 h6 h7
    refine ⟨o, _, h8, by show s.h.next ≤ h3.next; have : s.h.next + 1 + 1 ≤ h3.next := hle; omega, fun σ w a b hg hr hst hb fre => ?_⟩
    have fre : Fresh σ s.h.next h3.next := fre
    have hle' : s.h.next + 1 + 1 ≤ h3.next := hle
    have hf0 : σ.ρ s.h.next = none := fre _ (Nat.le_refl _) (by omega)
    have hbro : b.roundOf = none := by
      rcases hb.ro with ⟨_, h⟩ | ⟨l, l', h, _⟩
      · exact h
      · rw [hro] at h; cases h
    have g1 := go_new (E := E) hr (B := .dfr true) (κ := 0) (o := .deferred (some [])) hf0 .live
    have hnr : NR (σ.add s.h.next w.heap.size 0 0) s.h.next w.heap.size := ⟨0, 0, Sg.add_self ..⟩
    refine hrun σ _ w _ a b w.heap.size [{ target := .collected w.heap.size, args := #[] }] hg hst hb (hgv σ a hg hst.frR) g1 (fre.of_go g1) hnr ⟨⟨_, _, rfl, rfl, hnr⟩, trivial⟩ ?_
    rw [hbro, run_enterLoop_outer]
    simp
    rfl
  | some l =>
    rw [hro, oC_some] at h1
    obtain ⟨r0, hl, h2⟩ := cLoop_inv h1
    obtain ⟨fn, first, cap, v, h3, rr, o, e, h4, h5, h6, h7, h8⟩ := rfGo_inv h2
    subst e
    obtain ⟨hle, hrun⟩ := range_run (P := P) (g := g) (mark := []) hF hp h4 h5 h6 h7
    have hle' : s.h.next + 1 ≤ h3.next := hle
    refine ⟨o, _, h8, by show s.h.next ≤ h3.next; omega, fun σ w a b hg hr hst hb fre => ?_⟩
    have fre : Fresh σ s.h.next h3.next := fre
    obtain ⟨l', hbro, hnl⟩ : ∃ l', b.roundOf = some l' ∧ NR σ l l' := by
      rcases hb.ro with ⟨h, _⟩ | ⟨l1, l', h, h', h''⟩
      · rw [hro] at h; cases h
      · rw [hro] at h; cases h; exact ⟨l', h', h''⟩
    obtain ⟨base, κ, hρ⟩ := hnl
    obtain ⟨b2, base2, κ2, ob, hρ2, hob, hbr⟩ := hr.live _ _ hl
    rw [hρ] at hρ2
    cases hρ2
    cases hbr with
    | loop hT hnr =>
      refine hrun σ σ w w a b _ [] hg hst hb (hgv σ a hg hst.frR) (Go.refl hr) fre hnr trivial ?_
      rw [hbro, run_enterLoop_inner hob]
      rfl
end Go.Ev
set_option linter.unusedVariables false
namespace Go.Ev
variable {P : Program} {E : Env} {M : MN} {r : Res} {F : FF}

theorem argsT_get : ∀ {l : List Value} {i : Nat} {T : Tr Value} {t : Nat} {v : Value}, (argsT l i T).get t = some v → (i ≤ t ∧ l[t - i]? = some v) ∨ ((t < i ∨ i + l.length ≤ t) ∧ T.get t = some v)
  | [], i, T, t, v, h => .inr ⟨by simp; omega, h⟩
  | a :: l, i, T, t, v, h => by
    have h : (argsT l (i + 1) (T.put (some a) i)).get t = some v := h
    rcases argsT_get h with ⟨h1, h2⟩ | ⟨h1, h2⟩
    · exact .inl ⟨by omega, by rw [show t - i = (t - (i + 1)) + 1 from by omega]; simpa using h2⟩
    · rcases Tr.get_put _ _ _ _ h2 with ⟨e, e2⟩ | ⟨e, h3⟩
      · subst e; exact .inl ⟨Nat.le_refl _, by simpa using e2⟩
      · exact .inr ⟨by simp; omega, h3⟩
theorem pf_inv {k : Nat} {p : PF} (h : pf E k = some p) : ∃ fn m, E.fn.get k = some fn ∧ p.M = ⟨m, fn.ntmps, E.ng⟩ ∧ p.c = fn.body ∧ p.rs = fn.results.toList.map (rv E p.M) := by
  unfold pf at h
  split at h
  · rename_i fn m h1 h2; cases h; exact ⟨fn, m, h1, rfl, rfl, rfl⟩
  · cases h

def DrawOK (P : Program) (E : Env) : Prop := ∀ M : MN, M.ng = E.ng → ∀ id ops, CodeOK P E M (.region id ops true)
theorem code_all (ok : EnvOK P E) (hD : DrawOK P E) (hM : M.ng = E.ng) (c : Code) : CodeOK P E M c := code_ok ok hM (hD M hM) (code_range hM) c

/-- A function, from its entry until it is to be left. -/
theorem enterF_leaves (ok : EnvOK P E) (hD : DrawOK P E) (hF : FFOK P E F) {k : Nat} {args : List Value} {h : Heap} {n : Nat} {v : Value} {h' : Heap} (hh : enterF E F k args h n = some (.val v h')) :
    h.next ≤ h'.next ∧ (∃ fn c, P.funcs[k]? = some fn ∧ (fn.name == "runtime.NumGoroutine") = false ∧ fn.body = some c) ∧ ∀ σ w (args' : Array Value), GOK E σ → HR E σ h w → LR σ args args'.toList → Fresh σ h.next h'.next →
      ∃ v' w' τ, VR τ v v' ∧ Go E σ h w τ h' w' ∧ ∀ cs, ∃ fr', Steps P (lone (Frame.enter P k args' .normal) cs w) (lone fr' cs w') ∧ fr'.leaving P w' (.returned v') ∧ fr'.fn = k := by
  unfold enterF at hh
  obtain ⟨p, hp, h1⟩ := oS_inv hh
  obtain ⟨fn, m, hfn, hpM, hpc, hprs⟩ := pf_inv hp
  obtain ⟨c, hc, h2⟩ := oS_inv h1
  obtain ⟨hle, h3⟩ := bT_inv h2
  rw [len_eq] at hle
  have hle := Nat.le_of_ble_eq_true hle
  have hM : p.M.ng = E.ng := by rw [hpM]
  rw [hpc] at hc
  obtain ⟨hfk, hname⟩ := ok.fn k fn hfn
  obtain ⟨o, s', h4, hn1, g⟩ := code_all ok hD hM c ⟨F, none, k, n⟩ _ _ _ hF (fun p' hp' => by rw [hp] at hp'; cases hp'; rfl) h3
  have hdone : doneS (fn.results.toList.map (rv E p.M)) s'.T s'.D s'.h = some (.val v h') ∧ (o = .normal ∨ o = .ret) := by
    unfold fnK at h4
    rw [← hprs]
    cases o with
    | normal => exact ⟨h4, .inl rfl⟩
    | exit i => cases h4
    | ret => exact ⟨h4, .inr rfl⟩
  obtain ⟨hds, ho⟩ := hdone
  obtain ⟨hn2, hdone⟩ := done_ok (P := P) ok hM hds
  have hn1 : h.next ≤ s'.h.next := hn1
  refine ⟨by omega, ⟨fn, c, hfk, hname, hc⟩, fun σ w args' hg hr hargs fre => ?_⟩
  have hla := hargs.1
  let b : Frame := { fn := k, tmps := #[], todo := [], defers := [], mode := .run, kind := .normal }
  have hent : Frame.enter P k args' .normal = b.atR ⟨args' ++ Array.replicate (fn.ntmps - args'.size) undef, []⟩ (.code c :: []) := by
    simp [Frame.enter, Frame.atR, hfk, hc, b]
  have has : args'.size = args.length := by rw [hla]; simp
  have hnt : p.M.nt = fn.ntmps := by rw [hpM]
  have hst : StR p.M σ ⟨argsT args 0 .leaf, [], h⟩ ⟨args' ++ Array.replicate (fn.ntmps - args'.size) undef, []⟩ := by
    refine ⟨⟨by rw [hnt]; simp; omega, fun t u _ hu => ?_⟩, trivial⟩
    rcases argsT_get hu with ⟨_, h5⟩ | ⟨_, h5⟩
    · obtain ⟨u', h6, h7⟩ := hargs.get h5
      have hlt : t < args'.size := by have := (List.getElem?_eq_some_iff.1 h5).1; omega
      refine ⟨u', ?_, h7⟩
      rw [Array.getElem?_append_left hlt]
      simpa using h6
    · cases h5
  obtain ⟨a', w', τ, g1, f1, s1⟩ := g σ w _ b hg hr hst ⟨rfl, .inl ⟨rfl, rfl⟩⟩ (fre.left hn2)
  obtain ⟨v', w2, h6, g3, h7⟩ := hdone τ w' a'.tmps a'.defers k (hg.go g1) g1.hr f1.T f1.D hfk
  refine ⟨v', w2, τ, h6, g1.trans g3, fun cs => ?_⟩
  obtain ⟨its, s2, _⟩ := s1 [] cs
  have hret : ∃ todo, Steps P (lone (b.atR a' (todoOut o its [])) cs w') (lone { b.atR a' todo with mode := .returning } cs w') := by
    rcases ho with rfl | rfl
    · exact ⟨_, .one (stepR_end rfl)⟩
    · exact ⟨_, .one (stepR_ret rfl)⟩
  obtain ⟨todo, s3⟩ := hret
  obtain ⟨fr', s4, l4, n4⟩ := h7 { b.atR a' todo with mode := .returning } cs rfl rfl rfl rfl rfl
  refine ⟨fr', ?_, l4, n4⟩
  rw [hent]
  exact (s2.trans s3).trans s4

theorem setParams_ok {nt : Nat} {f : Tr Value → R} : ∀ {ps : List Tmp} {vs : List Value} {T : Tr Value}, setParams nt ps vs T f = some r → vs.length = ps.length ∧ ∃ T', f T' = some r ∧ ∀ (M : MN) σ tmps (us : List Value), M.nt = nt → TR M σ T tmps → LR σ vs us →
    TR M σ T' ((ps.zip us).foldl (fun tmps (p : Tmp × Value) => tmps.setIfInBounds p.1 p.2) tmps)
  | [], vs, T, hh => by
    have hh : lC vs (f T) (fun _ _ => none) = some r := hh
    cases vs with
    | nil => exact ⟨rfl, T, hh, fun M σ tmps us _ hT _ => by simpa using hT⟩
    | cons => cases hh
  | t :: ps, vs, T, hh => by
    have hh : lC vs none (fun v vs => bT (Nat.blt t nt) (setParams nt ps vs (T.put (some v) t) f)) = some r := hh
    cases vs with
    | nil => cases hh
    | cons v vs =>
      rw [lC_cons] at hh
      obtain ⟨hlt, hh⟩ := bT_inv hh
      have hlt := (blt_iff _ _).1 hlt
      obtain ⟨hl, T', h1, h2⟩ := setParams_ok hh
      refine ⟨by simp [hl], T', h1, fun M σ tmps us hnt hT hvs => ?_⟩
      cases us with
      | nil => have := hvs.1; simp at this
      | cons u us =>
        have hv : VR σ v u := hvs.2 0 v u rfl rfl
        have htl : LR σ vs us := ⟨by have := hvs.1; simp at this; exact this, fun i x y hx hy => hvs.2 (i + 1) x y hx hy⟩
        rw [List.zip_cons_cons, List.foldl_cons]
        refine h2 M σ _ us hnt ⟨by have := hT.1; simpa using this, fun t2 x hm hx => ?_⟩ htl
        rcases Tr.get_put _ _ _ _ hx with ⟨e, e2⟩ | ⟨e, h3⟩
        · cases e2
          subst e
          exact ⟨u, Array.getElem?_setIfInBounds_self_of_lt (by have := hT.1; omega), hv⟩
        · obtain ⟨x', h4, h5⟩ := hT.2 t2 x hm h3
          exact ⟨x', by simpa [Ne.symm e] using h4, h5⟩
/-- A round of a loop over a function. -/
theorem roundS_ok (ok : EnvOK P E) (hD : DrawOK P E) (hF : FFOK P E F) {l : Nat} {args : List Value} {h : Heap} {n : Nat} {v : Value} {h' : Heap} (hh : roundS E F l args h n = some (.val v h')) :
    h.next ≤ h'.next ∧ ∀ σ w l' (args' : Array Value), GOK E σ → HR E σ h w → NR σ l l' → LR σ args args'.toList → Fresh σ h.next h'.next →
      ∃ nx w₁ v' w' τ, (Instr.yield l' args').run P w = .ok nx w₁ ∧ NextTo P nx w₁ v' w' ∧ VR τ v v' ∧ Go E σ h w τ h' w' := by
  unfold roundS at hh
  obtain ⟨rl, hl, h1⟩ := cLoop_inv hh
  obtain ⟨p, hp, h2⟩ := oS_inv h1
  obtain ⟨fn, m, hfn, hpM, hpc, hprs⟩ := pf_inv hp
  have hM : p.M.ng = E.ng := by rw [hpM]
  obtain ⟨hlen, T, h3, hT⟩ := setParams_ok h2
  have hpf : ∀ p', pf E rl.fn = some p' → p'.M = p.M := fun p' hp' => by rw [hp] at hp'; cases hp'; rfl
  obtain ⟨o1, s1, h4, hn1, g1⟩ := code_all ok hD hM rl.assign ⟨F, some l, rl.fn, n⟩ _ _ _ hF hpf h3
  have ho1 : o1 = .normal ∧ ∃ r1, s1.h.b.get l = some (.loop r1) ∧ r1.state = .ready ∧ evC E p.M rl.body ⟨F, some l, rl.fn, n⟩ ⟨s1.T, s1.D, putLoop s1.h l r1 .busy r1.pending⟩ (roundEnd l) = some (.val v h') := by
    unfold roundMid at h4
    cases o1 with
    | normal =>
      obtain ⟨r1, h5, h6⟩ := cLoop_inv h4
      refine ⟨rfl, r1, h5, ?_⟩
      cases hs : r1.state with
      | ready => rw [hs] at h6; exact ⟨rfl, h6⟩
      | _ => rw [hs] at h6; cases h6
    | exit i => cases h4
    | ret => cases h4
  obtain ⟨e, r1, hl1, hst1, h5⟩ := ho1
  subst e
  obtain ⟨o2, s2, h6, hn2, g2⟩ := code_all ok hD hM rl.body ⟨F, some l, rl.fn, n⟩ _ _ _ hF hpf h5
  obtain ⟨r2, hl2, h7⟩ := cLoop_inv (show cLoop (blk s2.h l) (fun r => Out.rec (motive := fun _ => R) (some (.val (.bool true) (putLoop s2.h l r .ready none))) (fun i => some (.val (.bool false) (putLoop s2.h l r .done (some (.exit i))))) (some (.val (.bool false) (putLoop s2.h l r .done (some .ret)))) o2) = some (.val v h') from h6)
  have hn1 : h.next ≤ s1.h.next := hn1
  have hn2 : s1.h.next ≤ s2.h.next := hn2
  have hres : ∃ (st : LoopState) (jump : Option Code), h' = putLoop s2.h l r2 st jump ∧ v = .bool jump.isNone ∧ st = (if jump.isNone then .ready else .done) ∧ ((o2 = .normal ∧ jump = none) ∨ (∃ i, o2 = .exit i ∧ jump = some (.exit i)) ∨ (o2 = .ret ∧ jump = some .ret)) := by
    cases o2 with
    | normal => cases h7; exact ⟨.ready, none, rfl, rfl, rfl, .inl ⟨rfl, rfl⟩⟩
    | exit i => cases h7; exact ⟨.done, some (.exit i), rfl, rfl, rfl, .inr (.inl ⟨i, rfl, rfl⟩)⟩
    | ret => cases h7; exact ⟨.done, some .ret, rfl, rfl, rfl, .inr (.inr ⟨rfl, rfl⟩)⟩
  obtain ⟨st, jump, rfl, rfl, hst, hjump⟩ := hres
  refine ⟨by show h.next ≤ s2.h.next; omega, fun σ w l' args' hg hr hnl hargs fre => ?_⟩
  have fre : Fresh σ h.next s2.h.next := fre
  obtain ⟨base, κ, hρ⟩ := hnl
  obtain ⟨b0, base0, κ0, ob, hρ0, hob, hbr⟩ := hr.live _ _ hl
  rw [hρ] at hρ0; cases hρ0
  cases hbr with
  | loop hTm hnr =>
    rename_i tmps dd
    have hsz : args'.size = rl.params.size := by
      have h1 := hargs.1
      have h2 : args'.toList.length = args'.size := Array.length_toList
      have h3 : rl.params.toList.length = rl.params.size := Array.length_toList
      have h4 : args.length = rl.params.toList.length := hlen
      rw [← h2, ← h3, ← h4, h1]
    have hy := run_yield (P := P) (args := args') hob hsz
    have hfold : ((rl.params.zip args').foldl (fun tmps (x : Tmp × Value) => tmps.setIfInBounds x.1 x.2) tmps) = (rl.params.toList.zip args'.toList).foldl (fun tmps (p : Tmp × Value) => tmps.setIfInBounds p.1 p.2) tmps := by
      rw [← Array.foldl_toList, Array.toList_zip]
    let b : Frame := { fn := rl.fn, tmps := #[], todo := [], defers := [], mode := .run, kind := .normal, roundOf := some l' }
    have hTm' := hT p.M σ tmps args'.toList rfl (hTm p hp) hargs
    obtain ⟨a1, w1, τ1, go1, f1, st1⟩ := g1 σ w ⟨(rl.params.toList.zip args'.toList).foldl (fun tmps (p : Tmp × Value) => tmps.setIfInBounds p.1 p.2) tmps, []⟩ b hg hr ⟨hTm', trivial⟩ ⟨rfl, .inr ⟨l, l', rfl, rfl, ⟨base, κ, hρ⟩⟩⟩ (fre.left hn2)
    -- the round begins
    have hρ1 := go1.ext _ _ hρ
    obtain ⟨b1, base1, κ1, ob1, hρ1', hob1, hbr1⟩ := go1.hr.live _ _ hl1
    rw [hρ1] at hρ1'; cases hρ1'
    cases hbr1 with
    | loop hT1 hnr1 =>
      rename_i tmps1 dd1
      have hbeg := run_beginRound (P := P) hob1 hst1
      have go2 := go_upd (B' := .loop ⟨.busy, r1.pending, r1.fn, r1.T, r1.params, r1.assign, r1.body, r1.defers⟩) (w' := w1.putObj l' (.loop { state := .busy, pending := r1.pending, fn := r1.fn, tmps := tmps1, params := r1.params, assign := r1.assign, body := r1.body, defers := dd1 })) go1.hr hl1 rfl hρ1 rfl (.loop hT1 hnr1)
      obtain ⟨a2, w2, τ2, go3, f2, st2⟩ := g2 τ1 _ a1 b (hg.go go1) go2.hr ⟨f1.T, f1.D⟩ ⟨rfl, .inr ⟨l, l', rfl, rfl, ⟨base, κ, hρ1⟩⟩⟩ (fre.of_go go1)
      have hρ2 := go3.ext _ _ hρ1
      obtain ⟨b3, base3, κ3, ob3, hρ3, hob3, hbr3⟩ := go3.hr.live _ _ hl2
      rw [hρ2] at hρ3; cases hρ3
      cases hbr3 with
      | loop hT3 hnr3 =>
        rename_i tmps3 dd3
        have hend := run_endRound (P := P) jump hob3
        have go4 : Go E τ2 s2.h w2 τ2 (putLoop s2.h l r2 st jump) _ := go_upd (w' := w2.putObj l' (.loop { state := if jump.isNone then .ready else .done, pending := jump, fn := r2.fn, tmps := tmps3, params := r2.params, assign := r2.assign, body := r2.body, defers := dd3 })) go3.hr hl2 rfl hρ2 rfl (by rw [hst]; exact .loop hT3 hnr3)
        refine ⟨_, w, _, _, τ2, hy, ?_, .bool _, ((go1.trans go2).trans go3).trans go4⟩
        rw [hfold]
        intro c cs
        have hent : Frame.round l' rl.fn ((rl.params.toList.zip args'.toList).foldl (fun tmps (p : Tmp × Value) => tmps.setIfInBounds p.1 p.2) tmps) rl.assign rl.body .normal = b.atR ⟨(rl.params.toList.zip args'.toList).foldl (fun tmps (p : Tmp × Value) => tmps.setIfInBounds p.1 p.2) tmps, []⟩ (.code rl.assign :: [.beginRound, .code rl.body]) := rfl
        obtain ⟨its1, q1, _⟩ := st1 [.beginRound, .code rl.body] (c :: cs)
        obtain ⟨its2, q2, e2⟩ := st2 [] (c :: cs)
        have qb := stepR_beginRound (P := P) (b := b) (a := a1) (k := [.code rl.body]) (cs := c :: cs) (l := l') rfl hbeg
        have q3 : Steps P (lone (b.atR a2 (todoOut o2 its2 [])) (c :: cs) w2) (lone (c.finish (.bool jump.isNone)) cs (w2.putObj l' (.loop { state := if jump.isNone then .ready else .done, pending := jump, fn := r2.fn, tmps := tmps3, params := r2.params, assign := r2.assign, body := r2.body, defers := dd3 }))) := by
          rcases hjump with ⟨rfl, rfl⟩ | ⟨i, rfl, rfl⟩ | ⟨rfl, rfl⟩
          · exact .one (stepR_round_end rfl rfl hend)
          · exact .one (stepR_round_exit rfl rfl (by rw [e2 i rfl]; rfl) hend)
          · exact .one (stepR_round_ret rfl rfl hend)
        show Steps P (lone (Frame.round _ _ _ _ _ _) (c :: cs) w) _
        rw [hent]
        exact q1.trans (.head qb (q2.trans q3))

/-- **The evaluator's functions are the program's.** -/
theorem evF_ok (ok : EnvOK P E) (hD : DrawOK P E) : ∀ n, FFOK P E (evF E n)
  | 0 => fun fn args cap h v h' hh => by cases hh
  | n + 1 => fun fn args cap h v h' hh => by
    have ih := evF_ok ok hD n
    cases fn with
    | func k =>
      have hh : enterF E (evF E n) k (app args cap) h n = some (.val v h') := hh
      rw [app_eq] at hh
      obtain ⟨hn, ⟨fn, c, hfk, hname, hc⟩, hs⟩ := enterF_leaves (P := P) ok hD ih hh
      refine ⟨hn, fun σ w fn' args' cap' hg hr hfn hargs hcap fre => ?_⟩
      cases hfn
      obtain ⟨v', w', τ, hv, hgo, hst⟩ := hs σ w ⟨args' ++ cap'⟩ hg hr (hargs.append hcap) fre
      refine ⟨.enter k (⟨args'⟩ ++ ⟨cap'⟩), w, v', w', τ, ?_, ?_, hv, hgo⟩
      · exact MuLone.run_callFunc_enter hfk hname hc _ w
      · intro c cs
        obtain ⟨fr', s1, l1, _⟩ := hst (c :: cs)
        have e : (⟨args'⟩ ++ ⟨cap'⟩ : Array Value) = ⟨args' ++ cap'⟩ := by apply Array.ext'; simp
        rw [e]
        exact s1.trans (.one (step_leave_returned l1))
    | yield l =>
      have hh : roundS E (evF E n) l args h n = some (.val v h') := hh
      obtain ⟨hn, hs⟩ := roundS_ok (P := P) ok hD ih hh
      refine ⟨hn, fun σ w fn' args' cap' hg hr hfn hargs hcap fre => ?_⟩
      cases hfn with
      | yield hnl => exact hs σ w _ ⟨args'⟩ hg hr hnl hargs fre
    | _ => cases hh
end Go.Ev
set_option linter.unusedVariables false
namespace Go.Ev
variable {P : Program} {E : Env} {M : MN} {r : Res} {F : FF}

/-- The package-level variables, each in its own block. -/
def sg0 (ng : Nat) : Sg := ⟨fun g => if g < ng then some (g, 0, 0) else none⟩
theorem gok0 : GOK E (sg0 E.ng) := fun g hg => by simp [sg0, hg]

/-- **A call without arguments**: what it gives; all that lay in the memory is as it was. -/
theorem evF_calls (ok : EnvOK P E) (hD : DrawOK P E) {k n : Nat} {v : Value} {h0 h' : Heap} (hh : evF E (n + 1) (.func k) [] [] h0 = some (.val v h')) (hfix : ∀ m B, h0.b.get m = some B → B.fix = true) (hng : E.ng ≤ h0.next)
    {w : World} (hr : HR E (sg0 E.ng) h0 w) :
    Calls P k #[] w fun e w' => ∃ v' τ, e = .returned v' ∧ VR τ v v' ∧ w.heap.size ≤ w'.heap.size ∧ (∀ i, i < w.heap.size → w'.heap[i]? = w.heap[i]?) ∧ w'.os = w.os ∧ w'.tape = w.tape ∧ w'.output = w.output := by
  have hh : enterF E (evF E n) k [] h0 n = some (.val v h') := hh
  obtain ⟨hn, _, hs⟩ := enterF_leaves (P := P) ok hD (evF_ok ok hD n) hh
  obtain ⟨v', w', τ, hv, g, hst⟩ := hs (sg0 E.ng) w #[] gok0 hr (LR.nil _) (fun m h1 h2 => by simp [sg0]; omega)
  intro cs
  obtain ⟨fr, s1, l1, n1⟩ := hst cs
  exact ⟨.returned v', w', fr, ⟨v', τ, rfl, hv, g.size, fun i hi => g.keep i hi (fun m B x hB hf => by rw [hfix m B hB] at hf; cases hf), g.os, g.tape, g.output⟩, s1, n1, l1⟩
end Go.Ev
