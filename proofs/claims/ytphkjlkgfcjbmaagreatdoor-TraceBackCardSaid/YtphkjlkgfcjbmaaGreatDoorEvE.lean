/- Code made ready; runs in pieces; runs beside functions that are known; given EnvOK. -/
import Derived.Test.YtphkjlkgfcjbmaaGreatDoorEvD
import Derived.Test.YtphkjlkgfcjbmaaGreatDoorEvC
set_option linter.all false
set_option linter.unusedVariables false
namespace Go.Ev
variable {P : Program} {E : Env} {M : MN} {r : Res} {F : FF}

inductive PC where
  | skip
  | reg (l : List RO)
  | draw (l : Option (List DO))
  | seq (a b : PC)
  | cond (x : PO) (a b : PC)
  | block (id : Nat) (c : PC)
  | loop (c : PC)
  | rf (g : PO) (ps : Array Tmp) (assign body : Code)
  | exit (id : Nat)
  | ret
  | none
noncomputable def prep (E : Env) (M : MN) : Code → PC
  | .skip => .skip
  | .region _ ops false => .reg (readyOps E M ops.toList ops.toList)
  | .region _ ops true => .draw (drawOps E M ops.toList)
  | .seq a b => .seq (prep E M a) (prep E M b)
  | .cond x a b => .cond (po M x) (prep E M a) (prep E M b)
  | .block id c => .block id (prep E M c)
  | .loop c => .loop (prep E M c)
  | .rangeFunc g ps a b => .rf (po M g) ps a b
  | .exit id => .exit id
  | .scope c => prep E M c
  | .label _ => .skip
  | .goto _ => .none
  | .ret => .ret
  | .refuse _ => .none
noncomputable def evP : PC → Cx → St → K → R
  | .skip, _, s, k => k .normal s
  | .reg l, cx, s, k => evOps l cx.F ⟨[], s.T⟩ s.h fun fr h => k .normal ⟨fr.T, s.D, h⟩
  | .draw l, cx, s, k => oS l fun l => evD l cx.F ⟨⟨[], s.T⟩, s.h, [], [], []⟩ fun s' => merge 0 true s'.fl s'.h.b fun b _ => k .normal ⟨s'.fr.T, s.D, ⟨s'.h.next, b⟩⟩
  | .seq a b, cx, s, k => evP a cx s (seqK (evP b) cx k)
  | .cond x a b, cx, s, k => evO x ⟨[], s.T⟩ fun v => vBool v fun t => Bool.rec (motive := fun _ => R) (evP b cx s k) (evP a cx s k) t
  | .block id c, cx, s, k => evP c cx s (blockK id k)
  | .loop c, cx, s, k => loopS (evP c) cx k cx.fuel s
  | .rf g ps a b, cx, s, k => rfS g ps a b cx s k
  | .exit id, _, s, k => k (.exit id) s
  | .ret, _, s, k => k .ret s
  | .none, _, _, _ => Option.none
theorem evC_eq : ∀ c : Code, evC E M c = evP (prep E M c)
  | .skip => rfl
  | .region _ ops false => rfl
  | .region _ ops true => rfl
  | .seq a b => by
    funext cx s k
    show evC E M a cx s (seqK (evC E M b) cx k) = evP (prep E M a) cx s (seqK (evP (prep E M b)) cx k)
    rw [evC_eq a, evC_eq b]
  | .cond x a b => by
    funext cx s k
    show (evO (po M x) ⟨[], s.T⟩ fun v => vBool v fun t => Bool.rec (motive := fun _ => R) (evC E M b cx s k) (evC E M a cx s k) t) = evO (po M x) ⟨[], s.T⟩ fun v => vBool v fun t => Bool.rec (motive := fun _ => R) (evP (prep E M b) cx s k) (evP (prep E M a) cx s k) t
    rw [evC_eq a, evC_eq b]
  | .block id c => by
    funext cx s k
    show evC E M c cx s (blockK id k) = evP (prep E M c) cx s (blockK id k)
    rw [evC_eq c]
  | .loop c => by
    funext cx s k
    show loopS (evC E M c) cx k cx.fuel s = loopS (evP (prep E M c)) cx k cx.fuel s
    rw [evC_eq c]
  | .rangeFunc g ps a b => rfl
  | .exit id => rfl
  | .scope c => evC_eq c
  | .label _ => rfl
  | .goto _ => rfl
  | .ret => rfl
  | .refuse _ => rfl

/-- A function's code, made ready. -/
structure PFn where
  M : MN
  c : PC
  rs : List RV
noncomputable def pfn (E : Env) (k : Nat) : Option PFn :=
  match pf E k with
  | some p => match p.c with
    | some c => some ⟨p.M, prep E p.M c, p.rs⟩
    | none => none
  | none => none
theorem enterF_eq {k : Nat} {p : PFn} (h : pfn E k = some p) {args : List Value} (hl : args.length ≤ p.M.nt) (F : FF) (hh : Heap) (n : Nat) :
    enterF E F k args hh n = evP p.c ⟨F, none, k, n⟩ ⟨argsT args 0 .leaf, [], hh⟩ (fnK p.rs) := by
  unfold pfn at h
  split at h
  · rename_i q hq
    split at h
    · rename_i c hc
      cases h
      unfold enterF
      rw [hq]
      show (oS q.c fun c => bT (Nat.ble (len args) q.M.nt) (evC E q.M c ⟨F, none, k, n⟩ ⟨argsT args 0 .leaf, [], hh⟩ (fnK q.rs))) = _
      rw [hc, len_eq]
      have : Nat.ble args.length q.M.nt = true := by rw [Nat.ble_eq]; exact hl
      show bT (Nat.ble args.length q.M.nt) (evC E q.M c ⟨F, none, k, n⟩ ⟨argsT args 0 .leaf, [], hh⟩ (fnK q.rs)) = _
      rw [this, evC_eq]; rfl
    · cases h
  · cases h
end Go.Ev
set_option linter.unusedVariables false
namespace Go.Ev
variable {P : Program} {E : Env} {M : MN} {r : Res} {F : FF}

/-- The first ones of a row of statements. -/
noncomputable def evN (E : Env) (M : MN) (n : Nat) : Code → Cx → St → (Code → St → R) → R :=
  Nat.rec (motive := fun _ => Code → Cx → St → (Code → St → R) → R) (fun c _ s k => k c s)
    (fun _ ih c cx s k => Code.casesOn (motive := fun _ => R) c none (fun _ _ _ => none) (fun a b => evC E M a cx s fun o s => Out.rec (motive := fun _ => R) (ih b cx s k) (fun _ => none) none o) (fun _ _ _ => none) (fun _ _ => none) (fun _ => none)
      (fun _ _ _ _ => none) (fun _ => none) (fun _ => none) (fun _ => none) (fun _ => none) none (fun _ => none)) n
theorem evN_zero (c : Code) (cx : Cx) (s : St) (k : Code → St → R) : evN E M 0 c cx s k = k c s := rfl
theorem evN_seq (n : Nat) (a b : Code) (cx : Cx) (s : St) (k : Code → St → R) : evN E M (n + 1) (.seq a b) cx s k = evC E M a cx s fun o s => Out.rec (motive := fun _ => R) (evN E M n b cx s k) (fun _ => none) none o := rfl
/-! ## A state that says less -/
/-- A block that says less. -/
inductive Less : Blk → Blk → Prop
  | cells {n : Nat} {e : TypeId} {g : Bool} {es : Nat} {c c' : Tr Cells} : (∀ i l, i < n → c.get i = some l → c'.get i = some l) → Less (.cells n e g es c) (.cells n e g es c')
  | fixed {n es : Nat} {c c' : Tr Cells} : (∀ i l, i < n → c.get i = some l → c'.get i = some l) → Less (.fixed n es c) (.fixed n es c')
theorem Less.br {σ : Sg} {B B' : Blk} {base κ : Nat} {o : Obj} (h : Less B B') (hb : BR E σ B' base κ o) : BR E σ B base κ o := by
  cases h with
  | cells h => cases hb with | cells h1 h2 h3 => exact .cells h1 (fun i l hi hl => h2 i l hi (h i l hi hl)) h3
  | fixed h => cases hb with | fixed h1 h2 => exact .fixed h1 (fun i l hi hl => h2 i l hi (h i l hi hl))
theorem Less.fix {B B' : Blk} (h : Less B B') : B'.fix = B.fix := by cases h <;> rfl
structure LessS (s s' : St) : Prop where
  T : ∀ t v, s.T.get t = some v → s'.T.get t = some v
  D : s.D = s'.D
  next : s.h.next = s'.h.next
  b : ∀ n B, s.h.b.get n = some B → ∃ B', s'.h.b.get n = some B' ∧ Less B B'
theorem LessS.go2 {cx : Cx} {s0 s s' : St} {o : Out} {t : List Item → List Item} (h : LessS s s') (g : Go2 P E M cx s0 s' o t) : Go2 P E M cx s0 s o t := fun σ w a b hg hr hst hb fre => by
  obtain ⟨a', w', τ, g1, f1, h1⟩ := g σ w a b hg hr hst hb (by rw [← h.next]; exact fre)
  refine ⟨a', w', τ, ?_, ⟨⟨f1.T.1, fun t v hm hv => f1.T.2 t v hm (h.T t v hv)⟩, by rw [h.D]; exact f1.D⟩, h1⟩
  refine ⟨g1.ext, fun n x hx => by rw [h.next]; exact g1.new n x hx, by rw [h.next]; exact g1.le, ⟨fun n B hB => ?_, fun n m B C b x y hB hC hx hy => ?_⟩, g1.os, g1.tape, g1.output, g1.size, g1.keep, fun n B x hB hx hlt => ?_⟩
  · obtain ⟨B', h2, h3⟩ := h.b n B hB
    obtain ⟨b, base, κ, o, h4, h5, h6⟩ := g1.hr.live n B' h2
    exact ⟨b, base, κ, o, h4, h5, h3.br h6⟩
  · obtain ⟨B', h2, _⟩ := h.b n B hB
    obtain ⟨C', h3, _⟩ := h.b m C hC
    exact g1.hr.inj n m B' C' b x y h2 h3 hx hy
  · obtain ⟨B', h2, h3⟩ := h.b n B hB
    obtain ⟨m, C, y, h4, h5, h6⟩ := g1.img n B' x h2 hx hlt
    exact ⟨m, C, y, h4, fun hf => h5 (by rw [h3.fix]; exact hf), h6⟩

theorem LessS.pre {cx : Cx} {s s' s2 : St} {o : Out} {t : List Item → List Item} (h : LessS s s') (g : Go2 P E M cx s s2 o t) : Go2 P E M cx s' s2 o t := fun σ w a b hg hr hst hb fre => by
  have hr1 : HR E σ s.h w := by
    refine ⟨fun n B hB => ?_, fun n m B C b x y hB hC hx hy => ?_⟩
    · obtain ⟨B', h2, h3⟩ := h.b n B hB
      obtain ⟨b, base, κ, o, h4, h5, h6⟩ := hr.live n B' h2
      exact ⟨b, base, κ, o, h4, h5, h3.br h6⟩
    · obtain ⟨B', h2, _⟩ := h.b n B hB
      obtain ⟨C', h3, _⟩ := h.b m C hC
      exact hr.inj n m B' C' b x y h2 h3 hx hy
  obtain ⟨a', w', τ, g1, f1, h1⟩ := g σ w a b hg hr1 ⟨⟨hst.T.1, fun t v hm hv => hst.T.2 t v hm (h.T t v hv)⟩, by rw [h.D]; exact hst.D⟩ hb (by rw [h.next]; exact fre)
  refine ⟨a', w', τ, ⟨g1.ext, fun n x hx => by rw [← h.next]; exact g1.new n x hx, by rw [← h.next]; exact g1.le, g1.hr, g1.os, g1.tape, g1.output, g1.size, fun k hk hn => g1.keep k hk fun n B x hB hf hx => ?_, fun n B x hB hx hlt => ?_⟩, f1, h1⟩
  · obtain ⟨B', h2, h3⟩ := h.b n B hB
    exact hn n B' x h2 (by rw [h3.fix]; exact hf) hx
  · obtain ⟨m, C, y, h4, h5, h6⟩ := g1.img n B x hB hx hlt
    obtain ⟨C', h7, h8⟩ := h.b m C h4
    exact ⟨m, C', y, h7, fun hf => by rw [h8.fix]; exact h5 hf, h6⟩

def restN : Nat → Code → Code
  | 0, c => c
  | n + 1, .seq _ b => restN n b
  | _ + 1, c => c
theorem evN_ok (ok : EnvOK P E) (hM : M.ng = E.ng) : ∀ {n : Nat} {c : Code} {cx : Cx} {s : St} {k : Code → St → R}, FFOK P E cx.F → (∀ p, pf E cx.fn = some p → p.M = M) → evN E M n c cx s k = some r →
    ∃ s', k (restN n c) s' = some r ∧ s.h.next ≤ s'.h.next ∧ ∀ s1 o s2, LessS s1 s' → s'.h.next ≤ s2.h.next → Go2 P E M cx s1 s2 o (fun kk => .code (restN n c) :: kk) → Go2 P E M cx s s2 o (fun kk => .code c :: kk)
  | 0, c, cx, s, k, hF, hp, hh => ⟨s, hh, Nat.le_refl _, fun s1 o s2 hl _ g => hl.pre g⟩
  | n + 1, c, cx, s, k, hF, hp, hh => by
    cases c with
    | seq a b =>
      rw [evN_seq] at hh
      obtain ⟨o, s1, h1, hn1, g1⟩ := code_all ok (draw_ok ok) hM a cx s _ r hF hp hh
      cases o with
      | normal =>
        obtain ⟨s', h2, hn2, h3⟩ := evN_ok ok hM hF hp (show evN E M n b cx s1 k = some r from h1)
        refine ⟨s', h2, by omega, fun s3 o s2 hl hn g => ?_⟩
        exact (g1.seq hn1 (h3 s3 o s2 hl hn g) (by omega)).head fun b a kk cs w => stepR_seq
      | exit i => cases h1
      | ret => cases h1
    | _ => cases hh

/-! ## The test -/
noncomputable def sameRows (c c' : Tr Cells) (n : Nat) : Bool :=
  Nat.rec (motive := fun _ => Bool) true (fun i ih => Option.rec (motive := fun _ => Bool) ih (fun l => Option.rec (motive := fun _ => Bool) false (fun l' => Bool.rec (motive := fun _ => Bool) false ih (eqVs same1 l l')) (c'.get i)) (c.get i)) n
noncomputable def beqB (a b : Bool) : Bool := Bool.rec (motive := fun _ => Bool) (notB b) b a
noncomputable def cFix (b : Option Blk) (f : Nat → Nat → Tr Cells → R) : R := oS b fun b => Blk.rec (motive := fun _ => R) (fun _ _ _ _ _ => none) (fun _ => none) (fun _ => none) f b
theorem cFix_inv {b : Option Blk} {f : Nat → Nat → Tr Cells → R} (h : cFix b f = some r) : ∃ n es c, b = some (.fixed n es c) ∧ f n es c = some r := by
  obtain ⟨b, rfl, h⟩ := oS_inv h
  cases b <;> first | cases h; done | exact ⟨_, _, _, rfl, h⟩
noncomputable def lessB (B : Blk) (b : Option Blk) (x : R) : R :=
  Blk.rec (motive := fun _ => R) (fun n e g es c => cBlk b fun n' e' g' es' c' => bT (Nat.beq n n') (bT (Nat.beq e e') (bT (beqB g g') (bT (Nat.beq es es') (bT (sameRows c c' n) x))))) (fun _ => none) (fun _ => none) (fun n es c => cFix b fun n' es' c' => bT (Nat.beq n n') (bT (Nat.beq es es') (bT (sameRows c c' n) x))) B
noncomputable def lessBs (l : List (Nat × Blk)) (b : Tr Blk) (x : R) : R := List.rec (motive := fun _ => R) x (fun p _ ih => lessB p.2 (b.get p.1) ih) l
noncomputable def lessTs (l : List (Nat × Value)) (T : Tr Value) (x : R) : R := List.rec (motive := fun _ => R) x (fun p _ ih => oS (T.get p.1) fun v => bT (same p.2 v) ih) l
/-- A list as a tree. -/
noncomputable def ofPairs {α : Type} (l : List (Nat × α)) : Tr α := List.rec (motive := fun _ => Tr α) .leaf (fun p _ ih => ih.put (some p.2) p.1) l
theorem ofPairs_get {α : Type} : ∀ {l : List (Nat × α)} {n : Nat} {a : α}, (ofPairs l).get n = some a → (n, a) ∈ l
  | [], n, a, h => by cases h
  | p :: l, n, a, h => by
    rcases Tr.get_put _ _ _ _ (show ((ofPairs l).put (some p.2) p.1).get n = some a from h) with ⟨e, e2⟩ | ⟨_, h⟩
    · cases e2; subst e; exact List.mem_cons_self
    · exact List.mem_cons_of_mem _ (ofPairs_get h)
/-- What is looked for in a state: names of variables, names of blocks, the next name. -/
structure Lit where
  T : List (Nat × Value)
  b : List (Nat × Blk)
  next : Nat
noncomputable def Lit.st (l : Lit) : St := ⟨ofPairs l.T, [], ⟨l.next, ofPairs l.b⟩⟩
noncomputable def Lit.chk (l : Lit) (s : St) (x : R) : R := lC s.D (bT (Nat.beq l.next s.h.next) (lessTs l.T s.T (lessBs l.b s.h.b x))) fun _ _ => none
theorem sameRows_ok {c c' : Tr Cells} : ∀ {n : Nat}, sameRows c c' n = true → ∀ i l, i < n → c.get i = some l → c'.get i = some l
  | 0, _, i, l, h, _ => by omega
  | n + 1, h, i, l, hi, hl => by
    have h : Option.rec (motive := fun _ => Bool) (sameRows c c' n) (fun l => Option.rec (motive := fun _ => Bool) false (fun l' => Bool.rec (motive := fun _ => Bool) false (sameRows c c' n) (eqVs same1 l l')) (c'.get n)) (c.get n) = true := h
    cases hc : c.get n with
    | none =>
      rw [hc] at h
      by_cases e : i = n
      · subst e; rw [hc] at hl; cases hl
      · exact sameRows_ok h i l (by omega) hl
    | some l1 =>
      rw [hc] at h
      cases hc' : c'.get n with
      | none => rw [hc'] at h; cases h
      | some l2 =>
        rw [hc'] at h
        have h : Bool.rec (motive := fun _ => Bool) false (sameRows c c' n) (eqVs same1 l1 l2) = true := h
        cases hb : eqVs same1 l1 l2 with
        | false => rw [hb] at h; cases h
        | true =>
          rw [hb] at h
          by_cases e : i = n
          · subst e; rw [hc] at hl; cases hl; rw [hc', eqVs_ok hb]
          · exact sameRows_ok h i l (by omega) hl
theorem beqB_ok {a b : Bool} (h : beqB a b = true) : a = b := by cases a <;> cases b <;> first | rfl | cases h
theorem lessB_inv {B : Blk} {b : Option Blk} {x : R} (h : lessB B b x = some r) : (∃ B', b = some B' ∧ Less B B') ∧ x = some r := by
  cases B with
  | cells n e g es c =>
    obtain ⟨n', e', g', es', c', hb, h1⟩ := cBlk_inv (show cBlk b (fun n' e' g' es' c' => bT (Nat.beq n n') (bT (Nat.beq e e') (bT (beqB g g') (bT (Nat.beq es es') (bT (sameRows c c' n) x))))) = some r from h)
    obtain ⟨a1, h1⟩ := bT_inv h1
    obtain ⟨a2, h1⟩ := bT_inv h1
    obtain ⟨a3, h1⟩ := bT_inv h1
    obtain ⟨a4, h1⟩ := bT_inv h1
    obtain ⟨a5, h9⟩ := bT_inv h1
    have a1 := Nat.eq_of_beq_eq_true a1
    have a2 : e = e' := Nat.eq_of_beq_eq_true a2
    have a3 := beqB_ok a3
    have a4 := Nat.eq_of_beq_eq_true a4
    subst a1 a2 a3 a4
    exact ⟨⟨_, hb, .cells (sameRows_ok a5)⟩, h9⟩
  | dfr => cases h
  | loop => cases h
  | fixed n es c =>
    obtain ⟨n', es', c', hb, h1⟩ := cFix_inv (show cFix b (fun n' es' c' => bT (Nat.beq n n') (bT (Nat.beq es es') (bT (sameRows c c' n) x))) = some r from h)
    obtain ⟨a1, h1⟩ := bT_inv h1
    obtain ⟨a2, h1⟩ := bT_inv h1
    obtain ⟨a5, h9⟩ := bT_inv h1
    have a1 := Nat.eq_of_beq_eq_true a1
    have a2 := Nat.eq_of_beq_eq_true a2
    subst a1 a2
    exact ⟨⟨_, hb, .fixed (sameRows_ok a5)⟩, h9⟩
theorem lessBs_inv {b : Tr Blk} {x : R} : ∀ {l : List (Nat × Blk)}, lessBs l b x = some r → (∀ p ∈ l, ∃ B', b.get p.1 = some B' ∧ Less p.2 B') ∧ x = some r
  | [], h => ⟨fun p hp => by (cases hp), h⟩
  | p :: l, h => by
    obtain ⟨h1, h2⟩ := lessB_inv (show lessB p.2 (b.get p.1) (lessBs l b x) = some r from h)
    obtain ⟨h3, h4⟩ := lessBs_inv h2
    refine ⟨fun q hq => ?_, h4⟩
    rcases List.mem_cons.1 hq with e | hq
    · subst e; exact h1
    · exact h3 q hq
theorem lessTs_inv {T : Tr Value} {x : R} : ∀ {l : List (Nat × Value)}, lessTs l T x = some r → (∀ p ∈ l, T.get p.1 = some p.2) ∧ x = some r
  | [], h => ⟨fun p hp => by (cases hp), h⟩
  | p :: l, h => by
    obtain ⟨v, h1, h2⟩ := oS_inv (show oS (T.get p.1) (fun v => bT (same p.2 v) (lessTs l T x)) = some r from h)
    obtain ⟨h3, h4⟩ := bT_inv h2
    obtain ⟨h5, h6⟩ := lessTs_inv h4
    refine ⟨fun q hq => ?_, h6⟩
    rcases List.mem_cons.1 hq with e | hq
    · subst e; rw [h1, same_ok h3]
    · exact h5 q hq
theorem Lit.chk_ok {l : Lit} {s : St} {x : R} (h : l.chk s x = some r) : LessS l.st s ∧ x = some r := by
  unfold Lit.chk at h
  cases hD : s.D with
  | cons d D => rw [hD] at h; cases h
  | nil =>
    rw [hD, lC_nil] at h
    obtain ⟨h1, h2⟩ := bT_inv h
    obtain ⟨h3, h4⟩ := lessTs_inv h2
    obtain ⟨h5, h6⟩ := lessBs_inv h4
    exact ⟨⟨fun t v hv => h3 _ (ofPairs_get hv), hD.symm, Nat.eq_of_beq_eq_true h1, fun n B hB => h5 _ (ofPairs_get hB)⟩, h6⟩

/-- One piece: from a state to what is written of the next. -/
theorem piece (ok : EnvOK P E) (hM : M.ng = E.ng) {n : Nat} {c : Code} {cx : Cx} {s : St} {l : Lit} {x : Res} (hF : FFOK P E cx.F) (hp : ∀ p, pf E cx.fn = some p → p.M = M) (hh : evN E M n c cx s (fun _ s' => l.chk s' (some x)) = some r) :
    s.h.next ≤ l.next ∧ ∀ o s2, l.next ≤ s2.h.next → Go2 P E M cx l.st s2 o (fun kk => .code (restN n c) :: kk) → Go2 P E M cx s s2 o (fun kk => .code c :: kk) := by
  obtain ⟨s', h1, h2, h3⟩ := evN_ok ok hM hF hp hh
  obtain ⟨h4, _⟩ := Lit.chk_ok h1
  have e : l.next = s'.h.next := h4.next
  exact ⟨by omega, fun o s2 hn g => h3 _ o s2 h4 (by omega) g⟩

/-- A function that was run in pieces. -/
theorem leaves_of_go2 (ok : EnvOK P E) {k : Nat} {p : PF} (hp : pf E k = some p) {c : Code} (hc : p.c = some c) {args : List Value} (hle : args.length ≤ p.M.nt) {h : Heap} {n : Nat} {s' : St} {o : Out} (ho : o = .normal ∨ o = .ret)
    (g : Go2 P E p.M ⟨F, none, k, n⟩ ⟨argsT args 0 .leaf, [], h⟩ s' o (fun kk => .code c :: kk)) (hn1 : h.next ≤ s'.h.next) {v : Value} {h' : Heap} (hds : doneS p.rs s'.T s'.D s'.h = some (.val v h')) :
    h.next ≤ h'.next ∧ (∃ fn c, P.funcs[k]? = some fn ∧ (fn.name == "runtime.NumGoroutine") = false ∧ fn.body = some c) ∧ ∀ σ w (args' : Array Value), GOK E σ → HR E σ h w → LR σ args args'.toList → Fresh σ h.next h'.next →
      ∃ v' w' τ, VR τ v v' ∧ Go E σ h w τ h' w' ∧ ∀ cs, ∃ fr', Steps P (lone (Frame.enter P k args' .normal) cs w) (lone fr' cs w') ∧ fr'.leaving P w' (.returned v') ∧ fr'.fn = k := by
  obtain ⟨fn, m, hfn, hpM, hpc, hprs⟩ := pf_inv hp
  have hM : p.M.ng = E.ng := by rw [hpM]
  rw [hpc] at hc
  obtain ⟨hfk, hname⟩ := ok.fn k fn hfn
  rw [hprs] at hds
  obtain ⟨hn2, hdone⟩ := done_ok (P := P) ok hM hds
  refine ⟨by omega, ⟨fn, c, hfk, hname, hc⟩, fun σ w args' hg hr hargs fre => ?_⟩
  have hla := hargs.1
  let b : Frame := { fn := k, tmps := #[], todo := [], defers := [], mode := .run, kind := .normal }
  have hent : Frame.enter P k args' .normal = b.atR ⟨args' ++ Array.replicate (fn.ntmps - args'.size) undef, []⟩ (.code c :: []) := by
    simp [Frame.enter, Frame.atR, hfk, hc, b]
  have has : args'.size = args.length := by rw [hla]; simp
  have hnt : p.M.nt = fn.ntmps := by rw [hpM]
  have hst : StR p.M σ ⟨argsT args 0 .leaf, [], h⟩ ⟨args' ++ Array.replicate (fn.ntmps - args'.size) undef, []⟩ := by
    refine ⟨⟨by rw [hnt]; simp; omega, fun t u _ hu => ?_⟩, trivial⟩
    rcases argsT_get hu with ⟨_, h5⟩ | ⟨_, h5⟩
    · obtain ⟨u', h6, h7⟩ := hargs.get h5
      have hlt : t < args'.size := by have := (List.getElem?_eq_some_iff.1 h5).1; omega
      refine ⟨u', ?_, h7⟩
      rw [Array.getElem?_append_left hlt]
      simpa using h6
    · cases h5
  obtain ⟨a', w', τ, g1, f1, s1⟩ := g σ w _ b hg hr hst ⟨rfl, .inl ⟨rfl, rfl⟩⟩ (fre.left hn2)
  obtain ⟨v', w2, h6, g3, h7⟩ := hdone τ w' a'.tmps a'.defers k (hg.go g1) g1.hr f1.T f1.D hfk
  refine ⟨v', w2, τ, h6, g1.trans g3, fun cs => ?_⟩
  obtain ⟨its, s2, _⟩ := s1 [] cs
  have hret : ∃ todo, Steps P (lone (b.atR a' (todoOut o its [])) cs w') (lone { b.atR a' todo with mode := .returning } cs w') := by
    rcases ho with rfl | rfl
    · exact ⟨_, .one (stepR_end rfl)⟩
    · exact ⟨_, .one (stepR_ret rfl)⟩
  obtain ⟨todo, s3⟩ := hret
  obtain ⟨fr', s4, l4, n4⟩ := h7 { b.atR a' todo with mode := .returning } cs rfl rfl rfl rfl rfl
  refine ⟨fr', ?_, l4, n4⟩
  rw [hent]
  exact (s2.trans s3).trans s4
/-- The last piece. -/
theorem last_piece (ok : EnvOK P E) {k : Nat} {p : PF} (hp : pf E k = some p) {c : Code} {cx : Cx} (hF : FFOK P E cx.F) (hk : cx.fn = k) {s : St} {v : Value} {h' : Heap} (hh : evC E p.M c cx s (fnK p.rs) = some (.val v h')) :
    ∃ o s', (o = .normal ∨ o = .ret) ∧ Go2 P E p.M cx s s' o (fun kk => .code c :: kk) ∧ s.h.next ≤ s'.h.next ∧ doneS p.rs s'.T s'.D s'.h = some (.val v h') := by
  obtain ⟨fn, m, hfn, hpM, hpc, hprs⟩ := pf_inv hp
  obtain ⟨o, s', h4, hn1, g⟩ := code_all ok (draw_ok ok) (by rw [hpM]) c cx _ _ _ hF (fun p' hp' => by rw [hk, hp] at hp'; cases hp'; rfl) hh
  unfold fnK at h4
  cases o with
  | normal => exact ⟨.normal, s', .inl rfl, g, hn1, h4⟩
  | exit i => cases h4
  | ret => exact ⟨.ret, s', .inr rfl, g, hn1, h4⟩
end Go.Ev
set_option linter.unusedVariables false
namespace Go.Ev
variable {P : Program} {E : Env} {M : MN} {r : Res} {F : FF}

/-- A function, from its entry until it is to be left. -/
def Leaves (P : Program) (E : Env) (k : Nat) (args : List Value) (h : Heap) (v : Value) (h' : Heap) : Prop :=
  h.next ≤ h'.next ∧ (∃ fn c, P.funcs[k]? = some fn ∧ (fn.name == "runtime.NumGoroutine") = false ∧ fn.body = some c) ∧ ∀ σ w (args' : Array Value), GOK E σ → HR E σ h w → LR σ args args'.toList → Fresh σ h.next h'.next →
      ∃ v' w' τ, VR τ v v' ∧ Go E σ h w τ h' w' ∧ ∀ cs, ∃ fr', Steps P (lone (Frame.enter P k args' .normal) cs w) (lone fr' cs w') ∧ fr'.leaving P w' (.returned v') ∧ fr'.fn = k

/-- A function's part of FFOK. -/
def FnOK (P : Program) (E : Env) (k : Nat) (args cap : List Value) (h : Heap) (v : Value) (h' : Heap) : Prop :=
  h.next ≤ h'.next ∧ ∀ σ w fn' args' cap', GOK E σ → HR E σ h w → FnR σ (.func k) fn' → LR σ args args' → LR σ cap cap' → Fresh σ h.next h'.next →
    ∃ nx w₁ v' w' τ, (invoke (.fn fn' ⟨cap'⟩) ⟨args'⟩).run P w = .ok nx w₁ ∧ NextTo P nx w₁ v' w' ∧ VR τ v v' ∧ Go E σ h w τ h' w'
theorem Leaves.fn {k : Nat} {args cap : List Value} {h h' : Heap} {v : Value} (hl : Leaves P E k (args ++ cap) h v h') : FnOK P E k args cap h v h' := by
  obtain ⟨hn, ⟨fn, c, hfk, hname, hc⟩, hs⟩ := hl
  refine ⟨hn, fun σ w fn' args' cap' hg hr hfn hargs hcap fre => ?_⟩
  cases hfn
  obtain ⟨v', w', τ, hv, hgo, hst⟩ := hs σ w ⟨args' ++ cap'⟩ hg hr (hargs.append hcap) fre
  refine ⟨.enter k (⟨args'⟩ ++ ⟨cap'⟩), w, v', w', τ, ?_, ?_, hv, hgo⟩
  · exact MuLone.run_callFunc_enter hfk hname hc _ w
  · intro c cs
    obtain ⟨fr', s1, l1, _⟩ := hst (c :: cs)
    have e : (⟨args'⟩ ++ ⟨cap'⟩ : Array Value) = ⟨args' ++ cap'⟩ := by apply Array.ext'; simp
    rw [e]
    exact s1.trans (.one (step_leave_returned l1))

/-- The evaluator, beside functions that are known. -/
noncomputable def evG (E : Env) (ov : FF) : Nat → FF
  | 0 => fun _ _ _ _ => none
  | n + 1 => fun f args cap h => match ov f args cap h with
    | some r => some r
    | none => match f with
      | .func k => enterF E (evG E ov n) k (app args cap) h n
      | .yield l => roundS E (evG E ov n) l args h n
      | _ => none
theorem evG_ok (ok : EnvOK P E) {ov : FF} (hov : FFOK P E ov) : ∀ n, FFOK P E (evG E ov n)
  | 0 => fun fn args cap h v h' hh => by cases hh
  | n + 1 => fun fn args cap h v h' hh => by
    have ih := evG_ok ok hov n
    unfold evG at hh
    split at hh
    · rename_i r hr
      cases hh
      exact hov fn args cap h v h' hr
    · split at hh
      · rename_i k _
        rw [app_eq] at hh
        exact Leaves.fn (enterF_leaves (P := P) ok (draw_ok ok) ih hh)
      · rename_i l _
        obtain ⟨hn, hs⟩ := roundS_ok (P := P) ok (draw_ok ok) ih hh
        refine ⟨hn, fun σ w fn' args' cap' hg hr hfn hargs hcap fre => ?_⟩
        cases hfn with
        | yield hnl => exact hs σ w _ ⟨args'⟩ hg hr hnl hargs fre
      · cases hh
theorem evG_func {ov : FF} {n k : Nat} {args cap : List Value} {h : Heap} (ho : ov (.func k) args cap h = none) : evG E ov (n + 1) (.func k) args cap h = enterF E (evG E ov n) k (args ++ cap) h n := by
  show (match ov (.func k) args cap h with | some r => some r | none => enterF E (evG E ov n) k (app args cap) h n) = _
  rw [ho, app_eq]
theorem evG_yield {ov : FF} {n l : Nat} {args cap : List Value} {h : Heap} (ho : ov (.yield l) args cap h = none) : evG E ov (n + 1) (.yield l) args cap h = roundS E (evG E ov n) l args h n := by
  show (match ov (.yield l) args cap h with | some r => some r | none => roundS E (evG E ov n) l args h n) = _
  rw [ho]
theorem evG_ov {ov : FF} {n : Nat} {f : Fn} {args cap : List Value} {h : Heap} {r : Res} (ho : ov f args cap h = some r) : evG E ov (n + 1) f args cap h = some r := by
  show (match ov f args cap h with | some r => some r | none => _) = _
  rw [ho]

theorem plain_eq {σ : Sg} {v v' : Value} (h : plain v = true) (hv : VR σ v v') : v' = v := by
  cases hv with
  | bool => rfl
  | int => rfl
  | string => rfl
  | nilPtr => rfl
  | ptr => cases h
  | nilSlice => rfl
  | slice => cases h
  | nilMap => rfl
  | nilFunc => rfl
  | nilIface => rfl
  | func => cases h
  | agg => cases h
  | tuple => cases h

/-- A memory that is told by the program's text alone. -/
def Laid (E : Env) (h0 : Heap) : Prop := E.ng ≤ h0.next ∧ ∀ n B, h0.b.get n = some B → n < E.ng ∧ ∃ m es c, B = .fixed m es c ∧ ∀ (i : Nat) (l : Cells), c.get i = some l → plains l = true
theorem plains_mem {l : List Value} (h : plains l = true) : ∀ x ∈ l, plain x = true := by
  induction l with
  | nil => intro x hx; cases hx
  | cons v l ih =>
    have h : Bool.rec (motive := fun _ => Bool) false (plains l) (plain v) = true := h
    intro x hx
    cases hb : plain v with
    | false => rw [hb] at h; cases h
    | true =>
      rw [hb] at h
      rcases List.mem_cons.1 hx with e | hx
      · subst e; exact hb
      · exact ih h x hx
theorem Laid.hr {h0 h : Heap} (hl : Laid E h0) {σ : Sg} {w : World} (hg : GOK E σ) (hr : HR E σ h w) (hs : ∀ n B, h0.b.get n = some B → h.b.get n = some B) : HR E (sg0 E.ng) h0 w := by
  refine ⟨fun n B hB => ?_, fun n m B C b x y hB hC hx hy => ?_⟩
  · obtain ⟨hn, m, es, c, e, hp⟩ := hl.2 n B hB
    subst e
    obtain ⟨b, base, κ, o, h1, h2, h3⟩ := hr.live n _ (hs n _ hB)
    rw [hg n hn] at h1; cases h1
    refine ⟨n, 0, 0, o, by simp [sg0, hn], h2, ?_⟩
    cases h3 with
    | fixed h4 h5 =>
      refine .fixed h4 fun i l hi hli => ⟨(h5 i l hi hli).1, fun j x hx => ?_⟩
      obtain ⟨y, h6, h7, h8⟩ := (h5 i l hi hli).2 j x hx
      have hpx := plains_mem (hp i l hli) x (List.mem_of_getElem? hx)
      rw [plain_eq hpx h7] at h6
      exact ⟨x, h6, (plain_VR hpx _).1, h8⟩
  · have h1 : n < E.ng := (hl.2 n B hB).1
    have h2 : m < E.ng := (hl.2 m C hC).1
    simp [sg0, h1, h2] at hx hy
    omega

/-- **What was run at the laid memory holds at every one.** -/
theorem Leaves.laid {k : Nat} {h0 h' : Heap} {v : Value} (hlv : Leaves P E k [] h0 v h') (hl : Laid E h0) (hp : plain v = true) {h : Heap} (hs : ∀ n B, h0.b.get n = some B → h.b.get n = some B) : FnOK P E k [] [] h v h := by
  refine Leaves.fn ⟨Nat.le_refl _, hlv.2.1, fun σ w args' hg hr hargs _ => ?_⟩
  have e : args'.toList = [] := List.eq_nil_of_length_eq_zero hargs.1.symm
  obtain ⟨v', w', τ, hv, g, hst⟩ := hlv.2.2 (sg0 E.ng) w args' gok0 (hl.hr hg hr hs) (by rw [e]; exact LR.nil _) (fun m h1 h2 => by simp [sg0]; have := hl.1; omega)
  have hk : ∀ i, i < w.heap.size → w'.heap[i]? = w.heap[i]? := fun i hi => g.keep i hi fun m B x hB hf => by
    obtain ⟨_, _, _, _, e, _⟩ := hl.2 m B hB
    subst e; cases hf
  rw [plain_eq hp hv] at hst
  refine ⟨v, w', σ, (plain_VR hp σ).1, ⟨Ext.refl σ, fun n x hx => .inl hx, Nat.le_refl _, ⟨fun n B hB => ?_, hr.inj⟩, g.os, g.tape, g.output, g.size, fun i hi _ => hk i hi, fun n B x hB hx _ => ⟨n, B, x, hB, id, hx, rfl⟩⟩, hst⟩
  obtain ⟨b, base, κ, o, h1, h2, h3⟩ := hr.live n B hB
  exact ⟨b, base, κ, o, h1, by rw [hk b (Array.getElem?_eq_some_iff.1 h2).1]; exact h2, h3⟩

/-- A closed function that answers. -/
noncomputable def ovClosed (k : Nat) (h0 : Heap) (v : Value) : FF := fun f args cap h =>
  match f, args, cap with
  | .func q, [], [] => @ite _ (q = k ∧ ∀ n B, h0.b.get n = some B → h.b.get n = some B) (Classical.propDecidable _) (some (.val v h)) none
  | _, _, _ => none
theorem ovClosed_ok {k : Nat} {h0 h' : Heap} {v : Value} (hlv : Leaves P E k [] h0 v h') (hl : Laid E h0) (hp : plain v = true) : FFOK P E (ovClosed k h0 v) := fun fn args cap h u h1 hh => by
  unfold ovClosed at hh
  split at hh
  · split at hh
    · rename_i q hc
      cases hh
      obtain ⟨e, hs⟩ := hc
      subst e
      exact hlv.laid hl hp hs
    · cases hh
  · cases hh
theorem ovClosed_self {k : Nat} {h0 h : Heap} {v : Value} (hs : ∀ n B, h0.b.get n = some B → h.b.get n = some B) : ovClosed k h0 v (.func k) [] [] h = some (.val v h) := by
  unfold ovClosed
  exact if_pos ⟨rfl, hs⟩
theorem ovClosed_other {k q : Nat} {h0 h : Heap} {v : Value} {args cap : List Value} (hne : q ≠ k) : ovClosed k h0 v (.func q) args cap h = none := by
  unfold ovClosed
  split
  · rename_i q' e; cases e; exact if_neg (fun h => hne h.1)
  · rfl
theorem ovClosed_yield {k l : Nat} {h0 h : Heap} {v : Value} {args cap : List Value} : ovClosed k h0 v (.yield l) args cap h = none := rfl
end Go.Ev
