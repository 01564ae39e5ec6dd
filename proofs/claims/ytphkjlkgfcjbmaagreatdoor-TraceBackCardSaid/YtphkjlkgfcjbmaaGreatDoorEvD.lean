/- DrawOK is proved: regions whose order the tape draws come to what the evaluator says, given EnvOK. -/
import Derived.Test.YtphkjlkgfcjbmaaGreatDoorEvC
import Derived.Orders
set_option linter.all false
set_option linter.unusedVariables false
namespace Go.Ev
variable {P : Program} {E : Env} {M : MN} {r : Res} {F : FF}

/-- **The frame.** A step of a part of a memory, seen as a step of the whole. -/
theorem go_frame {σ τ : Sg} {h h' H H' : Heap} {w w' : World} (g : Go E σ h w τ h' w') (hr : HR E σ H w) (hsub : ∀ n B, h.b.get n = some B → H.b.get n = some B)
    (hnew : ∀ n B, H'.b.get n = some B → h'.b.get n = some B ∨ (h.b.get n = none ∧ H.b.get n = some B)) (hlo : H.next ≤ h.next) (hhi : h'.next ≤ H'.next) : Go E σ H w τ H' w' where
  ext := g.ext
  new := fun n x hx => by
    rcases g.new n x hx with h1 | ⟨h1, h2⟩
    · exact .inl h1
    · exact .inr ⟨by omega, by omega⟩
  le := by have := g.le; omega
  hr := by
    have side : ∀ n B, h.b.get n = none → H.b.get n = some B → ∃ b base κ o, σ.ρ n = some (b, base, κ) ∧ b < w.heap.size ∧ w'.heap[b]? = some o ∧ BR E σ B base κ o := fun n B h0 hB => by
      obtain ⟨b, base, κ, o, h1, h2, h3⟩ := hr.live n B hB
      have hlt := (Array.getElem?_eq_some_iff.1 h2).1
      refine ⟨b, base, κ, o, h1, hlt, ?_, h3⟩
      rw [g.keep b hlt (fun m C x hC _ hx e => ?_), h2]
      obtain ⟨b2, y⟩ := x
      have e : b2 = b := e
      subst e
      have := hr.inj m n C B b2 y (base, κ) (hsub m C hC) hB hx h1
      subst this
      rw [h0] at hC; cases hC
    refine ⟨fun n B hB => ?_, fun n m B C b x y hB hC hx hy => ?_⟩
    · rcases hnew n B hB with h1 | ⟨h0, h1⟩
      · exact g.hr.live n B h1
      · obtain ⟨b, base, κ, o, h2, _, h3, h4⟩ := side n B h0 h1
        exact ⟨b, base, κ, o, g.ext _ _ h2, h3, h4.mono g.ext⟩
    · have mixed : ∀ {n m : Nat} {B C : Blk} {x y : Nat × Nat}, h'.b.get n = some B → h.b.get m = none → H.b.get m = some C → τ.ρ n = some (b, x) → τ.ρ m = some (b, y) → False := fun {n m B C x y} hB h0 hC hx hy => by
        obtain ⟨b2, base, κ, o, h2, hlt, h3, h4⟩ := side m C h0 hC
        have e := g.ext _ _ h2
        rw [hy] at e
        cases e
        obtain ⟨q, D, z, hD, _, hz, e2⟩ := g.img n B _ hB hx hlt
        obtain ⟨b3, z⟩ := z
        have e2 : b3 = b := e2
        subst e2
        have := hr.inj q m D C b3 z (base, κ) (hsub q D hD) hC hz h2
        subst this
        rw [h0] at hD; cases hD
      rcases hnew n B hB with h1 | ⟨h0, h1⟩ <;> rcases hnew m C hC with h2 | ⟨h0', h2⟩
      · exact g.hr.inj n m B C b x y h1 h2 hx hy
      · exact (mixed h1 h0' h2 hx hy).elim
      · exact (mixed h2 h0 h1 hy hx).elim
      · obtain ⟨b1, base1, κ1, o1, e1, _⟩ := side n B h0 h1
        obtain ⟨b2, base2, κ2, o2, e2, _⟩ := side m C h0' h2
        have f1 := g.ext _ _ e1
        have f2 := g.ext _ _ e2
        rw [hx] at f1; rw [hy] at f2
        cases f1; cases f2
        exact hr.inj n m B C b _ _ h1 h2 e1 e2
  os := g.os
  tape := g.tape
  output := g.output
  size := g.size
  keep := fun k hk hn => g.keep k hk fun n B x hB hf hx => hn n B x (hsub n B hB) hf hx
  img := fun n B x hB hx hlt => by
    rcases hnew n B hB with h1 | ⟨h0, h1⟩
    · obtain ⟨m, C, y, hC, hf, hy, e⟩ := g.img n B x h1 hx hlt
      exact ⟨m, C, y, hsub m C hC, hf, hy, e⟩
    · obtain ⟨b, base, κ, o, h2, _⟩ := hr.live n B h1
      have e := g.ext _ _ h2
      rw [hx] at e
      cases e
      exact ⟨n, B, _, h1, id, h2, rfl⟩
end Go.Ev
set_option linter.unusedVariables false
namespace Go.Ev

theorem eqA_ok {a b : Option Addr} (h : eqA a b = true) : a = b := by
  unfold eqA at h
  split at h
  · rfl
  · rename_i a b
    obtain ⟨ba, oa, sa⟩ := a
    obtain ⟨bb, ob, sb⟩ := b
    simp only [Bool.and_eq_true] at h
    obtain ⟨⟨h1, h2⟩, h3⟩ := h
    have h1 : ba = bb := Nat.eq_of_beq_eq_true h1
    have h2 : oa = ob := Nat.eq_of_beq_eq_true h2
    subst h1 h2
    cases sa <;> cases sb <;> first | rfl | cases h3
  · cases h
theorem same1_ok {x y : Value} (h : same1 x y = true) : x = y := by
  unfold same1 at h
  split at h
  · rw [eq_of_beq h]
  · rw [Bool.and_eq_true] at h
    have h1 := kindN_inj h.1
    have h2 := h.2
    rw [eqI_eq] at h2
    rw [h1, eq_of_beq h2]
  · rename_i a b
    rw [eqB_eq] at h
    have := eq_of_beq h
    have e : a = b := ByteArray.ext (Array.ext' this)
    rw [e]
  · rw [eqA_ok h]
  · simp only [Bool.and_eq_true] at h
    obtain ⟨⟨h1, h2⟩, h3⟩ := h
    rw [eqA_ok h1, Nat.eq_of_beq_eq_true h2, Nat.eq_of_beq_eq_true h3]
  · rfl
  · rw [Nat.eq_of_beq_eq_true h]
  · rw [Nat.eq_of_beq_eq_true h]
  · rfl
  · cases h
theorem eqVs_ok : ∀ {l m : List Value}, eqVs same1 l m = true → l = m
  | [], [], _ => rfl
  | [], _ :: _, h => by cases h
  | _ :: _, [], h => by cases h
  | a :: l, b :: m, h => by
    have h : Bool.rec (motive := fun _ => Bool) false (eqVs same1 l m) (same1 a b) = true := h
    cases hb : same1 a b with
    | false => rw [hb] at h; cases h
    | true => rw [hb] at h; rw [same1_ok hb, eqVs_ok h]
theorem same_ok {x y : Value} (h : same x y = true) : x = y := by
  unfold same at h
  split at h
  · rw [Array.ext' (eqVs_ok h)]
  · exact same1_ok h

/-- What is left to do later, and does not stand in the way. -/
theorem merge_inv {r : Res} {anc : Nat} {all : Bool} {f : Tr Blk → List (Nat × Nat × Blk) → R} : ∀ {l : List (Nat × Nat × Blk)} {b : Tr Blk} {acc : List (Nat × Nat × Blk)},
    (List.rec (motive := fun _ => Tr Blk → List (Nat × Nat × Blk) → R) (fun b l => f b l) (fun p _ ih b l => Bool.rec (motive := fun _ => R) (ih b (p :: l)) (ih (b.put (some p.2.2) p.2.1) l) (all || bitK anc p.1)) l b acc) = some r →
    ∃ b' rest, f b' rest = some r ∧ (∀ n B, b'.get n = some B → b.get n = some B ∨ ∃ p ∈ l, (all || bitK anc p.1) = true ∧ n = p.2.1 ∧ B = p.2.2) ∧ (∀ p, p ∈ rest ↔ p ∈ acc ∨ (p ∈ l ∧ (all || bitK anc p.1) = false))
  | [], b, acc, h => ⟨b, acc, h, fun n B h => .inl h, fun p => by simp⟩
  | p :: l, b, acc, h => by
    cases hb : (all || bitK anc p.1) with
    | true =>
      simp only [hb] at h
      obtain ⟨b', rest, h1, h2, h3⟩ := merge_inv (l := l) h
      refine ⟨b', rest, h1, fun n B hB => ?_, fun q => ?_⟩
      · rcases h2 n B hB with h4 | ⟨q, hq, h5⟩
        · rcases Tr.get_put _ _ _ _ h4 with ⟨e, e2⟩ | ⟨_, h6⟩
          · cases e2; exact .inr ⟨p, List.mem_cons_self, hb, e, rfl⟩
          · exact .inl h6
        · exact .inr ⟨q, List.mem_cons_of_mem _ hq, h5⟩
      · rw [h3 q]
        constructor
        · rintro (h | ⟨h, h'⟩)
          · exact .inl h
          · exact .inr ⟨List.mem_cons_of_mem _ h, h'⟩
        · rintro (h | ⟨h, h'⟩)
          · exact .inl h
          · rcases List.mem_cons.1 h with e | h
            · subst e; rw [hb] at h'; cases h'
            · exact .inr ⟨h, h'⟩
    | false =>
      simp only [hb] at h
      obtain ⟨b', rest, h1, h2, h3⟩ := merge_inv (l := l) h
      refine ⟨b', rest, h1, fun n B hB => ?_, fun q => ?_⟩
      · rcases h2 n B hB with h4 | ⟨q, hq, h5⟩
        · exact .inl h4
        · exact .inr ⟨q, List.mem_cons_of_mem _ hq, h5⟩
      · rw [h3 q]
        constructor
        · rintro (h | ⟨h, h'⟩)
          · rcases List.mem_cons.1 h with e | h
            · subst e; exact .inr ⟨List.mem_cons_self, hb⟩
            · exact .inl h
          · exact .inr ⟨List.mem_cons_of_mem _ h, h'⟩
        · rintro (h | ⟨h, h'⟩)
          · exact .inl (List.mem_cons_of_mem _ h)
          · rcases List.mem_cons.1 h with e | h
            · subst e; exact .inl List.mem_cons_self
            · exact .inr ⟨h, h'⟩
end Go.Ev
set_option linter.unusedVariables false
namespace Go.Ev
variable {P : Program} {E : Env} {M : MN} {r : Res} {F : FF}

/-- What a frame holds under a name. -/
noncomputable def look (M : MN) (fr : Fr) (t : Nat) : Option Value := if Nat.testBit M.m t = true then firstL t fr.L else fr.T.get t

theorem evO_tmp (M : MN) (t : Nat) (fr : Fr) (f : KV) : evO (po M (.tmp t)) fr f = oS (look M fr t) f := by
  unfold po look
  simp only []
  cases hb : Nat.testBit M.m t with
  | true =>
    simp only [if_true]
    show lookL t f fr.L = _
    induction fr.L with
    | nil => rfl
    | cons p l ih =>
      change Bool.rec (motive := fun _ => R) (lookL t f l) (f p.2) (Nat.beq p.1 t) = _
      unfold firstL
      cases hb : Nat.beq p.1 t with
      | true => rw [if_pos (Nat.eq_of_beq_eq_true hb)]; rfl
      | false => rw [if_neg (fun e => by rw [e, Nat.beq_refl] at hb; cases hb)]; exact ih
  | false => simp only [Bool.false_eq_true, if_false]; rfl

/-! ## A part of a frame -/
def Tr.filt {α : Type} : (Nat → Bool) → Tr α → Tr α
  | _, .leaf => .leaf
  | p, .node l v r => .node (l.filt fun q => p (2 * q + 1)) (if p 0 then v else none) (r.filt fun q => p (2 * q + 2))
theorem Tr.get_filt {α : Type} : ∀ (T : Tr α) (p : Nat → Bool) (t : Nat), (T.filt p).get t = if p t then T.get t else none
  | .leaf, p, t => by simp [Tr.filt, Tr.get_leaf]
  | .node l v r, p, 0 => by simp [Tr.filt, Tr.get_zero]
  | .node l v r, p, t + 1 => by
    unfold Tr.filt
    rw [Tr.get_succ, Tr.get_succ, Tr.get_filt l, Tr.get_filt r]
    by_cases h : t % 2 = 0
    · rw [if_pos h, if_pos h]
      have : 2 * (t / 2) + 1 = t + 1 := by omega
      rw [this]
    · rw [if_neg h, if_neg h]
      have : 2 * (t / 2) + 2 = t + 1 := by omega
      rw [this]
noncomputable def Fr.part (p : Nat → Bool) (fr : Fr) : Fr := ⟨fr.L.filter fun q => p q.1, fr.T.filt p⟩
theorem firstL_filter {p : Nat → Bool} {t : Nat} : ∀ {L : List (Nat × Value)}, firstL t (L.filter fun q => p q.1) = if p t then firstL t L else none
  | [] => by simp [firstL]
  | q :: L => by
    by_cases hq : p q.1 = true
    · rw [List.filter_cons_of_pos (by simpa using hq)]
      unfold firstL
      by_cases e : q.1 = t
      · rw [if_pos e, if_pos e, if_pos (e ▸ hq)]
      · rw [if_neg e, if_neg e]; exact firstL_filter
    · rw [List.filter_cons_of_neg (by simpa using hq), firstL_filter]
      by_cases ht : p t = true
      · have e : q.1 ≠ t := fun e => hq (e ▸ ht)
        rw [if_pos ht, if_pos ht, show firstL t (q :: L) = firstL t L from by rw [firstL, if_neg e]]
      · rw [if_neg ht, if_neg ht]
theorem look_part (p : Nat → Bool) (fr : Fr) (t : Nat) : look M (fr.part p) t = if p t then look M fr t else none := by
  unfold look Fr.part
  dsimp only
  rw [firstL_filter, Tr.get_filt]
  split <;> rfl

theorem FrR.of_look {σ : Sg} {fr : Fr} {a : Act} (hs : M.nt ≤ a.tmps.size) (h : ∀ t v, look M fr t = some v → ∃ v', a.tmps[t]? = some v' ∧ VR σ v v') : FrR M σ fr a :=
  ⟨hs, fun t v hb ht => h t v (by unfold look; rw [hb]; simpa using ht), fun t v hb ht => h t v (by unfold look; rw [hb]; simpa using ht)⟩
theorem FrR.look {σ : Sg} {fr : Fr} {a : Act} (h : FrR M σ fr a) {t : Nat} {v : Value} (ht : look M fr t = some v) : ∃ v', a.tmps[t]? = some v' ∧ VR σ v v' := by
  unfold Ev.look at ht
  cases hb : Nat.testBit M.m t with
  | true => rw [hb] at ht; exact h.L t v hb (by simpa using ht)
  | false => rw [hb] at ht; exact h.T t v hb (by simpa using ht)

/-! ## What an operation looks at -/
def I.pos : I → List PO
  | .none => []
  | .move x => [x]
  | .pick c a b => [c, a, b]
  | .alloc _ _ => []
  | .box _ x => [x]
  | .build _ _ _ xs => xs
  | .buildSlice _ _ _ xs => xs
  | .load _ a => [a]
  | .store _ a x => [a, x]
  | .nil x => [x]
  | .bin _ x y => [x, y]
  | .un _ x => [x]
  | .conv _ x => [x]
  | .func _ a b => a ++ b
  | .makeSlice _ l c => [l, c]
  | .slice _ x lo hi mx => x :: (lo.toList ++ hi.toList ++ mx.toList)
  | .strSlice x lo hi => x :: (lo.toList ++ hi.toList)
  | .fieldAddr _ x => [x]
  | .field _ x => [x]
  | .indexSl _ x i => [x, i]
  | .indexArr _ _ x i => [x, i]
  | .indexStr x i => [x, i]
  | .extract x _ => [x]
  | .len x => [x]
  | .lenStr x => [x]
  | .cap x => [x]
  | .min x y => [x, y]
  | .append _ s x => [s, x]
  | .call f xs => f :: xs

theorem evL_congr {fr fr' : Fr} : ∀ {xs : List PO}, (∀ x ∈ xs, evO x fr = evO x fr') → evL xs fr = evL xs fr'
  | [], _ => rfl
  | x :: xs, h => by
    funext f
    change evO x fr (fun v => evL xs fr fun vs => f (v :: vs)) = evO x fr' (fun v => evL xs fr' fun vs => f (v :: vs))
    rw [h x List.mem_cons_self, evL_congr (xs := xs) fun y hy => h y (List.mem_cons_of_mem _ hy)]
theorem evOpt_congr {fr fr' : Fr} {x : Option PO} (h : ∀ y ∈ x.toList, evO y fr = evO y fr') : evOpt x fr = evOpt x fr' := by
  cases x with
  | none => rfl
  | some x =>
    funext f
    change evO x fr (fun v => f (some v)) = evO x fr' (fun v => f (some v))
    rw [h x (by simp)]
theorem exec_congr {fr fr' : Fr} : ∀ (i : I), (∀ x ∈ i.pos, evO x fr = evO x fr') → exec i F fr = exec i F fr' := by
  intro i h
  cases i with
  | none => rfl
  | alloc e z => rfl
  | build p z ps xs =>
    show xBuild p z ps xs fr = xBuild p z ps xs fr'
    unfold xBuild
    rw [evL_congr (fr' := fr') (xs := xs) h]
  | buildSlice se n ps xs =>
    show xBuildSlice se n ps xs fr = xBuildSlice se n ps xs fr'
    unfold xBuildSlice
    rw [evL_congr (fr' := fr') (xs := xs) h]
  | func fn a b =>
    show xFunc fn a b fr = xFunc fn a b fr'
    unfold xFunc
    rw [evL_congr (fr' := fr') (xs := a) fun x hx => h x (List.mem_append_left _ hx), evL_congr (fr' := fr') (xs := b) fun x hx => h x (List.mem_append_right _ hx)]
  | slice se x lo hi mx =>
    show xSlice se x lo hi mx fr = xSlice se x lo hi mx fr'
    unfold xSlice
    rw [h x (by simp [I.pos]), evOpt_congr (fr' := fr') (x := lo) fun y hy => h y (by simp [I.pos] at hy ⊢; simp [hy]), evOpt_congr (fr' := fr') (x := hi) fun y hy => h y (by simp [I.pos] at hy ⊢; simp [hy]), evOpt_congr (fr' := fr') (x := mx) fun y hy => h y (by simp [I.pos] at hy ⊢; simp [hy])]
  | strSlice x lo hi =>
    show xStrSlice x lo hi fr = xStrSlice x lo hi fr'
    unfold xStrSlice
    rw [h x (by simp [I.pos]), evOpt_congr (fr' := fr') (x := lo) fun y hy => h y (by simp [I.pos] at hy ⊢; simp [hy]), evOpt_congr (fr' := fr') (x := hi) fun y hy => h y (by simp [I.pos] at hy ⊢; simp [hy])]
  | call f xs =>
    show xCall F f xs fr = xCall F f xs fr'
    unfold xCall
    rw [h f List.mem_cons_self, evL_congr (fr' := fr') (xs := xs) fun y hy => h y (List.mem_cons_of_mem _ hy)]
  | pick c a b =>
    show xPick c a b fr = xPick c a b fr'
    unfold xPick
    rw [h c (by simp [I.pos]), h a (by simp [I.pos]), h b (by simp [I.pos])]
  | store sz a x => show xStore sz a x fr = xStore sz a x fr'; unfold xStore; rw [h a (by simp [I.pos]), h x (by simp [I.pos])]
  | bin op a x => show xBin op a x fr = xBin op a x fr'; unfold xBin; rw [h a (by simp [I.pos]), h x (by simp [I.pos])]
  | makeSlice sz a x => show xMakeSlice sz a x fr = xMakeSlice sz a x fr'; unfold xMakeSlice; rw [h a (by simp [I.pos]), h x (by simp [I.pos])]
  | indexSl sz a x => show xIndexSl sz a x fr = xIndexSl sz a x fr'; unfold xIndexSl; rw [h a (by simp [I.pos]), h x (by simp [I.pos])]
  | indexArr n sz a x => show xIndexArr n sz a x fr = xIndexArr n sz a x fr'; unfold xIndexArr; rw [h a (by simp [I.pos]), h x (by simp [I.pos])]
  | indexStr a x => show xIndexStr a x fr = xIndexStr a x fr'; unfold xIndexStr; rw [h a (by simp [I.pos]), h x (by simp [I.pos])]
  | min a x => show xMin a x fr = xMin a x fr'; unfold xMin; rw [h a (by simp [I.pos]), h x (by simp [I.pos])]
  | append sz a x => show xAppend sz a x fr = xAppend sz a x fr'; unfold xAppend; rw [h a (by simp [I.pos]), h x (by simp [I.pos])]
  | move x => show xMove x fr = xMove x fr'; unfold xMove; rw [h x (by simp [I.pos])]
  | box e x => show xBox e x fr = xBox e x fr'; unfold xBox; rw [h x (by simp [I.pos])]
  | load g x => show xLoad g x fr = xLoad g x fr'; unfold xLoad; rw [h x (by simp [I.pos])]
  | nil x => show xNil x fr = xNil x fr'; unfold xNil; rw [h x (by simp [I.pos])]
  | un op x => show xUn op x fr = xUn op x fr'; unfold xUn; rw [h x (by simp [I.pos])]
  | conv c x => show xConv c x fr = xConv c x fr'; unfold xConv; rw [h x (by simp [I.pos])]
  | fieldAddr fd x => show xFieldAddr fd x fr = xFieldAddr fd x fr'; unfold xFieldAddr; rw [h x (by simp [I.pos])]
  | field fd x => show xField fd x fr = xField fd x fr'; unfold xField; rw [h x (by simp [I.pos])]
  | extract x i => show xExtract x i fr = xExtract x i fr'; unfold xExtract; rw [h x (by simp [I.pos])]
  | len x => show xLen x fr = xLen x fr'; unfold xLen; rw [h x (by simp [I.pos])]
  | lenStr x => show xLenStr x fr = xLenStr x fr'; unfold xLenStr; rw [h x (by simp [I.pos])]
  | cap x => show xCap x fr = xCap x fr'; unfold xCap; rw [h x (by simp [I.pos])]

theorem readyB_pos {b : Builtin} {as : List Operand} {ts : List TypeId} : ∀ x ∈ (readyB E M b as ts).pos, ∃ y ∈ as, x = po M y := by
  unfold readyB
  split
  · split <;> intro x hx <;> simp [I.pos] at hx <;> (subst hx; exact ⟨_, List.mem_cons_self, rfl⟩)
  · split <;> intro x hx <;> simp [I.pos] at hx <;> (subst hx; exact ⟨_, List.mem_cons_self, rfl⟩)
  · intro x hx
    simp [I.pos] at hx
    rcases hx with h | h <;> subst h
    · exact ⟨_, List.mem_cons_self, rfl⟩
    · exact ⟨_, List.mem_cons_of_mem _ List.mem_cons_self, rfl⟩
  · split
    · intro x hx
      simp [I.pos] at hx
      rcases hx with h | h <;> subst h
      · exact ⟨_, List.mem_cons_self, rfl⟩
      · exact ⟨_, List.mem_cons_of_mem _ List.mem_cons_self, rfl⟩
    · intro x hx; simp [I.pos] at hx
  · intro x hx; simp [I.pos] at hx
theorem ready_pos {op : Op} : ∀ x ∈ (ready E M op).pos, ∃ y ∈ op.operands.toList, x = po M y := by
  unfold ready
  split
  all_goals try (intro x hx; simp [I.pos] at hx; done)
  all_goals try (intro x hx; simp [I.pos] at hx; first | (subst hx; exact ⟨_, by simp [Op.operands], rfl⟩) | (rcases hx with h | h <;> (subst h; exact ⟨_, by simp [Op.operands], rfl⟩)) | (rcases hx with h | h | h <;> (subst h; exact ⟨_, by simp [Op.operands], rfl⟩)))
  all_goals try (intro x hx; simp [I.pos] at hx; obtain ⟨a, b, hm, e⟩ := hx; exact ⟨b, by simp [Op.operands]; exact ⟨_, hm⟩, e.symm⟩)
  · intro x hx
    simp [I.pos] at hx
    rcases hx with ⟨y, hm, e⟩ | ⟨y, hm, e⟩
    · exact ⟨y, by simp [Op.operands, hm], e.symm⟩
    · exact ⟨y, by simp [Op.operands, hm], e.symm⟩
  · split
    all_goals try (intro x hx; simp [I.pos] at hx; done)
    · intro x hx
      simp [I.pos] at hx
      rcases hx with h | ⟨y, hm, e⟩ | ⟨y, hm, e⟩
      · exact ⟨_, by simp [Op.operands], h⟩
      · exact ⟨y, by simp [Op.operands, hm], e.symm⟩
      · exact ⟨y, by simp [Op.operands, hm], e.symm⟩
    · intro x hx
      simp [I.pos] at hx
      rcases hx with h | ⟨y, hm, e⟩ | ⟨y, hm, e⟩ | ⟨y, hm, e⟩
      · exact ⟨_, by simp [Op.operands], h⟩
      · exact ⟨y, by simp [Op.operands, hm], e.symm⟩
      · exact ⟨y, by simp [Op.operands, hm], e.symm⟩
      · exact ⟨y, by simp [Op.operands, hm], e.symm⟩
  · split <;> (intro x hx; simp [I.pos] at hx; rcases hx with h | h <;> (subst h; exact ⟨_, by simp [Op.operands], rfl⟩))
  · split
    · intro x hx
      simp [I.pos] at hx; rcases hx with h | h <;> (subst h; exact ⟨_, by simp [Op.operands], rfl⟩)
    · intro x hx; simp [I.pos] at hx
  · split
    · intro x hx
      obtain ⟨y, hy, e⟩ := readyB_pos x hx
      exact ⟨y, by simp [Op.operands, Call.operands]; simp at hy; simp [hy], e⟩
    · rename_i f hc
      intro x hx
      simp [I.pos] at hx
      rcases hx with h | ⟨y, hm, e⟩
      · exact ⟨f, by simp [Op.operands, Call.operands, hc], h⟩
      · exact ⟨y, by simp [Op.operands, Call.operands, hm], e.symm⟩
    · intro x hx; simp [I.pos] at hx
end Go.Ev
set_option linter.unusedVariables false
namespace Go.Ev
variable {P : Program} {E : Env} {M : MN} {r : Res} {F : FF}

/-- What the names of a set hold. -/
def On (M : MN) (S : Nat → Bool) (σ : Sg) (fr : Fr) (a : Act) : Prop := M.nt ≤ a.tmps.size ∧ ∀ t v, S t = true → look M fr t = some v → ∃ v', a.tmps[t]? = some v' ∧ VR σ v v'
theorem On.part {S : Nat → Bool} {σ : Sg} {fr : Fr} {a : Act} (h : On M S σ fr a) : FrR M σ (fr.part S) a := .of_look h.1 fun t v ht => by
  rw [look_part] at ht
  split at ht
  · rename_i hs; exact h.2 t v hs ht
  · cases ht

/-- An operation, at a memory. -/
def Sem (P : Program) (E : Env) (M : MN) (S : Nat → Bool) (op : Op) (fr : Fr) (h : Heap) (v : Value) (h' : Heap) : Prop :=
  ∀ σ w (a : Act), GOK E σ → HR E σ h w → On M S σ fr a → Fresh σ h.next h'.next → ∃ v' w' τ, Does P a.eval op w v' w' ∧ VR τ v v' ∧ Go E σ h w τ h' w'

theorem exec_sem (ok : EnvOK P E) (hM : M.ng = E.ng) (hF : FFOK P E F) {op : Op} {fr : Fr} {h : Heap} {f : KH} (hh : exec (ready E M op) F fr h f = some r) {S : Nat → Bool} (hS : ∀ t, Operand.tmp t ∈ op.operands.toList → S t = true) :
    ∃ v h', f v h' = some r ∧ h.next ≤ h'.next ∧ Sem P E M S op fr h v h' := by
  have hc : exec (ready E M op) F fr = exec (ready E M op) F (fr.part S) := exec_congr _ fun x hx => by
    obtain ⟨y, hy, rfl⟩ := ready_pos x hx
    cases y with
    | tmp t => funext f; rw [evO_tmp, evO_tmp, look_part, if_pos (hS t hy)]
    | const v => unfold po; simp only []; cases closed v <;> rfl
    | global g => unfold po; simp only []; cases Nat.blt g M.ng <;> rfl
    | func g => rfl
  rw [hc] at hh
  obtain ⟨v, h', h1, h2, h3⟩ := exec_ok ok hM hF op (fr.part S) h f r hh
  exact ⟨v, h', h1, h2, fun σ w a hg hr ha fre => h3 hF σ w a hg hr ha.part fre⟩
theorem Sem.wide {S S' : Nat → Bool} {op : Op} {fr : Fr} {h h' : Heap} {v : Value} (hs : Sem P E M S op fr h v h') (hS : ∀ t, S t = true → S' t = true) : Sem P E M S' op fr h v h' :=
  fun σ w a hg hr ha fre => hs σ w a hg hr ⟨ha.1, fun t v ht hv => ha.2 t v (hS t ht) hv⟩ fre
theorem exec_all (ok : EnvOK P E) (hM : M.ng = E.ng) (hF : FFOK P E F) {op : Op} {fr : Fr} {h : Heap} {f : KH} (hh : exec (ready E M op) F fr h f = some r) :
    ∃ v h', f v h' = some r ∧ h.next ≤ h'.next ∧ ∀ S : Nat → Bool, (∀ t, Operand.tmp t ∈ op.operands.toList → S t = true) → Sem P E M S op fr h v h' := by
  obtain ⟨v, h', h1, h2, h3⟩ := exec_sem ok hM hF hh (S := fun t => @decide _ (Classical.propDecidable (Operand.tmp t ∈ op.operands.toList))) (fun t ht => by simpa using ht)
  exact ⟨v, h', h1, h2, fun S hS => h3.wide fun t ht => hS t (by simpa using ht)⟩
theorem exec_ret (ok : EnvOK P E) (hM : M.ng = E.ng) (hF : FFOK P E F) {op : Op} {fr : Fr} {h h' : Heap} {v : Value} (hh : exec (ready E M op) F fr h retK = some (.val v h')) {S : Nat → Bool} (hS : ∀ t, Operand.tmp t ∈ op.operands.toList → S t = true) :
    h.next ≤ h'.next ∧ Sem P E M S op fr h v h' := by
  obtain ⟨v0, h0, h1, h2, h3⟩ := exec_sem ok hM hF hh hS
  cases h1
  exact ⟨h2, h3⟩
theorem want_sem {ops : Array Oper} {o : Oper} {fr : Fr} {f : Bool → R} (hh : wantK (guardOf M ops.toList o.guard) fr f = some r) :
    ∃ b, f b = some r ∧ ∀ S : Nat → Bool, (∀ j b t, o.guard = some (j, b) → (ops.toList[j]?).bind (·.dst) = some t → S t = true) → ∀ σ (a : Act), On M S σ fr a → Region.wanted o (yielded ops a.tmps) = b := by
  cases hg : o.guard with
  | none => rw [hg] at hh; exact ⟨true, hh, fun S _ σ a _ => by simp [Region.wanted, hg]⟩
  | some g =>
    obtain ⟨j, want⟩ := g
    rw [hg] at hh
    unfold guardOf at hh
    simp only [] at hh
    cases hj : ops.toList[j]? with
    | none => rw [hj] at hh; cases hh
    | some o' =>
      rw [hj] at hh
      simp only [] at hh
      cases hd : o'.dst with
      | none => rw [hd] at hh; cases hh
      | some t =>
        rw [hd] at hh
        have h0 : evO (po M (.tmp t)) fr (fun v => vGuard v (f false) fun t => f (Bool.rec (motive := fun _ => Bool) (notB want) want t)) = some r := hh
        rw [evO_tmp] at h0
        obtain ⟨v, hl, h1⟩ := oS_inv h0
        have hj' : ops[j]? = some o' := by simpa using hj
        rcases vGuard_inv h1 with ⟨q, e, h2⟩ | ⟨q, e, h2⟩
        · subst e
          refine ⟨_, h2, fun S hS σ a ha => ?_⟩
          obtain ⟨v', h3, h4⟩ := ha.2 t _ (hS j want t rfl (by rw [hj]; exact hd)) hl
          rw [h4.bool_inv] at h3
          have hy : yielded ops a.tmps j = some q := by simp [yielded, hj', hd, h3]
          simp only [Region.wanted, hg, hy, notB_eq]
          cases q <;> cases want <;> rfl
        · subst e
          refine ⟨_, h2, fun S hS σ a ha => ?_⟩
          obtain ⟨v', h3, h4⟩ := ha.2 t _ (hS j want t rfl (by rw [hj]; exact hd)) hl
          obtain ⟨q', h5, _⟩ := h4.tuple_inv
          subst h5
          have hy : yielded ops a.tmps j = none := by simp [yielded, hj', hd, h3]
          simp only [Region.wanted, hg, hy]
          cases want <;> rfl

/-- What reads leaves the memory as it is. -/
theorem read_ret (ok : EnvOK P E) (hM : M.ng = E.ng) {op : Op} (hk : kindOf op = 1) {fr : Fr} {h h' : Heap} {v : Value} (hh : exec (ready E M op) F fr h retK = some (.val v h')) : h' = h := by
  unfold kindOf at hk
  split at hk
  all_goals try (cases hk; done)
  · rename_i t x
    obtain ⟨u, h1, -⟩ := evO_ok (E := E) hM (show evO (po M x) fr (fun a => vPtr a fun a => loadE (aggOf E t) h a fun v => retK v h) = some (.val v h') from hh)
    obtain ⟨a0, e, h2⟩ := vPtr_inv h1
    obtain ⟨u, hf, hu⟩ := loadE_ok (P := P) ok h2
    cases hf; rfl
  · rename_i s d x
    obtain ⟨u, h1, -⟩ := evO_ok (E := E) hM (show evO (po M x) fr (fun a => convK h (ckOf E s d) a fun v => retK v h) = some (.val v h') from hh)
    cases hc : ckOf E s d with
    | none => rw [hc] at h1; cases h1
    | int k =>
      rw [hc] at h1
      obtain ⟨k', n, e, h2⟩ := vInt_inv (show vInt u (fun _ n => kInt k (fun v => retK v h) (wrapE k n)) = some (.val v h') from h1)
      rw [kInt_eq] at h2
      cases h2; rfl
    | bytes =>
      rw [hc] at h1
      obtain ⟨b, n, c, e1, h2⟩ := vSlice_inv (show vSlice u (fun _ n _ => rowsOf 1 h u n fun rs => bytesE rs fun bs => retK (.string ⟨⟨bs⟩⟩) h) = some (.val v h') from h1)
      obtain ⟨rows, h3, hrl, hrows⟩ := rowsOf_ok (P := P) (E := E) h2
      obtain ⟨ns, h4, h5⟩ := bytesE_inv h3
      cases h4; rfl
  · split at hk <;> cases hk

/-! ## A frame, and one value more -/
def PutF (M : MN) (dst : Option Tmp) (fr fr' : Fr) (v : Value) : Prop :=
  (∀ t, dst = some t → t < M.nt) ∧ ∀ t u, look M fr' t = some u → (dst = some t ∧ u = v) ∨ (dst ≠ some t ∧ look M fr t = some u)
theorem putK_put {dst : Option Tmp} {fr : Fr} {v : Value} {f : Fr → R} (hh : putK (pd M dst) fr v f = some r) : ∃ fr', f fr' = some r ∧ PutF M dst fr fr' v := by
  cases dst with
  | none => exact ⟨fr, hh, ⟨fun t e => (by cases e), fun t u h => .inr ⟨by simp, h⟩⟩⟩
  | some t =>
    unfold pd at hh
    simp only [] at hh
    cases hb : Nat.blt t M.nt with
    | false => rw [hb] at hh; cases hh
    | true =>
      have hlt := (blt_iff _ _).1 hb
      rw [hb] at hh
      cases hm : Nat.testBit M.m t with
      | true =>
        rw [hm] at hh
        refine ⟨_, hh, fun q e => by cases e; exact hlt, fun q u hu => ?_⟩
        unfold look at hu ⊢
        by_cases e : t = q
        · subst e
          rw [hm] at hu
          simp only [if_true, firstL] at hu
          cases hu; exact .inl ⟨rfl, rfl⟩
        · refine .inr ⟨fun h => e (Option.some.inj h), ?_⟩
          cases hq : Nat.testBit M.m q with
          | true => rw [hq] at hu; simpa [firstL, e] using hu
          | false => rw [hq] at hu; simpa using hu
      | false =>
        rw [hm] at hh
        refine ⟨_, hh, fun q e => by cases e; exact hlt, fun q u hu => ?_⟩
        unfold look at hu ⊢
        cases hq : Nat.testBit M.m q with
        | true =>
          have e : t ≠ q := fun e => by subst e; rw [hm] at hq; cases hq
          rw [hq] at hu
          exact .inr ⟨fun h => e (Option.some.inj h), by simpa using hu⟩
        | false =>
          rw [hq] at hu
          simp only [Bool.false_eq_true, if_false] at hu ⊢
          rcases Tr.get_put _ _ _ _ hu with ⟨e, e2⟩ | ⟨hne, hu'⟩
          · cases e2; exact .inl ⟨by rw [e], rfl⟩
          · exact .inr ⟨fun h => hne (Option.some.inj h).symm, hu'⟩

theorem tryOld_inv {anc : Nat} {f : Heap → R → R} : ∀ {l : List (Nat × Heap)} {k : R}, tryOld anc f l k = some r → (∀ h k', f h k' = some r → k' = some r) → k = some r ∧ ∀ p ∈ l, bitK anc p.1 = false → ∃ k', f p.2 k' = some r
  | [], k, h, hf => ⟨h, fun p hp => by cases hp⟩
  | p :: l, k, h, hf => by
    have h1 : bI (bitK anc p.1) (tryOld anc f l k) (f p.2 (tryOld anc f l k)) = some r := h
    rw [bI_eq] at h1
    cases hb : bitK anc p.1 with
    | true =>
      rw [hb] at h1
      obtain ⟨h2, h3⟩ := tryOld_inv (l := l) h1 hf
      exact ⟨h2, fun q hq hqb => by
        rcases List.mem_cons.1 hq with e | hq
        · subst e; rw [hb] at hqb; cases hqb
        · exact h3 q hq hqb⟩
    | false =>
      rw [hb] at h1
      have h1 : f p.2 (tryOld anc f l k) = some r := by simpa using h1
      obtain ⟨h2, h3⟩ := tryOld_inv (l := l) (hf _ _ h1) hf
      exact ⟨h2, fun q hq hqb => by
        rcases List.mem_cons.1 hq with e | hq
        · subst e; exact ⟨_, h1⟩
        · exact h3 q hq hqb⟩
theorem tryRd_inv {anc : Nat} {h : Heap} : ∀ {l : List (Nat × Nat × (Heap → R → R))} {k : R}, tryRd anc h l k = some r → (∀ p ∈ l, ∀ h k', p.2.2 h k' = some r → k' = some r) → k = some r ∧ ∀ p ∈ l, bitK anc p.1 = false → ∃ k', p.2.2 h k' = some r
  | [], k, hh, hf => ⟨hh, fun p hp => by cases hp⟩
  | p :: l, k, hh, hf => by
    have h1 : bI (bitK anc p.1) (tryRd anc h l k) (p.2.2 h (tryRd anc h l k)) = some r := hh
    rw [bI_eq] at h1
    have hf' : ∀ p ∈ l, ∀ h k', p.2.2 h k' = some r → k' = some r := fun q hq => hf q (List.mem_cons_of_mem _ hq)
    cases hb : bitK anc p.1 with
    | true =>
      rw [hb] at h1
      obtain ⟨h2, h3⟩ := tryRd_inv (l := l) h1 hf'
      exact ⟨h2, fun q hq hqb => by
        rcases List.mem_cons.1 hq with e | hq
        · subst e; rw [hb] at hqb; cases hqb
        · exact h3 q hq hqb⟩
    | false =>
      rw [hb] at h1
      have h1 : p.2.2 h (tryRd anc h l k) = some r := by simpa using h1
      obtain ⟨h2, h3⟩ := tryRd_inv (l := l) (hf p List.mem_cons_self _ _ h1) hf'
      exact ⟨h2, fun q hq hqb => by
        rcases List.mem_cons.1 hq with e | hq
        · subst e; exact ⟨_, h1⟩
        · exact h3 q hq hqb⟩

/-- How a read is tried anew. -/
noncomputable def again (i : I) (F : FF) (fr : Fr) (v : Value) : Heap → R → R := fun h k => rVal (exec i F fr h retK) fun v' _ => bT (same v v') k
theorem again_inv {i : I} {fr : Fr} {v : Value} {h : Heap} {k : R} (hh : again i F fr v h k = some r) : k = some r ∧ ∃ h', exec i F fr h retK = some (.val v h') := by
  obtain ⟨v', h', h1, h2⟩ := rVal_inv hh
  obtain ⟨h3, h4⟩ := bT_inv h2
  rw [same_ok h3]
  exact ⟨h4, h', h1⟩

/-- What an operation asks. -/
def Asks (ops : Array Oper) (o : Oper) (S : Nat → Bool) : Prop :=
  (∀ t, Operand.tmp t ∈ o.op.operands.toList → S t = true) ∧ ∀ j b t, o.guard = some (j, b) → (ops.toList[j]?).bind (·.dst) = some t → S t = true

/-- One operation. -/
inductive StepF (P : Program) (E : Env) (M : MN) (F : FF) (ops : Array Oper) (o : Oper) (j A : Nat) : Bool → Value → DS → DS → Prop
  | skip {s : DS} {fr' : Fr} : PutF M o.dst s.fr fr' undef → StepF P E M F ops o j A false undef s { s with fr := fr' }
  | pure {s : DS} {fr' : Fr} {v : Value} {h' : Heap} : kindOf o.op = 0 → (∀ S, Asks ops o S → Sem P E M S o.op s.fr ⟨s.h.next, .leaf⟩ v h') → h'.next = s.h.next → PutF M o.dst s.fr fr' v →
      StepF P E M F ops o j A true v s { s with fr := fr' }
  | read {s : DS} {fr' : Fr} {v : Value} : kindOf o.op = 1 → (∀ S, Asks ops o S → Sem P E M S o.op s.fr s.h v s.h) →
      (∀ p ∈ s.old, bitK A p.1 = false → ∀ S, Asks ops o S → Sem P E M S o.op s.fr p.2 v p.2) → PutF M o.dst s.fr fr' v →
      StepF P E M F ops o j A true v s { s with fr := fr', rd := (j, A, again (ready E M o.op) F s.fr v) :: s.rd }
  | make {s : DS} {fr' : Fr} {v : Value} {h' : Heap} {b : Blk} : kindOf o.op = 2 → (∀ S, Asks ops o S → Sem P E M S o.op s.fr ⟨s.h.next, .leaf⟩ v h') → s.h.next < h'.next → h'.b.get s.h.next = some b → PutF M o.dst s.fr fr' v →
      StepF P E M F ops o j A true v s { s with fr := fr', h := ⟨h'.next, s.h.b⟩, fl := (j, s.h.next, b) :: s.fl }
  | effect {s : DS} {fr' : Fr} {v : Value} {h' : Heap} {b : Tr Blk} {fl : List (Nat × Nat × Blk)} : kindOf o.op = 3 → (∀ c, o.op ≠ .defer c) →
      (∀ n B, b.get n = some B → s.h.b.get n = some B ∨ ∃ p ∈ s.fl, bitK A p.1 = true ∧ n = p.2.1 ∧ B = p.2.2) → (∀ p, p ∈ fl ↔ p ∈ s.fl ∧ bitK A p.1 = false) →
      s.h.next ≤ h'.next → (∀ S, Asks ops o S → Sem P E M S o.op s.fr ⟨s.h.next, b⟩ v h') →
      (∀ p ∈ s.rd, bitK A p.1 = false → ∃ (r : Res) (k' : R), p.2.2 h' k' = some r) → PutF M o.dst s.fr fr' v →
      StepF P E M F ops o j A true v s { fr := fr', h := h', fl, old := (j, s.h) :: s.old, rd := s.rd }

theorem kindOf_le (op : Op) : kindOf op ≤ 3 := by
  unfold kindOf
  split <;> first | decide | (split <;> decide)
/-- Reads are tried anew. -/
def RdOK (F : FF) (s : DS) : Prop := ∀ p ∈ s.rd, ∃ i fr v, p.2.2 = again i F fr v

theorem stepD_inv (ok : EnvOK P E) (hF : FFOK P E F) (hM : M.ng = E.ng) {ops : Array Oper} {o : Oper} {j A : Nat} {s : DS} {k : DS → R} (hrd : RdOK F s) (hh : stepD ⟨ro E M ops.toList o, kindOf o.op, j, A⟩ F s k = some r) :
    ∃ s' wt v, k s' = some r ∧ StepF P E M F ops o j A wt v s s' ∧ RdOK F s' ∧ ∀ S, Asks ops o S → ∀ σ (a : Act), On M S σ s.fr a → Region.wanted o (yielded ops a.tmps) = wt := by
  have hh : wantK (guardOf M ops.toList o.guard) s.fr (fun w => bI w
    (match kindOf o.op with
      | 0 => rVal (exec (ready E M o.op) F s.fr ⟨s.h.next, .leaf⟩ retK) fun v h' => bT (Nat.beq h'.next s.h.next) (putK (pd M o.dst) s.fr v fun fr => k { s with fr })
      | 1 => rVal (exec (ready E M o.op) F s.fr s.h retK) fun v _ =>
        tryOld A (again (ready E M o.op) F s.fr v) s.old
          (putK (pd M o.dst) s.fr v fun fr => k { s with fr, rd := (j, A, again (ready E M o.op) F s.fr v) :: s.rd })
      | 2 => rVal (exec (ready E M o.op) F s.fr ⟨s.h.next, .leaf⟩ retK) fun v h' => bT (Nat.blt s.h.next h'.next) (oS (blk h' s.h.next) fun b => putK (pd M o.dst) s.fr v fun fr => k { s with fr, h := ⟨h'.next, s.h.b⟩, fl := (j, s.h.next, b) :: s.fl })
      | _ => merge A false s.fl s.h.b fun b fl => exec (ready E M o.op) F s.fr ⟨s.h.next, b⟩ fun v h' => tryRd A h' s.rd
          (putK (pd M o.dst) s.fr v fun fr => k { fr, h := h', fl, old := (j, s.h) :: s.old, rd := s.rd }))
    (putK (pd M o.dst) s.fr undef fun fr => k { s with fr })) = some r := hh
  obtain ⟨wt, h1, hw⟩ := want_sem hh
  rw [bI_eq] at h1
  cases wt with
  | false =>
    obtain ⟨fr', h2, hp⟩ := putK_put (show putK (pd M o.dst) s.fr undef (fun fr => k { s with fr }) = some r from h1)
    exact ⟨_, false, undef, h2, .skip hp, hrd, fun S hS => hw S hS.2⟩
  | true =>
    simp only [if_true] at h1
    have hle := kindOf_le o.op
    split at h1
    · rename_i hk
      obtain ⟨v, h', he, h2⟩ := rVal_inv h1
      obtain ⟨hn, h3⟩ := bT_inv h2
      obtain ⟨fr', h4, hp⟩ := putK_put h3
      exact ⟨_, true, v, h4, .pure hk (fun S hS => (exec_ret ok hM hF he hS.1).2) (Nat.eq_of_beq_eq_true hn) hp, hrd, fun S hS => hw S hS.2⟩
    · rename_i hk
      obtain ⟨v, h', he, h2⟩ := rVal_inv h1
      obtain ⟨h3, hold⟩ := tryOld_inv h2 (fun h k' hk' => (again_inv hk').1)
      obtain ⟨fr', h4, hp⟩ := putK_put h3
      have hsem : ∀ {h h' : Heap}, exec (ready E M o.op) F s.fr h retK = some (.val v h') → ∀ S, Asks ops o S → Sem P E M S o.op s.fr h v h := fun {h h'} he S hS => by
        have := (exec_ret ok hM hF he hS.1).2
        rwa [read_ret ok hM hk he] at this
      refine ⟨_, true, v, h4, .read hk (hsem he) (fun p hp hb => ?_) hp, fun p hp => ?_, fun S hS => hw S hS.2⟩
      · obtain ⟨k', h5⟩ := hold p hp hb
        obtain ⟨_, h'', h6⟩ := again_inv h5
        exact hsem h6
      · rcases List.mem_cons.1 hp with e | hp
        · subst e; exact ⟨_, _, _, rfl⟩
        · exact hrd p hp
    · rename_i hk
      obtain ⟨v, h', he, h2⟩ := rVal_inv h1
      obtain ⟨hn, h3⟩ := bT_inv h2
      obtain ⟨b, hb, h3⟩ := oS_inv h3
      obtain ⟨fr', h4, hp⟩ := putK_put h3
      exact ⟨_, true, v, h4, .make hk (fun S hS => (exec_ret ok hM hF he hS.1).2) ((blt_iff _ _).1 hn) hb hp, hrd, fun S hS => hw S hS.2⟩
    · rename_i hk0 hk1 hk2
      have hk : kindOf o.op = 3 := by
        have a0 : kindOf o.op ≠ 0 := hk0
        have a1 : kindOf o.op ≠ 1 := hk1
        have a2 : kindOf o.op ≠ 2 := hk2
        omega
      obtain ⟨b, fl, h2, hb, hfl⟩ := merge_inv h1
      obtain ⟨v, h', h3, hn, hs0⟩ := exec_all (P := P) ok hM hF h2
      have hs : ∀ S, Asks ops o S → Sem P E M S o.op s.fr ⟨s.h.next, b⟩ v h' := fun S hS => hs0 S hS.1
      obtain ⟨h4, hrd2⟩ := tryRd_inv h3 (fun p hp h k' hk' => by
        obtain ⟨i, fr, v, e⟩ := hrd p hp
        rw [e] at hk'
        exact (again_inv hk').1)
      obtain ⟨fr', h5, hp⟩ := putK_put h4
      refine ⟨_, true, v, h5, .effect hk (not_defer h2) (fun n B hB => ?_) (fun p => ?_) hn hs (fun p hp hbb => ?_) hp, hrd, fun S hS => hw S hS.2⟩
      · rcases hb n B hB with h | ⟨p, h6, h7, h8, h9⟩
        · exact .inl h
        · exact .inr ⟨p, h6, by simpa using h7, h8, h9⟩
      · rw [hfl p]; simp
      · obtain ⟨k', h⟩ := hrd2 p hp hbb
        exact ⟨_, _, h⟩
end Go.Ev
set_option linter.unusedVariables false
namespace Go.Ev
variable {P : Program} {E : Env} {M : MN} {r : Res} {F : FF}

/-- The states that the evaluator goes through, in the order of the text. -/
structure Trace (P : Program) (E : Env) (M : MN) (F : FF) (ops : Array Oper) (A : Nat → Nat) (S : Nat → DS) (wt : Nat → Bool) (val : Nat → Value) : Prop where
  step : ∀ j o, ops[j]? = some o → StepF P E M F ops o j (A j) (wt j) (val j) (S j) (S (j + 1))
  want : ∀ j o, ops[j]? = some o → ∀ Q, Asks ops o Q → ∀ σ (a : Act), On M Q σ (S j).fr a → Region.wanted o (yielded ops a.tmps) = wt j

theorem evD_inv (ok : EnvOK P E) (hF : FFOK P E F) (hM : M.ng = E.ng) {ops : Array Oper} {A : Nat → Nat} : ∀ {os : List (Oper × Nat)} {s : DS} {k : DS → R}, RdOK F s →
    evD (os.map fun p => (⟨ro E M ops.toList p.1, kindOf p.1.op, p.2, A p.2⟩ : DO)) F s k = some r →
    ∃ (S : Nat → DS) (wt : Nat → Bool) (val : Nat → Value), S 0 = s ∧ k (S os.length) = some r ∧ ∀ i o j, os[i]? = some (o, j) → StepF P E M F ops o j (A j) (wt i) (val i) (S i) (S (i + 1)) ∧
      ∀ Q, Asks ops o Q → ∀ σ (a : Act), On M Q σ (S i).fr a → Region.wanted o (yielded ops a.tmps) = wt i
  | [], s, k, _, hh => ⟨fun _ => s, fun _ => false, fun _ => undef, rfl, hh, fun i o j h => by simp at h⟩
  | (o, j) :: os, s, k, hr, hh => by
    have hh : stepD ⟨ro E M ops.toList o, kindOf o.op, j, A j⟩ F s (fun s => evD (os.map fun p => (⟨ro E M ops.toList p.1, kindOf p.1.op, p.2, A p.2⟩ : DO)) F s k) = some r := hh
    obtain ⟨s', w0, v0, h1, h2, h3, h4⟩ := stepD_inv ok hF hM hr hh
    obtain ⟨S, wt, val, h5, h6, h7⟩ := evD_inv ok hF hM (os := os) h3 h1
    refine ⟨fun i => match i with | 0 => s | i + 1 => S i, fun i => match i with | 0 => w0 | i + 1 => wt i, fun i => match i with | 0 => v0 | i + 1 => val i, rfl, h6, fun i o' j' hi => ?_⟩
    cases i with
    | zero =>
      simp at hi
      obtain ⟨rfl, rfl⟩ := hi
      simp only []
      rw [h5]
      exact ⟨h2, h4⟩
    | succ i => exact h7 i o' j' (by simpa using hi)

namespace Trace
variable {ops : Array Oper} {A : Nat → Nat} {S : Nat → DS} {wt : Nat → Bool} {val : Nat → Value}

def Kd (ops : Array Oper) (wt : Nat → Bool) (k j : Nat) : Prop := ∃ o, ops[j]? = some o ∧ kindOf o.op = k ∧ wt j = true
abbrev Eff (ops : Array Oper) (wt : Nat → Bool) (j : Nat) : Prop := Kd ops wt 3 j
abbrev Flt (ops : Array Oper) (wt : Nat → Bool) (j : Nat) : Prop := Kd ops wt 2 j
def blkOf (S : Nat → DS) (j : Nat) : Blk := match (S (j + 1)).fl with | p :: _ => p.2.2 | [] => .dfr true

theorem at_ {j : Nat} (h : j < ops.size) : ∃ o, ops[j]? = some o := ⟨ops[j], by simp [h]⟩
theorem lo_succ (t : Trace P E M F ops A S wt val) {j : Nat} (h : j < ops.size) : (S j).h.next ≤ (S (j + 1)).h.next := by
  obtain ⟨o, ho⟩ := at_ h
  have := t.step j o ho
  generalize S (j + 1) = s', S j = s, wt j = w, val j = v at this
  cases this with
  | skip => exact Nat.le_refl _
  | pure => exact Nat.le_refl _
  | read => exact Nat.le_refl _
  | make _ _ hl => exact Nat.le_of_lt hl
  | effect _ _ _ _ hl => exact hl
theorem lo_mono (t : Trace P E M F ops A S wt val) {j k : Nat} (h : j ≤ k) (hk : k ≤ ops.size) : (S j).h.next ≤ (S k).h.next := by
  induction h with
  | refl => exact Nat.le_refl _
  | step h ih => exact Nat.le_trans (ih (by omega)) (t.lo_succ (by omega))
theorem b_succ (t : Trace P E M F ops A S wt val) {j : Nat} (h : j < ops.size) (hn : ¬ Eff ops wt j) : (S (j + 1)).h.b = (S j).h.b := by
  obtain ⟨o, ho⟩ := at_ h
  have := t.step j o ho
  have hn' : ¬ (kindOf o.op = 3 ∧ wt j = true) := fun e => hn ⟨o, ho, e⟩
  generalize S (j + 1) = s', S j = s, wt j = w, val j = v at this hn'
  cases this with
  | skip => rfl
  | pure => rfl
  | read => rfl
  | make => rfl
  | effect hk => exact absurd ⟨hk, rfl⟩ hn'
theorem b_const (t : Trace P E M F ops A S wt val) {j k : Nat} (h : j ≤ k) (hk : k ≤ ops.size) (hn : ∀ i, j ≤ i → i < k → ¬ Eff ops wt i) : (S k).h.b = (S j).h.b := by
  induction h with
  | refl => rfl
  | step h ih => rw [t.b_succ (by omega) (hn _ h (Nat.lt_succ_self _)), ih (by omega) fun i h1 h2 => hn i h1 (by omega)]
theorem old_mem (t : Trace P E M F ops A S wt val) {e k : Nat} (he : Eff ops wt e) (h : e < k) (hk : k ≤ ops.size) : (e, (S e).h) ∈ (S k).old := by
  induction k with
  | zero => omega
  | succ k ih =>
    obtain ⟨o, ho⟩ := at_ (ops := ops) (j := k) (by omega)
    have hst := t.step k o ho
    by_cases hek : e = k
    · subst hek
      obtain ⟨o', ho', h3, hw⟩ := he
      rw [ho] at ho'; cases ho'
      generalize S (e + 1) = s', S e = s, wt e = w, val e = v at hst hw
      cases hst with
      | skip => cases hw
      | pure h0 => omega
      | read h0 => omega
      | make h0 => omega
      | effect => exact List.mem_cons_self
    · have := ih (by omega) (by omega)
      generalize (e, (S e).h) = p at this ⊢
      generalize S (k + 1) = s', S k = s, wt k = w, val k = v at this hst
      cases hst with
      | skip => exact this
      | pure h0 => exact this
      | read h0 => exact this
      | make h0 => exact this
      | effect => exact List.mem_cons_of_mem _ this
theorem rd_mem (t : Trace P E M F ops A S wt val) {j k : Nat} {o : Oper} (ho : ops[j]? = some o) (h1 : kindOf o.op = 1) (hw : wt j = true) (h : j < k) (hk : k ≤ ops.size) :
    (j, A j, again (ready E M o.op) F (S j).fr (val j)) ∈ (S k).rd := by
  induction k with
  | zero => omega
  | succ k ih =>
    obtain ⟨o', ho'⟩ := at_ (ops := ops) (j := k) (by omega)
    have hst := t.step k o' ho'
    by_cases hek : j = k
    · subst hek
      rw [ho] at ho'; cases ho'
      generalize S (j + 1) = s', S j = s, wt j = w, val j = v at hst hw
      cases hst with
      | skip => cases hw
      | pure h0 => omega
      | read h0 => exact List.mem_cons_self
      | make h0 => omega
      | effect h0 => omega
    · have := ih (by omega) (by omega)
      generalize (j, A j, again (ready E M o.op) F (S j).fr (val j)) = p at this ⊢
      generalize S (k + 1) = s', S k = s, wt k = w, val k = v at this hst
      cases hst with
      | skip => exact this
      | pure h0 => exact this
      | read h0 => exact List.mem_cons_of_mem _ this
      | make h0 => exact this
      | effect => exact this
theorem fl_mem (t : Trace P E M F ops A S wt val) (h0 : (S 0).fl = []) {k : Nat} (hk : k ≤ ops.size) : ∀ p ∈ (S k).fl, p.1 < k ∧ p.2.1 = (S p.1).h.next ∧ p.2.2 = blkOf S p.1 ∧ Flt ops wt p.1 ∧ ∀ e, e < k → Eff ops wt e → bitK (A e) p.1 = true → e ≤ p.1 := by
  induction k with
  | zero => intro p hp; rw [h0] at hp; cases hp
  | succ k ih =>
    have ih := ih (by omega)
    obtain ⟨o, ho⟩ := at_ (ops := ops) (j := k) (by omega)
    have hst := t.step k o ho
    have more : ∀ p ∈ (S k).fl, (Eff ops wt k → bitK (A k) p.1 = false) → p.1 < k + 1 ∧ p.2.1 = (S p.1).h.next ∧ p.2.2 = blkOf S p.1 ∧ Flt ops wt p.1 ∧ ∀ e, e < k + 1 → Eff ops wt e → bitK (A e) p.1 = true → e ≤ p.1 := fun p hp hne => by
      obtain ⟨h1, h2, h3, h4, h5⟩ := ih p hp
      refine ⟨by omega, h2, h3, h4, fun e he hee hb => ?_⟩
      by_cases hek : e = k
      · subst hek; rw [hne hee] at hb; cases hb
      · exact h5 e (by omega) hee hb
    have hblk : ∀ q l, (S (k + 1)).fl = q :: l → blkOf S k = q.2.2 := fun q l e => by unfold blkOf; rw [e]
    have hnoeff : kindOf o.op ≠ 3 ∨ wt k = false → ¬ Eff ops wt k := fun h e => by
      obtain ⟨o', ho', h3, hw⟩ := e
      rw [ho] at ho'; cases ho'
      rcases h with h | h
      · exact h h3
      · rw [hw] at h; cases h
    intro p hp
    have hwv : Flt ops wt k ↔ (kindOf o.op = 2 ∧ wt k = true) := ⟨fun ⟨o', ho', h⟩ => by rw [ho] at ho'; cases ho'; exact h, fun h => ⟨o, ho, h⟩⟩
    generalize hs' : S (k + 1) = s' at hst hp hblk
    generalize hs : S k = s at hst more
    generalize hw : wt k = w at hst hnoeff hwv
    generalize val k = v at hst
    cases hst with
    | skip => exact more p hp fun e => absurd e (hnoeff (.inr rfl))
    | pure h0 => exact more p hp fun e => absurd e (hnoeff (.inl (by omega)))
    | read h0 => exact more p hp fun e => absurd e (hnoeff (.inl (by omega)))
    | make h0 =>
      rcases List.mem_cons.1 hp with e | hp
      · subst e
        exact ⟨Nat.lt_succ_self _, by rw [hs], (hblk _ _ rfl).symm, hwv.2 ⟨h0, rfl⟩, fun e he _ _ => Nat.le_of_lt_succ he⟩
      · exact more p hp fun e => absurd e (hnoeff (.inl (by omega)))
    | effect h0 _ hb hfl =>
      obtain ⟨h1, h2⟩ := (hfl p).1 hp
      exact more p h1 fun _ => h2
end Trace
end Go.Ev
set_option linter.unusedVariables false
namespace Go.Ev

structure OrdOK (ops : Array Oper) (A : Nat → Nat) : Prop where
  lt : ∀ j o i, ops[j]? = some o → bitK (A j) i = true → i < j
  step : ∀ j o i, ops[j]? = some o → bitK (A j) i = true → ∃ e ∈ o.after.toList, Region.binds .any e = true ∧ (e.on = i ∨ bitK (A e.on) i = true)
  edge : ∀ j o, ops[j]? = some o → ∀ e ∈ o.after.toList, Region.binds .any e = true → e.on < j
  sel : ∀ (j : Nat) (o : Oper), ops[j]? = some o → ∀ cs b, o.op ≠ Op.select cs b
  write : ∀ i j p o t, i ≠ j → ops[i]? = some p → ops[j]? = some o → p.dst = some t → t ∈ namesOf ops.toList o → bitK (A j) i = true ∨ bitK (A i) j = true
  eff : ∀ i j p o, i ≠ j → ops[i]? = some p → ops[j]? = some o → kindOf p.op = 3 → kindOf o.op = 3 → bitK (A j) i = true ∨ bitK (A i) j = true

def ancF (acc : List Nat) (o : Oper) : Nat := o.after.toList.foldl (fun s e => match Region.binds .any e with | true => s ||| 2 ^ e.on ||| acc.getD e.on 0 | false => s) 0
theorem ancs_eq (ops : List Oper) : ancs ops = ops.foldl (fun acc o => acc ++ [ancF acc o]) [] := rfl

theorem foldl_bit {acc : List Nat} {i : Nat} : ∀ {l : List Edge} {s : Nat}, (l.foldl (fun s e => match Region.binds .any e with | true => s ||| 2 ^ e.on ||| acc.getD e.on 0 | false => s) s).testBit i = true →
    s.testBit i = true ∨ ∃ e ∈ l, Region.binds .any e = true ∧ (e.on = i ∨ (acc.getD e.on 0).testBit i = true)
  | [], s, h => .inl h
  | e :: l, s, h => by
    rw [List.foldl_cons] at h
    rcases foldl_bit h with h | ⟨e', h1, h2, h3⟩
    · cases hb : Region.binds .any e with
      | true =>
        rw [hb] at h
        simp only [Nat.testBit_or, Bool.or_eq_true] at h
        rcases h with (h | h) | h
        · exact .inl h
        · rw [Nat.testBit_two_pow] at h
          exact .inr ⟨e, List.mem_cons_self, hb, .inl (by simpa using h)⟩
        · exact .inr ⟨e, List.mem_cons_self, hb, .inr h⟩
      | false => rw [hb] at h; exact .inl h
    · exact .inr ⟨e', List.mem_cons_of_mem _ h1, h2, h3⟩

/-- Each place of the list was made from those ahead of it. -/
theorem ancs_from : ∀ (ops : List Oper) (acc : List Nat), let R := ops.foldl (fun acc o => acc ++ [ancF acc o]) acc
    R.length = acc.length + ops.length ∧ (∀ i, i < acc.length → R.getD i 0 = acc.getD i 0) ∧ ∀ j o, ops[j]? = some o → ∃ pre : List Nat, pre.length = acc.length + j ∧ (∀ i, i < pre.length → R.getD i 0 = pre.getD i 0) ∧ R.getD (acc.length + j) 0 = ancF pre o
  | [], acc => ⟨by simp, fun i _ => rfl, fun j o h => by simp at h⟩
  | o :: ops, acc => by
    obtain ⟨h1, h2, h3⟩ := ancs_from ops (acc ++ [ancF acc o])
    refine ⟨by rw [List.foldl_cons, h1]; simp; omega, fun i hi => ?_, fun j o' hj => ?_⟩
    · rw [List.foldl_cons, h2 i (by simp; omega)]
      simp [List.getD_eq_getElem?_getD, List.getElem?_append_left hi]
    · cases j with
      | zero =>
        simp at hj; subst hj
        refine ⟨acc, rfl, fun i hi => ?_, ?_⟩
        · rw [List.foldl_cons, h2 i (by simp; omega)]
          simp [List.getD_eq_getElem?_getD, List.getElem?_append_left hi]
        · rw [List.foldl_cons, h2 _ (by simp)]
          simp [List.getD_eq_getElem?_getD]
      | succ j =>
        obtain ⟨pre, h4, h5, h6⟩ := h3 j o' (by simpa using hj)
        refine ⟨pre, by rw [h4]; simp; omega, fun i hi => by rw [List.foldl_cons]; exact h5 i hi, ?_⟩
        rw [List.foldl_cons, show acc.length + (j + 1) = (acc ++ [ancF acc o]).length + j from by simp; omega]
        exact h6
theorem ancs_bit {ops : List Oper} {j i : Nat} {o : Oper} (ho : ops[j]? = some o) (h : bitK ((ancs ops).getD j 0) i = true) :
    ∃ e ∈ o.after.toList, Region.binds .any e = true ∧ (e.on = i ∨ (e.on < j ∧ bitK ((ancs ops).getD e.on 0) i = true)) := by
  obtain ⟨_, _, h3⟩ := ancs_from ops []
  obtain ⟨pre, h4, h5, h6⟩ := h3 j o ho
  rw [← ancs_eq] at h5 h6
  rw [show ([] : List Nat).length + j = j from by simp] at h6
  simp at h4
  rw [h6] at h
  rcases foldl_bit (show (ancF pre o).testBit i = true from h) with h | ⟨e, h7, h8, h9⟩
  · simp at h
  · refine ⟨e, h7, h8, h9.imp id fun h => ?_⟩
    by_cases hlt : e.on < pre.length
    · exact ⟨by omega, by rw [h5 _ hlt]; exact h⟩
    · rw [List.getD_eq_getElem?_getD, List.getElem?_eq_none (by omega)] at h
      simp at h

theorem ord_of_drawOk {ops : Array Oper} (h : drawOk ops.toList (ancs ops.toList) = true) : OrdOK ops fun j => (ancs ops.toList).getD j 0 := by
  unfold drawOk at h
  rw [List.all_eq_true] at h
  have hmem : ∀ {j : Nat} {o : Oper}, ops[j]? = some o → (o, j) ∈ ops.toList.zipIdx := fun {j o} ho => by
    rw [List.mem_zipIdx_iff_getElem?]; simpa using ho
  have h1 : ∀ j o, ops[j]? = some o → _ := fun j o ho => h (o, j) (hmem ho)
  simp only [Bool.and_eq_true] at h1
  have hpair : ∀ i j p o, i ≠ j → ops[i]? = some p → ops[j]? = some o → bitK ((ancs ops.toList).getD j 0) i = true ∨ bitK ((ancs ops.toList).getD i 0) j = true ∨
      ((match p.dst with | some t => !(namesOf ops.toList o).contains t | none => true) = true ∧ (!(kindOf o.op == 3 && kindOf p.op == 3)) = true) := fun i j p o hne hp ho => by
    have := (h1 j o ho).2
    rw [List.all_eq_true] at this
    have := this (p, i) (hmem hp)
    simp only [Bool.or_eq_true, Bool.and_eq_true] at this
    rcases this with ((h2 | h2) | h2) | h2
    · exact absurd (by simpa using h2) hne
    · exact .inl h2
    · exact .inr (.inl h2)
    · exact .inr (.inr h2)
  have hedge : ∀ j o, ops[j]? = some o → ∀ e ∈ o.after.toList, Region.binds .any e = true → e.on < j := fun j o ho e he hb => by
    have := (h1 j o ho).1.1
    rw [Array.all_eq_true'] at this
    have := this e (by simpa using he)
    simpa [hb] using this
  refine ⟨fun j => ?_, fun j o i ho hb => ?_, hedge, fun j o ho cs b e => ?_, fun i j p o t hne hp ho hd ht => ?_, fun i j p o hne hp ho h3 h4 => ?_⟩
  · induction j using Nat.strongRecOn with
    | ind j ih =>
      intro o i ho hb
      obtain ⟨e, h2, h3, h4⟩ := ancs_bit (ops := ops.toList) (by simpa using ho) hb
      have h5 := hedge j o ho e h2 h3
      rcases h4 with h4 | ⟨_, h4⟩
      · omega
      · have hj : j < ops.size := (Array.getElem?_eq_some_iff.1 ho).1
        have := ih e.on h5 ops[e.on] i (by simp) h4
        omega
  · obtain ⟨e, h2, h3, h4⟩ := ancs_bit (ops := ops.toList) (by simpa using ho) hb
    exact ⟨e, h2, h3, h4.imp id And.right⟩
  · have := (h1 j o ho).1.2
    rw [e] at this
    cases this
  · rcases hpair i j p o hne hp ho with h | h | ⟨h, _⟩
    · exact .inl h
    · exact .inr h
    · rw [hd] at h
      simp at h
      exact absurd ht h
  · rcases hpair i j p o hne hp ho with h | h | ⟨_, h⟩
    · exact .inl h
    · exact .inr h
    · simp [h3, h4] at h

/-- What an operation asks are its names. -/
theorem asks_names {ops : Array Oper} {o : Oper} : Asks ops o fun t => (namesOf ops.toList o).contains t := by
  refine ⟨fun t ht => ?_, fun j b t hg hb => ?_⟩
  · simp only [List.contains_iff_mem]
    unfold namesOf
    exact List.mem_append_left _ (List.mem_append_right _ (List.mem_filterMap.2 ⟨_, ht, rfl⟩))
  · simp only [List.contains_iff_mem]
    unfold namesOf
    refine List.mem_append_right _ ?_
    rw [hg]
    simpa using hb
end Go.Ev
set_option linter.unusedVariables false
namespace Go.Ev
variable {P : Program} {E : Env} {M : MN} {r : Res} {F : FF}

/-- A memory that is told by what lies in it. -/
structure HRP (E : Env) (σ : Sg) (G : Nat → Blk → Prop) (w : World) : Prop where
  live : ∀ n B, G n B → ∃ b base κ o, σ.ρ n = some (b, base, κ) ∧ w.heap[b]? = some o ∧ BR E σ B base κ o
  inj : ∀ n m B C b x y, G n B → G m C → σ.ρ n = some (b, x) → σ.ρ m = some (b, y) → n = m
theorem HRP.sub {σ : Sg} {G : Nat → Blk → Prop} {w : World} (hr : HRP E σ G w) {h : Heap} (hs : ∀ n B, h.b.get n = some B → G n B) : HR E σ h w :=
  ⟨fun n B hB => hr.live n B (hs n B hB), fun n m B C b x y hB hC => hr.inj n m B C b x y (hs n B hB) (hs m C hC)⟩
structure Cum (σ : Sg) (G : Nat → Blk → Prop) (w : World) (τ : Sg) (G' : Nat → Blk → Prop) (w' : World) : Prop where
  ext : Ext σ τ
  os : w'.os = w.os
  tape : w'.tape = w.tape
  output : w'.output = w.output
  size : w.heap.size ≤ w'.heap.size
  keep : ∀ k, k < w.heap.size → (∀ n B x, G n B → B.fix = false → σ.ρ n = some x → x.1 ≠ k) → w'.heap[k]? = w.heap[k]?
  img : ∀ n B x, G' n B → τ.ρ n = some x → x.1 < w.heap.size → ∃ m C y, G m C ∧ (B.fix = false → C.fix = false) ∧ σ.ρ m = some y ∧ y.1 = x.1
theorem Cum.refl (σ : Sg) (G : Nat → Blk → Prop) (w : World) : Cum σ G w σ G w :=
  ⟨Ext.refl σ, rfl, rfl, rfl, Nat.le_refl _, fun _ _ _ => rfl, fun n B x hB hx _ => ⟨n, B, x, hB, id, hx, rfl⟩⟩
theorem Cum.trans {σ τ υ : Sg} {G G' G'' : Nat → Blk → Prop} {w w' w'' : World} (a : Cum σ G w τ G' w') (b : Cum τ G' w' υ G'' w'') : Cum σ G w υ G'' w'' where
  ext := a.ext.trans b.ext
  os := b.os.trans a.os
  tape := b.tape.trans a.tape
  output := b.output.trans a.output
  size := Nat.le_trans a.size b.size
  keep := fun k hk hn => by
    rw [b.keep k (Nat.lt_of_lt_of_le hk a.size) ?_, a.keep k hk hn]
    intro n B x hB hf hx e
    obtain ⟨m, C, y, hC, hf2, hy, e2⟩ := a.img n B x hB hx (by omega)
    exact hn m C y hC (hf2 hf) hy (by omega)
  img := fun n B x hB hx hlt => by
    obtain ⟨m, C, y, hC, hf, hy, e⟩ := b.img n B x hB hx (Nat.lt_of_lt_of_le hlt a.size)
    obtain ⟨m', C', y', hC', hf', hy', e'⟩ := a.img m C y hC hy (by omega)
    exact ⟨m', C', y', hC', fun h => hf' (hf h), hy', by omega⟩

/-- What there is behind a step of a part. -/
def over (h h' : Heap) (G : Nat → Blk → Prop) : Nat → Blk → Prop := fun n B => h'.b.get n = some B ∨ (h.b.get n = none ∧ G n B)
theorem frameP {σ τ : Sg} {h h' : Heap} {G : Nat → Blk → Prop} {w w' : World} (g : Go E σ h w τ h' w') (hr : HRP E σ G w) (hsub : ∀ n B, h.b.get n = some B → G n B) :
    HRP E τ (over h h' G) w' ∧ Cum σ G w τ (over h h' G) w' := by
  have side : ∀ n B, h.b.get n = none → G n B → ∃ b base κ o, σ.ρ n = some (b, base, κ) ∧ b < w.heap.size ∧ w'.heap[b]? = some o ∧ BR E σ B base κ o := fun n B h0 hB => by
    obtain ⟨b, base, κ, o, h1, h2, h3⟩ := hr.live n B hB
    have hlt := (Array.getElem?_eq_some_iff.1 h2).1
    refine ⟨b, base, κ, o, h1, hlt, ?_, h3⟩
    rw [g.keep b hlt (fun m C x hC _ hx e => ?_), h2]
    obtain ⟨b2, y⟩ := x
    have e : b2 = b := e
    subst e
    have := hr.inj m n C B b2 y (base, κ) (hsub m C hC) hB hx h1
    subst this
    rw [h0] at hC; cases hC
  refine ⟨⟨fun n B hB => ?_, fun n m B C b x y hB hC hx hy => ?_⟩, g.ext, g.os, g.tape, g.output, g.size, fun k hk hn => g.keep k hk fun n B x hB hf hx => hn n B x (hsub n B hB) hf hx, fun n B x hB hx hlt => ?_⟩
  · rcases hB with h1 | ⟨h0, h1⟩
    · exact g.hr.live n B h1
    · obtain ⟨b, base, κ, o, h2, _, h3, h4⟩ := side n B h0 h1
      exact ⟨b, base, κ, o, g.ext _ _ h2, h3, h4.mono g.ext⟩
  · have mixed : ∀ {n m : Nat} {B C : Blk} {x y : Nat × Nat}, h'.b.get n = some B → h.b.get m = none → G m C → τ.ρ n = some (b, x) → τ.ρ m = some (b, y) → False := fun {n m B C x y} hB h0 hC hx hy => by
      obtain ⟨b2, base, κ, o, h2, hlt, h3, h4⟩ := side m C h0 hC
      have e := g.ext _ _ h2
      rw [hy] at e
      cases e
      obtain ⟨q, D, z, hD, _, hz, e2⟩ := g.img n B _ hB hx hlt
      obtain ⟨b3, z⟩ := z
      have e2 : b3 = b := e2
      subst e2
      have := hr.inj q m D C b3 z (base, κ) (hsub q D hD) hC hz h2
      subst this
      rw [h0] at hD; cases hD
    rcases hB with h1 | ⟨h0, h1⟩ <;> rcases hC with h2 | ⟨h0', h2⟩
    · exact g.hr.inj n m B C b x y h1 h2 hx hy
    · exact (mixed h1 h0' h2 hx hy).elim
    · exact (mixed h2 h0 h1 hy hx).elim
    · obtain ⟨b1, base1, κ1, o1, e1, _⟩ := side n B h0 h1
      obtain ⟨b2, base2, κ2, o2, e2, _⟩ := side m C h0' h2
      have f1 := g.ext _ _ e1
      have f2 := g.ext _ _ e2
      rw [hx] at f1; rw [hy] at f2
      cases f1; cases f2
      exact hr.inj n m B C b _ _ h1 h2 e1 e2
  · rcases hB with h1 | ⟨h0, h1⟩
    · obtain ⟨m, C, y, hC, hf, hy, e⟩ := g.img n B x h1 hx hlt
      exact ⟨m, C, y, hsub m C hC, hf, hy, e⟩
    · obtain ⟨b, base, κ, o, h2, _⟩ := hr.live n B h1
      have e := g.ext _ _ h2
      rw [hx] at e
      cases e
      exact ⟨n, B, _, h1, id, h2, rfl⟩

section inv
variable {ops : Array Oper} {A : Nat → Nat} {S : Nat → DS} {wt : Nat → Bool} {val : Nat → Value}
open Go.Ev.Trace

def Split (ops : Array Oper) (wt : Nat → Bool) (D : Nat → Prop) (q : Nat) : Prop := q ≤ ops.size ∧ ∀ e, Eff ops wt e → (e < q ↔ D e)
def FSplit (ops : Array Oper) (D : Nat → Prop) (t q : Nat) : Prop := q ≤ ops.size ∧ ∀ (i : Nat) (p : Oper), ops[i]? = some p → p.dst = some t → (i < q ↔ D i)
def Free (ops : Array Oper) (A : Nat → Nat) (wt : Nat → Bool) (D : Nat → Prop) (i : Nat) : Prop := D i ∧ Flt ops wt i ∧ ∀ e, D e → Eff ops wt e → bitK (A e) i = false

/-- What holds behind the operations of a set. -/
structure Inv (E : Env) (M : MN) (ops : Array Oper) (A : Nat → Nat) (S : Nat → DS) (wt : Nat → Bool) (σ0 : Sg) (G0 : Nat → Blk → Prop) (w0 : World) (ds : List Deferred) (D : Nat → Prop) (σ : Sg) (w : World) (a : Act) : Prop where
  names : ∀ n x, σ.ρ n = some x → σ0.ρ n = some x ∨ ∃ j, D j ∧ (S j).h.next ≤ n ∧ n < (S (j + 1)).h.next
  mem : ∃ G, Cum σ0 G0 w0 σ G w ∧ HRP E σ G w ∧ (∀ q, Split ops wt D q → ∀ n B, (S q).h.b.get n = some B → G n B) ∧ ∀ i, Free ops A wt D i → G (S i).h.next (blkOf S i)
  memd : ∀ i, Free ops A wt D i → ∀ q, Split ops wt D q → (S q).h.b.get (S i).h.next = none
  frame : ∀ t q, FSplit ops D t q → ∀ u, look M (S q).fr t = some u → ∃ u', a.tmps[t]? = some u' ∧ VR σ u u'
  size : M.nt ≤ a.tmps.size
  defers : a.defers = ds
  clos : ∀ j, D j → j < ops.size ∧ ∀ i, bitK (A j) i = true → D i

theorem step_put {o : Oper} {j : Nat} {s s' : DS} {w : Bool} {v : Value} {B : Nat} (h : StepF P E M F ops o j B w v s s') : PutF M o.dst s.fr s'.fr v := by
  cases h <;> assumption

/-- Behind one operation more, but for the memory. -/
theorem Inv.core (ord : OrdOK ops A) (t : Trace P E M F ops A S wt val) {σ0 : Sg} {G0 : Nat → Blk → Prop} {w0 : World} {ds : List Deferred} {D : Nat → Prop} {σ : Sg} {w : World} {a : Act} (inv : Inv E M ops A S wt σ0 G0 w0 ds D σ w a)
    {j : Nat} {o : Oper} (ho : ops[j]? = some o) (hj : ¬ D j) (hcl : ∀ i, bitK (A j) i = true → D i) {τ : Sg} {w' : World} {v' : Value} (hext : Ext σ τ) (hnew : ∀ n x, τ.ρ n = some x → σ.ρ n = some x ∨ ((S j).h.next ≤ n ∧ n < (S (j + 1)).h.next)) (hv : VR τ (val j) v')
    (hmem : ∃ G, Cum σ0 G0 w0 τ G w' ∧ HRP E τ G w' ∧ (∀ q, Split ops wt (fun i => D i ∨ i = j) q → ∀ n B, (S q).h.b.get n = some B → G n B) ∧ ∀ i, Free ops A wt (fun i => D i ∨ i = j) i → G (S i).h.next (blkOf S i))
    (hmemd : ∀ i, Free ops A wt (fun i => D i ∨ i = j) i → ∀ q, Split ops wt (fun i => D i ∨ i = j) q → (S q).h.b.get (S i).h.next = none) :
    Inv E M ops A S wt σ0 G0 w0 ds (fun i => D i ∨ i = j) τ w' (a.put o.dst v') where
  names := fun n x hx => by
    rcases hnew n x hx with h | h
    · rcases inv.names n x h with h | ⟨i, h1, h2⟩
      · exact .inl h
      · exact .inr ⟨i, .inl h1, h2⟩
    · exact .inr ⟨j, .inr rfl, h⟩
  mem := hmem
  memd := hmemd
  frame := fun q k hq u hu => by
    obtain ⟨hp1, hp2⟩ := step_put (t.step j o ho)
    by_cases hd : o.dst = some q
    · have hjk : j < k := (hq.2 j o ho hd).2 (.inr rfl)
      have hback : ∀ k, j + 1 ≤ k → k ≤ ops.size → (∀ (i : Nat) (p : Oper), j < i → i < k → ops[i]? = some p → p.dst ≠ some q) → look M (S k).fr q = some u → look M (S (j + 1)).fr q = some u := fun k hk => by
        induction hk with
        | refl => intro _ _ h; exact h
        | @step m hk ih =>
          intro hks hno h
          obtain ⟨p, hp⟩ := at_ (ops := ops) (j := m) (by omega)
          rcases (step_put (t.step m p hp)).2 q u h with ⟨h1, _⟩ | ⟨_, h1⟩
          · exact absurd h1 (hno m p hk (Nat.lt_succ_self _) hp)
          · exact ih (by omega) (fun i p h2 h3 => hno i p h2 (by omega)) h1
      have hu2 := hback k hjk hq.1 (fun i p h1 h2 hp hpd => by
        have hDi : D i := by
          rcases (hq.2 i p hp hpd).1 h2 with h | h
          · exact h
          · omega
        rcases ord.write j i o p q (by omega) ho hp hd (by unfold namesOf; rw [hpd]; simp) with h | h
        · exact hj ((inv.clos i hDi).2 j h)
        · have := ord.lt j o i ho h; omega) hu
      rcases hp2 q u hu2 with ⟨_, e⟩ | ⟨h1, _⟩
      · subst e
        have hlt := hp1 q hd
        refine ⟨v', ?_, hv⟩
        rw [hd]
        exact Array.getElem?_setIfInBounds_self_of_lt (Nat.lt_of_lt_of_le hlt inv.size)
      · exact absurd hd h1
    · obtain ⟨u', h1, h2⟩ := inv.frame q k ⟨hq.1, fun i p hp hpd => by
        rw [hq.2 i p hp hpd]
        constructor
        · rintro (h | h)
          · exact h
          · subst h; rw [ho] at hp; cases hp; exact absurd hpd hd
        · exact .inl⟩ u hu
      refine ⟨u', ?_, h2.mono hext⟩
      cases hod : o.dst with
      | none => exact h1
      | some d =>
        have hne : d ≠ q := fun e => hd (by rw [hod, e])
        simpa [Act.put, hne] using h1
  size := by
    have := inv.size
    cases o.dst <;> simpa [Act.put] using this
  defers := by
    rw [← inv.defers]
    cases o.dst <;> rfl
  clos := fun i hi => by
    rcases hi with hi | hi
    · exact ⟨(inv.clos i hi).1, fun k hk => .inl ((inv.clos i hi).2 k hk)⟩
    · subst hi; exact ⟨(Array.getElem?_eq_some_iff.1 ho).1, fun k hk => .inl (hcl k hk)⟩
end inv
end Go.Ev
set_option linter.unusedVariables false
namespace Go.Ev
variable {P : Program} {E : Env} {M : MN} {r : Res} {F : FF}
open Go.Ev.Trace

theorem StepF.inv {ops : Array Oper} {o : Oper} {j B : Nat} {w : Bool} {v : Value} {s s' : DS} (h : StepF P E M F ops o j B w v s s') :
    (w = false ∧ v = undef ∧ s'.h = s.h) ∨
    (w = true ∧ kindOf o.op = 0 ∧ s'.h = s.h ∧ ∃ h', (∀ Q, Asks ops o Q → Sem P E M Q o.op s.fr ⟨s.h.next, .leaf⟩ v h') ∧ h'.next = s.h.next) ∨
    (w = true ∧ kindOf o.op = 1 ∧ s'.h = s.h ∧ (∀ Q, Asks ops o Q → Sem P E M Q o.op s.fr s.h v s.h) ∧ ∀ p ∈ s.old, bitK B p.1 = false → ∀ Q, Asks ops o Q → Sem P E M Q o.op s.fr p.2 v p.2) ∨
    (w = true ∧ kindOf o.op = 2 ∧ s'.h.b = s.h.b ∧ ∃ h' b, (∀ Q, Asks ops o Q → Sem P E M Q o.op s.fr ⟨s.h.next, .leaf⟩ v h') ∧ s'.h.next = h'.next ∧ s'.fl = (j, s.h.next, b) :: s.fl ∧ s.h.next < h'.next ∧ h'.b.get s.h.next = some b) ∨
    (w = true ∧ kindOf o.op = 3 ∧ (∀ c, o.op ≠ .defer c) ∧ ∃ b : Tr Blk, (∀ n B', b.get n = some B' → s.h.b.get n = some B' ∨ ∃ p ∈ s.fl, bitK B p.1 = true ∧ n = p.2.1 ∧ B' = p.2.2) ∧
      (∀ Q, Asks ops o Q → Sem P E M Q o.op s.fr ⟨s.h.next, b⟩ v s'.h) ∧ ∀ p ∈ s.rd, bitK B p.1 = false → ∃ (r : Res) (k' : R), p.2.2 s'.h k' = some r) := by
  cases h with
  | skip => exact .inl ⟨rfl, rfl, rfl⟩
  | pure a b c d => exact .inr (.inl ⟨rfl, a, rfl, _, b, c⟩)
  | read a b c d => exact .inr (.inr (.inl ⟨rfl, a, rfl, b, c⟩))
  | make a b c d e => exact .inr (.inr (.inr (.inl ⟨rfl, a, rfl, _, _, b, rfl, rfl, c, d⟩)))
  | effect a b c d e f g i => exact .inr (.inr (.inr (.inr ⟨rfl, a, b, _, c, f, g⟩)))

theorem least {p : Nat → Prop} : ∀ {n : Nat}, (∃ e, e < n ∧ p e) → ∃ e, e < n ∧ p e ∧ ∀ i, i < e → ¬ p i
  | 0, ⟨e, h, _⟩ => by omega
  | n + 1, ⟨e, h, hp⟩ => by
    rcases Classical.em (∃ e, e < n ∧ p e) with h1 | h1
    · obtain ⟨e', h2, h3, h4⟩ := least h1
      exact ⟨e', by omega, h3, h4⟩
    · have : e = n := by
        by_cases he : e = n
        · exact he
        · exact absurd ⟨e, by omega, hp⟩ h1
      subst this
      exact ⟨e, h, hp, fun i hi hpi => h1 ⟨i, hi, hpi⟩⟩
theorem greatest {p : Nat → Prop} : ∀ {n : Nat}, (∃ e, e < n ∧ p e) → ∃ e, e < n ∧ p e ∧ ∀ i, e < i → i < n → ¬ p i
  | 0, ⟨e, h, _⟩ => by omega
  | n + 1, ⟨e, h, hp⟩ => by
    rcases Classical.em (p n) with h1 | h1
    · exact ⟨n, Nat.lt_succ_self _, h1, fun i h2 h3 => by omega⟩
    · have hen : e < n := by
        by_cases he : e = n
        · subst he; exact absurd hp h1
        · omega
      obtain ⟨e', h2, h3, h4⟩ := greatest ⟨e, hen, hp⟩
      refine ⟨e', by omega, h3, fun i h5 h6 => ?_⟩
      by_cases hi : i = n
      · subst hi; exact h1
      · exact h4 i h5 (by omega)

section
variable {ops : Array Oper} {A : Nat → Nat} {S : Nat → DS} {wt : Nat → Bool} {val : Nat → Value} {σ0 : Sg} {G0 : Nat → Blk → Prop} {w0 : World} {ds : List Deferred} {D : Nat → Prop} {σ : Sg} {w : World} {a : Act} {j : Nat} {o : Oper}

theorem Inv.after (inv : Inv E M ops A S wt σ0 G0 w0 ds D σ w a) (hj : ¬ D j) {i : Nat} (hi : D i) : bitK (A i) j = false := by
  cases h : bitK (A i) j with
  | false => rfl
  | true => exact absurd ((inv.clos i hi).2 j h) hj
theorem Inv.fresh (inv : Inv E M ops A S wt σ0 G0 w0 ds D σ w a) (t : Trace P E M F ops A S wt val) (fre : Fresh σ0 (S 0).h.next (S ops.size).h.next) (ho : ops[j]? = some o) (hj : ¬ D j) : Fresh σ (S j).h.next (S (j + 1)).h.next := fun n h1 h2 => by
  have hlt : j < ops.size := (Array.getElem?_eq_some_iff.1 ho).1
  cases hx : σ.ρ n with
  | none => rfl
  | some x =>
    rcases inv.names n x hx with h | ⟨i, h3, h4, h5⟩
    · have e1 := t.lo_mono (Nat.zero_le j) (by omega)
      have e2 := t.lo_mono (show j + 1 ≤ ops.size by omega) (Nat.le_refl _)
      rw [fre n (by omega) (by omega)] at h; cases h
    · have hi := (inv.clos i h3).1
      have hne : i ≠ j := fun e => hj (e ▸ h3)
      rcases Nat.lt_or_ge i j with h6 | h6
      · have := t.lo_mono (show i + 1 ≤ j by omega) (by omega); omega
      · have := t.lo_mono (show j + 1 ≤ i by omega) (by omega); omega
theorem Inv.on (inv : Inv E M ops A S wt σ0 G0 w0 ds D σ w a) (ord : OrdOK ops A) (ho : ops[j]? = some o) (hj : ¬ D j) (hcl : ∀ i, bitK (A j) i = true → D i) : On M (fun t => (namesOf ops.toList o).contains t) σ (S j).fr a := by
  have hlt : j < ops.size := (Array.getElem?_eq_some_iff.1 ho).1
  refine ⟨inv.size, fun q v hq hv => ?_⟩
  refine inv.frame q j ⟨by omega, fun i p hp hd => ?_⟩ v hv
  by_cases hij : i = j
  · subst hij; exact ⟨fun h => by omega, fun h => absurd h hj⟩
  · rcases ord.write i j p o q hij hp ho hd (by simpa using hq) with h | h
    · have := ord.lt j o i ho h
      exact ⟨fun _ => hcl i h, fun _ => this⟩
    · have := ord.lt i p j hp h
      exact ⟨fun h => by omega, fun h1 => by rw [inv.after hj h1] at h; cases h⟩
/-- Of two effects, the one ahead is done first. -/
theorem eff_ord (ord : OrdOK ops A) {e e' : Nat} (h : Eff ops wt e) (h' : Eff ops wt e') (hlt : e < e') : bitK (A e') e = true := by
  obtain ⟨p, hp, h3, _⟩ := h
  obtain ⟨p', hp', h3', _⟩ := h'
  rcases ord.eff e e' p p' (by omega) hp hp' h3 h3' with h | h
  · exact h
  · have := ord.lt e p e' hp h; omega

/-- Where the memory stands when a read is done. -/
theorem Inv.read_at (inv : Inv E M ops A S wt σ0 G0 w0 ds D σ w a) (ok : EnvOK P E) (hM : M.ng = E.ng) (hF : FFOK P E F) (ord : OrdOK ops A) (t : Trace P E M F ops A S wt val) (ho : ops[j]? = some o) (hj : ¬ D j) (hcl : ∀ i, bitK (A j) i = true → D i)
    (h1 : kindOf o.op = 1) (hw : wt j = true) (hs : ∀ Q, Asks ops o Q → Sem P E M Q o.op (S j).fr (S j).h (val j) (S j).h) (hold : ∀ p ∈ (S j).old, bitK (A j) p.1 = false → ∀ Q, Asks ops o Q → Sem P E M Q o.op (S j).fr p.2 (val j) p.2) :
    ∃ q, Split ops wt D q ∧ ∀ Q, Asks ops o Q → Sem P E M Q o.op (S j).fr (S q).h (val j) (S q).h := by
  have hlt : j < ops.size := (Array.getElem?_eq_some_iff.1 ho).1
  have hEff : ∀ e, Eff ops wt e → e < ops.size := fun e ⟨p, hp, _⟩ => (Array.getElem?_eq_some_iff.1 hp).1
  have hnej : ¬ Eff ops wt j := fun ⟨p, hp, h3, _⟩ => by rw [ho] at hp; cases hp; omega
  rcases Classical.em (∃ e, e < j ∧ (Eff ops wt e ∧ ¬ D e)) with hex | hno
  · obtain ⟨e, he, ⟨hee, hnd⟩, hmin⟩ := least hex
    refine ⟨e, ⟨by omega, fun e' he' => ⟨fun hl => ?_, fun hd => ?_⟩⟩, ?_⟩
    · exact Classical.byContradiction fun hn => hmin e' hl ⟨he', hn⟩
    · rcases Nat.lt_trichotomy e' e with h | h | h
      · exact h
      · subst h; exact absurd hd hnd
      · exact absurd ((inv.clos e' hd).2 e (eff_ord ord hee he' h)) hnd
    · refine hold (e, (S e).h) (t.old_mem hee he (by omega)) ?_
      cases hb : bitK (A j) e with
      | false => rfl
      | true => exact absurd (hcl e hb) hnd
  · have hbelow : ∀ e, Eff ops wt e → e < j → D e := fun e he hl => Classical.byContradiction fun hn => hno ⟨e, hl, he, hn⟩
    rcases Classical.em (∃ e, e < ops.size ∧ (Eff ops wt e ∧ D e ∧ j < e)) with hex | hno2
    · obtain ⟨e, he, ⟨hee, hd, hje⟩, hmax⟩ := greatest hex
      obtain ⟨p, hp, h3, hwe⟩ := hee
      refine ⟨e + 1, ⟨by omega, fun e' he' => ⟨fun hl => ?_, fun hd' => ?_⟩⟩, ?_⟩
      · rcases Nat.lt_trichotomy e' e with h | h | h
        · exact (inv.clos e hd).2 e' (eff_ord ord he' ⟨p, hp, h3, hwe⟩ h)
        · subst h; exact hd
        · omega
      · rcases Nat.lt_or_ge e e' with h | h
        · exact absurd ⟨he', hd', by omega⟩ (hmax e' h (hEff e' he'))
        · omega
      · rcases (t.step e p hp).inv with h | h | h | h | h
        · rw [h.1] at hwe; cases hwe
        · have := h.2.1; omega
        · have := h.2.1; omega
        · have := h.2.1; omega
        · obtain ⟨_, _, _, b, _, _, hrd⟩ := h
          obtain ⟨r', k', h5⟩ := hrd _ (t.rd_mem ho h1 hw hje (by omega)) (inv.after hj hd)
          obtain ⟨_, h'', h6⟩ := again_inv h5
          intro Q hQ
          have := (exec_ret ok hM hF h6 hQ.1).2
          rwa [read_ret ok hM h1 h6] at this
    · refine ⟨j, ⟨by omega, fun e he => ⟨hbelow e he, fun hd => ?_⟩⟩, hs⟩
      rcases Nat.lt_trichotomy e j with h | h | h
      · exact h
      · subst h; exact absurd he hnej
      · exact absurd ⟨e, hEff e he, he, hd, h⟩ hno2

theorem Inv.step (inv : Inv E M ops A S wt σ0 G0 w0 ds D σ w a) (ok : EnvOK P E) (hM : M.ng = E.ng) (hF : FFOK P E F) (ord : OrdOK ops A) (t : Trace P E M F ops A S wt val) (hfl : (S 0).fl = []) (hg0 : GOK E σ0)
    (fre : Fresh σ0 (S 0).h.next (S ops.size).h.next) (ho : ops[j]? = some o) (hj : ¬ D j) (haf : ∀ e ∈ o.after.toList, Region.binds .any e = true → D e.on) :
    ∃ w' τ v', Inv E M ops A S wt σ0 G0 w0 ds (fun i => D i ∨ i = j) τ w' (a.put o.dst v') ∧
      ∀ (rest : List Nat) (b : Frame) kk cs, Steps P (lone (b.atR a (.inRegion ops (j :: rest) :: kk)) cs w) (lone (b.atR (a.put o.dst v') (.inRegion ops rest :: kk)) cs w') := by
  have hlt : j < ops.size := (Array.getElem?_eq_some_iff.1 ho).1
  have hcl : ∀ i, bitK (A j) i = true → D i := fun i hi => by
    obtain ⟨e, h1, h2, h3⟩ := ord.step j o i ho hi
    have hd := haf e h1 h2
    rcases h3 with h3 | h3
    · exact h3 ▸ hd
    · exact (inv.clos e.on hd).2 i h3
  have hon := inv.on ord ho hj hcl
  have hfresh := inv.fresh t fre ho hj
  have hwant := t.want j o ho _ asks_names σ a hon
  obtain ⟨G, hcum, hrp, hm1, hm2⟩ := inv.mem
  have hg : GOK E σ := hg0.mono hcum.ext
  have hEj : wt j = false ∨ kindOf o.op ≠ 3 → ¬ Eff ops wt j := fun h ⟨p, hp, h3, hw⟩ => by
    rw [ho] at hp; cases hp
    rcases h with h | h
    · rw [h] at hw; cases hw
    · exact h h3
  have hFj : wt j = false ∨ kindOf o.op ≠ 2 → ¬ Flt ops wt j := fun h ⟨p, hp, h3, hw⟩ => by
    rw [ho] at hp; cases hp
    rcases h with h | h
    · rw [h] at hw; cases hw
    · exact h h3
  have hsplit : ¬ Eff ops wt j → ∀ q, Split ops wt (fun i => D i ∨ i = j) q → Split ops wt D q := fun hne q hq => ⟨hq.1, fun e he => by
    rw [hq.2 e he]
    exact ⟨fun h => h.elim id fun h => by subst h; exact absurd he hne, .inl⟩⟩
  have hfree : ∀ i, i ≠ j → Free ops A wt (fun i => D i ∨ i = j) i → Free ops A wt D i := fun i hij hi =>
    ⟨hi.1.elim id fun h => absurd h hij, hi.2.1, fun e hd he => hi.2.2 e (.inl hd) he⟩
  have hfree2 : ¬ Flt ops wt j → ∀ i, Free ops A wt (fun i => D i ∨ i = j) i → Free ops A wt D i := fun hnf i hi => hfree i (fun e => by subst e; exact hnf hi.2.1) hi
  -- one operation that is done
  have does : ∀ {v' w'}, wt j = true → (∀ c, o.op ≠ .defer c) → Does P a.eval o.op w v' w' → ∀ (rest : List Nat) (b : Frame) kk cs, Steps P (lone (b.atR a (.inRegion ops (j :: rest) :: kk)) cs w) (lone (b.atR (a.put o.dst v') (.inRegion ops rest :: kk)) cs w') :=
    fun hw hnd hd rest b kk cs => op_steps ho (hwant.trans hw) hnd hd
  have nodefer : ∀ {k}, kindOf o.op = k → k ≠ 3 → ∀ c, o.op ≠ .defer c := fun hk hne c e => by rw [e] at hk; exact hne hk.symm
  rcases (t.step j o ho).inv with h | h | h | h | h
  · obtain ⟨hw, hv, hh⟩ := h
    refine ⟨w, σ, undef, ?_, fun rest b kk cs => ?_⟩
    · refine inv.core ord t ho hj hcl (Ext.refl σ) (fun n x hx => .inl hx) (by rw [hv]; exact VR.undef) ⟨G, hcum, hrp, fun q hq => hm1 q (hsplit (hEj (.inl hw)) q hq), fun i hi => hm2 i (hfree2 (hFj (.inl hw)) i hi)⟩
        (fun i hi q hq => inv.memd i (hfree2 (hFj (.inl hw)) i hi) q (hsplit (hEj (.inl hw)) q hq))
    · have hskip := stepR_op_skip (P := P) (b := b) (a := a) (k := kk) (cs := cs) (w := w) (ops := ops) (i := j) (rest := rest) (by rw [ho]; simpa using hwant.trans hw)
      rw [show (ops[j]?).bind (·.dst) = o.dst from by rw [ho]; rfl] at hskip
      exact .one hskip
  · obtain ⟨hw, hk, hh, h', hsem, hn⟩ := h
    obtain ⟨v', w', τ, hd, hv, g⟩ := hsem _ asks_names σ w a hg (hrp.sub fun n B hB => by cases hB) hon (fun n h1 h2 => by rw [hn] at h2; exact absurd h1 (Nat.not_le.2 h2))
    obtain ⟨hrp', hcum'⟩ := frameP g hrp fun n B hB => by cases hB
    refine ⟨w', τ, v', inv.core ord t ho hj hcl g.ext (fun n x hx => ?_) hv ⟨_, hcum.trans hcum', hrp', fun q hq n B hB => .inr ⟨rfl, hm1 q (hsplit (hEj (.inr (by omega))) q hq) n B hB⟩, fun i hi => .inr ⟨rfl, hm2 i (hfree2 (hFj (.inr (by omega))) i hi)⟩⟩
        (fun i hi q hq => inv.memd i (hfree2 (hFj (.inr (by omega))) i hi) q (hsplit (hEj (.inr (by omega))) q hq)), does hw (nodefer hk (by omega)) hd⟩
    rcases g.new n x hx with h | ⟨h1, h2⟩
    · exact .inl h
    · rw [hn] at h2; exact absurd h1 (Nat.not_le.2 h2)
  · obtain ⟨hw, hk, hh, hsem, hold⟩ := h
    obtain ⟨q0, hq0, hs⟩ := inv.read_at ok hM hF ord t ho hj hcl hk hw hsem hold
    obtain ⟨v', w', τ, hd, hv, g⟩ := hs _ asks_names σ w a hg (hrp.sub (hm1 q0 hq0)) hon (fun n h1 h2 => absurd h1 (Nat.not_le.2 h2))
    obtain ⟨hrp', hcum'⟩ := frameP g hrp (hm1 q0 hq0)
    have hsame : ∀ q, Split ops wt D q → (S q).h.b = (S q0).h.b := fun q hq => by
      have hnone : ∀ {k l}, Split ops wt D k → Split ops wt D l → ∀ i, k ≤ i → i < l → ¬ Eff ops wt i := fun {k l} hk hl i h1 h2 he => by
        have := (hk.2 i he).2 ((hl.2 i he).1 h2); omega
      rcases Nat.le_total q0 q with hle | hle
      · exact t.b_const hle hq.1 (hnone hq0 hq)
      · exact (t.b_const hle hq0.1 (hnone hq hq0)).symm
    refine ⟨w', τ, v', inv.core ord t ho hj hcl g.ext (fun n x hx => ?_) hv ⟨_, hcum.trans hcum', hrp', fun q hq n B hB => .inl (by rw [← hsame q (hsplit (hEj (.inr (by omega))) q hq)]; exact hB),
      fun i hi => .inr ⟨inv.memd i (hfree2 (hFj (.inr (by omega))) i hi) q0 hq0, hm2 i (hfree2 (hFj (.inr (by omega))) i hi)⟩⟩
        (fun i hi q hq => inv.memd i (hfree2 (hFj (.inr (by omega))) i hi) q (hsplit (hEj (.inr (by omega))) q hq)), does hw (nodefer hk (by omega)) hd⟩
    rcases g.new n x hx with h | ⟨h1, h2⟩
    · exact .inl h
    · exact absurd h1 (Nat.not_le.2 h2)
  · obtain ⟨hw, hk, hb, h', b, hsem, hnx, hfl', hlt', hget⟩ := h
    obtain ⟨v', w', τ, hd, hv, g⟩ := hsem _ asks_names σ w a hg (hrp.sub fun n B hB => by cases hB) hon (by rw [hnx] at hfresh; exact hfresh)
    obtain ⟨hrp', hcum'⟩ := frameP g hrp fun n B hB => by cases hB
    have hblk : blkOf S j = b := by unfold blkOf; rw [hfl']
    refine ⟨w', τ, v', inv.core ord t ho hj hcl g.ext (fun n x hx => ?_) hv ⟨_, hcum.trans hcum', hrp', fun q hq n B hB => .inr ⟨rfl, hm1 q (hsplit (hEj (.inr (by omega))) q hq) n B hB⟩, fun i hi => ?_⟩
        (fun i hi q hq => ?_), does hw (nodefer hk (by omega)) hd⟩
    · rcases g.new n x hx with h | ⟨h1, h2⟩
      · exact .inl h
      · exact .inr ⟨h1, by rw [hnx]; exact h2⟩
    · by_cases hij : i = j
      · subst hij; exact .inl (by rw [hblk]; exact hget)
      · exact .inr ⟨rfl, hm2 i (hfree i hij hi)⟩
    · by_cases hij : i = j
      · subst hij
        cases hc : (S q).h.b.get (S i).h.next with
        | none => rfl
        | some B =>
          obtain ⟨b2, base, κ, o2, h1, _⟩ := hrp.live _ _ (hm1 q (hsplit (hEj (.inr (by omega))) q hq) _ _ hc)
          rw [hfresh _ (Nat.le_refl _) (by rw [hnx]; exact hlt')] at h1
          cases h1
      · exact inv.memd i (hfree i hij hi) q (hsplit (hEj (.inr (by omega))) q hq)
  · obtain ⟨hw, hk, hnd, b, hb, hsem, hrd⟩ := h
    have hEff : Eff ops wt j := ⟨o, ho, hk, hw⟩
    have hsj : Split ops wt D j := ⟨by omega, fun e he => ⟨fun h => hcl e (eff_ord ord he hEff h), fun hd => by
      rcases Nat.lt_trichotomy e j with h | h | h
      · exact h
      · subst h; exact absurd hd hj
      · exact absurd ((inv.clos e hd).2 j (eff_ord ord hEff he h)) hj⟩⟩
    have hflt : ∀ p ∈ (S j).fl, bitK (A j) p.1 = true → Free ops A wt D p.1 ∧ p.2.1 = (S p.1).h.next ∧ p.2.2 = blkOf S p.1 := fun p hp hbt => by
      obtain ⟨h1, h2, h3, h4, h5⟩ := t.fl_mem hfl (by omega) p hp
      refine ⟨⟨hcl _ hbt, h4, fun e hd he => ?_⟩, h2, h3⟩
      cases hbe : bitK (A e) p.1 with
      | false => rfl
      | true =>
        have h6 := h5 e ((hsj.2 e he).2 hd) he hbe
        obtain ⟨p', hp', _⟩ := he
        have := ord.lt e p' p.1 hp' hbe
        omega
    have hsub : ∀ n B, b.get n = some B → G n B := fun n B hB => by
      rcases hb n B hB with h | ⟨p, hp, hbt, e1, e2⟩
      · exact hm1 j hsj n B h
      · obtain ⟨h1, h2, h3⟩ := hflt p hp hbt
        rw [e1, e2, h2, h3]; exact hm2 _ h1
    obtain ⟨v', w', τ, hd, hv, g⟩ := hsem _ asks_names σ w a hg (hrp.sub (h := ⟨(S j).h.next, b⟩) hsub) hon hfresh
    obtain ⟨hrp', hcum'⟩ := frameP g hrp hsub
    have hij : ∀ i, Free ops A wt (fun i => D i ∨ i = j) i → i ≠ j := fun i hi e => by
      subst e
      obtain ⟨p, hp, h2, _⟩ := hi.2.1
      rw [ho] at hp; cases hp; omega
    have hbnone : ∀ i, Free ops A wt (fun i => D i ∨ i = j) i → b.get (S i).h.next = none := fun i hi => by
      have hf := hfree i (hij i hi) hi
      cases hc : b.get (S i).h.next with
      | none => rfl
      | some B =>
        rcases hb _ B hc with h | ⟨p, hp, hbt, e1, e2⟩
        · rw [inv.memd i hf j hsj] at h; cases h
        · obtain ⟨h1, h2, h3⟩ := hflt p hp hbt
          have e : i = p.1 := by
            have inc : ∀ k, Flt ops wt k → (S k).h.next < (S (k + 1)).h.next := fun k ⟨q, hq, hq2, hqw⟩ => by
              rcases (t.step k q hq).inv with h | h | h | h | h
              · rw [h.1] at hqw; cases hqw
              · have := h.2.1; omega
              · have := h.2.1; omega
              · obtain ⟨_, _, _, h', b, _, e3, _, e4, _⟩ := h; rw [e3]; exact e4
              · have := h.2.1; omega
            rw [h2] at e1
            have hi1 := (inv.clos i hf.1).1
            have hi2 := (inv.clos p.1 h1.1).1
            rcases Nat.lt_trichotomy i p.1 with h | h | h
            · have h5 := inc i hf.2.1
              have h6 := t.lo_mono (show i + 1 ≤ p.1 by omega) (by omega)
              omega
            · exact h
            · have h5 := inc p.1 h1.2.1
              have h6 := t.lo_mono (show p.1 + 1 ≤ i by omega) (by omega)
              omega
          have := hi.2.2 j (.inr rfl) hEff
          rw [e, hbt] at this; cases this
    have hsame : ∀ q, Split ops wt (fun i => D i ∨ i = j) q → (S q).h.b = (S (j + 1)).h.b := fun q hq => by
      refine t.b_const ((hq.2 j hEff).2 (.inr rfl)) hq.1 fun e h1 h2 he => ?_
      rcases (hq.2 e he).1 h2 with h | h
      · have := (hsj.2 e he).2 h; omega
      · omega
    refine ⟨w', τ, v', inv.core ord t ho hj hcl g.ext (fun n x hx => g.new n x hx) hv ⟨_, hcum.trans hcum', hrp', fun q hq n B hB => .inl (by rw [← hsame q hq]; exact hB), fun i hi => .inr ⟨hbnone i hi, hm2 i (hfree i (hij i hi) hi)⟩⟩
        (fun i hi q hq => ?_), does hw hnd hd⟩
    rw [hsame q hq]
    have hf := hfree i (hij i hi) hi
    cases hc : (S (j + 1)).h.b.get (S i).h.next with
    | none => rfl
    | some B =>
      obtain ⟨b1, base, κ, o1, h1, h2, _⟩ := hrp.live _ _ (hm2 i hf)
      have hlt1 := (Array.getElem?_eq_some_iff.1 h2).1
      obtain ⟨m, C, y, h3, _, h4, h5⟩ := g.img _ _ _ hc (g.ext _ _ h1) hlt1
      obtain ⟨b2, y⟩ := y
      have h5 : b2 = b1 := h5
      subst h5
      have := hrp.inj m _ C _ b2 _ _ (hsub m C h3) (hm2 i hf) h4 h1
      subst this
      have h3 : b.get (S i).h.next = some C := h3
      rw [hbnone i hi] at h3; cases h3
end
end Go.Ev
set_option linter.unusedVariables false
namespace Go.Ev
variable {P : Program} {E : Env} {M : MN} {r : Res} {F : FF}
open Go.Ev.Trace

def nf : List Bool → Nat
  | [] => 0
  | true :: l => nf l
  | false :: l => nf l + 1
theorem nf_set : ∀ {l : List Bool} {j : Nat}, l[j]? = some false → nf (l.set j true) + 1 = nf l
  | [], j, h => by simp at h
  | b :: l, 0, h => by simp at h; subst h; rfl
  | b :: l, j + 1, h => by
    have := nf_set (l := l) (j := j) (by simpa using h)
    cases b
    · show nf (l.set j true) + 1 + 1 = nf l + 1; omega
    · exact this
theorem nf_zero : ∀ {l : List Bool}, nf l = 0 → ∀ (j : Nat) (b : Bool), l[j]? = some b → b = true
  | [], _, j, b, h => by simp at h
  | false :: l, hn, j, b, h => by simp [nf] at hn
  | true :: l, hn, 0, b, h => by simp at h; exact h
  | true :: l, hn, j + 1, b, h => nf_zero (l := l) hn j b (by simpa using h)
theorem nf_replicate (n : Nat) : nf (List.replicate n false) = n := by
  induction n with
  | zero => rfl
  | succ n ih => rw [List.replicate_succ]; show nf _ + 1 = n + 1; rw [ih]

section
variable {ops : Array Oper} {A : Nat → Nat} {S : Nat → DS} {wt : Nat → Bool} {val : Nat → Value} {σ0 : Sg} {G0 : Nat → Blk → Prop} {w0 : World} {ds : List Deferred}

theorem look_back (t : Trace P E M F ops A S wt val) {q : Nat} {u : Value} {j k : Nat} (h : j ≤ k) : k ≤ ops.size → (∀ (i : Nat) (p : Oper), j ≤ i → i < k → ops[i]? = some p → p.dst ≠ some q) → look M (S k).fr q = some u → look M (S j).fr q = some u := by
  induction h with
  | refl => intro _ _ h; exact h
  | @step m hk ih =>
    intro hks hno h
    obtain ⟨p, hp⟩ := at_ (ops := ops) (j := m) (by omega)
    rcases (step_put (t.step m p hp)).2 q u h with ⟨h1, _⟩ | ⟨_, h1⟩
    · exact absurd h1 (hno m p hk (Nat.lt_succ_self _) hp)
    · exact ih (by omega) (fun i p h2 h3 => hno i p h2 (by omega)) h1

theorem run_go (ok : EnvOK P E) (hM : M.ng = E.ng) (hF : FFOK P E F) (ord : OrdOK ops A) (t : Trace P E M F ops A S wt val) (hfl : (S 0).fl = []) (hg0 : GOK E σ0) (fre : Fresh σ0 (S 0).h.next (S ops.size).h.next) :
    ∀ (fuel d : Nat) (listed : Array Bool) (σ : Sg) (w : World) (a : Act), listed.size = ops.size → nf listed.toList ≤ fuel → Inv E M ops A S wt σ0 G0 w0 ds (fun i => listed.getD i false = true) σ w a →
    ∃ a' w' τ, Inv E M ops A S wt σ0 G0 w0 ds (fun i => i < ops.size) τ w' a' ∧
      ∀ (b : Frame) kk cs, Steps P (lone (b.atR a (.inRegion ops (Region.linearise.go .any ops fuel d listed []) :: kk)) cs w) (lone (b.atR a' (.inRegion ops [] :: kk)) cs w') := by
  have fin : ∀ (listed : Array Bool) (σ : Sg) (w : World) (a : Act), Inv E M ops A S wt σ0 G0 w0 ds (fun i => listed.getD i false = true) σ w a → (∀ i, i < ops.size → listed.getD i false = true) → Inv E M ops A S wt σ0 G0 w0 ds (fun i => i < ops.size) σ w a := fun listed σ w a inv hall => by
    have e : (fun i => listed.getD i false = true) = fun i => i < ops.size := funext fun i => propext ⟨fun h => (inv.clos i h).1, hall i⟩
    rw [← e]; exact inv
  intro fuel
  induction fuel with
  | zero =>
    intro d listed σ w a hsz hn inv
    refine ⟨a, w, σ, fin listed σ w a inv fun i hi => ?_, fun b kk cs => by simp only [Region.linearise.go, List.reverse_nil]; exact .refl _ _⟩
    have hi' : i < listed.size := by omega
    have := nf_zero (l := listed.toList) (by omega) i listed[i] (by simp [hi'])
    simp [hi', this]
  | succ fuel ih =>
    intro d listed σ w a hsz hn inv
    have hgo : Region.linearise.go .any ops (fuel + 1) d listed [] = match (Region.ready .any ops listed)[d % (Region.ready .any ops listed).length]? with
      | some i => Region.linearise.go .any ops fuel (d / (Region.ready .any ops listed).length) (listed.setIfInBounds i true) [i]
      | none => [].reverse := rfl
    rw [hgo]
    cases hi : (Region.ready .any ops listed)[d % (Region.ready .any ops listed).length]? with
    | none =>
      have hnil : Region.ready .any ops listed = [] := by
        cases hr : Region.ready .any ops listed with
        | nil => rfl
        | cons x xs =>
          rw [hr] at hi
          have hlt : d % (x :: xs).length < (x :: xs).length := Nat.mod_lt _ (by simp)
          rw [List.getElem?_eq_none_iff] at hi
          omega
      refine ⟨a, w, σ, fin listed σ w a inv fun i hi => Classical.byContradiction fun hno => ?_, fun b kk cs => .refl _ _⟩
      obtain ⟨e, he, hne, hmin⟩ := least (p := fun i => ¬ listed.getD i false = true) ⟨i, hi, hno⟩
      have : e ∈ Region.ready .any ops listed := by
        obtain ⟨o, ho⟩ := at_ (ops := ops) he
        rw [mem_ready]
        have hel : e < listed.size := by omega
        refine ⟨by simpa [hel] using hne, o, ho, fun e' he' hb => ?_⟩
        exact Classical.not_not.1 (hmin e'.on (ord.edge e o ho e' (by simpa using he') hb))
      rw [hnil] at this; cases this
    | some i =>
      simp only []
      rw [linearise_go_acc, List.reverse_singleton, List.singleton_append]
      have hmem := List.mem_of_getElem? hi
      rw [mem_ready] at hmem
      obtain ⟨hf, o, ho, haf⟩ := hmem
      have hlt : i < ops.size := (Array.getElem?_eq_some_iff.1 ho).1
      have hil : i < listed.size := by omega
      have hfi : listed[i] = false := by simpa [hil] using hf
      obtain ⟨w1, τ1, v1, inv1, st1⟩ := inv.step ok hM hF ord t hfl hg0 fre ho (j := i) (by simp [hil, hfi]) (fun e he hb => haf e (by simpa using he) hb)
      have e : (fun k => listed.getD k false = true ∨ k = i) = fun k => (listed.setIfInBounds i true).getD k false = true := funext fun k => propext (by
        by_cases hk : k = i
        · subst hk; simp [hil]
        · rw [getD_set_ne false (Ne.symm hk)]; simp [hk])
      rw [e] at inv1
      have hcount := nf_set (l := listed.toList) (j := i) (by simp [hil, hfi])
      obtain ⟨a2, w2, τ2, inv2, st2⟩ := ih (d / (Region.ready .any ops listed).length) (listed.setIfInBounds i true) τ1 w1 _ (by simpa using hsz) (by simp only [Array.toList_setIfInBounds]; omega) inv1
      exact ⟨a2, w2, τ2, inv2, fun b kk cs => (st1 _ b kk cs).trans (st2 b kk cs)⟩

theorem Inv.start (t : Trace P E M F ops A S wt val) {σ : Sg} {w : World} {a : Act} (hr : HR E σ (S 0).h w) (hfr : FrR M σ (S 0).fr a) : Inv E M ops A S wt σ (fun n B => (S 0).h.b.get n = some B) w a.defers (fun _ => False) σ w a where
  names := fun n x h => .inl h
  mem := ⟨_, Cum.refl _ _ _, ⟨hr.live, hr.inj⟩, fun q hq n B hB => by
    rw [t.b_const (Nat.zero_le q) hq.1 fun i h1 h2 he => (hq.2 i he).1 h2] at hB; exact hB, fun i hi => hi.1.elim⟩
  memd := fun i hi => hi.1.elim
  frame := fun q k hk u hu => hfr.look (look_back t (Nat.zero_le k) hk.1 (fun i p h1 h2 hp hd => ((hk.2 i p hp hd).1 h2).elim) hu)
  size := hfr.size
  defers := rfl
  clos := fun j h => h.elim
end

/-- **Regions whose order is drawn.** -/
theorem draw_ok (ok : EnvOK P E) : DrawOK P E := fun M hM id ops cx s k r hF hp hh => by
  have hh : evDraw E M ops.toList cx.F ⟨[], s.T⟩ s.h (fun fr h => k .normal ⟨fr.T, s.D, h⟩) = some r := hh
  unfold evDraw at hh
  obtain ⟨l, hl, h1⟩ := oS_inv hh
  unfold drawOps at hl
  split at hl
  case h_2 => cases hl
  rename_i hdraw
  cases hl
  have ord := ord_of_drawOk hdraw
  obtain ⟨S, wt, val, hS0, h2, h3⟩ := evD_inv (P := P) ok hF hM (ops := ops) (A := fun j => (ancs ops.toList).getD j 0) (os := ops.toList.zipIdx) (s := ⟨⟨[], s.T⟩, s.h, [], [], []⟩) (fun p hp => by cases hp) h1
  have hlen : ops.toList.zipIdx.length = ops.size := by simp
  rw [hlen] at h2
  have t : Trace P E M cx.F ops (fun j => (ancs ops.toList).getD j 0) S wt val := by
    have h4 : ∀ j o, ops[j]? = some o → ops.toList.zipIdx[j]? = some (o, j) := fun j o ho => by
      rw [List.getElem?_zipIdx]; simpa using ho
    exact ⟨fun j o ho => (h3 j o j (h4 j o ho)).1, fun j o ho => (h3 j o j (h4 j o ho)).2⟩
  have hfl : (S 0).fl = [] := by rw [hS0]
  have hh0 : (S 0).h = s.h := by rw [hS0]
  obtain ⟨b', rest, h4, h5, -⟩ := merge_inv (f := fun b _ => k Out.normal ⟨(S ops.size).fr.T, s.D, ⟨(S ops.size).h.next, b⟩⟩) (anc := 0) (all := true) (l := (S ops.size).fl) (b := (S ops.size).h.b) (acc := []) h2
  refine ⟨.normal, ⟨(S ops.size).fr.T, s.D, ⟨(S ops.size).h.next, b'⟩⟩, h4, by have := t.lo_mono (Nat.zero_le ops.size) (Nat.le_refl _); rw [hh0] at this; exact this, fun σ w a b hg hr hst hb fre => ?_⟩
  have fre' : Fresh σ (S 0).h.next (S ops.size).h.next := by rw [hh0]; exact fre
  have inv0 : Inv E M ops (fun j => (ancs ops.toList).getD j 0) S wt σ (fun n B => (S 0).h.b.get n = some B) { w with drawn := w.drawn + 1 } a.defers (fun _ => False) σ { w with drawn := w.drawn + 1 } a :=
    Inv.start t (by rw [hh0]; exact hr.drawn _) (by rw [hS0]; exact hst.frR)
  have e : (fun _ : Nat => False) = fun i => (Array.replicate ops.size false).getD i false = true := funext fun i => propext ⟨fun h => h.elim, fun h => by
    rw [Array.getD_eq_getD_getElem?, Array.getElem?_replicate] at h
    split at h <;> cases h⟩
  rw [e] at inv0
  obtain ⟨a', w', τ, inv, hst2⟩ := run_go ok hM hF ord t hfl hg fre' ops.size (w.tape w.drawn (.order b.fn id)) (Array.replicate ops.size false) σ _ a (by simp) (by simp [nf_replicate]) inv0
  obtain ⟨G, hcum, hrp, hm1, hm2⟩ := inv.mem
  have hall : Split ops wt (fun i => i < ops.size) ops.size := ⟨Nat.le_refl _, fun e he => Iff.rfl⟩
  have hsub : ∀ n B, b'.get n = some B → G n B := fun n B hB => by
    rcases h5 n B hB with h | ⟨p, hp, _, e1, e2⟩
    · exact hm1 _ hall n B h
    · obtain ⟨h6, h7, h8, h9, h10⟩ := t.fl_mem hfl (Nat.le_refl _) p hp
      rw [e1, e2, h7, h8]
      refine hm2 p.1 ⟨h6, h9, fun e he hee => ?_⟩
      cases hbe : bitK ((ancs ops.toList).getD e 0) p.1 with
      | false => rfl
      | true =>
        have h11 := h10 e he hee hbe
        obtain ⟨q, hq, _⟩ := hee
        have := ord.lt e q p.1 hq hbe
        omega
  refine ⟨a', w', τ, ?_, ⟨?_, ?_⟩, fun kk cs => ⟨[], ?_, fun i e => by cases e⟩⟩
  · refine ⟨hcum.ext, fun n x hx => ?_, ?_, hrp.sub (h := ⟨_, b'⟩) hsub, hcum.os, hcum.tape, hcum.output, hcum.size, fun k hk hn => hcum.keep k hk (fun n B x hB => by rw [hh0] at hB; exact hn n B x hB), fun n B x hB hx hlt => ?_⟩
    · rcases inv.names n x hx with h | ⟨j, h6, h7, h8⟩
      · exact .inl h
      · have e1 := t.lo_mono (Nat.zero_le j) (Nat.le_of_lt h6)
        have e2 := t.lo_mono (show j + 1 ≤ ops.size from h6) (Nat.le_refl _)
        rw [hh0] at e1
        exact .inr ⟨by omega, by show n < (S ops.size).h.next; omega⟩
    · have := t.lo_mono (Nat.zero_le ops.size) (Nat.le_refl _)
      rw [hh0] at this; exact this
    · obtain ⟨m, C, y, h6, h7, h8, h9⟩ := hcum.img n B x (hsub n B hB) hx hlt
      rw [hh0] at h6
      exact ⟨m, C, y, h6, h7, h8, h9⟩
  · exact (FrR.of_look inv.size fun q v hv => inv.frame q ops.size ⟨Nat.le_refl _, fun i p hp _ => Iff.rfl⟩ v hv).tr
  · rw [inv.defers]; exact hst.D.mono hcum.ext
  · refine .head stepR_region_draw (Steps.trans (m₁ := lone (b.atR a' (.inRegion ops [] :: kk)) cs w') ?_ (.one stepR_region_end))
    have hsch : Region.schedule (P.follows .mixedOrders) ops (w.tape w.drawn (.order b.fn id)) = Region.linearise.go .any ops ops.size (w.tape w.drawn (.order b.fn id)) (Array.replicate ops.size false) [] := by
      simp only [Region.schedule, ok.mixed, Bool.true_or, if_true]; rfl
    rw [hsch]
    exact hst2 b kk cs
end Go.Ev
