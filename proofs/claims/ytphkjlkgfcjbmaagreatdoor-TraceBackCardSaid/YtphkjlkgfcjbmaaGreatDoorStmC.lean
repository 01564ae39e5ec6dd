/- From what a world that fits gives to what is asked of TraceBack, given that lives answers. -/
import Derived.Test.YtphkjlkgfcjbmaaGreatDoorStmA
set_option linter.all false
set_option linter.unusedVariables false
namespace Go.Proofs.YtphkjlkgfcjbmaaGreatDoor
open Go Go.ChangeShapes Go.WideShapes Go.ChangeAt Go.WideMaps Go.WideElems Go.RowKit
open Go.ChangeMaps (open_string shut_string)
set_option maxRecDepth 100000 in
theorem walk (hlv : ∃ h', Ev.Leaves Tryz.prog T.E 11 [] T.h0 (.bool true) h') {H : Type} {enc : TypeId × Value → H} {W : World} {base : Nat} {args : Array Value} {ds gs : List (DataW H)} {before : List MemPlace}
    (hval0 : ∀ (j : Nat) (t : TypeId) (v : Value), Tryz.f4.params[j]? = some t → args[j]? = some v → Value.okWide Tryz.prog W .any base t v)
    (hW : DataW.Whole enc Tryz.prog Tryz.f4.params.toList Rows.traceBackSpec.vars false W args.toList ds gs before) (hL : laidMetH Tryz.prog laidL W) :
    Calls Tryz.prog 4 args W fun e W' => ∃ v, e = Ending.returned v ∧ Rows.traceBackSpec.post enc Tryz.prog Tryz.f4 false true false false W args v W' := by
  have hval : ∀ (j : Nat) t v, Tryz.f4.params[j]? = some t → args[j]? = some v → Value.okWide Tryz.prog W .any base t v := hval0
  have hW' := hW
  obtain ⟨p, q, hA0, hV, rfl, hfz, hnd⟩ := hW
  have hA : DataW.TrodAll enc Tryz.prog W 0 (fun _ => true) true Tryz.f4.params.toList args.toList ds p := hA0
  rw [Tryz.params4] at hA hval
  obtain ⟨v0, v1, d0, d1, p0, p1, rfl, rfl, rfl, h0, h1⟩ := trodAll_two hA
  obtain ⟨rfl, rfl⟩ := trodVars_none hV
  obtain ⟨s, rfl, rfl, rfl, ws⟩ := open_string Tryz.underlying9 (hval 1 9 v1 rfl rfl) h1
  obtain ⟨a0, len, cap, rfl⟩ := okWide_slice Tryz.underlying22 (hval 0 22 v0 rfl rfl)
  have hok : Cell.okWide Tryz.prog W .any base 22 (.slice a0 len cap) := by
    have := hval 0 22 _ rfl rfl
    unfold Value.okWide at this
    rw [Tryz.underlying22] at this
    exact this
  have h0k := h0
  obtain ⟨fuel, hf⟩ := h0
  clear hA0 hval0
  simp only [List.append_nil] at hW'
  have hlt : ∀ x ∈ p0, x.block < W.heap.size := fun x hx => by simpa using hW'.lt x (by simpa using hx)
  have ht := T.of_laid hL
  have hs : s.size < 9223372036854775808 := by have : s.size ≤ 2 ^ 63 - 1 := ws; omega
  -- what is behind the call
  have fin : ∀ W' : World, Below W.heap.size W W' → Rows.traceBackSpec.post enc Tryz.prog Tryz.f4 false true false false W #[.slice a0 len cap, .string s] (.bool true) W' := fun W' hb => by
    have hT : DataW.TrodAll enc Tryz.prog W' 0 (fun b => decide (b < W.heap.size)) true [22, 9] [.slice a0 len cap, .string s] [d0, .lit (.string s.data.toList)] p0 := by
      have := trodAll_mk2 (Below.trod laidOut read22 row22 h0k hb hlt) (shut_string (enc := enc) (w := W') (base := 0) (sp := fun b => decide (b < W.heap.size)) (held := true) Tryz.underlying9 ws)
      simpa using this
    exact ⟨_, _, _, [], p0, [], hW', trodAll_mk1 (shut_bool Tryz.underlying4 true), hT, rfl, hb.frame _, fun h => by cases h⟩
  have call : ∀ (nts : List T.Nt) (b off : Nat), (∀ m ∈ nts, m.typed) → nts.length = len → cap < Ev.BIG → ((a0 = none ∧ len = 0 ∧ cap = 0) ∨ a0 = some ⟨b, off, none⟩) →
      (∀ (i j : Nat) (nt : T.Nt) (x : Value), nts[i]? = some nt → nt.cells[j]? = some x → W.cell? ⟨b, off + (i * 7 + j), none⟩ = some x) →
      Calls Tryz.prog 4 #[.slice a0 len cap, .string s] W fun e W' => ∃ v, e = Ending.returned v ∧ Rows.traceBackSpec.post enc Tryz.prog Tryz.f4 false true false false W #[.slice a0 len cap, .string s] v W' := fun nts b off c1 c2 c3 c4 c5 =>
    (T.calls4 hlv ht c1 c2 hs c3 c4 c5).mono fun e W' ⟨he, g1, g2, g3, g4, g5⟩ => ⟨.bool true, he, fin W' ⟨g3, g4, g5, g1, g2⟩⟩
  rcases Deep.open_slice Tryz.underlying22 hf with ⟨hcs, _⟩ | ⟨a, len', cap', m, n, D, Pl, hcs, _, hl, hm, hmm, _, hx⟩
  · simp [Value.cells] at hcs
    obtain ⟨rfl, rfl, rfl⟩ := hcs
    exact call [] 0 0 (fun m hm => by cases hm) rfl (Nat.zero_lt_succ _) (.inl ⟨rfl, rfl, rfl⟩) (fun i j nt x hi => by simp at hi)
  · simp [Value.cells] at hcs
    obtain ⟨rfl, rfl, rfl⟩ := hcs
    simp only [if_true] at hmm
    subst hmm
    obtain ⟨b, off, spot⟩ := a
    have hsp : spot = none := by
      unfold Cell.okWide at hok
      rw [Tryz.underlying22] at hok
      unfold Cell.ok at hok
      rw [Tryz.underlying22] at hok
      exact hok.2.2.2.1
    subst hsp
    have : Inhabited T.Nt := ⟨⟨false, 0, 0, 0, 0, 0, 0⟩⟩
    obtain ⟨f, hf2⟩ := Deep.choose_lt (α := T.Nt) (n := m) (p := fun i nt => nt.typed ∧ W.cells? 0 ((⟨b, off, none⟩ : Addr).add (i * Tryz.prog.cellsOf 42)) (Tryz.prog.cellsOf 42) = some nt.cells) (fun i hi => by
      obtain ⟨cs', e1, e2⟩ := hx i hi
      obtain ⟨nt, e3, e4⟩ := T.note_of e2
      exact ⟨nt, e4, by rw [e1, e3]⟩)
    refine call ((List.range len).map f) b off (fun nt hnt => ?_) (by simp) ?_ (.inr rfl) (fun i j nt x hi hj => ?_)
    · obtain ⟨i, hi, rfl⟩ := List.mem_map.1 hnt
      exact (hf2 i (by have := List.mem_range.1 hi; omega)).1
    · show m < 9223372036854775808
      have : m ≤ 2 ^ 63 - 1 := hm
      omega
    · rw [List.getElem?_map] at hi
      have hil : i < len := by
        rcases Nat.lt_or_ge i len with h | h
        · exact h
        · rw [List.getElem?_eq_none (by simpa using h)] at hi; cases hi
      rw [List.getElem?_range hil] at hi
      cases hi
      have := (hf2 i (by omega)).2
      rw [T.c42] at this
      obtain ⟨_, hlen7, hcell⟩ := World.cells?_some this
      have hj7 : j < 7 := by have := (List.getElem?_eq_some_iff.1 hj).1; exact this
      have hc := hcell j hj7
      rw [hj, T.add_at, T.add_at] at hc
      rw [← hc]
      congr 2
      omega
end Go.Proofs.YtphkjlkgfcjbmaaGreatDoor
