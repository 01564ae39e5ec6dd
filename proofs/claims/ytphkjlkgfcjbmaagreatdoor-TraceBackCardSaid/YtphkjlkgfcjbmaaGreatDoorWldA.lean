/- A call of TraceBack answers true and leaves what was there, in any world that holds the table and the notes, given that lives answers. -/
import Derived.Test.YtphkjlkgfcjbmaaGreatDoorRunD
import Derived.Test.YtphkjlkgfcjbmaaGreatDoorRows
import Derived.ProofKit
import Derived.LaidMore
import Derived.OpenShut
import Derived.Deep.Slices
import Derived.Stop.Joined
set_option linter.all false
set_option linter.unusedVariables false
open Go Go.Ev Go.Proofs
open Go.ChangeShapes Go.WideShapes
namespace T
set_option maxRecDepth 100000
theorem c42 : Tryz.prog.cellsOf 42 = 7 := by kernel_rfl
theorem c39 : Tryz.prog.cellsOf 39 = 5 := by kernel_rfl
theorem c37 : Tryz.prog.cellsOf 37 = 2 := by kernel_rfl
theorem c23 : Tryz.prog.cellsOf 23 = 1 := by kernel_rfl
theorem c40 : Tryz.prog.cellsOf 40 = 1 := by kernel_rfl
theorem c4 : Tryz.prog.cellsOf 4 = 1 := by kernel_rfl
theorem c3 : Tryz.prog.cellsOf 3 = 1 := by kernel_rfl
theorem c35 : Tryz.prog.cellsOf 35 = 1 := by kernel_rfl
theorem c5 : Tryz.prog.cellsOf 5 = 1 := by kernel_rfl
section
variable {H : Type} {enc : TypeId × Value → H} {w : World} {base : Nat} {spare : Nat → Bool} {held : Bool}
theorem note_of {n : Nat} {cs : List Value} {x : DataW H × List MemPlace} (h : DataW.trod enc Tryz.prog w base spare held n 42 cs = some x) : ∃ nt : Nt, cs = nt.cells ∧ nt.typed := by
  obtain ⟨xs, m, _, _, hlen, hxl, hf⟩ := DataW.trod_struct Tryz.underlying42 h
  rw [c42] at hlen
  match cs, hlen with
  | [v0, v1, v2, v3, v4, v5, v6], _ =>
    have g0 : DataW.trod enc Tryz.prog w base spare held m 39 (([v0, v1, v2, v3, v4, v5, v6].drop 0).take (Tryz.prog.cellsOf 39)) = xs[0]? := hf 0 _ rfl
    have g1 : DataW.trod enc Tryz.prog w base spare held m 23 (([v0, v1, v2, v3, v4, v5, v6].drop 5).take (Tryz.prog.cellsOf 23)) = xs[1]? := hf 1 _ rfl
    have g2 : DataW.trod enc Tryz.prog w base spare held m 40 (([v0, v1, v2, v3, v4, v5, v6].drop 6).take (Tryz.prog.cellsOf 40)) = xs[2]? := hf 2 _ rfl
    rw [c39] at g0
    rw [c23] at g1
    rw [c40] at g2
    have hx : xs.length = 3 := hxl
    match xs, hx with
    | [x0, x1, x2], _ =>
      have g0 : DataW.trod enc Tryz.prog w base spare held m 39 [v0, v1, v2, v3, v4] = some x0 := g0
      have g1 : DataW.trod enc Tryz.prog w base spare held m 23 [v5] = some x1 := g1
      have g2 : DataW.trod enc Tryz.prog w base spare held m 40 [v6] = some x2 := g2
      obtain ⟨ys, m1, _, _, _, hyl, hg⟩ := DataW.trod_struct Tryz.underlying39 g0
      have k0 : DataW.trod enc Tryz.prog w base spare held m1 4 (([v0, v1, v2, v3, v4].drop 0).take (Tryz.prog.cellsOf 4)) = ys[0]? := hg 0 _ rfl
      have k1 : DataW.trod enc Tryz.prog w base spare held m1 3 (([v0, v1, v2, v3, v4].drop 1).take (Tryz.prog.cellsOf 3)) = ys[1]? := hg 1 _ rfl
      have k2 : DataW.trod enc Tryz.prog w base spare held m1 37 (([v0, v1, v2, v3, v4].drop 2).take (Tryz.prog.cellsOf 37)) = ys[2]? := hg 2 _ rfl
      have k3 : DataW.trod enc Tryz.prog w base spare held m1 3 (([v0, v1, v2, v3, v4].drop 4).take (Tryz.prog.cellsOf 3)) = ys[3]? := hg 3 _ rfl
      rw [c4] at k0
      rw [c3] at k1 k3
      rw [c37] at k2
      have hy : ys.length = 4 := hyl
      match ys, hy with
      | [y0, y1, y2, y3], _ =>
        have k0 : DataW.trod enc Tryz.prog w base spare held m1 4 [v0] = some y0 := k0
        have k1 : DataW.trod enc Tryz.prog w base spare held m1 3 [v1] = some y1 := k1
        have k2 : DataW.trod enc Tryz.prog w base spare held m1 37 [v2, v3] = some y2 := k2
        have k3 : DataW.trod enc Tryz.prog w base spare held m1 3 [v4] = some y3 := k3
        obtain ⟨zs, m2, _, _, _, hzl, hz⟩ := DataW.trod_struct Tryz.underlying37 k2
        have l0 : DataW.trod enc Tryz.prog w base spare held m2 35 (([v2, v3].drop 0).take (Tryz.prog.cellsOf 35)) = zs[0]? := hz 0 _ rfl
        have l1 : DataW.trod enc Tryz.prog w base spare held m2 3 (([v2, v3].drop 1).take (Tryz.prog.cellsOf 3)) = zs[1]? := hz 1 _ rfl
        rw [c35] at l0
        rw [c3] at l1
        have hz2 : zs.length = 2 := hzl
        match zs, hz2 with
        | [z0, z1], _ =>
          have l0 : DataW.trod enc Tryz.prog w base spare held m2 35 [v2] = some z0 := l0
          have l1 : DataW.trod enc Tryz.prog w base spare held m2 3 [v3] = some z1 := l1
          obtain ⟨b, e0, _⟩ := DataW.trod_bool Tryz.underlying4 k0
          obtain ⟨n1, e1, _, _⟩ := DataW.trod_int Tryz.underlying3 k1
          obtain ⟨n2, e2, _, w2⟩ := DataW.trod_int Tryz.underlying35 l0
          obtain ⟨n3, e3, _, _⟩ := DataW.trod_int Tryz.underlying3 l1
          obtain ⟨n4, e4, _, _⟩ := DataW.trod_int Tryz.underlying3 k3
          obtain ⟨n5, e5, _, _⟩ := DataW.trod_int Tryz.underlying23 g1
          obtain ⟨n6, e6, _, w6⟩ := DataW.trod_int Tryz.underlying40 g2
          simp only [List.cons.injEq, and_true] at e0 e1 e2 e3 e4 e5 e6
          subst e0 e1 e2 e3 e4 e5 e6
          simp [Lit.wf, IntKind.min, IntKind.max, IntKind.signed, IntKind.bits] at w2 w6
          obtain ⟨a2, rfl⟩ := Int.eq_ofNat_of_zero_le (show 0 ≤ n2 by omega)
          obtain ⟨a6, rfl⟩ := Int.eq_ofNat_of_zero_le (show 0 ≤ n6 by omega)
          exact ⟨⟨b, n1, a2, n3, n4, n5, a6⟩, rfl, by show a2 < 256; omega, by show a6 < 18446744073709551616; omega⟩
end
theorem gDb : Tryz.prog.globalNamed "math/bits.deBruijn64tab" = some 0 := by kernel_rfl
theorem tDb : (Tryz.prog.globals[0]?).map (·.type) = some 456 := by kernel_rfl
def tabN : List Nat := tab.map fun v => match v with | .int _ (.ofNat n) => n | _ => 0
theorem of_laid {W : World} (h : laidMetH Tryz.prog YtphkjlkgfcjbmaaGreatDoor.Rows.traceBackRow.laid W) : ∃ c t fz, W.heap[0]? = some (.cells c t fz) ∧ c.size = 64 ∧ ∀ (i : Nat) (v : Value), tab[i]? = some v → c[i]? = some v := by
  rw [MakeChecks.laidMetH_plain _ _ _ (by kernel_rfl)] at h
  obtain ⟨ps, ⟨g0, t0, cs0, f0, p0, q0, hg0, ht0, hv0, hd0, _, _⟩, _, _⟩ := h
  obtain rfl := Option.some.inj (gDb.symm.trans hg0)
  obtain rfl := Option.some.inj (tDb.symm.trans ht0)
  obtain ⟨xs, m1, _, hx1, hlen, hn, hel⟩ := DataW.trod_array Tryz.underlying456 hd0
  have c456 : Tryz.prog.cellsOf 456 = 64 := by kernel_rfl
  rw [c456] at hlen
  have hheap : ∃ t fz, W.heap[0]? = some (.cells cs0 t fz) := by
    unfold World.var? at hv0
    rw [gDb] at hv0
    simp only [Option.bind_some] at hv0
    split at hv0
    · rename_i cs t fz he
      cases hv0
      exact ⟨t, fz, he⟩
    · cases hv0
  obtain ⟨t, fz, he⟩ := hheap
  refine ⟨cs0, t, fz, he, by simpa using hlen, fun i v hv => ?_⟩
  have hi : i < 64 := by
    have := (List.getElem?_eq_some_iff.1 hv).1
    exact this
  have hcl : i < cs0.toList.length := by omega
  have e1 := hel i hi
  have hxi : i < xs.length := by omega
  rw [c5, Nat.mul_one, List.getElem?_eq_getElem hxi] at e1
  obtain ⟨k, e2, e3, _⟩ := DataW.trod_int Tryz.underlying5 e1
  have hcell : cs0[i]? = some (.int .u8 k) := by
    have e4 : ((cs0.toList.drop i).take 1)[0]? = cs0.toList[i]? := by
      rw [List.getElem?_take, if_pos (by omega), List.getElem?_drop, Nat.add_zero]
    rw [e2] at e4
    simpa using e4.symm
  rw [hcell]
  -- the datum's place
  have hdat : ∀ j, j < 64 → ((tabN.map fun (n : Nat) => (DataW.lit (Lit.int .u8 (n : Int)) : DataW Unit))[j]?) = (xs.map (·.1))[j]? := by
    have e5 : YtphkjlkgfcjbmaaGreatDoor.Rows.laid_math_bits_deBruijn64tab = (DataW.agg (tabN.map fun (n : Nat) => (DataW.lit (Lit.int .u8 (n : Int)) : DataW Unit))) := rfl
    have e6 : (DataW.agg (tabN.map fun (n : Nat) => (DataW.lit (Lit.int .u8 (n : Int)) : DataW Unit))) = DataW.agg (xs.map (·.1)) := by
      rw [← e5]; exact congrArg Prod.fst hx1
    intro j _
    rw [DataW.agg.inj e6]
  have hd := hdat i hi
  rw [List.getElem?_map, List.getElem?_map, List.getElem?_eq_getElem hxi] at hd
  have htab : tab[i]? = (tabN[i]?).map fun n => Value.int .u8 (.ofNat n) := by
    have e7 : tab = tabN.map fun n => Value.int .u8 (.ofNat n) := rfl
    rw [← List.getElem?_map, ← e7]
  rw [hv] at htab
  cases hn' : tabN[i]? with
  | none => rw [hn'] at htab; cases htab
  | some n =>
    rw [hn'] at htab hd
    simp only [Option.map_some, Option.some.injEq] at htab hd
    rw [e3] at hd
    simp only [DataW.lit.injEq, Lit.int.injEq, true_and] at hd
    rw [htab, ← hd]
    rfl
end T
set_option linter.unusedVariables false
open Go Go.Ev Go.Proofs
open Go.ChangeShapes Go.WideShapes
namespace T
set_option maxRecDepth 100000
theorem add_at {b off k : Nat} : (⟨b, off, none⟩ : Addr).add k = ⟨b, off + k, none⟩ := by
  unfold Addr.add
  split
  · rename_i h; subst h; rfl
  · rfl
theorem cells_plain (nt : Nt) : plains nt.cells = true := rfl
theorem tab_plain : plains tab = true := rfl
theorem tab_len : tab.length = 64 := rfl
theorem tab_int {i : Nat} {v : Value} (h : tab[i]? = some v) : ∃ n, v = .int .u8 n := by
  have e7 : tab = tabN.map fun n => Value.int .u8 (.ofNat n) := rfl
  rw [e7, List.getElem?_map] at h
  cases hn : tabN[i]? with
  | none => rw [hn] at h; cases h
  | some n => rw [hn] at h; cases h; exact ⟨_, rfl⟩
def sgW (b off : Nat) : Sg := ⟨fun n => if n = 0 then some (0, 0, 0) else if n = 1 then some (b, off, 0) else none⟩
def Tab (W : World) : Prop := ∃ c t fz, W.heap[0]? = some (.cells c t fz) ∧ c.size = 64 ∧ ∀ (i : Nat) (v : Value), tab[i]? = some v → c[i]? = some v
theorem tab_BR {σ : Sg} {c : Array Value} {t : TypeId} {fz : Nat × Nat} (hs : c.size = 64) (hv : ∀ (i : Nat) (v : Value), tab[i]? = some v → c[i]? = some v) : BR E σ (.fixed 1 64 (.node .leaf (some tab) .leaf)) 0 0 (.cells c t fz) := by
  refine .fixed (by omega) fun i l hi hl => ?_
  have e : i = 0 := by omega
  subst e
  rw [Tr.get_zero] at hl
  cases hl
  refine ⟨rfl, fun j x hx => ⟨x, by rw [show 0 + (0 * 64 + j) = j from by omega]; exact hv j x hx, plain_VR (plains_mem tab_plain x (List.mem_of_getElem? hx)) σ⟩⟩
noncomputable def blkW (rows : List Cells) : Option Blk := match rows with | [] => none | _ => some (.fixed rows.length 7 (Tr.ofList rows))
noncomputable def hW (rows : List Cells) : Heap := ⟨2, h0.b.put (blkW rows) 1⟩
theorem hW_b (rows : List Cells) : (hW rows).b = h0.b.put (blkW rows) 1 := rfl
theorem hW_0 (rows : List Cells) : (hW rows).b.get 0 = h0.b.get 0 := by rw [hW_b]; exact Tr.get_put_ne _ _ _ (by decide)
theorem h0_0 : h0.b.get 0 = some (.fixed 1 64 (.node .leaf (some tab) .leaf)) := rfl
theorem hW_get {rows : List Cells} {n : Nat} {B : Blk} (h : (hW rows).b.get n = some B) : (n = 0 ∧ B = .fixed 1 64 (.node .leaf (some tab) .leaf)) ∨ (n = 1 ∧ rows ≠ [] ∧ B = .fixed rows.length 7 (Tr.ofList rows)) := by
  rw [hW_b] at h
  rcases Tr.get_put _ _ _ _ h with ⟨e, e2⟩ | ⟨e, e2⟩
  · cases rows with
    | nil => cases e2
    | cons r rs => cases e2; exact .inr ⟨e, by simp, rfl⟩
  · have := h0_get e2
    subst this
    rw [h0_0] at e2
    cases e2
    exact .inl ⟨rfl, rfl⟩
theorem hr_of {W : World} {nts : List Nt} {b off : Nat} (ht : Tab W) (hc : ∀ (i j : Nat) (nt : Nt) (x : Value), nts[i]? = some nt → nt.cells[j]? = some x → W.cell? ⟨b, off + (i * 7 + j), none⟩ = some x) : HR E (sgW b off) (hW (nts.map Nt.cells)) W := by
  obtain ⟨c, t, fz, h1, h2, h3⟩ := ht
  have hcell : ∀ o x, W.cell? ⟨b, o, none⟩ = some x → ∃ arr e fz, W.heap[b]? = some (.cells arr e fz) ∧ arr[o]? = some x := fun o x hx => by
    unfold World.cell? at hx
    split at hx
    · rename_i arr e fz he
      exact ⟨arr, e, fz, he, by simpa using hx⟩
    · cases hx
  have hlive1 : nts ≠ [] → ∃ arr e fz, W.heap[b]? = some (.cells arr e fz) ∧ BR E (sgW b off) (.fixed (nts.map Nt.cells).length 7 (Tr.ofList (nts.map Nt.cells))) off 0 (.cells arr e fz) ∧ ∃ th, arr[off]? = some (.bool th) := fun hne => by
    obtain ⟨n0, hn0⟩ : ∃ n0, nts[0]? = some n0 := by cases nts with | nil => exact absurd rfl hne | cons a l => exact ⟨a, rfl⟩
    obtain ⟨arr, e, fz, ha, ha0⟩ := hcell _ _ (hc 0 0 n0 _ hn0 rfl)
    have hall : ∀ (i j : Nat) (nt : Nt) (x : Value), nts[i]? = some nt → nt.cells[j]? = some x → arr[off + (i * 7 + j)]? = some x := fun i j nt x hi hj => by
      obtain ⟨arr2, e2, fz2, hb, hb2⟩ := hcell _ _ (hc i j nt x hi hj)
      rw [ha] at hb; cases hb
      exact hb2
    have hpos : 0 < nts.length := List.length_pos_iff.2 hne
    have hlast : off + nts.length * 7 ≤ arr.size := by
      have := hall (nts.length - 1) 6 nts[nts.length - 1] _ (by simp) rfl
      have := (Array.getElem?_eq_some_iff.1 this).1
      omega
    refine ⟨arr, e, fz, ha, .fixed (by simpa using hlast) fun i l hi hl => ?_, n0.th, by simpa using ha0⟩
    rw [Tr.get_ofList_eq, List.getElem?_map] at hl
    cases hn : nts[i]? with
    | none => rw [hn] at hl; cases hl
    | some nt =>
      rw [hn] at hl; cases hl
      exact ⟨rfl, fun j x hx => ⟨x, hall i j nt x hn hx, plain_VR (plains_mem (cells_plain nt) x (List.mem_of_getElem? hx)) _⟩⟩
  refine ⟨fun n B hB => ?_, fun n m B C b1 x y hB hC hx hy => ?_⟩
  · rcases hW_get hB with ⟨rfl, rfl⟩ | ⟨rfl, hne, rfl⟩
    · exact ⟨0, 0, 0, _, rfl, h1, tab_BR h2 h3⟩
    · obtain ⟨arr, e, fz, ha, hbr, _⟩ := hlive1 (fun e => hne (by rw [e]; rfl))
      exact ⟨b, off, 0, _, rfl, ha, hbr⟩
  · have apart : nts ≠ [] → b ≠ 0 := fun hne e => by
      obtain ⟨arr, e2, fz2, ha, _, th, hth⟩ := hlive1 hne
      rw [e, h1] at ha
      cases ha
      have hlt := (Array.getElem?_eq_some_iff.1 hth).1
      obtain ⟨v, hv⟩ : ∃ v, tab[off]? = some v := ⟨tab[off]'(by rw [tab_len]; omega), List.getElem?_eq_getElem _⟩
      obtain ⟨k, rfl⟩ := tab_int hv
      rw [h3 off _ hv] at hth
      cases hth
    rcases hW_get hB with ⟨rfl, _⟩ | ⟨rfl, hne, _⟩ <;> rcases hW_get hC with ⟨rfl, _⟩ | ⟨rfl, hne', _⟩
    · rfl
    · have h8 : some (0, 0, 0) = some (b1, x) := hx
      have h9 : some (b, off, 0) = some (b1, y) := hy
      cases h8; cases h9
      exact absurd rfl (apart (fun e => hne' (by rw [e]; rfl)))
    · have h8 : some (0, 0, 0) = some (b1, y) := hy
      have h9 : some (b, off, 0) = some (b1, x) := hx
      cases h8; cases h9
      exact absurd rfl (apart (fun e => hne (by rw [e]; rfl)))
    · rfl
theorem gokW (b off : Nat) : GOK E (sgW b off) := fun g hg => by
  have : g = 0 := by have hg : g < 1 := hg; omega
  subst this; rfl
/-- **The call.** -/
theorem calls4 (hlv : ∃ h', Leaves Tryz.prog E 11 [] h0 (.bool true) h') {W : World} (ht : Tab W) {nts : List Nt} {b off len cap : Nat} {a : Option Addr} {s : ByteArray} (htyped : ∀ m ∈ nts, m.typed) (hlen : nts.length = len) (hs : s.size < 9223372036854775808) (hcap : cap < BIG)
    (ha : (a = none ∧ len = 0 ∧ cap = 0) ∨ a = some ⟨b, off, none⟩) (hc : ∀ (i j : Nat) (nt : Nt) (x : Value), nts[i]? = some nt → nt.cells[j]? = some x → W.cell? ⟨b, off + (i * 7 + j), none⟩ = some x) :
    Calls Tryz.prog 4 #[.slice a len cap, .string s] W fun e W' => e = .returned (.bool true) ∧ W.heap.size ≤ W'.heap.size ∧ (∀ i, i < W.heap.size → W'.heap[i]? = W.heap[i]?) ∧ W'.os = W.os ∧ W'.tape = W.tape ∧ W'.output = W.output := by
  obtain ⟨hl, hlv⟩ := hlv
  have hov : FFOK Tryz.prog E ov := ovClosed_ok hlv laid0 rfl
  have hG : FFOK Tryz.prog E (G 5006) := evG_ok envOK hov 5006
  have hr := hr_of ht hc
  have hsl : s.data.toList.length < 9223372036854775808 := by simpa using hs
  have hstr : (⟨⟨s.data.toList⟩⟩ : ByteArray) = s := rfl
  obtain ⟨v, hv1, hv2, hv3⟩ : ∃ v, S.RowsAt (hW (nts.map Nt.cells)) 7 v (nts.map Nt.cells) ∧ Within (hW (nts.map Nt.cells)) v ∧ VR (sgW b off) v (.slice a len cap) := by
    rcases ha with ⟨rfl, rfl, rfl⟩ | rfl
    · have e : nts = [] := List.eq_nil_of_length_eq_zero hlen
      subst e
      exact ⟨.slice none 0 0, ⟨none, 0, rfl, .inl rfl⟩, fun q o n c e => (by cases e), .nilSlice 0 0 (Nat.zero_lt_succ _)⟩
    · refine ⟨.slice (some ⟨1, 0, none⟩) len cap, ⟨_, cap, by rw [List.length_map, hlen], ?_⟩, fun q o n c e => (by cases e; exact (by decide : 1 < 2)), .slice ⟨b, off, 0, rfl, rfl, rfl⟩ (.inl ⟨hcap, rfl⟩)⟩
      cases hn : nts with
      | nil => exact .inl rfl
      | cons r rs =>
        refine .inr ⟨1, 0, (nts.map Nt.cells).length, Tr.ofList (nts.map Nt.cells), rfl, .inr ?_, by rw [hn]; omega, fun k hk => by rw [Nat.zero_add, Tr.get_ofList_eq, hn]⟩
        rw [hn, hW_b]
        exact Tr.get_put_self _ _
  obtain ⟨h', hev⟩ := traceBack_ev (l := s.data.toList) hsl hv1 hv2 htyped (hW_0 _)
  obtain ⟨hn, _, hst⟩ := enterF_leaves (P := Tryz.prog) envOK (draw_ok envOK) hG hev
  obtain ⟨v', w', τ, hvr, g, hsteps⟩ := hst (sgW b off) W #[.slice a len cap, .string s] (gokW b off) hr (LR.cons hv3 (LR.cons (by rw [hstr]; exact .string s) (LR.nil _))) (fun m h1 h2 => by
    have h1 : 2 ≤ m := h1
    show (if m = 0 then _ else if m = 1 then _ else none) = none
    rw [if_neg (by omega), if_neg (by omega)])
  intro cs
  obtain ⟨fr, s1, l1, n1⟩ := hsteps cs
  rw [hvr.bool_inv] at l1
  refine ⟨.returned (.bool true), w', fr, ⟨rfl, g.size, fun i hi => g.keep i hi fun m B x hB hf => ?_, g.os, g.tape, g.output⟩, s1, n1, l1⟩
  rcases hW_get hB with ⟨_, rfl⟩ | ⟨_, _, rfl⟩ <;> cases hf
end T
