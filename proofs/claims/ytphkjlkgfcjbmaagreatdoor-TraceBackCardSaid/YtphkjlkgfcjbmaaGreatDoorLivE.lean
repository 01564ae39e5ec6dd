/- lives answers true, given that its two pieces run as they should. -/
import Derived.Test.YtphkjlkgfcjbmaaGreatDoorLivL
import Derived.Test.YtphkjlkgfcjbmaaGreatDoorTabK
import Derived.Test.YtphkjlkgfcjbmaaGreatDoorEvE
set_option linter.all false
open Go Go.Ev Go.Proofs
namespace T
set_option maxRecDepth 100000
noncomputable def rs11 : List RV := match p11 with | some p => p.rs | none => []
theorem pf11 : pf E 11 = some ⟨M11, some c11, rs11⟩ := by kernel_rfl
noncomputable def isS (r : R) : Bool := match r with | some _ => true | none => false
theorem isS_inv {r : R} (h : isS r = true) : ∃ x, r = some x := by cases r with | none => cases h | some x => exact ⟨x, rfl⟩
theorem good_inv {r : R} (h : good r = true) : ∃ h', r = some (.val (.bool true) h') := by
  unfold good at h
  split at h
  · subst h; exact ⟨_, rfl⟩
  · cases h
theorem laid0 : Laid E h0 := by
  refine ⟨Nat.le_refl _, fun n B hB => ?_⟩
  rcases Tr.get_put _ _ _ _ (show (Tr.put (some (Blk.fixed 1 64 (.node .leaf (some tab) .leaf))) .leaf 0).get n = some B from hB) with ⟨e, e2⟩ | ⟨_, h⟩
  · cases e2; subst e
    refine ⟨Nat.one_pos, 1, 64, _, rfl, fun i l hl => ?_⟩
    cases i with
    | zero => cases hl; decide
    | succ i => rw [Tr.get_succ] at hl; split at hl <;> cases hl
  · cases h
theorem lives_of (ha : isS (evN E M11 5 c11 cx11 s11 (fun _ s => L1.chk s (some (.st .normal s11)))) = true) (hb : good (evC E M11 (restN 5 c11) cx11 L1.st (fnK rs11)) = true) :
    ∃ h', Leaves Tryz.prog E 11 [] h0 (.bool true) h' := by
  have hF : FFOK Tryz.prog E cx11.F := evF_ok envOK (draw_ok envOK) 1000
  obtain ⟨x, hx⟩ := isS_inv ha
  obtain ⟨h', hy⟩ := good_inv hb
  have hM : M11.ng = E.ng := by kernel_rfl
  obtain ⟨hn, hg⟩ := piece (P := Tryz.prog) envOK hM hF (fun p' hp' => by rw [show cx11.fn = 11 from rfl, pf11] at hp'; cases hp'; rfl) hx
  obtain ⟨o, s', ho, g, hn2, hd⟩ := last_piece (P := Tryz.prog) envOK pf11 (cx := cx11) hF rfl hy
  exact ⟨h', leaves_of_go2 envOK pf11 rfl (Nat.zero_le _) ho (hg o s' hn2 g) (Nat.le_trans hn hn2) hd⟩
end T
