/- small, ContainsFunc, IndexFunc, flag, bytesOf and AppendSeq run over what is not known; conditions stand at each. -/
import Derived.Test.YtphkjlkgfcjbmaaGreatDoorCodP
import Derived.Test.YtphkjlkgfcjbmaaGreatDoorEvF
set_option linter.all false
set_option linter.unusedVariables false
set_option linter.unusedSimpArgs false
open Go Go.Ev Go.Proofs
namespace T
set_option maxRecDepth 100000
theorem wrap64 {n : Nat} (h : n < 9223372036854775808) : IntKind.i64.wrap (Int.ofNat n) = Int.ofNat n := by
  simp only [IntKind.wrap, IntKind.bits, IntKind.signed, Int.ofNat_eq_natCast]; simp; omega
theorem bump {i : Nat} (h : i + 1 < 9223372036854775808) : IntKind.i64.wrap (Int.ofNat i + Int.ofNat 1) = Int.ofNat (i + 1) := wrap64 h
theorem ltNat {i n : Nat} : decide (Int.ofNat i < Int.ofNat n) = decide (i < n) := by
  have : (Int.ofNat i < Int.ofNat n) ↔ i < n := Int.ofNat_lt
  simp only [this]
def bad (k : Int) : Bool := decide (k < 0) || decide (255 < k)
theorem run25 (F : FF) (h : Heap) (n : Nat) (k : Int) : enterF E F 25 [.int .i64 k] h n = some (.val (.bool (bad k)) h) := by
  rw [enterF_eq pfn25 (by simp [M25])]
  show evP P25 ⟨F, none, 25, n⟩ ⟨argsT [.int .i64 k] 0 .leaf, [], h⟩ (fnK R25) = _
  unfold P25 R25 bad
  have e0 : (k < Int.ofNat 0) = (k < 0) := rfl
  have e1 : (Int.ofNat 255 < k) = (255 < k) := rfl
  by_cases h0 : k < 0
  · simp only [↓S.skip, ↓S.seq, ↓S.reg, ↓S.cond, ↓S.block, ↓S.loop, ↓S.exit, ↓S.ret, ↓S.seqK_n, ↓S.seqK_e, ↓S.seqK_r, ↓S.blockK_n, ↓S.blockK_r, ↓S.blockK_e, ↓S.ops_nil, ↓S.ops_cons, ↓S.ops_gt, ↓S.ops_gf, ↓S.put_non, ↓S.put_loc, ↓S.put_frm, ↓S.o_loc, ↓S.o_frm, ↓S.o_const, ↓S.first_cons, ↓S.l_nil, ↓S.l_cons, ↓S.op_none, ↓S.op_some, ↓S.move, ↓S.pick, ↓S.alloc, ↓S.box, ↓S.build, ↓S.buildSlice, ↓S.load, ↓S.store, ↓S.nil_, ↓S.bin, ↓S.un, ↓S.conv, ↓S.func, ↓S.makeSlice, ↓S.strSlice, ↓S.fieldAddr, ↓S.field, ↓S.indexSl, ↓S.indexStr, ↓S.extract, ↓S.len, ↓S.lenStr, ↓S.min, ↓S.append, ↓S.call, ↓S.some_, ↓S.oc_some, ↓S.oc_none, ↓S.bT_t, ↓S.bI_t, ↓S.bI_f, ↓S.nC_0, ↓S.nC_s, ↓S.lc_nil, ↓S.lc_cons, ↓S.g_bool, ↓S.g_undef, ↓S.v_int, ↓S.v_bool, ↓S.v_ptr, ↓S.v_slice, ↓S.v_str, ↓S.v_agg, ↓S.v_tuple, ↓S.v_func, ↓S.r_val, ↓S.f_int, ↓S.f_bool, ↓S.f_ptr, ↓S.f_slice, ↓S.f_agg, ↓S.spot_, ↓S.nat_k, ↓S.nat_i, ↓S.ptr_k, ↓S.int_op, ↓S.sh_op, ↓S.add, ↓S.sub, ↓S.mul, ↓S.lss, ↓S.gtr, ↓S.leq, ↓S.geq, ↓S.eqi, ↓S.nei, ↓S.not_, ↓S.convi, ↓S.fn_n, ↓S.fn_r, ↓S.done_nil, ↓S.res_nil, ↓S.res_tmp, ↓S.res_cell, ↓S.res_0, ↓S.res_1, ↓S.res_2, ↓S.args_nil, ↓S.args_cons, Tr.get_put_eq, if_true, if_false, ↓reduceIte, List.nil_append, Nat.reduceEqDiff, Nat.reduceSucc, Nat.zero_add, Nat.reduceAdd, Nat.reduceMul, Nat.zero_ne_one, Nat.one_ne_zero, Bool.not_true, Bool.not_false, ↓e0, ↓h0, ↓decide_true, ↓decide_false]
    rfl
  · by_cases h1 : 255 < k <;> (simp only [↓S.skip, ↓S.seq, ↓S.reg, ↓S.cond, ↓S.block, ↓S.loop, ↓S.exit, ↓S.ret, ↓S.seqK_n, ↓S.seqK_e, ↓S.seqK_r, ↓S.blockK_n, ↓S.blockK_r, ↓S.blockK_e, ↓S.ops_nil, ↓S.ops_cons, ↓S.ops_gt, ↓S.ops_gf, ↓S.put_non, ↓S.put_loc, ↓S.put_frm, ↓S.o_loc, ↓S.o_frm, ↓S.o_const, ↓S.first_cons, ↓S.l_nil, ↓S.l_cons, ↓S.op_none, ↓S.op_some, ↓S.move, ↓S.pick, ↓S.alloc, ↓S.box, ↓S.build, ↓S.buildSlice, ↓S.load, ↓S.store, ↓S.nil_, ↓S.bin, ↓S.un, ↓S.conv, ↓S.func, ↓S.makeSlice, ↓S.strSlice, ↓S.fieldAddr, ↓S.field, ↓S.indexSl, ↓S.indexStr, ↓S.extract, ↓S.len, ↓S.lenStr, ↓S.min, ↓S.append, ↓S.call, ↓S.some_, ↓S.oc_some, ↓S.oc_none, ↓S.bT_t, ↓S.bI_t, ↓S.bI_f, ↓S.nC_0, ↓S.nC_s, ↓S.lc_nil, ↓S.lc_cons, ↓S.g_bool, ↓S.g_undef, ↓S.v_int, ↓S.v_bool, ↓S.v_ptr, ↓S.v_slice, ↓S.v_str, ↓S.v_agg, ↓S.v_tuple, ↓S.v_func, ↓S.r_val, ↓S.f_int, ↓S.f_bool, ↓S.f_ptr, ↓S.f_slice, ↓S.f_agg, ↓S.spot_, ↓S.nat_k, ↓S.nat_i, ↓S.ptr_k, ↓S.int_op, ↓S.sh_op, ↓S.add, ↓S.sub, ↓S.mul, ↓S.lss, ↓S.gtr, ↓S.leq, ↓S.geq, ↓S.eqi, ↓S.nei, ↓S.not_, ↓S.convi, ↓S.fn_n, ↓S.fn_r, ↓S.done_nil, ↓S.res_nil, ↓S.res_tmp, ↓S.res_cell, ↓S.res_0, ↓S.res_1, ↓S.res_2, ↓S.args_nil, ↓S.args_cons, Tr.get_put_eq, if_true, if_false, ↓reduceIte, List.nil_append, Nat.reduceEqDiff, Nat.reduceSucc, Nat.zero_add, Nat.reduceAdd, Nat.reduceMul, Nat.zero_ne_one, Nat.one_ne_zero, Bool.not_true, Bool.not_false, ↓e0, ↓e1, ↓h0, ↓h1, ↓decide_true, ↓decide_false, ↓Bool.false_or]; done)


theorem loop38 {F : FF} {h : Heap} {L : List Int} {b c fu : Nat} {K : K} (hA : ∀ i x, L[i]? = some x → S.RowAt h b i [.int .i64 x]) (hF : ∀ x, F (.func 25) [.int .i64 x] [] h = some (.val (.bool (bad x)) h)) (hlen : L.length < 9223372036854775807) :
    ∀ (d i m : Nat) (T : Tr Value) (D : List Deferred), L.length = i + d → d < m → T.get 0 = some (.slice (some ⟨b, 0, none⟩) L.length c) → T.get 1 = some (.func (.func 25) #[] #[]) → T.get 7 = some (.int .i64 (.ofNat L.length)) → T.get 8 = some (.int .i64 (.ofNat i)) →
      (∃ T', loopS (evP L38_0) ⟨F, none, 38, fu⟩ K m ⟨T, D, h⟩ = K (.exit 0) ⟨T', D, h⟩ ∧ (L.drop i).any bad = false) ∨
      (∃ T' j, loopS (evP L38_0) ⟨F, none, 38, fu⟩ K m ⟨T, D, h⟩ = K .ret ⟨T', D, h⟩ ∧ T'.get 4 = some (.int .i64 (.ofNat j)) ∧ (L.drop i).any bad = true) := by
  intro d
  induction d with
  | zero =>
    intro i m T D hi hm h0 h1 h7 h8
    obtain ⟨m, rfl⟩ : ∃ q, m = q + 1 := ⟨m - 1, by omega⟩
    have hlt : decide (i < L.length) = false := by simp; omega
    refine .inl ⟨T.put (some (.bool false)) 9, ?_, by rw [List.drop_of_length_le (by omega)]; rfl⟩
    rw [S.loop1]
    unfold L38_0
    simp only [↓S.skip, ↓S.seq, ↓S.reg, ↓S.cond, ↓S.block, ↓S.loop, ↓S.exit, ↓S.ret, ↓S.seqK_n, ↓S.seqK_e, ↓S.seqK_r, ↓S.blockK_n, ↓S.blockK_r, ↓S.blockK_e, ↓S.ops_nil, ↓S.ops_cons, ↓S.ops_gt, ↓S.ops_gf, ↓S.put_non, ↓S.put_loc, ↓S.put_frm, ↓S.o_loc, ↓S.o_frm, ↓S.o_const, ↓S.first_cons, ↓S.l_nil, ↓S.l_cons, ↓S.op_none, ↓S.op_some, ↓S.move, ↓S.pick, ↓S.alloc, ↓S.box, ↓S.build, ↓S.buildSlice, ↓S.load, ↓S.store, ↓S.nil_, ↓S.bin, ↓S.un, ↓S.conv, ↓S.func, ↓S.makeSlice, ↓S.strSlice, ↓S.fieldAddr, ↓S.field, ↓S.indexSl, ↓S.indexStr, ↓S.extract, ↓S.len, ↓S.lenStr, ↓S.min, ↓S.append, ↓S.call, ↓S.some_, ↓S.oc_some, ↓S.oc_none, ↓S.bT_t, ↓S.bI_t, ↓S.bI_f, ↓S.nC_0, ↓S.nC_s, ↓S.lc_nil, ↓S.lc_cons, ↓S.g_bool, ↓S.g_undef, ↓S.v_int, ↓S.v_bool, ↓S.v_ptr, ↓S.v_slice, ↓S.v_str, ↓S.v_agg, ↓S.v_tuple, ↓S.v_func, ↓S.r_val, ↓S.f_int, ↓S.f_bool, ↓S.f_ptr, ↓S.f_slice, ↓S.f_agg, ↓S.spot_, ↓S.nat_k, ↓S.nat_i, ↓S.ptr_k, ↓S.int_op, ↓S.sh_op, ↓S.add, ↓S.sub, ↓S.mul, ↓S.lss, ↓S.gtr, ↓S.leq, ↓S.geq, ↓S.eqi, ↓S.nei, ↓S.not_, ↓S.convi, ↓S.fn_n, ↓S.fn_r, ↓S.done_nil, ↓S.res_nil, ↓S.res_tmp, ↓S.res_cell, ↓S.res_0, ↓S.res_1, ↓S.res_2, ↓S.args_nil, ↓S.args_cons, Tr.get_put_eq, if_true, if_false, ↓reduceIte, List.nil_append, Nat.reduceEqDiff, Nat.reduceSucc, Nat.zero_add, Nat.reduceAdd, Nat.reduceMul, Nat.zero_ne_one, Nat.one_ne_zero, Bool.not_true, Bool.not_false, ↓h0, ↓h1, ↓h7, ↓h8, ↓ltNat, ↓hlt, ↓S.loopK_e]
  | succ d ih =>
    intro i m T D hi hm h0 h1 h7 h8
    obtain ⟨m, rfl⟩ : ∃ q, m = q + 1 := ⟨m - 1, by omega⟩
    have hil : i < L.length := by omega
    have hlt : decide (i < L.length) = true := by simp; omega
    have hblt : Nat.blt i L.length = true := (blt_iff _ _).2 hil
    obtain ⟨x, hx⟩ : ∃ x, L[i]? = some x := ⟨L[i], by simp [hil]⟩
    have hdrop : L.drop i = x :: L.drop (i + 1) := by rw [List.drop_eq_getElem_cons hil]; congr 1; rw [List.getElem?_eq_getElem hil] at hx; exact Option.some.inj hx
    have hl : ∀ f : KV, loadE (some none) h ⟨b, Nat.mul i 1, none⟩ f = f (.int .i64 x) := fun f => by
      have := (hA i x hx).cell (j := 0) (f := f) rfl
      simpa using this
    have hF' : F (.func 25) ([.int .i64 x]) [] h = some (.val (.bool (bad x)) h) := hF x
    have hw := bump (i := i) (by omega)
    cases hbx : bad x with
    | true =>
      rw [hbx] at hF'
      have key : ∃ T', loopS (evP L38_0) ⟨F, none, 38, fu⟩ K (m + 1) ⟨T, D, h⟩ = K .ret ⟨T', D, h⟩ ∧ T'.get 4 = some (.int .i64 (.ofNat i)) := by
       apply Exists.intro
       apply And.intro
       · rw [S.loop1]
         unfold L38_0
         simp only [↓S.skip, ↓S.seq, ↓S.reg, ↓S.cond, ↓S.block, ↓S.loop, ↓S.exit, ↓S.ret, ↓S.seqK_n, ↓S.seqK_e, ↓S.seqK_r, ↓S.blockK_n, ↓S.blockK_r, ↓S.blockK_e, ↓S.ops_nil, ↓S.ops_cons, ↓S.ops_gt, ↓S.ops_gf, ↓S.put_non, ↓S.put_loc, ↓S.put_frm, ↓S.o_loc, ↓S.o_frm, ↓S.o_const, ↓S.first_cons, ↓S.l_nil, ↓S.l_cons, ↓S.op_none, ↓S.op_some, ↓S.move, ↓S.pick, ↓S.alloc, ↓S.box, ↓S.build, ↓S.buildSlice, ↓S.load, ↓S.store, ↓S.nil_, ↓S.bin, ↓S.un, ↓S.conv, ↓S.func, ↓S.makeSlice, ↓S.strSlice, ↓S.fieldAddr, ↓S.field, ↓S.indexSl, ↓S.indexStr, ↓S.extract, ↓S.len, ↓S.lenStr, ↓S.min, ↓S.append, ↓S.call, ↓S.some_, ↓S.oc_some, ↓S.oc_none, ↓S.bT_t, ↓S.bI_t, ↓S.bI_f, ↓S.nC_0, ↓S.nC_s, ↓S.lc_nil, ↓S.lc_cons, ↓S.g_bool, ↓S.g_undef, ↓S.v_int, ↓S.v_bool, ↓S.v_ptr, ↓S.v_slice, ↓S.v_str, ↓S.v_agg, ↓S.v_tuple, ↓S.v_func, ↓S.r_val, ↓S.f_int, ↓S.f_bool, ↓S.f_ptr, ↓S.f_slice, ↓S.f_agg, ↓S.spot_, ↓S.nat_k, ↓S.nat_i, ↓S.ptr_k, ↓S.int_op, ↓S.sh_op, ↓S.add, ↓S.sub, ↓S.mul, ↓S.lss, ↓S.gtr, ↓S.leq, ↓S.geq, ↓S.eqi, ↓S.nei, ↓S.not_, ↓S.convi, ↓S.fn_n, ↓S.fn_r, ↓S.done_nil, ↓S.res_nil, ↓S.res_tmp, ↓S.res_cell, ↓S.res_0, ↓S.res_1, ↓S.res_2, ↓S.args_nil, ↓S.args_cons, Tr.get_put_eq, if_true, if_false, ↓reduceIte, List.nil_append, Nat.reduceEqDiff, Nat.reduceSucc, Nat.zero_add, Nat.reduceAdd, Nat.reduceMul, Nat.zero_ne_one, Nat.one_ne_zero, Bool.not_true, Bool.not_false, ↓h0, ↓h1, ↓h7, ↓h8, ↓ltNat, ↓hlt, ↓hblt, ↓hl, ↓hF', ↓S.loopK_r]
         rfl
       · simp only [↓S.skip, ↓S.seq, ↓S.reg, ↓S.cond, ↓S.block, ↓S.loop, ↓S.exit, ↓S.ret, ↓S.seqK_n, ↓S.seqK_e, ↓S.seqK_r, ↓S.blockK_n, ↓S.blockK_r, ↓S.blockK_e, ↓S.ops_nil, ↓S.ops_cons, ↓S.ops_gt, ↓S.ops_gf, ↓S.put_non, ↓S.put_loc, ↓S.put_frm, ↓S.o_loc, ↓S.o_frm, ↓S.o_const, ↓S.first_cons, ↓S.l_nil, ↓S.l_cons, ↓S.op_none, ↓S.op_some, ↓S.move, ↓S.pick, ↓S.alloc, ↓S.box, ↓S.build, ↓S.buildSlice, ↓S.load, ↓S.store, ↓S.nil_, ↓S.bin, ↓S.un, ↓S.conv, ↓S.func, ↓S.makeSlice, ↓S.strSlice, ↓S.fieldAddr, ↓S.field, ↓S.indexSl, ↓S.indexStr, ↓S.extract, ↓S.len, ↓S.lenStr, ↓S.min, ↓S.append, ↓S.call, ↓S.some_, ↓S.oc_some, ↓S.oc_none, ↓S.bT_t, ↓S.bI_t, ↓S.bI_f, ↓S.nC_0, ↓S.nC_s, ↓S.lc_nil, ↓S.lc_cons, ↓S.g_bool, ↓S.g_undef, ↓S.v_int, ↓S.v_bool, ↓S.v_ptr, ↓S.v_slice, ↓S.v_str, ↓S.v_agg, ↓S.v_tuple, ↓S.v_func, ↓S.r_val, ↓S.f_int, ↓S.f_bool, ↓S.f_ptr, ↓S.f_slice, ↓S.f_agg, ↓S.spot_, ↓S.nat_k, ↓S.nat_i, ↓S.ptr_k, ↓S.int_op, ↓S.sh_op, ↓S.add, ↓S.sub, ↓S.mul, ↓S.lss, ↓S.gtr, ↓S.leq, ↓S.geq, ↓S.eqi, ↓S.nei, ↓S.not_, ↓S.convi, ↓S.fn_n, ↓S.fn_r, ↓S.done_nil, ↓S.res_nil, ↓S.res_tmp, ↓S.res_cell, ↓S.res_0, ↓S.res_1, ↓S.res_2, ↓S.args_nil, ↓S.args_cons, Tr.get_put_eq, if_true, if_false, ↓reduceIte, List.nil_append, Nat.reduceEqDiff, Nat.reduceSucc, Nat.zero_add, Nat.reduceAdd, Nat.reduceMul, Nat.zero_ne_one, Nat.one_ne_zero, Bool.not_true, Bool.not_false]
      obtain ⟨T', e, e4⟩ := key
      exact .inr ⟨T', i, e, e4, by rw [hdrop]; simp [hbx]⟩
    | false =>
      rw [hbx] at hF'
      have key : ∃ T', loopS (evP L38_0) ⟨F, none, 38, fu⟩ K (m + 1) ⟨T, D, h⟩ = loopS (evP L38_0) ⟨F, none, 38, fu⟩ K m ⟨T', D, h⟩ ∧ T'.get 0 = T.get 0 ∧ T'.get 1 = T.get 1 ∧ T'.get 7 = T.get 7 ∧ T'.get 8 = some (.int .i64 (.ofNat (i + 1))) := by
        apply Exists.intro
        apply And.intro
        · rw [S.loop1]
          conv => lhs; unfold L38_0
          simp only [↓S.skip, ↓S.seq, ↓S.reg, ↓S.cond, ↓S.block, ↓S.loop, ↓S.exit, ↓S.ret, ↓S.seqK_n, ↓S.seqK_e, ↓S.seqK_r, ↓S.blockK_n, ↓S.blockK_r, ↓S.blockK_e, ↓S.ops_nil, ↓S.ops_cons, ↓S.ops_gt, ↓S.ops_gf, ↓S.put_non, ↓S.put_loc, ↓S.put_frm, ↓S.o_loc, ↓S.o_frm, ↓S.o_const, ↓S.first_cons, ↓S.l_nil, ↓S.l_cons, ↓S.op_none, ↓S.op_some, ↓S.move, ↓S.pick, ↓S.alloc, ↓S.box, ↓S.build, ↓S.buildSlice, ↓S.load, ↓S.store, ↓S.nil_, ↓S.bin, ↓S.un, ↓S.conv, ↓S.func, ↓S.makeSlice, ↓S.strSlice, ↓S.fieldAddr, ↓S.field, ↓S.indexSl, ↓S.indexStr, ↓S.extract, ↓S.len, ↓S.lenStr, ↓S.min, ↓S.append, ↓S.call, ↓S.some_, ↓S.oc_some, ↓S.oc_none, ↓S.bT_t, ↓S.bI_t, ↓S.bI_f, ↓S.nC_0, ↓S.nC_s, ↓S.lc_nil, ↓S.lc_cons, ↓S.g_bool, ↓S.g_undef, ↓S.v_int, ↓S.v_bool, ↓S.v_ptr, ↓S.v_slice, ↓S.v_str, ↓S.v_agg, ↓S.v_tuple, ↓S.v_func, ↓S.r_val, ↓S.f_int, ↓S.f_bool, ↓S.f_ptr, ↓S.f_slice, ↓S.f_agg, ↓S.spot_, ↓S.nat_k, ↓S.nat_i, ↓S.ptr_k, ↓S.int_op, ↓S.sh_op, ↓S.add, ↓S.sub, ↓S.mul, ↓S.lss, ↓S.gtr, ↓S.leq, ↓S.geq, ↓S.eqi, ↓S.nei, ↓S.not_, ↓S.convi, ↓S.fn_n, ↓S.fn_r, ↓S.done_nil, ↓S.res_nil, ↓S.res_tmp, ↓S.res_cell, ↓S.res_0, ↓S.res_1, ↓S.res_2, ↓S.args_nil, ↓S.args_cons, Tr.get_put_eq, if_true, if_false, ↓reduceIte, List.nil_append, Nat.reduceEqDiff, Nat.reduceSucc, Nat.zero_add, Nat.reduceAdd, Nat.reduceMul, Nat.zero_ne_one, Nat.one_ne_zero, Bool.not_true, Bool.not_false, ↓h0, ↓h1, ↓h7, ↓h8, ↓ltNat, ↓hlt, ↓hblt, ↓hl, ↓hF', ↓hw, ↓S.loopK_n]
          rfl
        · simp only [↓S.skip, ↓S.seq, ↓S.reg, ↓S.cond, ↓S.block, ↓S.loop, ↓S.exit, ↓S.ret, ↓S.seqK_n, ↓S.seqK_e, ↓S.seqK_r, ↓S.blockK_n, ↓S.blockK_r, ↓S.blockK_e, ↓S.ops_nil, ↓S.ops_cons, ↓S.ops_gt, ↓S.ops_gf, ↓S.put_non, ↓S.put_loc, ↓S.put_frm, ↓S.o_loc, ↓S.o_frm, ↓S.o_const, ↓S.first_cons, ↓S.l_nil, ↓S.l_cons, ↓S.op_none, ↓S.op_some, ↓S.move, ↓S.pick, ↓S.alloc, ↓S.box, ↓S.build, ↓S.buildSlice, ↓S.load, ↓S.store, ↓S.nil_, ↓S.bin, ↓S.un, ↓S.conv, ↓S.func, ↓S.makeSlice, ↓S.strSlice, ↓S.fieldAddr, ↓S.field, ↓S.indexSl, ↓S.indexStr, ↓S.extract, ↓S.len, ↓S.lenStr, ↓S.min, ↓S.append, ↓S.call, ↓S.some_, ↓S.oc_some, ↓S.oc_none, ↓S.bT_t, ↓S.bI_t, ↓S.bI_f, ↓S.nC_0, ↓S.nC_s, ↓S.lc_nil, ↓S.lc_cons, ↓S.g_bool, ↓S.g_undef, ↓S.v_int, ↓S.v_bool, ↓S.v_ptr, ↓S.v_slice, ↓S.v_str, ↓S.v_agg, ↓S.v_tuple, ↓S.v_func, ↓S.r_val, ↓S.f_int, ↓S.f_bool, ↓S.f_ptr, ↓S.f_slice, ↓S.f_agg, ↓S.spot_, ↓S.nat_k, ↓S.nat_i, ↓S.ptr_k, ↓S.int_op, ↓S.sh_op, ↓S.add, ↓S.sub, ↓S.mul, ↓S.lss, ↓S.gtr, ↓S.leq, ↓S.geq, ↓S.eqi, ↓S.nei, ↓S.not_, ↓S.convi, ↓S.fn_n, ↓S.fn_r, ↓S.done_nil, ↓S.res_nil, ↓S.res_tmp, ↓S.res_cell, ↓S.res_0, ↓S.res_1, ↓S.res_2, ↓S.args_nil, ↓S.args_cons, Tr.get_put_eq, if_true, if_false, ↓reduceIte, List.nil_append, Nat.reduceEqDiff, Nat.reduceSucc, Nat.zero_add, Nat.reduceAdd, Nat.reduceMul, Nat.zero_ne_one, Nat.one_ne_zero, Bool.not_true, Bool.not_false, true_and]
      obtain ⟨T', e, e0, e1, e7, e8⟩ := key
      rw [e, hdrop]
      have := ih (i + 1) m T' D (by omega) (by omega) (e0.trans h0) (e1.trans h1) (e7.trans h7) e8
      simpa [hbx] using this


theorem run38 {F : FF} {h : Heap} {L : List Int} {b c n : Nat} (hA : ∀ i x, L[i]? = some x → S.RowAt h b i [.int .i64 x]) (hF : ∀ x, F (.func 25) [.int .i64 x] [] h = some (.val (.bool (bad x)) h)) (hlen : L.length < 9223372036854775807) (hn : L.length < n) :
    ∃ r : Int, enterF E F 38 [.slice (some ⟨b, 0, none⟩) L.length c, .func (.func 25) #[] #[]] h n = some (.val (.int .i64 r) h) ∧ decide (0 ≤ r) = L.any bad := by
  rw [enterF_eq pfn38 (by simp [M38])]
  show ∃ r : Int, evP P38 ⟨F, none, 38, n⟩ ⟨argsT [.slice (some ⟨b, 0, none⟩) L.length c, .func (.func 25) #[] #[]] 0 .leaf, [], h⟩ (fnK R38) = _ ∧ _
  have key : ∃ T' : Tr Value, evP P38 ⟨F, none, 38, n⟩ ⟨argsT [.slice (some ⟨b, 0, none⟩) L.length c, .func (.func 25) #[] #[]] 0 .leaf, [], h⟩ (fnK R38) = loopS (evP L38_0) ⟨F, none, 38, n⟩ (blockK 0 (seqK (evP (.seq (.reg [⟨.move (.const (.int .i64 (.negSucc 0))), .frm 4, none⟩]) .ret)) ⟨F, none, 38, n⟩ (fnK [.tmp (.frm 4)]))) n ⟨T', [], h⟩ ∧ T'.get 0 = some (.slice (some ⟨b, 0, none⟩) L.length c) ∧ T'.get 1 = some (.func (.func 25) #[] #[]) ∧ T'.get 7 = some (.int .i64 (.ofNat L.length)) ∧ T'.get 8 = some (.int .i64 (.ofNat 0)) := by
    apply Exists.intro
    apply And.intro
    · unfold P38 R38
      simp only [↓S.skip, ↓S.seq, ↓S.reg, ↓S.cond, ↓S.block, ↓S.loop, ↓S.exit, ↓S.ret, ↓S.seqK_n, ↓S.seqK_e, ↓S.seqK_r, ↓S.blockK_n, ↓S.blockK_r, ↓S.blockK_e, ↓S.ops_nil, ↓S.ops_cons, ↓S.ops_gt, ↓S.ops_gf, ↓S.put_non, ↓S.put_loc, ↓S.put_frm, ↓S.o_loc, ↓S.o_frm, ↓S.o_const, ↓S.first_cons, ↓S.l_nil, ↓S.l_cons, ↓S.op_none, ↓S.op_some, ↓S.move, ↓S.pick, ↓S.alloc, ↓S.box, ↓S.build, ↓S.buildSlice, ↓S.load, ↓S.store, ↓S.nil_, ↓S.bin, ↓S.un, ↓S.conv, ↓S.func, ↓S.makeSlice, ↓S.strSlice, ↓S.fieldAddr, ↓S.field, ↓S.indexSl, ↓S.indexStr, ↓S.extract, ↓S.len, ↓S.lenStr, ↓S.min, ↓S.append, ↓S.call, ↓S.some_, ↓S.oc_some, ↓S.oc_none, ↓S.bT_t, ↓S.bI_t, ↓S.bI_f, ↓S.nC_0, ↓S.nC_s, ↓S.lc_nil, ↓S.lc_cons, ↓S.g_bool, ↓S.g_undef, ↓S.v_int, ↓S.v_bool, ↓S.v_ptr, ↓S.v_slice, ↓S.v_str, ↓S.v_agg, ↓S.v_tuple, ↓S.v_func, ↓S.r_val, ↓S.f_int, ↓S.f_bool, ↓S.f_ptr, ↓S.f_slice, ↓S.f_agg, ↓S.spot_, ↓S.nat_k, ↓S.nat_i, ↓S.ptr_k, ↓S.int_op, ↓S.sh_op, ↓S.add, ↓S.sub, ↓S.mul, ↓S.lss, ↓S.gtr, ↓S.leq, ↓S.geq, ↓S.eqi, ↓S.nei, ↓S.not_, ↓S.convi, ↓S.fn_n, ↓S.fn_r, ↓S.done_nil, ↓S.res_nil, ↓S.res_tmp, ↓S.res_cell, ↓S.res_0, ↓S.res_1, ↓S.res_2, ↓S.args_nil, ↓S.args_cons, Tr.get_put_eq, if_true, if_false, ↓reduceIte, List.nil_append, Nat.reduceEqDiff, Nat.reduceSucc, Nat.zero_add, Nat.reduceAdd, Nat.reduceMul, Nat.zero_ne_one, Nat.one_ne_zero, Bool.not_true, Bool.not_false]
      rfl
    · simp only [↓S.skip, ↓S.seq, ↓S.reg, ↓S.cond, ↓S.block, ↓S.loop, ↓S.exit, ↓S.ret, ↓S.seqK_n, ↓S.seqK_e, ↓S.seqK_r, ↓S.blockK_n, ↓S.blockK_r, ↓S.blockK_e, ↓S.ops_nil, ↓S.ops_cons, ↓S.ops_gt, ↓S.ops_gf, ↓S.put_non, ↓S.put_loc, ↓S.put_frm, ↓S.o_loc, ↓S.o_frm, ↓S.o_const, ↓S.first_cons, ↓S.l_nil, ↓S.l_cons, ↓S.op_none, ↓S.op_some, ↓S.move, ↓S.pick, ↓S.alloc, ↓S.box, ↓S.build, ↓S.buildSlice, ↓S.load, ↓S.store, ↓S.nil_, ↓S.bin, ↓S.un, ↓S.conv, ↓S.func, ↓S.makeSlice, ↓S.strSlice, ↓S.fieldAddr, ↓S.field, ↓S.indexSl, ↓S.indexStr, ↓S.extract, ↓S.len, ↓S.lenStr, ↓S.min, ↓S.append, ↓S.call, ↓S.some_, ↓S.oc_some, ↓S.oc_none, ↓S.bT_t, ↓S.bI_t, ↓S.bI_f, ↓S.nC_0, ↓S.nC_s, ↓S.lc_nil, ↓S.lc_cons, ↓S.g_bool, ↓S.g_undef, ↓S.v_int, ↓S.v_bool, ↓S.v_ptr, ↓S.v_slice, ↓S.v_str, ↓S.v_agg, ↓S.v_tuple, ↓S.v_func, ↓S.r_val, ↓S.f_int, ↓S.f_bool, ↓S.f_ptr, ↓S.f_slice, ↓S.f_agg, ↓S.spot_, ↓S.nat_k, ↓S.nat_i, ↓S.ptr_k, ↓S.int_op, ↓S.sh_op, ↓S.add, ↓S.sub, ↓S.mul, ↓S.lss, ↓S.gtr, ↓S.leq, ↓S.geq, ↓S.eqi, ↓S.nei, ↓S.not_, ↓S.convi, ↓S.fn_n, ↓S.fn_r, ↓S.done_nil, ↓S.res_nil, ↓S.res_tmp, ↓S.res_cell, ↓S.res_0, ↓S.res_1, ↓S.res_2, ↓S.args_nil, ↓S.args_cons, Tr.get_put_eq, if_true, if_false, ↓reduceIte, List.nil_append, Nat.reduceEqDiff, Nat.reduceSucc, Nat.zero_add, Nat.reduceAdd, Nat.reduceMul, Nat.zero_ne_one, Nat.one_ne_zero, Bool.not_true, Bool.not_false, and_true, true_and]
  obtain ⟨T, e0, h0, h1, h7, h8⟩ := key
  rw [e0]
  rcases loop38 (fu := n) (K := (blockK 0 (seqK (evP (.seq (.reg [⟨.move (.const (.int .i64 (.negSucc 0))), .frm 4, none⟩]) .ret)) ⟨F, none, 38, n⟩ (fnK [.tmp (.frm 4)])))) hA hF hlen L.length 0 n T [] (by omega) hn h0 h1 h7 h8 with ⟨T', e, ha⟩ | ⟨T', j, e, h4, ha⟩
  · refine ⟨Int.negSucc 0, ?_, by rw [List.drop_zero] at ha; rw [ha]; rfl⟩
    rw [e]
    simp only [↓S.skip, ↓S.seq, ↓S.reg, ↓S.cond, ↓S.block, ↓S.loop, ↓S.exit, ↓S.ret, ↓S.seqK_n, ↓S.seqK_e, ↓S.seqK_r, ↓S.blockK_n, ↓S.blockK_r, ↓S.blockK_e, ↓S.ops_nil, ↓S.ops_cons, ↓S.ops_gt, ↓S.ops_gf, ↓S.put_non, ↓S.put_loc, ↓S.put_frm, ↓S.o_loc, ↓S.o_frm, ↓S.o_const, ↓S.first_cons, ↓S.l_nil, ↓S.l_cons, ↓S.op_none, ↓S.op_some, ↓S.move, ↓S.pick, ↓S.alloc, ↓S.box, ↓S.build, ↓S.buildSlice, ↓S.load, ↓S.store, ↓S.nil_, ↓S.bin, ↓S.un, ↓S.conv, ↓S.func, ↓S.makeSlice, ↓S.strSlice, ↓S.fieldAddr, ↓S.field, ↓S.indexSl, ↓S.indexStr, ↓S.extract, ↓S.len, ↓S.lenStr, ↓S.min, ↓S.append, ↓S.call, ↓S.some_, ↓S.oc_some, ↓S.oc_none, ↓S.bT_t, ↓S.bI_t, ↓S.bI_f, ↓S.nC_0, ↓S.nC_s, ↓S.lc_nil, ↓S.lc_cons, ↓S.g_bool, ↓S.g_undef, ↓S.v_int, ↓S.v_bool, ↓S.v_ptr, ↓S.v_slice, ↓S.v_str, ↓S.v_agg, ↓S.v_tuple, ↓S.v_func, ↓S.r_val, ↓S.f_int, ↓S.f_bool, ↓S.f_ptr, ↓S.f_slice, ↓S.f_agg, ↓S.spot_, ↓S.nat_k, ↓S.nat_i, ↓S.ptr_k, ↓S.int_op, ↓S.sh_op, ↓S.add, ↓S.sub, ↓S.mul, ↓S.lss, ↓S.gtr, ↓S.leq, ↓S.geq, ↓S.eqi, ↓S.nei, ↓S.not_, ↓S.convi, ↓S.fn_n, ↓S.fn_r, ↓S.done_nil, ↓S.res_nil, ↓S.res_tmp, ↓S.res_cell, ↓S.res_0, ↓S.res_1, ↓S.res_2, ↓S.args_nil, ↓S.args_cons, Tr.get_put_eq, if_true, if_false, ↓reduceIte, List.nil_append, Nat.reduceEqDiff, Nat.reduceSucc, Nat.zero_add, Nat.reduceAdd, Nat.reduceMul, Nat.zero_ne_one, Nat.one_ne_zero, Bool.not_true, Bool.not_false]
  · refine ⟨Int.ofNat j, ?_, by rw [List.drop_zero] at ha; rw [ha]; simp⟩
    rw [e]
    simp only [↓S.skip, ↓S.seq, ↓S.reg, ↓S.cond, ↓S.block, ↓S.loop, ↓S.exit, ↓S.ret, ↓S.seqK_n, ↓S.seqK_e, ↓S.seqK_r, ↓S.blockK_n, ↓S.blockK_r, ↓S.blockK_e, ↓S.ops_nil, ↓S.ops_cons, ↓S.ops_gt, ↓S.ops_gf, ↓S.put_non, ↓S.put_loc, ↓S.put_frm, ↓S.o_loc, ↓S.o_frm, ↓S.o_const, ↓S.first_cons, ↓S.l_nil, ↓S.l_cons, ↓S.op_none, ↓S.op_some, ↓S.move, ↓S.pick, ↓S.alloc, ↓S.box, ↓S.build, ↓S.buildSlice, ↓S.load, ↓S.store, ↓S.nil_, ↓S.bin, ↓S.un, ↓S.conv, ↓S.func, ↓S.makeSlice, ↓S.strSlice, ↓S.fieldAddr, ↓S.field, ↓S.indexSl, ↓S.indexStr, ↓S.extract, ↓S.len, ↓S.lenStr, ↓S.min, ↓S.append, ↓S.call, ↓S.some_, ↓S.oc_some, ↓S.oc_none, ↓S.bT_t, ↓S.bI_t, ↓S.bI_f, ↓S.nC_0, ↓S.nC_s, ↓S.lc_nil, ↓S.lc_cons, ↓S.g_bool, ↓S.g_undef, ↓S.v_int, ↓S.v_bool, ↓S.v_ptr, ↓S.v_slice, ↓S.v_str, ↓S.v_agg, ↓S.v_tuple, ↓S.v_func, ↓S.r_val, ↓S.f_int, ↓S.f_bool, ↓S.f_ptr, ↓S.f_slice, ↓S.f_agg, ↓S.spot_, ↓S.nat_k, ↓S.nat_i, ↓S.ptr_k, ↓S.int_op, ↓S.sh_op, ↓S.add, ↓S.sub, ↓S.mul, ↓S.lss, ↓S.gtr, ↓S.leq, ↓S.geq, ↓S.eqi, ↓S.nei, ↓S.not_, ↓S.convi, ↓S.fn_n, ↓S.fn_r, ↓S.done_nil, ↓S.res_nil, ↓S.res_tmp, ↓S.res_cell, ↓S.res_0, ↓S.res_1, ↓S.res_2, ↓S.args_nil, ↓S.args_cons, Tr.get_put_eq, if_true, if_false, ↓reduceIte, List.nil_append, Nat.reduceEqDiff, Nat.reduceSucc, Nat.zero_add, Nat.reduceAdd, Nat.reduceMul, Nat.zero_ne_one, Nat.one_ne_zero, Bool.not_true, Bool.not_false, ↓h4]
theorem run24 {F : FF} {h : Heap} {s f : Value} {n : Nat} {r : Int} (hF : F (.func 38) [s, f] [] h = some (.val (.int .i64 r) h)) : enterF E F 24 [s, f] h n = some (.val (.bool (decide (0 ≤ r))) h) := by
  rw [enterF_eq pfn24 (by simp [M24])]
  show evP P24 ⟨F, none, 24, n⟩ ⟨argsT [s, f] 0 .leaf, [], h⟩ (fnK R24) = _
  unfold P24 R24
  have hF' : F (.func 38) ([s, f]) [] h = some (.val (.int .i64 r) h) := hF
  have e : (!decide (r < Int.ofNat 0)) = decide (0 ≤ r) := by
    rw [Bool.eq_iff_iff]; simp
  simp only [↓S.skip, ↓S.seq, ↓S.reg, ↓S.cond, ↓S.block, ↓S.loop, ↓S.exit, ↓S.ret, ↓S.seqK_n, ↓S.seqK_e, ↓S.seqK_r, ↓S.blockK_n, ↓S.blockK_r, ↓S.blockK_e, ↓S.ops_nil, ↓S.ops_cons, ↓S.ops_gt, ↓S.ops_gf, ↓S.put_non, ↓S.put_loc, ↓S.put_frm, ↓S.o_loc, ↓S.o_frm, ↓S.o_const, ↓S.first_cons, ↓S.l_nil, ↓S.l_cons, ↓S.op_none, ↓S.op_some, ↓S.move, ↓S.pick, ↓S.alloc, ↓S.box, ↓S.build, ↓S.buildSlice, ↓S.load, ↓S.store, ↓S.nil_, ↓S.bin, ↓S.un, ↓S.conv, ↓S.func, ↓S.makeSlice, ↓S.strSlice, ↓S.fieldAddr, ↓S.field, ↓S.indexSl, ↓S.indexStr, ↓S.extract, ↓S.len, ↓S.lenStr, ↓S.min, ↓S.append, ↓S.call, ↓S.some_, ↓S.oc_some, ↓S.oc_none, ↓S.bT_t, ↓S.bI_t, ↓S.bI_f, ↓S.nC_0, ↓S.nC_s, ↓S.lc_nil, ↓S.lc_cons, ↓S.g_bool, ↓S.g_undef, ↓S.v_int, ↓S.v_bool, ↓S.v_ptr, ↓S.v_slice, ↓S.v_str, ↓S.v_agg, ↓S.v_tuple, ↓S.v_func, ↓S.r_val, ↓S.f_int, ↓S.f_bool, ↓S.f_ptr, ↓S.f_slice, ↓S.f_agg, ↓S.spot_, ↓S.nat_k, ↓S.nat_i, ↓S.ptr_k, ↓S.int_op, ↓S.sh_op, ↓S.add, ↓S.sub, ↓S.mul, ↓S.lss, ↓S.gtr, ↓S.leq, ↓S.geq, ↓S.eqi, ↓S.nei, ↓S.not_, ↓S.convi, ↓S.fn_n, ↓S.fn_r, ↓S.done_nil, ↓S.res_nil, ↓S.res_tmp, ↓S.res_cell, ↓S.res_0, ↓S.res_1, ↓S.res_2, ↓S.args_nil, ↓S.args_cons, Tr.get_put_eq, if_true, if_false, ↓reduceIte, List.nil_append, Nat.reduceEqDiff, Nat.reduceSucc, Nat.zero_add, Nat.reduceAdd, Nat.reduceMul, Nat.zero_ne_one, Nat.one_ne_zero, Bool.not_true, Bool.not_false, ↓hF', ↓e]
theorem run13 {F : FF} {h : Heap} {s : Value} {n : Nat} {t : Bool} (hF : F (.func 24) [s, .func (.func 25) #[] #[]] [] h = some (.val (.bool t) h)) : enterF E F 13 [s] h n = some (.val (.bool (!t)) h) := by
  rw [enterF_eq pfn13 (by simp [M13])]
  show evP P13 ⟨F, none, 13, n⟩ ⟨argsT [s] 0 .leaf, [], h⟩ (fnK R13) = _
  unfold P13 R13
  have hF' : F (.func 24) ([s, .func (.func 25) #[] #[]]) [] h = some (.val (.bool t) h) := hF
  simp only [↓S.skip, ↓S.seq, ↓S.reg, ↓S.cond, ↓S.block, ↓S.loop, ↓S.exit, ↓S.ret, ↓S.seqK_n, ↓S.seqK_e, ↓S.seqK_r, ↓S.blockK_n, ↓S.blockK_r, ↓S.blockK_e, ↓S.ops_nil, ↓S.ops_cons, ↓S.ops_gt, ↓S.ops_gf, ↓S.put_non, ↓S.put_loc, ↓S.put_frm, ↓S.o_loc, ↓S.o_frm, ↓S.o_const, ↓S.first_cons, ↓S.l_nil, ↓S.l_cons, ↓S.op_none, ↓S.op_some, ↓S.move, ↓S.pick, ↓S.alloc, ↓S.box, ↓S.build, ↓S.buildSlice, ↓S.load, ↓S.store, ↓S.nil_, ↓S.bin, ↓S.un, ↓S.conv, ↓S.func, ↓S.makeSlice, ↓S.strSlice, ↓S.fieldAddr, ↓S.field, ↓S.indexSl, ↓S.indexStr, ↓S.extract, ↓S.len, ↓S.lenStr, ↓S.min, ↓S.append, ↓S.call, ↓S.some_, ↓S.oc_some, ↓S.oc_none, ↓S.bT_t, ↓S.bI_t, ↓S.bI_f, ↓S.nC_0, ↓S.nC_s, ↓S.lc_nil, ↓S.lc_cons, ↓S.g_bool, ↓S.g_undef, ↓S.v_int, ↓S.v_bool, ↓S.v_ptr, ↓S.v_slice, ↓S.v_str, ↓S.v_agg, ↓S.v_tuple, ↓S.v_func, ↓S.r_val, ↓S.f_int, ↓S.f_bool, ↓S.f_ptr, ↓S.f_slice, ↓S.f_agg, ↓S.spot_, ↓S.nat_k, ↓S.nat_i, ↓S.ptr_k, ↓S.int_op, ↓S.sh_op, ↓S.add, ↓S.sub, ↓S.mul, ↓S.lss, ↓S.gtr, ↓S.leq, ↓S.geq, ↓S.eqi, ↓S.nei, ↓S.not_, ↓S.convi, ↓S.fn_n, ↓S.fn_r, ↓S.done_nil, ↓S.res_nil, ↓S.res_tmp, ↓S.res_cell, ↓S.res_0, ↓S.res_1, ↓S.res_2, ↓S.args_nil, ↓S.args_cons, Tr.get_put_eq, if_true, if_false, ↓reduceIte, List.nil_append, Nat.reduceEqDiff, Nat.reduceSucc, Nat.zero_add, Nat.reduceAdd, Nat.reduceMul, Nat.zero_ne_one, Nat.one_ne_zero, Bool.not_true, Bool.not_false, ↓hF']
theorem run14 {F : FF} {h : Heap} {n : Nat} {t : Bool} : enterF E F 14 [.bool t] h n = some (.val (.int .u64 (.ofNat (if t then 1 else 0))) h) := by
  rw [enterF_eq pfn14 (by simp [M14])]
  show evP P14 ⟨F, none, 14, n⟩ ⟨argsT [.bool t] 0 .leaf, [], h⟩ (fnK R14) = _
  unfold P14 R14
  cases t <;> (simp only [↓S.skip, ↓S.seq, ↓S.reg, ↓S.cond, ↓S.block, ↓S.loop, ↓S.exit, ↓S.ret, ↓S.seqK_n, ↓S.seqK_e, ↓S.seqK_r, ↓S.blockK_n, ↓S.blockK_r, ↓S.blockK_e, ↓S.ops_nil, ↓S.ops_cons, ↓S.ops_gt, ↓S.ops_gf, ↓S.put_non, ↓S.put_loc, ↓S.put_frm, ↓S.o_loc, ↓S.o_frm, ↓S.o_const, ↓S.first_cons, ↓S.l_nil, ↓S.l_cons, ↓S.op_none, ↓S.op_some, ↓S.move, ↓S.pick, ↓S.alloc, ↓S.box, ↓S.build, ↓S.buildSlice, ↓S.load, ↓S.store, ↓S.nil_, ↓S.bin, ↓S.un, ↓S.conv, ↓S.func, ↓S.makeSlice, ↓S.strSlice, ↓S.fieldAddr, ↓S.field, ↓S.indexSl, ↓S.indexStr, ↓S.extract, ↓S.len, ↓S.lenStr, ↓S.min, ↓S.append, ↓S.call, ↓S.some_, ↓S.oc_some, ↓S.oc_none, ↓S.bT_t, ↓S.bI_t, ↓S.bI_f, ↓S.nC_0, ↓S.nC_s, ↓S.lc_nil, ↓S.lc_cons, ↓S.g_bool, ↓S.g_undef, ↓S.v_int, ↓S.v_bool, ↓S.v_ptr, ↓S.v_slice, ↓S.v_str, ↓S.v_agg, ↓S.v_tuple, ↓S.v_func, ↓S.r_val, ↓S.f_int, ↓S.f_bool, ↓S.f_ptr, ↓S.f_slice, ↓S.f_agg, ↓S.spot_, ↓S.nat_k, ↓S.nat_i, ↓S.ptr_k, ↓S.int_op, ↓S.sh_op, ↓S.add, ↓S.sub, ↓S.mul, ↓S.lss, ↓S.gtr, ↓S.leq, ↓S.geq, ↓S.eqi, ↓S.nei, ↓S.not_, ↓S.convi, ↓S.fn_n, ↓S.fn_r, ↓S.done_nil, ↓S.res_nil, ↓S.res_tmp, ↓S.res_cell, ↓S.res_0, ↓S.res_1, ↓S.res_2, ↓S.args_nil, ↓S.args_cons, Tr.get_put_eq, if_true, if_false, ↓reduceIte, List.nil_append, Nat.reduceEqDiff, Nat.reduceSucc, Nat.zero_add, Nat.reduceAdd, Nat.reduceMul, Nat.zero_ne_one, Nat.one_ne_zero, Bool.not_true, Bool.not_false, ↓Bool.false_eq_true])
theorem run16 {F : FF} {h : Heap} {n x : Nat} : enterF E F 16 [.int .u64 (.ofNat x)] h n = some (.val (.func (.func 26) #[] #[.pointer (some ⟨h.next, 0, none⟩)]) ⟨h.next + 1, h.b.put (some (S.varB 40 [.int .u64 (.ofNat x)])) h.next⟩) := by
  rw [enterF_eq pfn16 (by simp [M16])]
  show evP P16 ⟨F, none, 16, n⟩ ⟨argsT [.int .u64 (.ofNat x)] 0 .leaf, [], h⟩ (fnK R16) = _
  unfold P16 R16
  simp only [↓S.skip, ↓S.seq, ↓S.reg, ↓S.cond, ↓S.block, ↓S.loop, ↓S.exit, ↓S.ret, ↓S.seqK_n, ↓S.seqK_e, ↓S.seqK_r, ↓S.blockK_n, ↓S.blockK_r, ↓S.blockK_e, ↓S.ops_nil, ↓S.ops_cons, ↓S.ops_gt, ↓S.ops_gf, ↓S.put_non, ↓S.put_loc, ↓S.put_frm, ↓S.o_loc, ↓S.o_frm, ↓S.o_const, ↓S.first_cons, ↓S.l_nil, ↓S.l_cons, ↓S.op_none, ↓S.op_some, ↓S.move, ↓S.pick, ↓S.alloc, ↓S.box, ↓S.build, ↓S.buildSlice, ↓S.load, ↓S.store, ↓S.nil_, ↓S.bin, ↓S.un, ↓S.conv, ↓S.func, ↓S.makeSlice, ↓S.strSlice, ↓S.fieldAddr, ↓S.field, ↓S.indexSl, ↓S.indexStr, ↓S.extract, ↓S.len, ↓S.lenStr, ↓S.min, ↓S.append, ↓S.call, ↓S.some_, ↓S.oc_some, ↓S.oc_none, ↓S.bT_t, ↓S.bI_t, ↓S.bI_f, ↓S.nC_0, ↓S.nC_s, ↓S.lc_nil, ↓S.lc_cons, ↓S.g_bool, ↓S.g_undef, ↓S.v_int, ↓S.v_bool, ↓S.v_ptr, ↓S.v_slice, ↓S.v_str, ↓S.v_agg, ↓S.v_tuple, ↓S.v_func, ↓S.r_val, ↓S.f_int, ↓S.f_bool, ↓S.f_ptr, ↓S.f_slice, ↓S.f_agg, ↓S.spot_, ↓S.nat_k, ↓S.nat_i, ↓S.ptr_k, ↓S.int_op, ↓S.sh_op, ↓S.add, ↓S.sub, ↓S.mul, ↓S.lss, ↓S.gtr, ↓S.leq, ↓S.geq, ↓S.eqi, ↓S.nei, ↓S.not_, ↓S.convi, ↓S.fn_n, ↓S.fn_r, ↓S.done_nil, ↓S.res_nil, ↓S.res_tmp, ↓S.res_cell, ↓S.res_0, ↓S.res_1, ↓S.res_2, ↓S.args_nil, ↓S.args_cons, Tr.get_put_eq, if_true, if_false, ↓reduceIte, List.nil_append, Nat.reduceEqDiff, Nat.reduceSucc, Nat.zero_add, Nat.reduceAdd, Nat.reduceMul, Nat.zero_ne_one, Nat.one_ne_zero, Bool.not_true, Bool.not_false, ↓S.mkVar_eq]
end T
set_option linter.unusedVariables false
set_option linter.unusedSimpArgs false
open Go Go.Ev Go.Proofs
namespace T
set_option maxRecDepth 100000
/-- The bytes of a number, the lowest first. -/
def byteAt (x i : Nat) : Nat := x / 2 ^ (8 * i) % 256
theorem u8wrap {n : Nat} : IntKind.u8.wrap (Int.ofNat n) = Int.ofNat (n % 256) := by
  simp only [IntKind.wrap, IntKind.bits, IntKind.signed, Int.ofNat_eq_natCast]; simp
theorem shrByte {x i : Nat} (hi : i < 8) : IntKind.u8.wrap (Int.fdiv (Int.ofNat x) (Int.ofNat (2 ^ (Nat.min (8 * i) IntKind.u64.bits)))) = Int.ofNat (byteAt x i) := by
  have e : Nat.min (8 * i) IntKind.u64.bits = 8 * i := Nat.min_eq_left (by simp [IntKind.bits]; omega)
  rw [e]
  have e2 : Int.fdiv (Int.ofNat x) (Int.ofNat (2 ^ (8 * i))) = Int.ofNat (x / 2 ^ (8 * i)) := by
    cases x with
    | zero => simp
    | succ x => rfl
  rw [e2, u8wrap]; rfl
theorem mul8 {i : Nat} (hi : i < 8) : IntKind.i64.wrap (Int.ofNat 8 * Int.ofNat i) = Int.ofNat (8 * i) := wrap64 (n := 8 * i) (by omega)

theorem loop26 {F : FF} {l p x fu : Nat} {K : K} {J : Nat → Heap → Prop} (hJ : ∀ i h, i < 8 → J i h → ∃ h', F (.yield l) [.int .u8 (.ofNat (byteAt x i))] [] h = some (.val (.bool true) h') ∧ J (i + 1) h') (hp : ∀ i h, J i h → h.b.get p = some (S.varB 40 [.int .u64 (.ofNat x)])) :
    ∀ (d i m : Nat) (T : Tr Value) (D : List Deferred) (h : Heap), 8 = i + d → d < m → J i h → T.get 0 = some (.func (.yield l) #[] #[]) → T.get 1 = some (.pointer (some ⟨p, 0, none⟩)) → T.get 4 = some (.int .i64 (.ofNat i)) →
      ∃ T' h', loopS (evP L26_0) ⟨F, none, 26, fu⟩ K m ⟨T, D, h⟩ = K (.exit 0) ⟨T', D, h'⟩ ∧ J 8 h' := by
  intro d
  induction d with
  | zero =>
    intro i m T D h hi hm hj h0 h1 h4
    obtain ⟨m, rfl⟩ : ∃ q, m = q + 1 := ⟨m - 1, by omega⟩
    have e : i = 8 := by omega
    subst e
    refine ⟨T.put (some (.bool false)) 5, h, ?_, hj⟩
    rw [S.loop1]
    unfold L26_0
    have hlt : decide (8 < 8) = false := by decide
    simp only [↓S.skip, ↓S.seq, ↓S.reg, ↓S.cond, ↓S.block, ↓S.loop, ↓S.exit, ↓S.ret, ↓S.seqK_n, ↓S.seqK_e, ↓S.seqK_r, ↓S.blockK_n, ↓S.blockK_r, ↓S.blockK_e, ↓S.ops_nil, ↓S.ops_cons, ↓S.ops_gt, ↓S.ops_gf, ↓S.put_non, ↓S.put_loc, ↓S.put_frm, ↓S.o_loc, ↓S.o_frm, ↓S.o_const, ↓S.first_cons, ↓S.l_nil, ↓S.l_cons, ↓S.op_none, ↓S.op_some, ↓S.move, ↓S.pick, ↓S.alloc, ↓S.box, ↓S.build, ↓S.buildSlice, ↓S.load, ↓S.store, ↓S.nil_, ↓S.bin, ↓S.un, ↓S.conv, ↓S.func, ↓S.makeSlice, ↓S.strSlice, ↓S.fieldAddr, ↓S.field, ↓S.indexSl, ↓S.indexStr, ↓S.extract, ↓S.len, ↓S.lenStr, ↓S.min, ↓S.append, ↓S.call, ↓S.some_, ↓S.oc_some, ↓S.oc_none, ↓S.bT_t, ↓S.bI_t, ↓S.bI_f, ↓S.nC_0, ↓S.nC_s, ↓S.lc_nil, ↓S.lc_cons, ↓S.g_bool, ↓S.g_undef, ↓S.v_int, ↓S.v_bool, ↓S.v_ptr, ↓S.v_slice, ↓S.v_str, ↓S.v_agg, ↓S.v_tuple, ↓S.v_func, ↓S.r_val, ↓S.f_int, ↓S.f_bool, ↓S.f_ptr, ↓S.f_slice, ↓S.f_agg, ↓S.spot_, ↓S.nat_k, ↓S.nat_i, ↓S.ptr_k, ↓S.int_op, ↓S.sh_op, ↓S.add, ↓S.sub, ↓S.mul, ↓S.lss, ↓S.gtr, ↓S.leq, ↓S.geq, ↓S.eqi, ↓S.nei, ↓S.not_, ↓S.convi, ↓S.fn_n, ↓S.fn_r, ↓S.done_nil, ↓S.res_nil, ↓S.res_tmp, ↓S.res_cell, ↓S.res_0, ↓S.res_1, ↓S.res_2, ↓S.args_nil, ↓S.args_cons, Tr.get_put_eq, if_true, if_false, ↓reduceIte, List.nil_append, Nat.reduceEqDiff, Nat.reduceSucc, Nat.zero_add, Nat.reduceAdd, Nat.reduceMul, Nat.zero_ne_one, Nat.one_ne_zero, Bool.not_true, Bool.not_false, ↓h0, ↓h1, ↓h4, ↓ltNat, ↓hlt, ↓S.loopK_e]
  | succ d ih =>
    intro i m T D h hi hm hj h0 h1 h4
    obtain ⟨m, rfl⟩ : ∃ q, m = q + 1 := ⟨m - 1, by omega⟩
    have hi8 : i < 8 := by omega
    have hlt : decide (i < 8) = true := by simp; omega
    obtain ⟨h', hy, hj'⟩ := hJ i h hi8 hj
    have hl : ∀ f : KV, loadE (some none) h ⟨p, 0, none⟩ f = f (.int .u64 (.ofNat x)) := fun f => S.var_cell (hp i h hj) rfl
    have hF' : F (.yield l) ([.int .u8 (.ofNat (byteAt x i))]) [] h = some (.val (.bool true) h') := hy
    have hw := bump (i := i) (by omega)
    have h8 := mul8 hi8
    have hs := shrByte (x := x) hi8
    have key : ∃ T' : Tr Value, loopS (evP L26_0) ⟨F, none, 26, fu⟩ K (m + 1) ⟨T, D, h⟩ = loopS (evP L26_0) ⟨F, none, 26, fu⟩ K m ⟨T', D, h'⟩ ∧ T'.get 0 = T.get 0 ∧ T'.get 1 = T.get 1 ∧ T'.get 4 = some (.int .i64 (.ofNat (i + 1))) := by
      apply Exists.intro
      apply And.intro
      · rw [S.loop1]; conv => lhs; unfold L26_0
        simp only [↓S.skip, ↓S.seq, ↓S.reg, ↓S.cond, ↓S.block, ↓S.loop, ↓S.exit, ↓S.ret, ↓S.seqK_n, ↓S.seqK_e, ↓S.seqK_r, ↓S.blockK_n, ↓S.blockK_r, ↓S.blockK_e, ↓S.ops_nil, ↓S.ops_cons, ↓S.ops_gt, ↓S.ops_gf, ↓S.put_non, ↓S.put_loc, ↓S.put_frm, ↓S.o_loc, ↓S.o_frm, ↓S.o_const, ↓S.first_cons, ↓S.l_nil, ↓S.l_cons, ↓S.op_none, ↓S.op_some, ↓S.move, ↓S.pick, ↓S.alloc, ↓S.box, ↓S.build, ↓S.buildSlice, ↓S.load, ↓S.store, ↓S.nil_, ↓S.bin, ↓S.un, ↓S.conv, ↓S.func, ↓S.makeSlice, ↓S.strSlice, ↓S.fieldAddr, ↓S.field, ↓S.indexSl, ↓S.indexStr, ↓S.extract, ↓S.len, ↓S.lenStr, ↓S.min, ↓S.append, ↓S.call, ↓S.some_, ↓S.oc_some, ↓S.oc_none, ↓S.bT_t, ↓S.bI_t, ↓S.bI_f, ↓S.nC_0, ↓S.nC_s, ↓S.lc_nil, ↓S.lc_cons, ↓S.g_bool, ↓S.g_undef, ↓S.v_int, ↓S.v_bool, ↓S.v_ptr, ↓S.v_slice, ↓S.v_str, ↓S.v_agg, ↓S.v_tuple, ↓S.v_func, ↓S.r_val, ↓S.f_int, ↓S.f_bool, ↓S.f_ptr, ↓S.f_slice, ↓S.f_agg, ↓S.spot_, ↓S.nat_k, ↓S.nat_i, ↓S.ptr_k, ↓S.int_op, ↓S.sh_op, ↓S.add, ↓S.sub, ↓S.mul, ↓S.lss, ↓S.gtr, ↓S.leq, ↓S.geq, ↓S.eqi, ↓S.nei, ↓S.not_, ↓S.convi, ↓S.fn_n, ↓S.fn_r, ↓S.done_nil, ↓S.res_nil, ↓S.res_tmp, ↓S.res_cell, ↓S.res_0, ↓S.res_1, ↓S.res_2, ↓S.args_nil, ↓S.args_cons, Tr.get_put_eq, if_true, if_false, ↓reduceIte, List.nil_append, Nat.reduceEqDiff, Nat.reduceSucc, Nat.zero_add, Nat.reduceAdd, Nat.reduceMul, Nat.zero_ne_one, Nat.one_ne_zero, Bool.not_true, Bool.not_false, ↓h0, ↓h1, ↓h4, ↓ltNat, ↓hlt, ↓hl, ↓hF', ↓hw, ↓h8, ↓S.shr, ↓hs, ↓S.loopK_n]
        rfl
      · simp only [↓S.skip, ↓S.seq, ↓S.reg, ↓S.cond, ↓S.block, ↓S.loop, ↓S.exit, ↓S.ret, ↓S.seqK_n, ↓S.seqK_e, ↓S.seqK_r, ↓S.blockK_n, ↓S.blockK_r, ↓S.blockK_e, ↓S.ops_nil, ↓S.ops_cons, ↓S.ops_gt, ↓S.ops_gf, ↓S.put_non, ↓S.put_loc, ↓S.put_frm, ↓S.o_loc, ↓S.o_frm, ↓S.o_const, ↓S.first_cons, ↓S.l_nil, ↓S.l_cons, ↓S.op_none, ↓S.op_some, ↓S.move, ↓S.pick, ↓S.alloc, ↓S.box, ↓S.build, ↓S.buildSlice, ↓S.load, ↓S.store, ↓S.nil_, ↓S.bin, ↓S.un, ↓S.conv, ↓S.func, ↓S.makeSlice, ↓S.strSlice, ↓S.fieldAddr, ↓S.field, ↓S.indexSl, ↓S.indexStr, ↓S.extract, ↓S.len, ↓S.lenStr, ↓S.min, ↓S.append, ↓S.call, ↓S.some_, ↓S.oc_some, ↓S.oc_none, ↓S.bT_t, ↓S.bI_t, ↓S.bI_f, ↓S.nC_0, ↓S.nC_s, ↓S.lc_nil, ↓S.lc_cons, ↓S.g_bool, ↓S.g_undef, ↓S.v_int, ↓S.v_bool, ↓S.v_ptr, ↓S.v_slice, ↓S.v_str, ↓S.v_agg, ↓S.v_tuple, ↓S.v_func, ↓S.r_val, ↓S.f_int, ↓S.f_bool, ↓S.f_ptr, ↓S.f_slice, ↓S.f_agg, ↓S.spot_, ↓S.nat_k, ↓S.nat_i, ↓S.ptr_k, ↓S.int_op, ↓S.sh_op, ↓S.add, ↓S.sub, ↓S.mul, ↓S.lss, ↓S.gtr, ↓S.leq, ↓S.geq, ↓S.eqi, ↓S.nei, ↓S.not_, ↓S.convi, ↓S.fn_n, ↓S.fn_r, ↓S.done_nil, ↓S.res_nil, ↓S.res_tmp, ↓S.res_cell, ↓S.res_0, ↓S.res_1, ↓S.res_2, ↓S.args_nil, ↓S.args_cons, Tr.get_put_eq, if_true, if_false, ↓reduceIte, List.nil_append, Nat.reduceEqDiff, Nat.reduceSucc, Nat.zero_add, Nat.reduceAdd, Nat.reduceMul, Nat.zero_ne_one, Nat.one_ne_zero, Bool.not_true, Bool.not_false, true_and]
    obtain ⟨T', e, e0, e1, e4⟩ := key
    rw [e]
    exact ih (i + 1) m T' D h' (by omega) (by omega) hj' (e0.trans h0) (e1.trans h1) e4
theorem run26 {F : FF} {l p x n : Nat} {J : Nat → Heap → Prop} (hJ : ∀ i h, i < 8 → J i h → ∃ h', F (.yield l) [.int .u8 (.ofNat (byteAt x i))] [] h = some (.val (.bool true) h') ∧ J (i + 1) h') (hp : ∀ i h, J i h → h.b.get p = some (S.varB 40 [.int .u64 (.ofNat x)])) {h : Heap} (h0 : J 0 h) (hn : 8 < n) :
    ∃ h', enterF E F 26 [.func (.yield l) #[] #[], .pointer (some ⟨p, 0, none⟩)] h n = some (.val (.tuple #[]) h') ∧ J 8 h' := by
  rw [enterF_eq pfn26 (by simp [M26])]
  show ∃ h', evP P26 ⟨F, none, 26, n⟩ ⟨argsT [.func (.yield l) #[] #[], .pointer (some ⟨p, 0, none⟩)] 0 .leaf, [], h⟩ (fnK R26) = _ ∧ _
  have key : ∃ T' : Tr Value, evP P26 ⟨F, none, 26, n⟩ ⟨argsT [.func (.yield l) #[] #[], .pointer (some ⟨p, 0, none⟩)] 0 .leaf, [], h⟩ (fnK R26) = loopS (evP L26_0) ⟨F, none, 26, n⟩ (blockK 0 (fnK [])) n ⟨T', [], h⟩ ∧ T'.get 0 = some (.func (.yield l) #[] #[]) ∧ T'.get 1 = some (.pointer (some ⟨p, 0, none⟩)) ∧ T'.get 4 = some (.int .i64 (.ofNat 0)) := by
    apply Exists.intro
    apply And.intro
    · unfold P26 R26
      simp only [↓S.skip, ↓S.seq, ↓S.reg, ↓S.cond, ↓S.block, ↓S.loop, ↓S.exit, ↓S.ret, ↓S.seqK_n, ↓S.seqK_e, ↓S.seqK_r, ↓S.blockK_n, ↓S.blockK_r, ↓S.blockK_e, ↓S.ops_nil, ↓S.ops_cons, ↓S.ops_gt, ↓S.ops_gf, ↓S.put_non, ↓S.put_loc, ↓S.put_frm, ↓S.o_loc, ↓S.o_frm, ↓S.o_const, ↓S.first_cons, ↓S.l_nil, ↓S.l_cons, ↓S.op_none, ↓S.op_some, ↓S.move, ↓S.pick, ↓S.alloc, ↓S.box, ↓S.build, ↓S.buildSlice, ↓S.load, ↓S.store, ↓S.nil_, ↓S.bin, ↓S.un, ↓S.conv, ↓S.func, ↓S.makeSlice, ↓S.strSlice, ↓S.fieldAddr, ↓S.field, ↓S.indexSl, ↓S.indexStr, ↓S.extract, ↓S.len, ↓S.lenStr, ↓S.min, ↓S.append, ↓S.call, ↓S.some_, ↓S.oc_some, ↓S.oc_none, ↓S.bT_t, ↓S.bI_t, ↓S.bI_f, ↓S.nC_0, ↓S.nC_s, ↓S.lc_nil, ↓S.lc_cons, ↓S.g_bool, ↓S.g_undef, ↓S.v_int, ↓S.v_bool, ↓S.v_ptr, ↓S.v_slice, ↓S.v_str, ↓S.v_agg, ↓S.v_tuple, ↓S.v_func, ↓S.r_val, ↓S.f_int, ↓S.f_bool, ↓S.f_ptr, ↓S.f_slice, ↓S.f_agg, ↓S.spot_, ↓S.nat_k, ↓S.nat_i, ↓S.ptr_k, ↓S.int_op, ↓S.sh_op, ↓S.add, ↓S.sub, ↓S.mul, ↓S.lss, ↓S.gtr, ↓S.leq, ↓S.geq, ↓S.eqi, ↓S.nei, ↓S.not_, ↓S.convi, ↓S.fn_n, ↓S.fn_r, ↓S.done_nil, ↓S.res_nil, ↓S.res_tmp, ↓S.res_cell, ↓S.res_0, ↓S.res_1, ↓S.res_2, ↓S.args_nil, ↓S.args_cons, Tr.get_put_eq, if_true, if_false, ↓reduceIte, List.nil_append, Nat.reduceEqDiff, Nat.reduceSucc, Nat.zero_add, Nat.reduceAdd, Nat.reduceMul, Nat.zero_ne_one, Nat.one_ne_zero, Bool.not_true, Bool.not_false]
      rfl
    · simp only [↓S.skip, ↓S.seq, ↓S.reg, ↓S.cond, ↓S.block, ↓S.loop, ↓S.exit, ↓S.ret, ↓S.seqK_n, ↓S.seqK_e, ↓S.seqK_r, ↓S.blockK_n, ↓S.blockK_r, ↓S.blockK_e, ↓S.ops_nil, ↓S.ops_cons, ↓S.ops_gt, ↓S.ops_gf, ↓S.put_non, ↓S.put_loc, ↓S.put_frm, ↓S.o_loc, ↓S.o_frm, ↓S.o_const, ↓S.first_cons, ↓S.l_nil, ↓S.l_cons, ↓S.op_none, ↓S.op_some, ↓S.move, ↓S.pick, ↓S.alloc, ↓S.box, ↓S.build, ↓S.buildSlice, ↓S.load, ↓S.store, ↓S.nil_, ↓S.bin, ↓S.un, ↓S.conv, ↓S.func, ↓S.makeSlice, ↓S.strSlice, ↓S.fieldAddr, ↓S.field, ↓S.indexSl, ↓S.indexStr, ↓S.extract, ↓S.len, ↓S.lenStr, ↓S.min, ↓S.append, ↓S.call, ↓S.some_, ↓S.oc_some, ↓S.oc_none, ↓S.bT_t, ↓S.bI_t, ↓S.bI_f, ↓S.nC_0, ↓S.nC_s, ↓S.lc_nil, ↓S.lc_cons, ↓S.g_bool, ↓S.g_undef, ↓S.v_int, ↓S.v_bool, ↓S.v_ptr, ↓S.v_slice, ↓S.v_str, ↓S.v_agg, ↓S.v_tuple, ↓S.v_func, ↓S.r_val, ↓S.f_int, ↓S.f_bool, ↓S.f_ptr, ↓S.f_slice, ↓S.f_agg, ↓S.spot_, ↓S.nat_k, ↓S.nat_i, ↓S.ptr_k, ↓S.int_op, ↓S.sh_op, ↓S.add, ↓S.sub, ↓S.mul, ↓S.lss, ↓S.gtr, ↓S.leq, ↓S.geq, ↓S.eqi, ↓S.nei, ↓S.not_, ↓S.convi, ↓S.fn_n, ↓S.fn_r, ↓S.done_nil, ↓S.res_nil, ↓S.res_tmp, ↓S.res_cell, ↓S.res_0, ↓S.res_1, ↓S.res_2, ↓S.args_nil, ↓S.args_cons, Tr.get_put_eq, if_true, if_false, ↓reduceIte, List.nil_append, Nat.reduceEqDiff, Nat.reduceSucc, Nat.zero_add, Nat.reduceAdd, Nat.reduceMul, Nat.zero_ne_one, Nat.one_ne_zero, Bool.not_true, Bool.not_false, true_and, and_true]
  obtain ⟨T, e0, g0, g1, g4⟩ := key
  rw [e0]
  obtain ⟨T', h', e, hj⟩ := loop26 (fu := n) (K := blockK 0 (fnK [])) hJ hp 8 0 n T [] h rfl hn h0 g0 g1 g4
  refine ⟨h', ?_, hj⟩
  rw [e]
  simp only [↓S.skip, ↓S.seq, ↓S.reg, ↓S.cond, ↓S.block, ↓S.loop, ↓S.exit, ↓S.ret, ↓S.seqK_n, ↓S.seqK_e, ↓S.seqK_r, ↓S.blockK_n, ↓S.blockK_r, ↓S.blockK_e, ↓S.ops_nil, ↓S.ops_cons, ↓S.ops_gt, ↓S.ops_gf, ↓S.put_non, ↓S.put_loc, ↓S.put_frm, ↓S.o_loc, ↓S.o_frm, ↓S.o_const, ↓S.first_cons, ↓S.l_nil, ↓S.l_cons, ↓S.op_none, ↓S.op_some, ↓S.move, ↓S.pick, ↓S.alloc, ↓S.box, ↓S.build, ↓S.buildSlice, ↓S.load, ↓S.store, ↓S.nil_, ↓S.bin, ↓S.un, ↓S.conv, ↓S.func, ↓S.makeSlice, ↓S.strSlice, ↓S.fieldAddr, ↓S.field, ↓S.indexSl, ↓S.indexStr, ↓S.extract, ↓S.len, ↓S.lenStr, ↓S.min, ↓S.append, ↓S.call, ↓S.some_, ↓S.oc_some, ↓S.oc_none, ↓S.bT_t, ↓S.bI_t, ↓S.bI_f, ↓S.nC_0, ↓S.nC_s, ↓S.lc_nil, ↓S.lc_cons, ↓S.g_bool, ↓S.g_undef, ↓S.v_int, ↓S.v_bool, ↓S.v_ptr, ↓S.v_slice, ↓S.v_str, ↓S.v_agg, ↓S.v_tuple, ↓S.v_func, ↓S.r_val, ↓S.f_int, ↓S.f_bool, ↓S.f_ptr, ↓S.f_slice, ↓S.f_agg, ↓S.spot_, ↓S.nat_k, ↓S.nat_i, ↓S.ptr_k, ↓S.int_op, ↓S.sh_op, ↓S.add, ↓S.sub, ↓S.mul, ↓S.lss, ↓S.gtr, ↓S.leq, ↓S.geq, ↓S.eqi, ↓S.nei, ↓S.not_, ↓S.convi, ↓S.fn_n, ↓S.fn_r, ↓S.done_nil, ↓S.res_nil, ↓S.res_tmp, ↓S.res_cell, ↓S.res_0, ↓S.res_1, ↓S.res_2, ↓S.args_nil, ↓S.args_cons, Tr.get_put_eq, if_true, if_false, ↓reduceIte, List.nil_append, Nat.reduceEqDiff, Nat.reduceSucc, Nat.zero_add, Nat.reduceAdd, Nat.reduceMul, Nat.zero_ne_one, Nat.one_ne_zero, Bool.not_true, Bool.not_false]

/-! ## AppendSeq -/
def eBs : Elem := ⟨5, 1, 1, [.int .u8 (.ofNat 0)]⟩
theorem pf15 : pf E 15 = some ⟨M15, Tryz.f15.body, R15⟩ := by kernel_rfl
/-- The loop's record. -/
noncomputable def rec15 (T : Tr Value) (d : Nat) : LoopR := ⟨.ready, none, 15, T, #[7], CA15, CB15, d⟩
theorem round15 {F : FF} {n l v b cap d z : Nat} {T : Tr Value} {bs : List Nat} {h : Heap} (hl : h.b.get l = some (.loop (rec15 T d))) (hT : T.get 2 = some (.pointer (some ⟨v, 0, none⟩)))
    (hv : h.b.get v = some (S.varB 34 [.slice (some ⟨b, 0, none⟩) bs.length cap])) (hb : S.Bytes h b cap bs) (hc : cap < BIG) (hle : bs.length + 1 ≤ cap) (hlv : l ≠ v) (hlb : l ≠ b) (hvb : v ≠ b) (hln : l < h.next) (hvn : v < h.next) (hbn : b < h.next) :
    ∃ h', roundS E F l [.int .u8 (.ofNat z)] h n = some (.val (.bool true) h') ∧ h'.next = h.next + 1 ∧ h'.b.get v = some (S.varB 34 [.slice (some ⟨b, 0, none⟩) (bs ++ [z]).length cap]) ∧ S.Bytes h' b cap (bs ++ [z]) ∧
      ∀ q, q < h.next → q ≠ v → q ≠ b → h'.b.get q = h.b.get q := by
  obtain ⟨H1, hH1⟩ : ∃ H1 : Heap, H1 = putLoop h l (rec15 T d) .busy none := ⟨_, rfl⟩
  have g1 : ∀ q, H1.b.get q = if q = l then some (.loop ⟨.busy, none, 15, T, #[7], CA15, CB15, d⟩) else h.b.get q := fun q => by rw [hH1]; exact S.get_upd
  have n1 : H1.next = h.next := by rw [hH1]; rfl
  obtain ⟨H2, hH2⟩ : ∃ H2 : Heap, H2 = ⟨H1.next + 1, H1.b.put (some (.cells [[Value.int .u8 (.ofNat z)]].length 5 false 1 (Tr.ofList [[Value.int .u8 (.ofNat z)]]))) H1.next⟩ := ⟨_, rfl⟩
  have g2 : ∀ q, H2.b.get q = if q = h.next then some (.cells 1 5 false 1 (Tr.ofList [[Value.int .u8 (.ofNat z)]])) else H1.b.get q := fun q => by rw [hH2, ← n1]; exact Tr.get_put_eq _ _ _
  have n2 : H2.next = h.next + 1 := by rw [hH2, ← n1]
  have hb2 : S.Bytes H2 b cap bs := by
    obtain ⟨c, e1, e2⟩ := hb
    exact ⟨c, by rw [g2, if_neg (by omega), g1, if_neg (Ne.symm hlb)]; exact e1, e2⟩
  have hx2 : S.RowsAt H2 1 (.slice (some ⟨H1.next, 0, none⟩) [z].length 1) (S.bytes [z]) := S.new_rows (b := H1.next) (c := 1) (e := 5) (g := false) (N := 1) (L := [[Value.int .u8 (.ofNat z)]]) (by rw [g2, n1, if_pos rfl]) rfl
  obtain ⟨B, hb3, happ⟩ := S.append_bytes (zs := [z]) hb2 hc hx2 (by simp) (by simpa using hle)
  have g3 : ∀ q, (upd H2 b B).b.get q = if q = b then some B else H2.b.get q := fun q => S.get_upd
  have hv3 : (upd H2 b B).b.get v = some (S.varB 34 [.slice (some ⟨b, 0, none⟩) bs.length cap]) := by rw [g3, if_neg hvb, g2, if_neg (by omega), g1, if_neg (Ne.symm hlv)]; exact hv
  have r1 : ∀ f : KV, loadE (some none) H1 ⟨v, 0, none⟩ f = f (.slice (some ⟨b, 0, none⟩) bs.length cap) := fun f => S.var_cell (by rw [g1, if_neg (Ne.symm hlv)]; exact hv) rfl
  have r2 : ∀ g : List Cells → R, elemsOf 1 [0] [.int .u8 (.ofNat z)] (replC [.int .u8 (.ofNat 0)] 1) g = g [[.int .u8 (.ofNat z)]] := fun g => rfl
  have r3 : ∀ x : R, bT (Nat.ble (Nat.mul 1 1) 65536) x = x := fun x => rfl
  have r4 : ∀ f : KH, mkRows H1 5 false 1 [[Value.int .u8 (.ofNat z)]] f 1 1 = f (.slice (some ⟨H1.next, 0, none⟩) 1 1) H2 := fun f => by rw [hH2]; exact S.mkRows_eq
  have r5 : ∀ f : KH, appendE (some ⟨5, 1, 1, [.int .u8 (.ofNat 0)]⟩) H2 (.slice (some ⟨b, 0, none⟩) bs.length cap) (.slice (some ⟨H1.next, 0, none⟩) 1 1) f = f (.slice (some ⟨b, 0, none⟩) (bs.length + 1) cap) (upd H2 b B) := happ
  have r6 : ∀ f : KS, storeE (some 1) (upd H2 b B) ⟨v, 0, none⟩ (.slice (some ⟨b, 0, none⟩) (bs.length + 1) cap) f = f (upd (upd H2 b B) v (S.varB 34 [.slice (some ⟨b, 0, none⟩) (bs.length + 1) cap])) := fun f => by
    rw [S.store_1 (fun g => rfl)]
    exact S.var_store hv3 (by simp) (by simp)
  refine ⟨upd (upd (upd H2 b B) v (S.varB 34 [.slice (some ⟨b, 0, none⟩) (bs.length + 1) cap])) l (.loop (rec15 T d)), ?_, n2, ?_, ?_, fun q h1 h2 h3 => ?_⟩
  · have hl4 : (upd (upd H2 b B) v (S.varB 34 [.slice (some ⟨b, 0, none⟩) (bs.length + 1) cap])).b.get l = some (.loop ⟨.busy, none, 15, T, #[7], CA15, CB15, d⟩) := by
      rw [S.get_upd, if_neg hlv, g3, if_neg hlb, g2, if_neg (by omega), g1, if_pos rfl]
    show cLoop (h.b.get l) (fun r => oS (pf E r.fn) fun p => setParams p.M.nt r.params.toList [.int .u8 (.ofNat z)] r.T fun T => evC E p.M r.assign ⟨F, some l, r.fn, n⟩ ⟨T, [], h⟩ (roundMid E p.M l ⟨F, some l, r.fn, n⟩ r.body)) = _
    rw [hl]
    show oS (pf E 15) (fun p => setParams p.M.nt [7] [.int .u8 (.ofNat z)] T fun T => evC E p.M CA15 ⟨F, some l, 15, n⟩ ⟨T, [], h⟩ (roundMid E p.M l ⟨F, some l, 15, n⟩ CB15)) = _
    rw [pf15]
    show evC E M15 CA15 ⟨F, some l, 15, n⟩ ⟨T.put (some (.int .u8 (.ofNat z))) 7, [], h⟩ (roundMid E M15 l ⟨F, some l, 15, n⟩ CB15) = _
    rw [evC_eq, show prep E M15 CA15 = A15_0 from prepA15]
    unfold A15_0
    simp only [↓S.skip, ↓S.seq, ↓S.reg, ↓S.cond, ↓S.block, ↓S.loop, ↓S.exit, ↓S.ret, ↓S.seqK_n, ↓S.seqK_e, ↓S.seqK_r, ↓S.blockK_n, ↓S.blockK_r, ↓S.blockK_e, ↓S.ops_nil, ↓S.ops_cons, ↓S.ops_gt, ↓S.ops_gf, ↓S.put_non, ↓S.put_loc, ↓S.put_frm, ↓S.o_loc, ↓S.o_frm, ↓S.o_const, ↓S.first_cons, ↓S.l_nil, ↓S.l_cons, ↓S.op_none, ↓S.op_some, ↓S.move, ↓S.pick, ↓S.alloc, ↓S.box, ↓S.build, ↓S.buildSlice, ↓S.load, ↓S.store, ↓S.nil_, ↓S.bin, ↓S.un, ↓S.conv, ↓S.func, ↓S.makeSlice, ↓S.strSlice, ↓S.fieldAddr, ↓S.field, ↓S.indexSl, ↓S.indexStr, ↓S.extract, ↓S.len, ↓S.lenStr, ↓S.min, ↓S.append, ↓S.call, ↓S.some_, ↓S.oc_some, ↓S.oc_none, ↓S.bT_t, ↓S.bI_t, ↓S.bI_f, ↓S.nC_0, ↓S.nC_s, ↓S.lc_nil, ↓S.lc_cons, ↓S.g_bool, ↓S.g_undef, ↓S.v_int, ↓S.v_bool, ↓S.v_ptr, ↓S.v_slice, ↓S.v_str, ↓S.v_agg, ↓S.v_tuple, ↓S.v_func, ↓S.r_val, ↓S.f_int, ↓S.f_bool, ↓S.f_ptr, ↓S.f_slice, ↓S.f_agg, ↓S.spot_, ↓S.nat_k, ↓S.nat_i, ↓S.ptr_k, ↓S.int_op, ↓S.sh_op, ↓S.add, ↓S.sub, ↓S.mul, ↓S.lss, ↓S.gtr, ↓S.leq, ↓S.geq, ↓S.eqi, ↓S.nei, ↓S.not_, ↓S.convi, ↓S.fn_n, ↓S.fn_r, ↓S.done_nil, ↓S.res_nil, ↓S.res_tmp, ↓S.res_cell, ↓S.res_0, ↓S.res_1, ↓S.res_2, ↓S.args_nil, ↓S.args_cons, Tr.get_put_eq, if_true, if_false, ↓reduceIte, List.nil_append, Nat.reduceEqDiff, Nat.reduceSucc, Nat.zero_add, Nat.reduceAdd, Nat.reduceMul, Nat.zero_ne_one, Nat.one_ne_zero, Bool.not_true, Bool.not_false]
    show cLoop (h.b.get l) (fun r => roundMid.isR r.state (evC E M15 CB15 ⟨F, some l, 15, n⟩ ⟨((T.put (some (.int .u8 (.ofNat z))) 7).put (some (.int .u8 (.ofNat z))) 5), [], putLoop h l r .busy r.pending⟩ (roundEnd l))) = _
    rw [hl]
    show evC E M15 CB15 ⟨F, some l, 15, n⟩ ⟨((T.put (some (.int .u8 (.ofNat z))) 7).put (some (.int .u8 (.ofNat z))) 5), [], putLoop h l (rec15 T d) .busy none⟩ (roundEnd l) = _
    rw [← hH1, evC_eq, show prep E M15 CB15 = B15_0 from prepB15]
    unfold B15_0
    simp only [↓S.skip, ↓S.seq, ↓S.reg, ↓S.cond, ↓S.block, ↓S.loop, ↓S.exit, ↓S.ret, ↓S.seqK_n, ↓S.seqK_e, ↓S.seqK_r, ↓S.blockK_n, ↓S.blockK_r, ↓S.blockK_e, ↓S.ops_nil, ↓S.ops_cons, ↓S.ops_gt, ↓S.ops_gf, ↓S.put_non, ↓S.put_loc, ↓S.put_frm, ↓S.o_loc, ↓S.o_frm, ↓S.o_const, ↓S.first_cons, ↓S.l_nil, ↓S.l_cons, ↓S.op_none, ↓S.op_some, ↓S.move, ↓S.pick, ↓S.alloc, ↓S.box, ↓S.build, ↓S.buildSlice, ↓S.load, ↓S.store, ↓S.nil_, ↓S.bin, ↓S.un, ↓S.conv, ↓S.func, ↓S.makeSlice, ↓S.strSlice, ↓S.fieldAddr, ↓S.field, ↓S.indexSl, ↓S.indexStr, ↓S.extract, ↓S.len, ↓S.lenStr, ↓S.min, ↓S.append, ↓S.call, ↓S.some_, ↓S.oc_some, ↓S.oc_none, ↓S.bT_t, ↓S.bI_t, ↓S.bI_f, ↓S.nC_0, ↓S.nC_s, ↓S.lc_nil, ↓S.lc_cons, ↓S.g_bool, ↓S.g_undef, ↓S.v_int, ↓S.v_bool, ↓S.v_ptr, ↓S.v_slice, ↓S.v_str, ↓S.v_agg, ↓S.v_tuple, ↓S.v_func, ↓S.r_val, ↓S.f_int, ↓S.f_bool, ↓S.f_ptr, ↓S.f_slice, ↓S.f_agg, ↓S.spot_, ↓S.nat_k, ↓S.nat_i, ↓S.ptr_k, ↓S.int_op, ↓S.sh_op, ↓S.add, ↓S.sub, ↓S.mul, ↓S.lss, ↓S.gtr, ↓S.leq, ↓S.geq, ↓S.eqi, ↓S.nei, ↓S.not_, ↓S.convi, ↓S.fn_n, ↓S.fn_r, ↓S.done_nil, ↓S.res_nil, ↓S.res_tmp, ↓S.res_cell, ↓S.res_0, ↓S.res_1, ↓S.res_2, ↓S.args_nil, ↓S.args_cons, Tr.get_put_eq, if_true, if_false, ↓reduceIte, List.nil_append, Nat.reduceEqDiff, Nat.reduceSucc, Nat.zero_add, Nat.reduceAdd, Nat.reduceMul, Nat.zero_ne_one, Nat.one_ne_zero, Bool.not_true, Bool.not_false, ↓hT, ↓r1, ↓r2, ↓r3, ↓r4, ↓r5, ↓r6]
    show cLoop ((upd (upd H2 b B) v (S.varB 34 [.slice (some ⟨b, 0, none⟩) (bs.length + 1) cap])).b.get l) (fun r => some (.val (.bool true) (putLoop _ l r .ready none))) = _
    rw [hl4]
    rfl
  · rw [S.get_upd, if_neg (Ne.symm hlv), S.get_upd, if_pos rfl]; simp
  · obtain ⟨c, e1, e2⟩ := hb3
    exact ⟨c, by rw [S.get_upd, if_neg (Ne.symm hlb), S.get_upd, if_neg (Ne.symm hvb)]; exact e1, e2⟩
  · rw [S.get_upd]
    by_cases hq : q = l
    · rw [if_pos hq, hq, hl]
    · rw [if_neg hq, S.get_upd, if_neg h2, g3, if_neg h3, g2, if_neg (by omega), g1, if_neg hq]
end T
set_option linter.unusedVariables false
set_option linter.unusedSimpArgs false
open Go Go.Ev Go.Proofs
namespace T
set_option maxRecDepth 100000
def bytes8 (x k : Nat) : List Nat := (List.range k).map (byteAt x)
theorem bytes8_succ (x k : Nat) : bytes8 x (k + 1) = bytes8 x k ++ [byteAt x k] := by simp [bytes8, List.range_succ]
theorem bytes8_len (x k : Nat) : (bytes8 x k).length = k := by simp [bytes8]
theorem run15 {F F1 F2 : FF} {n n1 n2 b cap p x : Nat} {bs : List Nat} {h : Heap}
    (hF : ∀ l h, F (.func 26) [.func (.yield l) #[] #[]] [.pointer (some ⟨p, 0, none⟩)] h = enterF E F1 26 [.func (.yield l) #[] #[], .pointer (some ⟨p, 0, none⟩)] h n1) (hn1 : 8 < n1)
    (hF1 : ∀ l z h, F1 (.yield l) [.int .u8 (.ofNat z)] [] h = roundS E F2 l [.int .u8 (.ofNat z)] h n2)
    (hp : h.b.get p = some (S.varB 40 [.int .u64 (.ofNat x)])) (hb : S.Bytes h b cap bs) (hc : cap < BIG) (hle : bs.length + 8 ≤ cap) (hpb : p ≠ b) (hpn : p < h.next) (hbn : b < h.next) :
    ∃ h', enterF E F 15 [.slice (some ⟨b, 0, none⟩) bs.length cap, .func (.func 26) #[] #[.pointer (some ⟨p, 0, none⟩)]] h n = some (.val (.slice (some ⟨b, 0, none⟩) (bs ++ bytes8 x 8).length cap) h') ∧
      h.next ≤ h'.next ∧ S.Bytes h' b cap (bs ++ bytes8 x 8) ∧ ∀ q, q < h.next → q ≠ b → h'.b.get q = h.b.get q := by
  rw [enterF_eq pfn15 (by simp [M15])]
  show ∃ h', evP P15 ⟨F, none, 15, n⟩ ⟨argsT [.slice (some ⟨b, 0, none⟩) bs.length cap, .func (.func 26) #[] #[.pointer (some ⟨p, 0, none⟩)]] 0 .leaf, [], h⟩ (fnK R15) = _ ∧ _
  obtain ⟨HA, hHA⟩ : ∃ HA : Heap, HA = ⟨h.next + 1, h.b.put (some (S.varB 34 [.slice (some ⟨b, 0, none⟩) bs.length cap])) h.next⟩ := ⟨_, rfl⟩
  have r1 : ∀ f : KH, mkVar h 34 [.slice (some ⟨b, 0, none⟩) bs.length cap] f = f (.pointer (some ⟨h.next, 0, none⟩)) HA := fun f => by rw [hHA]; exact S.mkVar_eq
  have gA : ∀ q, HA.b.get q = if q = h.next then some (S.varB 34 [.slice (some ⟨b, 0, none⟩) bs.length cap]) else h.b.get q := fun q => by rw [hHA]; exact Tr.get_put_eq _ _ _
  have nA : HA.next = h.next + 1 := by rw [hHA]
  have key : ∃ T' : Tr Value, evP P15 ⟨F, none, 15, n⟩ ⟨argsT [.slice (some ⟨b, 0, none⟩) bs.length cap, .func (.func 26) #[] #[.pointer (some ⟨p, 0, none⟩)]] 0 .leaf, [], h⟩ (fnK R15) = evP (.rf (.frm 6) #[7] CA15 CB15) ⟨F, none, 15, n⟩ ⟨T', [], HA⟩ (blockK 0 (seqK (evP (.seq (.reg [⟨.load (some none) (.frm 2), .loc 12, none⟩, ⟨.move (.loc 12), .frm 4, none⟩]) .ret)) ⟨F, none, 15, n⟩ (fnK [.tmp (.frm 4)]))) ∧ T'.get 6 = some (.func (.func 26) #[] #[.pointer (some ⟨p, 0, none⟩)]) ∧ T'.get 2 = some (.pointer (some ⟨h.next, 0, none⟩)) := by
    apply Exists.intro
    apply And.intro
    · unfold P15 R15
      simp only [↓S.skip, ↓S.seq, ↓S.reg, ↓S.cond, ↓S.block, ↓S.loop, ↓S.exit, ↓S.ret, ↓S.seqK_n, ↓S.seqK_e, ↓S.seqK_r, ↓S.blockK_n, ↓S.blockK_r, ↓S.blockK_e, ↓S.ops_nil, ↓S.ops_cons, ↓S.ops_gt, ↓S.ops_gf, ↓S.put_non, ↓S.put_loc, ↓S.put_frm, ↓S.o_loc, ↓S.o_frm, ↓S.o_const, ↓S.first_cons, ↓S.l_nil, ↓S.l_cons, ↓S.op_none, ↓S.op_some, ↓S.move, ↓S.pick, ↓S.alloc, ↓S.box, ↓S.build, ↓S.buildSlice, ↓S.load, ↓S.store, ↓S.nil_, ↓S.bin, ↓S.un, ↓S.conv, ↓S.func, ↓S.makeSlice, ↓S.strSlice, ↓S.fieldAddr, ↓S.field, ↓S.indexSl, ↓S.indexStr, ↓S.extract, ↓S.len, ↓S.lenStr, ↓S.min, ↓S.append, ↓S.call, ↓S.some_, ↓S.oc_some, ↓S.oc_none, ↓S.bT_t, ↓S.bI_t, ↓S.bI_f, ↓S.nC_0, ↓S.nC_s, ↓S.lc_nil, ↓S.lc_cons, ↓S.g_bool, ↓S.g_undef, ↓S.v_int, ↓S.v_bool, ↓S.v_ptr, ↓S.v_slice, ↓S.v_str, ↓S.v_agg, ↓S.v_tuple, ↓S.v_func, ↓S.r_val, ↓S.f_int, ↓S.f_bool, ↓S.f_ptr, ↓S.f_slice, ↓S.f_agg, ↓S.spot_, ↓S.nat_k, ↓S.nat_i, ↓S.ptr_k, ↓S.int_op, ↓S.sh_op, ↓S.add, ↓S.sub, ↓S.mul, ↓S.lss, ↓S.gtr, ↓S.leq, ↓S.geq, ↓S.eqi, ↓S.nei, ↓S.not_, ↓S.convi, ↓S.fn_n, ↓S.fn_r, ↓S.done_nil, ↓S.res_nil, ↓S.res_tmp, ↓S.res_cell, ↓S.res_0, ↓S.res_1, ↓S.res_2, ↓S.args_nil, ↓S.args_cons, Tr.get_put_eq, if_true, if_false, ↓reduceIte, List.nil_append, Nat.reduceEqDiff, Nat.reduceSucc, Nat.zero_add, Nat.reduceAdd, Nat.reduceMul, Nat.zero_ne_one, Nat.one_ne_zero, Bool.not_true, Bool.not_false, ↓r1]
      rfl
    · simp only [↓S.skip, ↓S.seq, ↓S.reg, ↓S.cond, ↓S.block, ↓S.loop, ↓S.exit, ↓S.ret, ↓S.seqK_n, ↓S.seqK_e, ↓S.seqK_r, ↓S.blockK_n, ↓S.blockK_r, ↓S.blockK_e, ↓S.ops_nil, ↓S.ops_cons, ↓S.ops_gt, ↓S.ops_gf, ↓S.put_non, ↓S.put_loc, ↓S.put_frm, ↓S.o_loc, ↓S.o_frm, ↓S.o_const, ↓S.first_cons, ↓S.l_nil, ↓S.l_cons, ↓S.op_none, ↓S.op_some, ↓S.move, ↓S.pick, ↓S.alloc, ↓S.box, ↓S.build, ↓S.buildSlice, ↓S.load, ↓S.store, ↓S.nil_, ↓S.bin, ↓S.un, ↓S.conv, ↓S.func, ↓S.makeSlice, ↓S.strSlice, ↓S.fieldAddr, ↓S.field, ↓S.indexSl, ↓S.indexStr, ↓S.extract, ↓S.len, ↓S.lenStr, ↓S.min, ↓S.append, ↓S.call, ↓S.some_, ↓S.oc_some, ↓S.oc_none, ↓S.bT_t, ↓S.bI_t, ↓S.bI_f, ↓S.nC_0, ↓S.nC_s, ↓S.lc_nil, ↓S.lc_cons, ↓S.g_bool, ↓S.g_undef, ↓S.v_int, ↓S.v_bool, ↓S.v_ptr, ↓S.v_slice, ↓S.v_str, ↓S.v_agg, ↓S.v_tuple, ↓S.v_func, ↓S.r_val, ↓S.f_int, ↓S.f_bool, ↓S.f_ptr, ↓S.f_slice, ↓S.f_agg, ↓S.spot_, ↓S.nat_k, ↓S.nat_i, ↓S.ptr_k, ↓S.int_op, ↓S.sh_op, ↓S.add, ↓S.sub, ↓S.mul, ↓S.lss, ↓S.gtr, ↓S.leq, ↓S.geq, ↓S.eqi, ↓S.nei, ↓S.not_, ↓S.convi, ↓S.fn_n, ↓S.fn_r, ↓S.done_nil, ↓S.res_nil, ↓S.res_tmp, ↓S.res_cell, ↓S.res_0, ↓S.res_1, ↓S.res_2, ↓S.args_nil, ↓S.args_cons, Tr.get_put_eq, if_true, if_false, ↓reduceIte, List.nil_append, Nat.reduceEqDiff, Nat.reduceSucc, Nat.zero_add, Nat.reduceAdd, Nat.reduceMul, Nat.zero_ne_one, Nat.one_ne_zero, Bool.not_true, Bool.not_false, and_true, true_and]
  obtain ⟨T, e0, h6, h2⟩ := key
  rw [e0, S.rf h6]
  obtain ⟨HB, hHB⟩ : ∃ HB : Heap, HB = ⟨HA.next + 2, (HA.b.put (some (.dfr true)) HA.next).put (some (.loop (rec15 T HA.next))) (HA.next + 1)⟩ := ⟨_, rfl⟩
  have gB : ∀ q, HB.b.get q = if q = h.next + 2 then some (.loop (rec15 T (h.next + 1))) else if q = h.next + 1 then some (.dfr true) else HA.b.get q := fun q => by
    rw [hHB, nA]
    show ((HA.b.put (some (.dfr true)) (h.next + 1)).put (some (.loop (rec15 T (h.next + 1)))) (h.next + 1 + 1)).get q = _
    rw [Tr.get_put_eq, Tr.get_put_eq]
  have nB : HB.next = h.next + 3 := by rw [hHB, nA]
  obtain ⟨h8, hy, j1, j2, j3, j4⟩ := run26 (F := F1) (l := h.next + 2) (p := p) (x := x) (n := n1)
    (J := fun i h' => h'.next = HB.next + i ∧ h'.b.get h.next = some (S.varB 34 [.slice (some ⟨b, 0, none⟩) (bs ++ bytes8 x i).length cap]) ∧ S.Bytes h' b cap (bs ++ bytes8 x i) ∧ ∀ q, q < HB.next → q ≠ h.next → q ≠ b → h'.b.get q = HB.b.get q)
    (fun i h' hi ⟨k1, k2, k3, k4⟩ => by
      rw [hF1]
      have hlen : (bs ++ bytes8 x i).length = bs.length + i := by rw [List.length_append, bytes8_len]
      obtain ⟨h'', q1, q2, q3, q4, q5⟩ := round15 (F := F2) (n := n2) (l := h.next + 2) (v := h.next) (b := b) (cap := cap) (d := h.next + 1) (z := byteAt x i) (T := T) (bs := bs ++ bytes8 x i) (h := h') (by rw [k4 _ (by omega) (by omega) (by omega), gB, if_pos rfl]) h2 k2 k3 hc (by omega) (by omega) (by omega) (by omega) (by omega) (by omega) (by omega)
      refine ⟨h'', q1, by omega, by rw [q3, bytes8_succ, List.append_assoc], by rw [bytes8_succ, ← List.append_assoc]; exact q4, fun q e1 e2 e3 => by rw [q5 q (by omega) e2 e3, k4 q e1 e2 e3]⟩)
    (fun i h' ⟨k1, k2, k3, k4⟩ => by rw [k4 p (by omega) (by omega) hpb, gB, if_neg (by omega), if_neg (by omega), gA, if_neg (by omega)]; exact hp)
    (h := HB) ⟨by omega, by rw [gB, if_neg (by omega), if_neg (by omega), gA, if_pos rfl]; simp [bytes8], by
      obtain ⟨c, e1, e2⟩ := hb
      refine ⟨c, by rw [gB, if_neg (by omega), if_neg (by omega), gA, if_neg (by omega)]; exact e1, ?_⟩
      simpa [bytes8] using e2, fun q _ _ _ => rfl⟩ hn1
  have hF' : F (.func 26) ((#[] : Array Value).toList ++ [.func (.yield (HA.next + 1)) #[] #[]]) (#[.pointer (some ⟨p, 0, none⟩)] : Array Value).toList ⟨HA.next + 2, (HA.b.put (some (.dfr true)) HA.next).put (some (.loop ⟨.ready, none, 15, T, #[7], CA15, CB15, HA.next⟩)) (HA.next + 1)⟩ = some (.val (.tuple #[]) h8) := by
    refine Eq.trans (hF (HA.next + 1) _) ?_
    rw [nA] at hHB ⊢
    rw [hHB] at hy
    exact hy
  rw [hF', S.r_val]
  have hl8 : h8.b.get (HA.next + 1) = some (.loop (rec15 T (h.next + 1))) := by rw [nA, j4 _ (by omega) (by omega) (by omega), gB, if_pos rfl]
  have hr8 : h8.b.get (h.next + 1) = some (.dfr true) := by rw [j4 _ (by omega) (by omega) (by omega), gB, if_neg (by omega), if_pos rfl]
  show ∃ h', cLoop (h8.b.get (HA.next + 1)) (fun r => stOut r.state (oS (jumpOut r.pending) fun o => blockK 0 (seqK (evP (.seq (.reg [⟨.load (some none) (.frm 2), .loc 12, none⟩, ⟨.move (.loc 12), .frm 4, none⟩]) .ret)) ⟨F, none, 15, n⟩ (fnK [.tmp (.frm 4)])) o ⟨T, { target := .collected HA.next, args := #[] } :: [], putLoop h8 (HA.next + 1) r .exhausted r.pending⟩)) = _ ∧ _
  rw [hl8]
  show ∃ h', blockK 0 (seqK (evP (.seq (.reg [⟨.load (some none) (.frm 2), .loc 12, none⟩, ⟨.move (.loc 12), .frm 4, none⟩]) .ret)) ⟨F, none, 15, n⟩ (fnK [.tmp (.frm 4)])) .normal ⟨T, { target := .collected HA.next, args := #[] } :: [], putLoop h8 (HA.next + 1) (rec15 T (h.next + 1)) .exhausted none⟩ = _ ∧ _
  obtain ⟨HC, hHC⟩ : ∃ HC : Heap, HC = putLoop h8 (HA.next + 1) (rec15 T (h.next + 1)) .exhausted none := ⟨_, rfl⟩
  rw [← hHC]
  have gC : ∀ q, q ≠ h.next + 2 → HC.b.get q = h8.b.get q := fun q hq => by rw [hHC]; exact (S.get_upd.trans (if_neg (by rw [nA]; exact hq)))
  have nC : HC.next = h8.next := by rw [hHC]; rfl
  have r2 : ∀ f : KV, loadE (some none) HC ⟨h.next, 0, none⟩ f = f (.slice (some ⟨b, 0, none⟩) (bs ++ bytes8 x 8).length cap) := fun f => S.var_cell (by rw [gC _ (by omega)]; exact j2) rfl
  have r3 : ∀ f : Bool → R, cDfr (blk HC HA.next) f = f true := fun f => by
    show cDfr (HC.b.get HA.next) f = _
    rw [gC _ (by omega), nA, hr8]; rfl
  refine ⟨upd HC HA.next (.dfr false), ?_, ?_, ?_, fun q e1 e2 => ?_⟩
  · simp only [↓S.skip, ↓S.seq, ↓S.reg, ↓S.cond, ↓S.block, ↓S.loop, ↓S.exit, ↓S.ret, ↓S.seqK_n, ↓S.seqK_e, ↓S.seqK_r, ↓S.blockK_n, ↓S.blockK_r, ↓S.blockK_e, ↓S.ops_nil, ↓S.ops_cons, ↓S.ops_gt, ↓S.ops_gf, ↓S.put_non, ↓S.put_loc, ↓S.put_frm, ↓S.o_loc, ↓S.o_frm, ↓S.o_const, ↓S.first_cons, ↓S.l_nil, ↓S.l_cons, ↓S.op_none, ↓S.op_some, ↓S.move, ↓S.pick, ↓S.alloc, ↓S.box, ↓S.build, ↓S.buildSlice, ↓S.load, ↓S.store, ↓S.nil_, ↓S.bin, ↓S.un, ↓S.conv, ↓S.func, ↓S.makeSlice, ↓S.strSlice, ↓S.fieldAddr, ↓S.field, ↓S.indexSl, ↓S.indexStr, ↓S.extract, ↓S.len, ↓S.lenStr, ↓S.min, ↓S.append, ↓S.call, ↓S.some_, ↓S.oc_some, ↓S.oc_none, ↓S.bT_t, ↓S.bI_t, ↓S.bI_f, ↓S.nC_0, ↓S.nC_s, ↓S.lc_nil, ↓S.lc_cons, ↓S.g_bool, ↓S.g_undef, ↓S.v_int, ↓S.v_bool, ↓S.v_ptr, ↓S.v_slice, ↓S.v_str, ↓S.v_agg, ↓S.v_tuple, ↓S.v_func, ↓S.r_val, ↓S.f_int, ↓S.f_bool, ↓S.f_ptr, ↓S.f_slice, ↓S.f_agg, ↓S.spot_, ↓S.nat_k, ↓S.nat_i, ↓S.ptr_k, ↓S.int_op, ↓S.sh_op, ↓S.add, ↓S.sub, ↓S.mul, ↓S.lss, ↓S.gtr, ↓S.leq, ↓S.geq, ↓S.eqi, ↓S.nei, ↓S.not_, ↓S.convi, ↓S.fn_n, ↓S.fn_r, ↓S.done_nil, ↓S.res_nil, ↓S.res_tmp, ↓S.res_cell, ↓S.res_0, ↓S.res_1, ↓S.res_2, ↓S.args_nil, ↓S.args_cons, Tr.get_put_eq, if_true, if_false, ↓reduceIte, List.nil_append, Nat.reduceEqDiff, Nat.reduceSucc, Nat.zero_add, Nat.reduceAdd, Nat.reduceMul, Nat.zero_ne_one, Nat.one_ne_zero, Bool.not_true, Bool.not_false, ↓h2, ↓r2, ↓r3, ↓S.done_mark]
  · show h.next ≤ HC.next; omega
  · obtain ⟨c, e1, e2⟩ := j3
    exact ⟨c, by rw [S.get_upd, if_neg (by omega), gC _ (by omega)]; exact e1, e2⟩
  · rw [S.get_upd, if_neg (by omega), gC _ (by omega), j4 q (by omega) (by omega) e2, gB, if_neg (by omega), if_neg (by omega), gA, if_neg (by omega)]
end T
