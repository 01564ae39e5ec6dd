/- same of equal lists; notes and bytes there and back; TraceBack answers true in the evaluator, over any notes and any bytes that a program can hold. -/
import Derived.Test.YtphkjlkgfcjbmaaGreatDoorRunC
set_option linter.all false
set_option linter.unusedVariables false
set_option linter.unusedSimpArgs false
open Go Go.Ev Go.Proofs
namespace T
set_option maxRecDepth 100000
theorem eqI_self {a : Int} : eqI a a = true := by rw [eqI_eq]; simp
theorem eqRow (th : Bool) (who : Int) (kind : Nat) (tw times err : Int) (sum : Nat) (k : Bool → R) : eqTy E 50 42 (.agg ⟨[.bool th, .int .i64 who, .int .u8 (.ofNat kind), .int .i64 tw, .int .i64 times, .int .i64 err, .int .u64 (.ofNat sum)]⟩) (.agg ⟨[.bool th, .int .i64 who, .int .u8 (.ofNat kind), .int .i64 tw, .int .i64 times, .int .i64 err, .int .u64 (.ofNat sum)]⟩) k =
    bI (Bool.rec (motive := fun _ => Bool) (notB th) th th) (bI (eqI who who) (bI (eqI (.ofNat kind) (.ofNat kind)) (bI (eqI tw tw) (bI (eqI times times) (bI (eqI err err) (bI (eqI (.ofNat sum) (.ofNat sum)) (k true) (k false)) (k false)) (k false)) (k false)) (k false)) (k false)) (k false) := by
  cases th
  · kernel_rfl
  · kernel_rfl
theorem neRow (nt : Nt) (f : KV) : neqOp E (.agg 42) (.agg ⟨nt.cells⟩) (.agg ⟨nt.cells⟩) f = f (.bool false) := by
  show eqTy E 50 42 (.agg ⟨nt.cells⟩) (.agg ⟨nt.cells⟩) (fun b => kBool f (notB b)) = _
  refine Eq.trans (eqRow nt.th nt.who nt.kind nt.tw nt.times nt.err nt.sum _) ?_
  have e : (Bool.rec (motive := fun _ => Bool) (notB nt.th) nt.th nt.th : Bool) = true := by cases nt.th <;> rfl
  rw [e, eqI_self, eqI_self, eqI_self, eqI_self, eqI_self, eqI_self]
  rfl
theorem sm6 {F : FF} {fu nx i : Nat} {B : Tr Blk} {T : Tr Value} {D : List Deferred} {v w : Value} {nts : List Nt} (hv : S.RowsAt ⟨nx, B⟩ 7 v (nts.map Nt.cells)) (hw : S.RowsAt ⟨nx, B⟩ 7 w (nts.map Nt.cells)) (hi : i < nts.length)
    (T0 : T.get 0 = some v) (T1 : T.get 1 = some w) (T5 : T.get 5 = some (.int .i64 (.ofNat i))) (k : K) :
    evP G12_6 ⟨F, none, 12, fu⟩ ⟨T, D, ⟨nx, B⟩⟩ k = k .normal ⟨T.put (some (.bool false)) 24, D, ⟨nx, B⟩⟩ := by
  obtain ⟨nt, hnt⟩ : ∃ nt, nts[i]? = some nt := ⟨nts[i], by simp [hi]⟩
  have hrow : (nts.map Nt.cells)[i]? = some nt.cells := by rw [List.getElem?_map, hnt]; rfl
  obtain ⟨a, c, ev, _⟩ := id hv
  subst ev
  obtain ⟨a', c', ew, _⟩ := id hw
  subst ew
  obtain ⟨nb, o, ha, hr⟩ := hv.row hrow rfl (by omega)
  subst ha
  obtain ⟨nb', o', ha', hr'⟩ := hw.row hrow rfl (by omega)
  subst ha'
  have hblt : Nat.blt i (nts.map Nt.cells).length = true := (blt_iff _ _).2 (by simpa using hi)
  have r1 : ∀ f : KV, loadE (some (some 7)) ⟨nx, B⟩ ⟨nb, o * 7 + Nat.mul i 7, none⟩ f = f (.agg ⟨nt.cells⟩) := fun f => by
    have := hr.whole (f := f)
    rwa [show (o + i) * nt.cells.length = o * 7 + Nat.mul i 7 from Nat.add_mul o i 7] at this
  have r2 : ∀ f : KV, loadE (some (some 7)) ⟨nx, B⟩ ⟨nb', o' * 7 + Nat.mul i 7, none⟩ f = f (.agg ⟨nt.cells⟩) := fun f => by
    have := hr'.whole (f := f)
    rwa [show (o' + i) * nt.cells.length = o' * 7 + Nat.mul i 7 from Nat.add_mul o' i 7] at this
  have r3 := fun f => neRow nt f
  unfold G12_6
  simp only [↓S.skip, ↓S.seq, ↓S.reg, ↓S.cond, ↓S.block, ↓S.loop, ↓S.exit, ↓S.ret, ↓S.seqK_n, ↓S.seqK_e, ↓S.seqK_r, ↓S.blockK_n, ↓S.blockK_r, ↓S.blockK_e, ↓S.ops_nil, ↓S.ops_cons, ↓S.ops_gt, ↓S.ops_gf, ↓S.put_non, ↓S.put_loc, ↓S.put_frm, ↓S.o_loc, ↓S.o_frm, ↓S.o_const, ↓S.first_cons, ↓S.l_nil, ↓S.l_cons, ↓S.op_none, ↓S.op_some, ↓S.move, ↓S.pick, ↓S.alloc, ↓S.box, ↓S.build, ↓S.buildSlice, ↓S.load, ↓S.store, ↓S.nil_, ↓S.bin, ↓S.un, ↓S.conv, ↓S.func, ↓S.makeSlice, ↓S.strSlice, ↓S.fieldAddr, ↓S.field, ↓S.indexSl, ↓S.indexStr, ↓S.extract, ↓S.len, ↓S.lenStr, ↓S.min, ↓S.append, ↓S.call, ↓S.some_, ↓S.oc_some, ↓S.oc_none, ↓S.bT_t, ↓S.bI_t, ↓S.bI_f, ↓S.nC_0, ↓S.nC_s, ↓S.lc_nil, ↓S.lc_cons, ↓S.g_bool, ↓S.g_undef, ↓S.v_int, ↓S.v_bool, ↓S.v_ptr, ↓S.v_slice, ↓S.v_str, ↓S.v_agg, ↓S.v_tuple, ↓S.v_func, ↓S.r_val, ↓S.f_int, ↓S.f_bool, ↓S.f_ptr, ↓S.f_slice, ↓S.f_agg, ↓S.spot_, ↓S.nat_k, ↓S.nat_i, ↓S.ptr_k, ↓S.int_op, ↓S.sh_op, ↓S.add, ↓S.sub, ↓S.mul, ↓S.lss, ↓S.gtr, ↓S.leq, ↓S.geq, ↓S.eqi, ↓S.nei, ↓S.not_, ↓S.convi, ↓S.fn_n, ↓S.fn_r, ↓S.done_nil, ↓S.res_nil, ↓S.res_tmp, ↓S.res_cell, ↓S.res_0, ↓S.res_1, ↓S.res_2, ↓S.args_nil, ↓S.args_cons, Tr.get_put_eq, if_true, if_false, ↓reduceIte, List.nil_append, Nat.reduceEqDiff, Nat.reduceSucc, Nat.zero_add, Nat.reduceAdd, Nat.reduceMul, Nat.zero_ne_one, Nat.one_ne_zero, Bool.not_true, Bool.not_false, ↓S.draw, ↓S.d_nil, ↓S.d_cons, ↓S.d0, ↓S.d1, ↓S.d2, ↓S.d3, ↓S.to_nil, ↓S.to_cons, ↓S.tr_nil, ↓S.tr_cons, ↓S.again_, ↓S.merge_, ↓S.ma_nil, ↓S.ma_all, ↓S.ma_cons, ↓S.ret_, ↓S.same_int, ↓S.same_bool, ↓S.beq_self, ↓S.blt_succ, ↓T0, ↓T1, ↓T5, ↓hblt, ↓r1, ↓r2, ↓r3]
theorem loop12 {F : FF} {fu nx : Nat} {B : Tr Blk} {K : K} {D : List Deferred} {v w : Value} {nts : List Nt} (hv : S.RowsAt ⟨nx, B⟩ 7 v (nts.map Nt.cells)) (hw : S.RowsAt ⟨nx, B⟩ 7 w (nts.map Nt.cells)) (hlen : nts.length < 9223372036854775807) :
    ∀ (d i m : Nat) (T : Tr Value), nts.length = i + d → d < m → T.get 0 = some v → T.get 1 = some w → T.get 12 = some (.int .i64 (.ofNat nts.length)) → T.get 13 = some (.int .i64 (.ofNat i)) →
      ∃ T', loopS (evP L12_0) ⟨F, none, 12, fu⟩ K m ⟨T, D, ⟨nx, B⟩⟩ = K (.exit 0) ⟨T', D, ⟨nx, B⟩⟩ := by
  intro d
  induction d with
  | zero =>
    intro i m T hi hm h0 h1 h12 h13
    obtain ⟨m, rfl⟩ : ∃ q, m = q + 1 := ⟨m - 1, by omega⟩
    have hlt : decide (i < nts.length) = false := by simp; omega
    refine ⟨T.put (some (.bool false)) 14, ?_⟩
    rw [S.loop1]
    unfold L12_0 G12_4
    simp only [↓S.skip, ↓S.seq, ↓S.reg, ↓S.cond, ↓S.block, ↓S.loop, ↓S.exit, ↓S.ret, ↓S.seqK_n, ↓S.seqK_e, ↓S.seqK_r, ↓S.blockK_n, ↓S.blockK_r, ↓S.blockK_e, ↓S.ops_nil, ↓S.ops_cons, ↓S.ops_gt, ↓S.ops_gf, ↓S.put_non, ↓S.put_loc, ↓S.put_frm, ↓S.o_loc, ↓S.o_frm, ↓S.o_const, ↓S.first_cons, ↓S.l_nil, ↓S.l_cons, ↓S.op_none, ↓S.op_some, ↓S.move, ↓S.pick, ↓S.alloc, ↓S.box, ↓S.build, ↓S.buildSlice, ↓S.load, ↓S.store, ↓S.nil_, ↓S.bin, ↓S.un, ↓S.conv, ↓S.func, ↓S.makeSlice, ↓S.strSlice, ↓S.fieldAddr, ↓S.field, ↓S.indexSl, ↓S.indexStr, ↓S.extract, ↓S.len, ↓S.lenStr, ↓S.min, ↓S.append, ↓S.call, ↓S.some_, ↓S.oc_some, ↓S.oc_none, ↓S.bT_t, ↓S.bI_t, ↓S.bI_f, ↓S.nC_0, ↓S.nC_s, ↓S.lc_nil, ↓S.lc_cons, ↓S.g_bool, ↓S.g_undef, ↓S.v_int, ↓S.v_bool, ↓S.v_ptr, ↓S.v_slice, ↓S.v_str, ↓S.v_agg, ↓S.v_tuple, ↓S.v_func, ↓S.r_val, ↓S.f_int, ↓S.f_bool, ↓S.f_ptr, ↓S.f_slice, ↓S.f_agg, ↓S.spot_, ↓S.nat_k, ↓S.nat_i, ↓S.ptr_k, ↓S.int_op, ↓S.sh_op, ↓S.add, ↓S.sub, ↓S.mul, ↓S.lss, ↓S.gtr, ↓S.leq, ↓S.geq, ↓S.eqi, ↓S.nei, ↓S.not_, ↓S.convi, ↓S.fn_n, ↓S.fn_r, ↓S.done_nil, ↓S.res_nil, ↓S.res_tmp, ↓S.res_cell, ↓S.res_0, ↓S.res_1, ↓S.res_2, ↓S.args_nil, ↓S.args_cons, Tr.get_put_eq, if_true, if_false, ↓reduceIte, List.nil_append, Nat.reduceEqDiff, Nat.reduceSucc, Nat.zero_add, Nat.reduceAdd, Nat.reduceMul, Nat.zero_ne_one, Nat.one_ne_zero, Bool.not_true, Bool.not_false, ↓h12, ↓h13, ↓ltNat, ↓hlt, ↓S.loopK_e]
  | succ d ih =>
    intro i m T hi hm h0 h1 h12 h13
    obtain ⟨m, rfl⟩ : ∃ q, m = q + 1 := ⟨m - 1, by omega⟩
    have hil : i < nts.length := by omega
    have hlt : decide (i < nts.length) = true := by simp; omega
    have hwr := bump (i := i) (by omega)
    obtain ⟨T1, hT1⟩ : ∃ T1 : Tr Value, T1 = (T.put (some (.bool true)) 14).put (some (.int .i64 (.ofNat i))) 5 := ⟨_, rfl⟩
    have u : ∀ t, t ≠ 14 → t ≠ 5 → T1.get t = T.get t := fun t a b => by rw [hT1, Tr.get_put_eq, if_neg b, Tr.get_put_eq, if_neg a]
    have a1 := sm6 (F := F) (fu := fu) (D := D) (T := T1) hv hw hil ((u 0 (by decide) (by decide)).trans h0) ((u 1 (by decide) (by decide)).trans h1) (by rw [hT1, Tr.get_put_eq, if_pos rfl])
    have x13 := (u 13 (by decide) (by decide)).trans h13
    have key : loopS (evP L12_0) ⟨F, none, 12, fu⟩ K (m + 1) ⟨T, D, ⟨nx, B⟩⟩ = loopS (evP L12_0) ⟨F, none, 12, fu⟩ K m ⟨(T1.put (some (.bool false)) 24).put (some (.int .i64 (.ofNat (i + 1)))) 13, D, ⟨nx, B⟩⟩ := by
      rw [S.loop1]
      conv => lhs; unfold L12_0 G12_4 G12_5
      simp only [↓S.skip, ↓S.seq, ↓S.reg, ↓S.cond, ↓S.block, ↓S.loop, ↓S.exit, ↓S.ret, ↓S.seqK_n, ↓S.seqK_e, ↓S.seqK_r, ↓S.blockK_n, ↓S.blockK_r, ↓S.blockK_e, ↓S.ops_nil, ↓S.ops_cons, ↓S.ops_gt, ↓S.ops_gf, ↓S.put_non, ↓S.put_loc, ↓S.put_frm, ↓S.o_loc, ↓S.o_frm, ↓S.o_const, ↓S.first_cons, ↓S.l_nil, ↓S.l_cons, ↓S.op_none, ↓S.op_some, ↓S.move, ↓S.pick, ↓S.alloc, ↓S.box, ↓S.build, ↓S.buildSlice, ↓S.load, ↓S.store, ↓S.nil_, ↓S.bin, ↓S.un, ↓S.conv, ↓S.func, ↓S.makeSlice, ↓S.strSlice, ↓S.fieldAddr, ↓S.field, ↓S.indexSl, ↓S.indexStr, ↓S.extract, ↓S.len, ↓S.lenStr, ↓S.min, ↓S.append, ↓S.call, ↓S.some_, ↓S.oc_some, ↓S.oc_none, ↓S.bT_t, ↓S.bI_t, ↓S.bI_f, ↓S.nC_0, ↓S.nC_s, ↓S.lc_nil, ↓S.lc_cons, ↓S.g_bool, ↓S.g_undef, ↓S.v_int, ↓S.v_bool, ↓S.v_ptr, ↓S.v_slice, ↓S.v_str, ↓S.v_agg, ↓S.v_tuple, ↓S.v_func, ↓S.r_val, ↓S.f_int, ↓S.f_bool, ↓S.f_ptr, ↓S.f_slice, ↓S.f_agg, ↓S.spot_, ↓S.nat_k, ↓S.nat_i, ↓S.ptr_k, ↓S.int_op, ↓S.sh_op, ↓S.add, ↓S.sub, ↓S.mul, ↓S.lss, ↓S.gtr, ↓S.leq, ↓S.geq, ↓S.eqi, ↓S.nei, ↓S.not_, ↓S.convi, ↓S.fn_n, ↓S.fn_r, ↓S.done_nil, ↓S.res_nil, ↓S.res_tmp, ↓S.res_cell, ↓S.res_0, ↓S.res_1, ↓S.res_2, ↓S.args_nil, ↓S.args_cons, Tr.get_put_eq, if_true, if_false, ↓reduceIte, List.nil_append, Nat.reduceEqDiff, Nat.reduceSucc, Nat.zero_add, Nat.reduceAdd, Nat.reduceMul, Nat.zero_ne_one, Nat.one_ne_zero, Bool.not_true, Bool.not_false, ↓h12, ↓h13, ↓ltNat, ↓hlt]
      rw [← hT1, a1]
      unfold G12_8
      simp only [↓S.skip, ↓S.seq, ↓S.reg, ↓S.cond, ↓S.block, ↓S.loop, ↓S.exit, ↓S.ret, ↓S.seqK_n, ↓S.seqK_e, ↓S.seqK_r, ↓S.blockK_n, ↓S.blockK_r, ↓S.blockK_e, ↓S.ops_nil, ↓S.ops_cons, ↓S.ops_gt, ↓S.ops_gf, ↓S.put_non, ↓S.put_loc, ↓S.put_frm, ↓S.o_loc, ↓S.o_frm, ↓S.o_const, ↓S.first_cons, ↓S.l_nil, ↓S.l_cons, ↓S.op_none, ↓S.op_some, ↓S.move, ↓S.pick, ↓S.alloc, ↓S.box, ↓S.build, ↓S.buildSlice, ↓S.load, ↓S.store, ↓S.nil_, ↓S.bin, ↓S.un, ↓S.conv, ↓S.func, ↓S.makeSlice, ↓S.strSlice, ↓S.fieldAddr, ↓S.field, ↓S.indexSl, ↓S.indexStr, ↓S.extract, ↓S.len, ↓S.lenStr, ↓S.min, ↓S.append, ↓S.call, ↓S.some_, ↓S.oc_some, ↓S.oc_none, ↓S.bT_t, ↓S.bI_t, ↓S.bI_f, ↓S.nC_0, ↓S.nC_s, ↓S.lc_nil, ↓S.lc_cons, ↓S.g_bool, ↓S.g_undef, ↓S.v_int, ↓S.v_bool, ↓S.v_ptr, ↓S.v_slice, ↓S.v_str, ↓S.v_agg, ↓S.v_tuple, ↓S.v_func, ↓S.r_val, ↓S.f_int, ↓S.f_bool, ↓S.f_ptr, ↓S.f_slice, ↓S.f_agg, ↓S.spot_, ↓S.nat_k, ↓S.nat_i, ↓S.ptr_k, ↓S.int_op, ↓S.sh_op, ↓S.add, ↓S.sub, ↓S.mul, ↓S.lss, ↓S.gtr, ↓S.leq, ↓S.geq, ↓S.eqi, ↓S.nei, ↓S.not_, ↓S.convi, ↓S.fn_n, ↓S.fn_r, ↓S.done_nil, ↓S.res_nil, ↓S.res_tmp, ↓S.res_cell, ↓S.res_0, ↓S.res_1, ↓S.res_2, ↓S.args_nil, ↓S.args_cons, Tr.get_put_eq, if_true, if_false, ↓reduceIte, List.nil_append, Nat.reduceEqDiff, Nat.reduceSucc, Nat.zero_add, Nat.reduceAdd, Nat.reduceMul, Nat.zero_ne_one, Nat.one_ne_zero, Bool.not_true, Bool.not_false, ↓x13, ↓hwr, ↓S.loopK_n]
      rfl
    rw [key]
    exact ih (i + 1) m _ (by omega) (by omega) (by rw [Tr.get_put_eq, if_neg (by decide), Tr.get_put_eq, if_neg (by decide), u 0 (by decide) (by decide)]; exact h0) (by rw [Tr.get_put_eq, if_neg (by decide), Tr.get_put_eq, if_neg (by decide), u 1 (by decide) (by decide)]; exact h1)
      (by rw [Tr.get_put_eq, if_neg (by decide), Tr.get_put_eq, if_neg (by decide), u 12 (by decide) (by decide)]; exact h12) (by rw [Tr.get_put_eq, if_pos rfl])
theorem run12 {F : FF} {n : Nat} {h : Heap} {v w : Value} {nts : List Nt} (hv : S.RowsAt h 7 v (nts.map Nt.cells)) (hw : S.RowsAt h 7 w (nts.map Nt.cells)) (hlen : nts.length < 9223372036854775807) (hn : nts.length < n) :
    enterF E F 12 [v, w] h n = some (.val (.bool true) h) := by
  obtain ⟨nx, B⟩ := h
  rw [enterF_eq pfn12 (by simp [M12])]
  show evP P12 ⟨F, none, 12, n⟩ ⟨argsT [v, w] 0 .leaf, [], ⟨nx, B⟩⟩ (fnK R12) = _
  obtain ⟨a, c, ev, _⟩ := id hv
  obtain ⟨a', c', ew, _⟩ := id hw
  rw [List.length_map] at ev ew
  have e1 : (Int.ofNat nts.length == Int.ofNat nts.length) = true := by simp
  have key : ∃ T' : Tr Value, evP P12 ⟨F, none, 12, n⟩ ⟨argsT [v, w] 0 .leaf, [], ⟨nx, B⟩⟩ (fnK R12) = loopS (evP L12_0) ⟨F, none, 12, n⟩ (blockK 0 (seqK (evP (.seq G12_9 .ret)) ⟨F, none, 12, n⟩ (fnK [.tmp (.frm 4)]))) n ⟨T', [], ⟨nx, B⟩⟩ ∧ T'.get 0 = some v ∧ T'.get 1 = some w ∧ T'.get 12 = some (.int .i64 (.ofNat nts.length)) ∧ T'.get 13 = some (.int .i64 (.ofNat 0)) := by
    apply Exists.intro
    apply And.intro
    · rw [ev, ew]; unfold P12 G12_0 G12_1 G12_3 R12
      simp only [↓S.skip, ↓S.seq, ↓S.reg, ↓S.cond, ↓S.block, ↓S.loop, ↓S.exit, ↓S.ret, ↓S.seqK_n, ↓S.seqK_e, ↓S.seqK_r, ↓S.blockK_n, ↓S.blockK_r, ↓S.blockK_e, ↓S.ops_nil, ↓S.ops_cons, ↓S.ops_gt, ↓S.ops_gf, ↓S.put_non, ↓S.put_loc, ↓S.put_frm, ↓S.o_loc, ↓S.o_frm, ↓S.o_const, ↓S.first_cons, ↓S.l_nil, ↓S.l_cons, ↓S.op_none, ↓S.op_some, ↓S.move, ↓S.pick, ↓S.alloc, ↓S.box, ↓S.build, ↓S.buildSlice, ↓S.load, ↓S.store, ↓S.nil_, ↓S.bin, ↓S.un, ↓S.conv, ↓S.func, ↓S.makeSlice, ↓S.strSlice, ↓S.fieldAddr, ↓S.field, ↓S.indexSl, ↓S.indexStr, ↓S.extract, ↓S.len, ↓S.lenStr, ↓S.min, ↓S.append, ↓S.call, ↓S.some_, ↓S.oc_some, ↓S.oc_none, ↓S.bT_t, ↓S.bI_t, ↓S.bI_f, ↓S.nC_0, ↓S.nC_s, ↓S.lc_nil, ↓S.lc_cons, ↓S.g_bool, ↓S.g_undef, ↓S.v_int, ↓S.v_bool, ↓S.v_ptr, ↓S.v_slice, ↓S.v_str, ↓S.v_agg, ↓S.v_tuple, ↓S.v_func, ↓S.r_val, ↓S.f_int, ↓S.f_bool, ↓S.f_ptr, ↓S.f_slice, ↓S.f_agg, ↓S.spot_, ↓S.nat_k, ↓S.nat_i, ↓S.ptr_k, ↓S.int_op, ↓S.sh_op, ↓S.add, ↓S.sub, ↓S.mul, ↓S.lss, ↓S.gtr, ↓S.leq, ↓S.geq, ↓S.eqi, ↓S.nei, ↓S.not_, ↓S.convi, ↓S.fn_n, ↓S.fn_r, ↓S.done_nil, ↓S.res_nil, ↓S.res_tmp, ↓S.res_cell, ↓S.res_0, ↓S.res_1, ↓S.res_2, ↓S.args_nil, ↓S.args_cons, Tr.get_put_eq, if_true, if_false, ↓reduceIte, List.nil_append, Nat.reduceEqDiff, Nat.reduceSucc, Nat.zero_add, Nat.reduceAdd, Nat.reduceMul, Nat.zero_ne_one, Nat.one_ne_zero, Bool.not_true, Bool.not_false, ↓e1]
      rfl
    · rw [ev, ew]; simp only [↓S.skip, ↓S.seq, ↓S.reg, ↓S.cond, ↓S.block, ↓S.loop, ↓S.exit, ↓S.ret, ↓S.seqK_n, ↓S.seqK_e, ↓S.seqK_r, ↓S.blockK_n, ↓S.blockK_r, ↓S.blockK_e, ↓S.ops_nil, ↓S.ops_cons, ↓S.ops_gt, ↓S.ops_gf, ↓S.put_non, ↓S.put_loc, ↓S.put_frm, ↓S.o_loc, ↓S.o_frm, ↓S.o_const, ↓S.first_cons, ↓S.l_nil, ↓S.l_cons, ↓S.op_none, ↓S.op_some, ↓S.move, ↓S.pick, ↓S.alloc, ↓S.box, ↓S.build, ↓S.buildSlice, ↓S.load, ↓S.store, ↓S.nil_, ↓S.bin, ↓S.un, ↓S.conv, ↓S.func, ↓S.makeSlice, ↓S.strSlice, ↓S.fieldAddr, ↓S.field, ↓S.indexSl, ↓S.indexStr, ↓S.extract, ↓S.len, ↓S.lenStr, ↓S.min, ↓S.append, ↓S.call, ↓S.some_, ↓S.oc_some, ↓S.oc_none, ↓S.bT_t, ↓S.bI_t, ↓S.bI_f, ↓S.nC_0, ↓S.nC_s, ↓S.lc_nil, ↓S.lc_cons, ↓S.g_bool, ↓S.g_undef, ↓S.v_int, ↓S.v_bool, ↓S.v_ptr, ↓S.v_slice, ↓S.v_str, ↓S.v_agg, ↓S.v_tuple, ↓S.v_func, ↓S.r_val, ↓S.f_int, ↓S.f_bool, ↓S.f_ptr, ↓S.f_slice, ↓S.f_agg, ↓S.spot_, ↓S.nat_k, ↓S.nat_i, ↓S.ptr_k, ↓S.int_op, ↓S.sh_op, ↓S.add, ↓S.sub, ↓S.mul, ↓S.lss, ↓S.gtr, ↓S.leq, ↓S.geq, ↓S.eqi, ↓S.nei, ↓S.not_, ↓S.convi, ↓S.fn_n, ↓S.fn_r, ↓S.done_nil, ↓S.res_nil, ↓S.res_tmp, ↓S.res_cell, ↓S.res_0, ↓S.res_1, ↓S.res_2, ↓S.args_nil, ↓S.args_cons, Tr.get_put_eq, if_true, if_false, ↓reduceIte, List.nil_append, Nat.reduceEqDiff, Nat.reduceSucc, Nat.zero_add, Nat.reduceAdd, Nat.reduceMul, Nat.zero_ne_one, Nat.one_ne_zero, Bool.not_true, Bool.not_false, true_and, and_true]
  obtain ⟨T, k0, t0, t1, t12, t13⟩ := key
  rw [k0]
  obtain ⟨T', f1⟩ := loop12 (F := F) (fu := n) (K := (blockK 0 (seqK (evP (.seq G12_9 .ret)) ⟨F, none, 12, n⟩ (fnK [.tmp (.frm 4)])))) (D := []) hv hw hlen nts.length 0 n T (by omega) hn t0 t1 t12 t13
  rw [f1]
  unfold G12_9
  simp only [↓S.skip, ↓S.seq, ↓S.reg, ↓S.cond, ↓S.block, ↓S.loop, ↓S.exit, ↓S.ret, ↓S.seqK_n, ↓S.seqK_e, ↓S.seqK_r, ↓S.blockK_n, ↓S.blockK_r, ↓S.blockK_e, ↓S.ops_nil, ↓S.ops_cons, ↓S.ops_gt, ↓S.ops_gf, ↓S.put_non, ↓S.put_loc, ↓S.put_frm, ↓S.o_loc, ↓S.o_frm, ↓S.o_const, ↓S.first_cons, ↓S.l_nil, ↓S.l_cons, ↓S.op_none, ↓S.op_some, ↓S.move, ↓S.pick, ↓S.alloc, ↓S.box, ↓S.build, ↓S.buildSlice, ↓S.load, ↓S.store, ↓S.nil_, ↓S.bin, ↓S.un, ↓S.conv, ↓S.func, ↓S.makeSlice, ↓S.strSlice, ↓S.fieldAddr, ↓S.field, ↓S.indexSl, ↓S.indexStr, ↓S.extract, ↓S.len, ↓S.lenStr, ↓S.min, ↓S.append, ↓S.call, ↓S.some_, ↓S.oc_some, ↓S.oc_none, ↓S.bT_t, ↓S.bI_t, ↓S.bI_f, ↓S.nC_0, ↓S.nC_s, ↓S.lc_nil, ↓S.lc_cons, ↓S.g_bool, ↓S.g_undef, ↓S.v_int, ↓S.v_bool, ↓S.v_ptr, ↓S.v_slice, ↓S.v_str, ↓S.v_agg, ↓S.v_tuple, ↓S.v_func, ↓S.r_val, ↓S.f_int, ↓S.f_bool, ↓S.f_ptr, ↓S.f_slice, ↓S.f_agg, ↓S.spot_, ↓S.nat_k, ↓S.nat_i, ↓S.ptr_k, ↓S.int_op, ↓S.sh_op, ↓S.add, ↓S.sub, ↓S.mul, ↓S.lss, ↓S.gtr, ↓S.leq, ↓S.geq, ↓S.eqi, ↓S.nei, ↓S.not_, ↓S.convi, ↓S.fn_n, ↓S.fn_r, ↓S.done_nil, ↓S.res_nil, ↓S.res_tmp, ↓S.res_cell, ↓S.res_0, ↓S.res_1, ↓S.res_2, ↓S.args_nil, ↓S.args_cons, Tr.get_put_eq, if_true, if_false, ↓reduceIte, List.nil_append, Nat.reduceEqDiff, Nat.reduceSucc, Nat.zero_add, Nat.reduceAdd, Nat.reduceMul, Nat.zero_ne_one, Nat.one_ne_zero, Bool.not_true, Bool.not_false]
end T
set_option linter.unusedVariables false
open Go Go.Ev Go.Proofs
namespace T
theorem sumOf_add (b : Nat → UInt8) (k : Nat) : sumOf b (k + 1) = sumOf b k + (b (5 + k)).toNat * 2 ^ (8 * k) := by
  have h := sumOf_lt b k
  have e := Nat.two_pow_add_eq_or_of_lt h (b (5 + k)).toNat
  show sumOf b k ||| (b (5 + k)).toNat * 2 ^ (8 * k) = _
  rw [Nat.or_comm, Nat.mul_comm (b (5 + k)).toNat, ← e, Nat.add_comm]
theorem byteAt_sum (b : Nat → UInt8) : ∀ (n k : Nat), k < n → byteAt (sumOf b n) k = (b (5 + k)).toNat
  | 0, k, h => by omega
  | n + 1, k, h => by
    rw [sumOf_add]
    unfold byteAt
    have hz := (b (5 + n)).toNat_lt
    by_cases e : k = n
    · subst e
      rw [Nat.add_mul_div_right _ _ (Nat.pow_pos (by omega)), Nat.div_eq_of_lt (sumOf_lt b k), Nat.zero_add, Nat.mod_eq_of_lt (by omega)]
    · have hk : k < n := by omega
      have ih := byteAt_sum b n k hk
      unfold byteAt at ih
      have e2 : 8 * n = 8 * k + (8 + 8 * (n - k - 1)) := by omega
      have e3 : (b (5 + n)).toNat * 2 ^ (8 * n) = ((b (5 + n)).toNat * 2 ^ (8 * (n - k - 1)) * 256) * 2 ^ (8 * k) := by
        rw [e2, Nat.pow_add, Nat.pow_add, show 2 ^ 8 = 256 from rfl]
        simp only [Nat.mul_assoc, Nat.mul_comm, Nat.mul_left_comm]
      rw [e3, Nat.add_mul_div_right _ _ (Nat.pow_pos (by omega)), Nat.add_mul_mod_self_right]
      exact ih
theorem sum_bytes (b : Nat → UInt8) (x : Nat) : ∀ k, (∀ i, i < k → (b (5 + i)).toNat = byteAt x i) → sumOf b k = x % 2 ^ (8 * k)
  | 0, _ => by simp [sumOf, Nat.mod_one]
  | k + 1, h => by
    rw [sumOf_add, sum_bytes b x k (fun i hi => h i (by omega)), h k (by omega)]
    unfold byteAt
    rw [show 8 * (k + 1) = 8 * k + 8 from by omega, Nat.pow_add, Nat.mod_mul, show 2 ^ 8 = 256 from rfl, Nat.mul_comm (x / 2 ^ (8 * k) % 256)]

/-- A note that a program can hold. -/
def Nt.typed (n : Nt) : Prop := n.kind < 256 ∧ n.sum < 18446744073709551616
theorem u8of {n : Nat} (h : n < 256) : (UInt8.ofNat n).toNat = n := by
  rw [UInt8.toNat_ofNat']; exact Nat.mod_eq_of_lt h
theorem small_of {k : Int} (h : bad k = false) : ∃ n : Nat, k = Int.ofNat n ∧ n < 256 := by
  unfold bad at h
  simp at h
  obtain ⟨h1, h2⟩ := h
  obtain ⟨n, rfl⟩ := Int.eq_ofNat_of_zero_le h1
  exact ⟨n, rfl, by omega⟩
def bts (l : List Nat) : List UInt8 := l.map UInt8.ofNat
theorem enc_row {nt : Nt} (ht : nt.typed) (hok : nt.ok = true) (r : List UInt8) : rowB (bts nt.enc ++ r) = nt.cells ∧ (getb (bts nt.enc ++ r) 0).toNat ≤ 1 := by
  unfold Nt.ok at hok
  have h1 : nt.times = 1 := by
    cases hh : (nt.times == 1) with
    | false => rw [hh] at hok; cases hok
    | true => exact eq_of_beq hh
  have h2 : nt.bads = false := by
    cases hh : nt.bads with
    | false => rfl
    | true => rw [hh] at hok; simp at hok
  obtain ⟨b1, b2, b3⟩ := bads_false h2
  obtain ⟨w, hw, hw2⟩ := small_of b1
  obtain ⟨t, ht1, ht2⟩ := small_of b2
  obtain ⟨e, he, he2⟩ := small_of b3
  have g : ∀ i, i < 13 → getb (bts nt.enc ++ r) i = UInt8.ofNat (nt.enc.getD i 0) := fun i hi => by
    have hl : i < nt.enc.length := by rw [enc_len]; exact hi
    simp [getb, bts, List.getD_eq_getElem?_getD, List.getElem?_append_left, hl]
  have gs : ∀ i, i < 8 → (getb (bts nt.enc ++ r) (5 + i)).toNat = byteAt nt.sum i := fun i hi => by
    rw [g (5 + i) (by omega)]
    have e1 : nt.enc.getD (5 + i) 0 = byteAt nt.sum i := by
      unfold Nt.enc
      rw [List.getD_eq_getElem?_getD, List.getElem?_append_right (by simp [Nt.enc5])]
      have : 5 + i - nt.enc5.length = i := by simp [Nt.enc5]
      rw [this]
      simp [bytes8, hi]
    rw [e1]
    exact u8of (Nat.mod_lt _ (by omega))
  have hs : sumOf (getb (bts nt.enc ++ r)) 8 = nt.sum := by
    rw [sum_bytes _ nt.sum 8 gs]
    exact Nat.mod_eq_of_lt ht.2
  have g0 := g 0 (by omega)
  have g1 := g 1 (by omega)
  have g2 := g 2 (by omega)
  have g3 := g 3 (by omega)
  have g4 := g 4 (by omega)
  have c0 : nt.enc.getD 0 0 = if nt.th then 1 else 0 := rfl
  have c1 : nt.enc.getD 1 0 = nt.who.toNat := rfl
  have c2 : nt.enc.getD 2 0 = nt.kind := rfl
  have c3 : nt.enc.getD 3 0 = nt.tw.toNat := rfl
  have c4 : nt.enc.getD 4 0 = nt.err.toNat := rfl
  rw [c0] at g0
  rw [c1, hw] at g1
  rw [c2] at g2
  rw [c3, ht1] at g3
  rw [c4, he] at g4
  refine ⟨?_, ?_⟩
  · unfold rowB rowOf Nt.cells
    rw [hs, g0, g1, g2, g3, g4, u8of ht.1, hw, ht1, he, h1]
    have z1 : (UInt8.ofNat (Int.ofNat w).toNat).toNat = w := u8of hw2
    have z2 : (UInt8.ofNat (Int.ofNat t).toNat).toNat = t := u8of ht2
    have z3 : (UInt8.ofNat (Int.ofNat e).toNat).toNat = e := u8of he2
    rw [z1, z2, z3]
    cases nt.th <;> rfl
  · rw [g0]
    cases nt.th <;> decide
theorem back1 : ∀ (nts : List Nt), (∀ n ∈ nts, n.typed) → nts.all Nt.ok = true → decs nts.length (bts (encs nts)) = nts.map Nt.cells ∧ oks nts.length (bts (encs nts)) = true
  | [], _, _ => ⟨rfl, rfl⟩
  | n :: nts, ht, hok => by
    simp only [List.all_cons, Bool.and_eq_true] at hok
    obtain ⟨h1, h2⟩ := back1 nts (fun m hm => ht m (List.mem_cons_of_mem _ hm)) hok.2
    have e : bts (encs (n :: nts)) = bts n.enc ++ bts (encs nts) := by simp [bts, encs]
    obtain ⟨h3, h4⟩ := enc_row (ht n List.mem_cons_self) hok.1 (bts (encs nts))
    have hd : (bts n.enc ++ bts (encs nts)).drop 13 = bts (encs nts) := by
      rw [List.drop_append_of_le_length (by simp [bts, enc_len]), List.drop_of_length_le (by simp [bts, enc_len]), List.nil_append]
    refine ⟨?_, ?_⟩
    · show rowB (bts (encs (n :: nts))) :: decs nts.length ((bts (encs (n :: nts))).drop 13) = _
      rw [e, h3, hd, h1]; rfl
    · show (decide ((getb (bts (encs (n :: nts))) 0).toNat ≤ 1) && oks nts.length ((bts (encs (n :: nts))).drop 13)) = true
      rw [e, hd, h2]
      simpa using h4

/-- The note that bytes tell. -/
def ntOf (l : List UInt8) : Nt := ⟨Int.ofNat (getb l 0).toNat == Int.ofNat 1, .ofNat (getb l 1).toNat, (getb l 2).toNat, .ofNat (getb l 3).toNat, .ofNat 1, .ofNat (getb l 4).toNat, sumOf (getb l) 8⟩
def ntsOf : Nat → List UInt8 → List Nt
  | 0, _ => []
  | d + 1, l => ntOf l :: ntsOf d (l.drop 13)
theorem ntsOf_cells : ∀ (d : Nat) (l : List UInt8), (ntsOf d l).map Nt.cells = decs d l
  | 0, _ => rfl
  | d + 1, l => by
    show (ntOf l).cells :: (ntsOf d (l.drop 13)).map Nt.cells = rowB l :: decs d (l.drop 13)
    rw [ntsOf_cells d]; rfl
theorem ntsOf_len : ∀ (d : Nat) (l : List UInt8), (ntsOf d l).length = d
  | 0, _ => rfl
  | d + 1, l => by simp [ntsOf, ntsOf_len d]
theorem bad_u8 (z : UInt8) : bad (Int.ofNat z.toNat) = false := by
  have := z.toNat_lt
  unfold bad
  simp; omega
theorem ntOf_ok (l : List UInt8) : (ntOf l).ok = true := by
  unfold Nt.ok Nt.bads
  show ((Int.ofNat 1 == 1) && !(bad (Int.ofNat (getb l 1).toNat) || (bad (Int.ofNat (getb l 3).toNat) || bad (Int.ofNat (getb l 4).toNat)))) = true
  rw [bad_u8, bad_u8, bad_u8]; rfl
theorem ntsOf_ok : ∀ (d : Nat) (l : List UInt8), (ntsOf d l).all Nt.ok = true
  | 0, _ => rfl
  | d + 1, l => by simp [ntsOf, ntOf_ok, ntsOf_ok d]
theorem ofToNat (z : UInt8) : UInt8.ofNat z.toNat = z := by simp
theorem ntOf_enc {l : List UInt8} (h : 13 ≤ l.length) (h0 : (getb l 0).toNat ≤ 1) : bts (ntOf l).enc = l.take 13 := by
  have hg : ∀ i, i < 13 → l[i]? = some (getb l i) := fun i hi => by
    rw [List.getElem?_eq_getElem (by omega)]
    simp [getb, show i < l.length from by omega]
  apply List.ext_getElem?
  intro i
  by_cases hi : i < 13
  · rw [List.getElem?_take, if_pos hi, hg i hi]
    unfold bts Nt.enc
    rw [List.getElem?_map]
    rcases Nat.lt_or_ge i 5 with h5 | h5
    · rw [List.getElem?_append_left (by simp [Nt.enc5]; omega)]
      have : i = 0 ∨ i = 1 ∨ i = 2 ∨ i = 3 ∨ i = 4 := by omega
      rcases this with rfl | rfl | rfl | rfl | rfl
      · show some (UInt8.ofNat (if (Int.ofNat (getb l 0).toNat == Int.ofNat 1) = true then 1 else 0)) = _
        congr 1
        have hc : (getb l 0).toNat = 0 ∨ (getb l 0).toNat = 1 := by omega
        rcases hc with hc | hc
        · rw [hc]
          rw [← ofToNat (getb l 0), hc]; rfl
        · rw [hc]
          rw [← ofToNat (getb l 0), hc]; rfl
      · exact congrArg some (ofToNat _)
      · exact congrArg some (ofToNat _)
      · exact congrArg some (ofToNat _)
      · exact congrArg some (ofToNat _)
    · rw [List.getElem?_append_right (by simp [Nt.enc5]; omega)]
      have e5 : (ntOf l).enc5.length = 5 := rfl
      rw [e5]
      obtain ⟨k, rfl⟩ : ∃ k, i = 5 + k := ⟨i - 5, by omega⟩
      have hk : k < 8 := by omega
      rw [show 5 + k - 5 = k from by omega]
      have e6 : (bytes8 (ntOf l).sum 8)[k]? = some (byteAt (sumOf (getb l) 8) k) := by simp [bytes8, hk, ntOf]
      rw [e6, byteAt_sum _ 8 k hk]
      exact congrArg some (ofToNat _)
  · rw [List.getElem?_eq_none (by simp [bts, enc_len]; omega), List.getElem?_eq_none (by simp; omega)]
theorem back2 : ∀ (d : Nat) (l : List UInt8), l.length = 13 * d → oks d l = true → bts (encs (ntsOf d l)) = l
  | 0, l, hl, _ => by rw [List.eq_nil_of_length_eq_zero hl]; rfl
  | d + 1, l, hl, hok => by
    have hok : (decide ((getb l 0).toNat ≤ 1) && oks d (l.drop 13)) = true := hok
    simp only [Bool.and_eq_true, decide_eq_true_eq] at hok
    have ih := back2 d (l.drop 13) (by simp; omega) hok.2
    have e : bts (encs (ntOf l :: ntsOf d (l.drop 13))) = bts (ntOf l).enc ++ bts (encs (ntsOf d (l.drop 13))) := by simp [bts, encs]
    show bts (encs (ntOf l :: ntsOf d (l.drop 13))) = l
    rw [e, ih, ntOf_enc (by omega) hok.1, List.take_append_drop]
end T
set_option linter.unusedVariables false
set_option linter.unusedSimpArgs false
open Go Go.Ev Go.Proofs
namespace T
set_option maxRecDepth 100000
theorem nth0 {α : Type} {a : α} {l : List α} : nth (a :: l) 0 = some a := nr rfl
theorem nthS {α : Type} {a : α} {l : List α} {n : Nat} : nth (a :: l) (n + 1) = nth l n := nr rfl
theorem eqS {a b : ByteArray} {f : KV} : eqlOp E .str (.string a) (.string b) f = f (.bool (a.data.toList == b.data.toList)) := by
  show kBool f (eqB a.data.toList b.data.toList) = _
  rw [kBool_eq, eqB_eq]
/-- What is read alone, or new. -/
def New (h h' : Heap) : Prop := h.next ≤ h'.next ∧ ∀ q, q < h.next → h'.b.get q = h.b.get q
theorem New.trans {a b c : Heap} (x : New a b) (y : New b c) : New a c := ⟨Nat.le_trans x.1 y.1, fun q hq => by rw [y.2 q (Nat.lt_of_lt_of_le hq x.1), x.2 q hq]⟩
def Within (h : Heap) (v : Value) : Prop := ∀ q o n c, v = .slice (some ⟨q, o, none⟩) n c → q < h.next
structure FTB (F : FF) : Prop where
  f11 : ∀ h, h.b.get 0 = h0.b.get 0 → F (.func 11) [] [] h = some (.val (.bool true) h)
  f5 : ∀ h v (nts : List Nt), S.RowsAt h 7 v (nts.map Nt.cells) → Within h v → ∃ h', F (.func 5) [v] [] h = some (.val (encR nts) h') ∧ New h h'
  f7 : ∀ h l, l.length < 9223372036854775808 →
    (decOK l = true ∧ ∃ h' v', F (.func 7) [.string ⟨⟨l⟩⟩] [] h = some (.val (.tuple ⟨[v', .int .i64 (.ofNat 0)]⟩) h') ∧ S.OutAt h' e42 v' (decs (l.length / 13) l) h.next ∧ New h h') ∨
    (decOK l = false ∧ ∃ h', F (.func 7) [.string ⟨⟨l⟩⟩] [] h = some (.val (.tuple ⟨[.slice none 0 0, .int .i64 (.ofNat 2)]⟩) h') ∧ New h h')
  f12 : ∀ h v w (nts : List Nt), S.RowsAt h 7 v (nts.map Nt.cells) → S.RowsAt h 7 w (nts.map Nt.cells) → nts.length ≤ 4096 → F (.func 12) [v, w] [] h = some (.val (.bool true) h)
theorem outWithin {h : Heap} {v : Value} {rows : List Cells} {lo : Nat} (ho : S.OutAt h e42 v rows lo) : Within h v := fun q o n c e => by
  rcases ho with ⟨_, h2⟩ | ⟨r, t, h1, h2, h3, _⟩
  · rw [h2] at e; cases e
  · rw [h3] at e; cases e; exact h2
theorem tb2 {F : FF} {n : Nat} {T : Tr Value} {h : Heap} {l : List UInt8} (hF : FTB F) (hl : l.length < 9223372036854775808) (T1 : T.get 1 = some (.string ⟨⟨l⟩⟩)) :
    ∃ h', evP (.seq G4_8 (.seq G4_9 (.seq G4_10 .ret))) ⟨F, none, 4, n⟩ ⟨T, [], h⟩ (fnK R4) = some (.val (.bool true) h') ∧ New h h' := by
  rcases hF.f7 h l hl with ⟨hok, h1, v', f7, ho, hn⟩ | ⟨hok, h1, f7, hn⟩
  · have hok2 := hok
    unfold decOK at hok2
    simp only [Bool.and_eq_true, decide_eq_true_eq] at hok2
    obtain ⟨hr, hq, hoks⟩ := hok2
    have hrow : S.RowsAt h1 7 v' ((ntsOf (l.length / 13) l).map Nt.cells) := by rw [ntsOf_cells]; exact ho.rows
    obtain ⟨h2, f5, hn2⟩ := hF.f5 h1 v' _ hrow (outWithin ho)
    have e : encR (ntsOf (l.length / 13) l) = .tuple ⟨[.string ⟨⟨l⟩⟩, .int .i64 (.ofNat 0)]⟩ := by
      unfold encR encOK
      rw [if_pos (by rw [ntsOf_len, ntsOf_ok]; simpa using hq)]
      have := back2 (l.length / 13) l (by omega) hoks
      unfold str
      rw [show (encs (ntsOf (l.length / 13) l)).map UInt8.ofNat = l from this]
    rw [e] at f5
    have hll : (l == l) = true := by simp
    refine ⟨h2, ?_, hn.trans hn2⟩
    unfold G4_8 G4_9 G4_10 R4
    simp only [↓S.skip, ↓S.seq, ↓S.reg, ↓S.cond, ↓S.block, ↓S.loop, ↓S.exit, ↓S.ret, ↓S.seqK_n, ↓S.seqK_e, ↓S.seqK_r, ↓S.blockK_n, ↓S.blockK_r, ↓S.blockK_e, ↓S.ops_nil, ↓S.ops_cons, ↓S.ops_gt, ↓S.ops_gf, ↓S.put_non, ↓S.put_loc, ↓S.put_frm, ↓S.o_loc, ↓S.o_frm, ↓S.o_const, ↓S.first_cons, ↓S.l_nil, ↓S.l_cons, ↓S.op_none, ↓S.op_some, ↓S.move, ↓S.pick, ↓S.alloc, ↓S.box, ↓S.build, ↓S.buildSlice, ↓S.load, ↓S.store, ↓S.nil_, ↓S.bin, ↓S.un, ↓S.conv, ↓S.func, ↓S.makeSlice, ↓S.strSlice, ↓S.fieldAddr, ↓S.field, ↓S.indexSl, ↓S.indexStr, ↓S.extract, ↓S.len, ↓S.lenStr, ↓S.min, ↓S.append, ↓S.call, ↓S.some_, ↓S.oc_some, ↓S.oc_none, ↓S.bT_t, ↓S.bI_t, ↓S.bI_f, ↓S.nC_0, ↓S.nC_s, ↓S.lc_nil, ↓S.lc_cons, ↓S.g_bool, ↓S.g_undef, ↓S.v_int, ↓S.v_bool, ↓S.v_ptr, ↓S.v_slice, ↓S.v_str, ↓S.v_agg, ↓S.v_tuple, ↓S.v_func, ↓S.r_val, ↓S.f_int, ↓S.f_bool, ↓S.f_ptr, ↓S.f_slice, ↓S.f_agg, ↓S.spot_, ↓S.nat_k, ↓S.nat_i, ↓S.ptr_k, ↓S.int_op, ↓S.sh_op, ↓S.add, ↓S.sub, ↓S.mul, ↓S.lss, ↓S.gtr, ↓S.leq, ↓S.geq, ↓S.eqi, ↓S.nei, ↓S.not_, ↓S.convi, ↓S.fn_n, ↓S.fn_r, ↓S.done_nil, ↓S.res_nil, ↓S.res_tmp, ↓S.res_cell, ↓S.res_0, ↓S.res_1, ↓S.res_2, ↓S.args_nil, ↓S.args_cons, Tr.get_put_eq, if_true, if_false, ↓reduceIte, List.nil_append, Nat.reduceEqDiff, Nat.reduceSucc, Nat.zero_add, Nat.reduceAdd, Nat.reduceMul, Nat.zero_ne_one, Nat.one_ne_zero, Bool.not_true, Bool.not_false, ↓T1, ↓f7, ↓f5, ↓hll, ↓nth0, ↓nthS, ↓eqS, ↓neqS, (show (Int.ofNat 2 == Int.ofNat 0) = false from rfl), (show (Int.ofNat 0 == Int.ofNat 0) = true from rfl), ↓kint]
  · obtain ⟨h2, f5, hn2⟩ := hF.f5 h1 (.slice none 0 0) [] ⟨none, 0, rfl, .inl rfl⟩ (fun q o n c e => by cases e)
    have e : encR [] = .tuple ⟨[str [], .int .i64 (.ofNat 0)]⟩ := rfl
    rw [e] at f5
    refine ⟨h2, ?_, hn.trans hn2⟩
    unfold G4_8 G4_9 G4_10 R4
    simp only [↓S.skip, ↓S.seq, ↓S.reg, ↓S.cond, ↓S.block, ↓S.loop, ↓S.exit, ↓S.ret, ↓S.seqK_n, ↓S.seqK_e, ↓S.seqK_r, ↓S.blockK_n, ↓S.blockK_r, ↓S.blockK_e, ↓S.ops_nil, ↓S.ops_cons, ↓S.ops_gt, ↓S.ops_gf, ↓S.put_non, ↓S.put_loc, ↓S.put_frm, ↓S.o_loc, ↓S.o_frm, ↓S.o_const, ↓S.first_cons, ↓S.l_nil, ↓S.l_cons, ↓S.op_none, ↓S.op_some, ↓S.move, ↓S.pick, ↓S.alloc, ↓S.box, ↓S.build, ↓S.buildSlice, ↓S.load, ↓S.store, ↓S.nil_, ↓S.bin, ↓S.un, ↓S.conv, ↓S.func, ↓S.makeSlice, ↓S.strSlice, ↓S.fieldAddr, ↓S.field, ↓S.indexSl, ↓S.indexStr, ↓S.extract, ↓S.len, ↓S.lenStr, ↓S.min, ↓S.append, ↓S.call, ↓S.some_, ↓S.oc_some, ↓S.oc_none, ↓S.bT_t, ↓S.bI_t, ↓S.bI_f, ↓S.nC_0, ↓S.nC_s, ↓S.lc_nil, ↓S.lc_cons, ↓S.g_bool, ↓S.g_undef, ↓S.v_int, ↓S.v_bool, ↓S.v_ptr, ↓S.v_slice, ↓S.v_str, ↓S.v_agg, ↓S.v_tuple, ↓S.v_func, ↓S.r_val, ↓S.f_int, ↓S.f_bool, ↓S.f_ptr, ↓S.f_slice, ↓S.f_agg, ↓S.spot_, ↓S.nat_k, ↓S.nat_i, ↓S.ptr_k, ↓S.int_op, ↓S.sh_op, ↓S.add, ↓S.sub, ↓S.mul, ↓S.lss, ↓S.gtr, ↓S.leq, ↓S.geq, ↓S.eqi, ↓S.nei, ↓S.not_, ↓S.convi, ↓S.fn_n, ↓S.fn_r, ↓S.done_nil, ↓S.res_nil, ↓S.res_tmp, ↓S.res_cell, ↓S.res_0, ↓S.res_1, ↓S.res_2, ↓S.args_nil, ↓S.args_cons, Tr.get_put_eq, if_true, if_false, ↓reduceIte, List.nil_append, Nat.reduceEqDiff, Nat.reduceSucc, Nat.zero_add, Nat.reduceAdd, Nat.reduceMul, Nat.zero_ne_one, Nat.one_ne_zero, Bool.not_true, Bool.not_false, ↓T1, ↓f7, ↓f5, ↓nth0, ↓nthS, ↓eqS, ↓neqS, (show (Int.ofNat 2 == Int.ofNat 0) = false from rfl), (show (Int.ofNat 0 == Int.ofNat 0) = true from rfl), ↓kint]
theorem run4 {F : FF} {n : Nat} {h : Heap} {v : Value} {nts : List Nt} {l : List UInt8} (hF : FTB F) (hl : l.length < 9223372036854775808) (hr : S.RowsAt h 7 v (nts.map Nt.cells)) (hw : Within h v) (ht : ∀ m ∈ nts, m.typed) (h00 : h.b.get 0 = h0.b.get 0) :
    ∃ h', enterF E F 4 [v, .string ⟨⟨l⟩⟩] h n = some (.val (.bool true) h') ∧ New h h' := by
  rw [enterF_eq pfn4 (by simp [M4])]
  show ∃ h', evP P4 ⟨F, none, 4, n⟩ ⟨argsT [v, .string ⟨⟨l⟩⟩] 0 .leaf, [], h⟩ (fnK R4) = _ ∧ _
  have f11 := hF.f11 h h00
  obtain ⟨h1, f5, hn1⟩ := hF.f5 h v nts hr hw
  cases hok : encOK nts with
  | false =>
    have e : encR nts = .tuple ⟨[str [], .int .i64 (.ofNat 2)]⟩ := by unfold encR; rw [hok]; rfl
    rw [e] at f5
    have key : ∃ T' : Tr Value, evP P4 ⟨F, none, 4, n⟩ ⟨argsT [v, .string ⟨⟨l⟩⟩] 0 .leaf, [], h⟩ (fnK R4) = evP (.seq G4_8 (.seq G4_9 (.seq G4_10 .ret))) ⟨F, none, 4, n⟩ ⟨T', [], h1⟩ (fnK R4) ∧ T'.get 1 = some (.string ⟨⟨l⟩⟩) := by
      apply Exists.intro
      apply And.intro
      · unfold P4 G4_0 G4_1 G4_3 G4_4
        simp only [↓S.skip, ↓S.seq, ↓S.reg, ↓S.cond, ↓S.block, ↓S.loop, ↓S.exit, ↓S.ret, ↓S.seqK_n, ↓S.seqK_e, ↓S.seqK_r, ↓S.blockK_n, ↓S.blockK_r, ↓S.blockK_e, ↓S.ops_nil, ↓S.ops_cons, ↓S.ops_gt, ↓S.ops_gf, ↓S.put_non, ↓S.put_loc, ↓S.put_frm, ↓S.o_loc, ↓S.o_frm, ↓S.o_const, ↓S.first_cons, ↓S.l_nil, ↓S.l_cons, ↓S.op_none, ↓S.op_some, ↓S.move, ↓S.pick, ↓S.alloc, ↓S.box, ↓S.build, ↓S.buildSlice, ↓S.load, ↓S.store, ↓S.nil_, ↓S.bin, ↓S.un, ↓S.conv, ↓S.func, ↓S.makeSlice, ↓S.strSlice, ↓S.fieldAddr, ↓S.field, ↓S.indexSl, ↓S.indexStr, ↓S.extract, ↓S.len, ↓S.lenStr, ↓S.min, ↓S.append, ↓S.call, ↓S.some_, ↓S.oc_some, ↓S.oc_none, ↓S.bT_t, ↓S.bI_t, ↓S.bI_f, ↓S.nC_0, ↓S.nC_s, ↓S.lc_nil, ↓S.lc_cons, ↓S.g_bool, ↓S.g_undef, ↓S.v_int, ↓S.v_bool, ↓S.v_ptr, ↓S.v_slice, ↓S.v_str, ↓S.v_agg, ↓S.v_tuple, ↓S.v_func, ↓S.r_val, ↓S.f_int, ↓S.f_bool, ↓S.f_ptr, ↓S.f_slice, ↓S.f_agg, ↓S.spot_, ↓S.nat_k, ↓S.nat_i, ↓S.ptr_k, ↓S.int_op, ↓S.sh_op, ↓S.add, ↓S.sub, ↓S.mul, ↓S.lss, ↓S.gtr, ↓S.leq, ↓S.geq, ↓S.eqi, ↓S.nei, ↓S.not_, ↓S.convi, ↓S.fn_n, ↓S.fn_r, ↓S.done_nil, ↓S.res_nil, ↓S.res_tmp, ↓S.res_cell, ↓S.res_0, ↓S.res_1, ↓S.res_2, ↓S.args_nil, ↓S.args_cons, Tr.get_put_eq, if_true, if_false, ↓reduceIte, List.nil_append, Nat.reduceEqDiff, Nat.reduceSucc, Nat.zero_add, Nat.reduceAdd, Nat.reduceMul, Nat.zero_ne_one, Nat.one_ne_zero, Bool.not_true, Bool.not_false, ↓f11, ↓f5, ↓nth0, ↓nthS, ↓eqS, ↓neqS, (show (Int.ofNat 2 == Int.ofNat 0) = false from rfl), (show (Int.ofNat 0 == Int.ofNat 0) = true from rfl), ↓kint]
        rfl
      · simp only [↓S.skip, ↓S.seq, ↓S.reg, ↓S.cond, ↓S.block, ↓S.loop, ↓S.exit, ↓S.ret, ↓S.seqK_n, ↓S.seqK_e, ↓S.seqK_r, ↓S.blockK_n, ↓S.blockK_r, ↓S.blockK_e, ↓S.ops_nil, ↓S.ops_cons, ↓S.ops_gt, ↓S.ops_gf, ↓S.put_non, ↓S.put_loc, ↓S.put_frm, ↓S.o_loc, ↓S.o_frm, ↓S.o_const, ↓S.first_cons, ↓S.l_nil, ↓S.l_cons, ↓S.op_none, ↓S.op_some, ↓S.move, ↓S.pick, ↓S.alloc, ↓S.box, ↓S.build, ↓S.buildSlice, ↓S.load, ↓S.store, ↓S.nil_, ↓S.bin, ↓S.un, ↓S.conv, ↓S.func, ↓S.makeSlice, ↓S.strSlice, ↓S.fieldAddr, ↓S.field, ↓S.indexSl, ↓S.indexStr, ↓S.extract, ↓S.len, ↓S.lenStr, ↓S.min, ↓S.append, ↓S.call, ↓S.some_, ↓S.oc_some, ↓S.oc_none, ↓S.bT_t, ↓S.bI_t, ↓S.bI_f, ↓S.nC_0, ↓S.nC_s, ↓S.lc_nil, ↓S.lc_cons, ↓S.g_bool, ↓S.g_undef, ↓S.v_int, ↓S.v_bool, ↓S.v_ptr, ↓S.v_slice, ↓S.v_str, ↓S.v_agg, ↓S.v_tuple, ↓S.v_func, ↓S.r_val, ↓S.f_int, ↓S.f_bool, ↓S.f_ptr, ↓S.f_slice, ↓S.f_agg, ↓S.spot_, ↓S.nat_k, ↓S.nat_i, ↓S.ptr_k, ↓S.int_op, ↓S.sh_op, ↓S.add, ↓S.sub, ↓S.mul, ↓S.lss, ↓S.gtr, ↓S.leq, ↓S.geq, ↓S.eqi, ↓S.nei, ↓S.not_, ↓S.convi, ↓S.fn_n, ↓S.fn_r, ↓S.done_nil, ↓S.res_nil, ↓S.res_tmp, ↓S.res_cell, ↓S.res_0, ↓S.res_1, ↓S.res_2, ↓S.args_nil, ↓S.args_cons, Tr.get_put_eq, if_true, if_false, ↓reduceIte, List.nil_append, Nat.reduceEqDiff, Nat.reduceSucc, Nat.zero_add, Nat.reduceAdd, Nat.reduceMul, Nat.zero_ne_one, Nat.one_ne_zero, Bool.not_true, Bool.not_false]
    obtain ⟨T, k0, k1⟩ := key
    rw [k0]
    obtain ⟨h2, g1, g2⟩ := tb2 (n := n) hF hl k1
    exact ⟨h2, g1, hn1.trans g2⟩
  | true =>
    have hok2 := hok
    unfold encOK at hok2
    simp only [Bool.and_eq_true, decide_eq_true_eq] at hok2
    obtain ⟨hN, hall⟩ := hok2
    obtain ⟨d1, d2⟩ := back1 nts ht hall
    obtain ⟨bs, hbs⟩ : ∃ bs, bs = bts (encs nts) := ⟨_, rfl⟩
    rw [← hbs] at d1 d2
    have hbl : bs.length = 13 * nts.length := by rw [hbs]; simp [bts, encs_len]
    have e : encR nts = .tuple ⟨[.string ⟨⟨bs⟩⟩, .int .i64 (.ofNat 0)]⟩ := by unfold encR; rw [hok, hbs]; rfl
    rw [e] at f5
    have hdiv : bs.length / 13 = nts.length := by omega
    have hdec : decOK bs = true := by
      unfold decOK
      rw [hdiv, d2]
      simp; omega
    rcases hF.f7 h1 bs (by omega) with ⟨_, h2, v', f7, ho, hn2⟩ | ⟨hno, _⟩
    case inr => rw [hdec] at hno; cases hno
    rw [hdiv, d1] at ho
    have hr2 : S.RowsAt h2 7 v (nts.map Nt.cells) := hr.mono fun q o n c e => (hn1.trans hn2).2 q (hw q o n c e)
    have f12 := hF.f12 h2 v v' nts hr2 ho.rows hN
    obtain ⟨a, c, hv, _⟩ := id hr
    rw [List.length_map] at hv
    have hlen : len bs = 13 * nts.length := by rw [len_eq, hbl]
    have e13 : IntKind.i64.wrap (Int.ofNat 13 * Int.ofNat nts.length) = Int.ofNat (13 * nts.length) := wrap64 (n := 13 * nts.length) (by omega)
    have e14 : (Int.ofNat (13 * nts.length) == Int.ofNat (13 * nts.length)) = true := by simp
    have key : ∃ T' : Tr Value, evP P4 ⟨F, none, 4, n⟩ ⟨argsT [v, .string ⟨⟨l⟩⟩] 0 .leaf, [], h⟩ (fnK R4) = evP (.seq G4_8 (.seq G4_9 (.seq G4_10 .ret))) ⟨F, none, 4, n⟩ ⟨T', [], h2⟩ (fnK R4) ∧ T'.get 1 = some (.string ⟨⟨l⟩⟩) := by
      rw [hv] at f5 f12 ⊢
      apply Exists.intro
      apply And.intro
      · unfold P4 G4_0 G4_1 G4_3 G4_4 G4_5 G4_6
        simp only [↓S.skip, ↓S.seq, ↓S.reg, ↓S.cond, ↓S.block, ↓S.loop, ↓S.exit, ↓S.ret, ↓S.seqK_n, ↓S.seqK_e, ↓S.seqK_r, ↓S.blockK_n, ↓S.blockK_r, ↓S.blockK_e, ↓S.ops_nil, ↓S.ops_cons, ↓S.ops_gt, ↓S.ops_gf, ↓S.put_non, ↓S.put_loc, ↓S.put_frm, ↓S.o_loc, ↓S.o_frm, ↓S.o_const, ↓S.first_cons, ↓S.l_nil, ↓S.l_cons, ↓S.op_none, ↓S.op_some, ↓S.move, ↓S.pick, ↓S.alloc, ↓S.box, ↓S.build, ↓S.buildSlice, ↓S.load, ↓S.store, ↓S.nil_, ↓S.bin, ↓S.un, ↓S.conv, ↓S.func, ↓S.makeSlice, ↓S.strSlice, ↓S.fieldAddr, ↓S.field, ↓S.indexSl, ↓S.indexStr, ↓S.extract, ↓S.len, ↓S.lenStr, ↓S.min, ↓S.append, ↓S.call, ↓S.some_, ↓S.oc_some, ↓S.oc_none, ↓S.bT_t, ↓S.bI_t, ↓S.bI_f, ↓S.nC_0, ↓S.nC_s, ↓S.lc_nil, ↓S.lc_cons, ↓S.g_bool, ↓S.g_undef, ↓S.v_int, ↓S.v_bool, ↓S.v_ptr, ↓S.v_slice, ↓S.v_str, ↓S.v_agg, ↓S.v_tuple, ↓S.v_func, ↓S.r_val, ↓S.f_int, ↓S.f_bool, ↓S.f_ptr, ↓S.f_slice, ↓S.f_agg, ↓S.spot_, ↓S.nat_k, ↓S.nat_i, ↓S.ptr_k, ↓S.int_op, ↓S.sh_op, ↓S.add, ↓S.sub, ↓S.mul, ↓S.lss, ↓S.gtr, ↓S.leq, ↓S.geq, ↓S.eqi, ↓S.nei, ↓S.not_, ↓S.convi, ↓S.fn_n, ↓S.fn_r, ↓S.done_nil, ↓S.res_nil, ↓S.res_tmp, ↓S.res_cell, ↓S.res_0, ↓S.res_1, ↓S.res_2, ↓S.args_nil, ↓S.args_cons, Tr.get_put_eq, if_true, if_false, ↓reduceIte, List.nil_append, Nat.reduceEqDiff, Nat.reduceSucc, Nat.zero_add, Nat.reduceAdd, Nat.reduceMul, Nat.zero_ne_one, Nat.one_ne_zero, Bool.not_true, Bool.not_false, ↓f11, ↓f5, ↓f7, ↓f12, ↓hlen, ↓e13, ↓e14, ↓nth0, ↓nthS, ↓eqS, ↓neqS, (show (Int.ofNat 2 == Int.ofNat 0) = false from rfl), (show (Int.ofNat 0 == Int.ofNat 0) = true from rfl), ↓kint]
        rfl
      · simp only [↓S.skip, ↓S.seq, ↓S.reg, ↓S.cond, ↓S.block, ↓S.loop, ↓S.exit, ↓S.ret, ↓S.seqK_n, ↓S.seqK_e, ↓S.seqK_r, ↓S.blockK_n, ↓S.blockK_r, ↓S.blockK_e, ↓S.ops_nil, ↓S.ops_cons, ↓S.ops_gt, ↓S.ops_gf, ↓S.put_non, ↓S.put_loc, ↓S.put_frm, ↓S.o_loc, ↓S.o_frm, ↓S.o_const, ↓S.first_cons, ↓S.l_nil, ↓S.l_cons, ↓S.op_none, ↓S.op_some, ↓S.move, ↓S.pick, ↓S.alloc, ↓S.box, ↓S.build, ↓S.buildSlice, ↓S.load, ↓S.store, ↓S.nil_, ↓S.bin, ↓S.un, ↓S.conv, ↓S.func, ↓S.makeSlice, ↓S.strSlice, ↓S.fieldAddr, ↓S.field, ↓S.indexSl, ↓S.indexStr, ↓S.extract, ↓S.len, ↓S.lenStr, ↓S.min, ↓S.append, ↓S.call, ↓S.some_, ↓S.oc_some, ↓S.oc_none, ↓S.bT_t, ↓S.bI_t, ↓S.bI_f, ↓S.nC_0, ↓S.nC_s, ↓S.lc_nil, ↓S.lc_cons, ↓S.g_bool, ↓S.g_undef, ↓S.v_int, ↓S.v_bool, ↓S.v_ptr, ↓S.v_slice, ↓S.v_str, ↓S.v_agg, ↓S.v_tuple, ↓S.v_func, ↓S.r_val, ↓S.f_int, ↓S.f_bool, ↓S.f_ptr, ↓S.f_slice, ↓S.f_agg, ↓S.spot_, ↓S.nat_k, ↓S.nat_i, ↓S.ptr_k, ↓S.int_op, ↓S.sh_op, ↓S.add, ↓S.sub, ↓S.mul, ↓S.lss, ↓S.gtr, ↓S.leq, ↓S.geq, ↓S.eqi, ↓S.nei, ↓S.not_, ↓S.convi, ↓S.fn_n, ↓S.fn_r, ↓S.done_nil, ↓S.res_nil, ↓S.res_tmp, ↓S.res_cell, ↓S.res_0, ↓S.res_1, ↓S.res_2, ↓S.args_nil, ↓S.args_cons, Tr.get_put_eq, if_true, if_false, ↓reduceIte, List.nil_append, Nat.reduceEqDiff, Nat.reduceSucc, Nat.zero_add, Nat.reduceAdd, Nat.reduceMul, Nat.zero_ne_one, Nat.one_ne_zero, Bool.not_true, Bool.not_false]
    obtain ⟨T, k0, k1⟩ := key
    rw [k0]
    obtain ⟨h3, g1, g2⟩ := tb2 (n := n) hF hl k1
    exact ⟨h3, g1, (hn1.trans hn2).trans g2⟩
end T
set_option linter.unusedVariables false
open Go Go.Ev Go.Proofs
namespace T
noncomputable def ov : FF := ovClosed 11 h0 (.bool true)
noncomputable def G (n : Nat) : FF := evG E ov n
theorem Gf {n q : Nat} {args : List Value} {h : Heap} (hq : q ≠ 11) : G (n + 1) (.func q) args [] h = enterF E (G n) q args h n := by
  have := evG_func (E := E) (ov := ov) (n := n) (k := q) (args := args) (cap := []) (h := h) (ovClosed_other hq)
  rwa [List.append_nil] at this
theorem Gc {n q : Nat} {args cap : List Value} {h : Heap} (hq : q ≠ 11) : G (n + 1) (.func q) args cap h = enterF E (G n) q (args ++ cap) h n := evG_func (ovClosed_other hq)
theorem Gy {n l : Nat} {args : List Value} {h : Heap} : G (n + 1) (.yield l) args [] h = roundS E (G n) l args h n := evG_yield rfl
theorem fenc (n : Nat) (hn : 20 < n) : FEnc (G (n + 5)) where
  f13 := fun h a b c q hb => by
    have hA : ∀ (i : Nat) (x : Int), [a, b, c][i]? = some x → S.RowAt h q i [.int .i64 x] := fun i x hx => by
      have hi : i < 3 := by have := (List.getElem?_eq_some_iff.1 hx).1; simpa using this
      refine ⟨3, _, by simp, .inl ⟨_, _, hb⟩, by simpa using hi, ?_⟩
      rw [Tr.get_ofList_eq]
      have : i = 0 ∨ i = 1 ∨ i = 2 := by omega
      rcases this with rfl | rfl | rfl <;> (simp at hx; subst hx; rfl)
    obtain ⟨r, e1, e2⟩ := run38 (F := G (n + 2)) (h := h) (L := [a, b, c]) (b := q) (c := 3) (n := n + 2) hA (fun x => by rw [Gf (by decide)]; exact run25 _ _ _ _) (by simp) (by simp; omega)
    have e3 : G (n + 3) (.func 38) [.slice (some ⟨q, 0, none⟩) 3 3, .func (.func 25) #[] #[]] [] h = some (.val (.int .i64 r) h) := by rw [Gf (by decide)]; exact e1
    have e4 : G (n + 4) (.func 24) [.slice (some ⟨q, 0, none⟩) 3 3, .func (.func 25) #[] #[]] [] h = some (.val (.bool (decide (0 ≤ r))) h) := by rw [Gf (by decide)]; exact run24 e3
    rw [Gf (by decide), run13 e4, e2]
    simp
  f14 := fun h t => by rw [Gf (by decide)]; exact run14
  f15 := fun b cap p x bs h h1 h2 h3 h4 h5 h6 h7 => by
    obtain ⟨h', e1, e2, e3, e4⟩ := run15 (F := G (n + 4)) (F1 := G (n + 3)) (F2 := G (n + 2)) (n := n + 4) (n1 := n + 3) (n2 := n + 2) (fun l h => Gc (by decide)) (by omega) (fun l z h => Gy) h1 h2 h3 h4 h5 h6 h7
    exact ⟨h', by rw [Gf (by decide)]; exact e1, e2, e3, e4⟩
  f16 := fun h x => by rw [Gf (by decide)]; exact run16
theorem f19 (n : Nat) (hn : 20 < n) : F19 (G (n + 1)) := fun h l b hb => by
  obtain ⟨h', e1, e2, e3⟩ := run19 (F := G n) (n := n) (h := h) hb (by omega)
  exact ⟨h', by rw [Gf (by decide)]; exact e1, e2, e3⟩
theorem h0_get {n : Nat} {B : Blk} (h : h0.b.get n = some B) : n = 0 := by
  rcases Tr.get_put _ _ _ _ (show (Tr.put (some (Blk.fixed 1 64 (.node .leaf (some tab) .leaf))) .leaf 0).get n = some B from h) with ⟨e, _⟩ | ⟨_, h⟩
  · exact e
  · cases h
theorem ftb (n : Nat) (hn : 4096 < n) : FTB (G (n + 6)) where
  f11 := fun h hh => evG_ov (ovClosed_self fun m B hB => by
    have e := h0_get hB
    subst e
    rw [hh]; exact hB)
  f5 := fun h v nts hr hw => by
    obtain ⟨h', e1, e2, e3⟩ := run5 (F := G (n + 5)) (n := n + 5) (fenc n (by omega)) hr hw (by omega)
    exact ⟨h', by rw [Gf (by decide)]; exact e1, e2, e3⟩
  f7 := fun h l hl => by
    rw [Gf (by decide)]
    rcases run7 (F := G (n + 5)) (n := n + 5) (h := h) (l := l) (f19 (n + 4) (by omega)) (by omega) hl with ⟨h1, h', v', e1, e2, e3, e4⟩ | ⟨h1, h', e1, e2, e3⟩
    · exact .inl ⟨h1, h', v', e1, e2, e3, e4⟩
    · exact .inr ⟨h1, h', e1, e2, e3⟩
  f12 := fun h v w nts hv hw hl => by rw [Gf (by decide)]; exact run12 hv hw (by omega) (by omega)
/-- **TraceBack, in the evaluator.** -/
theorem traceBack_ev {h : Heap} {v : Value} {nts : List Nt} {l : List UInt8} (hl : l.length < 9223372036854775808) (hr : S.RowsAt h 7 v (nts.map Nt.cells)) (hw : Within h v) (ht : ∀ m ∈ nts, m.typed) (h00 : h.b.get 0 = h0.b.get 0) :
    ∃ h', enterF E (G 5006) 4 [v, .string ⟨⟨l⟩⟩] h 5006 = some (.val (.bool true) h') := by
  obtain ⟨h', e, _⟩ := run4 (n := 5006) (ftb 5000 (by omega)) hl hr hw ht h00
  exact ⟨h', e⟩
end T
