/- note and Decode run over any bytes; conditions stand at each. -/
import Derived.Test.YtphkjlkgfcjbmaaGreatDoorRunB
import Derived.Test.YtphkjlkgfcjbmaaGreatDoorEvF
set_option linter.all false
set_option linter.unusedVariables false
set_option linter.unusedSimpArgs false
open Go Go.Ev Go.Proofs
namespace T
set_option maxRecDepth 100000
theorem kint {k : IntKind} {f : KV} {n : Int} : kInt k f n = f (.int k n) := kInt_eq k f n
theorem i64u8 {z : UInt8} : IntKind.i64.wrap (Int.ofNat z.toNat) = Int.ofNat z.toNat := wrap64 (by have := z.toNat_lt; omega)
theorem u64w {n : Nat} (h : n < 18446744073709551616) : IntKind.u64.wrap (Int.ofNat n) = Int.ofNat n := by
  simp only [IntKind.wrap, IntKind.bits, IntKind.signed, Int.ofNat_eq_natCast]; simp; omega
theorem u64u8 {z : UInt8} : IntKind.u64.wrap (Int.ofNat z.toNat) = Int.ofNat z.toNat := u64w (by have := z.toNat_lt; omega)
/-- The row of a note, but for its sum. -/
def rowOf (b : Nat → UInt8) (s : Nat) : Cells := [.bool (Int.ofNat (b 0).toNat == Int.ofNat 1), .int .i64 (.ofNat (b 1).toNat), .int .u8 (.ofNat (b 2).toNat), .int .i64 (.ofNat (b 3).toNat), .int .i64 (.ofNat 1), .int .i64 (.ofNat (b 4).toNat), .int .u64 (.ofNat s)]
def sumOf (b : Nat → UInt8) : Nat → Nat
  | 0 => 0
  | k + 1 => sumOf b k ||| ((b (5 + k)).toNat * 2 ^ (8 * k))
theorem sumOf_lt (b : Nat → UInt8) : ∀ k, sumOf b k < 2 ^ (8 * k)
  | 0 => by simp [sumOf]
  | k + 1 => by
    have ih := sumOf_lt b k
    have h1 : (b (5 + k)).toNat * 2 ^ (8 * k) < 2 ^ (8 * (k + 1)) := by
      have := (b (5 + k)).toNat_lt
      rw [show 8 * (k + 1) = 8 + 8 * k from by omega, Nat.pow_add]
      exact Nat.mul_lt_mul_of_pos_right this (Nat.pow_pos (by omega))
    have h2 : 2 ^ (8 * k) ≤ 2 ^ (8 * (k + 1)) := Nat.pow_le_pow_right (by omega) (by omega)
    exact Nat.or_lt_two_pow (by omega) h1
theorem de1 {F : FF} {fu nx : Nat} {B : Tr Blk} {T : Tr Value} {D : List Deferred} {l : List UInt8} {b : Nat → UInt8} (T0 : T.get 0 = some (.string ⟨⟨l⟩⟩)) (hb : ∀ i, i < 13 → nth l i = some (b i)) :
    ∃ h', (∀ k, evP G19_1 ⟨F, none, 19, fu⟩ ⟨T, D, ⟨nx, B⟩⟩ k = k .normal ⟨T.put (some (.pointer (some ⟨nx, 0, none⟩))) 3, D, h'⟩) ∧ h'.next = nx + 1 ∧ h'.b.get nx = some (S.varB 37 [.int .u8 (.ofNat (b 2).toNat), .int .i64 (.ofNat (b 3).toNat)]) ∧ ∀ q, q < nx → h'.b.get q = B.get q := by
  have b2 := hb 2 (by omega)
  have b3 := hb 3 (by omega)
  have w3 := i64u8 (z := b 3)
  have r1 : ∀ f : Cells → R, fillE (fun i => nth [(0, 1), (1, 1)] i) [0, 1] [.int .u8 (.ofNat (b 2).toNat), .int .i64 (.ofNat (b 3).toNat)] [Value.int .u8 (.ofNat 0), .int .i64 (.ofNat 0)] f = f [.int .u8 (.ofNat (b 2).toNat), .int .i64 (.ofNat (b 3).toNat)] := fun f => rfl
  have r2 : ∀ f : KH, mkVar ⟨nx, .leaf⟩ 37 [Value.int .u8 (.ofNat 0), .int .i64 (.ofNat 0)] f = f (.pointer (some ⟨nx, 0, none⟩)) ⟨nx + 1, Tr.put (some (S.varB 37 [Value.int .u8 (.ofNat 0), .int .i64 (.ofNat 0)])) .leaf nx⟩ := fun f => S.mkVar_eq
  have g1 : ∀ q, (⟨nx + 1, B.put (some (S.varB 37 [Value.int .u8 (.ofNat 0), .int .i64 (.ofNat 0)])) nx⟩ : Heap).b.get q = if q = nx then some (S.varB 37 [Value.int .u8 (.ofNat 0), .int .i64 (.ofNat 0)]) else B.get q := fun q => Tr.get_put_eq _ _ _
  have r3 : ∀ f : KS, storeE (some 2) ⟨nx + 1, B.put (some (S.varB 37 [Value.int .u8 (.ofNat 0), .int .i64 (.ofNat 0)])) nx⟩ ⟨nx, 0, none⟩ (.agg ⟨[.int .u8 (.ofNat (b 2).toNat), .int .i64 (.ofNat (b 3).toNat)]⟩) f = f (upd ⟨nx + 1, B.put (some (S.varB 37 [Value.int .u8 (.ofNat 0), .int .i64 (.ofNat 0)])) nx⟩ nx (S.varB 37 [.int .u8 (.ofNat (b 2).toNat), .int .i64 (.ofNat (b 3).toNat)])) := fun f => by
    rw [S.store_agg rfl]
    exact S.var_store (e := 37) (l := [Value.int .u8 (.ofNat 0), .int .i64 (.ofNat 0)]) (by rw [g1, if_pos rfl]) (by simp) (by simp)
  refine ⟨upd ⟨nx + 1, B.put (some (S.varB 37 [Value.int .u8 (.ofNat 0), .int .i64 (.ofNat 0)])) nx⟩ nx (S.varB 37 [.int .u8 (.ofNat (b 2).toNat), .int .i64 (.ofNat (b 3).toNat)]), fun k => ?_, rfl, by rw [S.get_upd, if_pos rfl], fun q hq => by rw [S.get_upd, if_neg (by omega), g1, if_neg (by omega)]⟩
  unfold G19_1
  simp only [↓S.skip, ↓S.seq, ↓S.reg, ↓S.cond, ↓S.block, ↓S.loop, ↓S.exit, ↓S.ret, ↓S.seqK_n, ↓S.seqK_e, ↓S.seqK_r, ↓S.blockK_n, ↓S.blockK_r, ↓S.blockK_e, ↓S.ops_nil, ↓S.ops_cons, ↓S.ops_gt, ↓S.ops_gf, ↓S.put_non, ↓S.put_loc, ↓S.put_frm, ↓S.o_loc, ↓S.o_frm, ↓S.o_const, ↓S.first_cons, ↓S.l_nil, ↓S.l_cons, ↓S.op_none, ↓S.op_some, ↓S.move, ↓S.pick, ↓S.alloc, ↓S.box, ↓S.build, ↓S.buildSlice, ↓S.load, ↓S.store, ↓S.nil_, ↓S.bin, ↓S.un, ↓S.conv, ↓S.func, ↓S.makeSlice, ↓S.strSlice, ↓S.fieldAddr, ↓S.field, ↓S.indexSl, ↓S.indexStr, ↓S.extract, ↓S.len, ↓S.lenStr, ↓S.min, ↓S.append, ↓S.call, ↓S.some_, ↓S.oc_some, ↓S.oc_none, ↓S.bT_t, ↓S.bI_t, ↓S.bI_f, ↓S.nC_0, ↓S.nC_s, ↓S.lc_nil, ↓S.lc_cons, ↓S.g_bool, ↓S.g_undef, ↓S.v_int, ↓S.v_bool, ↓S.v_ptr, ↓S.v_slice, ↓S.v_str, ↓S.v_agg, ↓S.v_tuple, ↓S.v_func, ↓S.r_val, ↓S.f_int, ↓S.f_bool, ↓S.f_ptr, ↓S.f_slice, ↓S.f_agg, ↓S.spot_, ↓S.nat_k, ↓S.nat_i, ↓S.ptr_k, ↓S.int_op, ↓S.sh_op, ↓S.add, ↓S.sub, ↓S.mul, ↓S.lss, ↓S.gtr, ↓S.leq, ↓S.geq, ↓S.eqi, ↓S.nei, ↓S.not_, ↓S.convi, ↓S.fn_n, ↓S.fn_r, ↓S.done_nil, ↓S.res_nil, ↓S.res_tmp, ↓S.res_cell, ↓S.res_0, ↓S.res_1, ↓S.res_2, ↓S.args_nil, ↓S.args_cons, Tr.get_put_eq, if_true, if_false, ↓reduceIte, List.nil_append, Nat.reduceEqDiff, Nat.reduceSucc, Nat.zero_add, Nat.reduceAdd, Nat.reduceMul, Nat.zero_ne_one, Nat.one_ne_zero, Bool.not_true, Bool.not_false, ↓S.draw, ↓S.d_nil, ↓S.d_cons, ↓S.d0, ↓S.d1, ↓S.d2, ↓S.d3, ↓S.to_nil, ↓S.to_cons, ↓S.tr_nil, ↓S.tr_cons, ↓S.again_, ↓S.merge_, ↓S.ma_nil, ↓S.ma_all, ↓S.ma_cons, ↓S.ret_, ↓S.same_int, ↓S.same_bool, ↓S.beq_self, ↓S.blt_succ, ↓T0, ↓b2, ↓b3, ↓w3, ↓kint, ↓r1, ↓r2, ↓r3, (show bitK 127 4 = true from rfl), (show bitK 127 6 = true from rfl)]
theorem de2 {F : FF} {fu nx p3 : Nat} {B : Tr Blk} {T : Tr Value} {D : List Deferred} {l : List UInt8} {b : Nat → UInt8} (T0 : T.get 0 = some (.string ⟨⟨l⟩⟩)) (hb : ∀ i, i < 13 → nth l i = some (b i)) (T3 : T.get 3 = some (.pointer (some ⟨p3, 0, none⟩)))
    (h3 : B.get p3 = some (S.varB 37 [.int .u8 (.ofNat (b 2).toNat), .int .i64 (.ofNat (b 3).toNat)])) :
    ∃ h', (∀ k, evP G19_2 ⟨F, none, 19, fu⟩ ⟨T, D, ⟨nx, B⟩⟩ k = k .normal ⟨T.put (some (.pointer (some ⟨nx, 0, none⟩))) 4, D, h'⟩) ∧ h'.next = nx + 1 ∧ h'.b.get nx = some (S.varB 42 (rowOf b 0)) ∧ ∀ q, q < nx → h'.b.get q = B.get q := by
  have b0 := hb 0 (by omega)
  have b1 := hb 1 (by omega)
  have b4 := hb 4 (by omega)
  have w1 := i64u8 (z := b 1)
  have w4 := i64u8 (z := b 4)
  have r0 : ∀ f : KV, loadE (some (some 2)) ⟨nx, B⟩ ⟨p3, 0, none⟩ f = f (.agg ⟨[.int .u8 (.ofNat (b 2).toNat), .int .i64 (.ofNat (b 3).toNat)]⟩) := fun f => S.var_whole (l := [.int .u8 (.ofNat (b 2).toNat), .int .i64 (.ofNat (b 3).toNat)]) h3 (by simp)
  have r1 : ∀ f : Cells → R, fillE (fun i => nth [(0, 1), (1, 1), (2, 2), (4, 1)] i) [0, 1, 2, 3] [.bool (Int.ofNat (b 0).toNat == Int.ofNat 1), .int .i64 (.ofNat (b 1).toNat), .agg ⟨[.int .u8 (.ofNat (b 2).toNat), .int .i64 (.ofNat (b 3).toNat)]⟩, .int .i64 (.ofNat 1)] [Value.bool false, .int .i64 (.ofNat 0), .int .u8 (.ofNat 0), .int .i64 (.ofNat 0), .int .i64 (.ofNat 0)] f = f ((rowOf b 0).take 5) := fun f => rfl
  have r4 : ∀ f : Cells → R, fillE (fun i => nth [(0, 5), (5, 1), (6, 1)] i) [0, 1] [.agg ⟨(rowOf b 0).take 5⟩, .int .i64 (.ofNat (b 4).toNat)] [Value.bool false, .int .i64 (.ofNat 0), .int .u8 (.ofNat 0), .int .i64 (.ofNat 0), .int .i64 (.ofNat 0), .int .i64 (.ofNat 0), .int .u64 (.ofNat 0)] f = f (rowOf b 0) := fun f => rfl
  have r2 : ∀ f : KH, mkVar ⟨nx, .leaf⟩ 42 [Value.bool false, .int .i64 (.ofNat 0), .int .u8 (.ofNat 0), .int .i64 (.ofNat 0), .int .i64 (.ofNat 0), .int .i64 (.ofNat 0), .int .u64 (.ofNat 0)] f = f (.pointer (some ⟨nx, 0, none⟩)) ⟨nx + 1, Tr.put (some (S.varB 42 [Value.bool false, .int .i64 (.ofNat 0), .int .u8 (.ofNat 0), .int .i64 (.ofNat 0), .int .i64 (.ofNat 0), .int .i64 (.ofNat 0), .int .u64 (.ofNat 0)])) .leaf nx⟩ := fun f => S.mkVar_eq
  have g1 : ∀ q, (⟨nx + 1, B.put (some (S.varB 42 [Value.bool false, .int .i64 (.ofNat 0), .int .u8 (.ofNat 0), .int .i64 (.ofNat 0), .int .i64 (.ofNat 0), .int .i64 (.ofNat 0), .int .u64 (.ofNat 0)])) nx⟩ : Heap).b.get q = if q = nx then some (S.varB 42 [Value.bool false, .int .i64 (.ofNat 0), .int .u8 (.ofNat 0), .int .i64 (.ofNat 0), .int .i64 (.ofNat 0), .int .i64 (.ofNat 0), .int .u64 (.ofNat 0)]) else B.get q := fun q => Tr.get_put_eq _ _ _
  have r3 : ∀ f : KS, storeE (some 7) ⟨nx + 1, B.put (some (S.varB 42 [Value.bool false, .int .i64 (.ofNat 0), .int .u8 (.ofNat 0), .int .i64 (.ofNat 0), .int .i64 (.ofNat 0), .int .i64 (.ofNat 0), .int .u64 (.ofNat 0)])) nx⟩ ⟨nx, 0, none⟩ (.agg ⟨rowOf b 0⟩) f = f (upd ⟨nx + 1, B.put (some (S.varB 42 [Value.bool false, .int .i64 (.ofNat 0), .int .u8 (.ofNat 0), .int .i64 (.ofNat 0), .int .i64 (.ofNat 0), .int .i64 (.ofNat 0), .int .u64 (.ofNat 0)])) nx⟩ nx (S.varB 42 (rowOf b 0))) := fun f => by
    rw [S.store_agg rfl]
    exact S.var_store (e := 42) (l := [Value.bool false, .int .i64 (.ofNat 0), .int .u8 (.ofNat 0), .int .i64 (.ofNat 0), .int .i64 (.ofNat 0), .int .i64 (.ofNat 0), .int .u64 (.ofNat 0)]) (by rw [g1, if_pos rfl]) (by simp [rowOf]) (by simp [rowOf])
  refine ⟨upd ⟨nx + 1, B.put (some (S.varB 42 [Value.bool false, .int .i64 (.ofNat 0), .int .u8 (.ofNat 0), .int .i64 (.ofNat 0), .int .i64 (.ofNat 0), .int .i64 (.ofNat 0), .int .u64 (.ofNat 0)])) nx⟩ nx (S.varB 42 (rowOf b 0)), fun k => ?_, rfl, by rw [S.get_upd, if_pos rfl], fun q hq => by rw [S.get_upd, if_neg (by omega), g1, if_neg (by omega)]⟩
  unfold G19_2
  simp only [↓S.skip, ↓S.seq, ↓S.reg, ↓S.cond, ↓S.block, ↓S.loop, ↓S.exit, ↓S.ret, ↓S.seqK_n, ↓S.seqK_e, ↓S.seqK_r, ↓S.blockK_n, ↓S.blockK_r, ↓S.blockK_e, ↓S.ops_nil, ↓S.ops_cons, ↓S.ops_gt, ↓S.ops_gf, ↓S.put_non, ↓S.put_loc, ↓S.put_frm, ↓S.o_loc, ↓S.o_frm, ↓S.o_const, ↓S.first_cons, ↓S.l_nil, ↓S.l_cons, ↓S.op_none, ↓S.op_some, ↓S.move, ↓S.pick, ↓S.alloc, ↓S.box, ↓S.build, ↓S.buildSlice, ↓S.load, ↓S.store, ↓S.nil_, ↓S.bin, ↓S.un, ↓S.conv, ↓S.func, ↓S.makeSlice, ↓S.strSlice, ↓S.fieldAddr, ↓S.field, ↓S.indexSl, ↓S.indexStr, ↓S.extract, ↓S.len, ↓S.lenStr, ↓S.min, ↓S.append, ↓S.call, ↓S.some_, ↓S.oc_some, ↓S.oc_none, ↓S.bT_t, ↓S.bI_t, ↓S.bI_f, ↓S.nC_0, ↓S.nC_s, ↓S.lc_nil, ↓S.lc_cons, ↓S.g_bool, ↓S.g_undef, ↓S.v_int, ↓S.v_bool, ↓S.v_ptr, ↓S.v_slice, ↓S.v_str, ↓S.v_agg, ↓S.v_tuple, ↓S.v_func, ↓S.r_val, ↓S.f_int, ↓S.f_bool, ↓S.f_ptr, ↓S.f_slice, ↓S.f_agg, ↓S.spot_, ↓S.nat_k, ↓S.nat_i, ↓S.ptr_k, ↓S.int_op, ↓S.sh_op, ↓S.add, ↓S.sub, ↓S.mul, ↓S.lss, ↓S.gtr, ↓S.leq, ↓S.geq, ↓S.eqi, ↓S.nei, ↓S.not_, ↓S.convi, ↓S.fn_n, ↓S.fn_r, ↓S.done_nil, ↓S.res_nil, ↓S.res_tmp, ↓S.res_cell, ↓S.res_0, ↓S.res_1, ↓S.res_2, ↓S.args_nil, ↓S.args_cons, Tr.get_put_eq, if_true, if_false, ↓reduceIte, List.nil_append, Nat.reduceEqDiff, Nat.reduceSucc, Nat.zero_add, Nat.reduceAdd, Nat.reduceMul, Nat.zero_ne_one, Nat.one_ne_zero, Bool.not_true, Bool.not_false, ↓S.draw, ↓S.d_nil, ↓S.d_cons, ↓S.d0, ↓S.d1, ↓S.d2, ↓S.d3, ↓S.to_nil, ↓S.to_cons, ↓S.tr_nil, ↓S.tr_cons, ↓S.again_, ↓S.merge_, ↓S.ma_nil, ↓S.ma_all, ↓S.ma_cons, ↓S.ret_, ↓S.same_int, ↓S.same_bool, ↓S.beq_self, ↓S.blt_succ, ↓T0, ↓T3, ↓b0, ↓b1, ↓b4, ↓w1, ↓w4, ↓kint, ↓r0, ↓r1, ↓r2, ↓r3, ↓r4, (show bitK 8191 12 = true from rfl), (show bitK 8191 10 = true from rfl), (show bitK 8191 6 = true from rfl), (show bitK 8191 5 = true from rfl)]
theorem or64 {s y : Nat} (hs : s < 18446744073709551616) (hy : y < 18446744073709551616) {f : KV} : iOr .u64 (Int.ofNat s) (Int.ofNat y) f = f (.int .u64 (Int.ofNat (s ||| y))) := by
  unfold iOr
  rw [kInt_eq]
  have e1 : toU .u64 (Int.ofNat s) = s := Nat.mod_eq_of_lt hs
  have e2 : toU .u64 (Int.ofNat y) = y := Nat.mod_eq_of_lt hy
  rw [e1, e2]
  have e3 : Nat.lor s y < 2 ^ 64 := Nat.or_lt_two_pow hs hy
  have e4 : wrapNat .u64 (Nat.lor s y) = Int.ofNat (Nat.lor s y) := congrArg Int.ofNat (Nat.mod_eq_of_lt e3)
  rw [e4]; rfl
theorem shl64 {z : UInt8} {i : Nat} (hi : i < 8) {f : KV} : iShl .u64 (Int.ofNat z.toNat) (Int.ofNat (8 * i)) f = f (.int .u64 (Int.ofNat (z.toNat * 2 ^ (8 * i)))) := by
  show kInt .u64 f (wrapE .u64 (Int.mul (Int.ofNat z.toNat) (.ofNat (Nat.pow 2 (minN (8 * i) 64))))) = _
  rw [kInt_eq, wrapE_eq, minN_eq, Nat.min_eq_left (by omega)]
  have h1 : z.toNat * 2 ^ (8 * i) < 18446744073709551616 := by
    have := z.toNat_lt
    have h2 : 2 ^ (8 * i) ≤ 2 ^ 56 := Nat.pow_le_pow_right (by omega) (by omega)
    have h3 : z.toNat * 2 ^ (8 * i) ≤ 255 * 2 ^ 56 := Nat.mul_le_mul (by omega) h2
    have h4 : 255 * 2 ^ 56 < 18446744073709551616 := by decide
    omega
  have e : Int.mul (Int.ofNat z.toNat) (.ofNat (Nat.pow 2 (8 * i))) = Int.ofNat (z.toNat * 2 ^ (8 * i)) := rfl
  rw [e, u64w h1]
theorem de6 {F : FF} {fu nx p4 i : Nat} {B : Tr Blk} {T : Tr Value} {D : List Deferred} {l : List UInt8} {b : Nat → UInt8} (T0 : T.get 0 = some (.string ⟨⟨l⟩⟩)) (hb : ∀ i, i < 13 → nth l i = some (b i)) (T4 : T.get 4 = some (.pointer (some ⟨p4, 0, none⟩))) (T5 : T.get 5 = some (.int .i64 (.ofNat i))) (hi : i < 8)
    (h4 : B.get p4 = some (S.varB 42 (rowOf b (sumOf b i)))) :
    ∃ h', (∀ k, evP G19_6 ⟨F, none, 19, fu⟩ ⟨T, D, ⟨nx, B⟩⟩ k = k .normal ⟨T, D, h'⟩) ∧ h'.next = nx ∧ h'.b.get p4 = some (S.varB 42 (rowOf b (sumOf b (i + 1)))) ∧ ∀ q, q ≠ p4 → h'.b.get q = B.get q := by
  have b5 := hb (5 + i) (by omega)
  have w5 := u64u8 (z := b (5 + i))
  have e5 : IntKind.i64.wrap (Int.ofNat 5 + Int.ofNat i) = Int.ofNat (5 + i) := wrap64 (n := 5 + i) (by omega)
  have e8 := mul8 hi
  have hs : sumOf b i < 18446744073709551616 := Nat.lt_of_lt_of_le (sumOf_lt b i) (Nat.le_trans (Nat.pow_le_pow_right (by omega) (show 8 * i ≤ 64 by omega)) (by decide))
  have hy : (b (5 + i)).toNat * 2 ^ (8 * i) < 18446744073709551616 := by
    have := (b (5 + i)).toNat_lt
    have h2 : 2 ^ (8 * i) ≤ 2 ^ 56 := Nat.pow_le_pow_right (by omega) (by omega)
    have h3 : (b (5 + i)).toNat * 2 ^ (8 * i) ≤ 255 * 2 ^ 56 := Nat.mul_le_mul (by omega) h2
    have h4 : 255 * 2 ^ 56 < 18446744073709551616 := by decide
    omega
  have s1 : ∀ f : KV, iShl .u64 (Int.ofNat (b (5 + i)).toNat) (Int.ofNat (8 * i)) f = f (.int .u64 (Int.ofNat ((b (5 + i)).toNat * 2 ^ (8 * i)))) := fun f => shl64 hi
  have s2 : ∀ f : KV, iOr .u64 (Int.ofNat (sumOf b i)) (Int.ofNat ((b (5 + i)).toNat * 2 ^ (8 * i))) f = f (.int .u64 (Int.ofNat (sumOf b (i + 1)))) := fun f => or64 hs hy
  have r1 : ∀ f : KV, loadE (some none) ⟨nx, B⟩ ⟨p4, 6, none⟩ f = f (.int .u64 (.ofNat (sumOf b i))) := fun f => S.var_cell h4 rfl
  have r2 : ∀ f : KS, storeE (some 1) ⟨nx, B⟩ ⟨p4, 6, none⟩ (.int .u64 (Int.ofNat (sumOf b (i + 1)))) f = f (upd ⟨nx, B⟩ p4 (S.varB 42 (rowOf b (sumOf b (i + 1))))) := fun f => by
    rw [S.store_1 (fun g => rfl)]
    exact S.var_store (l := rowOf b (sumOf b i)) h4 (by simp) (by simp [rowOf])
  refine ⟨upd ⟨nx, B⟩ p4 (S.varB 42 (rowOf b (sumOf b (i + 1)))), fun k => ?_, rfl, by rw [S.get_upd, if_pos rfl], fun q hq => by rw [S.get_upd, if_neg hq]⟩
  unfold G19_6
  simp only [↓S.skip, ↓S.seq, ↓S.reg, ↓S.cond, ↓S.block, ↓S.loop, ↓S.exit, ↓S.ret, ↓S.seqK_n, ↓S.seqK_e, ↓S.seqK_r, ↓S.blockK_n, ↓S.blockK_r, ↓S.blockK_e, ↓S.ops_nil, ↓S.ops_cons, ↓S.ops_gt, ↓S.ops_gf, ↓S.put_non, ↓S.put_loc, ↓S.put_frm, ↓S.o_loc, ↓S.o_frm, ↓S.o_const, ↓S.first_cons, ↓S.l_nil, ↓S.l_cons, ↓S.op_none, ↓S.op_some, ↓S.move, ↓S.pick, ↓S.alloc, ↓S.box, ↓S.build, ↓S.buildSlice, ↓S.load, ↓S.store, ↓S.nil_, ↓S.bin, ↓S.un, ↓S.conv, ↓S.func, ↓S.makeSlice, ↓S.strSlice, ↓S.fieldAddr, ↓S.field, ↓S.indexSl, ↓S.indexStr, ↓S.extract, ↓S.len, ↓S.lenStr, ↓S.min, ↓S.append, ↓S.call, ↓S.some_, ↓S.oc_some, ↓S.oc_none, ↓S.bT_t, ↓S.bI_t, ↓S.bI_f, ↓S.nC_0, ↓S.nC_s, ↓S.lc_nil, ↓S.lc_cons, ↓S.g_bool, ↓S.g_undef, ↓S.v_int, ↓S.v_bool, ↓S.v_ptr, ↓S.v_slice, ↓S.v_str, ↓S.v_agg, ↓S.v_tuple, ↓S.v_func, ↓S.r_val, ↓S.f_int, ↓S.f_bool, ↓S.f_ptr, ↓S.f_slice, ↓S.f_agg, ↓S.spot_, ↓S.nat_k, ↓S.nat_i, ↓S.ptr_k, ↓S.int_op, ↓S.sh_op, ↓S.add, ↓S.sub, ↓S.mul, ↓S.lss, ↓S.gtr, ↓S.leq, ↓S.geq, ↓S.eqi, ↓S.nei, ↓S.not_, ↓S.convi, ↓S.fn_n, ↓S.fn_r, ↓S.done_nil, ↓S.res_nil, ↓S.res_tmp, ↓S.res_cell, ↓S.res_0, ↓S.res_1, ↓S.res_2, ↓S.args_nil, ↓S.args_cons, Tr.get_put_eq, if_true, if_false, ↓reduceIte, List.nil_append, Nat.reduceEqDiff, Nat.reduceSucc, Nat.zero_add, Nat.reduceAdd, Nat.reduceMul, Nat.zero_ne_one, Nat.one_ne_zero, Bool.not_true, Bool.not_false, ↓S.draw, ↓S.d_nil, ↓S.d_cons, ↓S.d0, ↓S.d1, ↓S.d2, ↓S.d3, ↓S.to_nil, ↓S.to_cons, ↓S.tr_nil, ↓S.tr_cons, ↓S.again_, ↓S.merge_, ↓S.ma_nil, ↓S.ma_all, ↓S.ma_cons, ↓S.ret_, ↓S.same_int, ↓S.same_bool, ↓S.beq_self, ↓S.blt_succ, ↓T0, ↓T4, ↓T5, ↓b5, ↓w5, ↓e5, ↓e8, ↓s1, ↓s2, ↓kint, ↓r1, ↓r2, (show bitK 4095 6 = true from rfl), (show bitK 4095 1 = true from rfl)]
end T
set_option linter.unusedVariables false
set_option linter.unusedSimpArgs false
open Go Go.Ev Go.Proofs
namespace T
set_option maxRecDepth 100000
theorem loop19 {F : FF} {fu p4 : Nat} {K : K} {D : List Deferred} {l : List UInt8} {b : Nat → UInt8} (hb : ∀ i, i < 13 → nth l i = some (b i)) :
    ∀ (d i m : Nat) (T : Tr Value) (h : Heap), 8 = i + d → d < m → T.get 0 = some (.string ⟨⟨l⟩⟩) → T.get 4 = some (.pointer (some ⟨p4, 0, none⟩)) → T.get 24 = some (.int .i64 (.ofNat i)) → h.b.get p4 = some (S.varB 42 (rowOf b (sumOf b i))) →
      ∃ T' h', loopS (evP L19_0) ⟨F, none, 19, fu⟩ K m ⟨T, D, h⟩ = K (.exit 0) ⟨T', D, h'⟩ ∧ T'.get 4 = T.get 4 ∧ T'.get 2 = T.get 2 ∧ h'.next = h.next ∧ h'.b.get p4 = some (S.varB 42 (rowOf b (sumOf b 8))) ∧ ∀ q, q ≠ p4 → h'.b.get q = h.b.get q := by
  intro d
  induction d with
  | zero =>
    intro i m T h hi hm h0 h4 h24 hp
    obtain ⟨m, rfl⟩ : ∃ q, m = q + 1 := ⟨m - 1, by omega⟩
    have e : i = 8 := by omega
    subst e
    have hlt : decide (8 < 8) = false := by decide
    refine ⟨T.put (some (.bool false)) 25, h, ?_, ?_, ?_, rfl, hp, fun q _ => rfl⟩
    · rw [S.loop1]
      unfold L19_0 G19_4
      simp only [↓S.skip, ↓S.seq, ↓S.reg, ↓S.cond, ↓S.block, ↓S.loop, ↓S.exit, ↓S.ret, ↓S.seqK_n, ↓S.seqK_e, ↓S.seqK_r, ↓S.blockK_n, ↓S.blockK_r, ↓S.blockK_e, ↓S.ops_nil, ↓S.ops_cons, ↓S.ops_gt, ↓S.ops_gf, ↓S.put_non, ↓S.put_loc, ↓S.put_frm, ↓S.o_loc, ↓S.o_frm, ↓S.o_const, ↓S.first_cons, ↓S.l_nil, ↓S.l_cons, ↓S.op_none, ↓S.op_some, ↓S.move, ↓S.pick, ↓S.alloc, ↓S.box, ↓S.build, ↓S.buildSlice, ↓S.load, ↓S.store, ↓S.nil_, ↓S.bin, ↓S.un, ↓S.conv, ↓S.func, ↓S.makeSlice, ↓S.strSlice, ↓S.fieldAddr, ↓S.field, ↓S.indexSl, ↓S.indexStr, ↓S.extract, ↓S.len, ↓S.lenStr, ↓S.min, ↓S.append, ↓S.call, ↓S.some_, ↓S.oc_some, ↓S.oc_none, ↓S.bT_t, ↓S.bI_t, ↓S.bI_f, ↓S.nC_0, ↓S.nC_s, ↓S.lc_nil, ↓S.lc_cons, ↓S.g_bool, ↓S.g_undef, ↓S.v_int, ↓S.v_bool, ↓S.v_ptr, ↓S.v_slice, ↓S.v_str, ↓S.v_agg, ↓S.v_tuple, ↓S.v_func, ↓S.r_val, ↓S.f_int, ↓S.f_bool, ↓S.f_ptr, ↓S.f_slice, ↓S.f_agg, ↓S.spot_, ↓S.nat_k, ↓S.nat_i, ↓S.ptr_k, ↓S.int_op, ↓S.sh_op, ↓S.add, ↓S.sub, ↓S.mul, ↓S.lss, ↓S.gtr, ↓S.leq, ↓S.geq, ↓S.eqi, ↓S.nei, ↓S.not_, ↓S.convi, ↓S.fn_n, ↓S.fn_r, ↓S.done_nil, ↓S.res_nil, ↓S.res_tmp, ↓S.res_cell, ↓S.res_0, ↓S.res_1, ↓S.res_2, ↓S.args_nil, ↓S.args_cons, Tr.get_put_eq, if_true, if_false, ↓reduceIte, List.nil_append, Nat.reduceEqDiff, Nat.reduceSucc, Nat.zero_add, Nat.reduceAdd, Nat.reduceMul, Nat.zero_ne_one, Nat.one_ne_zero, Bool.not_true, Bool.not_false, ↓h24, ↓ltNat, ↓hlt, ↓S.loopK_e]
    · simp only [↓S.skip, ↓S.seq, ↓S.reg, ↓S.cond, ↓S.block, ↓S.loop, ↓S.exit, ↓S.ret, ↓S.seqK_n, ↓S.seqK_e, ↓S.seqK_r, ↓S.blockK_n, ↓S.blockK_r, ↓S.blockK_e, ↓S.ops_nil, ↓S.ops_cons, ↓S.ops_gt, ↓S.ops_gf, ↓S.put_non, ↓S.put_loc, ↓S.put_frm, ↓S.o_loc, ↓S.o_frm, ↓S.o_const, ↓S.first_cons, ↓S.l_nil, ↓S.l_cons, ↓S.op_none, ↓S.op_some, ↓S.move, ↓S.pick, ↓S.alloc, ↓S.box, ↓S.build, ↓S.buildSlice, ↓S.load, ↓S.store, ↓S.nil_, ↓S.bin, ↓S.un, ↓S.conv, ↓S.func, ↓S.makeSlice, ↓S.strSlice, ↓S.fieldAddr, ↓S.field, ↓S.indexSl, ↓S.indexStr, ↓S.extract, ↓S.len, ↓S.lenStr, ↓S.min, ↓S.append, ↓S.call, ↓S.some_, ↓S.oc_some, ↓S.oc_none, ↓S.bT_t, ↓S.bI_t, ↓S.bI_f, ↓S.nC_0, ↓S.nC_s, ↓S.lc_nil, ↓S.lc_cons, ↓S.g_bool, ↓S.g_undef, ↓S.v_int, ↓S.v_bool, ↓S.v_ptr, ↓S.v_slice, ↓S.v_str, ↓S.v_agg, ↓S.v_tuple, ↓S.v_func, ↓S.r_val, ↓S.f_int, ↓S.f_bool, ↓S.f_ptr, ↓S.f_slice, ↓S.f_agg, ↓S.spot_, ↓S.nat_k, ↓S.nat_i, ↓S.ptr_k, ↓S.int_op, ↓S.sh_op, ↓S.add, ↓S.sub, ↓S.mul, ↓S.lss, ↓S.gtr, ↓S.leq, ↓S.geq, ↓S.eqi, ↓S.nei, ↓S.not_, ↓S.convi, ↓S.fn_n, ↓S.fn_r, ↓S.done_nil, ↓S.res_nil, ↓S.res_tmp, ↓S.res_cell, ↓S.res_0, ↓S.res_1, ↓S.res_2, ↓S.args_nil, ↓S.args_cons, Tr.get_put_eq, if_true, if_false, ↓reduceIte, List.nil_append, Nat.reduceEqDiff, Nat.reduceSucc, Nat.zero_add, Nat.reduceAdd, Nat.reduceMul, Nat.zero_ne_one, Nat.one_ne_zero, Bool.not_true, Bool.not_false]
    · simp only [↓S.skip, ↓S.seq, ↓S.reg, ↓S.cond, ↓S.block, ↓S.loop, ↓S.exit, ↓S.ret, ↓S.seqK_n, ↓S.seqK_e, ↓S.seqK_r, ↓S.blockK_n, ↓S.blockK_r, ↓S.blockK_e, ↓S.ops_nil, ↓S.ops_cons, ↓S.ops_gt, ↓S.ops_gf, ↓S.put_non, ↓S.put_loc, ↓S.put_frm, ↓S.o_loc, ↓S.o_frm, ↓S.o_const, ↓S.first_cons, ↓S.l_nil, ↓S.l_cons, ↓S.op_none, ↓S.op_some, ↓S.move, ↓S.pick, ↓S.alloc, ↓S.box, ↓S.build, ↓S.buildSlice, ↓S.load, ↓S.store, ↓S.nil_, ↓S.bin, ↓S.un, ↓S.conv, ↓S.func, ↓S.makeSlice, ↓S.strSlice, ↓S.fieldAddr, ↓S.field, ↓S.indexSl, ↓S.indexStr, ↓S.extract, ↓S.len, ↓S.lenStr, ↓S.min, ↓S.append, ↓S.call, ↓S.some_, ↓S.oc_some, ↓S.oc_none, ↓S.bT_t, ↓S.bI_t, ↓S.bI_f, ↓S.nC_0, ↓S.nC_s, ↓S.lc_nil, ↓S.lc_cons, ↓S.g_bool, ↓S.g_undef, ↓S.v_int, ↓S.v_bool, ↓S.v_ptr, ↓S.v_slice, ↓S.v_str, ↓S.v_agg, ↓S.v_tuple, ↓S.v_func, ↓S.r_val, ↓S.f_int, ↓S.f_bool, ↓S.f_ptr, ↓S.f_slice, ↓S.f_agg, ↓S.spot_, ↓S.nat_k, ↓S.nat_i, ↓S.ptr_k, ↓S.int_op, ↓S.sh_op, ↓S.add, ↓S.sub, ↓S.mul, ↓S.lss, ↓S.gtr, ↓S.leq, ↓S.geq, ↓S.eqi, ↓S.nei, ↓S.not_, ↓S.convi, ↓S.fn_n, ↓S.fn_r, ↓S.done_nil, ↓S.res_nil, ↓S.res_tmp, ↓S.res_cell, ↓S.res_0, ↓S.res_1, ↓S.res_2, ↓S.args_nil, ↓S.args_cons, Tr.get_put_eq, if_true, if_false, ↓reduceIte, List.nil_append, Nat.reduceEqDiff, Nat.reduceSucc, Nat.zero_add, Nat.reduceAdd, Nat.reduceMul, Nat.zero_ne_one, Nat.one_ne_zero, Bool.not_true, Bool.not_false]
  | succ d ih =>
    intro i m T h hi hm h0 h4 h24 hp
    obtain ⟨m, rfl⟩ : ∃ q, m = q + 1 := ⟨m - 1, by omega⟩
    have hi8 : i < 8 := by omega
    have hlt : decide (i < 8) = true := by simp; omega
    have hw := bump (i := i) (by omega)
    obtain ⟨nx, B⟩ := h
    obtain ⟨T1, hT1⟩ : ∃ T1, T1 = (T.put (some (.bool true)) 25).put (some (.int .i64 (.ofNat i))) 5 := ⟨_, rfl⟩
    have u : ∀ t, t ≠ 25 → t ≠ 5 → T1.get t = T.get t := fun t a b => by rw [hT1, Tr.get_put_eq, if_neg b, Tr.get_put_eq, if_neg a]
    obtain ⟨h6, a1, a2, a3, a4⟩ := de6 (F := F) (fu := fu) (nx := nx) (B := B) (D := D) (T := T1) ((u 0 (by decide) (by decide)).trans h0) hb ((u 4 (by decide) (by decide)).trans h4) (by rw [hT1, Tr.get_put_eq, if_pos rfl]) hi8 hp
    have x24 := (u 24 (by decide) (by decide)).trans h24
    have key : loopS (evP L19_0) ⟨F, none, 19, fu⟩ K (m + 1) ⟨T, D, ⟨nx, B⟩⟩ = loopS (evP L19_0) ⟨F, none, 19, fu⟩ K m ⟨T1.put (some (.int .i64 (.ofNat (i + 1)))) 24, D, h6⟩ := by
      rw [S.loop1]
      conv => lhs; unfold L19_0 G19_4 G19_5
      simp only [↓S.skip, ↓S.seq, ↓S.reg, ↓S.cond, ↓S.block, ↓S.loop, ↓S.exit, ↓S.ret, ↓S.seqK_n, ↓S.seqK_e, ↓S.seqK_r, ↓S.blockK_n, ↓S.blockK_r, ↓S.blockK_e, ↓S.ops_nil, ↓S.ops_cons, ↓S.ops_gt, ↓S.ops_gf, ↓S.put_non, ↓S.put_loc, ↓S.put_frm, ↓S.o_loc, ↓S.o_frm, ↓S.o_const, ↓S.first_cons, ↓S.l_nil, ↓S.l_cons, ↓S.op_none, ↓S.op_some, ↓S.move, ↓S.pick, ↓S.alloc, ↓S.box, ↓S.build, ↓S.buildSlice, ↓S.load, ↓S.store, ↓S.nil_, ↓S.bin, ↓S.un, ↓S.conv, ↓S.func, ↓S.makeSlice, ↓S.strSlice, ↓S.fieldAddr, ↓S.field, ↓S.indexSl, ↓S.indexStr, ↓S.extract, ↓S.len, ↓S.lenStr, ↓S.min, ↓S.append, ↓S.call, ↓S.some_, ↓S.oc_some, ↓S.oc_none, ↓S.bT_t, ↓S.bI_t, ↓S.bI_f, ↓S.nC_0, ↓S.nC_s, ↓S.lc_nil, ↓S.lc_cons, ↓S.g_bool, ↓S.g_undef, ↓S.v_int, ↓S.v_bool, ↓S.v_ptr, ↓S.v_slice, ↓S.v_str, ↓S.v_agg, ↓S.v_tuple, ↓S.v_func, ↓S.r_val, ↓S.f_int, ↓S.f_bool, ↓S.f_ptr, ↓S.f_slice, ↓S.f_agg, ↓S.spot_, ↓S.nat_k, ↓S.nat_i, ↓S.ptr_k, ↓S.int_op, ↓S.sh_op, ↓S.add, ↓S.sub, ↓S.mul, ↓S.lss, ↓S.gtr, ↓S.leq, ↓S.geq, ↓S.eqi, ↓S.nei, ↓S.not_, ↓S.convi, ↓S.fn_n, ↓S.fn_r, ↓S.done_nil, ↓S.res_nil, ↓S.res_tmp, ↓S.res_cell, ↓S.res_0, ↓S.res_1, ↓S.res_2, ↓S.args_nil, ↓S.args_cons, Tr.get_put_eq, if_true, if_false, ↓reduceIte, List.nil_append, Nat.reduceEqDiff, Nat.reduceSucc, Nat.zero_add, Nat.reduceAdd, Nat.reduceMul, Nat.zero_ne_one, Nat.one_ne_zero, Bool.not_true, Bool.not_false, ↓h24, ↓ltNat, ↓hlt]
      rw [← hT1, a1]
      unfold G19_7
      simp only [↓S.skip, ↓S.seq, ↓S.reg, ↓S.cond, ↓S.block, ↓S.loop, ↓S.exit, ↓S.ret, ↓S.seqK_n, ↓S.seqK_e, ↓S.seqK_r, ↓S.blockK_n, ↓S.blockK_r, ↓S.blockK_e, ↓S.ops_nil, ↓S.ops_cons, ↓S.ops_gt, ↓S.ops_gf, ↓S.put_non, ↓S.put_loc, ↓S.put_frm, ↓S.o_loc, ↓S.o_frm, ↓S.o_const, ↓S.first_cons, ↓S.l_nil, ↓S.l_cons, ↓S.op_none, ↓S.op_some, ↓S.move, ↓S.pick, ↓S.alloc, ↓S.box, ↓S.build, ↓S.buildSlice, ↓S.load, ↓S.store, ↓S.nil_, ↓S.bin, ↓S.un, ↓S.conv, ↓S.func, ↓S.makeSlice, ↓S.strSlice, ↓S.fieldAddr, ↓S.field, ↓S.indexSl, ↓S.indexStr, ↓S.extract, ↓S.len, ↓S.lenStr, ↓S.min, ↓S.append, ↓S.call, ↓S.some_, ↓S.oc_some, ↓S.oc_none, ↓S.bT_t, ↓S.bI_t, ↓S.bI_f, ↓S.nC_0, ↓S.nC_s, ↓S.lc_nil, ↓S.lc_cons, ↓S.g_bool, ↓S.g_undef, ↓S.v_int, ↓S.v_bool, ↓S.v_ptr, ↓S.v_slice, ↓S.v_str, ↓S.v_agg, ↓S.v_tuple, ↓S.v_func, ↓S.r_val, ↓S.f_int, ↓S.f_bool, ↓S.f_ptr, ↓S.f_slice, ↓S.f_agg, ↓S.spot_, ↓S.nat_k, ↓S.nat_i, ↓S.ptr_k, ↓S.int_op, ↓S.sh_op, ↓S.add, ↓S.sub, ↓S.mul, ↓S.lss, ↓S.gtr, ↓S.leq, ↓S.geq, ↓S.eqi, ↓S.nei, ↓S.not_, ↓S.convi, ↓S.fn_n, ↓S.fn_r, ↓S.done_nil, ↓S.res_nil, ↓S.res_tmp, ↓S.res_cell, ↓S.res_0, ↓S.res_1, ↓S.res_2, ↓S.args_nil, ↓S.args_cons, Tr.get_put_eq, if_true, if_false, ↓reduceIte, List.nil_append, Nat.reduceEqDiff, Nat.reduceSucc, Nat.zero_add, Nat.reduceAdd, Nat.reduceMul, Nat.zero_ne_one, Nat.one_ne_zero, Bool.not_true, Bool.not_false, ↓x24, ↓hw, ↓S.loopK_n]
      rfl
    rw [key]
    obtain ⟨T', h', f1, f2, f3, f4, f5, f6⟩ := ih (i + 1) m (T1.put (some (.int .i64 (.ofNat (i + 1)))) 24) h6 (by omega) (by omega) (by rw [Tr.get_put_eq, if_neg (by decide), u 0 (by decide) (by decide)]; exact h0) (by rw [Tr.get_put_eq, if_neg (by decide), u 4 (by decide) (by decide)]; exact h4) (by rw [Tr.get_put_eq, if_pos rfl]) a3
    exact ⟨T', h', f1, by rw [f2, Tr.get_put_eq, if_neg (by decide), u 4 (by decide) (by decide)], by rw [f3, Tr.get_put_eq, if_neg (by decide), u 2 (by decide) (by decide)], by rw [f4, a2], f5, fun q hq => by rw [f6 q hq, a4 q hq]⟩
theorem run19 {F : FF} {n : Nat} {h : Heap} {l : List UInt8} {b : Nat → UInt8} (hb : ∀ i, i < 13 → nth l i = some (b i)) (hn : 8 < n) :
    ∃ h', enterF E F 19 [.string ⟨⟨l⟩⟩] h n = some (.val (.agg ⟨rowOf b (sumOf b 8)⟩) h') ∧ h.next ≤ h'.next ∧ ∀ q, q < h.next → h'.b.get q = h.b.get q := by
  rw [enterF_eq pfn19 (by simp [M19])]
  show ∃ h', evP P19 ⟨F, none, 19, n⟩ ⟨argsT [.string ⟨⟨l⟩⟩] 0 .leaf, [], h⟩ (fnK R19) = _ ∧ _
  obtain ⟨H0, hH0⟩ : ∃ H0 : Heap, H0 = ⟨h.next + 1, h.b.put (some (S.varB 42 [Value.bool false, .int .i64 (.ofNat 0), .int .u8 (.ofNat 0), .int .i64 (.ofNat 0), .int .i64 (.ofNat 0), .int .i64 (.ofNat 0), .int .u64 (.ofNat 0)])) h.next⟩ := ⟨_, rfl⟩
  have r0 : ∀ f : KH, mkVar h 42 [Value.bool false, .int .i64 (.ofNat 0), .int .u8 (.ofNat 0), .int .i64 (.ofNat 0), .int .i64 (.ofNat 0), .int .i64 (.ofNat 0), .int .u64 (.ofNat 0)] f = f (.pointer (some ⟨h.next, 0, none⟩)) H0 := fun f => by rw [hH0]; exact S.mkVar_eq
  have g0 : ∀ q, H0.b.get q = if q = h.next then some (S.varB 42 [Value.bool false, .int .i64 (.ofNat 0), .int .u8 (.ofNat 0), .int .i64 (.ofNat 0), .int .i64 (.ofNat 0), .int .i64 (.ofNat 0), .int .u64 (.ofNat 0)]) else h.b.get q := fun q => by rw [hH0]; exact Tr.get_put_eq _ _ _
  have n0 : H0.next = h.next + 1 := by rw [hH0]
  obtain ⟨T0, hT0⟩ : ∃ T0 : Tr Value, T0 = (Tr.put (some (.string ⟨⟨l⟩⟩)) .leaf 0).put (some (.pointer (some ⟨h.next, 0, none⟩))) 2 := ⟨_, rfl⟩
  have t00 : T0.get 0 = some (.string ⟨⟨l⟩⟩) := by rw [hT0]; simp only [↓S.skip, ↓S.seq, ↓S.reg, ↓S.cond, ↓S.block, ↓S.loop, ↓S.exit, ↓S.ret, ↓S.seqK_n, ↓S.seqK_e, ↓S.seqK_r, ↓S.blockK_n, ↓S.blockK_r, ↓S.blockK_e, ↓S.ops_nil, ↓S.ops_cons, ↓S.ops_gt, ↓S.ops_gf, ↓S.put_non, ↓S.put_loc, ↓S.put_frm, ↓S.o_loc, ↓S.o_frm, ↓S.o_const, ↓S.first_cons, ↓S.l_nil, ↓S.l_cons, ↓S.op_none, ↓S.op_some, ↓S.move, ↓S.pick, ↓S.alloc, ↓S.box, ↓S.build, ↓S.buildSlice, ↓S.load, ↓S.store, ↓S.nil_, ↓S.bin, ↓S.un, ↓S.conv, ↓S.func, ↓S.makeSlice, ↓S.strSlice, ↓S.fieldAddr, ↓S.field, ↓S.indexSl, ↓S.indexStr, ↓S.extract, ↓S.len, ↓S.lenStr, ↓S.min, ↓S.append, ↓S.call, ↓S.some_, ↓S.oc_some, ↓S.oc_none, ↓S.bT_t, ↓S.bI_t, ↓S.bI_f, ↓S.nC_0, ↓S.nC_s, ↓S.lc_nil, ↓S.lc_cons, ↓S.g_bool, ↓S.g_undef, ↓S.v_int, ↓S.v_bool, ↓S.v_ptr, ↓S.v_slice, ↓S.v_str, ↓S.v_agg, ↓S.v_tuple, ↓S.v_func, ↓S.r_val, ↓S.f_int, ↓S.f_bool, ↓S.f_ptr, ↓S.f_slice, ↓S.f_agg, ↓S.spot_, ↓S.nat_k, ↓S.nat_i, ↓S.ptr_k, ↓S.int_op, ↓S.sh_op, ↓S.add, ↓S.sub, ↓S.mul, ↓S.lss, ↓S.gtr, ↓S.leq, ↓S.geq, ↓S.eqi, ↓S.nei, ↓S.not_, ↓S.convi, ↓S.fn_n, ↓S.fn_r, ↓S.done_nil, ↓S.res_nil, ↓S.res_tmp, ↓S.res_cell, ↓S.res_0, ↓S.res_1, ↓S.res_2, ↓S.args_nil, ↓S.args_cons, Tr.get_put_eq, if_true, if_false, ↓reduceIte, List.nil_append, Nat.reduceEqDiff, Nat.reduceSucc, Nat.zero_add, Nat.reduceAdd, Nat.reduceMul, Nat.zero_ne_one, Nat.one_ne_zero, Bool.not_true, Bool.not_false]
  have t02 : T0.get 2 = some (.pointer (some ⟨h.next, 0, none⟩)) := by rw [hT0]; simp only [↓S.skip, ↓S.seq, ↓S.reg, ↓S.cond, ↓S.block, ↓S.loop, ↓S.exit, ↓S.ret, ↓S.seqK_n, ↓S.seqK_e, ↓S.seqK_r, ↓S.blockK_n, ↓S.blockK_r, ↓S.blockK_e, ↓S.ops_nil, ↓S.ops_cons, ↓S.ops_gt, ↓S.ops_gf, ↓S.put_non, ↓S.put_loc, ↓S.put_frm, ↓S.o_loc, ↓S.o_frm, ↓S.o_const, ↓S.first_cons, ↓S.l_nil, ↓S.l_cons, ↓S.op_none, ↓S.op_some, ↓S.move, ↓S.pick, ↓S.alloc, ↓S.box, ↓S.build, ↓S.buildSlice, ↓S.load, ↓S.store, ↓S.nil_, ↓S.bin, ↓S.un, ↓S.conv, ↓S.func, ↓S.makeSlice, ↓S.strSlice, ↓S.fieldAddr, ↓S.field, ↓S.indexSl, ↓S.indexStr, ↓S.extract, ↓S.len, ↓S.lenStr, ↓S.min, ↓S.append, ↓S.call, ↓S.some_, ↓S.oc_some, ↓S.oc_none, ↓S.bT_t, ↓S.bI_t, ↓S.bI_f, ↓S.nC_0, ↓S.nC_s, ↓S.lc_nil, ↓S.lc_cons, ↓S.g_bool, ↓S.g_undef, ↓S.v_int, ↓S.v_bool, ↓S.v_ptr, ↓S.v_slice, ↓S.v_str, ↓S.v_agg, ↓S.v_tuple, ↓S.v_func, ↓S.r_val, ↓S.f_int, ↓S.f_bool, ↓S.f_ptr, ↓S.f_slice, ↓S.f_agg, ↓S.spot_, ↓S.nat_k, ↓S.nat_i, ↓S.ptr_k, ↓S.int_op, ↓S.sh_op, ↓S.add, ↓S.sub, ↓S.mul, ↓S.lss, ↓S.gtr, ↓S.leq, ↓S.geq, ↓S.eqi, ↓S.nei, ↓S.not_, ↓S.convi, ↓S.fn_n, ↓S.fn_r, ↓S.done_nil, ↓S.res_nil, ↓S.res_tmp, ↓S.res_cell, ↓S.res_0, ↓S.res_1, ↓S.res_2, ↓S.args_nil, ↓S.args_cons, Tr.get_put_eq, if_true, if_false, ↓reduceIte, List.nil_append, Nat.reduceEqDiff, Nat.reduceSucc, Nat.zero_add, Nat.reduceAdd, Nat.reduceMul, Nat.zero_ne_one, Nat.one_ne_zero, Bool.not_true, Bool.not_false]
  obtain ⟨nx0, B0⟩ := H0
  have n0 : nx0 = h.next + 1 := n0
  obtain ⟨⟨nx1, B1⟩, a1, a2, a3, a4⟩ := de1 (F := F) (fu := n) (nx := nx0) (B := B0) (D := []) t00 hb
  have a2 : nx1 = nx0 + 1 := a2
  obtain ⟨T1, hT1⟩ : ∃ T1, T1 = T0.put (some (.pointer (some ⟨nx0, 0, none⟩))) 3 := ⟨_, rfl⟩
  have t10 : T1.get 0 = some (.string ⟨⟨l⟩⟩) := by rw [hT1, Tr.get_put_eq, if_neg (by decide)]; exact t00
  have t12 : T1.get 2 = some (.pointer (some ⟨h.next, 0, none⟩)) := by rw [hT1, Tr.get_put_eq, if_neg (by decide)]; exact t02
  obtain ⟨⟨nx2, B2⟩, c1, c2, c3, c4⟩ := de2 (F := F) (fu := n) (nx := nx1) (B := B1) (D := []) t10 hb (by rw [hT1, Tr.get_put_eq, if_pos rfl]) a3
  have c2 : nx2 = nx1 + 1 := c2
  obtain ⟨T2, hT2⟩ : ∃ T2, T2 = (T1.put (some (.pointer (some ⟨nx1, 0, none⟩))) 4).put (some (.int .i64 (.ofNat 0))) 24 := ⟨_, rfl⟩
  have u : ∀ t, t ≠ 4 → t ≠ 24 → T2.get t = T1.get t := fun t a b => by rw [hT2, Tr.get_put_eq, if_neg b, Tr.get_put_eq, if_neg a]
  have t24 : T2.get 4 = some (.pointer (some ⟨nx1, 0, none⟩)) := by rw [hT2, Tr.get_put_eq, if_neg (by decide), Tr.get_put_eq, if_pos rfl]
  obtain ⟨T', h', f1, f2, f3, f4, f5, f6⟩ := loop19 (F := F) (fu := n) (p4 := nx1) (D := []) (K := (blockK 0 (seqK (evP (.seq G19_8 .ret)) ⟨F, none, 19, n⟩ (fnK [.cell (some (some 7)) (.frm 2)])))) hb 8 0 n T2 ⟨nx2, B2⟩ rfl hn ((u 0 (by decide) (by decide)).trans t10) t24 (by rw [hT2, Tr.get_put_eq, if_pos rfl]) c3
  have x4 : T'.get 4 = some (.pointer (some ⟨nx1, 0, none⟩)) := f2.trans t24
  have x2 : T'.get 2 = some (.pointer (some ⟨h.next, 0, none⟩)) := f3.trans ((u 2 (by decide) (by decide)).trans t12)
  have f4 : h'.next = nx2 := f4
  have r4 : ∀ f : KV, loadE (some (some 7)) h' ⟨nx1, 0, none⟩ f = f (.agg ⟨rowOf b (sumOf b 8)⟩) := fun f => S.var_whole (l := rowOf b (sumOf b 8)) f5 (by simp [rowOf])
  have hz : h'.b.get h.next = some (S.varB 42 [Value.bool false, .int .i64 (.ofNat 0), .int .u8 (.ofNat 0), .int .i64 (.ofNat 0), .int .i64 (.ofNat 0), .int .i64 (.ofNat 0), .int .u64 (.ofNat 0)]) := by
    rw [f6 _ (by omega)]
    show B2.get h.next = _
    rw [c4 _ (by omega)]
    show B1.get h.next = _
    rw [a4 _ (by omega)]
    exact (g0 h.next).trans (if_pos rfl)
  have r5 : ∀ f : KS, storeE (some 7) h' ⟨h.next, 0, none⟩ (.agg ⟨rowOf b (sumOf b 8)⟩) f = f (upd h' h.next (S.varB 42 (rowOf b (sumOf b 8)))) := fun f => by
    rw [S.store_agg rfl]
    exact S.var_store (e := 42) (l := [Value.bool false, .int .i64 (.ofNat 0), .int .u8 (.ofNat 0), .int .i64 (.ofNat 0), .int .i64 (.ofNat 0), .int .i64 (.ofNat 0), .int .u64 (.ofNat 0)]) hz (by simp [rowOf]) (by simp [rowOf])
  have r6 : ∀ f : KV, loadE (some (some 7)) (upd h' h.next (S.varB 42 (rowOf b (sumOf b 8)))) ⟨h.next, 0, none⟩ f = f (.agg ⟨rowOf b (sumOf b 8)⟩) := fun f => S.var_whole (e := 42) (l := rowOf b (sumOf b 8)) (by rw [S.get_upd, if_pos rfl]) (by simp [rowOf])
  refine ⟨upd h' h.next (S.varB 42 (rowOf b (sumOf b 8))), ?_, by show h.next ≤ h'.next; omega, fun q hq => ?_⟩
  · unfold P19 G19_0 R19
    simp only [↓S.skip, ↓S.seq, ↓S.reg, ↓S.cond, ↓S.block, ↓S.loop, ↓S.exit, ↓S.ret, ↓S.seqK_n, ↓S.seqK_e, ↓S.seqK_r, ↓S.blockK_n, ↓S.blockK_r, ↓S.blockK_e, ↓S.ops_nil, ↓S.ops_cons, ↓S.ops_gt, ↓S.ops_gf, ↓S.put_non, ↓S.put_loc, ↓S.put_frm, ↓S.o_loc, ↓S.o_frm, ↓S.o_const, ↓S.first_cons, ↓S.l_nil, ↓S.l_cons, ↓S.op_none, ↓S.op_some, ↓S.move, ↓S.pick, ↓S.alloc, ↓S.box, ↓S.build, ↓S.buildSlice, ↓S.load, ↓S.store, ↓S.nil_, ↓S.bin, ↓S.un, ↓S.conv, ↓S.func, ↓S.makeSlice, ↓S.strSlice, ↓S.fieldAddr, ↓S.field, ↓S.indexSl, ↓S.indexStr, ↓S.extract, ↓S.len, ↓S.lenStr, ↓S.min, ↓S.append, ↓S.call, ↓S.some_, ↓S.oc_some, ↓S.oc_none, ↓S.bT_t, ↓S.bI_t, ↓S.bI_f, ↓S.nC_0, ↓S.nC_s, ↓S.lc_nil, ↓S.lc_cons, ↓S.g_bool, ↓S.g_undef, ↓S.v_int, ↓S.v_bool, ↓S.v_ptr, ↓S.v_slice, ↓S.v_str, ↓S.v_agg, ↓S.v_tuple, ↓S.v_func, ↓S.r_val, ↓S.f_int, ↓S.f_bool, ↓S.f_ptr, ↓S.f_slice, ↓S.f_agg, ↓S.spot_, ↓S.nat_k, ↓S.nat_i, ↓S.ptr_k, ↓S.int_op, ↓S.sh_op, ↓S.add, ↓S.sub, ↓S.mul, ↓S.lss, ↓S.gtr, ↓S.leq, ↓S.geq, ↓S.eqi, ↓S.nei, ↓S.not_, ↓S.convi, ↓S.fn_n, ↓S.fn_r, ↓S.done_nil, ↓S.res_nil, ↓S.res_tmp, ↓S.res_cell, ↓S.res_0, ↓S.res_1, ↓S.res_2, ↓S.args_nil, ↓S.args_cons, Tr.get_put_eq, if_true, if_false, ↓reduceIte, List.nil_append, Nat.reduceEqDiff, Nat.reduceSucc, Nat.zero_add, Nat.reduceAdd, Nat.reduceMul, Nat.zero_ne_one, Nat.one_ne_zero, Bool.not_true, Bool.not_false, ↓r0]
    rw [← hT0, a1]
    simp only [↓S.skip, ↓S.seq, ↓S.reg, ↓S.cond, ↓S.block, ↓S.loop, ↓S.exit, ↓S.ret, ↓S.seqK_n, ↓S.seqK_e, ↓S.seqK_r, ↓S.blockK_n, ↓S.blockK_r, ↓S.blockK_e, ↓S.ops_nil, ↓S.ops_cons, ↓S.ops_gt, ↓S.ops_gf, ↓S.put_non, ↓S.put_loc, ↓S.put_frm, ↓S.o_loc, ↓S.o_frm, ↓S.o_const, ↓S.first_cons, ↓S.l_nil, ↓S.l_cons, ↓S.op_none, ↓S.op_some, ↓S.move, ↓S.pick, ↓S.alloc, ↓S.box, ↓S.build, ↓S.buildSlice, ↓S.load, ↓S.store, ↓S.nil_, ↓S.bin, ↓S.un, ↓S.conv, ↓S.func, ↓S.makeSlice, ↓S.strSlice, ↓S.fieldAddr, ↓S.field, ↓S.indexSl, ↓S.indexStr, ↓S.extract, ↓S.len, ↓S.lenStr, ↓S.min, ↓S.append, ↓S.call, ↓S.some_, ↓S.oc_some, ↓S.oc_none, ↓S.bT_t, ↓S.bI_t, ↓S.bI_f, ↓S.nC_0, ↓S.nC_s, ↓S.lc_nil, ↓S.lc_cons, ↓S.g_bool, ↓S.g_undef, ↓S.v_int, ↓S.v_bool, ↓S.v_ptr, ↓S.v_slice, ↓S.v_str, ↓S.v_agg, ↓S.v_tuple, ↓S.v_func, ↓S.r_val, ↓S.f_int, ↓S.f_bool, ↓S.f_ptr, ↓S.f_slice, ↓S.f_agg, ↓S.spot_, ↓S.nat_k, ↓S.nat_i, ↓S.ptr_k, ↓S.int_op, ↓S.sh_op, ↓S.add, ↓S.sub, ↓S.mul, ↓S.lss, ↓S.gtr, ↓S.leq, ↓S.geq, ↓S.eqi, ↓S.nei, ↓S.not_, ↓S.convi, ↓S.fn_n, ↓S.fn_r, ↓S.done_nil, ↓S.res_nil, ↓S.res_tmp, ↓S.res_cell, ↓S.res_0, ↓S.res_1, ↓S.res_2, ↓S.args_nil, ↓S.args_cons, Tr.get_put_eq, if_true, if_false, ↓reduceIte, List.nil_append, Nat.reduceEqDiff, Nat.reduceSucc, Nat.zero_add, Nat.reduceAdd, Nat.reduceMul, Nat.zero_ne_one, Nat.one_ne_zero, Bool.not_true, Bool.not_false]
    rw [← hT1, c1]
    unfold G19_3
    simp only [↓S.skip, ↓S.seq, ↓S.reg, ↓S.cond, ↓S.block, ↓S.loop, ↓S.exit, ↓S.ret, ↓S.seqK_n, ↓S.seqK_e, ↓S.seqK_r, ↓S.blockK_n, ↓S.blockK_r, ↓S.blockK_e, ↓S.ops_nil, ↓S.ops_cons, ↓S.ops_gt, ↓S.ops_gf, ↓S.put_non, ↓S.put_loc, ↓S.put_frm, ↓S.o_loc, ↓S.o_frm, ↓S.o_const, ↓S.first_cons, ↓S.l_nil, ↓S.l_cons, ↓S.op_none, ↓S.op_some, ↓S.move, ↓S.pick, ↓S.alloc, ↓S.box, ↓S.build, ↓S.buildSlice, ↓S.load, ↓S.store, ↓S.nil_, ↓S.bin, ↓S.un, ↓S.conv, ↓S.func, ↓S.makeSlice, ↓S.strSlice, ↓S.fieldAddr, ↓S.field, ↓S.indexSl, ↓S.indexStr, ↓S.extract, ↓S.len, ↓S.lenStr, ↓S.min, ↓S.append, ↓S.call, ↓S.some_, ↓S.oc_some, ↓S.oc_none, ↓S.bT_t, ↓S.bI_t, ↓S.bI_f, ↓S.nC_0, ↓S.nC_s, ↓S.lc_nil, ↓S.lc_cons, ↓S.g_bool, ↓S.g_undef, ↓S.v_int, ↓S.v_bool, ↓S.v_ptr, ↓S.v_slice, ↓S.v_str, ↓S.v_agg, ↓S.v_tuple, ↓S.v_func, ↓S.r_val, ↓S.f_int, ↓S.f_bool, ↓S.f_ptr, ↓S.f_slice, ↓S.f_agg, ↓S.spot_, ↓S.nat_k, ↓S.nat_i, ↓S.ptr_k, ↓S.int_op, ↓S.sh_op, ↓S.add, ↓S.sub, ↓S.mul, ↓S.lss, ↓S.gtr, ↓S.leq, ↓S.geq, ↓S.eqi, ↓S.nei, ↓S.not_, ↓S.convi, ↓S.fn_n, ↓S.fn_r, ↓S.done_nil, ↓S.res_nil, ↓S.res_tmp, ↓S.res_cell, ↓S.res_0, ↓S.res_1, ↓S.res_2, ↓S.args_nil, ↓S.args_cons, Tr.get_put_eq, if_true, if_false, ↓reduceIte, List.nil_append, Nat.reduceEqDiff, Nat.reduceSucc, Nat.zero_add, Nat.reduceAdd, Nat.reduceMul, Nat.zero_ne_one, Nat.one_ne_zero, Bool.not_true, Bool.not_false]
    rw [← hT2]
    refine Eq.trans f1 ?_
    unfold G19_8
    simp only [↓S.skip, ↓S.seq, ↓S.reg, ↓S.cond, ↓S.block, ↓S.loop, ↓S.exit, ↓S.ret, ↓S.seqK_n, ↓S.seqK_e, ↓S.seqK_r, ↓S.blockK_n, ↓S.blockK_r, ↓S.blockK_e, ↓S.ops_nil, ↓S.ops_cons, ↓S.ops_gt, ↓S.ops_gf, ↓S.put_non, ↓S.put_loc, ↓S.put_frm, ↓S.o_loc, ↓S.o_frm, ↓S.o_const, ↓S.first_cons, ↓S.l_nil, ↓S.l_cons, ↓S.op_none, ↓S.op_some, ↓S.move, ↓S.pick, ↓S.alloc, ↓S.box, ↓S.build, ↓S.buildSlice, ↓S.load, ↓S.store, ↓S.nil_, ↓S.bin, ↓S.un, ↓S.conv, ↓S.func, ↓S.makeSlice, ↓S.strSlice, ↓S.fieldAddr, ↓S.field, ↓S.indexSl, ↓S.indexStr, ↓S.extract, ↓S.len, ↓S.lenStr, ↓S.min, ↓S.append, ↓S.call, ↓S.some_, ↓S.oc_some, ↓S.oc_none, ↓S.bT_t, ↓S.bI_t, ↓S.bI_f, ↓S.nC_0, ↓S.nC_s, ↓S.lc_nil, ↓S.lc_cons, ↓S.g_bool, ↓S.g_undef, ↓S.v_int, ↓S.v_bool, ↓S.v_ptr, ↓S.v_slice, ↓S.v_str, ↓S.v_agg, ↓S.v_tuple, ↓S.v_func, ↓S.r_val, ↓S.f_int, ↓S.f_bool, ↓S.f_ptr, ↓S.f_slice, ↓S.f_agg, ↓S.spot_, ↓S.nat_k, ↓S.nat_i, ↓S.ptr_k, ↓S.int_op, ↓S.sh_op, ↓S.add, ↓S.sub, ↓S.mul, ↓S.lss, ↓S.gtr, ↓S.leq, ↓S.geq, ↓S.eqi, ↓S.nei, ↓S.not_, ↓S.convi, ↓S.fn_n, ↓S.fn_r, ↓S.done_nil, ↓S.res_nil, ↓S.res_tmp, ↓S.res_cell, ↓S.res_0, ↓S.res_1, ↓S.res_2, ↓S.args_nil, ↓S.args_cons, Tr.get_put_eq, if_true, if_false, ↓reduceIte, List.nil_append, Nat.reduceEqDiff, Nat.reduceSucc, Nat.zero_add, Nat.reduceAdd, Nat.reduceMul, Nat.zero_ne_one, Nat.one_ne_zero, Bool.not_true, Bool.not_false, ↓x4, ↓x2, ↓r4, ↓r5, ↓r6]
  · rw [S.get_upd, if_neg (by omega), f6 _ (by omega)]
    show B2.get q = _
    rw [c4 _ (by omega)]
    show B1.get q = _
    rw [a4 _ (by omega)]
    exact (g0 q).trans (if_neg (by omega))
end T
set_option linter.unusedVariables false
set_option linter.unusedSimpArgs false
open Go Go.Ev Go.Proofs
namespace T
set_option maxRecDepth 100000
def e42 : Elem := ⟨42, 7, 56, [Value.bool false, .int .i64 (.ofNat 0), .int .u8 (.ofNat 0), .int .i64 (.ofNat 0), .int .i64 (.ofNat 0), .int .i64 (.ofNat 0), .int .u64 (.ofNat 0)]⟩
def getb (l : List UInt8) (i : Nat) : UInt8 := l.getD i 0
def rowB (l : List UInt8) : Cells := rowOf (getb l) (sumOf (getb l) 8)
def decs : Nat → List UInt8 → List Cells
  | 0, _ => []
  | d + 1, l => rowB l :: decs d (l.drop 13)
def oks : Nat → List UInt8 → Bool
  | 0, _ => true
  | d + 1, l => decide ((getb l 0).toNat ≤ 1) && oks d (l.drop 13)
theorem decs_len : ∀ (d : Nat) (l : List UInt8), (decs d l).length = d
  | 0, _ => rfl
  | d + 1, l => by simp [decs, decs_len d]
def F19 (F : FF) : Prop := ∀ h l b, (∀ i, i < 13 → nth l i = some (b i)) → ∃ h', F (.func 19) [.string ⟨⟨l⟩⟩] [] h = some (.val (.agg ⟨rowOf b (sumOf b 8)⟩) h') ∧ h.next ≤ h'.next ∧ ∀ q, q < h.next → h'.b.get q = h.b.get q
theorem outMono {h h' : Heap} {v : Value} {rows : List Cells} {lo : Nat} (ho : S.OutAt h e42 v rows lo) (hn : h.next ≤ h'.next) (hk : ∀ q, q < h.next → h'.b.get q = h.b.get q) : S.OutAt h' e42 v rows lo := by
  rcases ho with h1 | ⟨r, t, h1, h2, h3, h4, h5⟩
  · exact .inl h1
  · exact .inr ⟨r, t, h1, by omega, h3, by rw [hk r h2]; exact h4, h5⟩
theorem neqS {a b : ByteArray} {f : KV} : neqOp E .str (.string a) (.string b) f = f (.bool (!(a.data.toList == b.data.toList))) := by
  show kBool f (notB (eqB a.data.toList b.data.toList)) = _
  rw [kBool_eq, notB_eq, eqB_eq]
theorem strTake {l : List UInt8} (h : 13 ≤ l.length) {f : KV} : strSlice ⟨⟨l⟩⟩ none (some (.int .i64 (.ofNat 13))) f = f (.string ⟨⟨l.take 13⟩⟩) := by
  show forceN (len l) (fun n => bT (Nat.ble 0 13) (bT (Nat.ble 13 n) (f (.string ⟨⟨takeE (Nat.sub 13 0) (dropE 0 l)⟩⟩)))) = _
  rw [forceN_eq, len_eq, S.ble_t h, takeE_eq, dropE_eq]; rfl
theorem strDrop {l : List UInt8} (h : 13 ≤ l.length) {f : KV} : strSlice ⟨⟨l⟩⟩ (some (.int .i64 (.ofNat 13))) none f = f (.string ⟨⟨l.drop 13⟩⟩) := by
  show forceN (len l) (fun n => bT (Nat.ble 13 n) (bT (Nat.ble n n) (f (.string ⟨⟨takeE (Nat.sub n 13) (dropE 13 l)⟩⟩)))) = _
  rw [forceN_eq, len_eq, S.ble_t h, S.ble_t (Nat.le_refl _), takeE_eq, dropE_eq]
  show f (.string ⟨⟨(l.drop 13).take (l.length - 13)⟩⟩) = _
  rw [List.take_of_length_le (by simp)]
theorem loop7 {F : FF} {fu lo : Nat} {K : K} {D : List Deferred} (hF : F19 F) :
    ∀ (d m : Nat) (T : Tr Value) (h : Heap) (l : List UInt8) (v : Value) (rows : List Cells), l.length = 13 * d → d < m → T.get 0 = some (.string ⟨⟨l⟩⟩) → T.get 4 = some v → S.OutAt h e42 v rows lo → lo ≤ h.next → rows.length + d ≤ 4096 →
      (∃ T' h' v', loopS (evP L7_0) ⟨F, none, 7, fu⟩ K m ⟨T, D, h⟩ = K (.exit 0) ⟨T', D, h'⟩ ∧ T'.get 4 = some v' ∧ S.OutAt h' e42 v' (rows ++ decs d l) lo ∧ oks d l = true ∧ h.next ≤ h'.next ∧ ∀ q, q < lo → h'.b.get q = h.b.get q) ∨
      (∃ T' h', loopS (evP L7_0) ⟨F, none, 7, fu⟩ K m ⟨T, D, h⟩ = K .ret ⟨T', D, h'⟩ ∧ T'.get 2 = some (.slice none 0 0) ∧ T'.get 3 = some (.int .i64 (.ofNat 2)) ∧ oks d l = false ∧ h.next ≤ h'.next ∧ ∀ q, q < lo → h'.b.get q = h.b.get q) := by
  intro d
  induction d with
  | zero =>
    intro m T h l v rows hl hm h0 h4 ho hlo hn
    obtain ⟨m, rfl⟩ : ∃ q, m = q + 1 := ⟨m - 1, by omega⟩
    have e : l = [] := List.eq_nil_of_length_eq_zero hl
    subst e
    have he : (([] : List UInt8) == []) = true := rfl
    refine .inl ⟨T.put (some (.bool false)) 16, h, v, ?_, ?_, by simpa [decs] using ho, rfl, Nat.le_refl _, fun q _ => rfl⟩
    · rw [S.loop1]
      unfold L7_0 G7_4
      simp only [↓S.skip, ↓S.seq, ↓S.reg, ↓S.cond, ↓S.block, ↓S.loop, ↓S.exit, ↓S.ret, ↓S.seqK_n, ↓S.seqK_e, ↓S.seqK_r, ↓S.blockK_n, ↓S.blockK_r, ↓S.blockK_e, ↓S.ops_nil, ↓S.ops_cons, ↓S.ops_gt, ↓S.ops_gf, ↓S.put_non, ↓S.put_loc, ↓S.put_frm, ↓S.o_loc, ↓S.o_frm, ↓S.o_const, ↓S.first_cons, ↓S.l_nil, ↓S.l_cons, ↓S.op_none, ↓S.op_some, ↓S.move, ↓S.pick, ↓S.alloc, ↓S.box, ↓S.build, ↓S.buildSlice, ↓S.load, ↓S.store, ↓S.nil_, ↓S.bin, ↓S.un, ↓S.conv, ↓S.func, ↓S.makeSlice, ↓S.strSlice, ↓S.fieldAddr, ↓S.field, ↓S.indexSl, ↓S.indexStr, ↓S.extract, ↓S.len, ↓S.lenStr, ↓S.min, ↓S.append, ↓S.call, ↓S.some_, ↓S.oc_some, ↓S.oc_none, ↓S.bT_t, ↓S.bI_t, ↓S.bI_f, ↓S.nC_0, ↓S.nC_s, ↓S.lc_nil, ↓S.lc_cons, ↓S.g_bool, ↓S.g_undef, ↓S.v_int, ↓S.v_bool, ↓S.v_ptr, ↓S.v_slice, ↓S.v_str, ↓S.v_agg, ↓S.v_tuple, ↓S.v_func, ↓S.r_val, ↓S.f_int, ↓S.f_bool, ↓S.f_ptr, ↓S.f_slice, ↓S.f_agg, ↓S.spot_, ↓S.nat_k, ↓S.nat_i, ↓S.ptr_k, ↓S.int_op, ↓S.sh_op, ↓S.add, ↓S.sub, ↓S.mul, ↓S.lss, ↓S.gtr, ↓S.leq, ↓S.geq, ↓S.eqi, ↓S.nei, ↓S.not_, ↓S.convi, ↓S.fn_n, ↓S.fn_r, ↓S.done_nil, ↓S.res_nil, ↓S.res_tmp, ↓S.res_cell, ↓S.res_0, ↓S.res_1, ↓S.res_2, ↓S.args_nil, ↓S.args_cons, Tr.get_put_eq, if_true, if_false, ↓reduceIte, List.nil_append, Nat.reduceEqDiff, Nat.reduceSucc, Nat.zero_add, Nat.reduceAdd, Nat.reduceMul, Nat.zero_ne_one, Nat.one_ne_zero, Bool.not_true, Bool.not_false, ↓h0, ↓neqS, ↓he, ↓S.loopK_e]
    · simp only [↓S.skip, ↓S.seq, ↓S.reg, ↓S.cond, ↓S.block, ↓S.loop, ↓S.exit, ↓S.ret, ↓S.seqK_n, ↓S.seqK_e, ↓S.seqK_r, ↓S.blockK_n, ↓S.blockK_r, ↓S.blockK_e, ↓S.ops_nil, ↓S.ops_cons, ↓S.ops_gt, ↓S.ops_gf, ↓S.put_non, ↓S.put_loc, ↓S.put_frm, ↓S.o_loc, ↓S.o_frm, ↓S.o_const, ↓S.first_cons, ↓S.l_nil, ↓S.l_cons, ↓S.op_none, ↓S.op_some, ↓S.move, ↓S.pick, ↓S.alloc, ↓S.box, ↓S.build, ↓S.buildSlice, ↓S.load, ↓S.store, ↓S.nil_, ↓S.bin, ↓S.un, ↓S.conv, ↓S.func, ↓S.makeSlice, ↓S.strSlice, ↓S.fieldAddr, ↓S.field, ↓S.indexSl, ↓S.indexStr, ↓S.extract, ↓S.len, ↓S.lenStr, ↓S.min, ↓S.append, ↓S.call, ↓S.some_, ↓S.oc_some, ↓S.oc_none, ↓S.bT_t, ↓S.bI_t, ↓S.bI_f, ↓S.nC_0, ↓S.nC_s, ↓S.lc_nil, ↓S.lc_cons, ↓S.g_bool, ↓S.g_undef, ↓S.v_int, ↓S.v_bool, ↓S.v_ptr, ↓S.v_slice, ↓S.v_str, ↓S.v_agg, ↓S.v_tuple, ↓S.v_func, ↓S.r_val, ↓S.f_int, ↓S.f_bool, ↓S.f_ptr, ↓S.f_slice, ↓S.f_agg, ↓S.spot_, ↓S.nat_k, ↓S.nat_i, ↓S.ptr_k, ↓S.int_op, ↓S.sh_op, ↓S.add, ↓S.sub, ↓S.mul, ↓S.lss, ↓S.gtr, ↓S.leq, ↓S.geq, ↓S.eqi, ↓S.nei, ↓S.not_, ↓S.convi, ↓S.fn_n, ↓S.fn_r, ↓S.done_nil, ↓S.res_nil, ↓S.res_tmp, ↓S.res_cell, ↓S.res_0, ↓S.res_1, ↓S.res_2, ↓S.args_nil, ↓S.args_cons, Tr.get_put_eq, if_true, if_false, ↓reduceIte, List.nil_append, Nat.reduceEqDiff, Nat.reduceSucc, Nat.zero_add, Nat.reduceAdd, Nat.reduceMul, Nat.zero_ne_one, Nat.one_ne_zero, Bool.not_true, Bool.not_false, ↓h4]
  | succ d ih =>
    intro m T h l v rows hl hm h0 h4 ho hlo hn
    obtain ⟨m, rfl⟩ : ∃ q, m = q + 1 := ⟨m - 1, by omega⟩
    have h13 : 13 ≤ l.length := by omega
    have he : (l == []) = false := by cases l with | nil => simp at h13 | cons a l => rfl
    have hb : ∀ i, i < 13 → nth l i = some (getb l i) := fun i hi => by
      rw [nth_eq, List.getElem?_eq_getElem (by omega)]
      simp [getb, show i < l.length from by omega]
    have b0 := hb 0 (by omega)
    have s1 : ∀ f : KV, strSlice ⟨⟨l⟩⟩ none (some (.int .i64 (.ofNat 13))) f = f (.string ⟨⟨l.take 13⟩⟩) := fun f => strTake h13
    have s2 : ∀ f : KV, strSlice ⟨⟨l⟩⟩ (some (.int .i64 (.ofNat 13))) none f = f (.string ⟨⟨l.drop 13⟩⟩) := fun f => strDrop h13
    cases hok : decide ((getb l 0).toNat ≤ 1) with
    | false =>
      have hg : decide (1 < (getb l 0).toNat) = true := by simp at hok ⊢; omega
      have key : ∃ T' : Tr Value, loopS (evP L7_0) ⟨F, none, 7, fu⟩ K (m + 1) ⟨T, D, h⟩ = K .ret ⟨T', D, h⟩ ∧ T'.get 2 = some (.slice none 0 0) ∧ T'.get 3 = some (.int .i64 (.ofNat 2)) := by
        apply Exists.intro
        apply And.intro
        · rw [S.loop1]
          unfold L7_0 G7_4 G7_6 G7_7
          simp only [↓S.skip, ↓S.seq, ↓S.reg, ↓S.cond, ↓S.block, ↓S.loop, ↓S.exit, ↓S.ret, ↓S.seqK_n, ↓S.seqK_e, ↓S.seqK_r, ↓S.blockK_n, ↓S.blockK_r, ↓S.blockK_e, ↓S.ops_nil, ↓S.ops_cons, ↓S.ops_gt, ↓S.ops_gf, ↓S.put_non, ↓S.put_loc, ↓S.put_frm, ↓S.o_loc, ↓S.o_frm, ↓S.o_const, ↓S.first_cons, ↓S.l_nil, ↓S.l_cons, ↓S.op_none, ↓S.op_some, ↓S.move, ↓S.pick, ↓S.alloc, ↓S.box, ↓S.build, ↓S.buildSlice, ↓S.load, ↓S.store, ↓S.nil_, ↓S.bin, ↓S.un, ↓S.conv, ↓S.func, ↓S.makeSlice, ↓S.strSlice, ↓S.fieldAddr, ↓S.field, ↓S.indexSl, ↓S.indexStr, ↓S.extract, ↓S.len, ↓S.lenStr, ↓S.min, ↓S.append, ↓S.call, ↓S.some_, ↓S.oc_some, ↓S.oc_none, ↓S.bT_t, ↓S.bI_t, ↓S.bI_f, ↓S.nC_0, ↓S.nC_s, ↓S.lc_nil, ↓S.lc_cons, ↓S.g_bool, ↓S.g_undef, ↓S.v_int, ↓S.v_bool, ↓S.v_ptr, ↓S.v_slice, ↓S.v_str, ↓S.v_agg, ↓S.v_tuple, ↓S.v_func, ↓S.r_val, ↓S.f_int, ↓S.f_bool, ↓S.f_ptr, ↓S.f_slice, ↓S.f_agg, ↓S.spot_, ↓S.nat_k, ↓S.nat_i, ↓S.ptr_k, ↓S.int_op, ↓S.sh_op, ↓S.add, ↓S.sub, ↓S.mul, ↓S.lss, ↓S.gtr, ↓S.leq, ↓S.geq, ↓S.eqi, ↓S.nei, ↓S.not_, ↓S.convi, ↓S.fn_n, ↓S.fn_r, ↓S.done_nil, ↓S.res_nil, ↓S.res_tmp, ↓S.res_cell, ↓S.res_0, ↓S.res_1, ↓S.res_2, ↓S.args_nil, ↓S.args_cons, Tr.get_put_eq, if_true, if_false, ↓reduceIte, List.nil_append, Nat.reduceEqDiff, Nat.reduceSucc, Nat.zero_add, Nat.reduceAdd, Nat.reduceMul, Nat.zero_ne_one, Nat.one_ne_zero, Bool.not_true, Bool.not_false, ↓h0, ↓neqS, ↓he, ↓b0, ↓kint, ↓ltNat, ↓hg, ↓S.loopK_r]
          rfl
        · simp only [↓S.skip, ↓S.seq, ↓S.reg, ↓S.cond, ↓S.block, ↓S.loop, ↓S.exit, ↓S.ret, ↓S.seqK_n, ↓S.seqK_e, ↓S.seqK_r, ↓S.blockK_n, ↓S.blockK_r, ↓S.blockK_e, ↓S.ops_nil, ↓S.ops_cons, ↓S.ops_gt, ↓S.ops_gf, ↓S.put_non, ↓S.put_loc, ↓S.put_frm, ↓S.o_loc, ↓S.o_frm, ↓S.o_const, ↓S.first_cons, ↓S.l_nil, ↓S.l_cons, ↓S.op_none, ↓S.op_some, ↓S.move, ↓S.pick, ↓S.alloc, ↓S.box, ↓S.build, ↓S.buildSlice, ↓S.load, ↓S.store, ↓S.nil_, ↓S.bin, ↓S.un, ↓S.conv, ↓S.func, ↓S.makeSlice, ↓S.strSlice, ↓S.fieldAddr, ↓S.field, ↓S.indexSl, ↓S.indexStr, ↓S.extract, ↓S.len, ↓S.lenStr, ↓S.min, ↓S.append, ↓S.call, ↓S.some_, ↓S.oc_some, ↓S.oc_none, ↓S.bT_t, ↓S.bI_t, ↓S.bI_f, ↓S.nC_0, ↓S.nC_s, ↓S.lc_nil, ↓S.lc_cons, ↓S.g_bool, ↓S.g_undef, ↓S.v_int, ↓S.v_bool, ↓S.v_ptr, ↓S.v_slice, ↓S.v_str, ↓S.v_agg, ↓S.v_tuple, ↓S.v_func, ↓S.r_val, ↓S.f_int, ↓S.f_bool, ↓S.f_ptr, ↓S.f_slice, ↓S.f_agg, ↓S.spot_, ↓S.nat_k, ↓S.nat_i, ↓S.ptr_k, ↓S.int_op, ↓S.sh_op, ↓S.add, ↓S.sub, ↓S.mul, ↓S.lss, ↓S.gtr, ↓S.leq, ↓S.geq, ↓S.eqi, ↓S.nei, ↓S.not_, ↓S.convi, ↓S.fn_n, ↓S.fn_r, ↓S.done_nil, ↓S.res_nil, ↓S.res_tmp, ↓S.res_cell, ↓S.res_0, ↓S.res_1, ↓S.res_2, ↓S.args_nil, ↓S.args_cons, Tr.get_put_eq, if_true, if_false, ↓reduceIte, List.nil_append, Nat.reduceEqDiff, Nat.reduceSucc, Nat.zero_add, Nat.reduceAdd, Nat.reduceMul, Nat.zero_ne_one, Nat.one_ne_zero, Bool.not_true, Bool.not_false, true_and, and_true]
      obtain ⟨T', e1, e2, e3⟩ := key
      exact .inr ⟨T', h, e1, e2, e3, by simp [oks, hok], Nat.le_refl _, fun q _ => rfl⟩
    | true =>
      have hg : decide (1 < (getb l 0).toNat) = false := by simp at hok ⊢; omega
      obtain ⟨h1, f1, f2, f3⟩ := hF h (l.take 13) (getb l) (fun i hi => by rw [nth_eq, List.getElem?_take, if_pos hi, ← nth_eq]; exact hb i hi)
      obtain ⟨H2, hH2⟩ : ∃ H2 : Heap, H2 = ⟨h1.next + 1, h1.b.put (some (.cells [rowB l].length 42 false 7 (Tr.ofList [rowB l]))) h1.next⟩ := ⟨_, rfl⟩
      have r1 : ∀ g : List Cells → R, elemsOf 7 [0] [.agg ⟨rowB l⟩] (replC [Value.bool false, .int .i64 (.ofNat 0), .int .u8 (.ofNat 0), .int .i64 (.ofNat 0), .int .i64 (.ofNat 0), .int .i64 (.ofNat 0), .int .u64 (.ofNat 0)] 1) g = g [rowB l] := fun g => rfl
      have r2 : ∀ x : R, bT (Nat.ble (Nat.mul 1 7) 65536) x = x := fun x => rfl
      have r3 : ∀ f : KH, mkRows h1 42 false 7 [rowB l] f 1 1 = f (.slice (some ⟨h1.next, 0, none⟩) 1 1) H2 := fun f => by rw [hH2]; exact S.mkRows_eq
      have g2 : ∀ q, H2.b.get q = if q = h1.next then some (.cells 1 42 false 7 (Tr.ofList [rowB l])) else h1.b.get q := fun q => by rw [hH2]; exact Tr.get_put_eq _ _ _
      have n2 : H2.next = h1.next + 1 := by rw [hH2]
      have ho2 : S.OutAt H2 e42 v rows lo := outMono ho (by omega) fun q hq => by rw [g2, if_neg (by omega), f3 q hq]
      obtain ⟨v', h', r4, a2, a3, a4⟩ := S.append_row (row := rowB l) (x := .slice (some ⟨h1.next, 0, none⟩) 1 1) ho2 (by omega) (S.new_rows (b := h1.next) (c := 1) (e := 42) (g := false) (N := 1) (L := [rowB l]) (by rw [g2, if_pos rfl]; rfl) rfl) (by decide) (by decide) (by omega)
      have r5 : F (.func 19) [.string ⟨⟨l.take 13⟩⟩] [] h = some (.val (.agg ⟨rowB l⟩) h1) := f1
      have key : ∃ T' : Tr Value, loopS (evP L7_0) ⟨F, none, 7, fu⟩ K (m + 1) ⟨T, D, h⟩ = loopS (evP L7_0) ⟨F, none, 7, fu⟩ K m ⟨T', D, h'⟩ ∧ T'.get 0 = some (.string ⟨⟨l.drop 13⟩⟩) ∧ T'.get 4 = some v' := by
        have r4' : ∀ f : KH, appendE (some ⟨42, 7, 56, [Value.bool false, .int .i64 (.ofNat 0), .int .u8 (.ofNat 0), .int .i64 (.ofNat 0), .int .i64 (.ofNat 0), .int .i64 (.ofNat 0), .int .u64 (.ofNat 0)]⟩) H2 v (.slice (some ⟨h1.next, 0, none⟩) 1 1) f = f v' h' := r4
        apply Exists.intro
        apply And.intro
        · rw [S.loop1]
          conv => lhs; unfold L7_0 G7_4 G7_6 G7_8 G7_5
          simp only [↓S.skip, ↓S.seq, ↓S.reg, ↓S.cond, ↓S.block, ↓S.loop, ↓S.exit, ↓S.ret, ↓S.seqK_n, ↓S.seqK_e, ↓S.seqK_r, ↓S.blockK_n, ↓S.blockK_r, ↓S.blockK_e, ↓S.ops_nil, ↓S.ops_cons, ↓S.ops_gt, ↓S.ops_gf, ↓S.put_non, ↓S.put_loc, ↓S.put_frm, ↓S.o_loc, ↓S.o_frm, ↓S.o_const, ↓S.first_cons, ↓S.l_nil, ↓S.l_cons, ↓S.op_none, ↓S.op_some, ↓S.move, ↓S.pick, ↓S.alloc, ↓S.box, ↓S.build, ↓S.buildSlice, ↓S.load, ↓S.store, ↓S.nil_, ↓S.bin, ↓S.un, ↓S.conv, ↓S.func, ↓S.makeSlice, ↓S.strSlice, ↓S.fieldAddr, ↓S.field, ↓S.indexSl, ↓S.indexStr, ↓S.extract, ↓S.len, ↓S.lenStr, ↓S.min, ↓S.append, ↓S.call, ↓S.some_, ↓S.oc_some, ↓S.oc_none, ↓S.bT_t, ↓S.bI_t, ↓S.bI_f, ↓S.nC_0, ↓S.nC_s, ↓S.lc_nil, ↓S.lc_cons, ↓S.g_bool, ↓S.g_undef, ↓S.v_int, ↓S.v_bool, ↓S.v_ptr, ↓S.v_slice, ↓S.v_str, ↓S.v_agg, ↓S.v_tuple, ↓S.v_func, ↓S.r_val, ↓S.f_int, ↓S.f_bool, ↓S.f_ptr, ↓S.f_slice, ↓S.f_agg, ↓S.spot_, ↓S.nat_k, ↓S.nat_i, ↓S.ptr_k, ↓S.int_op, ↓S.sh_op, ↓S.add, ↓S.sub, ↓S.mul, ↓S.lss, ↓S.gtr, ↓S.leq, ↓S.geq, ↓S.eqi, ↓S.nei, ↓S.not_, ↓S.convi, ↓S.fn_n, ↓S.fn_r, ↓S.done_nil, ↓S.res_nil, ↓S.res_tmp, ↓S.res_cell, ↓S.res_0, ↓S.res_1, ↓S.res_2, ↓S.args_nil, ↓S.args_cons, Tr.get_put_eq, if_true, if_false, ↓reduceIte, List.nil_append, Nat.reduceEqDiff, Nat.reduceSucc, Nat.zero_add, Nat.reduceAdd, Nat.reduceMul, Nat.zero_ne_one, Nat.one_ne_zero, Bool.not_true, Bool.not_false, ↓h0, ↓h4, ↓neqS, ↓he, ↓b0, ↓kint, ↓ltNat, ↓hg, ↓s1, ↓s2, ↓r1, ↓r2, ↓r3, ↓r4', ↓r5, ↓S.loopK_n]
          rfl
        · simp only [↓S.skip, ↓S.seq, ↓S.reg, ↓S.cond, ↓S.block, ↓S.loop, ↓S.exit, ↓S.ret, ↓S.seqK_n, ↓S.seqK_e, ↓S.seqK_r, ↓S.blockK_n, ↓S.blockK_r, ↓S.blockK_e, ↓S.ops_nil, ↓S.ops_cons, ↓S.ops_gt, ↓S.ops_gf, ↓S.put_non, ↓S.put_loc, ↓S.put_frm, ↓S.o_loc, ↓S.o_frm, ↓S.o_const, ↓S.first_cons, ↓S.l_nil, ↓S.l_cons, ↓S.op_none, ↓S.op_some, ↓S.move, ↓S.pick, ↓S.alloc, ↓S.box, ↓S.build, ↓S.buildSlice, ↓S.load, ↓S.store, ↓S.nil_, ↓S.bin, ↓S.un, ↓S.conv, ↓S.func, ↓S.makeSlice, ↓S.strSlice, ↓S.fieldAddr, ↓S.field, ↓S.indexSl, ↓S.indexStr, ↓S.extract, ↓S.len, ↓S.lenStr, ↓S.min, ↓S.append, ↓S.call, ↓S.some_, ↓S.oc_some, ↓S.oc_none, ↓S.bT_t, ↓S.bI_t, ↓S.bI_f, ↓S.nC_0, ↓S.nC_s, ↓S.lc_nil, ↓S.lc_cons, ↓S.g_bool, ↓S.g_undef, ↓S.v_int, ↓S.v_bool, ↓S.v_ptr, ↓S.v_slice, ↓S.v_str, ↓S.v_agg, ↓S.v_tuple, ↓S.v_func, ↓S.r_val, ↓S.f_int, ↓S.f_bool, ↓S.f_ptr, ↓S.f_slice, ↓S.f_agg, ↓S.spot_, ↓S.nat_k, ↓S.nat_i, ↓S.ptr_k, ↓S.int_op, ↓S.sh_op, ↓S.add, ↓S.sub, ↓S.mul, ↓S.lss, ↓S.gtr, ↓S.leq, ↓S.geq, ↓S.eqi, ↓S.nei, ↓S.not_, ↓S.convi, ↓S.fn_n, ↓S.fn_r, ↓S.done_nil, ↓S.res_nil, ↓S.res_tmp, ↓S.res_cell, ↓S.res_0, ↓S.res_1, ↓S.res_2, ↓S.args_nil, ↓S.args_cons, Tr.get_put_eq, if_true, if_false, ↓reduceIte, List.nil_append, Nat.reduceEqDiff, Nat.reduceSucc, Nat.zero_add, Nat.reduceAdd, Nat.reduceMul, Nat.zero_ne_one, Nat.one_ne_zero, Bool.not_true, Bool.not_false, true_and, and_true]
      obtain ⟨T', e1, e2, e3⟩ := key
      rw [e1]
      have hdec : decs (d + 1) l = rowB l :: decs d (l.drop 13) := rfl
      have hok2 : oks (d + 1) l = oks d (l.drop 13) := by simp [oks, hok]
      have hkeep : ∀ q, q < lo → h'.b.get q = h.b.get q := fun q hq => by rw [a4 q hq, g2, if_neg (by omega), f3 q (by omega)]
      rcases ih m T' h' (l.drop 13) v' (rows ++ [rowB l]) (by simp; omega) (by omega) e2 e3 a2 (by omega) (by simp; omega) with ⟨T'', h'', v'', x1, x2, x3, x4, x5, x6⟩ | ⟨T'', h'', x1, x2, x3, x4, x5, x6⟩
      · exact .inl ⟨T'', h'', v'', x1, x2, by rw [hdec, List.append_cons]; exact x3, by rw [hok2]; exact x4, by omega, fun q hq => by rw [x6 q hq, hkeep q hq]⟩
      · exact .inr ⟨T'', h'', x1, x2, x3, by rw [hok2]; exact x4, by omega, fun q hq => by rw [x6 q hq, hkeep q hq]⟩
end T
set_option linter.unusedVariables false
set_option linter.unusedSimpArgs false
open Go Go.Ev Go.Proofs
namespace T
set_option maxRecDepth 100000
def decOK (l : List UInt8) : Bool := decide (l.length % 13 = 0) && (decide (l.length / 13 ≤ 4096) && oks (l.length / 13) l)
theorem run7 {F : FF} {n : Nat} {h : Heap} {l : List UInt8} (hF : F19 F) (hn : 4096 < n) (hlen : l.length < 9223372036854775808) :
    (decOK l = true ∧ ∃ h' v', enterF E F 7 [.string ⟨⟨l⟩⟩] h n = some (.val (.tuple ⟨[v', .int .i64 (.ofNat 0)]⟩) h') ∧ S.OutAt h' e42 v' (decs (l.length / 13) l) h.next ∧ h.next ≤ h'.next ∧ ∀ q, q < h.next → h'.b.get q = h.b.get q) ∨
    (decOK l = false ∧ ∃ h', enterF E F 7 [.string ⟨⟨l⟩⟩] h n = some (.val (.tuple ⟨[.slice none 0 0, .int .i64 (.ofNat 2)]⟩) h') ∧ h.next ≤ h'.next ∧ ∀ q, q < h.next → h'.b.get q = h.b.get q) := by
  rw [enterF_eq pfn7 (by simp [M7])]
  show (_ ∧ ∃ h' v', evP P7 ⟨F, none, 7, n⟩ ⟨argsT [.string ⟨⟨l⟩⟩] 0 .leaf, [], h⟩ (fnK R7) = _ ∧ _) ∨ (_ ∧ ∃ h', evP P7 ⟨F, none, 7, n⟩ ⟨argsT [.string ⟨⟨l⟩⟩] 0 .leaf, [], h⟩ (fnK R7) = _ ∧ _)
  have q1 : ∀ f : KV, iRem .i64 (Int.ofNat l.length) (Int.ofNat 13) f = f (.int .i64 (Int.ofNat (l.length % 13))) := fun f => by
    show kInt .i64 f (Int.tmod (Int.ofNat l.length) (Int.ofNat 13)) = _
    rw [kInt_eq]; rfl
  have q2 : ∀ f : KV, iQuo .i64 (Int.ofNat l.length) (Int.ofNat 13) f = f (.int .i64 (Int.ofNat (l.length / 13))) := fun f => by
    show kInt .i64 f (wrapE .i64 (Int.tdiv (Int.ofNat l.length) (Int.ofNat 13))) = _
    rw [kInt_eq, wrapE_eq, show Int.tdiv (Int.ofNat l.length) (Int.ofNat 13) = Int.ofNat (l.length / 13) from rfl, wrap64 (by omega)]
  have e1 : ∀ a b : Nat, (Int.ofNat a == Int.ofNat b) = decide (a = b) := fun a b => by
    rw [Bool.eq_iff_iff]; simp; omega
  by_cases hr : l.length % 13 = 0
  · by_cases hq : 4096 < l.length / 13
    · refine .inr ⟨by unfold decOK; simp [hr]; omega, h, ?_, Nat.le_refl _, fun q _ => rfl⟩
      have d1 : decide (l.length % 13 = 0) = true := by simp [hr]
      have d2 : decide (4096 < l.length / 13) = true := by simp; omega
      unfold P7 G7_0 G7_1 G7_2 R7
      simp only [↓S.skip, ↓S.seq, ↓S.reg, ↓S.cond, ↓S.block, ↓S.loop, ↓S.exit, ↓S.ret, ↓S.seqK_n, ↓S.seqK_e, ↓S.seqK_r, ↓S.blockK_n, ↓S.blockK_r, ↓S.blockK_e, ↓S.ops_nil, ↓S.ops_cons, ↓S.ops_gt, ↓S.ops_gf, ↓S.put_non, ↓S.put_loc, ↓S.put_frm, ↓S.o_loc, ↓S.o_frm, ↓S.o_const, ↓S.first_cons, ↓S.l_nil, ↓S.l_cons, ↓S.op_none, ↓S.op_some, ↓S.move, ↓S.pick, ↓S.alloc, ↓S.box, ↓S.build, ↓S.buildSlice, ↓S.load, ↓S.store, ↓S.nil_, ↓S.bin, ↓S.un, ↓S.conv, ↓S.func, ↓S.makeSlice, ↓S.strSlice, ↓S.fieldAddr, ↓S.field, ↓S.indexSl, ↓S.indexStr, ↓S.extract, ↓S.len, ↓S.lenStr, ↓S.min, ↓S.append, ↓S.call, ↓S.some_, ↓S.oc_some, ↓S.oc_none, ↓S.bT_t, ↓S.bI_t, ↓S.bI_f, ↓S.nC_0, ↓S.nC_s, ↓S.lc_nil, ↓S.lc_cons, ↓S.g_bool, ↓S.g_undef, ↓S.v_int, ↓S.v_bool, ↓S.v_ptr, ↓S.v_slice, ↓S.v_str, ↓S.v_agg, ↓S.v_tuple, ↓S.v_func, ↓S.r_val, ↓S.f_int, ↓S.f_bool, ↓S.f_ptr, ↓S.f_slice, ↓S.f_agg, ↓S.spot_, ↓S.nat_k, ↓S.nat_i, ↓S.ptr_k, ↓S.int_op, ↓S.sh_op, ↓S.add, ↓S.sub, ↓S.mul, ↓S.lss, ↓S.gtr, ↓S.leq, ↓S.geq, ↓S.eqi, ↓S.nei, ↓S.not_, ↓S.convi, ↓S.fn_n, ↓S.fn_r, ↓S.done_nil, ↓S.res_nil, ↓S.res_tmp, ↓S.res_cell, ↓S.res_0, ↓S.res_1, ↓S.res_2, ↓S.args_nil, ↓S.args_cons, Tr.get_put_eq, if_true, if_false, ↓reduceIte, List.nil_append, Nat.reduceEqDiff, Nat.reduceSucc, Nat.zero_add, Nat.reduceAdd, Nat.reduceMul, Nat.zero_ne_one, Nat.one_ne_zero, Bool.not_true, Bool.not_false, ↓kint, ↓len_eq, ↓q1, ↓q2, ↓e1, ↓d1, ↓d2, ↓ltNat]
    · have d1 : decide (l.length % 13 = 0) = true := by simp [hr]
      have d2 : decide (4096 < l.length / 13) = false := by simp; omega
      have key : ∃ T' : Tr Value, evP P7 ⟨F, none, 7, n⟩ ⟨argsT [.string ⟨⟨l⟩⟩] 0 .leaf, [], h⟩ (fnK R7) = loopS (evP L7_0) ⟨F, none, 7, n⟩ (blockK 0 (seqK (evP (.seq G7_9 .ret)) ⟨F, none, 7, n⟩ (fnK [.tmp (.frm 2), .tmp (.frm 3)]))) n ⟨T', [], h⟩ ∧ T'.get 0 = some (.string ⟨⟨l⟩⟩) ∧ T'.get 4 = some (.slice none 0 0) := by
        apply Exists.intro
        apply And.intro
        · unfold P7 G7_0 G7_1 G7_3 R7
          simp only [↓S.skip, ↓S.seq, ↓S.reg, ↓S.cond, ↓S.block, ↓S.loop, ↓S.exit, ↓S.ret, ↓S.seqK_n, ↓S.seqK_e, ↓S.seqK_r, ↓S.blockK_n, ↓S.blockK_r, ↓S.blockK_e, ↓S.ops_nil, ↓S.ops_cons, ↓S.ops_gt, ↓S.ops_gf, ↓S.put_non, ↓S.put_loc, ↓S.put_frm, ↓S.o_loc, ↓S.o_frm, ↓S.o_const, ↓S.first_cons, ↓S.l_nil, ↓S.l_cons, ↓S.op_none, ↓S.op_some, ↓S.move, ↓S.pick, ↓S.alloc, ↓S.box, ↓S.build, ↓S.buildSlice, ↓S.load, ↓S.store, ↓S.nil_, ↓S.bin, ↓S.un, ↓S.conv, ↓S.func, ↓S.makeSlice, ↓S.strSlice, ↓S.fieldAddr, ↓S.field, ↓S.indexSl, ↓S.indexStr, ↓S.extract, ↓S.len, ↓S.lenStr, ↓S.min, ↓S.append, ↓S.call, ↓S.some_, ↓S.oc_some, ↓S.oc_none, ↓S.bT_t, ↓S.bI_t, ↓S.bI_f, ↓S.nC_0, ↓S.nC_s, ↓S.lc_nil, ↓S.lc_cons, ↓S.g_bool, ↓S.g_undef, ↓S.v_int, ↓S.v_bool, ↓S.v_ptr, ↓S.v_slice, ↓S.v_str, ↓S.v_agg, ↓S.v_tuple, ↓S.v_func, ↓S.r_val, ↓S.f_int, ↓S.f_bool, ↓S.f_ptr, ↓S.f_slice, ↓S.f_agg, ↓S.spot_, ↓S.nat_k, ↓S.nat_i, ↓S.ptr_k, ↓S.int_op, ↓S.sh_op, ↓S.add, ↓S.sub, ↓S.mul, ↓S.lss, ↓S.gtr, ↓S.leq, ↓S.geq, ↓S.eqi, ↓S.nei, ↓S.not_, ↓S.convi, ↓S.fn_n, ↓S.fn_r, ↓S.done_nil, ↓S.res_nil, ↓S.res_tmp, ↓S.res_cell, ↓S.res_0, ↓S.res_1, ↓S.res_2, ↓S.args_nil, ↓S.args_cons, Tr.get_put_eq, if_true, if_false, ↓reduceIte, List.nil_append, Nat.reduceEqDiff, Nat.reduceSucc, Nat.zero_add, Nat.reduceAdd, Nat.reduceMul, Nat.zero_ne_one, Nat.one_ne_zero, Bool.not_true, Bool.not_false, ↓kint, ↓len_eq, ↓q1, ↓q2, ↓e1, ↓d1, ↓d2, ↓ltNat]
          rfl
        · simp only [↓S.skip, ↓S.seq, ↓S.reg, ↓S.cond, ↓S.block, ↓S.loop, ↓S.exit, ↓S.ret, ↓S.seqK_n, ↓S.seqK_e, ↓S.seqK_r, ↓S.blockK_n, ↓S.blockK_r, ↓S.blockK_e, ↓S.ops_nil, ↓S.ops_cons, ↓S.ops_gt, ↓S.ops_gf, ↓S.put_non, ↓S.put_loc, ↓S.put_frm, ↓S.o_loc, ↓S.o_frm, ↓S.o_const, ↓S.first_cons, ↓S.l_nil, ↓S.l_cons, ↓S.op_none, ↓S.op_some, ↓S.move, ↓S.pick, ↓S.alloc, ↓S.box, ↓S.build, ↓S.buildSlice, ↓S.load, ↓S.store, ↓S.nil_, ↓S.bin, ↓S.un, ↓S.conv, ↓S.func, ↓S.makeSlice, ↓S.strSlice, ↓S.fieldAddr, ↓S.field, ↓S.indexSl, ↓S.indexStr, ↓S.extract, ↓S.len, ↓S.lenStr, ↓S.min, ↓S.append, ↓S.call, ↓S.some_, ↓S.oc_some, ↓S.oc_none, ↓S.bT_t, ↓S.bI_t, ↓S.bI_f, ↓S.nC_0, ↓S.nC_s, ↓S.lc_nil, ↓S.lc_cons, ↓S.g_bool, ↓S.g_undef, ↓S.v_int, ↓S.v_bool, ↓S.v_ptr, ↓S.v_slice, ↓S.v_str, ↓S.v_agg, ↓S.v_tuple, ↓S.v_func, ↓S.r_val, ↓S.f_int, ↓S.f_bool, ↓S.f_ptr, ↓S.f_slice, ↓S.f_agg, ↓S.spot_, ↓S.nat_k, ↓S.nat_i, ↓S.ptr_k, ↓S.int_op, ↓S.sh_op, ↓S.add, ↓S.sub, ↓S.mul, ↓S.lss, ↓S.gtr, ↓S.leq, ↓S.geq, ↓S.eqi, ↓S.nei, ↓S.not_, ↓S.convi, ↓S.fn_n, ↓S.fn_r, ↓S.done_nil, ↓S.res_nil, ↓S.res_tmp, ↓S.res_cell, ↓S.res_0, ↓S.res_1, ↓S.res_2, ↓S.args_nil, ↓S.args_cons, Tr.get_put_eq, if_true, if_false, ↓reduceIte, List.nil_append, Nat.reduceEqDiff, Nat.reduceSucc, Nat.zero_add, Nat.reduceAdd, Nat.reduceMul, Nat.zero_ne_one, Nat.one_ne_zero, Bool.not_true, Bool.not_false, true_and, and_true]
      obtain ⟨T, k0, t0, t4⟩ := key
      rw [k0]
      rcases loop7 (F := F) (fu := n) (lo := h.next) (D := []) (K := (blockK 0 (seqK (evP (.seq G7_9 .ret)) ⟨F, none, 7, n⟩ (fnK [.tmp (.frm 2), .tmp (.frm 3)])))) hF (l.length / 13) n T h l (.slice none 0 0) [] (by omega) (by omega) t0 t4 (.inl ⟨rfl, rfl⟩) (Nat.le_refl _) (by simp; omega) with ⟨T', h', v', f1, f2, f3, f4, f5, f6⟩ | ⟨T', h', f1, f2, f3, f4, f5, f6⟩
      · refine .inl ⟨by unfold decOK; simp [hr, f4]; omega, h', v', ?_, f3, f5, f6⟩
        rw [f1]
        unfold G7_9
        simp only [↓S.skip, ↓S.seq, ↓S.reg, ↓S.cond, ↓S.block, ↓S.loop, ↓S.exit, ↓S.ret, ↓S.seqK_n, ↓S.seqK_e, ↓S.seqK_r, ↓S.blockK_n, ↓S.blockK_r, ↓S.blockK_e, ↓S.ops_nil, ↓S.ops_cons, ↓S.ops_gt, ↓S.ops_gf, ↓S.put_non, ↓S.put_loc, ↓S.put_frm, ↓S.o_loc, ↓S.o_frm, ↓S.o_const, ↓S.first_cons, ↓S.l_nil, ↓S.l_cons, ↓S.op_none, ↓S.op_some, ↓S.move, ↓S.pick, ↓S.alloc, ↓S.box, ↓S.build, ↓S.buildSlice, ↓S.load, ↓S.store, ↓S.nil_, ↓S.bin, ↓S.un, ↓S.conv, ↓S.func, ↓S.makeSlice, ↓S.strSlice, ↓S.fieldAddr, ↓S.field, ↓S.indexSl, ↓S.indexStr, ↓S.extract, ↓S.len, ↓S.lenStr, ↓S.min, ↓S.append, ↓S.call, ↓S.some_, ↓S.oc_some, ↓S.oc_none, ↓S.bT_t, ↓S.bI_t, ↓S.bI_f, ↓S.nC_0, ↓S.nC_s, ↓S.lc_nil, ↓S.lc_cons, ↓S.g_bool, ↓S.g_undef, ↓S.v_int, ↓S.v_bool, ↓S.v_ptr, ↓S.v_slice, ↓S.v_str, ↓S.v_agg, ↓S.v_tuple, ↓S.v_func, ↓S.r_val, ↓S.f_int, ↓S.f_bool, ↓S.f_ptr, ↓S.f_slice, ↓S.f_agg, ↓S.spot_, ↓S.nat_k, ↓S.nat_i, ↓S.ptr_k, ↓S.int_op, ↓S.sh_op, ↓S.add, ↓S.sub, ↓S.mul, ↓S.lss, ↓S.gtr, ↓S.leq, ↓S.geq, ↓S.eqi, ↓S.nei, ↓S.not_, ↓S.convi, ↓S.fn_n, ↓S.fn_r, ↓S.done_nil, ↓S.res_nil, ↓S.res_tmp, ↓S.res_cell, ↓S.res_0, ↓S.res_1, ↓S.res_2, ↓S.args_nil, ↓S.args_cons, Tr.get_put_eq, if_true, if_false, ↓reduceIte, List.nil_append, Nat.reduceEqDiff, Nat.reduceSucc, Nat.zero_add, Nat.reduceAdd, Nat.reduceMul, Nat.zero_ne_one, Nat.one_ne_zero, Bool.not_true, Bool.not_false, ↓f2]
      · refine .inr ⟨by unfold decOK; simp [f4], h', ?_, f5, f6⟩
        rw [f1]
        simp only [↓S.skip, ↓S.seq, ↓S.reg, ↓S.cond, ↓S.block, ↓S.loop, ↓S.exit, ↓S.ret, ↓S.seqK_n, ↓S.seqK_e, ↓S.seqK_r, ↓S.blockK_n, ↓S.blockK_r, ↓S.blockK_e, ↓S.ops_nil, ↓S.ops_cons, ↓S.ops_gt, ↓S.ops_gf, ↓S.put_non, ↓S.put_loc, ↓S.put_frm, ↓S.o_loc, ↓S.o_frm, ↓S.o_const, ↓S.first_cons, ↓S.l_nil, ↓S.l_cons, ↓S.op_none, ↓S.op_some, ↓S.move, ↓S.pick, ↓S.alloc, ↓S.box, ↓S.build, ↓S.buildSlice, ↓S.load, ↓S.store, ↓S.nil_, ↓S.bin, ↓S.un, ↓S.conv, ↓S.func, ↓S.makeSlice, ↓S.strSlice, ↓S.fieldAddr, ↓S.field, ↓S.indexSl, ↓S.indexStr, ↓S.extract, ↓S.len, ↓S.lenStr, ↓S.min, ↓S.append, ↓S.call, ↓S.some_, ↓S.oc_some, ↓S.oc_none, ↓S.bT_t, ↓S.bI_t, ↓S.bI_f, ↓S.nC_0, ↓S.nC_s, ↓S.lc_nil, ↓S.lc_cons, ↓S.g_bool, ↓S.g_undef, ↓S.v_int, ↓S.v_bool, ↓S.v_ptr, ↓S.v_slice, ↓S.v_str, ↓S.v_agg, ↓S.v_tuple, ↓S.v_func, ↓S.r_val, ↓S.f_int, ↓S.f_bool, ↓S.f_ptr, ↓S.f_slice, ↓S.f_agg, ↓S.spot_, ↓S.nat_k, ↓S.nat_i, ↓S.ptr_k, ↓S.int_op, ↓S.sh_op, ↓S.add, ↓S.sub, ↓S.mul, ↓S.lss, ↓S.gtr, ↓S.leq, ↓S.geq, ↓S.eqi, ↓S.nei, ↓S.not_, ↓S.convi, ↓S.fn_n, ↓S.fn_r, ↓S.done_nil, ↓S.res_nil, ↓S.res_tmp, ↓S.res_cell, ↓S.res_0, ↓S.res_1, ↓S.res_2, ↓S.args_nil, ↓S.args_cons, Tr.get_put_eq, if_true, if_false, ↓reduceIte, List.nil_append, Nat.reduceEqDiff, Nat.reduceSucc, Nat.zero_add, Nat.reduceAdd, Nat.reduceMul, Nat.zero_ne_one, Nat.one_ne_zero, Bool.not_true, Bool.not_false, ↓f2, ↓f3]
  · refine .inr ⟨by unfold decOK; simp [hr], h, ?_, Nat.le_refl _, fun q _ => rfl⟩
    have d1 : decide (l.length % 13 = 0) = false := by simp [hr]
    unfold P7 G7_0 G7_1 G7_2 R7
    simp only [↓S.skip, ↓S.seq, ↓S.reg, ↓S.cond, ↓S.block, ↓S.loop, ↓S.exit, ↓S.ret, ↓S.seqK_n, ↓S.seqK_e, ↓S.seqK_r, ↓S.blockK_n, ↓S.blockK_r, ↓S.blockK_e, ↓S.ops_nil, ↓S.ops_cons, ↓S.ops_gt, ↓S.ops_gf, ↓S.put_non, ↓S.put_loc, ↓S.put_frm, ↓S.o_loc, ↓S.o_frm, ↓S.o_const, ↓S.first_cons, ↓S.l_nil, ↓S.l_cons, ↓S.op_none, ↓S.op_some, ↓S.move, ↓S.pick, ↓S.alloc, ↓S.box, ↓S.build, ↓S.buildSlice, ↓S.load, ↓S.store, ↓S.nil_, ↓S.bin, ↓S.un, ↓S.conv, ↓S.func, ↓S.makeSlice, ↓S.strSlice, ↓S.fieldAddr, ↓S.field, ↓S.indexSl, ↓S.indexStr, ↓S.extract, ↓S.len, ↓S.lenStr, ↓S.min, ↓S.append, ↓S.call, ↓S.some_, ↓S.oc_some, ↓S.oc_none, ↓S.bT_t, ↓S.bI_t, ↓S.bI_f, ↓S.nC_0, ↓S.nC_s, ↓S.lc_nil, ↓S.lc_cons, ↓S.g_bool, ↓S.g_undef, ↓S.v_int, ↓S.v_bool, ↓S.v_ptr, ↓S.v_slice, ↓S.v_str, ↓S.v_agg, ↓S.v_tuple, ↓S.v_func, ↓S.r_val, ↓S.f_int, ↓S.f_bool, ↓S.f_ptr, ↓S.f_slice, ↓S.f_agg, ↓S.spot_, ↓S.nat_k, ↓S.nat_i, ↓S.ptr_k, ↓S.int_op, ↓S.sh_op, ↓S.add, ↓S.sub, ↓S.mul, ↓S.lss, ↓S.gtr, ↓S.leq, ↓S.geq, ↓S.eqi, ↓S.nei, ↓S.not_, ↓S.convi, ↓S.fn_n, ↓S.fn_r, ↓S.done_nil, ↓S.res_nil, ↓S.res_tmp, ↓S.res_cell, ↓S.res_0, ↓S.res_1, ↓S.res_2, ↓S.args_nil, ↓S.args_cons, Tr.get_put_eq, if_true, if_false, ↓reduceIte, List.nil_append, Nat.reduceEqDiff, Nat.reduceSucc, Nat.zero_add, Nat.reduceAdd, Nat.reduceMul, Nat.zero_ne_one, Nat.one_ne_zero, Bool.not_true, Bool.not_false, ↓kint, ↓len_eq, ↓q1, ↓q2, ↓e1, ↓d1, ↓ltNat]
end T
