/- The statements of layer 3: what is fixed at their head. -/
import Derived.Test.YtflljnaojghifaaRef03
import Derived.Test.YtflljnaojghifaaBigA
import Derived.Test.YtflljnaojghifaaRow
namespace Go.Proofs.Ytflljnaojghifaa
open Go Go.RowKit Go.Proofs.Ytflljnaojghifaa.R
set_option linter.unusedSimpArgs false
set_option maxRecDepth 50000
set_option maxHeartbeats 1000000

section
variable {x : Nat → Obj → Prop}
theorem aw_cube1 : PureC Try.prog x 45 [.int .u64 4398046511104] (.tuple #[.agg #[.bool false, .int .u64 4611686018427387904, .int .u64 0], .int .i64 0]) := by
  have h := c_root_Cube (x := x) 4398046511104 (by decide) (by decide)
  rwa [show bH (4398046511104 * 4398046511104 * 4398046511104) = 4611686018427387904 by decide +kernel, show bL (4398046511104 * 4398046511104 * 4398046511104) = 0 by decide +kernel, show bE (4398046511104 * 4398046511104 * 4398046511104) = 0 by decide +kernel] at h
theorem aw_cube2 : PureC Try.prog x 45 [.int .u64 6981463658332] (.tuple #[.agg #[.bool false, .int .u64 0, .int .u64 0], .int .i64 10]) := by
  have h := c_root_Cube (x := x) 6981463658332 (by decide) (by decide)
  rwa [show bH (6981463658332 * 6981463658332 * 6981463658332) = 0 by decide +kernel, show bL (6981463658332 * 6981463658332 * 6981463658332) = 0 by decide +kernel, show bE (6981463658332 * 6981463658332 * 6981463658332) = 10 by decide +kernel] at h
theorem aw_of26 : PureC Try.prog x 56 [.int .i64 26] (.agg #[.bool false, .int .u64 0, .int .u64 26]) := c_big_Of 26 (by decide) (by decide)
theorem aw_of27 : PureC Try.prog x 56 [.int .i64 (-27)] (.agg #[.bool true, .int .u64 0, .int .u64 27]) := c_big_Of (-27) (by decide) (by decide)
theorem aw_of8 : PureC Try.prog x 56 [.int .i64 8] (.agg #[.bool false, .int .u64 0, .int .u64 8]) := c_big_Of 8 (by decide) (by decide)
theorem aw_of9 : PureC Try.prog x 56 [.int .i64 9] (.agg #[.bool false, .int .u64 0, .int .u64 9]) := c_big_Of 9 (by decide) (by decide)
theorem aw_third {g : Bool} {h l r : Int} (hh : 0 ≤ h) (hh1 : h < 18446744073709551616) (hl : 0 ≤ l) (hl1 : l < 18446744073709551616) (hr : 0 ≤ r) (h1 : r * r * r ≤ h * 18446744073709551616 + l) (h2 : h * 18446744073709551616 + l < (r + 1) * (r + 1) * (r + 1)) :
    PureC Try.prog x 49 [.agg #[.bool g, .int .u64 h, .int .u64 l]] (.int .u64 r) := by
  have := c_root_Third (x := x) g h l hh hh1 hl hl1
  rwa [rt3_eq (by omega) (by omega) hr h1 h2] at this
theorem aw_half {g : Bool} {h l r : Int} (hh : 0 ≤ h) (hh1 : h < 18446744073709551616) (hl : 0 ≤ l) (hl1 : l < 18446744073709551616) (hr : 0 ≤ r) (h1 : r * r ≤ h * 18446744073709551616 + l) (h2 : h * 18446744073709551616 + l < (r + 1) * (r + 1)) :
    PureC Try.prog x 51 [.agg #[.bool g, .int .u64 h, .int .u64 l]] (.int .u64 r) := by
  have := c_root_Half (x := x) g h l hh hh1 hl hl1
  rwa [rt2_eq (by omega) (by omega) hr h1 h2] at this
theorem aw_t26 : PureC Try.prog x 49 [.agg #[.bool false, .int .u64 0, .int .u64 26]] (.int .u64 2) := aw_third (by decide) (by decide) (by decide) (by decide) (by decide) (by decide) (by decide)
theorem aw_t27 : PureC Try.prog x 49 [.agg #[.bool true, .int .u64 0, .int .u64 27]] (.int .u64 3) := aw_third (by decide) (by decide) (by decide) (by decide) (by decide) (by decide) (by decide)
theorem aw_tm : PureC Try.prog x 49 [.agg #[.bool true, .int .u64 18446744073709551615, .int .u64 18446744073709551615]] (.int .u64 6981463658331) := aw_third (by decide) (by decide) (by decide) (by decide) (by decide) (by decide) (by decide)
theorem aw_t0 : PureC Try.prog x 49 [.agg #[.bool false, .int .u64 0, .int .u64 0]] (.int .u64 0) := aw_third (by decide) (by decide) (by decide) (by decide) (by decide) (by decide) (by decide)
theorem aw_h8 : PureC Try.prog x 51 [.agg #[.bool false, .int .u64 0, .int .u64 8]] (.int .u64 2) := aw_half (by decide) (by decide) (by decide) (by decide) (by decide) (by decide) (by decide)
theorem aw_h9 : PureC Try.prog x 51 [.agg #[.bool false, .int .u64 0, .int .u64 9]] (.int .u64 3) := aw_half (by decide) (by decide) (by decide) (by decide) (by decide) (by decide) (by decide)
theorem aw_hm : PureC Try.prog x 51 [.agg #[.bool true, .int .u64 18446744073709551615, .int .u64 18446744073709551615]] (.int .u64 18446744073709551615) := aw_half (by decide) (by decide) (by decide) (by decide) (by decide) (by decide) (by decide)
theorem aw_sq : PureC Try.prog x 47 [.int .u64 9223372036854775808] (.agg #[.bool false, .int .u64 4611686018427387904, .int .u64 0]) := by
  have h := c_root_Square (x := x) 9223372036854775808 (by decide) (by decide)
  rwa [show (9223372036854775808 : Int) * 9223372036854775808 / 18446744073709551616 = 4611686018427387904 by decide, show (9223372036854775808 : Int) * 9223372036854775808 % 18446744073709551616 = 0 by decide] at h
end

theorem c_law03_awake {x : Nat → Obj → Prop} : PureC Try.prog x 44 [] (.bool true) := by
  refine pureC_of_Sd Try.func44 rfl rfl fun w => ?_
  refine Sd_of_cW (by kernel_rfl) ?_
  repeat' (first | (with_reducible refine trivial) | (with_reducible refine ifB_t (by decide +kernel) ?_) | (with_reducible refine ifB_intro (fun _ => ?_) (fun _ => ?_)) | ((with_reducible show callW _ _ _ (some (45, _)) _ _); refine callP g_root_Cube rfl (aw_cube1) ?_) | ((with_reducible show callW _ _ _ (some (45, _)) _ _); refine callP g_root_Cube rfl (aw_cube2) ?_) | ((with_reducible show callW _ _ _ (some (47, _)) _ _); refine callP g_root_Square rfl (aw_sq) ?_) | ((with_reducible show callW _ _ _ (some (49, _)) _ _); refine callP g_root_Third rfl (aw_t26) ?_) | ((with_reducible show callW _ _ _ (some (49, _)) _ _); refine callP g_root_Third rfl (aw_t27) ?_) | ((with_reducible show callW _ _ _ (some (49, _)) _ _); refine callP g_root_Third rfl (aw_tm) ?_) | ((with_reducible show callW _ _ _ (some (49, _)) _ _); refine callP g_root_Third rfl (aw_t0) ?_) | ((with_reducible show callW _ _ _ (some (51, _)) _ _); refine callP g_root_Half rfl (aw_h8) ?_) | ((with_reducible show callW _ _ _ (some (51, _)) _ _); refine callP g_root_Half rfl (aw_h9) ?_) | ((with_reducible show callW _ _ _ (some (51, _)) _ _); refine callP g_root_Half rfl (aw_hm) ?_) | ((with_reducible show callW _ _ _ (some (56, _)) _ _); refine callP g_big_Of rfl (aw_of26) ?_) | ((with_reducible show callW _ _ _ (some (56, _)) _ _); refine callP g_big_Of rfl (aw_of27) ?_) | ((with_reducible show callW _ _ _ (some (56, _)) _ _); refine callP g_big_Of rfl (aw_of8) ?_) | ((with_reducible show callW _ _ _ (some (56, _)) _ _); refine callP g_big_Of rfl (aw_of9) ?_) | ((fail_if_success (first | (with_reducible show cW _ _ (.loop _) _ _) | (with_reducible show cW _ _ (.region _ _ true) _ _) | (with_reducible show callW _ _ _ (some _) _ _) | (with_reducible show rowW _ _ _) | (with_reducible show bldW _ _ _ _ _ _ _) | (with_reducible show lookW _ _ _ _ _ _) | (with_reducible show updW _ _ _ _ _ _) | (with_reducible show extW _ _ _ _ _ _) | (with_reducible show inW _ _ _) | (with_reducible show appW _ _ _ _ _ _) | (with_reducible show extM _ _ _) | (with_reducible show binW _ _ _ _ _ _ _ _) | (with_reducible show pureW _ _ _) | (with_reducible show builtW _ _ _) | (with_reducible show invokeW _ _ _ _))); simp only [hold_eq, tailW_nil, tailW_none, preX_nil, preX_cons, cW_skip, cW_label, cW_exit, cW_goto, cW_ret, cW_seq, cW_cond, cW_block, cW_scope, cW_lit, condW_bool, thenW_normal, thenW_ret, thenW_exit, thenW_goto, thenW_panic, inBlockW_normal, inBlockW_ret, inBlockW_exit, inBlockW_goto, inBlockW_panic, noGotoW_normal, noGotoW_ret, noGotoW_exit, noGotoW_panic, panW_eq, opsW_nil, opsW_none, opsW_some, headW_nil, headW_none, headW_some, gdW_no, gdW_yes, gv_eq, getX_eq, exv_ext, getsX_eq, bind_some, op_move, op_assign, op_pick, pickW_bool, op_nilCheck, nilW_ext, nilW_ptr, nilW_clos, op_binOp, op_unOp, op_convert, op_makeInterface, op_typeAssert, op_extract, op_field, op_index, List.take_succ_cons, List.take_zero, List.drop_succ_cons, List.drop_zero, op_build, fillW_nil, fillW_cons, Nat.reduceLeDiff, List.map_map, op_slice, op_makeFunc, funcW_caps, funcW_none, op_fieldAddr, faW_ptr, faW_ext, op_indexAddr, idxW_sl, idxW_ptr, idxW_ext, op_load, loadW_ptr, loadW_ext, cellW_eq, loadR_agg, loadR_one, mixW_nil, mixW_q, mixW_l, loudW_none, xsub_refl, op_lookup, mapOb_mp, mapOb_ext, mpW_eq, objW_eq, op_built, lenW_sl, lenW_app, lenW_len, lenW_max, lenW_min, op_call, op_invoke, op_alloc, op_box, op_buildSlice, op_makeSlice, op_store, storeW_ptr, op_makeMap, op_mapUpdate, op_insert, op_panic, ifaceW_eq, put_some, put_none, ev_tmp, ev_const, ev_func, ev_global, lk_step, selX_true, selX_false, bw_add, bw_sub, bw_mul, bw_and, bw_quo, bw_rem, bw_eql, bw_neq, bw_lss, bw_leq, bw_gtr, bw_geq, bw_shl, bw_shr, bw_beq, bw_bne, bw_seq, bw_sne, Back_normal, Back_ret, resL_nil, resL_cons, res1_tmp, res1_cell, resW_eq, resV_one, resV_two, resV_three, resV_none, nilOK_ptr, nilOK_func, nilOK_iface, nilOK_map, tgt_func, tgt_clos, ptrV_eq, slV_eq, one_int, one_bool, one_string, one_pointer, one_slice, one_map, one_func, one_nilFunc, one_iface, one_nilIface, one_ptr, one_clos, one_mp, one_sl, ikEq_self, fitsK_nil, fitsK_bool, fitsK_int, eqL_nil, eqL_bool, eqL_int, cells_agg, cells_int, cells_bool, cells_string, cells_pointer, cells_slice, cells_map, cells_func, cells_nilFunc, cells_iface, cells_nilIface, ydV_bool, ydV_undef, flat_ext, flat_ptr, flat_sl, flat_clos, flat_mp, takeX_zero, takeX_succ, dropX_zero, dropX_succ, nthX_zero, nthX_succ, setX_zero, setX_succ, putX_nil, putX_zero, putX_succ, toExts_nil, toExts_ext, getsR_nil, consX_some, getsR_cons, ptrs_nil, ptrs_ptr, mkT_nil, mkT_cons, yd_lit, ydO_some, segX, un_not, uw_neg, cw_int, extract_of, built_max, built_min, built_len_slice, built_len_string, ifB_true, ifB_false, cond_t, cond_f, Nat.reduceBEq, List.map_cons, List.map_nil, List.length_cons, List.length_nil, List.length_append, List.nil_append, List.cons_append, List.append_nil, Nat.reduceAdd, Nat.add_zero, Nat.zero_add, List.all_cons, List.all_nil, Bool.and_self, Bool.and_true, Bool.true_and, true_and, and_true, and_self, Option.map_some, Option.bind_some, Option.map_none, List.getElem?_toArray, List.getElem?_cons_zero, List.getElem?_cons_succ, Option.toList_some, Option.toList_none, ne_eq, not_false_eq_true, Bool.not_true, Bool.not_false, beq_self_eq_true, Bool.true_beq, Bool.false_beq, Nat.reduceEqDiff, Int.reduceNeg, Int.reduceEq, Int.reduceBEq, Int.reduceLT, Int.reduceLE, Int.reduceBNe, Int.reduceToNat, decide_true, decide_false, Option.some.injEq, Nat.reduceMul, Nat.reduceMod, bits_i64, bits_u64, bits_i32, bits_u32, bits_u16, bits_u8, Nat.min_def, Nat.reduceLeDiff, Int.reducePow, if_true, if_false, reduceIte, ty_62, tz_62, fk_62, bd_62, Try.underlying28, Try.underlying60, rs_44, appX_nil, appX_cons]))

theorem wf_u64 {n : Int} (h : (Lit.int .u64 n).wf = true) : 0 ≤ n ∧ n < 18446744073709551616 := by
  simp only [Lit.wf, Bool.and_eq_true, decide_eq_true_eq] at h
  have e1 : IntKind.u64.min = 0 := by decide
  have e2 : IntKind.u64.max = 18446744073709551615 := by decide
  rw [e1, e2] at h
  omega
theorem shv_big {x : Nat → Obj → Prop} {v : Value} (h : Shv x (.r (.cons 1 .b (.cons 1 (.i .u64) (.cons 1 (.i .u64) .nil)))) v) : ∃ g h l, v = .agg #[.bool g, .int .u64 h, .int .u64 l] ∧ (0 ≤ h ∧ h < 18446744073709551616) ∧ 0 ≤ l ∧ l < 18446744073709551616 := by
  obtain ⟨cs, rfl, _, _, hcs, _, ⟨b, rfl⟩, _, _, rfl, _, ⟨m, rfl, wm⟩, _, _, rfl, _, ⟨f, rfl, wf⟩, rfl⟩ := h
  have cs' : cs = #[.bool b, .int .u64 m, .int .u64 f] := by
    have : cs = cs.toList.toArray := by simp
    rw [this, hcs]; rfl
  exact ⟨b, m, f, by rw [cs'], wf_u64 wm, wf_u64 wf⟩
end Go.Proofs.Ytflljnaojghifaa
