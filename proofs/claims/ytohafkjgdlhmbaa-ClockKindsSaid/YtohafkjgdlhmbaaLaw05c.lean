/- The statements of layer 5: grains, spans and kinds. -/
import Derived.Test.YtohafkjgdlhmbaaLaw05b
namespace Go.Proofs.Ytohafkjgdlhmbaa
open Go Go.RowKit Go.Proofs.Ytohafkjgdlhmbaa.R
set_option linter.unusedSimpArgs false
set_option maxRecDepth 50000
set_option maxHeartbeats 1000000

theorem wf_i32_out {n : Int} (h : (Lit.int .i32 n).wf = true) : -2147483648 ≤ n ∧ n ≤ 2147483647 := wf_out h

theorem grain_mult {t g : Int} (hg : 1 ≤ g) (h1 : -2147483648 ≤ t) (h2 : t ≤ 2147483647) (h3 : g ≤ 2147483647) :
    (clkGrain t g).tmod g = 0 ∧ t ≤ clkGrain t g ∧ clkGrain t g - t < g := by
  have k := tmod_bounds (t := t) (g := g) (by omega)
  have e : g * t.tdiv g + t.tmod g = t := Int.mul_tdiv_add_tmod t g
  have m1 : t - t.tmod g = g * t.tdiv g := by omega
  have m2 : t + (g - t.tmod g) = g * (t.tdiv g + 1) := by rw [Int.mul_add, Int.mul_one]; omega
  unfold clkGrain
  rw [if_neg (by omega)]
  split
  · refine ⟨by rw [m1]; exact Int.mul_tmod_right _ _, by omega, by omega⟩
  · rw [if_neg (by omega)]
    refine ⟨by rw [m2]; exact Int.mul_tmod_right _ _, by omega, by omega⟩
theorem grain_stays {n g : Int} (hg : 1 ≤ g) (h : n.tmod g = 0) : clkGrain n g = n := by
  unfold clkGrain
  rw [if_neg (by omega), h, if_pos (by omega), Int.sub_zero]

theorem p_ClockGrains : ∀ (x : Nat → Obj → Prop) (vs : List Value), Shvs x [.i .i32, .i .i32] vs → PureC Try.prog x 16 vs (.bool true) := by
  intro x vs hv
  rcases vs with _ | ⟨v0, _ | ⟨v1, _ | ⟨v2, vs⟩⟩⟩ <;> simp only [Shvs, and_false] at hv
  obtain ⟨⟨t, rfl, wt⟩, ⟨g, rfl, wg⟩, _⟩ := hv
  have bt := wf_i32_out wt
  have bg := wf_i32_out wg
  have et : wr .i64 t = t := wr_i64 (by omega) (by omega)
  have eg : wr .i64 g = g := wr_i64 (by omega) (by omega)
  refine pureC_of_Sd Try.func16 rfl rfl fun w => ?_
  refine Sd_of_cW (by kernel_rfl) ?_
  by_cases hg : g < 1
  · have hd : decide (g < 1) = true := decide_eq_true hg
    have hs : clkGrain t g = t := if_pos hg
    iterate 30 (all_goals try (first | (with_reducible refine ifB_intro (fun _ => ?_) (fun _ => ?_)) | ((with_reducible show callW _ _ _ (some (38, _)) _ _); refine callP g_law05_awake rfl (c_law05_awake ..) ?_) | ((with_reducible show callW _ _ _ (some (45, _)) _ _); refine callP g_clock_Grain rfl (c_clock_Grain _ _ (by omega) (by omega)) ?_) | (simp only [hold_eq, tailW_nil, tailW_none, preX_nil, preX_cons, cW_skip, cW_label, cW_exit, cW_goto, cW_ret, cW_seq, cW_cond, cW_block, cW_scope, cW_lit, condW_bool, thenW_normal, thenW_ret, thenW_exit, thenW_goto, thenW_panic, inBlockW_normal, inBlockW_ret, inBlockW_exit, inBlockW_goto, inBlockW_panic, noGotoW_normal, noGotoW_ret, noGotoW_exit, noGotoW_panic, panW_eq, opsW_nil, opsW_none, opsW_some, headW_nil, headW_none, headW_some, gdW_no, gdW_yes, gv_eq, getX_eq, exv_ext, getsX_eq, bind_some, op_move, op_assign, op_pick, pickW_bool, op_nilCheck, nilW_ext, nilW_ptr, nilW_clos, op_binOp, op_unOp, op_convert, op_makeInterface, op_typeAssert, op_extract, op_field, op_index, List.take_succ_cons, List.take_zero, List.drop_succ_cons, List.drop_zero, op_build, fillW_nil, fillW_cons, Nat.reduceLeDiff, List.map_map, op_slice, op_makeFunc, funcW_caps, funcW_none, op_fieldAddr, faW_ptr, faW_ext, op_indexAddr, idxW_sl, idxW_ptr, idxW_ext, op_load, loadW_ptr, loadW_ext, cellW_eq, loadR_agg, loadR_one, op_lookup, mpW_eq, objW_eq, op_built, lenW_sl, lenW_len, lenW_max, lenW_min, op_call, op_invoke, op_alloc, op_box, op_buildSlice, op_makeSlice, op_store, storeW_ptr, op_makeMap, op_mapUpdate, op_insert, op_panic, ifaceW_eq, put_some, put_none, ev_tmp, ev_const, ev_func, ev_global, lk_step, selX_true, selX_false, bw_add, bw_sub, bw_mul, bw_quo, bw_rem, bw_eql, bw_neq, bw_lss, bw_leq, bw_gtr, bw_geq, bw_shl, bw_shr, bw_beq, bw_bne, bw_seq, bw_sne, Back_normal, Back_ret, resL_nil, resL_cons, res1_tmp, res1_cell, resW_eq, resV_one, resV_two, resV_three, resV_none, nilOK_ptr, nilOK_func, nilOK_iface, nilOK_map, tgt_func, tgt_clos, ptrV_eq, slV_eq, one_int, one_bool, one_string, one_pointer, one_slice, one_map, one_func, one_nilFunc, one_iface, one_nilIface, one_ptr, one_clos, one_mp, one_sl, ikEq_self, fitsK_nil, fitsK_bool, fitsK_int, eqL_nil, eqL_bool, eqL_int, cells_agg, cells_int, cells_bool, cells_string, cells_pointer, cells_slice, cells_map, cells_func, cells_nilFunc, cells_iface, cells_nilIface, ydV_bool, ydV_undef, flat_ext, flat_ptr, flat_sl, flat_clos, flat_mp, takeX_zero, takeX_succ, dropX_zero, dropX_succ, nthX_zero, nthX_succ, setX_zero, setX_succ, putX_nil, putX_zero, putX_succ, toExts_nil, toExts_ext, getsR_nil, consX_some, getsR_cons, ptrs_nil, ptrs_ptr, mkT_nil, mkT_cons, yd_lit, ydO_some, segX, un_not, uw_neg, cw_int, extract_of, built_max, built_min, built_len_slice, built_len_string, ifB_true, ifB_false, cond_t, cond_f, Nat.reduceBEq, List.map_cons, List.map_nil, List.length_cons, List.length_nil, List.length_append, List.nil_append, List.cons_append, List.append_nil, Nat.reduceAdd, Nat.add_zero, Nat.zero_add, List.all_cons, List.all_nil, Bool.and_self, Bool.and_true, Bool.true_and, true_and, and_true, and_self, Option.map_some, Option.bind_some, Option.map_none, List.getElem?_toArray, List.getElem?_cons_zero, List.getElem?_cons_succ, Option.toList_some, Option.toList_none, ne_eq, not_false_eq_true, Bool.not_true, Bool.not_false, beq_self_eq_true, Bool.true_beq, Bool.false_beq, Nat.reduceEqDiff, Int.reduceNeg, Int.reduceEq, Int.reduceBEq, Int.reduceLT, Int.reduceLE, Int.reduceBNe, Int.reduceToNat, decide_true, decide_false, Option.some.injEq, Nat.reduceMul, Nat.reduceMod, bits_i64, bits_u64, bits_i32, bits_u32, bits_u16, bits_u8, Nat.min_def, Nat.reduceLeDiff, Int.reducePow, if_true, if_false, reduceIte, cv_21_3, Try.underlying3, Try.underlying21, rs_16, et, eg, hd, hs, beq_self_eq_true])))
  · have hd : decide (g < 1) = false := decide_eq_false hg
    obtain ⟨k1, k2, k3⟩ := grain_mult (t := t) (g := g) (by omega) (by omega) (by omega) (by omega)
    have k4 := grain_stays (n := clkGrain t g) (g := g) (by omega) k1
    have k5 : clkGrain t 1 = t := grain_stays (by decide) (by rw [Int.tmod_one])
    generalize hn : clkGrain t g = n at *
    have d1 : decide (t ≤ n) = true := decide_eq_true k2
    have en : wr .i64 (n - t) = n - t := wr_i64 (by omega) (by omega)
    have d2 : decide (n - t < g) = true := decide_eq_true k3
    have g0 : g ≠ 0 := by omega
    iterate 60 (all_goals try (first | (with_reducible refine ifB_intro (fun _ => ?_) (fun _ => ?_)) | ((with_reducible show callW _ _ _ (some (38, _)) _ _); refine callP g_law05_awake rfl (c_law05_awake ..) ?_) | ((with_reducible show callW _ _ _ (some (45, _)) _ _); refine callP g_clock_Grain rfl (c_clock_Grain _ _ (by omega) (by omega)) ?_) | (simp only [hold_eq, tailW_nil, tailW_none, preX_nil, preX_cons, cW_skip, cW_label, cW_exit, cW_goto, cW_ret, cW_seq, cW_cond, cW_block, cW_scope, cW_lit, condW_bool, thenW_normal, thenW_ret, thenW_exit, thenW_goto, thenW_panic, inBlockW_normal, inBlockW_ret, inBlockW_exit, inBlockW_goto, inBlockW_panic, noGotoW_normal, noGotoW_ret, noGotoW_exit, noGotoW_panic, panW_eq, opsW_nil, opsW_none, opsW_some, headW_nil, headW_none, headW_some, gdW_no, gdW_yes, gv_eq, getX_eq, exv_ext, getsX_eq, bind_some, op_move, op_assign, op_pick, pickW_bool, op_nilCheck, nilW_ext, nilW_ptr, nilW_clos, op_binOp, op_unOp, op_convert, op_makeInterface, op_typeAssert, op_extract, op_field, op_index, List.take_succ_cons, List.take_zero, List.drop_succ_cons, List.drop_zero, op_build, fillW_nil, fillW_cons, Nat.reduceLeDiff, List.map_map, op_slice, op_makeFunc, funcW_caps, funcW_none, op_fieldAddr, faW_ptr, faW_ext, op_indexAddr, idxW_sl, idxW_ptr, idxW_ext, op_load, loadW_ptr, loadW_ext, cellW_eq, loadR_agg, loadR_one, op_lookup, mpW_eq, objW_eq, op_built, lenW_sl, lenW_len, lenW_max, lenW_min, op_call, op_invoke, op_alloc, op_box, op_buildSlice, op_makeSlice, op_store, storeW_ptr, op_makeMap, op_mapUpdate, op_insert, op_panic, ifaceW_eq, put_some, put_none, ev_tmp, ev_const, ev_func, ev_global, lk_step, selX_true, selX_false, bw_add, bw_sub, bw_mul, bw_quo, bw_rem, bw_eql, bw_neq, bw_lss, bw_leq, bw_gtr, bw_geq, bw_shl, bw_shr, bw_beq, bw_bne, bw_seq, bw_sne, Back_normal, Back_ret, resL_nil, resL_cons, res1_tmp, res1_cell, resW_eq, resV_one, resV_two, resV_three, resV_none, nilOK_ptr, nilOK_func, nilOK_iface, nilOK_map, tgt_func, tgt_clos, ptrV_eq, slV_eq, one_int, one_bool, one_string, one_pointer, one_slice, one_map, one_func, one_nilFunc, one_iface, one_nilIface, one_ptr, one_clos, one_mp, one_sl, ikEq_self, fitsK_nil, fitsK_bool, fitsK_int, eqL_nil, eqL_bool, eqL_int, cells_agg, cells_int, cells_bool, cells_string, cells_pointer, cells_slice, cells_map, cells_func, cells_nilFunc, cells_iface, cells_nilIface, ydV_bool, ydV_undef, flat_ext, flat_ptr, flat_sl, flat_clos, flat_mp, takeX_zero, takeX_succ, dropX_zero, dropX_succ, nthX_zero, nthX_succ, setX_zero, setX_succ, putX_nil, putX_zero, putX_succ, toExts_nil, toExts_ext, getsR_nil, consX_some, getsR_cons, ptrs_nil, ptrs_ptr, mkT_nil, mkT_cons, yd_lit, ydO_some, segX, un_not, uw_neg, cw_int, extract_of, built_max, built_min, built_len_slice, built_len_string, ifB_true, ifB_false, cond_t, cond_f, Nat.reduceBEq, List.map_cons, List.map_nil, List.length_cons, List.length_nil, List.length_append, List.nil_append, List.cons_append, List.append_nil, Nat.reduceAdd, Nat.add_zero, Nat.zero_add, List.all_cons, List.all_nil, Bool.and_self, Bool.and_true, Bool.true_and, true_and, and_true, and_self, Option.map_some, Option.bind_some, Option.map_none, List.getElem?_toArray, List.getElem?_cons_zero, List.getElem?_cons_succ, Option.toList_some, Option.toList_none, ne_eq, not_false_eq_true, Bool.not_true, Bool.not_false, beq_self_eq_true, Bool.true_beq, Bool.false_beq, Nat.reduceEqDiff, Int.reduceNeg, Int.reduceEq, Int.reduceBEq, Int.reduceLT, Int.reduceLE, Int.reduceBNe, Int.reduceToNat, decide_true, decide_false, Option.some.injEq, Nat.reduceMul, Nat.reduceMod, bits_i64, bits_u64, bits_i32, bits_u32, bits_u16, bits_u8, Nat.min_def, Nat.reduceLeDiff, Int.reducePow, if_true, if_false, reduceIte, cv_21_3, Try.underlying3, Try.underlying21, rs_16, et, eg, hd, hn, bw_rem g0, k1, k4, k5, d1, en, d2, beq_self_eq_true])))
end Go.Proofs.Ytohafkjgdlhmbaa
