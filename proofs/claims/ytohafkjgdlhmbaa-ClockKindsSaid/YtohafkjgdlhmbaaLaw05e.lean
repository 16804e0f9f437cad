/- The statements of layer 5: kinds. -/
import Derived.Test.YtohafkjgdlhmbaaLaw05c
namespace Go.Proofs.Ytohafkjgdlhmbaa
open Go Go.RowKit Go.Proofs.Ytohafkjgdlhmbaa.R
set_option linter.unusedSimpArgs false
set_option maxRecDepth 50000
set_option maxHeartbeats 1000000

theorem p_ClockKinds : ∀ (x : Nat → Obj → Prop) (vs : List Value), Shvs x [.i .i64, .i .i64] vs → PureC Try.prog x 18 vs (.bool true) := by
  intro x vs hv
  rcases vs with _ | ⟨v0, _ | ⟨v1, _ | ⟨v2, vs⟩⟩⟩ <;> simp only [Shvs, and_false] at hv
  obtain ⟨⟨a, rfl, wa⟩, ⟨b, rfl, wb⟩, _⟩ := hv
  have k1 : ((clkKind a == 0) == !clkCheck a) = true := by
    rw [beq_iff_eq]
    by_cases h : a < 0 ∨ 1099511627776 < a
    · rw [clkCheck_f h]
      have : clkKind a = 0 := by rw [clkKind_eq]; rcases h with h | h <;> (repeat' split) <;> omega
      rw [this]; rfl
    · rw [clkCheck_t (by omega) (by omega)]
      have : clkKind a ≠ 0 := by rw [clkKind_eq]; (repeat' split) <;> omega
      rw [beq_eq_false_iff_ne.2 this]; rfl
  have k2 : decide (0 ≤ clkKind a) = true := decide_eq_true (by rw [clkKind_eq]; (repeat' split) <;> omega)
  have k3 : decide (clkKind a ≤ 3) = true := decide_eq_true (by rw [clkKind_eq]; (repeat' split) <;> omega)
  have k4 : (!clkCheck a) = false → (!clkCheck b) = false → decide (b < a) = false → decide (clkKind a ≤ clkKind b) = true := by
    intro e1 e2 e3
    simp only [decide_eq_false_iff_not] at e3
    have e1' : clkCheck a = true := by cases h : clkCheck a <;> simp_all
    have e2' : clkCheck b = true := by cases h : clkCheck b <;> simp_all
    unfold clkCheck at e1' e2'
    simp only [Bool.and_eq_true, decide_eq_true_eq] at e1' e2'
    refine decide_eq_true ?_
    rw [clkKind_eq, clkKind_eq]
    (repeat' split) <;> omega
  refine pureC_of_Sd Try.func18 rfl rfl fun w => ?_
  refine Sd_of_cW (by kernel_rfl) ?_
  iterate 60 (all_goals try (first | (with_reducible refine ifB_intro (fun _ => ?_) (fun _ => ?_)) | ((with_reducible show callW _ _ _ (some (38, _)) _ _); refine callP g_law05_awake rfl (c_law05_awake ..) ?_) | ((with_reducible show callW _ _ _ (some (41, _)) _ _); refine callP g_clock_Check rfl (c_clock_Check ..) ?_) | ((with_reducible show callW _ _ _ (some (47, _)) _ _); refine callP g_clock_Kind rfl (c_clock_Kind ..) ?_) | (simp only [hold_eq, tailW_nil, tailW_none, preX_nil, preX_cons, cW_skip, cW_label, cW_exit, cW_goto, cW_ret, cW_seq, cW_cond, cW_block, cW_scope, cW_lit, condW_bool, thenW_normal, thenW_ret, thenW_exit, thenW_goto, thenW_panic, inBlockW_normal, inBlockW_ret, inBlockW_exit, inBlockW_goto, inBlockW_panic, noGotoW_normal, noGotoW_ret, noGotoW_exit, noGotoW_panic, panW_eq, opsW_nil, opsW_none, opsW_some, headW_nil, headW_none, headW_some, gdW_no, gdW_yes, gv_eq, getX_eq, exv_ext, getsX_eq, bind_some, op_move, op_assign, op_pick, pickW_bool, op_nilCheck, nilW_ext, nilW_ptr, nilW_clos, op_binOp, op_unOp, op_convert, op_makeInterface, op_typeAssert, op_extract, op_field, op_index, List.take_succ_cons, List.take_zero, List.drop_succ_cons, List.drop_zero, op_build, fillW_nil, fillW_cons, Nat.reduceLeDiff, List.map_map, op_slice, op_makeFunc, funcW_caps, funcW_none, op_fieldAddr, faW_ptr, faW_ext, op_indexAddr, idxW_sl, idxW_ptr, idxW_ext, op_load, loadW_ptr, loadW_ext, cellW_eq, loadR_agg, loadR_one, op_lookup, mpW_eq, objW_eq, op_built, lenW_sl, lenW_len, lenW_max, lenW_min, op_call, op_invoke, op_alloc, op_box, op_buildSlice, op_makeSlice, op_store, storeW_ptr, op_makeMap, op_mapUpdate, op_insert, op_panic, ifaceW_eq, put_some, put_none, ev_tmp, ev_const, ev_func, ev_global, lk_step, selX_true, selX_false, bw_add, bw_sub, bw_mul, bw_quo, bw_rem, bw_eql, bw_neq, bw_lss, bw_leq, bw_gtr, bw_geq, bw_shl, bw_shr, bw_beq, bw_bne, bw_seq, bw_sne, Back_normal, Back_ret, resL_nil, resL_cons, res1_tmp, res1_cell, resW_eq, resV_one, resV_two, resV_three, resV_none, nilOK_ptr, nilOK_func, nilOK_iface, nilOK_map, tgt_func, tgt_clos, ptrV_eq, slV_eq, one_int, one_bool, one_string, one_pointer, one_slice, one_map, one_func, one_nilFunc, one_iface, one_nilIface, one_ptr, one_clos, one_mp, one_sl, ikEq_self, fitsK_nil, fitsK_bool, fitsK_int, eqL_nil, eqL_bool, eqL_int, cells_agg, cells_int, cells_bool, cells_string, cells_pointer, cells_slice, cells_map, cells_func, cells_nilFunc, cells_iface, cells_nilIface, ydV_bool, ydV_undef, flat_ext, flat_ptr, flat_sl, flat_clos, flat_mp, takeX_zero, takeX_succ, dropX_zero, dropX_succ, nthX_zero, nthX_succ, setX_zero, setX_succ, putX_nil, putX_zero, putX_succ, toExts_nil, toExts_ext, getsR_nil, consX_some, getsR_cons, ptrs_nil, ptrs_ptr, mkT_nil, mkT_cons, yd_lit, ydO_some, segX, un_not, uw_neg, cw_int, extract_of, built_max, built_min, built_len_slice, built_len_string, ifB_true, ifB_false, cond_t, cond_f, Nat.reduceBEq, List.map_cons, List.map_nil, List.length_cons, List.length_nil, List.length_append, List.nil_append, List.cons_append, List.append_nil, Nat.reduceAdd, Nat.add_zero, Nat.zero_add, List.all_cons, List.all_nil, Bool.and_self, Bool.and_true, Bool.true_and, true_and, and_true, and_self, Option.map_some, Option.bind_some, Option.map_none, List.getElem?_toArray, List.getElem?_cons_zero, List.getElem?_cons_succ, Option.toList_some, Option.toList_none, ne_eq, not_false_eq_true, Bool.not_true, Bool.not_false, beq_self_eq_true, Bool.true_beq, Bool.false_beq, Nat.reduceEqDiff, Int.reduceNeg, Int.reduceEq, Int.reduceBEq, Int.reduceLT, Int.reduceLE, Int.reduceBNe, Int.reduceToNat, decide_true, decide_false, Option.some.injEq, Nat.reduceMul, Nat.reduceMod, bits_i64, bits_u64, bits_i32, bits_u32, bits_u16, bits_u8, Nat.min_def, Nat.reduceLeDiff, Int.reducePow, if_true, if_false, reduceIte, Try.underlying3, Try.underlying4, rs_18, k1, k2, k3])))
  all_goals (first | rfl | (rename_i e1 e2 e3; exact congrArg Value.bool (k4 e1 e2 e3)) | (rename_i e1 e2 e3 e4; rw [k4 e1 e2 e3] at e4; cases e4))
end Go.Proofs.Ytohafkjgdlhmbaa
