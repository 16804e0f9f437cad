/- Law RtoSteady: its walk, closed. -/
import Derived.Test.YtohafkjgdlhmbaaLaw07b
import Derived.Test.YtohafkjgdlhmbaaRtoP
namespace Go.Proofs.Ytohafkjgdlhmbaa
open Go Go.RowKit Go.Proofs.Ytohafkjgdlhmbaa.R
set_option linter.unusedSimpArgs false
set_option maxRecDepth 50000
set_option maxHeartbeats 1000000

/-- How much may stray, behind so many times. -/
def far7 : Nat → Int
  | 0 => 0
  | 1 => 2147483648
  | n + 2 => far7 (n + 1) - far7 (n + 1) / 4
theorem far7_end : far7 150 = 3 := by decide +kernel

structure Near7 (N : Int) (i : Nat) (s : Rtt) : Prop where
  check : rttCheck s = true
  on : s.has = true → s.mean = 8 * N ∧ s.far ≤ far7 i ∧ 1 ≤ i
  off : s.has = false → i = 0

theorem Near7.next {N : Int} {i : Nat} {s : Rtt} (h : Near7 N i s) (n1 : 1 ≤ N) (n2 : N ≤ 1073741824) : Near7 N (i + 1) (rttSample s N).1 ∧ (rttSample s N).2 = 0 := by
  have hc := sample_check s N h.check
  have h0 := (rttCheck_spec s).1 h.check
  cases hh : s.has
  · have := h.off hh
    subst this
    rw [sample_first s N h.check hh n1 n2] at hc ⊢
    refine ⟨⟨hc, fun _ => ⟨rfl, ?_, by decide⟩, fun h => by cases h⟩, rfl⟩
    have e : far7 (0 + 1) = 2147483648 := rfl
    rw [e]
    dsimp only
    omega
  · rw [hh] at h0
    simp only [true_and, Bool.true_eq_false, false_and, or_false] at h0
    obtain ⟨k1, k2, k3⟩ := h.on hh
    rw [sample_next s N h.check hh n1 n2] at hc ⊢
    obtain ⟨j, rfl⟩ : ∃ j, i = j + 1 := ⟨i - 1, by omega⟩
    have e : far7 (j + 1 + 1) = far7 (j + 1) - far7 (j + 1) / 4 := rfl
    refine ⟨⟨hc, fun _ => ⟨?_, ?_, by omega⟩, fun h => by cases h⟩, rfl⟩
    · dsimp only
      omega
    · rw [e]
      dsimp only
      generalize far7 (j + 1) = b at *
      unfold gapOf
      (repeat' split) <;> omega
theorem p_RtoSteady : ∀ (x : Nat → Obj → Prop) (vs : List Value), Shvs x [.i .u32, .i .u16] vs → PureC Try.prog x 19 vs (.bool true) := by
  intro x vs hv
  rcases vs with _ | ⟨v0, _ | ⟨v1, _ | ⟨v2, vs⟩⟩⟩ <;> simp only [Shvs, and_false] at hv
  obtain ⟨⟨t, rfl, wt⟩, ⟨u, rfl, wu⟩, _⟩ := hv
  have bt := wf_u32_out wt
  have bu := wf_u16_out wu
  have hn : ∃ N, wr .i64 (1 + wr .i64 (t.tmod 1073741824)) = N ∧ 1 ≤ N ∧ N ≤ 1073741824 := by
    refine ⟨_, rfl, ?_⟩
    have h1 := Int.tmod_eq_emod_of_nonneg (b := 1073741824) bt.1
    rw [h1, wr_i64 (n := t % 1073741824) (by omega) (by omega), wr_i64 (by omega) (by omega)]
    omega
  obtain ⟨N, hN, n1, n2⟩ := hn
  have hg : ∃ G, wr .i64 (1 + wr .i64 u) = G ∧ 1 ≤ G ∧ G ≤ 65536 := by
    refine ⟨_, rfl, ?_⟩
    rw [wr_i64 (n := u) (by omega) (by omega), wr_i64 (by omega) (by omega)]
    omega
  obtain ⟨G, hG, g1, g2⟩ := hg
  refine pureC_of_Sd Try.func19 rfl rfl fun w => ?_
  refine Sd_of_cW (by kernel_rfl) ?_
  iterate 14 (all_goals try (first | (with_reducible refine ifB_intro (fun _ => ?_) (fun _ => ?_)) | ((with_reducible show callW _ _ _ (some (21, _)) _ _); refine callP g_rtt_Sample rfl (c_rtt_Sample ..) ?_) | ((with_reducible show callW _ _ _ (some (30, _)) _ _); refine callP g_law07_awake rfl (c_law07_awake ..) ?_) | ((with_reducible show callW _ _ _ (some (32, _)) _ _); refine callP g_rto_Base rfl (c_rto_Base ..) ?_) | ((with_reducible show cW _ _ (.region 12 _ true) _ _); refine cW_drawF lx_19_12 (by kernel_rfl) mixed_ (by kernel_rfl) ?_) | (simp only [hold_eq, tailW_nil, tailW_none, preX_nil, preX_cons, cW_skip, cW_label, cW_exit, cW_goto, cW_ret, cW_seq, cW_cond, cW_block, cW_scope, cW_lit, condW_bool, thenW_normal, thenW_ret, thenW_exit, thenW_goto, thenW_panic, inBlockW_normal, inBlockW_ret, inBlockW_exit, inBlockW_goto, inBlockW_panic, noGotoW_normal, noGotoW_ret, noGotoW_exit, noGotoW_panic, panW_eq, opsW_nil, opsW_none, opsW_some, headW_nil, headW_none, headW_some, gdW_no, gdW_yes, gv_eq, getX_eq, exv_ext, getsX_eq, bind_some, op_move, op_assign, op_pick, pickW_bool, op_nilCheck, nilW_ext, nilW_ptr, nilW_clos, op_binOp, op_unOp, op_convert, op_makeInterface, op_typeAssert, op_extract, op_field, op_index, List.take_succ_cons, List.take_zero, List.drop_succ_cons, List.drop_zero, op_build, fillW_nil, fillW_cons, Nat.reduceLeDiff, List.map_map, op_slice, op_makeFunc, funcW_caps, funcW_none, op_fieldAddr, faW_ptr, faW_ext, op_indexAddr, idxW_sl, idxW_ptr, idxW_ext, op_load, loadW_ptr, loadW_ext, cellW_eq, loadR_agg, loadR_one, op_lookup, mpW_eq, objW_eq, op_built, lenW_sl, lenW_len, lenW_max, lenW_min, op_call, op_invoke, op_alloc, op_box, op_buildSlice, op_makeSlice, op_store, storeW_ptr, op_makeMap, op_mapUpdate, op_insert, op_panic, ifaceW_eq, put_some, put_none, ev_tmp, ev_const, ev_func, ev_global, lk_step, selX_true, selX_false, bw_add, bw_sub, bw_mul, bw_quo, bw_rem, bw_eql, bw_neq, bw_lss, bw_leq, bw_gtr, bw_geq, bw_shl, bw_shr, bw_beq, bw_bne, bw_seq, bw_sne, Back_normal, Back_ret, resL_nil, resL_cons, res1_tmp, res1_cell, resW_eq, resV_one, resV_two, resV_three, resV_none, nilOK_ptr, nilOK_func, nilOK_iface, nilOK_map, tgt_func, tgt_clos, ptrV_eq, slV_eq, one_int, one_bool, one_string, one_pointer, one_slice, one_map, one_func, one_nilFunc, one_iface, one_nilIface, one_ptr, one_clos, one_mp, one_sl, ikEq_self, fitsK_nil, fitsK_bool, fitsK_int, eqL_nil, eqL_bool, eqL_int, cells_agg, cells_int, cells_bool, cells_string, cells_pointer, cells_slice, cells_map, cells_func, cells_nilFunc, cells_iface, cells_nilIface, ydV_bool, ydV_undef, flat_ext, flat_ptr, flat_sl, flat_clos, flat_mp, takeX_zero, takeX_succ, dropX_zero, dropX_succ, nthX_zero, nthX_succ, setX_zero, setX_succ, putX_nil, putX_zero, putX_succ, toExts_nil, toExts_ext, getsR_nil, consX_some, getsR_cons, ptrs_nil, ptrs_ptr, mkT_nil, mkT_cons, yd_lit, ydO_some, segX, un_not, uw_neg, cw_int, extract_of, built_max, built_min, built_len_slice, built_len_string, ifB_true, ifB_false, cond_t, cond_f, Nat.reduceBEq, List.map_cons, List.map_nil, List.length_cons, List.length_nil, List.length_append, List.nil_append, List.cons_append, List.append_nil, Nat.reduceAdd, Nat.add_zero, Nat.zero_add, List.all_cons, List.all_nil, Bool.and_self, Bool.and_true, Bool.true_and, true_and, and_true, and_self, Option.map_some, Option.bind_some, Option.map_none, List.getElem?_toArray, List.getElem?_cons_zero, List.getElem?_cons_succ, Option.toList_some, Option.toList_none, ne_eq, not_false_eq_true, Bool.not_true, Bool.not_false, beq_self_eq_true, Bool.true_beq, Bool.false_beq, Nat.reduceEqDiff, Int.reduceNeg, Int.reduceEq, Int.reduceBEq, Int.reduceLT, Int.reduceLE, Int.reduceBNe, Int.reduceToNat, decide_true, decide_false, Option.some.injEq, Nat.reduceMul, Nat.reduceMod, bits_i64, bits_u64, bits_i32, bits_u32, bits_u16, bits_u8, Nat.min_def, Nat.reduceLeDiff, Int.reducePow, if_true, if_false, reduceIte, ty_3, ty_23, fo_23_2, tz_23, bd_40, cv_33_3, cv_57_3, Try.underlying3, Try.underlying26, Try.underlying33, Try.underlying57, rs_19, hN, hG])))
  refine cW_loopA (α := Nat × Rtt) (fun p => ⟨[(9, .ext (.int .i64 p.1)), (8, .ptr 0 0), (7, .ext (.int .i64 G)), (6, .ext (.int .i64 N)), (5, .ext (.bool true))], [.cells 23 [.ext (.bool p.2.has), .ext (.int .i64 p.2.mean), .ext (.int .i64 p.2.far)]], x⟩)
    (fun p => p.1 ≤ 150 ∧ Near7 N p.1 p.2) (fun p => 150 - p.1)
    ⟨(0, ⟨false, 0, 0⟩), Wk_of' ⟨⟨rfl, rfl⟩, ⟨rfl, rfl⟩, ⟨rfl, rfl⟩, ⟨rfl, rfl⟩, ⟨rfl, rfl⟩, trivial⟩ ⟨rfl, trivial⟩ rfl, by exact ⟨Nat.zero_le _, ⟨rfl, fun h => (by cases h), fun _ => rfl⟩⟩⟩ (by kernel_rfl) ?_
  rintro ⟨i, ⟨h1, m1, f1⟩⟩ ⟨i1, hnear⟩
  dsimp only at i1 hnear ⊢
  by_cases hlt : i < 150
  · have hd : decide ((i : Int) < 150) = true := by simp; omega
    have ei : wr .i64 ((i : Int) + 1) = ((i + 1 : Nat) : Int) := by rw [wr_i64 (by omega) (by omega)]; rfl
    obtain ⟨q1, q2⟩ := hnear.next n1 n2
    iterate 30 (all_goals try (first | (with_reducible refine ifB_intro (fun _ => ?_) (fun _ => ?_)) | ((with_reducible show callW _ _ _ (some (21, _)) _ _); refine callP g_rtt_Sample rfl (c_rtt_Sample ..) ?_) | ((with_reducible show callW _ _ _ (some (30, _)) _ _); refine callP g_law07_awake rfl (c_law07_awake ..) ?_) | ((with_reducible show callW _ _ _ (some (32, _)) _ _); refine callP g_rto_Base rfl (c_rto_Base ..) ?_) | ((with_reducible show cW _ _ (.region 12 _ true) _ _); refine cW_drawF lx_19_12 (by kernel_rfl) mixed_ (by kernel_rfl) ?_) | (simp only [hold_eq, tailW_nil, tailW_none, preX_nil, preX_cons, cW_skip, cW_label, cW_exit, cW_goto, cW_ret, cW_seq, cW_cond, cW_block, cW_scope, cW_lit, condW_bool, thenW_normal, thenW_ret, thenW_exit, thenW_goto, thenW_panic, inBlockW_normal, inBlockW_ret, inBlockW_exit, inBlockW_goto, inBlockW_panic, noGotoW_normal, noGotoW_ret, noGotoW_exit, noGotoW_panic, panW_eq, opsW_nil, opsW_none, opsW_some, headW_nil, headW_none, headW_some, gdW_no, gdW_yes, gv_eq, getX_eq, exv_ext, getsX_eq, bind_some, op_move, op_assign, op_pick, pickW_bool, op_nilCheck, nilW_ext, nilW_ptr, nilW_clos, op_binOp, op_unOp, op_convert, op_makeInterface, op_typeAssert, op_extract, op_field, op_index, List.take_succ_cons, List.take_zero, List.drop_succ_cons, List.drop_zero, op_build, fillW_nil, fillW_cons, Nat.reduceLeDiff, List.map_map, op_slice, op_makeFunc, funcW_caps, funcW_none, op_fieldAddr, faW_ptr, faW_ext, op_indexAddr, idxW_sl, idxW_ptr, idxW_ext, op_load, loadW_ptr, loadW_ext, cellW_eq, loadR_agg, loadR_one, op_lookup, mpW_eq, objW_eq, op_built, lenW_sl, lenW_len, lenW_max, lenW_min, op_call, op_invoke, op_alloc, op_box, op_buildSlice, op_makeSlice, op_store, storeW_ptr, op_makeMap, op_mapUpdate, op_insert, op_panic, ifaceW_eq, put_some, put_none, ev_tmp, ev_const, ev_func, ev_global, lk_step, selX_true, selX_false, bw_add, bw_sub, bw_mul, bw_quo, bw_rem, bw_eql, bw_neq, bw_lss, bw_leq, bw_gtr, bw_geq, bw_shl, bw_shr, bw_beq, bw_bne, bw_seq, bw_sne, Back_normal, Back_ret, resL_nil, resL_cons, res1_tmp, res1_cell, resW_eq, resV_one, resV_two, resV_three, resV_none, nilOK_ptr, nilOK_func, nilOK_iface, nilOK_map, tgt_func, tgt_clos, ptrV_eq, slV_eq, one_int, one_bool, one_string, one_pointer, one_slice, one_map, one_func, one_nilFunc, one_iface, one_nilIface, one_ptr, one_clos, one_mp, one_sl, ikEq_self, fitsK_nil, fitsK_bool, fitsK_int, eqL_nil, eqL_bool, eqL_int, cells_agg, cells_int, cells_bool, cells_string, cells_pointer, cells_slice, cells_map, cells_func, cells_nilFunc, cells_iface, cells_nilIface, ydV_bool, ydV_undef, flat_ext, flat_ptr, flat_sl, flat_clos, flat_mp, takeX_zero, takeX_succ, dropX_zero, dropX_succ, nthX_zero, nthX_succ, setX_zero, setX_succ, putX_nil, putX_zero, putX_succ, toExts_nil, toExts_ext, getsR_nil, consX_some, getsR_cons, ptrs_nil, ptrs_ptr, mkT_nil, mkT_cons, yd_lit, ydO_some, segX, un_not, uw_neg, cw_int, extract_of, built_max, built_min, built_len_slice, built_len_string, ifB_true, ifB_false, cond_t, cond_f, Nat.reduceBEq, List.map_cons, List.map_nil, List.length_cons, List.length_nil, List.length_append, List.nil_append, List.cons_append, List.append_nil, Nat.reduceAdd, Nat.add_zero, Nat.zero_add, List.all_cons, List.all_nil, Bool.and_self, Bool.and_true, Bool.true_and, true_and, and_true, and_self, Option.map_some, Option.bind_some, Option.map_none, List.getElem?_toArray, List.getElem?_cons_zero, List.getElem?_cons_succ, Option.toList_some, Option.toList_none, ne_eq, not_false_eq_true, Bool.not_true, Bool.not_false, beq_self_eq_true, Bool.true_beq, Bool.false_beq, Nat.reduceEqDiff, Int.reduceNeg, Int.reduceEq, Int.reduceBEq, Int.reduceLT, Int.reduceLE, Int.reduceBNe, Int.reduceToNat, decide_true, decide_false, Option.some.injEq, Nat.reduceMul, Nat.reduceMod, bits_i64, bits_u64, bits_i32, bits_u32, bits_u16, bits_u8, Nat.min_def, Nat.reduceLeDiff, Int.reducePow, if_true, if_false, reduceIte, ty_3, ty_23, fo_23_2, tz_23, bd_40, cv_33_3, cv_57_3, Try.underlying3, Try.underlying26, Try.underlying33, Try.underlying57, rs_19, hd, ei, q2, bne_self_eq_false])))
    exact ⟨(i + 1, (rttSample ⟨h1, m1, f1⟩ N).1), Wk_of' ⟨⟨rfl, rfl⟩, ⟨rfl, rfl⟩, ⟨rfl, rfl⟩, ⟨rfl, rfl⟩, ⟨rfl, rfl⟩, trivial⟩ ⟨rfl, trivial⟩ rfl, ⟨by dsimp only; omega, q1⟩, by dsimp only; omega⟩
  · have hd : decide ((i : Int) < 150) = false := by simp; omega
    have : i = 150 := by omega
    subst this
    obtain ⟨k1, k2, k3⟩ := hnear
    cases h1 with
    | false => have := k3 rfl; omega
    | true =>
      obtain ⟨q1, q2, _⟩ := k2 rfl
      rw [far7_end] at q2
      have k4 := (rttCheck_spec _).1 k1
      simp only [true_and, Bool.true_eq_false, false_and, or_false] at k4
      dsimp only at q1 q2 k4
      have e1 : (rtoBase ⟨true, m1, f1⟩ ⟨0, 0, 0, G, 0, 0, 0⟩ == wr .i64 (N + mx G f1)) = true := by
        rw [rtoBase_eq, if_pos ⟨rfl, k1⟩, beq_iff_eq, wr_i64 (by unfold mx; split <;> omega) (by unfold mx; split <;> omega)]
        dsimp only
        rw [wn_in g1 (by omega)]
        omega
      have e2 : decide (f1 ≤ 3) = true := decide_eq_true q2
      iterate 40 (all_goals try (first | (with_reducible refine ifB_intro (fun _ => ?_) (fun _ => ?_)) | ((with_reducible show callW _ _ _ (some (21, _)) _ _); refine callP g_rtt_Sample rfl (c_rtt_Sample ..) ?_) | ((with_reducible show callW _ _ _ (some (30, _)) _ _); refine callP g_law07_awake rfl (c_law07_awake ..) ?_) | ((with_reducible show callW _ _ _ (some (32, _)) _ _); refine callP g_rto_Base rfl (c_rto_Base ..) ?_) | ((with_reducible show cW _ _ (.region 12 _ true) _ _); refine cW_drawF lx_19_12 (by kernel_rfl) mixed_ (by kernel_rfl) ?_) | (simp only [hold_eq, tailW_nil, tailW_none, preX_nil, preX_cons, cW_skip, cW_label, cW_exit, cW_goto, cW_ret, cW_seq, cW_cond, cW_block, cW_scope, cW_lit, condW_bool, thenW_normal, thenW_ret, thenW_exit, thenW_goto, thenW_panic, inBlockW_normal, inBlockW_ret, inBlockW_exit, inBlockW_goto, inBlockW_panic, noGotoW_normal, noGotoW_ret, noGotoW_exit, noGotoW_panic, panW_eq, opsW_nil, opsW_none, opsW_some, headW_nil, headW_none, headW_some, gdW_no, gdW_yes, gv_eq, getX_eq, exv_ext, getsX_eq, bind_some, op_move, op_assign, op_pick, pickW_bool, op_nilCheck, nilW_ext, nilW_ptr, nilW_clos, op_binOp, op_unOp, op_convert, op_makeInterface, op_typeAssert, op_extract, op_field, op_index, List.take_succ_cons, List.take_zero, List.drop_succ_cons, List.drop_zero, op_build, fillW_nil, fillW_cons, Nat.reduceLeDiff, List.map_map, op_slice, op_makeFunc, funcW_caps, funcW_none, op_fieldAddr, faW_ptr, faW_ext, op_indexAddr, idxW_sl, idxW_ptr, idxW_ext, op_load, loadW_ptr, loadW_ext, cellW_eq, loadR_agg, loadR_one, op_lookup, mpW_eq, objW_eq, op_built, lenW_sl, lenW_len, lenW_max, lenW_min, op_call, op_invoke, op_alloc, op_box, op_buildSlice, op_makeSlice, op_store, storeW_ptr, op_makeMap, op_mapUpdate, op_insert, op_panic, ifaceW_eq, put_some, put_none, ev_tmp, ev_const, ev_func, ev_global, lk_step, selX_true, selX_false, bw_add, bw_sub, bw_mul, bw_quo, bw_rem, bw_eql, bw_neq, bw_lss, bw_leq, bw_gtr, bw_geq, bw_shl, bw_shr, bw_beq, bw_bne, bw_seq, bw_sne, Back_normal, Back_ret, resL_nil, resL_cons, res1_tmp, res1_cell, resW_eq, resV_one, resV_two, resV_three, resV_none, nilOK_ptr, nilOK_func, nilOK_iface, nilOK_map, tgt_func, tgt_clos, ptrV_eq, slV_eq, one_int, one_bool, one_string, one_pointer, one_slice, one_map, one_func, one_nilFunc, one_iface, one_nilIface, one_ptr, one_clos, one_mp, one_sl, ikEq_self, fitsK_nil, fitsK_bool, fitsK_int, eqL_nil, eqL_bool, eqL_int, cells_agg, cells_int, cells_bool, cells_string, cells_pointer, cells_slice, cells_map, cells_func, cells_nilFunc, cells_iface, cells_nilIface, ydV_bool, ydV_undef, flat_ext, flat_ptr, flat_sl, flat_clos, flat_mp, takeX_zero, takeX_succ, dropX_zero, dropX_succ, nthX_zero, nthX_succ, setX_zero, setX_succ, putX_nil, putX_zero, putX_succ, toExts_nil, toExts_ext, getsR_nil, consX_some, getsR_cons, ptrs_nil, ptrs_ptr, mkT_nil, mkT_cons, yd_lit, ydO_some, segX, un_not, uw_neg, cw_int, extract_of, built_max, built_min, built_len_slice, built_len_string, ifB_true, ifB_false, cond_t, cond_f, Nat.reduceBEq, List.map_cons, List.map_nil, List.length_cons, List.length_nil, List.length_append, List.nil_append, List.cons_append, List.append_nil, Nat.reduceAdd, Nat.add_zero, Nat.zero_add, List.all_cons, List.all_nil, Bool.and_self, Bool.and_true, Bool.true_and, true_and, and_true, and_self, Option.map_some, Option.bind_some, Option.map_none, List.getElem?_toArray, List.getElem?_cons_zero, List.getElem?_cons_succ, Option.toList_some, Option.toList_none, ne_eq, not_false_eq_true, Bool.not_true, Bool.not_false, beq_self_eq_true, Bool.true_beq, Bool.false_beq, Nat.reduceEqDiff, Int.reduceNeg, Int.reduceEq, Int.reduceBEq, Int.reduceLT, Int.reduceLE, Int.reduceBNe, Int.reduceToNat, decide_true, decide_false, Option.some.injEq, Nat.reduceMul, Nat.reduceMod, bits_i64, bits_u64, bits_i32, bits_u32, bits_u16, bits_u8, Nat.min_def, Nat.reduceLeDiff, Int.reducePow, if_true, if_false, reduceIte, ty_3, ty_23, fo_23_2, tz_23, bd_40, cv_33_3, cv_57_3, Try.underlying3, Try.underlying26, Try.underlying33, Try.underlying57, rs_19, hd, e1, e2])))
end Go.Proofs.Ytohafkjgdlhmbaa
