/- Law RttSteady: its walk, closed. -/
import Derived.Test.YtohafkjgdlhmbaaLaw06b
namespace Go.Proofs.Ytohafkjgdlhmbaa
open Go Go.RowKit Go.Proofs.Ytohafkjgdlhmbaa.R
set_option linter.unusedSimpArgs false
set_option maxRecDepth 50000
set_option maxHeartbeats 1000000

/-- How far the mean may be off, from below and from above, and how much may stray, behind so many times. -/
def bd : Nat → Int × Int × Int
  | 0 => (-8589934592, 8589934592, 4294967296)
  | n + 1 => ((bd n).1 - (bd n).1 / 8, (bd n).2.1 - (bd n).2.1 / 8, (bd n).2.2 - (bd n).2.2 / 4 + mx ((bd n).2.1 / 8) (-((bd n).1 / 8)))

theorem bd_end : (bd 400).1 = 0 ∧ (bd 400).2.1 = 7 ∧ (bd 400).2.2 = 3 := by decide +kernel

structure Near (N : Int) (i : Nat) (s : Rtt) : Prop where
  check : rttCheck s = true
  on : s.has = true → (bd i).1 ≤ s.mean - 8 * N ∧ s.mean - 8 * N ≤ (bd i).2.1 ∧ s.far ≤ (bd i).2.2
  off : s.has = false → i = 0

theorem Near.next {N : Int} {i : Nat} {s : Rtt} (h : Near N i s) (n1 : 1 ≤ N) (n2 : N ≤ 1073741824) : Near N (i + 1) (rttSample s N).1 ∧ (rttSample s N).1.has = true := by
  have hc := sample_check s N h.check
  have h0 := (rttCheck_spec s).1 h.check
  cases hh : s.has
  · have := h.off hh
    subst this
    rw [sample_first s N h.check hh n1 n2] at hc ⊢
    refine ⟨⟨hc, fun _ => ?_, fun h => by cases h⟩, rfl⟩
    have e : bd (0 + 1) = (-7516192768, 7516192768, 4294967296) := by decide +kernel
    rw [e]
    dsimp only
    omega
  · rw [hh] at h0
    simp only [true_and, Bool.true_eq_false, false_and, or_false] at h0
    rw [sample_next s N h.check hh n1 n2] at hc ⊢
    refine ⟨⟨hc, fun _ => ?_, fun h => by cases h⟩, rfl⟩
    obtain ⟨k1, k2, k3⟩ := h.on hh
    have e : bd (i + 1) = ((bd i).1 - (bd i).1 / 8, (bd i).2.1 - (bd i).2.1 / 8, (bd i).2.2 - (bd i).2.2 / 4 + mx ((bd i).2.1 / 8) (-((bd i).1 / 8))) := rfl
    rw [e]
    dsimp only
    generalize bd i = b at *
    obtain ⟨l, u, c⟩ := b
    dsimp only at *
    refine ⟨by omega, by omega, ?_⟩
    unfold gapOf mx
    (repeat' split) <;> omega

theorem p_RttSteady : ∀ (x : Nat → Obj → Prop) (vs : List Value), Shvs x [.r (.cons 1 (.b) (.cons 1 (.i .i64) (.cons 1 (.i .i64) (.nil)))), .i .u32] vs → PureC Try.prog x 5 vs (.bool true) := by
  intro x vs hv
  rcases vs with _ | ⟨v0, _ | ⟨v1, _ | ⟨v2, vs⟩⟩⟩ <;> simp only [Shvs, and_false] at hv
  obtain ⟨h0, ⟨t, rfl, wt⟩, _⟩ := hv
  obtain ⟨h, m, f, rfl, wm, wf⟩ := shv_rtt h0
  clear h0
  have bt := wf_u32_out wt
  have hn : ∃ N, wr .i64 (1 + wr .i64 (t.tmod 1073741824)) = N ∧ 1 ≤ N ∧ N ≤ 1073741824 := by
    refine ⟨_, rfl, ?_⟩
    have h1 := Int.tmod_eq_emod_of_nonneg (b := 1073741824) bt.1
    rw [h1, wr_i64 (n := t % 1073741824) (by omega) (by omega), wr_i64 (by omega) (by omega)]
    omega
  obtain ⟨N, hN, n1, n2⟩ := hn
  refine pureC_of_Sd Try.func5 rfl rfl fun w => ?_
  refine Sd_of_cW (by kernel_rfl) ?_
  iterate 43 (all_goals try (first | (with_reducible refine ifB_intro (fun _ => ?_) (fun _ => ?_)) | ((with_reducible show callW _ _ _ (some (20, _)) _ _); refine callP g_law06_awake rfl (c_law06_awake ..) ?_) | ((with_reducible show callW _ _ _ (some (21, _)) _ _); refine callP g_rtt_Sample rfl (c_rtt_Sample ..) ?_) | ((with_reducible show callW _ _ _ (some (23, _)) _ _); refine callP g_rtt_Check rfl (c_rtt_Check ..) ?_) | ((with_reducible show callW _ _ _ (some (25, _)) _ _); refine callP g_rtt_Mean rfl (c_rtt_Mean ..) ?_) | ((with_reducible show callW _ _ _ (some (27, _)) _ _); refine callP g_rtt_Far rfl (c_rtt_Far ..) ?_) | (simp only [hold_eq, tailW_nil, tailW_none, preX_nil, preX_cons, cW_skip, cW_label, cW_exit, cW_goto, cW_ret, cW_seq, cW_cond, cW_block, cW_scope, cW_lit, condW_bool, thenW_normal, thenW_ret, thenW_exit, thenW_goto, thenW_panic, inBlockW_normal, inBlockW_ret, inBlockW_exit, inBlockW_goto, inBlockW_panic, noGotoW_normal, noGotoW_ret, noGotoW_exit, noGotoW_panic, panW_eq, opsW_nil, opsW_none, opsW_some, headW_nil, headW_none, headW_some, gdW_no, gdW_yes, gv_eq, getX_eq, exv_ext, getsX_eq, bind_some, op_move, op_assign, op_pick, pickW_bool, op_nilCheck, nilW_ext, nilW_ptr, nilW_clos, op_binOp, op_unOp, op_convert, op_makeInterface, op_typeAssert, op_extract, op_field, op_index, List.take_succ_cons, List.take_zero, List.drop_succ_cons, List.drop_zero, op_build, fillW_nil, fillW_cons, Nat.reduceLeDiff, List.map_map, op_slice, op_makeFunc, funcW_caps, funcW_none, op_fieldAddr, faW_ptr, faW_ext, op_indexAddr, idxW_sl, idxW_ptr, idxW_ext, op_load, loadW_ptr, loadW_ext, cellW_eq, loadR_agg, loadR_one, op_lookup, mpW_eq, objW_eq, op_built, lenW_sl, lenW_len, lenW_max, lenW_min, op_call, op_invoke, op_alloc, op_box, op_buildSlice, op_makeSlice, op_store, storeW_ptr, op_makeMap, op_mapUpdate, op_insert, op_panic, ifaceW_eq, put_some, put_none, ev_tmp, ev_const, ev_func, ev_global, lk_step, selX_true, selX_false, bw_add, bw_sub, bw_mul, bw_quo, bw_rem, bw_eql, bw_neq, bw_lss, bw_leq, bw_gtr, bw_geq, bw_shl, bw_shr, bw_beq, bw_bne, bw_seq, bw_sne, Back_normal, Back_ret, resL_nil, resL_cons, res1_tmp, res1_cell, resW_eq, resV_one, resV_two, resV_three, resV_none, nilOK_ptr, nilOK_func, nilOK_iface, nilOK_map, tgt_func, tgt_clos, ptrV_eq, slV_eq, one_int, one_bool, one_string, one_pointer, one_slice, one_map, one_func, one_nilFunc, one_iface, one_nilIface, one_ptr, one_clos, one_mp, one_sl, ikEq_self, fitsK_nil, fitsK_bool, fitsK_int, eqL_nil, eqL_bool, eqL_int, cells_agg, cells_int, cells_bool, cells_string, cells_pointer, cells_slice, cells_map, cells_func, cells_nilFunc, cells_iface, cells_nilIface, ydV_bool, ydV_undef, flat_ext, flat_ptr, flat_sl, flat_clos, flat_mp, takeX_zero, takeX_succ, dropX_zero, dropX_succ, nthX_zero, nthX_succ, setX_zero, setX_succ, putX_nil, putX_zero, putX_succ, toExts_nil, toExts_ext, getsR_nil, consX_some, getsR_cons, ptrs_nil, ptrs_ptr, mkT_nil, mkT_cons, yd_lit, ydO_some, segX, un_not, uw_neg, cw_int, extract_of, built_max, built_min, built_len_slice, built_len_string, ifB_true, ifB_false, cond_t, cond_f, Nat.reduceBEq, List.map_cons, List.map_nil, List.length_cons, List.length_nil, List.length_append, List.nil_append, List.cons_append, List.append_nil, Nat.reduceAdd, Nat.add_zero, Nat.zero_add, List.all_cons, List.all_nil, Bool.and_self, Bool.and_true, Bool.true_and, true_and, and_true, and_self, Option.map_some, Option.bind_some, Option.map_none, List.getElem?_toArray, List.getElem?_cons_zero, List.getElem?_cons_succ, Option.toList_some, Option.toList_none, ne_eq, not_false_eq_true, Bool.not_true, Bool.not_false, beq_self_eq_true, Bool.true_beq, Bool.false_beq, Nat.reduceEqDiff, Int.reduceNeg, Int.reduceEq, Int.reduceBEq, Int.reduceLT, Int.reduceLE, Int.reduceBNe, Int.reduceToNat, decide_true, decide_false, Option.some.injEq, Nat.reduceMul, Nat.reduceMod, bits_i64, bits_u64, bits_i32, bits_u32, bits_u16, bits_u8, Nat.min_def, Nat.reduceLeDiff, Int.reducePow, if_true, if_false, reduceIte, ty_4, ty_23, fo_23_0, tz_23, cv_33_3, Try.underlying3, Try.underlying33, rs_5])))
  rename_i hc
  simp only [Bool.not_eq_false'] at hc
  simp only [hN]
  refine cW_loopA (α := Nat × Rtt) (fun p => ⟨[(8, .ext (.int .i64 p.1)), (7, .ptr 1 0), (6, .ext (.int .i64 N)), (5, .ext (.bool true))], [.cells 23 [.ext (.bool h), .ext (.int .i64 m), .ext (.int .i64 f)], .cells 23 [.ext (.bool p.2.has), .ext (.int .i64 p.2.mean), .ext (.int .i64 p.2.far)]], x⟩)
    (fun p => p.1 ≤ 400 ∧ Near N p.1 p.2) (fun p => 400 - p.1)
    ⟨(0, ⟨h, m, f⟩), Wk_of' ⟨⟨rfl, rfl⟩, ⟨rfl, rfl⟩, ⟨rfl, rfl⟩, ⟨rfl, rfl⟩, trivial⟩ ⟨rfl, rfl, trivial⟩ rfl, by
      refine ⟨Nat.zero_le _, hc, fun hh => ?_, fun _ => rfl⟩
      have e : bd 0 = (-8589934592, 8589934592, 4294967296) := rfl
      have := (rttCheck_spec _).1 hc
      dsimp only at hh this ⊢
      rw [hh] at this
      simp only [true_and, Bool.true_eq_false, false_and, or_false] at this
      rw [e]
      dsimp only
      omega⟩ (by kernel_rfl) ?_
  rintro ⟨i, ⟨h1, m1, f1⟩⟩ ⟨i1, hnear⟩
  dsimp only at i1 hnear ⊢
  have fin : ¬ ((i : Int) < 400) → h1 = true ∧ wr .i64 (rttMean ⟨h1, m1, f1⟩ - N) ≤ 0 ∧ wr .i64 (N - rttMean ⟨h1, m1, f1⟩) ≤ 1 ∧ rttFar ⟨h1, m1, f1⟩ ≤ 2 := by
    intro hlt
    have : i = 400 := by omega
    subst this
    obtain ⟨k1, k2, k3⟩ := hnear
    cases h1 with
    | false => have := k3 rfl; omega
    | true =>
      obtain ⟨q1, q2, q3⟩ := k2 rfl
      rw [bd_end.1] at q1
      rw [bd_end.2.1] at q2
      rw [bd_end.2.2] at q3
      have k4 := (rttCheck_spec _).1 k1
      simp only [true_and, Bool.true_eq_false, false_and, or_false] at k4
      dsimp only at q1 q2 q3 k4
      rw [rttMean_eq _ (by dsimp only; omega) (by dsimp only; omega), rttFar_eq _ (by dsimp only; omega) (by dsimp only; omega)]
      dsimp only
      rw [wr_i64 (by omega) (by omega), wr_i64 (by omega) (by omega)]
      exact ⟨rfl, by omega, by omega, by omega⟩
  iterate 24 (all_goals try (first | (with_reducible refine ifB_intro (fun _ => ?_) (fun _ => ?_)) | ((with_reducible show callW _ _ _ (some (20, _)) _ _); refine callP g_law06_awake rfl (c_law06_awake ..) ?_) | ((with_reducible show callW _ _ _ (some (21, _)) _ _); refine callP g_rtt_Sample rfl (c_rtt_Sample ..) ?_) | ((with_reducible show callW _ _ _ (some (23, _)) _ _); refine callP g_rtt_Check rfl (c_rtt_Check ..) ?_) | ((with_reducible show callW _ _ _ (some (25, _)) _ _); refine callP g_rtt_Mean rfl (c_rtt_Mean ..) ?_) | ((with_reducible show callW _ _ _ (some (27, _)) _ _); refine callP g_rtt_Far rfl (c_rtt_Far ..) ?_) | (simp only [hold_eq, tailW_nil, tailW_none, preX_nil, preX_cons, cW_skip, cW_label, cW_exit, cW_goto, cW_ret, cW_seq, cW_cond, cW_block, cW_scope, cW_lit, condW_bool, thenW_normal, thenW_ret, thenW_exit, thenW_goto, thenW_panic, inBlockW_normal, inBlockW_ret, inBlockW_exit, inBlockW_goto, inBlockW_panic, noGotoW_normal, noGotoW_ret, noGotoW_exit, noGotoW_panic, panW_eq, opsW_nil, opsW_none, opsW_some, headW_nil, headW_none, headW_some, gdW_no, gdW_yes, gv_eq, getX_eq, exv_ext, getsX_eq, bind_some, op_move, op_assign, op_pick, pickW_bool, op_nilCheck, nilW_ext, nilW_ptr, nilW_clos, op_binOp, op_unOp, op_convert, op_makeInterface, op_typeAssert, op_extract, op_field, op_index, List.take_succ_cons, List.take_zero, List.drop_succ_cons, List.drop_zero, op_build, fillW_nil, fillW_cons, Nat.reduceLeDiff, List.map_map, op_slice, op_makeFunc, funcW_caps, funcW_none, op_fieldAddr, faW_ptr, faW_ext, op_indexAddr, idxW_sl, idxW_ptr, idxW_ext, op_load, loadW_ptr, loadW_ext, cellW_eq, loadR_agg, loadR_one, op_lookup, mpW_eq, objW_eq, op_built, lenW_sl, lenW_len, lenW_max, lenW_min, op_call, op_invoke, op_alloc, op_box, op_buildSlice, op_makeSlice, op_store, storeW_ptr, op_makeMap, op_mapUpdate, op_insert, op_panic, ifaceW_eq, put_some, put_none, ev_tmp, ev_const, ev_func, ev_global, lk_step, selX_true, selX_false, bw_add, bw_sub, bw_mul, bw_quo, bw_rem, bw_eql, bw_neq, bw_lss, bw_leq, bw_gtr, bw_geq, bw_shl, bw_shr, bw_beq, bw_bne, bw_seq, bw_sne, Back_normal, Back_ret, resL_nil, resL_cons, res1_tmp, res1_cell, resW_eq, resV_one, resV_two, resV_three, resV_none, nilOK_ptr, nilOK_func, nilOK_iface, nilOK_map, tgt_func, tgt_clos, ptrV_eq, slV_eq, one_int, one_bool, one_string, one_pointer, one_slice, one_map, one_func, one_nilFunc, one_iface, one_nilIface, one_ptr, one_clos, one_mp, one_sl, ikEq_self, fitsK_nil, fitsK_bool, fitsK_int, eqL_nil, eqL_bool, eqL_int, cells_agg, cells_int, cells_bool, cells_string, cells_pointer, cells_slice, cells_map, cells_func, cells_nilFunc, cells_iface, cells_nilIface, ydV_bool, ydV_undef, flat_ext, flat_ptr, flat_sl, flat_clos, flat_mp, takeX_zero, takeX_succ, dropX_zero, dropX_succ, nthX_zero, nthX_succ, setX_zero, setX_succ, putX_nil, putX_zero, putX_succ, toExts_nil, toExts_ext, getsR_nil, consX_some, getsR_cons, ptrs_nil, ptrs_ptr, mkT_nil, mkT_cons, yd_lit, ydO_some, segX, un_not, uw_neg, cw_int, extract_of, built_max, built_min, built_len_slice, built_len_string, ifB_true, ifB_false, cond_t, cond_f, Nat.reduceBEq, List.map_cons, List.map_nil, List.length_cons, List.length_nil, List.length_append, List.nil_append, List.cons_append, List.append_nil, Nat.reduceAdd, Nat.add_zero, Nat.zero_add, List.all_cons, List.all_nil, Bool.and_self, Bool.and_true, Bool.true_and, true_and, and_true, and_self, Option.map_some, Option.bind_some, Option.map_none, List.getElem?_toArray, List.getElem?_cons_zero, List.getElem?_cons_succ, Option.toList_some, Option.toList_none, ne_eq, not_false_eq_true, Bool.not_true, Bool.not_false, beq_self_eq_true, Bool.true_beq, Bool.false_beq, Nat.reduceEqDiff, Int.reduceNeg, Int.reduceEq, Int.reduceBEq, Int.reduceLT, Int.reduceLE, Int.reduceBNe, Int.reduceToNat, decide_true, decide_false, Option.some.injEq, Nat.reduceMul, Nat.reduceMod, bits_i64, bits_u64, bits_i32, bits_u32, bits_u16, bits_u8, Nat.min_def, Nat.reduceLeDiff, Int.reducePow, if_true, if_false, reduceIte, ty_4, ty_23, fo_23_0, tz_23, cv_33_3, Try.underlying3, Try.underlying33, rs_5])))
  all_goals (simp only [decide_eq_true_eq, decide_eq_false_iff_not] at *)
  all_goals (first
    | (refine ⟨(i + 1, (rttSample ⟨h1, m1, f1⟩ N).1), Wk_of' ⟨⟨?_, rfl⟩, ⟨rfl, rfl⟩, ⟨rfl, rfl⟩, ⟨rfl, rfl⟩, trivial⟩ ⟨rfl, rfl, trivial⟩ rfl, ?_⟩
       · have e : wr .i64 ((i : Int) + 1) = ((i + 1 : Nat) : Int) := by rw [wr_i64 (by omega) (by omega)]; rfl
         rw [e]; rfl
       · dsimp only
         exact ⟨⟨by omega, (hnear.next n1 n2).1⟩, by omega⟩)
    | (have hf := fin (by assumption)
       exact congrArg Value.bool (decide_eq_true hf.2.2.2))
    | (have hf := fin (by assumption)
       exfalso
       simp_all))
end Go.Proofs.Ytohafkjgdlhmbaa
