/- 'sawtoothlaw21.EngineStays': for every input the call returns true, and each argument reads as it did: the tied card. Conditions: the listed variable holds what the program's text lays. -/
import Derived.Test.YtkokohkbhlnjkaaGreatDoorMa7
import Derived.Test.YtkokohkbhlnjkaaGreatDoorCards
import Derived.Test.YtkokohkbhlnjkaaGreatDoorTie
namespace Go.Proofs.YtkokohkbhlnjkaaGreatDoor
set_option linter.unusedVariables false
set_option linter.unusedSimpArgs false
open Go Go.RowKit Go.Proofs.YtkokohkbhlnjkaaGreatDoor.R
set_option maxRecDepth 50000
set_option maxHeartbeats 4000000
theorem stays_walk {x : Nat → Obj → Prop} (hT : TensX x) (s : Es) (e : Ev) {a : Option Addr} {cap : Nat} (hW : EsW s) (hu : MsAt x s.ms (.slice a s.ms.length cap)) :
    PureC Tryz.prog x 7 [s.v (.slice a s.ms.length cap), e.v] (.bool true) := by
  by_cases hl : s.ms.length ≤ 100
  rotate_left
  · have hd : decide ((100 : Int) < s.ms.length) = true := by simp; omega
    unfold Es.v Es.cells Ev.v
    refine pureC_of_Sd Tryz.func7 rfl rfl fun w => ?_
    refine Sd_of_cW (by kernel_rfl) ?_
    repeat' (first | (with_reducible refine ifB_intro (fun _ => ?_) (fun _ => ?_)) | ((with_reducible show callW _ _ _ (some (24, _)) _ _); refine callP g_ref21_Same rfl (c_ref21_Same ..) ?_) | ((with_reducible show callW _ _ _ (some (25, _)) _ _); refine callP g_engine_Check rfl (c_engine_Check ..) ?_) | ((with_reducible show callW _ _ _ (some (29, _)) _ _); refine callP g_engine_Do rfl (c_engine_Do ..) ?_) | ((with_reducible show callW _ _ _ (some (32, _)) _ _); refine callP g_law21_awake rfl (c_law21_awake hT) ?_) | ((fail_if_success (with_reducible refine stk ?_)); simp only [WE, Nat.reduceLeDiff, segX, Nat.reduceBEq, Nat.reduceAdd, Nat.reduceEqDiff, Int.reduceNeg, Int.reduceEq, Int.reduceBEq, Int.reduceLT, Int.reduceLE, Int.reduceBNe, Int.reduceToNat, Nat.reduceMul, Nat.reduceMod, Int.reducePow, reduceIte, ty_3, ty_23, ty_39, ty_49, ty_64, fo_23_1, fo_36_2, fo_49_0, fo_49_1, fo_49_3, fo_49_4, fo_49_6, fo_49_8, fo_64_1, el_39, tz_49, fk_23, bl_39, Tryz.underlying3, Tryz.underlying30, Tryz.underlying39, rs_7, hd]))
  have hd : decide ((100 : Int) < s.ms.length) = false := by simp; omega
  have hi := hW.in_ (by omega)
  obtain ⟨t, n, ht⟩ : ∃ t n, esDo s e = (t, n) := ⟨_, _, rfl⟩
  have hD := do_gen hT ht hi hu
  unfold Es.v Es.cells Ev.v at hD
  unfold Es.v Es.cells Ev.v
  by_cases hn : n = 0
  · subst hn
    have h0 := esDo_stays (s := s) (e := e) (by rw [ht])
    rw [ht] at h0
    obtain ⟨h1, h2, h3, h4⟩ := h0
    have hfl := esDo_fl hi.fl (e := e) (by rw [ht])
    have hms := esDo_ms s e
    rw [ht] at hfl hms
    dsimp only at h2 h3 h4
    obtain ⟨cft, nowt, lastt, wint, thrt, hight, flt, rttt, mst, rdt, hyt, ept, rect, backt, bkt, limt⟩ := t
    dsimp only at h3 h4
    subst h3; subst h4
    have q1 : decide ((131072 : Int) ≤ wint) = true := by simpa using h2.win.1
    have q2 : decide (wint ≤ s.cf.max * 65536) = true := by simpa using h2.win.2
    have q3 : decide ((131072 : Int) ≤ thrt) = true := by simpa using h2.thr.1
    have q4 : decide ((0 : Int) ≤ flt.out) = true := by have h9 : flOk flt := h2.fl; unfold flOk at h9; simp; omega
    have q5 : wr .i64 (s.cf.max * 65536) = s.cf.max * 65536 := by have := h1.cf.max; rw [wr_i64 (by omega) (by omega)]
    refine pureC_of_Sd Tryz.func7 rfl rfl fun w => ?_
    refine Sd_of_cW (by kernel_rfl) ?_
    repeat' (first | (with_reducible refine ifB_intro (fun _ => ?_) (fun _ => ?_)) | ((with_reducible show callW _ _ _ (some (24, _)) _ _); refine callP g_ref21_Same rfl (c_ref21_Same ..) ?_) | ((with_reducible show callW _ _ _ (some (25, _)) _ _); refine callP g_engine_Check rfl (c_engine_Check ..) ?_) | ((with_reducible show callW _ _ _ (some (29, _)) _ _); refine callP g_engine_Do rfl () ?_) | ((with_reducible show callW _ _ _ (some (32, _)) _ _); refine callP g_law21_awake rfl (c_law21_awake hT) ?_) | ((fail_if_success (with_reducible refine stk ?_)); simp only [WE, Nat.reduceLeDiff, segX, Nat.reduceBEq, Nat.reduceAdd, Nat.reduceEqDiff, Int.reduceNeg, Int.reduceEq, Int.reduceBEq, Int.reduceLT, Int.reduceLE, Int.reduceBNe, Int.reduceToNat, Nat.reduceMul, Nat.reduceMod, Int.reducePow, reduceIte, ty_3, ty_23, ty_39, ty_49, ty_64, fo_23_1, fo_36_2, fo_49_0, fo_49_1, fo_49_3, fo_49_4, fo_49_6, fo_49_8, fo_64_1, el_39, tz_49, fk_23, bl_39, Tryz.underlying3, Tryz.underlying30, Tryz.underlying39, rs_7, hd, cells_agg]))
    refine callE g_engine_Do rfl hD ?_
    rintro _ x1 x2 ⟨a1, c1, rfl, hu1⟩ hs1 hs2
    have hT2 : TensX x2 := hT.mono hs1
    have hu2 := hu1.mono hs2
    have hu3 := hu.mono hs1
    have hC := c_engine_Check hT2 s hi.fl (by omega) hu3
    rw [(esOk_iff s).2 h1] at hC
    have hC2 := c_engine_Check hT2 _ hfl (by omega) hu2
    rw [(esOk_iff _).2 h2] at hC2
    unfold Es.v Es.cells at hC hC2
    repeat' (first | (with_reducible refine ifB_intro (fun _ => ?_) (fun _ => ?_)) | ((with_reducible show callW _ _ _ (some (24, _)) _ _); refine callP g_ref21_Same rfl (c_ref21_Same ..) ?_) | ((with_reducible show callW _ _ _ (some (25, _)) _ _); refine callP g_engine_Check rfl (hC) ?_) | ((with_reducible show callW _ _ _ (some (25, _)) _ _); refine callP g_engine_Check rfl (hC2) ?_) | ((with_reducible show callW _ _ _ (some (29, _)) _ _); refine callP g_engine_Do rfl () ?_) | ((with_reducible show callW _ _ _ (some (32, _)) _ _); refine callP g_law21_awake rfl (c_law21_awake hT) ?_) | ((fail_if_success (with_reducible refine stk ?_)); simp only [WE, Nat.reduceLeDiff, segX, Nat.reduceBEq, Nat.reduceAdd, Nat.reduceEqDiff, Int.reduceNeg, Int.reduceEq, Int.reduceBEq, Int.reduceLT, Int.reduceLE, Int.reduceBNe, Int.reduceToNat, Nat.reduceMul, Nat.reduceMod, Int.reducePow, reduceIte, ty_3, ty_23, ty_39, ty_49, ty_64, fo_23_1, fo_36_2, fo_49_0, fo_49_1, fo_49_3, fo_49_4, fo_49_6, fo_49_8, fo_64_1, el_39, tz_49, fk_23, bl_39, Tryz.underlying3, Tryz.underlying30, Tryz.underlying39, rs_7, bne_self_eq_false, cells_agg, q1, q2, q3, q4, q5, beq_self_eq_true, Bool.and_self]))
  · have h0 := esDo_err (s := s) (e := e) (by rw [ht]; exact hn)
    rw [ht] at h0
    dsimp only at h0
    subst h0
    have hz : (n != 0) = true := by simpa using hn
    refine pureC_of_Sd Tryz.func7 rfl rfl fun w => ?_
    refine Sd_of_cW (by kernel_rfl) ?_
    repeat' (first | (with_reducible refine ifB_intro (fun _ => ?_) (fun _ => ?_)) | ((with_reducible show callW _ _ _ (some (24, _)) _ _); refine callP g_ref21_Same rfl (c_ref21_Same ..) ?_) | ((with_reducible show callW _ _ _ (some (25, _)) _ _); refine callP g_engine_Check rfl (hC) ?_) | ((with_reducible show callW _ _ _ (some (25, _)) _ _); refine callP g_engine_Check rfl (hC2) ?_) | ((with_reducible show callW _ _ _ (some (29, _)) _ _); refine callP g_engine_Do rfl () ?_) | ((with_reducible show callW _ _ _ (some (32, _)) _ _); refine callP g_law21_awake rfl (c_law21_awake hT) ?_) | ((fail_if_success (with_reducible refine stk ?_)); simp only [WE, Nat.reduceLeDiff, segX, Nat.reduceBEq, Nat.reduceAdd, Nat.reduceEqDiff, Int.reduceNeg, Int.reduceEq, Int.reduceBEq, Int.reduceLT, Int.reduceLE, Int.reduceBNe, Int.reduceToNat, Nat.reduceMul, Nat.reduceMod, Int.reducePow, reduceIte, ty_3, ty_23, ty_39, ty_49, ty_64, fo_23_1, fo_36_2, fo_49_0, fo_49_1, fo_49_3, fo_49_4, fo_49_6, fo_49_8, fo_64_1, el_39, tz_49, fk_23, bl_39, Tryz.underlying3, Tryz.underlying30, Tryz.underlying39, rs_7, hd, cells_agg]))
    refine callE g_engine_Do rfl hD ?_
    rintro _ x1 x2 ⟨a1, c1, rfl, hu1⟩ hs1 hs2
    have hT2 : TensX x2 := hT.mono hs1
    have hu2 := hu1.mono hs2
    have hu3 := hu.mono hs1
    have hS := c_ref21_Same (x := x2) t (by omega) hu2 hu3
    unfold Es.v Es.cells at hS
    repeat' (first | (with_reducible refine ifB_intro (fun _ => ?_) (fun _ => ?_)) | ((with_reducible show callW _ _ _ (some (24, _)) _ _); refine callP g_ref21_Same rfl (hS) ?_) | ((with_reducible show callW _ _ _ (some (25, _)) _ _); refine callP g_engine_Check rfl (hC) ?_) | ((with_reducible show callW _ _ _ (some (25, _)) _ _); refine callP g_engine_Check rfl (hC2) ?_) | ((with_reducible show callW _ _ _ (some (29, _)) _ _); refine callP g_engine_Do rfl () ?_) | ((with_reducible show callW _ _ _ (some (32, _)) _ _); refine callP g_law21_awake rfl (c_law21_awake hT) ?_) | ((fail_if_success (with_reducible refine stk ?_)); simp only [WE, Nat.reduceLeDiff, segX, Nat.reduceBEq, Nat.reduceAdd, Nat.reduceEqDiff, Int.reduceNeg, Int.reduceEq, Int.reduceBEq, Int.reduceLT, Int.reduceLE, Int.reduceBNe, Int.reduceToNat, Nat.reduceMul, Nat.reduceMod, Int.reducePow, reduceIte, ty_3, ty_23, ty_39, ty_49, ty_64, fo_23_1, fo_36_2, fo_49_0, fo_49_1, fo_49_3, fo_49_4, fo_49_6, fo_49_8, fo_64_1, el_39, tz_49, fk_23, bl_39, Tryz.underlying3, Tryz.underlying30, Tryz.underlying39, rs_7, hz, cells_agg]))
theorem p_EngineStays : ∀ (x : Nat → Obj → Prop) (vs : List Value), XLaid x → Shvs x [.r (.cons 7 (.r (.cons 1 (.i .i64) (.cons 1 (.i .i64) (.cons 1 (.i .i64) (.cons 1 (.i .i64) (.cons 1 (.i .i64) (.cons 1 (.i .i64) (.cons 1 (.i .i64) (.nil))))))))) (.cons 1 (.i .i64) (.cons 1 (.i .i64) (.cons 1 (.i .i64) (.cons 1 (.i .i64) (.cons 1 (.i .i64) (.cons 3 (.r (.cons 1 (.i .i64) (.cons 1 (.i .i64) (.cons 1 (.i .i64) (.nil))))) (.cons 3 (.r (.cons 1 (.b) (.cons 1 (.i .i64) (.cons 1 (.i .i64) (.nil))))) (.cons 1 (.v 2 (.r (.cons 1 (.i .i64) (.cons 1 (.i .i64) (.nil))))) (.cons 2 (.r (.cons 1 (.i .i64) (.cons 1 (.i .i64) (.nil)))) (.cons 7 (.r (.cons 1 (.i .i64) (.cons 1 (.i .i64) (.cons 1 (.i .i64) (.cons 1 (.b) (.cons 1 (.b) (.cons 1 (.i .i64) (.cons 1 (.i .i64) (.nil))))))))) (.cons 6 (.r (.cons 1 (.b) (.cons 1 (.i .i64) (.cons 1 (.i .i64) (.cons 1 (.i .i64) (.cons 1 (.i .i64) (.cons 1 (.i .i64) (.nil)))))))) (.cons 1 (.i .i64) (.cons 1 (.i .i64) (.cons 2 (.r (.cons 1 (.i .i64) (.cons 1 (.i .i64) (.nil)))) (.cons 1 (.b) (.nil))))))))))))))))), .r (.cons 1 (.i .i64) (.cons 1 (.i .i64) (.cons 1 (.i .i64) (.cons 1 (.i .i64) (.nil)))))] vs → PureC Tryz.prog x 7 vs (.bool true) := by
  intro x vs hx hv
  rcases vs with _ | ⟨v0, _ | ⟨v1, _ | ⟨v2, vs⟩⟩⟩ <;> simp only [Shvs, and_false] at hv
  obtain ⟨h0, h1, _⟩ := hv
  obtain ⟨s, a, cap, rfl, hW, hu⟩ := shv_state hx.2 h0
  obtain ⟨e, rfl, _⟩ := shv_event h1
  exact stays_walk hx.1 s e hW hu
end Go.Proofs.YtkokohkbhlnjkaaGreatDoor
namespace Go.Proofs.YtkokohkbhlnjkaaGreatDoor
set_option linter.unusedVariables false
set_option linter.unusedSimpArgs false
open Go Go.RowKit Go.ChangeShapes Go.WideShapes Go.ChangeAt Go.Proofs.YtkokohkbhlnjkaaGreatDoor.R
set_option maxRecDepth 100000
theorem engineStays_lifted (os : Os) (started : os.Started) (H : Type) (enc : TypeId × Value → H) :
    ReturnsInLeavingWide {} Tryz.checked os 7 .any (Rows.engineStaysRow.pre enc Tryz.prog Tryz.f7 (OpenSpec.ofChange Rows.engineStaysSpec)) (Rows.engineStaysSpec.post enc Tryz.prog Tryz.f7 false true false false) :=
  row_laid (C := Tryz.checked) (s := Rows.engineStaysSpec) (conds := []) (l := Rows.engineStaysRow.laid) (Xs := XLaid) (tb := 4) (ys := [.r (.cons 7 (.r (.cons 1 (.i .i64) (.cons 1 (.i .i64) (.cons 1 (.i .i64) (.cons 1 (.i .i64) (.cons 1 (.i .i64) (.cons 1 (.i .i64) (.cons 1 (.i .i64) (.nil))))))))) (.cons 1 (.i .i64) (.cons 1 (.i .i64) (.cons 1 (.i .i64) (.cons 1 (.i .i64) (.cons 1 (.i .i64) (.cons 3 (.r (.cons 1 (.i .i64) (.cons 1 (.i .i64) (.cons 1 (.i .i64) (.nil))))) (.cons 3 (.r (.cons 1 (.b) (.cons 1 (.i .i64) (.cons 1 (.i .i64) (.nil))))) (.cons 1 (.v 2 (.r (.cons 1 (.i .i64) (.cons 1 (.i .i64) (.nil))))) (.cons 2 (.r (.cons 1 (.i .i64) (.cons 1 (.i .i64) (.nil)))) (.cons 7 (.r (.cons 1 (.i .i64) (.cons 1 (.i .i64) (.cons 1 (.i .i64) (.cons 1 (.b) (.cons 1 (.b) (.cons 1 (.i .i64) (.cons 1 (.i .i64) (.nil))))))))) (.cons 6 (.r (.cons 1 (.b) (.cons 1 (.i .i64) (.cons 1 (.i .i64) (.cons 1 (.i .i64) (.cons 1 (.i .i64) (.cons 1 (.i .i64) (.nil)))))))) (.cons 1 (.i .i64) (.cons 1 (.i .i64) (.cons 2 (.r (.cons 1 (.i .i64) (.cons 1 (.i .i64) (.nil)))) (.cons 1 (.b) (.nil))))))))))))))))), .r (.cons 1 (.i .i64) (.cons 1 (.i .i64) (.cons 1 (.i .i64) (.cons 1 (.i .i64) (.nil)))))]) (by kernel_rfl) own_ started (by kernel_rfl) Tryz.func7
    (ChangeSpec.witness_shaped (enc := enc) (C := Tryz.checked) (os := os) (X := fun w _ => laidMetH Tryz.prog Rows.engineStaysRow.laid w) false (World.laidAll Tryz.prog os Rows.engineStaysRow.laid) #[.agg #[.int .i64 0, .int .i64 0, .int .i64 0, .int .i64 0, .int .i64 0, .int .i64 0, .int .i64 0, .int .i64 0, .int .i64 0, .int .i64 0, .int .i64 0, .int .i64 0, .int .i64 0, .int .i64 0, .int .i64 0, .bool false, .int .i64 0, .int .i64 0, .slice none 0 0, .int .i64 0, .int .i64 0, .int .i64 0, .int .i64 0, .int .i64 0, .bool false, .bool false, .int .i64 0, .int .i64 0, .bool false, .int .i64 0, .int .i64 0, .int .i64 0, .int .i64 0, .int .i64 0, .int .i64 0, .int .i64 0, .int .i64 0, .int .i64 0, .bool false], .agg #[.int .i64 0, .int .i64 0, .int .i64 0, .int .i64 0]] 8 (World.laidAll_os _ _ _)
      (World.shaped_of_ZipB (by kernel_rfl) (by kernel_rfl)) (by kernel_rfl) (by kernel_rfl) (by kernel_rfl)
      (by rw [MakeChecks.laidMetH_plain _ _ _ (by kernel_rfl)]; exact laidMet_laidAll _ (by kernel_rfl) (by kernel_rfl)))
    rfl laidOut_ (by kernel_rfl) rfl Tryz.underlying4
    (fun ds hd => by match ds, hd with | [d0, d1], _ => exact ⟨rfl, rfl, rfl⟩)
    (by kernel_rfl) laid_x (fun x vs hT h => p_EngineStays x vs hT h)
set_option maxHeartbeats 8000000 in
theorem engineStays_closed : joinedFacts Tryz.checked.prog 7 Tryz.f7 Rows.engineStaysSpec Rows.engineStaysRow = true := by
  unfold joinedFacts
  simp only [Bool.and_eq_true]
  repeat' apply And.intro
  all_goals first | (with_reducible exact laidOut_) | (as_aux_lemma => kernel_rfl)
theorem engineStays_named : Tryz.checked.prog.funcNamed Rows.engineStaysRow.func = some 7 := by kernel_rfl
theorem engineStays_inst : Tryz.f7.isInstance Tryz.checked.prog Rows.engineStaysRow.origin Rows.engineStaysRow.targs := of_decide_eq_true (by kernel_rfl)
theorem engineStays_wrap : Tryz.f7.isWrapper Tryz.checked.prog Rows.engineStaysRow.wrapper Rows.engineStaysRow.mainSum := by unfold Func.isWrapper; first | (rw [if_pos (by decide +kernel)]; kernel_rfl) | (rw [if_neg (by decide +kernel)]; exact ⟨rfl, rfl⟩)
theorem engineStays_said : Rows.EngineStaysSaid :=
  OpenClaim.holds_of_wide_leaving 7 Tryz.f7 rfl rfl rfl rfl rfl rfl rfl ⟨rfl, rfl, rfl, rfl, rfl⟩ rfl rfl rfl rfl rfl engineStays_named Tryz.func7 engineStays_closed
    engineStays_inst engineStays_wrap (fun os started H enc _ => engineStays_lifted os started H enc)
theorem engineStays_goes : true = Rows.engineStaysRow.goesBy Tryz.pinned.checked.prog := by kernel_rfl
theorem engineStays_wf : Rows.engineStaysRow.wfByText (OpenSpec.ofChange Rows.engineStaysSpec) = true := by kernel_rfl
theorem engineStays_wants : ([49, 64].all fun u => !Tryz.prog.wantsStandIn u) = true := by kernel_rfl
theorem engineStays_holds : Rows.EngineStaysCardSaid :=
  card_goes [.data] true (true, "9743dcc7216159cedf5af689d9831578d52e7622345c3cbb87c8bebbc0866563") true
    engineStays_said engineStays_wf engineStays_row_tie rfl ⟨rfl, rfl⟩ main_ rfl
    (fun f fn hf hfn => by
      obtain rfl : f = 7 := Option.some.inj (hf.symm.trans engineStays_named)
      obtain rfl : fn = Tryz.f7 := (Option.some.inj (Tryz.func7.symm.trans hfn)).symm
      exact ⟨looks_, fun j t ht => by
        rw [Tryz.params7] at ht
        have hm : t ∈ [49, 64] := by simpa using Array.mem_of_getElem? ht
        exact (show Tryz.prog.wantsStandIn t = false by simpa using List.all_eq_true.1 engineStays_wants t hm)⟩)
    engineStays_goes
#print axioms engineStays_holds
end Go.Proofs.YtkokohkbhlnjkaaGreatDoor
