/- 'sawtoothlaw21.EngineIdle' (time that goes by, and a pause of who sends, change nothing but that): for every input the call returns true, and each argument reads as it did: the tied card. Conditions: the listed variable holds what the program's text lays. -/
import Derived.Test.YtkokohkbhlnjkaaGreatDoorMa7
import Derived.Test.YtkokohkbhlnjkaaGreatDoorCards
import Derived.Test.YtkokohkbhlnjkaaGreatDoorTie
namespace Go.Proofs.YtkokohkbhlnjkaaGreatDoor
set_option linter.unusedVariables false
set_option linter.unusedSimpArgs false
open Go Go.RowKit Go.Proofs.YtkokohkbhlnjkaaGreatDoor.R
set_option maxRecDepth 50000
set_option maxHeartbeats 4000000
theorem idle_two (s : Es) (t : Int) : (esDo s ⟨7, t, 0, 0⟩).2 = (esDo s ⟨5, t, 0, 0⟩).2 ∧ ((esDo s ⟨7, t, 0, 0⟩).2 = 0 → (esDo s ⟨7, t, 0, 0⟩).1 = esAt s t ∧ (esDo s ⟨5, t, 0, 0⟩).1 = { esAt s t with lim := true }) := by
  have e1 : evCheck 7 t 0 0 = evCheck 5 t 0 0 := by unfold evCheck evRight; simp
  refine ⟨?_, fun h => ?_⟩
  · have b7 : ∀ z : Es, (esBy z ⟨7, t, 0, 0⟩).2 = 0 := fun z => by unfold esBy; simp
    have b5 : ∀ z : Es, (esBy z ⟨5, t, 0, 0⟩).2 = 0 := fun z => by unfold esBy; simp
    unfold esDo
    simp only [e1, Bool.cond_eq_ite, b7, b5]
    (repeat' split) <;> simp_all
  · obtain ⟨h1, h2, h3, h4, h5, h6, h7⟩ := esDo_good h
    dsimp only at h2 h3 h4 h5 h6 h7
    have hs := (esOk_iff s).2 h1
    have hc : clkStep s.now t = (t, 0) := by
      have h0 := h1.now.1
      unfold clkStep clkCheck
      simp only [show decide (0 ≤ t) = true by simpa using Int.le_trans h0 h3, show decide (t ≤ 1099511627776) = true by simpa using h4, show decide (t < s.now) = false by simpa using h3]
      rfl
    have hf := (esAt_ok h1 h3 h4).1
    refine ⟨by rw [h5]; unfold esBy; simp, ?_⟩
    unfold esDo
    rw [hs, ← e1, h2, hc]
    simp [hf, esBy]
theorem idle_fill {s : Es} {t : Int} (h : (esDo s ⟨7, t, 0, 0⟩).2 = 0) : (esFill s t).1.at_ = t ∧ s.bk.have_ ≤ (esFill s t).1.have_ := by
  obtain ⟨h1, h2, h3, h4, h5, h6, h7⟩ := esDo_good h
  dsimp only at h2 h3 h4 h5 h6 h7
  have := h1.now.1
  have := h1.bkAt
  obtain ⟨_, a, _, b⟩ := bkFill_ok (b := s.bk) (t := t) (r := esRate s) (m := s.cf.burst * s.cf.seg) h1.bk ⟨by omega, by omega⟩ (by omega)
  exact ⟨a, b⟩
theorem idle_walk {x : Nat → Obj → Prop} (hT : TensX x) (s : Es) (t : Int) {a : Option Addr} {cap : Nat} (hW : EsW s) (hu : MsAt x s.ms (.slice a s.ms.length cap)) :
    PureC Tryz.prog x 11 [s.v (.slice a s.ms.length cap), .int .i64 t] (.bool true) := by
  by_cases hl : s.ms.length ≤ 100
  rotate_left
  · have hd : decide ((100 : Int) < s.ms.length) = true := by simp; omega
    unfold Es.v Es.cells
    refine pureC_of_Sd Tryz.func11 rfl rfl fun w => ?_
    refine Sd_of_cW (by kernel_rfl) ?_
    repeat' (first | (with_reducible refine ifB_intro (fun _ => ?_) (fun _ => ?_)) | ((with_reducible show callW _ _ _ (some (24, _)) _ _); refine callP g_ref21_Same rfl (c_ref21_Same ..) ?_) | ((with_reducible show callW _ _ _ (some (29, _)) _ _); refine callP g_engine_Do rfl (c_engine_Do ..) ?_) | ((with_reducible show callW _ _ _ (some (32, _)) _ _); refine callP g_law21_awake rfl (c_law21_awake hT) ?_) | ((fail_if_success (with_reducible refine stk ?_)); simp only [WE, Nat.reduceLeDiff, segX, Nat.reduceBEq, Nat.reduceAdd, Nat.reduceEqDiff, Int.reduceNeg, Int.reduceEq, Int.reduceBEq, Int.reduceLT, Int.reduceLE, Int.reduceBNe, Int.reduceToNat, Nat.reduceMul, Nat.reduceMod, Int.reducePow, reduceIte, ty_3, ty_4, ty_39, ty_47, ty_49, fo_47_0, fo_47_1, fo_49_1, fo_49_8, fo_49_14, fo_49_15, el_39, tz_49, bd_64, bl_39, Tryz.underlying3, Tryz.underlying30, Tryz.underlying39, rs_11, hd]))
  have hd : decide ((100 : Int) < s.ms.length) = false := by simp; omega
  have hi := hW.in_ (by omega)
  obtain ⟨hfg, hok⟩ := idle_two s t
  by_cases hn : (esDo s ⟨7, t, 0, 0⟩).2 = 0
  · obtain ⟨q1, q2⟩ := hok hn
    obtain ⟨q3, q4⟩ := idle_fill hn
    have ht : esDo s ⟨7, t, 0, 0⟩ = (esAt s t, 0) := Prod.ext q1 hn
    have hv : esDo s ⟨5, t, 0, 0⟩ = ({ esAt s t with lim := true }, 0) := Prod.ext q2 (hfg.symm.trans hn)
    have hD : ∀ y, TensX y → MsAt y s.ms (.slice a s.ms.length cap) → _ := fun y hT hu => do_gen (y := y) hT ht hi hu
    have hD2 : ∀ y, TensX y → MsAt y s.ms (.slice a s.ms.length cap) → _ := fun y hT hu => do_gen (y := y) hT hv hi hu
    unfold esAt at hD hD2
    revert hD hD2
    generalize (esFill s t).1 = b at *
    intro hD hD2
    obtain ⟨ba, bh⟩ := b
    dsimp only at q3 q4
    subst q3
    have q5 : decide (s.bk.have_ ≤ bh) = true := by simpa using q4
    unfold Es.v Es.cells Ev.v at hD hD2
    dsimp only at hD hD2
    unfold Es.v Es.cells
    refine pureC_of_Sd Tryz.func11 rfl rfl fun w => ?_
    refine Sd_of_cW (by kernel_rfl) ?_
    repeat' (first | (with_reducible refine ifB_intro (fun _ => ?_) (fun _ => ?_)) | ((with_reducible show callW _ _ _ (some (24, _)) _ _); refine callP g_ref21_Same rfl (c_ref21_Same ..) ?_) | ((with_reducible show callW _ _ _ (some (29, _)) _ _); refine callP g_engine_Do rfl () ?_) | ((with_reducible show callW _ _ _ (some (32, _)) _ _); refine callP g_law21_awake rfl (c_law21_awake hT) ?_) | ((fail_if_success (with_reducible refine stk ?_)); simp only [WE, Nat.reduceLeDiff, segX, Nat.reduceBEq, Nat.reduceAdd, Nat.reduceEqDiff, Int.reduceNeg, Int.reduceEq, Int.reduceBEq, Int.reduceLT, Int.reduceLE, Int.reduceBNe, Int.reduceToNat, Nat.reduceMul, Nat.reduceMod, Int.reducePow, reduceIte, ty_3, ty_4, ty_39, ty_47, ty_49, fo_47_0, fo_47_1, fo_49_1, fo_49_8, fo_49_14, fo_49_15, el_39, tz_49, bd_64, bl_39, Tryz.underlying3, Tryz.underlying30, Tryz.underlying39, rs_11, hd, cells_agg]))
    refine callE g_engine_Do rfl (hD _ hT hu) ?_
    rintro _ x1 x2 ⟨a1, c1, rfl, hu1⟩ hs1 hs2
    have hT2 : TensX x2 := hT.mono hs1
    replace hu1 := hu1.mono hs2
    replace hu := hu.mono hs1
    repeat' (first | (with_reducible refine ifB_intro (fun _ => ?_) (fun _ => ?_)) | ((with_reducible show callW _ _ _ (some (24, _)) _ _); refine callP g_ref21_Same rfl (c_ref21_Same ..) ?_) | ((with_reducible show callW _ _ _ (some (29, _)) _ _); refine callP g_engine_Do rfl () ?_) | ((with_reducible show callW _ _ _ (some (32, _)) _ _); refine callP g_law21_awake rfl (c_law21_awake hT) ?_) | ((fail_if_success (with_reducible refine stk ?_)); simp only [WE, Nat.reduceLeDiff, segX, Nat.reduceBEq, Nat.reduceAdd, Nat.reduceEqDiff, Int.reduceNeg, Int.reduceEq, Int.reduceBEq, Int.reduceLT, Int.reduceLE, Int.reduceBNe, Int.reduceToNat, Nat.reduceMul, Nat.reduceMod, Int.reducePow, reduceIte, ty_3, ty_4, ty_39, ty_47, ty_49, fo_47_0, fo_47_1, fo_49_1, fo_49_8, fo_49_14, fo_49_15, el_39, tz_49, bd_64, bl_39, Tryz.underlying3, Tryz.underlying30, Tryz.underlying39, rs_11, hd, cells_agg]))
    refine callE g_engine_Do rfl (hD2 _ hT2 hu) ?_
    rintro _ x3 x4 ⟨a2, c2, rfl, hu2⟩ hs1 hs2
    have hT4 : TensX x4 := hT2.mono hs1
    replace hu2 := hu2.mono hs2
    replace hu := hu.mono hs1
    replace hu1 := hu1.mono hs1
    have hS := c_ref21_Same (x := x4) s (by omega) hu1 hu
    have hS2 := c_ref21_Same (x := x4) { s with now := ba, bk := ⟨ba, bh⟩, lim := true } (by dsimp only; omega) hu1 hu2
    unfold Es.v Es.cells at hS hS2
    dsimp only at hS hS2
    repeat' (first | (with_reducible refine ifB_intro (fun _ => ?_) (fun _ => ?_)) | ((with_reducible show callW _ _ _ (some (24, _)) _ _); refine callP g_ref21_Same rfl (hS) ?_) | ((with_reducible show callW _ _ _ (some (24, _)) _ _); refine callP g_ref21_Same rfl (hS2) ?_) | ((with_reducible show callW _ _ _ (some (29, _)) _ _); refine callP g_engine_Do rfl () ?_) | ((with_reducible show callW _ _ _ (some (32, _)) _ _); refine callP g_law21_awake rfl (c_law21_awake hT) ?_) | ((fail_if_success (with_reducible refine stk ?_)); simp only [WE, Nat.reduceLeDiff, segX, Nat.reduceBEq, Nat.reduceAdd, Nat.reduceEqDiff, Int.reduceNeg, Int.reduceEq, Int.reduceBEq, Int.reduceLT, Int.reduceLE, Int.reduceBNe, Int.reduceToNat, Nat.reduceMul, Nat.reduceMod, Int.reducePow, reduceIte, ty_3, ty_4, ty_39, ty_47, ty_49, fo_47_0, fo_47_1, fo_49_1, fo_49_8, fo_49_14, fo_49_15, el_39, tz_49, bd_64, bl_39, Tryz.underlying3, Tryz.underlying30, Tryz.underlying39, rs_11, bne_self_eq_false, cells_agg, q5, beq_self_eq_true]))
  · have e1 := esDo_err hn
    have e2 := esDo_err (hfg ▸ hn)
    obtain ⟨n, hnn⟩ : ∃ n, (esDo s ⟨7, t, 0, 0⟩).2 = n := ⟨_, rfl⟩
    have ht : esDo s ⟨7, t, 0, 0⟩ = (s, n) := Prod.ext e1 hnn
    have hv : esDo s ⟨5, t, 0, 0⟩ = (s, n) := Prod.ext e2 (hfg.symm.trans hnn)
    rw [hnn] at hn
    have hz : (n != 0) = true := by simpa using hn
    have hD : ∀ y, TensX y → MsAt y s.ms (.slice a s.ms.length cap) → _ := fun y hT hu => do_gen (y := y) hT ht hi hu
    have hD2 : ∀ y, TensX y → MsAt y s.ms (.slice a s.ms.length cap) → _ := fun y hT hu => do_gen (y := y) hT hv hi hu
    unfold Es.v Es.cells Ev.v at hD hD2
    unfold Es.v Es.cells
    refine pureC_of_Sd Tryz.func11 rfl rfl fun w => ?_
    refine Sd_of_cW (by kernel_rfl) ?_
    repeat' (first | (with_reducible refine ifB_intro (fun _ => ?_) (fun _ => ?_)) | ((with_reducible show callW _ _ _ (some (24, _)) _ _); refine callP g_ref21_Same rfl (hS) ?_) | ((with_reducible show callW _ _ _ (some (24, _)) _ _); refine callP g_ref21_Same rfl (hS2) ?_) | ((with_reducible show callW _ _ _ (some (29, _)) _ _); refine callP g_engine_Do rfl () ?_) | ((with_reducible show callW _ _ _ (some (32, _)) _ _); refine callP g_law21_awake rfl (c_law21_awake hT) ?_) | ((fail_if_success (with_reducible refine stk ?_)); simp only [WE, Nat.reduceLeDiff, segX, Nat.reduceBEq, Nat.reduceAdd, Nat.reduceEqDiff, Int.reduceNeg, Int.reduceEq, Int.reduceBEq, Int.reduceLT, Int.reduceLE, Int.reduceBNe, Int.reduceToNat, Nat.reduceMul, Nat.reduceMod, Int.reducePow, reduceIte, ty_3, ty_4, ty_39, ty_47, ty_49, fo_47_0, fo_47_1, fo_49_1, fo_49_8, fo_49_14, fo_49_15, el_39, tz_49, bd_64, bl_39, Tryz.underlying3, Tryz.underlying30, Tryz.underlying39, rs_11, hd, cells_agg]))
    refine callE g_engine_Do rfl (hD _ hT hu) ?_
    rintro _ x1 x2 ⟨a1, c1, rfl, hu1⟩ hs1 hs2
    have hT2 : TensX x2 := hT.mono hs1
    replace hu1 := hu1.mono hs2
    replace hu := hu.mono hs1
    repeat' (first | (with_reducible refine ifB_intro (fun _ => ?_) (fun _ => ?_)) | ((with_reducible show callW _ _ _ (some (24, _)) _ _); refine callP g_ref21_Same rfl (hS) ?_) | ((with_reducible show callW _ _ _ (some (24, _)) _ _); refine callP g_ref21_Same rfl (hS2) ?_) | ((with_reducible show callW _ _ _ (some (29, _)) _ _); refine callP g_engine_Do rfl () ?_) | ((with_reducible show callW _ _ _ (some (32, _)) _ _); refine callP g_law21_awake rfl (c_law21_awake hT) ?_) | ((fail_if_success (with_reducible refine stk ?_)); simp only [WE, Nat.reduceLeDiff, segX, Nat.reduceBEq, Nat.reduceAdd, Nat.reduceEqDiff, Int.reduceNeg, Int.reduceEq, Int.reduceBEq, Int.reduceLT, Int.reduceLE, Int.reduceBNe, Int.reduceToNat, Nat.reduceMul, Nat.reduceMod, Int.reducePow, reduceIte, ty_3, ty_4, ty_39, ty_47, ty_49, fo_47_0, fo_47_1, fo_49_1, fo_49_8, fo_49_14, fo_49_15, el_39, tz_49, bd_64, bl_39, Tryz.underlying3, Tryz.underlying30, Tryz.underlying39, rs_11, hd, cells_agg]))
    refine callE g_engine_Do rfl (hD2 _ hT2 hu) ?_
    rintro _ x3 x4 ⟨a2, c2, rfl, hu2⟩ hs1 hs2
    have hT4 : TensX x4 := hT2.mono hs1
    replace hu2 := hu2.mono hs2
    replace hu := hu.mono hs1
    replace hu1 := hu1.mono hs1
    have hS := c_ref21_Same (x := x4) s (by omega) hu1 hu
    have hS2 := c_ref21_Same (x := x4) s (by omega) hu2 hu
    unfold Es.v Es.cells at hS hS2
    repeat' (first | (with_reducible refine ifB_intro (fun _ => ?_) (fun _ => ?_)) | ((with_reducible show callW _ _ _ (some (24, _)) _ _); refine callP g_ref21_Same rfl (hS) ?_) | ((with_reducible show callW _ _ _ (some (24, _)) _ _); refine callP g_ref21_Same rfl (hS2) ?_) | ((with_reducible show callW _ _ _ (some (29, _)) _ _); refine callP g_engine_Do rfl () ?_) | ((with_reducible show callW _ _ _ (some (32, _)) _ _); refine callP g_law21_awake rfl (c_law21_awake hT) ?_) | ((fail_if_success (with_reducible refine stk ?_)); simp only [WE, Nat.reduceLeDiff, segX, Nat.reduceBEq, Nat.reduceAdd, Nat.reduceEqDiff, Int.reduceNeg, Int.reduceEq, Int.reduceBEq, Int.reduceLT, Int.reduceLE, Int.reduceBNe, Int.reduceToNat, Nat.reduceMul, Nat.reduceMod, Int.reducePow, reduceIte, ty_3, ty_4, ty_39, ty_47, ty_49, fo_47_0, fo_47_1, fo_49_1, fo_49_8, fo_49_14, fo_49_15, el_39, tz_49, bd_64, bl_39, Tryz.underlying3, Tryz.underlying30, Tryz.underlying39, rs_11, hz, cells_agg, beq_self_eq_true]))
theorem p_EngineIdle : ∀ (x : Nat → Obj → Prop) (vs : List Value), XLaid x → Shvs x [.r (.cons 7 (.r (.cons 1 (.i .i64) (.cons 1 (.i .i64) (.cons 1 (.i .i64) (.cons 1 (.i .i64) (.cons 1 (.i .i64) (.cons 1 (.i .i64) (.cons 1 (.i .i64) (.nil))))))))) (.cons 1 (.i .i64) (.cons 1 (.i .i64) (.cons 1 (.i .i64) (.cons 1 (.i .i64) (.cons 1 (.i .i64) (.cons 3 (.r (.cons 1 (.i .i64) (.cons 1 (.i .i64) (.cons 1 (.i .i64) (.nil))))) (.cons 3 (.r (.cons 1 (.b) (.cons 1 (.i .i64) (.cons 1 (.i .i64) (.nil))))) (.cons 1 (.v 2 (.r (.cons 1 (.i .i64) (.cons 1 (.i .i64) (.nil))))) (.cons 2 (.r (.cons 1 (.i .i64) (.cons 1 (.i .i64) (.nil)))) (.cons 7 (.r (.cons 1 (.i .i64) (.cons 1 (.i .i64) (.cons 1 (.i .i64) (.cons 1 (.b) (.cons 1 (.b) (.cons 1 (.i .i64) (.cons 1 (.i .i64) (.nil))))))))) (.cons 6 (.r (.cons 1 (.b) (.cons 1 (.i .i64) (.cons 1 (.i .i64) (.cons 1 (.i .i64) (.cons 1 (.i .i64) (.cons 1 (.i .i64) (.nil)))))))) (.cons 1 (.i .i64) (.cons 1 (.i .i64) (.cons 2 (.r (.cons 1 (.i .i64) (.cons 1 (.i .i64) (.nil)))) (.cons 1 (.b) (.nil))))))))))))))))), .i .i64] vs → PureC Tryz.prog x 11 vs (.bool true) := by
  intro x vs hx hv
  rcases vs with _ | ⟨v0, _ | ⟨v1, _ | ⟨v2, vs⟩⟩⟩ <;> simp only [Shvs, and_false] at hv
  obtain ⟨h0, h1, _⟩ := hv
  obtain ⟨s, a, cap, rfl, hW, hu⟩ := shv_state hx.2 h0
  obtain ⟨t, rfl, _⟩ := shv_int h1
  exact idle_walk hx.1 s t hW hu
end Go.Proofs.YtkokohkbhlnjkaaGreatDoor
namespace Go.Proofs.YtkokohkbhlnjkaaGreatDoor
set_option linter.unusedVariables false
set_option linter.unusedSimpArgs false
open Go Go.RowKit Go.ChangeShapes Go.WideShapes Go.ChangeAt Go.Proofs.YtkokohkbhlnjkaaGreatDoor.R
set_option maxRecDepth 100000
theorem engineIdle_lifted (os : Os) (started : os.Started) (H : Type) (enc : TypeId × Value → H) :
    ReturnsInLeavingWide {} Tryz.checked os 11 .any (Rows.engineIdleRow.pre enc Tryz.prog Tryz.f11 (OpenSpec.ofChange Rows.engineIdleSpec)) (Rows.engineIdleSpec.post enc Tryz.prog Tryz.f11 false true false false) :=
  row_laid (C := Tryz.checked) (s := Rows.engineIdleSpec) (conds := []) (l := Rows.engineIdleRow.laid) (Xs := XLaid) (tb := 4) (ys := [.r (.cons 7 (.r (.cons 1 (.i .i64) (.cons 1 (.i .i64) (.cons 1 (.i .i64) (.cons 1 (.i .i64) (.cons 1 (.i .i64) (.cons 1 (.i .i64) (.cons 1 (.i .i64) (.nil))))))))) (.cons 1 (.i .i64) (.cons 1 (.i .i64) (.cons 1 (.i .i64) (.cons 1 (.i .i64) (.cons 1 (.i .i64) (.cons 3 (.r (.cons 1 (.i .i64) (.cons 1 (.i .i64) (.cons 1 (.i .i64) (.nil))))) (.cons 3 (.r (.cons 1 (.b) (.cons 1 (.i .i64) (.cons 1 (.i .i64) (.nil))))) (.cons 1 (.v 2 (.r (.cons 1 (.i .i64) (.cons 1 (.i .i64) (.nil))))) (.cons 2 (.r (.cons 1 (.i .i64) (.cons 1 (.i .i64) (.nil)))) (.cons 7 (.r (.cons 1 (.i .i64) (.cons 1 (.i .i64) (.cons 1 (.i .i64) (.cons 1 (.b) (.cons 1 (.b) (.cons 1 (.i .i64) (.cons 1 (.i .i64) (.nil))))))))) (.cons 6 (.r (.cons 1 (.b) (.cons 1 (.i .i64) (.cons 1 (.i .i64) (.cons 1 (.i .i64) (.cons 1 (.i .i64) (.cons 1 (.i .i64) (.nil)))))))) (.cons 1 (.i .i64) (.cons 1 (.i .i64) (.cons 2 (.r (.cons 1 (.i .i64) (.cons 1 (.i .i64) (.nil)))) (.cons 1 (.b) (.nil))))))))))))))))), .i .i64]) (by kernel_rfl) own_ started (by kernel_rfl) Tryz.func11
    (ChangeSpec.witness_shaped (enc := enc) (C := Tryz.checked) (os := os) (X := fun w _ => laidMetH Tryz.prog Rows.engineIdleRow.laid w) false (World.laidAll Tryz.prog os Rows.engineIdleRow.laid) #[.agg #[.int .i64 0, .int .i64 0, .int .i64 0, .int .i64 0, .int .i64 0, .int .i64 0, .int .i64 0, .int .i64 0, .int .i64 0, .int .i64 0, .int .i64 0, .int .i64 0, .int .i64 0, .int .i64 0, .int .i64 0, .bool false, .int .i64 0, .int .i64 0, .slice none 0 0, .int .i64 0, .int .i64 0, .int .i64 0, .int .i64 0, .int .i64 0, .bool false, .bool false, .int .i64 0, .int .i64 0, .bool false, .int .i64 0, .int .i64 0, .int .i64 0, .int .i64 0, .int .i64 0, .int .i64 0, .int .i64 0, .int .i64 0, .int .i64 0, .bool false], .int .i64 0] 8 (World.laidAll_os _ _ _)
      (World.shaped_of_ZipB (by kernel_rfl) (by kernel_rfl)) (by kernel_rfl) (by kernel_rfl) (by kernel_rfl)
      (by rw [MakeChecks.laidMetH_plain _ _ _ (by kernel_rfl)]; exact laidMet_laidAll _ (by kernel_rfl) (by kernel_rfl)))
    rfl laidOut_ (by kernel_rfl) rfl Tryz.underlying4
    (fun ds hd => by match ds, hd with | [d0, d1], _ => exact ⟨rfl, rfl, rfl⟩)
    (by kernel_rfl) laid_x (fun x vs hT h => p_EngineIdle x vs hT h)
set_option maxHeartbeats 8000000 in
theorem engineIdle_closed : joinedFacts Tryz.checked.prog 11 Tryz.f11 Rows.engineIdleSpec Rows.engineIdleRow = true := by
  unfold joinedFacts
  simp only [Bool.and_eq_true]
  repeat' apply And.intro
  all_goals first | (with_reducible exact laidOut_) | (as_aux_lemma => kernel_rfl)
theorem engineIdle_named : Tryz.checked.prog.funcNamed Rows.engineIdleRow.func = some 11 := by kernel_rfl
theorem engineIdle_inst : Tryz.f11.isInstance Tryz.checked.prog Rows.engineIdleRow.origin Rows.engineIdleRow.targs := of_decide_eq_true (by kernel_rfl)
theorem engineIdle_wrap : Tryz.f11.isWrapper Tryz.checked.prog Rows.engineIdleRow.wrapper Rows.engineIdleRow.mainSum := by unfold Func.isWrapper; first | (rw [if_pos (by decide +kernel)]; kernel_rfl) | (rw [if_neg (by decide +kernel)]; exact ⟨rfl, rfl⟩)
theorem engineIdle_said : Rows.EngineIdleSaid :=
  OpenClaim.holds_of_wide_leaving 11 Tryz.f11 rfl rfl rfl rfl rfl rfl rfl ⟨rfl, rfl, rfl, rfl, rfl⟩ rfl rfl rfl rfl rfl engineIdle_named Tryz.func11 engineIdle_closed
    engineIdle_inst engineIdle_wrap (fun os started H enc _ => engineIdle_lifted os started H enc)
theorem engineIdle_goes : true = Rows.engineIdleRow.goesBy Tryz.pinned.checked.prog := by kernel_rfl
theorem engineIdle_wf : Rows.engineIdleRow.wfByText (OpenSpec.ofChange Rows.engineIdleSpec) = true := by kernel_rfl
theorem engineIdle_wants : ([49, 3].all fun u => !Tryz.prog.wantsStandIn u) = true := by kernel_rfl
theorem engineIdle_holds : Rows.EngineIdleCardSaid :=
  card_goes [.data] true (true, "9743dcc7216159cedf5af689d9831578d52e7622345c3cbb87c8bebbc0866563") true
    engineIdle_said engineIdle_wf engineIdle_row_tie rfl ⟨rfl, rfl⟩ main_ rfl
    (fun f fn hf hfn => by
      obtain rfl : f = 11 := Option.some.inj (hf.symm.trans engineIdle_named)
      obtain rfl : fn = Tryz.f11 := (Option.some.inj (Tryz.func11.symm.trans hfn)).symm
      exact ⟨looks_, fun j t ht => by
        rw [Tryz.params11] at ht
        have hm : t ∈ [49, 3] := by simpa using Array.mem_of_getElem? ht
        exact (show Tryz.prog.wantsStandIn t = false by simpa using List.all_eq_true.1 engineIdle_wants t hm)⟩)
    engineIdle_goes
#print axioms engineIdle_holds
end Go.Proofs.YtkokohkbhlnjkaaGreatDoor
