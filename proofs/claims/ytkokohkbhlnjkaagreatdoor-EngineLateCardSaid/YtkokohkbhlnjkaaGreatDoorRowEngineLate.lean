/- 'sawtoothlaw21.EngineLate' (a timeout leaves two segments and doubles the next one): for every input the call returns true, and each argument reads as it did: the tied card. Conditions: the listed variable holds what the program's text lays. -/
import Derived.Test.YtkokohkbhlnjkaaGreatDoorMa7
import Derived.Test.YtkokohkbhlnjkaaGreatDoorCards
import Derived.Test.YtkokohkbhlnjkaaGreatDoorTie
namespace Go.Proofs.YtkokohkbhlnjkaaGreatDoor
set_option linter.unusedVariables false
set_option linter.unusedSimpArgs false
open Go Go.RowKit Go.Proofs.YtkokohkbhlnjkaaGreatDoor.R
set_option maxRecDepth 50000
set_option maxHeartbeats 4000000
theorem fld_rto {K : Value → Prop} (a b c d e f : Value) (h : K e) : pureW Tryz.prog (Instr.field 54 (.agg #[a, b, c, d, e, f]) 4) K := ⟨_, fun w => ⟨by kernel_rfl, by kernel_rfl⟩, h⟩
theorem rto_next {r : Rtt} {c : Cfg} {t : Int} (h1 : 1 ≤ c.great) (h2 : c.great ≤ 1099511627776) (ht : 0 ≤ t ∧ t ≤ 64) : rtoOf r c (rtoBack r c t) = mn (2 * rtoOf r c t) c.great := by
  have hi := rtoOf_in (r := r) (c := c) (t := t) h1 h2
  have hw := wn_in h1 h2
  unfold rtoBack
  rw [decide_eq_false (show ¬ t < 0 by omega)]
  simp only [cond_false]
  cases h : (rtoOf r c t == wn c.great) with
  | true =>
    rw [beq_iff_eq, hw] at h
    simp only [cond_true]
    unfold mn
    rw [h, if_pos (by omega)]
  | false =>
    simp only [cond_false]
    rw [show w64 (t + 1) = t + 1 from wr_i64 (by omega) (by omega), rtoOf_succ _ _ ht.1, hw]
theorem late_is {s : Es} {t : Int} (h : (esDo s ⟨4, t, 0, 0⟩).2 = 0) : ∃ w, (esDo s ⟨4, t, 0, 0⟩).1 = w ∧ 0 < s.fl.out ∧ w.win = 131072 ∧ w.fl = ⟨s.fl.sent, s.fl.told, 0⟩ ∧ w.thr = mx (7 * s.win / 10) 131072 ∧ w.ep.on = false ∧ esRto w = mn (2 * esRto s) s.cf.great ∧ w.cf = s.cf ∧ w.rec_ = s.fl.sent := by
  obtain ⟨h1, h2, h3, h4, h5, h6, h7⟩ := esDo_good h
  have e0 : ∀ z : Es, esBy z ⟨4, t, 0, 0⟩ = esLate z := fun z => by unfold esBy; simp
  rw [e0] at h7
  rw [h5, e0]
  refine ⟨_, rfl, ?_⟩
  dsimp only at h7 ⊢
  have hfl : flOk s.fl := h1.fl
  have hg := h1.cf.great
  have ho : s.fl.out ≠ 0 := by
    intro hz
    unfold esLate at h7
    rw [if_pos (show (esAt s t).fl.out = 0 from hz)] at h7
    cases h7
  have ho2 : 0 < s.fl.out := by have := hfl; unfold flOk at this; omega
  have hb := flBack_can (t := 0) hfl (show 1 ≤ s.fl.out by omega) (Int.le_refl _)
  unfold esLate
  rw [if_neg (show ¬ (esAt s t).fl.out = 0 from ho), if_neg (show ¬ (flBack (esAt s t).fl (esAt s t).fl.out 0).2 ≠ 0 by show ¬ (flBack s.fl s.fl.out 0).2 ≠ 0; rw [hb]; simp)]
  refine ⟨ho2, rfl, ?_, cutLeast_eq h1.winM, rfl, rto_next hg.1 hg.2 h1.back, rfl, ?_⟩
  · show (flBack s.fl s.fl.out 0).1 = _
    rw [hb]; simp
  · show (flBack s.fl s.fl.out 0).1.sent = _
    rw [hb]
theorem late_no {s : Es} {t : Int} (h : (esDo s ⟨4, t, 0, 0⟩).2 = 202) : s.fl.out = 0 := by
  have e0 : ∀ z : Es, esBy z ⟨4, t, 0, 0⟩ = esLate z := fun z => by unfold esBy; simp
  cases hs : esOk s with
  | false => unfold esDo at h; rw [hs] at h; simp at h
  | true =>
    have hok := (esOk_iff s).1 hs
    unfold esDo at h
    rw [hs] at h
    simp only [Bool.not_true, cond_false, e0] at h
    split at h
    · exfalso
      dsimp only at h
      revert h
      unfold evCheck
      simp only [Bool.cond_eq_ite]
      (repeat' split) <;> decide
    · split at h
      · exfalso
        dsimp only at h
        revert h
        unfold clkStep
        simp only [Bool.cond_eq_ite]
        (repeat' split) <;> simp
      · split at h
        · exfalso
          revert h
          unfold esFill bkFill
          (repeat' split) <;> simp
        · by_cases hz : s.fl.out = 0
          · exact hz
          · exfalso
            have hfl : flOk s.fl := hok.fl
            have hb := flBack_can (t := 0) hfl (show 1 ≤ s.fl.out by have := hfl; unfold flOk at this; omega) (Int.le_refl _)
            have hL : ∀ k, (esLate (esAt s k)).2 = 0 := fun k => by
              unfold esLate
              rw [if_neg (show ¬ (esAt s k).fl.out = 0 from hz), if_neg (show ¬ (flBack (esAt s k).fl (esAt s k).fl.out 0).2 ≠ 0 by show ¬ (flBack s.fl s.fl.out 0).2 ≠ 0; rw [hb]; simp)]
            rw [hL] at h
            simp at h
            rw [hL] at h
            cases h
end Go.Proofs.YtkokohkbhlnjkaaGreatDoor
namespace Go.Proofs.YtkokohkbhlnjkaaGreatDoor
set_option linter.unusedVariables false
set_option linter.unusedSimpArgs false
open Go Go.RowKit Go.Proofs.YtkokohkbhlnjkaaGreatDoor.R
set_option maxRecDepth 50000
set_option maxHeartbeats 4000000
theorem fld_part' {K : Value → Prop} (a b c d e f : Value) (h : K f) : pureW Tryz.prog (Instr.field 54 (.agg #[a, b, c, d, e, f]) 5) K := fld_part a b c d e f h
theorem phase_ne {s : Es} (h : esRecs s = false) : (esPhase s != 3) = true := by
  unfold esPhase
  rw [h]
  cases esSlow s <;> cases s.hy.gentle <;> rfl
theorem late_walk {x : Nat → Obj → Prop} (hT : TensX x) (s : Es) (tm : Int) {a : Option Addr} {cap : Nat} (hW : EsW s) (hu : MsAt x s.ms (.slice a s.ms.length cap)) :
    PureC Tryz.prog x 10 [s.v (.slice a s.ms.length cap), .int .i64 tm] (.bool true) := by
  by_cases hl : s.ms.length ≤ 100
  rotate_left
  · have hd : decide ((100 : Int) < s.ms.length) = true := by simp; omega
    unfold Es.v Es.cells
    refine pureC_of_Sd Tryz.func10 rfl rfl fun w => ?_
    refine Sd_of_cW (by kernel_rfl) ?_
    repeat' (first | (with_reducible refine ifB_intro (fun _ => ?_) (fun _ => ?_)) | ((with_reducible show callW _ _ _ (some (24, _)) _ _); refine callP g_ref21_Same rfl (c_ref21_Same ..) ?_) | ((with_reducible show callW _ _ _ (some (29, _)) _ _); refine callP g_engine_Do rfl (c_engine_Do ..) ?_) | ((with_reducible show callW _ _ _ (some (30, _)) _ _); refine callP g_engine_Look rfl (c_engine_Look ..) ?_) | ((with_reducible show callW _ _ _ (some (32, _)) _ _); refine callP g_law21_awake rfl (c_law21_awake hT) ?_) | ((with_reducible show cW _ _ (.region 8 _ true) _ _); refine cW_drawF lx_10_8 (by kernel_rfl) mixed_ (by kernel_rfl) ?_) | ((fail_if_success (with_reducible refine stk ?_)); simp only [WE, Nat.reduceLeDiff, segX, Nat.reduceBEq, Nat.reduceAdd, Nat.reduceEqDiff, Int.reduceNeg, Int.reduceEq, Int.reduceBEq, Int.reduceLT, Int.reduceLE, Int.reduceBNe, Int.reduceToNat, Nat.reduceMul, Nat.reduceMod, Int.reducePow, reduceIte, ty_3, ty_4, ty_39, ty_49, fo_23_5, fo_36_1, fo_36_2, fo_45_0, fo_49_0, fo_49_3, fo_49_4, fo_49_6, fo_49_8, fo_49_11, el_39, tz_49, bd_64, bl_39, Tryz.underlying3, Tryz.underlying30, Tryz.underlying39, rs_10, hd]))
  have hd : decide ((100 : Int) < s.ms.length) = false := by simp; omega
  have hi := hW.in_ (by omega)
  obtain ⟨t, n, ht⟩ : ∃ t n, esDo s ⟨4, tm, 0, 0⟩ = (t, n) := ⟨_, _, rfl⟩
  have hD := do_gen hT ht hi hu
  unfold Es.v Es.cells Ev.v at hD
  unfold Es.v Es.cells
  by_cases hn : n = 0
  · subst hn
    have h0 := esDo_stays (s := s) (e := ⟨4, tm, 0, 0⟩) (by rw [ht])
    have hfl := esDo_fl hi.fl (e := ⟨4, tm, 0, 0⟩) (by rw [ht])
    have hms := esDo_ms s ⟨4, tm, 0, 0⟩
    obtain ⟨t', e1, q1, q2, q3, q4, q5, q6, q7, q8⟩ := late_is (s := s) (t := tm) (by rw [ht])
    rw [ht] at h0 hfl hms e1
    dsimp only at h0 hfl hms e1
    subst e1
    obtain ⟨h1, h2, h3, h4⟩ := h0
    have hw := h1.winM
    have hg := h1.cf.great
    have hr := rtoOf_in (r := s.rtt) (c := s.cf.g) (t := s.back) hg.1 hg.2
    have hph : esRecs t = false := by
      have h5 : flOk s.fl := h1.fl
      have h6 := hi.fl.sent
      unfold esRecs esRes
      rw [q3, q8]
      unfold flOk at h5
      unfold in64 at h6
      rw [wr_i64 (by dsimp only; omega) (by dsimp only; omega)]
      simp
    have hp := phase_ne hph
    have w1 : wr .i64 (7 * s.win) = 7 * s.win := by rw [wr_i64 (by omega) (by omega)]
    have w2 : wr .i64 ((7 * s.win).tdiv 10) = 7 * s.win / 10 := by rw [Int.tdiv_eq_ediv_of_nonneg (by omega), wr_i64 (by omega) (by omega)]
    have w3 : wr .i64 (2 * esRto s) = 2 * esRto s := by unfold esRto; have : s.cf.g.great = s.cf.great := rfl; rw [wr_i64 (by omega) (by omega)]
    have z1 : decide ((0 : Int) < s.fl.out) = true := by simpa using q1
    have hL2 : ∀ y, TensX y → ∀ u, MsAt y t.ms u → PureC Tryz.prog y 30 [t.v u] (esLook t).v := fun y hT u hu => c_engine_Look hT t hfl (by have := h2.back; omega) (by omega) hu
    unfold esLook at hL2
    rw [(esOk_iff t).2 h2, q6] at hL2
    generalize esPhase t = P at hL2 hp
    generalize esRate t = R at hL2
    generalize hTT : esRto s = T at hL2 w3
    unfold Nt.v Es.v Es.cells at hL2
    obtain ⟨cft, nowt, lastt, wint, thrt, hight, flt, rttt, mst, rdt, hyt, ept, rect, backt, bkt, limt⟩ := t
    obtain ⟨eon, es1, es2, es3, es4, es5⟩ := ept
    dsimp only [cond_true] at h3 h4 q2 q3 q4 q5 hL2
    subst h3; subst h4; subst q2; subst q3; subst q4; subst q5
    refine pureC_of_Sd Tryz.func10 rfl rfl fun w => ?_
    refine Sd_of_cW (by kernel_rfl) ?_
    repeat' (first | (with_reducible refine ifB_intro (fun _ => ?_) (fun _ => ?_)) | ((with_reducible show callW _ _ _ (some (24, _)) _ _); refine callP g_ref21_Same rfl (c_ref21_Same ..) ?_) | ((with_reducible show callW _ _ _ (some (29, _)) _ _); refine callP g_engine_Do rfl () ?_) | ((with_reducible show callW _ _ _ (some (30, _)) _ _); refine callP g_engine_Look rfl (c_engine_Look ..) ?_) | ((with_reducible show callW _ _ _ (some (32, _)) _ _); refine callP g_law21_awake rfl (c_law21_awake hT) ?_) | ((with_reducible show cW _ _ (.region 8 _ true) _ _); refine cW_drawF lx_10_8 (by kernel_rfl) mixed_ (by kernel_rfl) ?_) | ((fail_if_success (with_reducible refine stk ?_)); simp only [WE, Nat.reduceLeDiff, segX, Nat.reduceBEq, Nat.reduceAdd, Nat.reduceEqDiff, Int.reduceNeg, Int.reduceEq, Int.reduceBEq, Int.reduceLT, Int.reduceLE, Int.reduceBNe, Int.reduceToNat, Nat.reduceMul, Nat.reduceMod, Int.reducePow, reduceIte, ty_3, ty_4, ty_39, ty_49, fo_23_5, fo_36_1, fo_36_2, fo_45_0, fo_49_0, fo_49_3, fo_49_4, fo_49_6, fo_49_8, fo_49_11, el_39, tz_49, bd_64, bl_39, Tryz.underlying3, Tryz.underlying30, Tryz.underlying39, rs_10, hd, cells_agg]))
    refine callE g_engine_Do rfl hD ?_
    rintro _ x1 x2 ⟨a1, c1, rfl, hu1⟩ hs1 hs2
    have hT2 : TensX x2 := hT.mono hs1
    have hu2 := hu1.mono hs2
    have hu3 := hu.mono hs1
    have hL := c_engine_Look hT2 s hi.fl (by have := h1.back; omega) (by omega) hu3
    unfold esLook at hL
    rw [(esOk_iff s).2 h1, hTT] at hL
    unfold Nt.v Es.v Es.cells at hL
    dsimp only [cond_true] at hL
    repeat' (first | (with_reducible refine fld_rto _ _ _ _ _ _ ?_) | (with_reducible refine fld_part' _ _ _ _ _ _ ?_) | (with_reducible refine ifB_intro (fun _ => ?_) (fun _ => ?_)) | ((with_reducible show callW _ _ _ (some (24, _)) _ _); refine callP g_ref21_Same rfl (c_ref21_Same ..) ?_) | ((with_reducible show callW _ _ _ (some (29, _)) _ _); refine callP g_engine_Do rfl () ?_) | ((with_reducible show callW _ _ _ (some (30, _)) _ _); refine callP g_engine_Look rfl (hL) ?_) | ((with_reducible show callW _ _ _ (some (30, _)) _ _); refine callP g_engine_Look rfl (hL2 _ hT2 _ hu2) ?_) | ((with_reducible show callW _ _ _ (some (32, _)) _ _); refine callP g_law21_awake rfl (c_law21_awake hT) ?_) | ((with_reducible show cW _ _ (.region 8 _ true) _ _); refine cW_drawF lx_10_8 (by kernel_rfl) mixed_ (by kernel_rfl) ?_) | ((fail_if_success (with_reducible refine stk ?_)); simp only [WE, Nat.reduceLeDiff, segX, Nat.reduceBEq, Nat.reduceAdd, Nat.reduceEqDiff, Int.reduceNeg, Int.reduceEq, Int.reduceBEq, Int.reduceLT, Int.reduceLE, Int.reduceBNe, Int.reduceToNat, Nat.reduceMul, Nat.reduceMod, Int.reducePow, reduceIte, ty_3, ty_4, ty_39, ty_49, fo_23_5, fo_36_1, fo_36_2, fo_45_0, fo_49_0, fo_49_3, fo_49_4, fo_49_6, fo_49_8, fo_49_11, el_39, tz_49, bd_64, bl_39, Tryz.underlying3, Tryz.underlying30, Tryz.underlying39, rs_10, bne_self_eq_false, cells_agg, z1, w1, w2, w3, hp, beq_self_eq_true, Bool.and_self, Bool.not_false]))
  · have h0 := esDo_err (s := s) (e := ⟨4, tm, 0, 0⟩) (by rw [ht]; exact hn)
    rw [ht] at h0
    dsimp only at h0
    subst h0
    have hz : (n != 0) = true := by simpa using hn
    have hno : n = 202 → t.fl.out = 0 := fun h => late_no (t := tm) (by rw [ht]; exact h)
    by_cases h202 : n = 202
    · have ho := hno h202
      subst h202
      refine pureC_of_Sd Tryz.func10 rfl rfl fun w => ?_
      refine Sd_of_cW (by kernel_rfl) ?_
      repeat' (first | (with_reducible refine ifB_intro (fun _ => ?_) (fun _ => ?_)) | ((with_reducible show callW _ _ _ (some (24, _)) _ _); refine callP g_ref21_Same rfl (c_ref21_Same ..) ?_) | ((with_reducible show callW _ _ _ (some (29, _)) _ _); refine callP g_engine_Do rfl () ?_) | ((with_reducible show callW _ _ _ (some (30, _)) _ _); refine callP g_engine_Look rfl (hL) ?_) | ((with_reducible show callW _ _ _ (some (30, _)) _ _); refine callP g_engine_Look rfl (hL2 _ hT2 _ hu2) ?_) | ((with_reducible show callW _ _ _ (some (32, _)) _ _); refine callP g_law21_awake rfl (c_law21_awake hT) ?_) | ((with_reducible show cW _ _ (.region 8 _ true) _ _); refine cW_drawF lx_10_8 (by kernel_rfl) mixed_ (by kernel_rfl) ?_) | ((fail_if_success (with_reducible refine stk ?_)); simp only [WE, Nat.reduceLeDiff, segX, Nat.reduceBEq, Nat.reduceAdd, Nat.reduceEqDiff, Int.reduceNeg, Int.reduceEq, Int.reduceBEq, Int.reduceLT, Int.reduceLE, Int.reduceBNe, Int.reduceToNat, Nat.reduceMul, Nat.reduceMod, Int.reducePow, reduceIte, ty_3, ty_4, ty_39, ty_49, fo_23_5, fo_36_1, fo_36_2, fo_45_0, fo_49_0, fo_49_3, fo_49_4, fo_49_6, fo_49_8, fo_49_11, el_39, tz_49, bd_64, bl_39, Tryz.underlying3, Tryz.underlying30, Tryz.underlying39, rs_10, hd, cells_agg]))
      refine callE g_engine_Do rfl hD ?_
      rintro _ x1 x2 ⟨a1, c1, rfl, hu1⟩ hs1 hs2
      have hu2 := hu1.mono hs2
      have hu3 := hu.mono hs1
      have hS := c_ref21_Same (x := x2) t (by omega) hu2 hu3
      unfold Es.v Es.cells at hS
      rw [ho] at hS
      repeat' (first | (with_reducible refine ifB_intro (fun _ => ?_) (fun _ => ?_)) | ((with_reducible show callW _ _ _ (some (24, _)) _ _); refine callP g_ref21_Same rfl (hS) ?_) | ((with_reducible show callW _ _ _ (some (29, _)) _ _); refine callP g_engine_Do rfl () ?_) | ((with_reducible show callW _ _ _ (some (30, _)) _ _); refine callP g_engine_Look rfl (hL) ?_) | ((with_reducible show callW _ _ _ (some (30, _)) _ _); refine callP g_engine_Look rfl (hL2 _ hT2 _ hu2) ?_) | ((with_reducible show callW _ _ _ (some (32, _)) _ _); refine callP g_law21_awake rfl (c_law21_awake hT) ?_) | ((with_reducible show cW _ _ (.region 8 _ true) _ _); refine cW_drawF lx_10_8 (by kernel_rfl) mixed_ (by kernel_rfl) ?_) | ((fail_if_success (with_reducible refine stk ?_)); simp only [WE, Nat.reduceLeDiff, segX, Nat.reduceBEq, Nat.reduceAdd, Nat.reduceEqDiff, Int.reduceNeg, Int.reduceEq, Int.reduceBEq, Int.reduceLT, Int.reduceLE, Int.reduceBNe, Int.reduceToNat, Nat.reduceMul, Nat.reduceMod, Int.reducePow, reduceIte, ty_3, ty_4, ty_39, ty_49, fo_23_5, fo_36_1, fo_36_2, fo_45_0, fo_49_0, fo_49_3, fo_49_4, fo_49_6, fo_49_8, fo_49_11, el_39, tz_49, bd_64, bl_39, Tryz.underlying3, Tryz.underlying30, Tryz.underlying39, rs_10, Int.reduceBNe, ho, cells_agg, beq_self_eq_true, bne_self_eq_false]))
    · have hz2 : (n != 202) = true := by simpa using h202
      refine pureC_of_Sd Tryz.func10 rfl rfl fun w => ?_
      refine Sd_of_cW (by kernel_rfl) ?_
      repeat' (first | (with_reducible refine ifB_intro (fun _ => ?_) (fun _ => ?_)) | ((with_reducible show callW _ _ _ (some (24, _)) _ _); refine callP g_ref21_Same rfl (hS) ?_) | ((with_reducible show callW _ _ _ (some (29, _)) _ _); refine callP g_engine_Do rfl () ?_) | ((with_reducible show callW _ _ _ (some (30, _)) _ _); refine callP g_engine_Look rfl (hL) ?_) | ((with_reducible show callW _ _ _ (some (30, _)) _ _); refine callP g_engine_Look rfl (hL2 _ hT2 _ hu2) ?_) | ((with_reducible show callW _ _ _ (some (32, _)) _ _); refine callP g_law21_awake rfl (c_law21_awake hT) ?_) | ((with_reducible show cW _ _ (.region 8 _ true) _ _); refine cW_drawF lx_10_8 (by kernel_rfl) mixed_ (by kernel_rfl) ?_) | ((fail_if_success (with_reducible refine stk ?_)); simp only [WE, Nat.reduceLeDiff, segX, Nat.reduceBEq, Nat.reduceAdd, Nat.reduceEqDiff, Int.reduceNeg, Int.reduceEq, Int.reduceBEq, Int.reduceLT, Int.reduceLE, Int.reduceBNe, Int.reduceToNat, Nat.reduceMul, Nat.reduceMod, Int.reducePow, reduceIte, ty_3, ty_4, ty_39, ty_49, fo_23_5, fo_36_1, fo_36_2, fo_45_0, fo_49_0, fo_49_3, fo_49_4, fo_49_6, fo_49_8, fo_49_11, el_39, tz_49, bd_64, bl_39, Tryz.underlying3, Tryz.underlying30, Tryz.underlying39, rs_10, hd, cells_agg]))
      refine callE g_engine_Do rfl hD ?_
      rintro _ x1 x2 ⟨a1, c1, rfl, hu1⟩ hs1 hs2
      have hu2 := hu1.mono hs2
      have hu3 := hu.mono hs1
      have hS := c_ref21_Same (x := x2) t (by omega) hu2 hu3
      unfold Es.v Es.cells at hS
      repeat' (first | (with_reducible refine ifB_intro (fun _ => ?_) (fun _ => ?_)) | ((with_reducible show callW _ _ _ (some (24, _)) _ _); refine callP g_ref21_Same rfl (hS) ?_) | ((with_reducible show callW _ _ _ (some (29, _)) _ _); refine callP g_engine_Do rfl () ?_) | ((with_reducible show callW _ _ _ (some (30, _)) _ _); refine callP g_engine_Look rfl (hL) ?_) | ((with_reducible show callW _ _ _ (some (30, _)) _ _); refine callP g_engine_Look rfl (hL2 _ hT2 _ hu2) ?_) | ((with_reducible show callW _ _ _ (some (32, _)) _ _); refine callP g_law21_awake rfl (c_law21_awake hT) ?_) | ((with_reducible show cW _ _ (.region 8 _ true) _ _); refine cW_drawF lx_10_8 (by kernel_rfl) mixed_ (by kernel_rfl) ?_) | ((fail_if_success (with_reducible refine stk ?_)); simp only [WE, Nat.reduceLeDiff, segX, Nat.reduceBEq, Nat.reduceAdd, Nat.reduceEqDiff, Int.reduceNeg, Int.reduceEq, Int.reduceBEq, Int.reduceLT, Int.reduceLE, Int.reduceBNe, Int.reduceToNat, Nat.reduceMul, Nat.reduceMod, Int.reducePow, reduceIte, ty_3, ty_4, ty_39, ty_49, fo_23_5, fo_36_1, fo_36_2, fo_45_0, fo_49_0, fo_49_3, fo_49_4, fo_49_6, fo_49_8, fo_49_11, el_39, tz_49, bd_64, bl_39, Tryz.underlying3, Tryz.underlying30, Tryz.underlying39, rs_10, hz, hz2, cells_agg]))
theorem p_EngineLate : ∀ (x : Nat → Obj → Prop) (vs : List Value), XLaid x → Shvs x [.r (.cons 7 (.r (.cons 1 (.i .i64) (.cons 1 (.i .i64) (.cons 1 (.i .i64) (.cons 1 (.i .i64) (.cons 1 (.i .i64) (.cons 1 (.i .i64) (.cons 1 (.i .i64) (.nil))))))))) (.cons 1 (.i .i64) (.cons 1 (.i .i64) (.cons 1 (.i .i64) (.cons 1 (.i .i64) (.cons 1 (.i .i64) (.cons 3 (.r (.cons 1 (.i .i64) (.cons 1 (.i .i64) (.cons 1 (.i .i64) (.nil))))) (.cons 3 (.r (.cons 1 (.b) (.cons 1 (.i .i64) (.cons 1 (.i .i64) (.nil))))) (.cons 1 (.v 2 (.r (.cons 1 (.i .i64) (.cons 1 (.i .i64) (.nil))))) (.cons 2 (.r (.cons 1 (.i .i64) (.cons 1 (.i .i64) (.nil)))) (.cons 7 (.r (.cons 1 (.i .i64) (.cons 1 (.i .i64) (.cons 1 (.i .i64) (.cons 1 (.b) (.cons 1 (.b) (.cons 1 (.i .i64) (.cons 1 (.i .i64) (.nil))))))))) (.cons 6 (.r (.cons 1 (.b) (.cons 1 (.i .i64) (.cons 1 (.i .i64) (.cons 1 (.i .i64) (.cons 1 (.i .i64) (.cons 1 (.i .i64) (.nil)))))))) (.cons 1 (.i .i64) (.cons 1 (.i .i64) (.cons 2 (.r (.cons 1 (.i .i64) (.cons 1 (.i .i64) (.nil)))) (.cons 1 (.b) (.nil))))))))))))))))), .i .i64] vs → PureC Tryz.prog x 10 vs (.bool true) := by
  intro x vs hx hv
  rcases vs with _ | ⟨v0, _ | ⟨v1, _ | ⟨v2, vs⟩⟩⟩ <;> simp only [Shvs, and_false] at hv
  obtain ⟨h0, h1, _⟩ := hv
  obtain ⟨s, a, cap, rfl, hW, hu⟩ := shv_state hx.2 h0
  obtain ⟨t, rfl, _⟩ := shv_int h1
  exact late_walk hx.1 s t hW hu
end Go.Proofs.YtkokohkbhlnjkaaGreatDoor
namespace Go.Proofs.YtkokohkbhlnjkaaGreatDoor
set_option linter.unusedVariables false
set_option linter.unusedSimpArgs false
open Go Go.RowKit Go.ChangeShapes Go.WideShapes Go.ChangeAt Go.Proofs.YtkokohkbhlnjkaaGreatDoor.R
set_option maxRecDepth 100000
theorem engineLate_lifted (os : Os) (started : os.Started) (H : Type) (enc : TypeId × Value → H) :
    ReturnsInLeavingWide {} Tryz.checked os 10 .any (Rows.engineLateRow.pre enc Tryz.prog Tryz.f10 (OpenSpec.ofChange Rows.engineLateSpec)) (Rows.engineLateSpec.post enc Tryz.prog Tryz.f10 false true false false) :=
  row_laid (C := Tryz.checked) (s := Rows.engineLateSpec) (conds := []) (l := Rows.engineLateRow.laid) (Xs := XLaid) (tb := 4) (ys := [.r (.cons 7 (.r (.cons 1 (.i .i64) (.cons 1 (.i .i64) (.cons 1 (.i .i64) (.cons 1 (.i .i64) (.cons 1 (.i .i64) (.cons 1 (.i .i64) (.cons 1 (.i .i64) (.nil))))))))) (.cons 1 (.i .i64) (.cons 1 (.i .i64) (.cons 1 (.i .i64) (.cons 1 (.i .i64) (.cons 1 (.i .i64) (.cons 3 (.r (.cons 1 (.i .i64) (.cons 1 (.i .i64) (.cons 1 (.i .i64) (.nil))))) (.cons 3 (.r (.cons 1 (.b) (.cons 1 (.i .i64) (.cons 1 (.i .i64) (.nil))))) (.cons 1 (.v 2 (.r (.cons 1 (.i .i64) (.cons 1 (.i .i64) (.nil))))) (.cons 2 (.r (.cons 1 (.i .i64) (.cons 1 (.i .i64) (.nil)))) (.cons 7 (.r (.cons 1 (.i .i64) (.cons 1 (.i .i64) (.cons 1 (.i .i64) (.cons 1 (.b) (.cons 1 (.b) (.cons 1 (.i .i64) (.cons 1 (.i .i64) (.nil))))))))) (.cons 6 (.r (.cons 1 (.b) (.cons 1 (.i .i64) (.cons 1 (.i .i64) (.cons 1 (.i .i64) (.cons 1 (.i .i64) (.cons 1 (.i .i64) (.nil)))))))) (.cons 1 (.i .i64) (.cons 1 (.i .i64) (.cons 2 (.r (.cons 1 (.i .i64) (.cons 1 (.i .i64) (.nil)))) (.cons 1 (.b) (.nil))))))))))))))))), .i .i64]) (by kernel_rfl) own_ started (by kernel_rfl) Tryz.func10
    (ChangeSpec.witness_shaped (enc := enc) (C := Tryz.checked) (os := os) (X := fun w _ => laidMetH Tryz.prog Rows.engineLateRow.laid w) false (World.laidAll Tryz.prog os Rows.engineLateRow.laid) #[.agg #[.int .i64 0, .int .i64 0, .int .i64 0, .int .i64 0, .int .i64 0, .int .i64 0, .int .i64 0, .int .i64 0, .int .i64 0, .int .i64 0, .int .i64 0, .int .i64 0, .int .i64 0, .int .i64 0, .int .i64 0, .bool false, .int .i64 0, .int .i64 0, .slice none 0 0, .int .i64 0, .int .i64 0, .int .i64 0, .int .i64 0, .int .i64 0, .bool false, .bool false, .int .i64 0, .int .i64 0, .bool false, .int .i64 0, .int .i64 0, .int .i64 0, .int .i64 0, .int .i64 0, .int .i64 0, .int .i64 0, .int .i64 0, .int .i64 0, .bool false], .int .i64 0] 8 (World.laidAll_os _ _ _)
      (World.shaped_of_ZipB (by kernel_rfl) (by kernel_rfl)) (by kernel_rfl) (by kernel_rfl) (by kernel_rfl)
      (by rw [MakeChecks.laidMetH_plain _ _ _ (by kernel_rfl)]; exact laidMet_laidAll _ (by kernel_rfl) (by kernel_rfl)))
    rfl laidOut_ (by kernel_rfl) rfl Tryz.underlying4
    (fun ds hd => by match ds, hd with | [d0, d1], _ => exact ⟨rfl, rfl, rfl⟩)
    (by kernel_rfl) laid_x (fun x vs hT h => p_EngineLate x vs hT h)
set_option maxHeartbeats 8000000 in
theorem engineLate_closed : joinedFacts Tryz.checked.prog 10 Tryz.f10 Rows.engineLateSpec Rows.engineLateRow = true := by
  unfold joinedFacts
  simp only [Bool.and_eq_true]
  repeat' apply And.intro
  all_goals first | (with_reducible exact laidOut_) | (as_aux_lemma => kernel_rfl)
theorem engineLate_named : Tryz.checked.prog.funcNamed Rows.engineLateRow.func = some 10 := by kernel_rfl
theorem engineLate_inst : Tryz.f10.isInstance Tryz.checked.prog Rows.engineLateRow.origin Rows.engineLateRow.targs := of_decide_eq_true (by kernel_rfl)
theorem engineLate_wrap : Tryz.f10.isWrapper Tryz.checked.prog Rows.engineLateRow.wrapper Rows.engineLateRow.mainSum := by unfold Func.isWrapper; first | (rw [if_pos (by decide +kernel)]; kernel_rfl) | (rw [if_neg (by decide +kernel)]; exact ⟨rfl, rfl⟩)
theorem engineLate_said : Rows.EngineLateSaid :=
  OpenClaim.holds_of_wide_leaving 10 Tryz.f10 rfl rfl rfl rfl rfl rfl rfl ⟨rfl, rfl, rfl, rfl, rfl⟩ rfl rfl rfl rfl rfl engineLate_named Tryz.func10 engineLate_closed
    engineLate_inst engineLate_wrap (fun os started H enc _ => engineLate_lifted os started H enc)
theorem engineLate_goes : true = Rows.engineLateRow.goesBy Tryz.pinned.checked.prog := by kernel_rfl
theorem engineLate_wf : Rows.engineLateRow.wfByText (OpenSpec.ofChange Rows.engineLateSpec) = true := by kernel_rfl
theorem engineLate_wants : ([49, 3].all fun u => !Tryz.prog.wantsStandIn u) = true := by kernel_rfl
theorem engineLate_holds : Rows.EngineLateCardSaid :=
  card_goes [.data] true (true, "9743dcc7216159cedf5af689d9831578d52e7622345c3cbb87c8bebbc0866563") true
    engineLate_said engineLate_wf engineLate_row_tie rfl ⟨rfl, rfl⟩ main_ rfl
    (fun f fn hf hfn => by
      obtain rfl : f = 10 := Option.some.inj (hf.symm.trans engineLate_named)
      obtain rfl : fn = Tryz.f10 := (Option.some.inj (Tryz.func10.symm.trans hfn)).symm
      exact ⟨looks_, fun j t ht => by
        rw [Tryz.params10] at ht
        have hm : t ∈ [49, 3] := by simpa using Array.mem_of_getElem? ht
        exact (show Tryz.prog.wantsStandIn t = false by simpa using List.all_eq_true.1 engineLate_wants t hm)⟩)
    engineLate_goes
#print axioms engineLate_holds
end Go.Proofs.YtkokohkbhlnjkaaGreatDoor
