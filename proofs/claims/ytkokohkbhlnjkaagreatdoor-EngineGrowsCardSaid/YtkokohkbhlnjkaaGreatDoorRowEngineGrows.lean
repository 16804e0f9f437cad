/- 'sawtoothlaw21.EngineGrows' (what is told of never makes the window less): for every input the call returns true, and each argument reads as it did: the tied card. Conditions: the listed variable holds what the program's text lays. -/
import Derived.Test.YtkokohkbhlnjkaaGreatDoorMa7
import Derived.Test.YtkokohkbhlnjkaaGreatDoorCards
import Derived.Test.YtkokohkbhlnjkaaGreatDoorTie
namespace Go.Proofs.YtkokohkbhlnjkaaGreatDoor
set_option linter.unusedVariables false
set_option linter.unusedSimpArgs false
open Go Go.RowKit Go.Proofs.YtkokohkbhlnjkaaGreatDoor.R
set_option maxRecDepth 50000
set_option maxHeartbeats 4000000
theorem sat_ge {w p : Int} (h : 0 ≤ p) (hw : w ≤ 9223372036854775807) : w ≤ sat (w + p) := by unfold sat; (repeat' split) <;> omega
theorem cutOf_ge {w n : Int} (h : w ≤ n) (hw : w ≤ 68719476736) : w ≤ cutOf n := by unfold cutOf mn; (repeat' split) <;> omega
theorem calmBy_ge {g w t : Int} (hw : 0 < w) (ht : 0 ≤ t) : 0 ≤ calmBy g w t := by
  unfold calmBy
  split
  · omega
  · rename_i h
    have h1 : 0 ≤ t * (g - w) / w := Int.ediv_nonneg (Int.mul_nonneg ht (by omega)) (by omega)
    unfold mn
    split <;> omega
theorem growSlow_in {w t : Int} {h : Hy} (hw : 131072 ≤ w ∧ w ≤ 68719476736) : w ≤ growSlow w t h ∧ growSlow w t h ≤ w + 524288 := by
  have ht := tld_in t
  have hp := hyPart_in (h := h) (t := mn (tld t) 524288) (by unfold mn; split <;> omega)
  have hm : mn (tld t) 524288 ≤ 524288 := by unfold mn; split <;> omega
  unfold growSlow
  rw [cutOf_id hw]
  refine ⟨cutOf_ge (sat_ge hp.1 (by omega)) hw.2, ?_⟩
  generalize hyPart h (mn (tld t) 524288) = p at hp
  unfold sat cutOf mn
  (repeat' split) <;> omega
theorem growBoth_ge {w g e t : Int} (hw : 131072 ≤ w ∧ w ≤ 68719476736) : w ≤ growBoth w g e t := by
  have ht := tld_in t
  unfold growBoth
  rw [cutOf_id hw]
  refine cutOf_ge ?_ hw.2
  have := sat_ge (calmBy_ge (g := g) (w := w) (t := tld t) (by omega) ht.1) (show w ≤ 9223372036854775807 by omega)
  unfold mx
  split <;> omega
theorem grow_law {z : Es} {e : Ev} (h : EsOk z) : z.win ≤ (esGrow z e).1.win ∧ (z.win < z.thr → (esGrow z e).1.win ≤ z.win + 524288) ∧ ((esRecs z || z.lim) = true → (esGrow z e).1 = z) ∧ (esGrow z e).1.back = z.back ∧ (esGrow z e).1.high = z.high := by
  have hw := h.winM
  have hx := h.win
  have hm := h.maxM
  unfold esGrow
  cases hr : (esRecs z || z.lim) with
  | true => exact ⟨Int.le_refl _, fun _ => (by dsimp only [cond_true]; omega), fun _ => rfl, rfl, rfl⟩
  | false =>
    simp only [cond_false]
    by_cases hf : floE e.bytes 65536 z.cf.seg ≠ 0
    · rw [if_pos hf]; exact ⟨Int.le_refl _, fun _ => (by dsimp only; omega), fun h => (by cases h), rfl, rfl⟩
    · rw [if_neg hf]
      cases hs : esSlow z with
      | true =>
        simp only [cond_true]
        have hg := growSlow_in (t := floN e.bytes 65536 z.cf.seg) (h := z.hy) hw
        have hc : cutOf (growSlow z.win (floN e.bytes 65536 z.cf.seg) z.hy) = growSlow z.win (floN e.bytes 65536 z.cf.seg) z.hy := by
          unfold growSlow
          exact cutOf_id (cutOf_in _)
        unfold esFast
        dsimp only
        rw [hc, hm]
        refine ⟨?_, fun _ => ?_, fun h => (by cases h), rfl, rfl⟩
        · unfold mn; split <;> omega
        · unfold mn; split <;> omega
      | false =>
        simp only [cond_false]
        have hns : ¬ z.win < z.thr := by unfold esSlow at hs; simpa using hs
        have k0 : (esCalm0 z e).1.win = z.win ∧ (esCalm0 z e).1.back = z.back ∧ (esCalm0 z e).1.high = z.high ∧ (esCalm0 z e).1.cf = z.cf := by unfold esCalm0; simp only [Bool.cond_eq_ite]; (repeat' split) <;> exact ⟨rfl, rfl, rfl, rfl⟩
        obtain ⟨k1, k2, k3, k4⟩ := k0
        unfold esCalm
        split
        · exact ⟨by rw [k1]; exact Int.le_refl _, fun h => absurd h hns, fun h => (by cases h), k2, k3⟩
        · unfold esCalm1
          dsimp only
          refine ⟨?_, fun h => absurd h hns, fun h => (by cases h), k2, k3⟩
          rw [k1, k4, hm]
          have hb := growBoth_ge (w := z.win) (g := cubTarget (epEst (esCalm0 z e).1.ep (renoStep (esCalm0 z e).1.ep.est (esCalm0 z e).1.ep.max z.win (floN e.bytes 65536 z.cf.seg))) (clkAfter e.time (rttMean (esCalm0 z e).1.rtt)) z.win) (e := (epEst (esCalm0 z e).1.ep (renoStep (esCalm0 z e).1.ep.est (esCalm0 z e).1.ep.max z.win (floN e.bytes 65536 z.cf.seg))).est) (t := floN e.bytes 65536 z.cf.seg) hw
          have hb2 := cutOf_ge hb hw.2
          unfold mn
          split <;> omega
theorem times_same (s : Es) (e : Ev) : (esTimes s e).1.win = s.win ∧ (esTimes s e).1.thr = s.thr ∧ (esTimes s e).1.ep = s.ep ∧ (esTimes s e).1.lim = s.lim ∧ (esTimes s e).1.rec_ = s.rec_ ∧ (esTimes s e).1.back = s.back ∧ (esTimes s e).1.high = s.high := by
  unfold esTimes; simp only [Bool.cond_eq_ite]; (repeat' split) <;> exact ⟨rfl, rfl, rfl, rfl, rfl, rfl, rfl⟩
theorem round_same (s : Es) : (esRound s).1.win = s.win ∧ (esRound s).1.thr = s.thr ∧ (esRound s).1.ep = s.ep ∧ (esRound s).1.lim = s.lim ∧ (esRound s).1.rec_ = s.rec_ ∧ (esRound s).1.back = s.back ∧ (esRound s).1.high = s.high := by
  unfold esRound; simp only [Bool.cond_eq_ite]; (repeat' split) <;> exact ⟨rfl, rfl, rfl, rfl, rfl, rfl, rfl⟩
theorem ack_did {s : Es} {e : Ev} (h : (esDo s e).2 = 0) (hk : e.kind = 1) : ∃ w, (esDo s e).1 = w ∧ s.win ≤ w.win ∧ (s.win < s.thr → w.win ≤ s.win + 524288) ∧ ((decide (wr .i64 (w.fl.sent - w.fl.out) < s.rec_) || s.lim) = true → w.win = s.win ∧ w.thr = s.thr ∧ w.ep = s.ep) ∧ w.back = 0 ∧ w.high = s.high ∧ w.fl.told = s.fl.told + e.bytes := by
  obtain ⟨h1, h2, h3, h4, h5, h6, h7⟩ := esDo_good h
  have e0 : esBy (esAt s e.time) e = esAck (esAt s e.time) e := by unfold esBy; rw [if_neg (by omega), if_pos hk]
  rw [e0] at h7
  rw [h5, e0]
  refine ⟨_, rfl, ?_⟩
  unfold esAck at h7 ⊢
  by_cases f1 : (flBack (esAt s e.time).fl e.bytes e.bytes).2 ≠ 0
  · rw [if_pos f1] at h7; exact absurd h7 f1
  rw [if_neg f1] at h7 ⊢
  by_cases f2 : (esTimes (esTold (esAt s e.time) e) e).2 ≠ 0
  · rw [if_pos f2] at h7; exact absurd h7 f2
  rw [if_neg f2] at h7 ⊢
  by_cases f3 : (esRound (esTimes (esTold (esAt s e.time) e) e).1).2 ≠ 0
  · rw [if_pos f3] at h7; exact absurd h7 f3
  rw [if_neg f3] at h7 ⊢
  have f1' : (flBack (esAt s e.time).fl e.bytes e.bytes).2 = 0 := by simpa using f1
  have f2' : (esTimes (esTold (esAt s e.time) e) e).2 = 0 := by simpa using f2
  have f3' : (esRound (esTimes (esTold (esAt s e.time) e) e).1).2 = 0 := by simpa using f3
  have o1 := esTold_ok h6 f1'
  have o2 := esTimes_ok o1 rfl f2'
  have o3 := esRound_ok o2 f3'
  obtain ⟨a1, a2, a3, a4, a5, a6, a7⟩ := times_same (esTold (esAt s e.time) e) e
  obtain ⟨b1, b2, b3, b4, b5, b6, b7⟩ := round_same (esTimes (esTold (esAt s e.time) e) e).1
  have c1 := (esTimes_fl (esTold (esAt s e.time) e) e).1
  have c2 := (esRound_fl (esTimes (esTold (esAt s e.time) e) e).1).1
  have c3 := (esGrow_fl (esRound (esTimes (esTold (esAt s e.time) e) e).1).1 e).1
  obtain ⟨g1, g2, g3, g4, g5⟩ := grow_law (e := e) o3
  have hfl := (flBack_ok f1').2.2.2
  have t1 : (esTold (esAt s e.time) e).win = s.win := rfl
  have t2 : (esTold (esAt s e.time) e).thr = s.thr := rfl
  have t3 : (esTold (esAt s e.time) e).ep = s.ep := rfl
  have t4 : (esTold (esAt s e.time) e).lim = s.lim := rfl
  have t5 : (esTold (esAt s e.time) e).rec_ = s.rec_ := rfl
  have t6 : (esTold (esAt s e.time) e).back = 0 := rfl
  have t7 : (esTold (esAt s e.time) e).high = s.high := rfl
  have t8 : (esTold (esAt s e.time) e).fl = (flBack (esAt s e.time).fl e.bytes e.bytes).1 := rfl
  rw [b1, a1, t1] at g1 g2
  rw [b2, a2, t2] at g2
  refine ⟨g1, g2, fun hq => ?_, by rw [g4, b6, a6, t6], by rw [g5, b7, a7, t7], by rw [c3, c2, c1, t8, hfl]; rfl⟩
  have hz := g3 (by
    rw [← hq]
    unfold esRecs esRes
    rw [c3, b4, a4, t4, b5, a5, t5])
  rw [hz]
  exact ⟨by rw [b1, a1, t1], by rw [b2, a2, t2], by rw [b3, a3, t3]⟩
end Go.Proofs.YtkokohkbhlnjkaaGreatDoor
namespace Go.Proofs.YtkokohkbhlnjkaaGreatDoor
set_option linter.unusedVariables false
set_option linter.unusedSimpArgs false
open Go Go.RowKit Go.Proofs.YtkokohkbhlnjkaaGreatDoor.R
set_option maxRecDepth 50000
set_option maxHeartbeats 4000000
theorem grows_walk {x : Nat → Obj → Prop} (hT : TensX x) (s : Es) (tm bytes rt : Int) {a : Option Addr} {cap : Nat} (hW : EsW s) (hu : MsAt x s.ms (.slice a s.ms.length cap)) :
    PureC Tryz.prog x 9 [s.v (.slice a s.ms.length cap), .int .i64 tm, .int .i64 bytes, .int .i64 rt] (.bool true) := by
  by_cases hl : s.ms.length ≤ 100
  rotate_left
  · have hd : decide ((100 : Int) < s.ms.length) = true := by simp; omega
    unfold Es.v Es.cells
    refine pureC_of_Sd Tryz.func9 rfl rfl fun w => ?_
    refine Sd_of_cW (by kernel_rfl) ?_
    repeat' (first | (with_reducible refine ifB_intro (fun _ => ?_) (fun _ => ?_)) | ((with_reducible show callW _ _ _ (some (24, _)) _ _); refine callP g_ref21_Same rfl (c_ref21_Same ..) ?_) | ((with_reducible show callW _ _ _ (some (29, _)) _ _); refine callP g_engine_Do rfl (c_engine_Do ..) ?_) | ((with_reducible show callW _ _ _ (some (32, _)) _ _); refine callP g_law21_awake rfl (c_law21_awake hT) ?_) | ((fail_if_success (with_reducible refine stk ?_)); simp only [WE, Nat.reduceLeDiff, segX, Nat.reduceBEq, Nat.reduceAdd, Nat.reduceEqDiff, Int.reduceNeg, Int.reduceEq, Int.reduceBEq, Int.reduceLT, Int.reduceLE, Int.reduceBNe, Int.reduceToNat, Nat.reduceMul, Nat.reduceMod, Int.reducePow, reduceIte, ty_3, ty_4, ty_39, ty_45, ty_49, fo_36_0, fo_36_1, fo_36_2, fo_49_3, fo_49_4, fo_49_5, fo_49_6, fo_49_8, fo_49_11, fo_49_12, fo_49_13, fo_49_15, el_39, tz_49, fk_45, bd_64, bl_39, Tryz.underlying3, Tryz.underlying30, Tryz.underlying39, rs_9, hd]))
  have hd : decide ((100 : Int) < s.ms.length) = false := by simp; omega
  have hi := hW.in_ (by omega)
  obtain ⟨t, n, ht⟩ : ∃ t n, esDo s ⟨1, tm, bytes, rt⟩ = (t, n) := ⟨_, _, rfl⟩
  have hD := do_gen hT ht hi hu
  unfold Es.v Es.cells Ev.v at hD
  unfold Es.v Es.cells
  by_cases hn : n = 0
  · subst hn
    have h0 := esDo_stays (s := s) (e := ⟨1, tm, bytes, rt⟩) (by rw [ht])
    have hfl := esDo_fl hi.fl (e := ⟨1, tm, bytes, rt⟩) (by rw [ht])
    obtain ⟨t', e1, q1, q2, q3, q4, q5, q6⟩ := ack_did (s := s) (e := ⟨1, tm, bytes, rt⟩) (by rw [ht]) rfl
    rw [ht] at h0 hfl e1
    dsimp only at h0 hfl e1 q6
    subst e1
    obtain ⟨h1, h2, h3, h4⟩ := h0
    have hw := h1.winM
    have w0 : s.fl.told + bytes = t.fl.told := q6.symm
    have w1 : wr .i64 (s.fl.told + bytes) = t.fl.told := by
      have := hfl.told; unfold in64 at this
      rw [wr_i64 (by omega) (by omega), w0]
    have w2 : wr .i64 (s.win + 524288) = s.win + 524288 := by rw [wr_i64 (by omega) (by omega)]
    have z1 : decide (s.win ≤ t.win) = true := by simpa using q1
    obtain ⟨cft, nowt, lastt, wint, thrt, hight, flt, rttt, mst, rdt, hyt, ept, rect, backt, bkt, limt⟩ := t
    dsimp only at q1 q2 q3 q4 q5 w1 z1
    subst q4; subst q5
    refine pureC_of_Sd Tryz.func9 rfl rfl fun w => ?_
    refine Sd_of_cW (by kernel_rfl) ?_
    repeat' (first | (with_reducible refine ifB_intro (fun _ => ?_) (fun _ => ?_)) | ((with_reducible show callW _ _ _ (some (24, _)) _ _); refine callP g_ref21_Same rfl (c_ref21_Same ..) ?_) | ((with_reducible show callW _ _ _ (some (29, _)) _ _); refine callP g_engine_Do rfl () ?_) | ((with_reducible show callW _ _ _ (some (32, _)) _ _); refine callP g_law21_awake rfl (c_law21_awake hT) ?_) | ((fail_if_success (with_reducible refine stk ?_)); simp only [WE, Nat.reduceLeDiff, segX, Nat.reduceBEq, Nat.reduceAdd, Nat.reduceEqDiff, Int.reduceNeg, Int.reduceEq, Int.reduceBEq, Int.reduceLT, Int.reduceLE, Int.reduceBNe, Int.reduceToNat, Nat.reduceMul, Nat.reduceMod, Int.reducePow, reduceIte, ty_3, ty_4, ty_39, ty_45, ty_49, fo_36_0, fo_36_1, fo_36_2, fo_49_3, fo_49_4, fo_49_5, fo_49_6, fo_49_8, fo_49_11, fo_49_12, fo_49_13, fo_49_15, el_39, tz_49, fk_45, bd_64, bl_39, Tryz.underlying3, Tryz.underlying30, Tryz.underlying39, rs_9, hd, cells_agg]))
    refine callE g_engine_Do rfl hD ?_
    rintro _ x1 x2 ⟨a1, c1, rfl, hu1⟩ hs1 hs2
    cases hr : decide (wr .i64 (flt.sent - flt.out) < s.rec_) || s.lim with
    | true =>
      obtain ⟨p1, p2, p3⟩ := q3 hr
      subst p1; subst p2; subst p3
      have z2 : decide (s.win ≤ wr .i64 (s.win + 524288)) = true := by rw [w2]; simp; omega
      repeat' (first | (with_reducible refine ifB_intro (fun _ => ?_) (fun _ => ?_)) | ((with_reducible show callW _ _ _ (some (24, _)) _ _); refine callP g_ref21_Same rfl (c_ref21_Same ..) ?_) | ((with_reducible show callW _ _ _ (some (29, _)) _ _); refine callP g_engine_Do rfl () ?_) | ((with_reducible show callW _ _ _ (some (32, _)) _ _); refine callP g_law21_awake rfl (c_law21_awake hT) ?_) | ((fail_if_success (with_reducible refine stk ?_)); simp only [WE, Nat.reduceLeDiff, segX, Nat.reduceBEq, Nat.reduceAdd, Nat.reduceEqDiff, Int.reduceNeg, Int.reduceEq, Int.reduceBEq, Int.reduceLT, Int.reduceLE, Int.reduceBNe, Int.reduceToNat, Nat.reduceMul, Nat.reduceMod, Int.reducePow, reduceIte, ty_3, ty_4, ty_39, ty_45, ty_49, fo_36_0, fo_36_1, fo_36_2, fo_49_3, fo_49_4, fo_49_5, fo_49_6, fo_49_8, fo_49_11, fo_49_12, fo_49_13, fo_49_15, el_39, tz_49, fk_45, bd_64, bl_39, Tryz.underlying3, Tryz.underlying30, Tryz.underlying39, rs_9, bne_self_eq_false, cells_agg, w1, z1, z2, beq_self_eq_true, Bool.and_self, Int.le_refl]))
    | false =>
      rw [Bool.or_eq_false_iff] at hr
      obtain ⟨r1, r2⟩ := hr
      by_cases hs : s.win < s.thr
      · have z2 : decide (wint ≤ s.win + 524288) = true := by simpa using q2 hs
        have z3 : decide (s.thr ≤ s.win) = false := by simp; omega
        repeat' (first | (with_reducible refine ifB_intro (fun _ => ?_) (fun _ => ?_)) | ((with_reducible show callW _ _ _ (some (24, _)) _ _); refine callP g_ref21_Same rfl (c_ref21_Same ..) ?_) | ((with_reducible show callW _ _ _ (some (29, _)) _ _); refine callP g_engine_Do rfl () ?_) | ((with_reducible show callW _ _ _ (some (32, _)) _ _); refine callP g_law21_awake rfl (c_law21_awake hT) ?_) | ((fail_if_success (with_reducible refine stk ?_)); simp only [WE, Nat.reduceLeDiff, segX, Nat.reduceBEq, Nat.reduceAdd, Nat.reduceEqDiff, Int.reduceNeg, Int.reduceEq, Int.reduceBEq, Int.reduceLT, Int.reduceLE, Int.reduceBNe, Int.reduceToNat, Nat.reduceMul, Nat.reduceMod, Int.reducePow, reduceIte, ty_3, ty_4, ty_39, ty_45, ty_49, fo_36_0, fo_36_1, fo_36_2, fo_49_3, fo_49_4, fo_49_5, fo_49_6, fo_49_8, fo_49_11, fo_49_12, fo_49_13, fo_49_15, el_39, tz_49, fk_45, bd_64, bl_39, Tryz.underlying3, Tryz.underlying30, Tryz.underlying39, rs_9, bne_self_eq_false, cells_agg, w1, w2, z1, z2, z3, r1, r2, beq_self_eq_true, Bool.and_self, Bool.not_false]))
      · have z3 : decide (s.thr ≤ s.win) = true := by simp; omega
        repeat' (first | (with_reducible refine ifB_intro (fun _ => ?_) (fun _ => ?_)) | ((with_reducible show callW _ _ _ (some (24, _)) _ _); refine callP g_ref21_Same rfl (c_ref21_Same ..) ?_) | ((with_reducible show callW _ _ _ (some (29, _)) _ _); refine callP g_engine_Do rfl () ?_) | ((with_reducible show callW _ _ _ (some (32, _)) _ _); refine callP g_law21_awake rfl (c_law21_awake hT) ?_) | ((fail_if_success (with_reducible refine stk ?_)); simp only [WE, Nat.reduceLeDiff, segX, Nat.reduceBEq, Nat.reduceAdd, Nat.reduceEqDiff, Int.reduceNeg, Int.reduceEq, Int.reduceBEq, Int.reduceLT, Int.reduceLE, Int.reduceBNe, Int.reduceToNat, Nat.reduceMul, Nat.reduceMod, Int.reducePow, reduceIte, ty_3, ty_4, ty_39, ty_45, ty_49, fo_36_0, fo_36_1, fo_36_2, fo_49_3, fo_49_4, fo_49_5, fo_49_6, fo_49_8, fo_49_11, fo_49_12, fo_49_13, fo_49_15, el_39, tz_49, fk_45, bd_64, bl_39, Tryz.underlying3, Tryz.underlying30, Tryz.underlying39, rs_9, bne_self_eq_false, cells_agg, w1, w2, z1, z3, r1, r2, beq_self_eq_true, Bool.and_self, Bool.not_false]))
  · have h0 := esDo_err (s := s) (e := ⟨1, tm, bytes, rt⟩) (by rw [ht]; exact hn)
    rw [ht] at h0
    dsimp only at h0
    subst h0
    have hz : (n != 0) = true := by simpa using hn
    refine pureC_of_Sd Tryz.func9 rfl rfl fun w => ?_
    refine Sd_of_cW (by kernel_rfl) ?_
    repeat' (first | (with_reducible refine ifB_intro (fun _ => ?_) (fun _ => ?_)) | ((with_reducible show callW _ _ _ (some (24, _)) _ _); refine callP g_ref21_Same rfl (c_ref21_Same ..) ?_) | ((with_reducible show callW _ _ _ (some (29, _)) _ _); refine callP g_engine_Do rfl () ?_) | ((with_reducible show callW _ _ _ (some (32, _)) _ _); refine callP g_law21_awake rfl (c_law21_awake hT) ?_) | ((fail_if_success (with_reducible refine stk ?_)); simp only [WE, Nat.reduceLeDiff, segX, Nat.reduceBEq, Nat.reduceAdd, Nat.reduceEqDiff, Int.reduceNeg, Int.reduceEq, Int.reduceBEq, Int.reduceLT, Int.reduceLE, Int.reduceBNe, Int.reduceToNat, Nat.reduceMul, Nat.reduceMod, Int.reducePow, reduceIte, ty_3, ty_4, ty_39, ty_45, ty_49, fo_36_0, fo_36_1, fo_36_2, fo_49_3, fo_49_4, fo_49_5, fo_49_6, fo_49_8, fo_49_11, fo_49_12, fo_49_13, fo_49_15, el_39, tz_49, fk_45, bd_64, bl_39, Tryz.underlying3, Tryz.underlying30, Tryz.underlying39, rs_9, hd, cells_agg]))
    refine callE g_engine_Do rfl hD ?_
    rintro _ x1 x2 ⟨a1, c1, rfl, hu1⟩ hs1 hs2
    have hu2 := hu1.mono hs2
    have hu3 := hu.mono hs1
    have hS := c_ref21_Same (x := x2) t (by omega) hu2 hu3
    unfold Es.v Es.cells at hS
    repeat' (first | (with_reducible refine ifB_intro (fun _ => ?_) (fun _ => ?_)) | ((with_reducible show callW _ _ _ (some (24, _)) _ _); refine callP g_ref21_Same rfl (hS) ?_) | ((with_reducible show callW _ _ _ (some (29, _)) _ _); refine callP g_engine_Do rfl () ?_) | ((with_reducible show callW _ _ _ (some (32, _)) _ _); refine callP g_law21_awake rfl (c_law21_awake hT) ?_) | ((fail_if_success (with_reducible refine stk ?_)); simp only [WE, Nat.reduceLeDiff, segX, Nat.reduceBEq, Nat.reduceAdd, Nat.reduceEqDiff, Int.reduceNeg, Int.reduceEq, Int.reduceBEq, Int.reduceLT, Int.reduceLE, Int.reduceBNe, Int.reduceToNat, Nat.reduceMul, Nat.reduceMod, Int.reducePow, reduceIte, ty_3, ty_4, ty_39, ty_45, ty_49, fo_36_0, fo_36_1, fo_36_2, fo_49_3, fo_49_4, fo_49_5, fo_49_6, fo_49_8, fo_49_11, fo_49_12, fo_49_13, fo_49_15, el_39, tz_49, fk_45, bd_64, bl_39, Tryz.underlying3, Tryz.underlying30, Tryz.underlying39, rs_9, hz, cells_agg]))
theorem p_EngineGrows : ∀ (x : Nat → Obj → Prop) (vs : List Value), XLaid x → Shvs x [.r (.cons 7 (.r (.cons 1 (.i .i64) (.cons 1 (.i .i64) (.cons 1 (.i .i64) (.cons 1 (.i .i64) (.cons 1 (.i .i64) (.cons 1 (.i .i64) (.cons 1 (.i .i64) (.nil))))))))) (.cons 1 (.i .i64) (.cons 1 (.i .i64) (.cons 1 (.i .i64) (.cons 1 (.i .i64) (.cons 1 (.i .i64) (.cons 3 (.r (.cons 1 (.i .i64) (.cons 1 (.i .i64) (.cons 1 (.i .i64) (.nil))))) (.cons 3 (.r (.cons 1 (.b) (.cons 1 (.i .i64) (.cons 1 (.i .i64) (.nil))))) (.cons 1 (.v 2 (.r (.cons 1 (.i .i64) (.cons 1 (.i .i64) (.nil))))) (.cons 2 (.r (.cons 1 (.i .i64) (.cons 1 (.i .i64) (.nil)))) (.cons 7 (.r (.cons 1 (.i .i64) (.cons 1 (.i .i64) (.cons 1 (.i .i64) (.cons 1 (.b) (.cons 1 (.b) (.cons 1 (.i .i64) (.cons 1 (.i .i64) (.nil))))))))) (.cons 6 (.r (.cons 1 (.b) (.cons 1 (.i .i64) (.cons 1 (.i .i64) (.cons 1 (.i .i64) (.cons 1 (.i .i64) (.cons 1 (.i .i64) (.nil)))))))) (.cons 1 (.i .i64) (.cons 1 (.i .i64) (.cons 2 (.r (.cons 1 (.i .i64) (.cons 1 (.i .i64) (.nil)))) (.cons 1 (.b) (.nil))))))))))))))))), .i .i64, .i .i64, .i .i64] vs → PureC Tryz.prog x 9 vs (.bool true) := by
  intro x vs hx hv
  rcases vs with _ | ⟨v0, _ | ⟨v1, _ | ⟨v2, _ | ⟨v3, _ | ⟨v4, vs⟩⟩⟩⟩⟩ <;> simp only [Shvs, and_false] at hv
  obtain ⟨h0, h1, h2, h3, _⟩ := hv
  obtain ⟨s, a, cap, rfl, hW, hu⟩ := shv_state hx.2 h0
  obtain ⟨t, rfl, _⟩ := shv_int h1
  obtain ⟨b, rfl, _⟩ := shv_int h2
  obtain ⟨r, rfl, _⟩ := shv_int h3
  exact grows_walk hx.1 s t b r hW hu
end Go.Proofs.YtkokohkbhlnjkaaGreatDoor
namespace Go.Proofs.YtkokohkbhlnjkaaGreatDoor
set_option linter.unusedVariables false
set_option linter.unusedSimpArgs false
open Go Go.RowKit Go.ChangeShapes Go.WideShapes Go.ChangeAt Go.Proofs.YtkokohkbhlnjkaaGreatDoor.R
set_option maxRecDepth 100000
theorem engineGrows_lifted (os : Os) (started : os.Started) (H : Type) (enc : TypeId × Value → H) :
    ReturnsInLeavingWide {} Tryz.checked os 9 .any (Rows.engineGrowsRow.pre enc Tryz.prog Tryz.f9 (OpenSpec.ofChange Rows.engineGrowsSpec)) (Rows.engineGrowsSpec.post enc Tryz.prog Tryz.f9 false true false false) :=
  row_laid (C := Tryz.checked) (s := Rows.engineGrowsSpec) (conds := []) (l := Rows.engineGrowsRow.laid) (Xs := XLaid) (tb := 4) (ys := [.r (.cons 7 (.r (.cons 1 (.i .i64) (.cons 1 (.i .i64) (.cons 1 (.i .i64) (.cons 1 (.i .i64) (.cons 1 (.i .i64) (.cons 1 (.i .i64) (.cons 1 (.i .i64) (.nil))))))))) (.cons 1 (.i .i64) (.cons 1 (.i .i64) (.cons 1 (.i .i64) (.cons 1 (.i .i64) (.cons 1 (.i .i64) (.cons 3 (.r (.cons 1 (.i .i64) (.cons 1 (.i .i64) (.cons 1 (.i .i64) (.nil))))) (.cons 3 (.r (.cons 1 (.b) (.cons 1 (.i .i64) (.cons 1 (.i .i64) (.nil))))) (.cons 1 (.v 2 (.r (.cons 1 (.i .i64) (.cons 1 (.i .i64) (.nil))))) (.cons 2 (.r (.cons 1 (.i .i64) (.cons 1 (.i .i64) (.nil)))) (.cons 7 (.r (.cons 1 (.i .i64) (.cons 1 (.i .i64) (.cons 1 (.i .i64) (.cons 1 (.b) (.cons 1 (.b) (.cons 1 (.i .i64) (.cons 1 (.i .i64) (.nil))))))))) (.cons 6 (.r (.cons 1 (.b) (.cons 1 (.i .i64) (.cons 1 (.i .i64) (.cons 1 (.i .i64) (.cons 1 (.i .i64) (.cons 1 (.i .i64) (.nil)))))))) (.cons 1 (.i .i64) (.cons 1 (.i .i64) (.cons 2 (.r (.cons 1 (.i .i64) (.cons 1 (.i .i64) (.nil)))) (.cons 1 (.b) (.nil))))))))))))))))), .i .i64, .i .i64, .i .i64]) (by kernel_rfl) own_ started (by kernel_rfl) Tryz.func9
    (ChangeSpec.witness_shaped (enc := enc) (C := Tryz.checked) (os := os) (X := fun w _ => laidMetH Tryz.prog Rows.engineGrowsRow.laid w) false (World.laidAll Tryz.prog os Rows.engineGrowsRow.laid) #[.agg #[.int .i64 0, .int .i64 0, .int .i64 0, .int .i64 0, .int .i64 0, .int .i64 0, .int .i64 0, .int .i64 0, .int .i64 0, .int .i64 0, .int .i64 0, .int .i64 0, .int .i64 0, .int .i64 0, .int .i64 0, .bool false, .int .i64 0, .int .i64 0, .slice none 0 0, .int .i64 0, .int .i64 0, .int .i64 0, .int .i64 0, .int .i64 0, .bool false, .bool false, .int .i64 0, .int .i64 0, .bool false, .int .i64 0, .int .i64 0, .int .i64 0, .int .i64 0, .int .i64 0, .int .i64 0, .int .i64 0, .int .i64 0, .int .i64 0, .bool false], .int .i64 0, .int .i64 0, .int .i64 0] 8 (World.laidAll_os _ _ _)
      (World.shaped_of_ZipB (by kernel_rfl) (by kernel_rfl)) (by kernel_rfl) (by kernel_rfl) (by kernel_rfl)
      (by rw [MakeChecks.laidMetH_plain _ _ _ (by kernel_rfl)]; exact laidMet_laidAll _ (by kernel_rfl) (by kernel_rfl)))
    rfl laidOut_ (by kernel_rfl) rfl Tryz.underlying4
    (fun ds hd => by match ds, hd with | [d0, d1, d2, d3], _ => exact ⟨rfl, rfl, rfl⟩)
    (by kernel_rfl) laid_x (fun x vs hT h => p_EngineGrows x vs hT h)
set_option maxHeartbeats 8000000 in
theorem engineGrows_closed : joinedFacts Tryz.checked.prog 9 Tryz.f9 Rows.engineGrowsSpec Rows.engineGrowsRow = true := by
  unfold joinedFacts
  simp only [Bool.and_eq_true]
  repeat' apply And.intro
  all_goals first | (with_reducible exact laidOut_) | (as_aux_lemma => kernel_rfl)
theorem engineGrows_named : Tryz.checked.prog.funcNamed Rows.engineGrowsRow.func = some 9 := by kernel_rfl
theorem engineGrows_inst : Tryz.f9.isInstance Tryz.checked.prog Rows.engineGrowsRow.origin Rows.engineGrowsRow.targs := of_decide_eq_true (by kernel_rfl)
theorem engineGrows_wrap : Tryz.f9.isWrapper Tryz.checked.prog Rows.engineGrowsRow.wrapper Rows.engineGrowsRow.mainSum := by unfold Func.isWrapper; first | (rw [if_pos (by decide +kernel)]; kernel_rfl) | (rw [if_neg (by decide +kernel)]; exact ⟨rfl, rfl⟩)
theorem engineGrows_said : Rows.EngineGrowsSaid :=
  OpenClaim.holds_of_wide_leaving 9 Tryz.f9 rfl rfl rfl rfl rfl rfl rfl ⟨rfl, rfl, rfl, rfl, rfl⟩ rfl rfl rfl rfl rfl engineGrows_named Tryz.func9 engineGrows_closed
    engineGrows_inst engineGrows_wrap (fun os started H enc _ => engineGrows_lifted os started H enc)
theorem engineGrows_goes : true = Rows.engineGrowsRow.goesBy Tryz.pinned.checked.prog := by kernel_rfl
theorem engineGrows_wf : Rows.engineGrowsRow.wfByText (OpenSpec.ofChange Rows.engineGrowsSpec) = true := by kernel_rfl
theorem engineGrows_wants : ([49, 3, 3, 3].all fun u => !Tryz.prog.wantsStandIn u) = true := by kernel_rfl
theorem engineGrows_holds : Rows.EngineGrowsCardSaid :=
  card_goes [.data] true (true, "9743dcc7216159cedf5af689d9831578d52e7622345c3cbb87c8bebbc0866563") true
    engineGrows_said engineGrows_wf engineGrows_row_tie rfl ⟨rfl, rfl⟩ main_ rfl
    (fun f fn hf hfn => by
      obtain rfl : f = 9 := Option.some.inj (hf.symm.trans engineGrows_named)
      obtain rfl : fn = Tryz.f9 := (Option.some.inj (Tryz.func9.symm.trans hfn)).symm
      exact ⟨looks_, fun j t ht => by
        rw [Tryz.params9] at ht
        have hm : t ∈ [49, 3, 3, 3] := by simpa using Array.mem_of_getElem? ht
        exact (show Tryz.prog.wantsStandIn t = false by simpa using List.all_eq_true.1 engineGrows_wants t hm)⟩)
    engineGrows_goes
#print axioms engineGrows_holds
end Go.Proofs.YtkokohkbhlnjkaaGreatDoor
