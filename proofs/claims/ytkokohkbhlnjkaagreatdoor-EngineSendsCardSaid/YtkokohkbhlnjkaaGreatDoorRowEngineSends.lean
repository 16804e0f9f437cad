/- 'sawtoothlaw21.EngineSends' (what is sent is within the window and the bucket): for every input the call returns true, and each argument reads as it did: the tied card. Conditions: the listed variable holds what the program's text lays. -/
import Derived.Test.YtkokohkbhlnjkaaGreatDoorMa7
import Derived.Test.YtkokohkbhlnjkaaGreatDoorCards
import Derived.Test.YtkokohkbhlnjkaaGreatDoorTie
namespace Go.Proofs.YtkokohkbhlnjkaaGreatDoor
set_option linter.unusedVariables false
set_option linter.unusedSimpArgs false
open Go Go.RowKit Go.Proofs.YtkokohkbhlnjkaaGreatDoor.R
set_option maxRecDepth 50000
set_option maxHeartbeats 4000000
theorem fld_rate {K : Value → Prop} (a b c d e f : Value) (h : K d) : pureW Tryz.prog (Instr.field 54 (.agg #[a, b, c, d, e, f]) 3) K := ⟨_, fun w => ⟨by kernel_rfl, by kernel_rfl⟩, h⟩
theorem send_did {s : Es} {e : Ev} (hf : FlIn s.fl) (h : (esDo s e).2 = 0) (hk : e.kind = 6) :
    floE (esDo s e).1.win s.cf.seg 65536 = 0 ∧ s.fl.out + e.bytes ≤ floN (esDo s e).1.win s.cf.seg 65536 ∧ (esDo s e).1.fl = ⟨s.fl.sent + e.bytes, s.fl.told, s.fl.out + e.bytes⟩ ∧ s.fl.sent + e.bytes ≤ 9223372036854775807 ∧
      1 ≤ e.bytes ∧ e.bytes ≤ bkBytes (esFill s e.time).1 ∧ bkBytes (esDo s e).1.bk = bkBytes (esFill s e.time).1 - e.bytes ∧ (esDo s e).1.last = e.time ∧ (esFill s e.time).2 = 0 ∧ bkOk (esFill s e.time).1 ∧ in64 e.time := by
  obtain ⟨h1, h2, h3, h4, h5, h6, h7⟩ := esDo_good h
  have h8 := h1.now.1
  have hfill := esAt_ok h1 h3 h4
  have e0 : esBy (esAt s e.time) e = esSend (esAt s e.time) e := by unfold esBy; rw [if_pos hk]
  rw [e0] at h7
  rw [h5, e0]
  obtain ⟨r, k1, k2, k3, k4, k5, k6, k7, k8⟩ := esSend_is h7
  obtain ⟨f1, f2, f3, f4, f5, f6⟩ := flSend_ok k4
  obtain ⟨b1, b2, b3, b4, b5⟩ := bkTake_ok k5
  rw [k3, k6, k7, k8]
  refine ⟨k2, ?_, f4, f5, f2, b3, ?_, rfl, hfill.1, b1, ⟨by omega, by omega⟩⟩
  · rw [k1] at f6; exact f6
  · rw [b4] at b5 ⊢
    have b6 : bkOk (esFill s e.time).1 := b1
    have b7 : bkOk ⟨(esFill s e.time).1.at_, (esFill s e.time).1.have_ - e.bytes * 1000000⟩ := b5
    show bkBytes ⟨(esFill s e.time).1.at_, (esFill s e.time).1.have_ - e.bytes * 1000000⟩ = bkBytes (esFill s e.time).1 - e.bytes
    unfold bkBytes
    rw [if_pos b7, if_pos b6]
    dsimp only
    omega
theorem sends_walk {x : Nat → Obj → Prop} (hT : TensX x) (s : Es) (e : Ev) {a : Option Addr} {cap : Nat} (hW : EsW s) (hu : MsAt x s.ms (.slice a s.ms.length cap)) :
    PureC Tryz.prog x 8 [s.v (.slice a s.ms.length cap), e.v] (.bool true) := by
  by_cases hl : s.ms.length ≤ 100
  rotate_left
  · have hd : decide ((100 : Int) < s.ms.length) = true := by simp; omega
    unfold Es.v Es.cells Ev.v
    refine pureC_of_Sd Tryz.func8 rfl rfl fun w => ?_
    refine Sd_of_cW (by kernel_rfl) ?_
    repeat' (first | (with_reducible refine ifB_intro (fun _ => ?_) (fun _ => ?_)) | ((with_reducible show callW _ _ _ (some (29, _)) _ _); refine callP g_engine_Do rfl (c_engine_Do ..) ?_) | ((with_reducible show callW _ _ _ (some (30, _)) _ _); refine callP g_engine_Look rfl (c_engine_Look ..) ?_) | ((with_reducible show callW _ _ _ (some (32, _)) _ _); refine callP g_law21_awake rfl (c_law21_awake hT) ?_) | ((with_reducible show callW _ _ _ (some (37, _)) _ _); refine callP g_frac_Bytes rfl (c_frac_Bytes ..) ?_) | ((with_reducible show callW _ _ _ (some (38, _)) _ _); refine callP g_bucket_Fill rfl (c_bucket_Fill ..) ?_) | ((with_reducible show callW _ _ _ (some (39, _)) _ _); refine callP g_bucket_Bytes rfl (c_bucket_Bytes ..) ?_) | ((with_reducible show cW _ _ (.region 8 _ true) _ _); refine cW_drawLF 18 lx_8_8 (by kernel_rfl) mixed_ (by kernel_rfl) ?_; intro l1 l2 e1 e2; simp only [List.take_succ_cons, List.take_zero, List.drop_succ_cons, List.drop_zero] at e1 e2; subst e1; subst e2) | ((with_reducible show cW _ _ (.region 9 _ true) _ _); refine cW_drawF lx_8_9 (by kernel_rfl) mixed_ (by kernel_rfl) ?_) | ((fail_if_success (with_reducible refine stk ?_)); simp only [WE, Nat.reduceLeDiff, segX, Nat.reduceBEq, Nat.reduceAdd, Nat.reduceEqDiff, Int.reduceNeg, Int.reduceEq, Int.reduceBEq, Int.reduceLT, Int.reduceLE, Int.reduceBNe, Int.reduceToNat, Nat.reduceMul, Nat.reduceMod, Int.reducePow, reduceIte, ty_3, ty_39, ty_47, ty_49, ty_64, fo_23_0, fo_23_6, fo_36_0, fo_36_2, fo_49_0, fo_49_2, fo_49_3, fo_49_6, fo_49_8, fo_49_14, fo_64_0, fo_64_1, fo_64_2, el_39, tz_47, tz_49, bl_39, Tryz.underlying3, Tryz.underlying30, Tryz.underlying39, rs_8, hd]))
  have hd : decide ((100 : Int) < s.ms.length) = false := by simp; omega
  have hi := hW.in_ (by omega)
  obtain ⟨t, n, ht⟩ : ∃ t n, esDo s e = (t, n) := ⟨_, _, rfl⟩
  have hD := do_gen hT ht hi hu
  unfold Es.v Es.cells Ev.v at hD
  unfold Es.v Es.cells Ev.v
  by_cases hn : n = 0
  · subst hn
    have h0 := esDo_stays (s := s) (e := e) (by rw [ht])
    have hfl := esDo_fl hi.fl (e := e) (by rw [ht])
    rw [ht] at h0 hfl
    obtain ⟨h1, h2, h3, h4⟩ := h0
    by_cases hk : e.kind = 6
    · have hs := send_did hi.fl (by rw [ht] : (esDo s e).2 = 0) hk
      rw [ht] at hs
      obtain ⟨g1, g2, g3, g4, g5, g6, g7, g8, g9, g10, g11⟩ := hs
      dsimp only at h2 h3 h4 g1 g2 g3 g7 g8
      have g12 := bkBytes_in (esFill s e.time).1
      have hcf := h1.cf
      have hbs : 0 ≤ s.cf.burst * s.cf.seg ∧ s.cf.burst * s.cf.seg ≤ 9000000 := by
        have c1 := hcf.burst; have c2 := hcf.seg
        constructor
        · exact Int.mul_nonneg (by omega) (by omega)
        · calc s.cf.burst * s.cf.seg ≤ 1000 * s.cf.seg := Int.mul_le_mul_of_nonneg_right (by omega) (by omega)
            _ ≤ 9000000 := by omega
      have e6 : e.kind = 6 := hk
      have w1 : wr .i64 (s.cf.burst * s.cf.seg) = s.cf.burst * s.cf.seg := by rw [wr_i64 (by omega) (by omega)]
      have w2 : wr .i64 (s.fl.sent + e.bytes) = s.fl.sent + e.bytes := by have := hi.fl.sent.1; rw [wr_i64 (by omega) (by omega)]
      have hFB : ∀ y, PureC Tryz.prog y 37 [.int .i64 t.win, .int .i64 s.cf.seg] (.tuple #[.int .i64 (floN t.win s.cf.seg 65536), .int .i64 (floE t.win s.cf.seg 65536)]) := fun y => c_frac_Bytes _ _ (by have := h2.winM; exact ⟨by omega, by omega⟩) (by have := hcf.seg; exact ⟨by omega, by omega⟩)
      have hBF : ∀ y, PureC Tryz.prog y 38 [s.bk.v, .int .i64 e.time, .int .i64 (esRate s), .int .i64 (s.cf.burst * s.cf.seg)] (.tuple #[(esFill s e.time).1.v, .int .i64 (esFill s e.time).2]) := fun y => c_bucket_Fill s.bk e.time (esRate s) (s.cf.burst * s.cf.seg) g11
      have hB1 : ∀ y, PureC Tryz.prog y 39 [(esFill s e.time).1.v] (.int .i64 (bkBytes (esFill s e.time).1)) := fun y => c_bucket_Bytes _
      have hB2 : ∀ y, PureC Tryz.prog y 39 [t.bk.v] (.int .i64 (bkBytes t.bk)) := fun y => c_bucket_Bytes _
      rw [g7] at hB2
      rw [g9] at hBF
      rw [g1] at hFB
      generalize hrr : floN t.win s.cf.seg 65536 = r at hFB g2
      generalize hbb : bkBytes (esFill s e.time).1 = B at hB1 hB2 g6 g12
      generalize (esFill s e.time).1 = b at hBF hB1
      have w3 : wr .i64 (B - e.bytes) = B - e.bytes := by rw [wr_i64 (by omega) (by omega)]
      have q1 : decide (s.fl.out + e.bytes ≤ r) = true := by simpa using g2
      have q2 : decide (e.bytes ≤ B) = true := by simpa using g6
      unfold Bk.v at hBF hB1 hB2
      obtain ⟨cft, nowt, lastt, wint, thrt, hight, flt, rttt, mst, rdt, hyt, ept, rect, backt, bkt, limt⟩ := t
      dsimp only at h3 h4 g3 g8 hB2 hFB
      subst h3; subst h4; subst g3; subst g8
      refine pureC_of_Sd Tryz.func8 rfl rfl fun w => ?_
      refine Sd_of_cW (by kernel_rfl) ?_
      repeat' (first | (with_reducible refine ifB_intro (fun _ => ?_) (fun _ => ?_)) | ((with_reducible show callW _ _ _ (some (29, _)) _ _); refine callP g_engine_Do rfl () ?_) | ((with_reducible show callW _ _ _ (some (30, _)) _ _); refine callP g_engine_Look rfl (c_engine_Look ..) ?_) | ((with_reducible show callW _ _ _ (some (32, _)) _ _); refine callP g_law21_awake rfl (c_law21_awake hT) ?_) | ((with_reducible show callW _ _ _ (some (37, _)) _ _); refine callP g_frac_Bytes rfl (c_frac_Bytes ..) ?_) | ((with_reducible show callW _ _ _ (some (38, _)) _ _); refine callP g_bucket_Fill rfl (c_bucket_Fill ..) ?_) | ((with_reducible show callW _ _ _ (some (39, _)) _ _); refine callP g_bucket_Bytes rfl (c_bucket_Bytes ..) ?_) | ((with_reducible show cW _ _ (.region 8 _ true) _ _); refine cW_drawLF 18 lx_8_8 (by kernel_rfl) mixed_ (by kernel_rfl) ?_; intro l1 l2 e1 e2; simp only [List.take_succ_cons, List.take_zero, List.drop_succ_cons, List.drop_zero] at e1 e2; subst e1; subst e2) | ((with_reducible show cW _ _ (.region 9 _ true) _ _); refine cW_drawF lx_8_9 (by kernel_rfl) mixed_ (by kernel_rfl) ?_) | ((fail_if_success (with_reducible refine stk ?_)); simp only [WE, Nat.reduceLeDiff, segX, Nat.reduceBEq, Nat.reduceAdd, Nat.reduceEqDiff, Int.reduceNeg, Int.reduceEq, Int.reduceBEq, Int.reduceLT, Int.reduceLE, Int.reduceBNe, Int.reduceToNat, Nat.reduceMul, Nat.reduceMod, Int.reducePow, reduceIte, ty_3, ty_39, ty_47, ty_49, ty_64, fo_23_0, fo_23_6, fo_36_0, fo_36_2, fo_49_0, fo_49_2, fo_49_3, fo_49_6, fo_49_8, fo_49_14, fo_64_0, fo_64_1, fo_64_2, el_39, tz_47, tz_49, bl_39, Tryz.underlying3, Tryz.underlying30, Tryz.underlying39, rs_8, hd, cells_agg]))
      refine callE g_engine_Do rfl hD ?_
      rintro _ x1 x2 ⟨a1, c1, rfl, hu1⟩ hs1 hs2
      have hT2 : TensX x2 := hT.mono hs1
      have hu2 := hu1.mono hs2
      have hu3 := hu.mono hs1
      have hL := c_engine_Look hT2 s hi.fl (by have := h1.back; omega) (by omega) hu3
      unfold esLook at hL
      rw [(esOk_iff s).2 h1] at hL
      unfold Nt.v Es.v Es.cells at hL
      dsimp only [cond_true] at hL
      repeat' (first | (with_reducible refine fld_rate _ _ _ _ _ _ ?_) | (with_reducible refine ifB_intro (fun _ => ?_) (fun _ => ?_)) | ((with_reducible show callW _ _ _ (some (29, _)) _ _); refine callP g_engine_Do rfl () ?_) | ((with_reducible show callW _ _ _ (some (30, _)) _ _); refine callP g_engine_Look rfl (hL) ?_) | ((with_reducible show callW _ _ _ (some (32, _)) _ _); refine callP g_law21_awake rfl (c_law21_awake hT) ?_) | ((with_reducible show callW _ _ _ (some (37, _)) _ _); refine callP g_frac_Bytes rfl (hFB _) ?_) | ((with_reducible show callW _ _ _ (some (38, _)) _ _); refine callP g_bucket_Fill rfl (hBF _) ?_) | ((with_reducible show callW _ _ _ (some (39, _)) _ _); refine callP g_bucket_Bytes rfl (hB1 _) ?_) | ((with_reducible show callW _ _ _ (some (39, _)) _ _); refine callP g_bucket_Bytes rfl (hB2 _) ?_) | ((with_reducible show cW _ _ (.region 8 _ true) _ _); refine cW_drawLF 18 lx_8_8 (by kernel_rfl) mixed_ (by kernel_rfl) ?_; intro l1 l2 e1 e2; simp only [List.take_succ_cons, List.take_zero, List.drop_succ_cons, List.drop_zero] at e1 e2; subst e1; subst e2) | ((with_reducible show cW _ _ (.region 9 _ true) _ _); refine cW_drawF lx_8_9 (by kernel_rfl) mixed_ (by kernel_rfl) ?_) | ((fail_if_success (with_reducible refine stk ?_)); simp only [WE, Nat.reduceLeDiff, segX, Nat.reduceBEq, Nat.reduceAdd, Nat.reduceEqDiff, Int.reduceNeg, Int.reduceEq, Int.reduceBEq, Int.reduceLT, Int.reduceLE, Int.reduceBNe, Int.reduceToNat, Nat.reduceMul, Nat.reduceMod, Int.reducePow, reduceIte, ty_3, ty_39, ty_47, ty_49, ty_64, fo_23_0, fo_23_6, fo_36_0, fo_36_2, fo_49_0, fo_49_2, fo_49_3, fo_49_6, fo_49_8, fo_49_14, fo_64_0, fo_64_1, fo_64_2, el_39, tz_47, tz_49, bl_39, Tryz.underlying3, Tryz.underlying30, Tryz.underlying39, rs_8, bne_self_eq_false, cells_agg, e6, w1, w2, w3, q1, q2, beq_self_eq_true, Bool.and_self]))
    · have ho := esBy_out (esAt s e.time) e hk
      have hg := (esDo_good (s := s) (e := e) (by rw [ht])).2.2.2.2.1
      rw [← hg, ht] at ho
      obtain ⟨o1, o2⟩ := ho
      have o1' : t.fl.sent = s.fl.sent := o1
      have o2' : t.fl.out ≤ s.fl.out := o2
      have q1 : decide (t.fl.out ≤ s.fl.out) = true := by simpa using o2'
      have hk' : (e.kind != 6) = true := by simpa using hk
      refine pureC_of_Sd Tryz.func8 rfl rfl fun w => ?_
      refine Sd_of_cW (by kernel_rfl) ?_
      repeat' (first | (with_reducible refine ifB_intro (fun _ => ?_) (fun _ => ?_)) | ((with_reducible show callW _ _ _ (some (29, _)) _ _); refine callP g_engine_Do rfl () ?_) | ((with_reducible show callW _ _ _ (some (30, _)) _ _); refine callP g_engine_Look rfl (hL) ?_) | ((with_reducible show callW _ _ _ (some (32, _)) _ _); refine callP g_law21_awake rfl (c_law21_awake hT) ?_) | ((with_reducible show callW _ _ _ (some (37, _)) _ _); refine callP g_frac_Bytes rfl (hFB _) ?_) | ((with_reducible show callW _ _ _ (some (38, _)) _ _); refine callP g_bucket_Fill rfl (hBF _) ?_) | ((with_reducible show callW _ _ _ (some (39, _)) _ _); refine callP g_bucket_Bytes rfl (hB1 _) ?_) | ((with_reducible show callW _ _ _ (some (39, _)) _ _); refine callP g_bucket_Bytes rfl (hB2 _) ?_) | ((with_reducible show cW _ _ (.region 8 _ true) _ _); refine cW_drawLF 18 lx_8_8 (by kernel_rfl) mixed_ (by kernel_rfl) ?_; intro l1 l2 e1 e2; simp only [List.take_succ_cons, List.take_zero, List.drop_succ_cons, List.drop_zero] at e1 e2; subst e1; subst e2) | ((with_reducible show cW _ _ (.region 9 _ true) _ _); refine cW_drawF lx_8_9 (by kernel_rfl) mixed_ (by kernel_rfl) ?_) | ((fail_if_success (with_reducible refine stk ?_)); simp only [WE, Nat.reduceLeDiff, segX, Nat.reduceBEq, Nat.reduceAdd, Nat.reduceEqDiff, Int.reduceNeg, Int.reduceEq, Int.reduceBEq, Int.reduceLT, Int.reduceLE, Int.reduceBNe, Int.reduceToNat, Nat.reduceMul, Nat.reduceMod, Int.reducePow, reduceIte, ty_3, ty_39, ty_47, ty_49, ty_64, fo_23_0, fo_23_6, fo_36_0, fo_36_2, fo_49_0, fo_49_2, fo_49_3, fo_49_6, fo_49_8, fo_49_14, fo_64_0, fo_64_1, fo_64_2, el_39, tz_47, tz_49, bl_39, Tryz.underlying3, Tryz.underlying30, Tryz.underlying39, rs_8, hd, cells_agg]))
      refine callE g_engine_Do rfl hD ?_
      rintro _ x1 x2 ⟨a1, c1, rfl, hu1⟩ hs1 hs2
      repeat' (first | (with_reducible refine ifB_intro (fun _ => ?_) (fun _ => ?_)) | ((with_reducible show callW _ _ _ (some (29, _)) _ _); refine callP g_engine_Do rfl () ?_) | ((with_reducible show callW _ _ _ (some (30, _)) _ _); refine callP g_engine_Look rfl (hL) ?_) | ((with_reducible show callW _ _ _ (some (32, _)) _ _); refine callP g_law21_awake rfl (c_law21_awake hT) ?_) | ((with_reducible show callW _ _ _ (some (37, _)) _ _); refine callP g_frac_Bytes rfl (hFB _) ?_) | ((with_reducible show callW _ _ _ (some (38, _)) _ _); refine callP g_bucket_Fill rfl (hBF _) ?_) | ((with_reducible show callW _ _ _ (some (39, _)) _ _); refine callP g_bucket_Bytes rfl (hB1 _) ?_) | ((with_reducible show callW _ _ _ (some (39, _)) _ _); refine callP g_bucket_Bytes rfl (hB2 _) ?_) | ((with_reducible show cW _ _ (.region 8 _ true) _ _); refine cW_drawLF 18 lx_8_8 (by kernel_rfl) mixed_ (by kernel_rfl) ?_; intro l1 l2 e1 e2; simp only [List.take_succ_cons, List.take_zero, List.drop_succ_cons, List.drop_zero] at e1 e2; subst e1; subst e2) | ((with_reducible show cW _ _ (.region 9 _ true) _ _); refine cW_drawF lx_8_9 (by kernel_rfl) mixed_ (by kernel_rfl) ?_) | ((fail_if_success (with_reducible refine stk ?_)); simp only [WE, Nat.reduceLeDiff, segX, Nat.reduceBEq, Nat.reduceAdd, Nat.reduceEqDiff, Int.reduceNeg, Int.reduceEq, Int.reduceBEq, Int.reduceLT, Int.reduceLE, Int.reduceBNe, Int.reduceToNat, Nat.reduceMul, Nat.reduceMod, Int.reducePow, reduceIte, ty_3, ty_39, ty_47, ty_49, ty_64, fo_23_0, fo_23_6, fo_36_0, fo_36_2, fo_49_0, fo_49_2, fo_49_3, fo_49_6, fo_49_8, fo_49_14, fo_64_0, fo_64_1, fo_64_2, el_39, tz_47, tz_49, bl_39, Tryz.underlying3, Tryz.underlying30, Tryz.underlying39, rs_8, bne_self_eq_false, cells_agg, hk', q1, o1', beq_self_eq_true]))
  · have h0 := esDo_err (s := s) (e := e) (by rw [ht]; exact hn)
    rw [ht] at h0
    dsimp only at h0
    subst h0
    have hz : (n != 0) = true := by simpa using hn
    have q1 : decide (t.fl.out ≤ t.fl.out) = true := by simp
    refine pureC_of_Sd Tryz.func8 rfl rfl fun w => ?_
    refine Sd_of_cW (by kernel_rfl) ?_
    repeat' (first | (with_reducible refine ifB_intro (fun _ => ?_) (fun _ => ?_)) | ((with_reducible show callW _ _ _ (some (29, _)) _ _); refine callP g_engine_Do rfl () ?_) | ((with_reducible show callW _ _ _ (some (30, _)) _ _); refine callP g_engine_Look rfl (hL) ?_) | ((with_reducible show callW _ _ _ (some (32, _)) _ _); refine callP g_law21_awake rfl (c_law21_awake hT) ?_) | ((with_reducible show callW _ _ _ (some (37, _)) _ _); refine callP g_frac_Bytes rfl (hFB _) ?_) | ((with_reducible show callW _ _ _ (some (38, _)) _ _); refine callP g_bucket_Fill rfl (hBF _) ?_) | ((with_reducible show callW _ _ _ (some (39, _)) _ _); refine callP g_bucket_Bytes rfl (hB1 _) ?_) | ((with_reducible show callW _ _ _ (some (39, _)) _ _); refine callP g_bucket_Bytes rfl (hB2 _) ?_) | ((with_reducible show cW _ _ (.region 8 _ true) _ _); refine cW_drawLF 18 lx_8_8 (by kernel_rfl) mixed_ (by kernel_rfl) ?_; intro l1 l2 e1 e2; simp only [List.take_succ_cons, List.take_zero, List.drop_succ_cons, List.drop_zero] at e1 e2; subst e1; subst e2) | ((with_reducible show cW _ _ (.region 9 _ true) _ _); refine cW_drawF lx_8_9 (by kernel_rfl) mixed_ (by kernel_rfl) ?_) | ((fail_if_success (with_reducible refine stk ?_)); simp only [WE, Nat.reduceLeDiff, segX, Nat.reduceBEq, Nat.reduceAdd, Nat.reduceEqDiff, Int.reduceNeg, Int.reduceEq, Int.reduceBEq, Int.reduceLT, Int.reduceLE, Int.reduceBNe, Int.reduceToNat, Nat.reduceMul, Nat.reduceMod, Int.reducePow, reduceIte, ty_3, ty_39, ty_47, ty_49, ty_64, fo_23_0, fo_23_6, fo_36_0, fo_36_2, fo_49_0, fo_49_2, fo_49_3, fo_49_6, fo_49_8, fo_49_14, fo_64_0, fo_64_1, fo_64_2, el_39, tz_47, tz_49, bl_39, Tryz.underlying3, Tryz.underlying30, Tryz.underlying39, rs_8, hd, cells_agg]))
    refine callE g_engine_Do rfl hD ?_
    rintro _ x1 x2 ⟨a1, c1, rfl, hu1⟩ hs1 hs2
    repeat' (first | (with_reducible refine ifB_intro (fun _ => ?_) (fun _ => ?_)) | ((with_reducible show callW _ _ _ (some (29, _)) _ _); refine callP g_engine_Do rfl () ?_) | ((with_reducible show callW _ _ _ (some (30, _)) _ _); refine callP g_engine_Look rfl (hL) ?_) | ((with_reducible show callW _ _ _ (some (32, _)) _ _); refine callP g_law21_awake rfl (c_law21_awake hT) ?_) | ((with_reducible show callW _ _ _ (some (37, _)) _ _); refine callP g_frac_Bytes rfl (hFB _) ?_) | ((with_reducible show callW _ _ _ (some (38, _)) _ _); refine callP g_bucket_Fill rfl (hBF _) ?_) | ((with_reducible show callW _ _ _ (some (39, _)) _ _); refine callP g_bucket_Bytes rfl (hB1 _) ?_) | ((with_reducible show callW _ _ _ (some (39, _)) _ _); refine callP g_bucket_Bytes rfl (hB2 _) ?_) | ((with_reducible show cW _ _ (.region 8 _ true) _ _); refine cW_drawLF 18 lx_8_8 (by kernel_rfl) mixed_ (by kernel_rfl) ?_; intro l1 l2 e1 e2; simp only [List.take_succ_cons, List.take_zero, List.drop_succ_cons, List.drop_zero] at e1 e2; subst e1; subst e2) | ((with_reducible show cW _ _ (.region 9 _ true) _ _); refine cW_drawF lx_8_9 (by kernel_rfl) mixed_ (by kernel_rfl) ?_) | ((fail_if_success (with_reducible refine stk ?_)); simp only [WE, Nat.reduceLeDiff, segX, Nat.reduceBEq, Nat.reduceAdd, Nat.reduceEqDiff, Int.reduceNeg, Int.reduceEq, Int.reduceBEq, Int.reduceLT, Int.reduceLE, Int.reduceBNe, Int.reduceToNat, Nat.reduceMul, Nat.reduceMod, Int.reducePow, reduceIte, ty_3, ty_39, ty_47, ty_49, ty_64, fo_23_0, fo_23_6, fo_36_0, fo_36_2, fo_49_0, fo_49_2, fo_49_3, fo_49_6, fo_49_8, fo_49_14, fo_64_0, fo_64_1, fo_64_2, el_39, tz_47, tz_49, bl_39, Tryz.underlying3, Tryz.underlying30, Tryz.underlying39, rs_8, hz, cells_agg, q1]))
theorem p_EngineSends : ∀ (x : Nat → Obj → Prop) (vs : List Value), XLaid x → Shvs x [.r (.cons 7 (.r (.cons 1 (.i .i64) (.cons 1 (.i .i64) (.cons 1 (.i .i64) (.cons 1 (.i .i64) (.cons 1 (.i .i64) (.cons 1 (.i .i64) (.cons 1 (.i .i64) (.nil))))))))) (.cons 1 (.i .i64) (.cons 1 (.i .i64) (.cons 1 (.i .i64) (.cons 1 (.i .i64) (.cons 1 (.i .i64) (.cons 3 (.r (.cons 1 (.i .i64) (.cons 1 (.i .i64) (.cons 1 (.i .i64) (.nil))))) (.cons 3 (.r (.cons 1 (.b) (.cons 1 (.i .i64) (.cons 1 (.i .i64) (.nil))))) (.cons 1 (.v 2 (.r (.cons 1 (.i .i64) (.cons 1 (.i .i64) (.nil))))) (.cons 2 (.r (.cons 1 (.i .i64) (.cons 1 (.i .i64) (.nil)))) (.cons 7 (.r (.cons 1 (.i .i64) (.cons 1 (.i .i64) (.cons 1 (.i .i64) (.cons 1 (.b) (.cons 1 (.b) (.cons 1 (.i .i64) (.cons 1 (.i .i64) (.nil))))))))) (.cons 6 (.r (.cons 1 (.b) (.cons 1 (.i .i64) (.cons 1 (.i .i64) (.cons 1 (.i .i64) (.cons 1 (.i .i64) (.cons 1 (.i .i64) (.nil)))))))) (.cons 1 (.i .i64) (.cons 1 (.i .i64) (.cons 2 (.r (.cons 1 (.i .i64) (.cons 1 (.i .i64) (.nil)))) (.cons 1 (.b) (.nil))))))))))))))))), .r (.cons 1 (.i .i64) (.cons 1 (.i .i64) (.cons 1 (.i .i64) (.cons 1 (.i .i64) (.nil)))))] vs → PureC Tryz.prog x 8 vs (.bool true) := by
  intro x vs hx hv
  rcases vs with _ | ⟨v0, _ | ⟨v1, _ | ⟨v2, vs⟩⟩⟩ <;> simp only [Shvs, and_false] at hv
  obtain ⟨h0, h1, _⟩ := hv
  obtain ⟨s, a, cap, rfl, hW, hu⟩ := shv_state hx.2 h0
  obtain ⟨e, rfl, _⟩ := shv_event h1
  exact sends_walk hx.1 s e hW hu
end Go.Proofs.YtkokohkbhlnjkaaGreatDoor
namespace Go.Proofs.YtkokohkbhlnjkaaGreatDoor
set_option linter.unusedVariables false
set_option linter.unusedSimpArgs false
open Go Go.RowKit Go.ChangeShapes Go.WideShapes Go.ChangeAt Go.Proofs.YtkokohkbhlnjkaaGreatDoor.R
set_option maxRecDepth 100000
theorem engineSends_lifted (os : Os) (started : os.Started) (H : Type) (enc : TypeId × Value → H) :
    ReturnsInLeavingWide {} Tryz.checked os 8 .any (Rows.engineSendsRow.pre enc Tryz.prog Tryz.f8 (OpenSpec.ofChange Rows.engineSendsSpec)) (Rows.engineSendsSpec.post enc Tryz.prog Tryz.f8 false true false false) :=
  row_laid (C := Tryz.checked) (s := Rows.engineSendsSpec) (conds := []) (l := Rows.engineSendsRow.laid) (Xs := XLaid) (tb := 4) (ys := [.r (.cons 7 (.r (.cons 1 (.i .i64) (.cons 1 (.i .i64) (.cons 1 (.i .i64) (.cons 1 (.i .i64) (.cons 1 (.i .i64) (.cons 1 (.i .i64) (.cons 1 (.i .i64) (.nil))))))))) (.cons 1 (.i .i64) (.cons 1 (.i .i64) (.cons 1 (.i .i64) (.cons 1 (.i .i64) (.cons 1 (.i .i64) (.cons 3 (.r (.cons 1 (.i .i64) (.cons 1 (.i .i64) (.cons 1 (.i .i64) (.nil))))) (.cons 3 (.r (.cons 1 (.b) (.cons 1 (.i .i64) (.cons 1 (.i .i64) (.nil))))) (.cons 1 (.v 2 (.r (.cons 1 (.i .i64) (.cons 1 (.i .i64) (.nil))))) (.cons 2 (.r (.cons 1 (.i .i64) (.cons 1 (.i .i64) (.nil)))) (.cons 7 (.r (.cons 1 (.i .i64) (.cons 1 (.i .i64) (.cons 1 (.i .i64) (.cons 1 (.b) (.cons 1 (.b) (.cons 1 (.i .i64) (.cons 1 (.i .i64) (.nil))))))))) (.cons 6 (.r (.cons 1 (.b) (.cons 1 (.i .i64) (.cons 1 (.i .i64) (.cons 1 (.i .i64) (.cons 1 (.i .i64) (.cons 1 (.i .i64) (.nil)))))))) (.cons 1 (.i .i64) (.cons 1 (.i .i64) (.cons 2 (.r (.cons 1 (.i .i64) (.cons 1 (.i .i64) (.nil)))) (.cons 1 (.b) (.nil))))))))))))))))), .r (.cons 1 (.i .i64) (.cons 1 (.i .i64) (.cons 1 (.i .i64) (.cons 1 (.i .i64) (.nil)))))]) (by kernel_rfl) own_ started (by kernel_rfl) Tryz.func8
    (ChangeSpec.witness_shaped (enc := enc) (C := Tryz.checked) (os := os) (X := fun w _ => laidMetH Tryz.prog Rows.engineSendsRow.laid w) false (World.laidAll Tryz.prog os Rows.engineSendsRow.laid) #[.agg #[.int .i64 0, .int .i64 0, .int .i64 0, .int .i64 0, .int .i64 0, .int .i64 0, .int .i64 0, .int .i64 0, .int .i64 0, .int .i64 0, .int .i64 0, .int .i64 0, .int .i64 0, .int .i64 0, .int .i64 0, .bool false, .int .i64 0, .int .i64 0, .slice none 0 0, .int .i64 0, .int .i64 0, .int .i64 0, .int .i64 0, .int .i64 0, .bool false, .bool false, .int .i64 0, .int .i64 0, .bool false, .int .i64 0, .int .i64 0, .int .i64 0, .int .i64 0, .int .i64 0, .int .i64 0, .int .i64 0, .int .i64 0, .int .i64 0, .bool false], .agg #[.int .i64 0, .int .i64 0, .int .i64 0, .int .i64 0]] 8 (World.laidAll_os _ _ _)
      (World.shaped_of_ZipB (by kernel_rfl) (by kernel_rfl)) (by kernel_rfl) (by kernel_rfl) (by kernel_rfl)
      (by rw [MakeChecks.laidMetH_plain _ _ _ (by kernel_rfl)]; exact laidMet_laidAll _ (by kernel_rfl) (by kernel_rfl)))
    rfl laidOut_ (by kernel_rfl) rfl Tryz.underlying4
    (fun ds hd => by match ds, hd with | [d0, d1], _ => exact ⟨rfl, rfl, rfl⟩)
    (by kernel_rfl) laid_x (fun x vs hT h => p_EngineSends x vs hT h)
set_option maxHeartbeats 8000000 in
theorem engineSends_closed : joinedFacts Tryz.checked.prog 8 Tryz.f8 Rows.engineSendsSpec Rows.engineSendsRow = true := by
  unfold joinedFacts
  simp only [Bool.and_eq_true]
  repeat' apply And.intro
  all_goals first | (with_reducible exact laidOut_) | (as_aux_lemma => kernel_rfl)
theorem engineSends_named : Tryz.checked.prog.funcNamed Rows.engineSendsRow.func = some 8 := by kernel_rfl
theorem engineSends_inst : Tryz.f8.isInstance Tryz.checked.prog Rows.engineSendsRow.origin Rows.engineSendsRow.targs := of_decide_eq_true (by kernel_rfl)
theorem engineSends_wrap : Tryz.f8.isWrapper Tryz.checked.prog Rows.engineSendsRow.wrapper Rows.engineSendsRow.mainSum := by unfold Func.isWrapper; first | (rw [if_pos (by decide +kernel)]; kernel_rfl) | (rw [if_neg (by decide +kernel)]; exact ⟨rfl, rfl⟩)
theorem engineSends_said : Rows.EngineSendsSaid :=
  OpenClaim.holds_of_wide_leaving 8 Tryz.f8 rfl rfl rfl rfl rfl rfl rfl ⟨rfl, rfl, rfl, rfl, rfl⟩ rfl rfl rfl rfl rfl engineSends_named Tryz.func8 engineSends_closed
    engineSends_inst engineSends_wrap (fun os started H enc _ => engineSends_lifted os started H enc)
theorem engineSends_goes : true = Rows.engineSendsRow.goesBy Tryz.pinned.checked.prog := by kernel_rfl
theorem engineSends_wf : Rows.engineSendsRow.wfByText (OpenSpec.ofChange Rows.engineSendsSpec) = true := by kernel_rfl
theorem engineSends_wants : ([49, 64].all fun u => !Tryz.prog.wantsStandIn u) = true := by kernel_rfl
theorem engineSends_holds : Rows.EngineSendsCardSaid :=
  card_goes [.data] true (true, "9743dcc7216159cedf5af689d9831578d52e7622345c3cbb87c8bebbc0866563") true
    engineSends_said engineSends_wf engineSends_row_tie rfl ⟨rfl, rfl⟩ main_ rfl
    (fun f fn hf hfn => by
      obtain rfl : f = 8 := Option.some.inj (hf.symm.trans engineSends_named)
      obtain rfl : fn = Tryz.f8 := (Option.some.inj (Tryz.func8.symm.trans hfn)).symm
      exact ⟨looks_, fun j t ht => by
        rw [Tryz.params8] at ht
        have hm : t ∈ [49, 64] := by simpa using Array.mem_of_getElem? ht
        exact (show Tryz.prog.wantsStandIn t = false by simpa using List.all_eq_true.1 engineSends_wants t hm)⟩)
    engineSends_goes
#print axioms engineSends_holds
end Go.Proofs.YtkokohkbhlnjkaaGreatDoor
