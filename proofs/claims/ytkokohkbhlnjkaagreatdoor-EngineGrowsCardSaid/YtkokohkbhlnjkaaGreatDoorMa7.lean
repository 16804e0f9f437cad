/- The framework and the contracts of the program's functions, part 7: what each answers. Conditions: those that each names. -/
import Derived.Test.YtkokohkbhlnjkaaGreatDoorMa6
import Derived.Conc.LeavingOf
import Derived.ProofKit
import Derived.OpenShut
import Derived.LaidMore
import Derived.Lay
import Derived.SevenTiedAt
import Derived.LaidSub
import Derived.Test.YtkokohkbhlnjkaaGreatDoorRows
namespace Go.Proofs.YtkokohkbhlnjkaaGreatDoor
set_option linter.unusedVariables false
set_option linter.unusedSimpArgs false
open Go Go.RowKit Go.Proofs.YtkokohkbhlnjkaaGreatDoor.R
set_option maxRecDepth 50000
set_option maxHeartbeats 4000000
theorem c_ref21_Same {x : Nat → Obj → Prop} (s : Es) {u u' : Value} (hmax : s.ms.length ≤ 1152921504606846976) (hu : MsAt x s.ms u) (hu' : MsAt x s.ms u') : PureC Tryz.prog x 24 [s.v u, s.v u'] (.bool true) := by
  obtain ⟨a, cap, rfl, h1, h2, h3, h4⟩ := hu
  obtain ⟨a', cap', rfl, h1', h2', h3', h4'⟩ := hu'
  have hc : ∀ y, xsub x y → PureC Tryz.prog y 53 [.slice a s.ms.length cap, .slice a' s.ms.length cap'] (.bool true) := fun y hy => c_ref08_Same hmax (h4.mono hy) (h4'.mono hy)
  unfold Es.v Es.cells
  refine pureC_of_Sd Tryz.func24 rfl rfl fun w => ?_
  refine Sd_of_cW (by kernel_rfl) ?_
  repeat' (first | (with_reducible refine ifB_intro (fun _ => ?_) (fun _ => ?_)) | ((with_reducible show callW _ _ _ (some (53, _)) _ _); refine callP g_ref08_Same rfl (hc _ (fun _ _ h => h)) ?_) | ((fail_if_success (with_reducible refine stk ?_)); simp only [WE, Nat.reduceLeDiff, segX, Nat.reduceBEq, Nat.reduceAdd, Nat.reduceEqDiff, Int.reduceNeg, Int.reduceEq, Int.reduceBEq, Int.reduceLT, Int.reduceLE, Int.reduceBNe, Int.reduceToNat, Nat.reduceMul, Nat.reduceMod, Int.reducePow, reduceIte, ty_3, ty_4, ty_23, ty_36, ty_38, ty_39, ty_41, ty_43, ty_45, ty_47, fo_49_0, fo_49_1, fo_49_2, fo_49_3, fo_49_4, fo_49_5, fo_49_6, fo_49_7, fo_49_8, fo_49_9, fo_49_10, fo_49_11, fo_49_12, fo_49_13, fo_49_14, fo_49_15, fk_23, fk_36, fk_38, fk_41, fk_43, fk_45, fk_47, Tryz.underlying3, Tryz.underlying4, rs_24, beq_self_eq_true, Bool.and_self, Bool.and_true, decide_true, bne_self_eq_false]))
end Go.Proofs.YtkokohkbhlnjkaaGreatDoor
namespace Go.Proofs.YtkokohkbhlnjkaaGreatDoor
set_option linter.unusedVariables false
set_option linter.unusedSimpArgs false
open Go Go.RowKit Go.Proofs.YtkokohkbhlnjkaaGreatDoor.R
set_option maxRecDepth 50000
set_option maxHeartbeats 4000000
def awC : Cf := ⟨1000, 100, 10, 1000, 200000, 60000000, 20⟩
def aw0 : Es := ⟨⟨1000, 100, 10, 1000, 200000, 60000000, 20⟩, 0, 0, 655360, 68719476736, 0, ⟨0, 0, 0⟩, ⟨false, 0, 0⟩, [], ⟨0, 0⟩, ⟨0, 0, 0, false, false, 0, 0⟩, ⟨false, 0, 0, 0, 0, 0⟩, 0, 0, ⟨0, 20000000000⟩, false⟩
def aw1 : Es := ⟨⟨1000, 100, 10, 1000, 200000, 60000000, 20⟩, 5, 5, 655360, 68719476736, 0, ⟨5000, 0, 5000⟩, ⟨false, 0, 0⟩, [], ⟨0, 0⟩, ⟨0, 0, 0, false, false, 0, 0⟩, ⟨false, 0, 0, 0, 0, 0⟩, 0, 0, ⟨5, 15000000000⟩, false⟩
def aw2 : Es := ⟨⟨1000, 100, 10, 1000, 200000, 60000000, 20⟩, 50005, 5, 983040, 68719476736, 0, ⟨5000, 5000, 0⟩, ⟨true, 400000, 100000⟩, [(50005, 50000)], ⟨1, 5000⟩, ⟨50000, 0, 0, false, false, 0, 0⟩, ⟨false, 0, 0, 0, 0, 0⟩, 0, 0, ⟨50005, 20000000000⟩, false⟩
def aw3 : Es := ⟨⟨1000, 100, 10, 1000, 200000, 60000000, 20⟩, 9, 5, 458752, 458752, 655360, ⟨5000, 0, 4000⟩, ⟨false, 0, 0⟩, [], ⟨0, 0⟩, ⟨0, 0, 0, false, true, 0, 0⟩, ⟨false, 0, 0, 0, 0, 0⟩, 5000, 0, ⟨9, 15000800000⟩, false⟩
def aw4 : Es := ⟨⟨0, 0, 0, 0, 0, 0, 0⟩, 0, 0, 0, 0, 0, ⟨0, 0, 0⟩, ⟨false, 0, 0⟩, [], ⟨0, 0⟩, ⟨0, 0, 0, false, false, 0, 0⟩, ⟨false, 0, 0, 0, 0, 0⟩, 0, 0, ⟨0, 0⟩, false⟩
theorem aw_new : esNew awC = (aw0, 0) := by kernel_rfl
theorem aw_new0 : esNew ⟨0, 0, 0, 0, 0, 0, 0⟩ = (aw4, 210) := by kernel_rfl
theorem aw_a : esDo aw0 ⟨6, 5, 5000, 0⟩ = (aw1, 0) := by kernel_rfl
theorem aw_b : esDo aw1 ⟨6, 5, 5001, 0⟩ = (aw1, 203) := by kernel_rfl
theorem aw_c : esDo aw1 ⟨1, 50005, 5000, 50000⟩ = (aw2, 0) := by kernel_rfl
theorem aw_d : esDo aw1 ⟨2, 9, 1000, 0⟩ = (aw3, 0) := by kernel_rfl
theorem aw_e : esDo aw2 ⟨4, 60000, 0, 0⟩ = (aw2, 202) := by kernel_rfl
theorem aw_in0 : EsIn aw0 := ⟨by constructor <;> (unfold in64; decide), by unfold in64; decide, by unfold in64; decide, by decide⟩
theorem aw_in1 : EsIn aw1 := ⟨by constructor <;> (unfold in64; decide), by unfold in64; decide, by unfold in64; decide, by decide⟩
theorem aw_in2 : EsIn aw2 := ⟨by constructor <;> (unfold in64; decide), by unfold in64; decide, by unfold in64; decide, by decide⟩
theorem aw_in3 : EsIn aw3 := ⟨by constructor <;> (unfold in64; decide), by unfold in64; decide, by unfold in64; decide, by decide⟩
theorem aw_in4 : EsIn aw4 := ⟨by constructor <;> (unfold in64; decide), by unfold in64; decide, by unfold in64; decide, by decide⟩
theorem aw_look2 : esLook aw2 = ⟨0, 983040, 68719476736, 600000, 200000, 0⟩ := by kernel_rfl
theorem aw_res2 : (bif esOk aw2 then esRes aw2 else 0) = 5000 := by kernel_rfl
theorem aw_res1 : (bif esOk aw1 then esRes aw1 else 0) = 0 := by kernel_rfl
theorem aw_ok2 : esOk aw2 = true := by kernel_rfl
theorem aw_ok4 : esOk aw4 = false := by kernel_rfl
theorem aw_look3 : (esLook aw3).part = 3 := by kernel_rfl
theorem aw_do_a {y : Nat → Obj → Prop} (hT : TensX y) {a : Option Addr} {c : Nat} (hu : MsAt y aw0.ms (.slice a 0 c)) : RetE Tryz.prog y 29 [.agg #[.int .i64 1000, .int .i64 100, .int .i64 10, .int .i64 1000, .int .i64 200000, .int .i64 60000000, .int .i64 20, .int .i64 0, .int .i64 0, .int .i64 655360, .int .i64 68719476736, .int .i64 0, .int .i64 0, .int .i64 0, .int .i64 0, .bool false, .int .i64 0, .int .i64 0, .slice a 0 c, .int .i64 0, .int .i64 0, .int .i64 0, .int .i64 0, .int .i64 0, .bool false, .bool false, .int .i64 0, .int .i64 0, .bool false, .int .i64 0, .int .i64 0, .int .i64 0, .int .i64 0, .int .i64 0, .int .i64 0, .int .i64 0, .int .i64 0, .int .i64 20000000000, .bool false], .agg #[.int .i64 6, .int .i64 5, .int .i64 5000, .int .i64 0]] (fun v x => ∃ a c, v = .tuple #[.agg #[.int .i64 1000, .int .i64 100, .int .i64 10, .int .i64 1000, .int .i64 200000, .int .i64 60000000, .int .i64 20, .int .i64 5, .int .i64 5, .int .i64 655360, .int .i64 68719476736, .int .i64 0, .int .i64 5000, .int .i64 0, .int .i64 5000, .bool false, .int .i64 0, .int .i64 0, .slice a 0 c, .int .i64 0, .int .i64 0, .int .i64 0, .int .i64 0, .int .i64 0, .bool false, .bool false, .int .i64 0, .int .i64 0, .bool false, .int .i64 0, .int .i64 0, .int .i64 0, .int .i64 0, .int .i64 0, .int .i64 0, .int .i64 0, .int .i64 5, .int .i64 15000000000, .bool false], .int .i64 0] ∧ MsAt x aw1.ms (.slice a 0 c)) := by
  have h := c_engine_Do hT aw0 ⟨6, 5, 5000, 0⟩ aw_in0 hu
  refine ⟨fun w h1 h2 => (h.out w h1 h2).mono ?_⟩
  rintro _ _ ⟨v, x', h3, ⟨u, h4, h5⟩, h6⟩
  rw [aw_a] at h4 h5
  obtain ⟨a, c, rfl, h5⟩ := h5
  exact ⟨v, x', h3, ⟨a, c, h4, a, c, rfl, h5⟩, h6⟩
theorem aw_do_b {y : Nat → Obj → Prop} (hT : TensX y) {a : Option Addr} {c : Nat} (hu : MsAt y aw1.ms (.slice a 0 c)) : RetE Tryz.prog y 29 [.agg #[.int .i64 1000, .int .i64 100, .int .i64 10, .int .i64 1000, .int .i64 200000, .int .i64 60000000, .int .i64 20, .int .i64 5, .int .i64 5, .int .i64 655360, .int .i64 68719476736, .int .i64 0, .int .i64 5000, .int .i64 0, .int .i64 5000, .bool false, .int .i64 0, .int .i64 0, .slice a 0 c, .int .i64 0, .int .i64 0, .int .i64 0, .int .i64 0, .int .i64 0, .bool false, .bool false, .int .i64 0, .int .i64 0, .bool false, .int .i64 0, .int .i64 0, .int .i64 0, .int .i64 0, .int .i64 0, .int .i64 0, .int .i64 0, .int .i64 5, .int .i64 15000000000, .bool false], .agg #[.int .i64 6, .int .i64 5, .int .i64 5001, .int .i64 0]] (fun v x => ∃ a c, v = .tuple #[.agg #[.int .i64 1000, .int .i64 100, .int .i64 10, .int .i64 1000, .int .i64 200000, .int .i64 60000000, .int .i64 20, .int .i64 5, .int .i64 5, .int .i64 655360, .int .i64 68719476736, .int .i64 0, .int .i64 5000, .int .i64 0, .int .i64 5000, .bool false, .int .i64 0, .int .i64 0, .slice a 0 c, .int .i64 0, .int .i64 0, .int .i64 0, .int .i64 0, .int .i64 0, .bool false, .bool false, .int .i64 0, .int .i64 0, .bool false, .int .i64 0, .int .i64 0, .int .i64 0, .int .i64 0, .int .i64 0, .int .i64 0, .int .i64 0, .int .i64 5, .int .i64 15000000000, .bool false], .int .i64 203] ∧ MsAt x aw1.ms (.slice a 0 c)) := by
  have h := c_engine_Do hT aw1 ⟨6, 5, 5001, 0⟩ aw_in1 hu
  refine ⟨fun w h1 h2 => (h.out w h1 h2).mono ?_⟩
  rintro _ _ ⟨v, x', h3, ⟨u, h4, h5⟩, h6⟩
  rw [aw_b] at h4 h5
  obtain ⟨a, c, rfl, h5⟩ := h5
  exact ⟨v, x', h3, ⟨a, c, h4, a, c, rfl, h5⟩, h6⟩
theorem aw_do_c {y : Nat → Obj → Prop} (hT : TensX y) {a : Option Addr} {c : Nat} (hu : MsAt y aw1.ms (.slice a 0 c)) : RetE Tryz.prog y 29 [.agg #[.int .i64 1000, .int .i64 100, .int .i64 10, .int .i64 1000, .int .i64 200000, .int .i64 60000000, .int .i64 20, .int .i64 5, .int .i64 5, .int .i64 655360, .int .i64 68719476736, .int .i64 0, .int .i64 5000, .int .i64 0, .int .i64 5000, .bool false, .int .i64 0, .int .i64 0, .slice a 0 c, .int .i64 0, .int .i64 0, .int .i64 0, .int .i64 0, .int .i64 0, .bool false, .bool false, .int .i64 0, .int .i64 0, .bool false, .int .i64 0, .int .i64 0, .int .i64 0, .int .i64 0, .int .i64 0, .int .i64 0, .int .i64 0, .int .i64 5, .int .i64 15000000000, .bool false], .agg #[.int .i64 1, .int .i64 50005, .int .i64 5000, .int .i64 50000]] (fun v x => ∃ a c, v = .tuple #[.agg #[.int .i64 1000, .int .i64 100, .int .i64 10, .int .i64 1000, .int .i64 200000, .int .i64 60000000, .int .i64 20, .int .i64 50005, .int .i64 5, .int .i64 983040, .int .i64 68719476736, .int .i64 0, .int .i64 5000, .int .i64 5000, .int .i64 0, .bool true, .int .i64 400000, .int .i64 100000, .slice a 1 c, .int .i64 1, .int .i64 5000, .int .i64 50000, .int .i64 0, .int .i64 0, .bool false, .bool false, .int .i64 0, .int .i64 0, .bool false, .int .i64 0, .int .i64 0, .int .i64 0, .int .i64 0, .int .i64 0, .int .i64 0, .int .i64 0, .int .i64 50005, .int .i64 20000000000, .bool false], .int .i64 0] ∧ MsAt x aw2.ms (.slice a 1 c)) := by
  have h := c_engine_Do hT aw1 ⟨1, 50005, 5000, 50000⟩ aw_in1 hu
  refine ⟨fun w h1 h2 => (h.out w h1 h2).mono ?_⟩
  rintro _ _ ⟨v, x', h3, ⟨u, h4, h5⟩, h6⟩
  rw [aw_c] at h4 h5
  obtain ⟨a, c, rfl, h5⟩ := h5
  exact ⟨v, x', h3, ⟨a, c, h4, a, c, rfl, h5⟩, h6⟩
theorem aw_do_d {y : Nat → Obj → Prop} (hT : TensX y) {a : Option Addr} {c : Nat} (hu : MsAt y aw1.ms (.slice a 0 c)) : RetE Tryz.prog y 29 [.agg #[.int .i64 1000, .int .i64 100, .int .i64 10, .int .i64 1000, .int .i64 200000, .int .i64 60000000, .int .i64 20, .int .i64 5, .int .i64 5, .int .i64 655360, .int .i64 68719476736, .int .i64 0, .int .i64 5000, .int .i64 0, .int .i64 5000, .bool false, .int .i64 0, .int .i64 0, .slice a 0 c, .int .i64 0, .int .i64 0, .int .i64 0, .int .i64 0, .int .i64 0, .bool false, .bool false, .int .i64 0, .int .i64 0, .bool false, .int .i64 0, .int .i64 0, .int .i64 0, .int .i64 0, .int .i64 0, .int .i64 0, .int .i64 0, .int .i64 5, .int .i64 15000000000, .bool false], .agg #[.int .i64 2, .int .i64 9, .int .i64 1000, .int .i64 0]] (fun v x => ∃ a c, v = .tuple #[.agg #[.int .i64 1000, .int .i64 100, .int .i64 10, .int .i64 1000, .int .i64 200000, .int .i64 60000000, .int .i64 20, .int .i64 9, .int .i64 5, .int .i64 458752, .int .i64 458752, .int .i64 655360, .int .i64 5000, .int .i64 0, .int .i64 4000, .bool false, .int .i64 0, .int .i64 0, .slice a 0 c, .int .i64 0, .int .i64 0, .int .i64 0, .int .i64 0, .int .i64 0, .bool false, .bool true, .int .i64 0, .int .i64 0, .bool false, .int .i64 0, .int .i64 0, .int .i64 0, .int .i64 0, .int .i64 0, .int .i64 5000, .int .i64 0, .int .i64 9, .int .i64 15000800000, .bool false], .int .i64 0] ∧ MsAt x aw3.ms (.slice a 0 c)) := by
  have h := c_engine_Do hT aw1 ⟨2, 9, 1000, 0⟩ aw_in1 hu
  refine ⟨fun w h1 h2 => (h.out w h1 h2).mono ?_⟩
  rintro _ _ ⟨v, x', h3, ⟨u, h4, h5⟩, h6⟩
  rw [aw_d] at h4 h5
  obtain ⟨a, c, rfl, h5⟩ := h5
  exact ⟨v, x', h3, ⟨a, c, h4, a, c, rfl, h5⟩, h6⟩
theorem aw_do_e {y : Nat → Obj → Prop} (hT : TensX y) {a : Option Addr} {c : Nat} (hu : MsAt y aw2.ms (.slice a 1 c)) : RetE Tryz.prog y 29 [.agg #[.int .i64 1000, .int .i64 100, .int .i64 10, .int .i64 1000, .int .i64 200000, .int .i64 60000000, .int .i64 20, .int .i64 50005, .int .i64 5, .int .i64 983040, .int .i64 68719476736, .int .i64 0, .int .i64 5000, .int .i64 5000, .int .i64 0, .bool true, .int .i64 400000, .int .i64 100000, .slice a 1 c, .int .i64 1, .int .i64 5000, .int .i64 50000, .int .i64 0, .int .i64 0, .bool false, .bool false, .int .i64 0, .int .i64 0, .bool false, .int .i64 0, .int .i64 0, .int .i64 0, .int .i64 0, .int .i64 0, .int .i64 0, .int .i64 0, .int .i64 50005, .int .i64 20000000000, .bool false], .agg #[.int .i64 4, .int .i64 60000, .int .i64 0, .int .i64 0]] (fun v x => ∃ a c, v = .tuple #[.agg #[.int .i64 1000, .int .i64 100, .int .i64 10, .int .i64 1000, .int .i64 200000, .int .i64 60000000, .int .i64 20, .int .i64 50005, .int .i64 5, .int .i64 983040, .int .i64 68719476736, .int .i64 0, .int .i64 5000, .int .i64 5000, .int .i64 0, .bool true, .int .i64 400000, .int .i64 100000, .slice a 1 c, .int .i64 1, .int .i64 5000, .int .i64 50000, .int .i64 0, .int .i64 0, .bool false, .bool false, .int .i64 0, .int .i64 0, .bool false, .int .i64 0, .int .i64 0, .int .i64 0, .int .i64 0, .int .i64 0, .int .i64 0, .int .i64 0, .int .i64 50005, .int .i64 20000000000, .bool false], .int .i64 202] ∧ MsAt x aw2.ms (.slice a 1 c)) := by
  have h := c_engine_Do hT aw2 ⟨4, 60000, 0, 0⟩ aw_in2 hu
  refine ⟨fun w h1 h2 => (h.out w h1 h2).mono ?_⟩
  rintro _ _ ⟨v, x', h3, ⟨u, h4, h5⟩, h6⟩
  rw [aw_e] at h4 h5
  obtain ⟨a, c, rfl, h5⟩ := h5
  exact ⟨v, x', h3, ⟨a, c, h4, a, c, rfl, h5⟩, h6⟩
theorem fld_part {K : Value → Prop} (a b c d e f : Value) (h : K f) : pureW Tryz.prog (Instr.field 54 (.agg #[a, b, c, d, e, f]) 5) K := ⟨_, fun w => ⟨by kernel_rfl, by kernel_rfl⟩, h⟩
theorem c_law21_awake {x : Nat → Obj → Prop} (hT : TensX x) : PureC Tryz.prog x 32 [] (.bool true) := by
  have hN : ∀ y, PureC Tryz.prog y 22 [.agg #[.int .i64 1000, .int .i64 100, .int .i64 10, .int .i64 1000, .int .i64 200000, .int .i64 60000000, .int .i64 20]] (.tuple #[.agg #[.int .i64 1000, .int .i64 100, .int .i64 10, .int .i64 1000, .int .i64 200000, .int .i64 60000000, .int .i64 20, .int .i64 0, .int .i64 0, .int .i64 655360, .int .i64 68719476736, .int .i64 0, .int .i64 0, .int .i64 0, .int .i64 0, .bool false, .int .i64 0, .int .i64 0, .slice none 0 0, .int .i64 0, .int .i64 0, .int .i64 0, .int .i64 0, .int .i64 0, .bool false, .bool false, .int .i64 0, .int .i64 0, .bool false, .int .i64 0, .int .i64 0, .int .i64 0, .int .i64 0, .int .i64 0, .int .i64 0, .int .i64 0, .int .i64 0, .int .i64 20000000000, .bool false], .int .i64 0]) := fun y => by
    have := c_engine_New (x := y) awC
    rw [aw_new] at this
    exact this
  have hN0 : ∀ y, PureC Tryz.prog y 22 [.agg #[.int .i64 0, .int .i64 0, .int .i64 0, .int .i64 0, .int .i64 0, .int .i64 0, .int .i64 0]] (.tuple #[.agg #[.int .i64 0, .int .i64 0, .int .i64 0, .int .i64 0, .int .i64 0, .int .i64 0, .int .i64 0, .int .i64 0, .int .i64 0, .int .i64 0, .int .i64 0, .int .i64 0, .int .i64 0, .int .i64 0, .int .i64 0, .bool false, .int .i64 0, .int .i64 0, .slice none 0 0, .int .i64 0, .int .i64 0, .int .i64 0, .int .i64 0, .int .i64 0, .bool false, .bool false, .int .i64 0, .int .i64 0, .bool false, .int .i64 0, .int .i64 0, .int .i64 0, .int .i64 0, .int .i64 0, .int .i64 0, .int .i64 0, .int .i64 0, .int .i64 0, .bool false], .int .i64 210]) := fun y => by
    have := c_engine_New (x := y) ⟨0, 0, 0, 0, 0, 0, 0⟩
    rw [aw_new0] at this
    exact this
  have hm0 : ∀ y, MsAt y [] (.slice none 0 0) := fun y => ⟨none, 0, rfl, Nat.le_refl _, Nat.zero_le _, fun _ => rfl, fun i hi => absurd hi (Nat.not_lt_zero _)⟩
  have hT0 := hT
  have hu0 := hm0 x
  refine pureC_of_Sd Tryz.func32 rfl rfl fun w => ?_
  refine Sd_of_cW (by kernel_rfl) ?_
  repeat' (first | (with_reducible refine ifB_intro (fun _ => ?_) (fun _ => ?_)) | ((with_reducible show callW _ _ _ (some (22, _)) _ _); refine callP g_engine_New rfl (hN _) ?_) | ((with_reducible show callW _ _ _ (some (22, _)) _ _); refine callP g_engine_New rfl (hN0 _) ?_) | ((with_reducible show callW _ _ _ (some (25, _)) _ _); refine callP g_engine_Check rfl (c_engine_Check ..) ?_) | ((with_reducible show callW _ _ _ (some (29, _)) _ _); refine callP g_engine_Do rfl () ?_) | ((with_reducible show callW _ _ _ (some (30, _)) _ _); refine callP g_engine_Look rfl (c_engine_Look ..) ?_) | ((with_reducible show callW _ _ _ (some (34, _)) _ _); refine callP g_engine_Resolved rfl (c_engine_Resolved ..) ?_) | ((fail_if_success (with_reducible refine stk ?_)); simp only [WE, Nat.reduceLeDiff, segX, Nat.reduceBEq, Nat.reduceAdd, Nat.reduceEqDiff, Int.reduceNeg, Int.reduceEq, Int.reduceBEq, Int.reduceLT, Int.reduceLE, Int.reduceBNe, Int.reduceToNat, Nat.reduceMul, Nat.reduceMod, Int.reducePow, reduceIte, ty_3, ty_23, ty_49, ty_54, fo_49_3, fo_49_4, fo_49_5, fo_54_1, fo_54_3, fo_54_4, fo_54_5, tz_23, tz_49, tz_54, bd_23, bd_49, bd_64, Tryz.underlying3, Tryz.underlying30, rs_32, cells_agg]))
  refine callE g_engine_Do rfl (aw_do_a hT0 hu0) ?_
  rintro _ x1 x1 ⟨a1, c1, rfl, hu1⟩ hs1 hs2
  have hT1 : TensX x1 := hT0.mono hs1
  replace hu1 := hu1.mono hs2
  repeat' (first | (with_reducible refine ifB_intro (fun _ => ?_) (fun _ => ?_)) | ((with_reducible show callW _ _ _ (some (22, _)) _ _); refine callP g_engine_New rfl (hN _) ?_) | ((with_reducible show callW _ _ _ (some (22, _)) _ _); refine callP g_engine_New rfl (hN0 _) ?_) | ((with_reducible show callW _ _ _ (some (25, _)) _ _); refine callP g_engine_Check rfl (c_engine_Check ..) ?_) | ((with_reducible show callW _ _ _ (some (29, _)) _ _); refine callP g_engine_Do rfl () ?_) | ((with_reducible show callW _ _ _ (some (30, _)) _ _); refine callP g_engine_Look rfl (c_engine_Look ..) ?_) | ((with_reducible show callW _ _ _ (some (34, _)) _ _); refine callP g_engine_Resolved rfl (c_engine_Resolved ..) ?_) | ((fail_if_success (with_reducible refine stk ?_)); simp only [WE, Nat.reduceLeDiff, segX, Nat.reduceBEq, Nat.reduceAdd, Nat.reduceEqDiff, Int.reduceNeg, Int.reduceEq, Int.reduceBEq, Int.reduceLT, Int.reduceLE, Int.reduceBNe, Int.reduceToNat, Nat.reduceMul, Nat.reduceMod, Int.reducePow, reduceIte, ty_3, ty_23, ty_49, ty_54, fo_49_3, fo_49_4, fo_49_5, fo_54_1, fo_54_3, fo_54_4, fo_54_5, tz_23, tz_49, tz_54, bd_23, bd_49, bd_64, Tryz.underlying3, Tryz.underlying30, rs_32, cells_agg]))
  refine callE g_engine_Do rfl (aw_do_b hT1 hu1) ?_
  rintro _ x1 x2 ⟨a2, c2, rfl, hu2⟩ hs1 hs2
  have hT2 : TensX x2 := hT1.mono hs1
  replace hu2 := hu2.mono hs2
  replace hu1 := hu1.mono hs1
  repeat' (first | (with_reducible refine ifB_intro (fun _ => ?_) (fun _ => ?_)) | ((with_reducible show callW _ _ _ (some (22, _)) _ _); refine callP g_engine_New rfl (hN _) ?_) | ((with_reducible show callW _ _ _ (some (22, _)) _ _); refine callP g_engine_New rfl (hN0 _) ?_) | ((with_reducible show callW _ _ _ (some (25, _)) _ _); refine callP g_engine_Check rfl (c_engine_Check ..) ?_) | ((with_reducible show callW _ _ _ (some (29, _)) _ _); refine callP g_engine_Do rfl () ?_) | ((with_reducible show callW _ _ _ (some (30, _)) _ _); refine callP g_engine_Look rfl (c_engine_Look ..) ?_) | ((with_reducible show callW _ _ _ (some (34, _)) _ _); refine callP g_engine_Resolved rfl (c_engine_Resolved ..) ?_) | ((fail_if_success (with_reducible refine stk ?_)); simp only [WE, Nat.reduceLeDiff, segX, Nat.reduceBEq, Nat.reduceAdd, Nat.reduceEqDiff, Int.reduceNeg, Int.reduceEq, Int.reduceBEq, Int.reduceLT, Int.reduceLE, Int.reduceBNe, Int.reduceToNat, Nat.reduceMul, Nat.reduceMod, Int.reducePow, reduceIte, ty_3, ty_23, ty_49, ty_54, fo_49_3, fo_49_4, fo_49_5, fo_54_1, fo_54_3, fo_54_4, fo_54_5, tz_23, tz_49, tz_54, bd_23, bd_49, bd_64, Tryz.underlying3, Tryz.underlying30, rs_32, cells_agg]))
  refine callE g_engine_Do rfl (aw_do_c hT2 hu1) ?_
  rintro _ x1 x3 ⟨a3, c3, rfl, hu3⟩ hs1 hs2
  have hT3 : TensX x3 := hT2.mono hs1
  replace hu3 := hu3.mono hs2
  replace hu1 := hu1.mono hs1
  repeat' (first | (with_reducible refine ifB_intro (fun _ => ?_) (fun _ => ?_)) | ((with_reducible show callW _ _ _ (some (22, _)) _ _); refine callP g_engine_New rfl (hN _) ?_) | ((with_reducible show callW _ _ _ (some (22, _)) _ _); refine callP g_engine_New rfl (hN0 _) ?_) | ((with_reducible show callW _ _ _ (some (25, _)) _ _); refine callP g_engine_Check rfl (c_engine_Check ..) ?_) | ((with_reducible show callW _ _ _ (some (29, _)) _ _); refine callP g_engine_Do rfl () ?_) | ((with_reducible show callW _ _ _ (some (30, _)) _ _); refine callP g_engine_Look rfl (c_engine_Look ..) ?_) | ((with_reducible show callW _ _ _ (some (34, _)) _ _); refine callP g_engine_Resolved rfl (c_engine_Resolved ..) ?_) | ((fail_if_success (with_reducible refine stk ?_)); simp only [WE, Nat.reduceLeDiff, segX, Nat.reduceBEq, Nat.reduceAdd, Nat.reduceEqDiff, Int.reduceNeg, Int.reduceEq, Int.reduceBEq, Int.reduceLT, Int.reduceLE, Int.reduceBNe, Int.reduceToNat, Nat.reduceMul, Nat.reduceMod, Int.reducePow, reduceIte, ty_3, ty_23, ty_49, ty_54, fo_49_3, fo_49_4, fo_49_5, fo_54_1, fo_54_3, fo_54_4, fo_54_5, tz_23, tz_49, tz_54, bd_23, bd_49, bd_64, Tryz.underlying3, Tryz.underlying30, rs_32, cells_agg]))
  refine callE g_engine_Do rfl (aw_do_d hT3 hu1) ?_
  rintro _ x1 x4 ⟨a4, c4, rfl, hu4⟩ hs1 hs2
  have hT4 : TensX x4 := hT3.mono hs1
  replace hu4 := hu4.mono hs2
  replace hu1 := hu1.mono hs1
  replace hu3 := hu3.mono hs1
  repeat' (first | (with_reducible refine ifB_intro (fun _ => ?_) (fun _ => ?_)) | ((with_reducible show callW _ _ _ (some (22, _)) _ _); refine callP g_engine_New rfl (hN _) ?_) | ((with_reducible show callW _ _ _ (some (22, _)) _ _); refine callP g_engine_New rfl (hN0 _) ?_) | ((with_reducible show callW _ _ _ (some (25, _)) _ _); refine callP g_engine_Check rfl (c_engine_Check ..) ?_) | ((with_reducible show callW _ _ _ (some (29, _)) _ _); refine callP g_engine_Do rfl () ?_) | ((with_reducible show callW _ _ _ (some (30, _)) _ _); refine callP g_engine_Look rfl (c_engine_Look ..) ?_) | ((with_reducible show callW _ _ _ (some (34, _)) _ _); refine callP g_engine_Resolved rfl (c_engine_Resolved ..) ?_) | ((fail_if_success (with_reducible refine stk ?_)); simp only [WE, Nat.reduceLeDiff, segX, Nat.reduceBEq, Nat.reduceAdd, Nat.reduceEqDiff, Int.reduceNeg, Int.reduceEq, Int.reduceBEq, Int.reduceLT, Int.reduceLE, Int.reduceBNe, Int.reduceToNat, Nat.reduceMul, Nat.reduceMod, Int.reducePow, reduceIte, ty_3, ty_23, ty_49, ty_54, fo_49_3, fo_49_4, fo_49_5, fo_54_1, fo_54_3, fo_54_4, fo_54_5, tz_23, tz_49, tz_54, bd_23, bd_49, bd_64, Tryz.underlying3, Tryz.underlying30, rs_32, cells_agg]))
  refine callE g_engine_Do rfl (aw_do_e hT4 hu3) ?_
  rintro _ x1 x5 ⟨a5, c5, rfl, hu5⟩ hs1 hs2
  have hT5 : TensX x5 := hT4.mono hs1
  replace hu5 := hu5.mono hs2
  replace hu1 := hu1.mono hs1
  replace hu3 := hu3.mono hs1
  replace hu4 := hu4.mono hs1
  have hL2 : ∀ y, TensX y → ∀ a c, MsAt y aw2.ms (.slice a 1 c) → PureC Tryz.prog y 30 [.agg #[.int .i64 1000, .int .i64 100, .int .i64 10, .int .i64 1000, .int .i64 200000, .int .i64 60000000, .int .i64 20, .int .i64 50005, .int .i64 5, .int .i64 983040, .int .i64 68719476736, .int .i64 0, .int .i64 5000, .int .i64 5000, .int .i64 0, .bool true, .int .i64 400000, .int .i64 100000, .slice a 1 c, .int .i64 1, .int .i64 5000, .int .i64 50000, .int .i64 0, .int .i64 0, .bool false, .bool false, .int .i64 0, .int .i64 0, .bool false, .int .i64 0, .int .i64 0, .int .i64 0, .int .i64 0, .int .i64 0, .int .i64 0, .int .i64 0, .int .i64 50005, .int .i64 20000000000, .bool false]] (.agg #[.int .i64 0, .int .i64 983040, .int .i64 68719476736, .int .i64 600000, .int .i64 200000, .int .i64 0]) := fun y hT a c hu => by
    have := c_engine_Look hT aw2 aw_in2.fl (by decide) (by decide) hu
    rw [aw_look2] at this
    exact this
  have hL3 : ∀ y, TensX y → ∀ a c, MsAt y aw3.ms (.slice a 0 c) → PureC Tryz.prog y 30 [.agg #[.int .i64 1000, .int .i64 100, .int .i64 10, .int .i64 1000, .int .i64 200000, .int .i64 60000000, .int .i64 20, .int .i64 9, .int .i64 5, .int .i64 458752, .int .i64 458752, .int .i64 655360, .int .i64 5000, .int .i64 0, .int .i64 4000, .bool false, .int .i64 0, .int .i64 0, .slice a 0 c, .int .i64 0, .int .i64 0, .int .i64 0, .int .i64 0, .int .i64 0, .bool false, .bool true, .int .i64 0, .int .i64 0, .bool false, .int .i64 0, .int .i64 0, .int .i64 0, .int .i64 0, .int .i64 0, .int .i64 5000, .int .i64 0, .int .i64 9, .int .i64 15000800000, .bool false]] (.agg #[.int .i64 (esLook aw3).err, .int .i64 (esLook aw3).win, .int .i64 (esLook aw3).thr, .int .i64 (esLook aw3).rate, .int .i64 (esLook aw3).rto, .int .i64 3]) := fun y hT a c hu => by
    have := c_engine_Look hT aw3 aw_in3.fl (by decide) (by decide) hu
    unfold Nt.v at this
    rw [aw_look3] at this
    exact this
  have hR2 : ∀ y, TensX y → ∀ a c, MsAt y aw2.ms (.slice a 1 c) → PureC Tryz.prog y 34 [.agg #[.int .i64 1000, .int .i64 100, .int .i64 10, .int .i64 1000, .int .i64 200000, .int .i64 60000000, .int .i64 20, .int .i64 50005, .int .i64 5, .int .i64 983040, .int .i64 68719476736, .int .i64 0, .int .i64 5000, .int .i64 5000, .int .i64 0, .bool true, .int .i64 400000, .int .i64 100000, .slice a 1 c, .int .i64 1, .int .i64 5000, .int .i64 50000, .int .i64 0, .int .i64 0, .bool false, .bool false, .int .i64 0, .int .i64 0, .bool false, .int .i64 0, .int .i64 0, .int .i64 0, .int .i64 0, .int .i64 0, .int .i64 0, .int .i64 0, .int .i64 50005, .int .i64 20000000000, .bool false]] (.int .i64 5000) := fun y hT a c hu => by have := c_engine_Resolved hT aw2 aw_in2.fl (by decide) hu; rw [aw_res2] at this; exact this
  have hR1 : ∀ y, TensX y → ∀ a c, MsAt y aw1.ms (.slice a 0 c) → PureC Tryz.prog y 34 [.agg #[.int .i64 1000, .int .i64 100, .int .i64 10, .int .i64 1000, .int .i64 200000, .int .i64 60000000, .int .i64 20, .int .i64 5, .int .i64 5, .int .i64 655360, .int .i64 68719476736, .int .i64 0, .int .i64 5000, .int .i64 0, .int .i64 5000, .bool false, .int .i64 0, .int .i64 0, .slice a 0 c, .int .i64 0, .int .i64 0, .int .i64 0, .int .i64 0, .int .i64 0, .bool false, .bool false, .int .i64 0, .int .i64 0, .bool false, .int .i64 0, .int .i64 0, .int .i64 0, .int .i64 0, .int .i64 0, .int .i64 0, .int .i64 0, .int .i64 5, .int .i64 15000000000, .bool false]] (.int .i64 0) := fun y hT a c hu => by have := c_engine_Resolved hT aw1 aw_in1.fl (by decide) hu; rw [aw_res1] at this; exact this
  have hC2 : ∀ y, TensX y → ∀ a c, MsAt y aw2.ms (.slice a 1 c) → PureC Tryz.prog y 25 [.agg #[.int .i64 1000, .int .i64 100, .int .i64 10, .int .i64 1000, .int .i64 200000, .int .i64 60000000, .int .i64 20, .int .i64 50005, .int .i64 5, .int .i64 983040, .int .i64 68719476736, .int .i64 0, .int .i64 5000, .int .i64 5000, .int .i64 0, .bool true, .int .i64 400000, .int .i64 100000, .slice a 1 c, .int .i64 1, .int .i64 5000, .int .i64 50000, .int .i64 0, .int .i64 0, .bool false, .bool false, .int .i64 0, .int .i64 0, .bool false, .int .i64 0, .int .i64 0, .int .i64 0, .int .i64 0, .int .i64 0, .int .i64 0, .int .i64 0, .int .i64 50005, .int .i64 20000000000, .bool false]] (.bool true) := fun y hT a c hu => by have := c_engine_Check hT aw2 aw_in2.fl (by decide) hu; rw [aw_ok2] at this; exact this
  have hC4 : ∀ y, TensX y → PureC Tryz.prog y 25 [.agg #[.int .i64 0, .int .i64 0, .int .i64 0, .int .i64 0, .int .i64 0, .int .i64 0, .int .i64 0, .int .i64 0, .int .i64 0, .int .i64 0, .int .i64 0, .int .i64 0, .int .i64 0, .int .i64 0, .int .i64 0, .bool false, .int .i64 0, .int .i64 0, .slice none 0 0, .int .i64 0, .int .i64 0, .int .i64 0, .int .i64 0, .int .i64 0, .bool false, .bool false, .int .i64 0, .int .i64 0, .bool false, .int .i64 0, .int .i64 0, .int .i64 0, .int .i64 0, .int .i64 0, .int .i64 0, .int .i64 0, .int .i64 0, .int .i64 0, .bool false]] (.bool false) := fun y hT => by have := c_engine_Check hT aw4 aw_in4.fl (by decide) (hm0 y); rw [aw_ok4] at this; exact this
  repeat' (first | (with_reducible refine fld_part _ _ _ _ _ _ ?_) | (with_reducible refine ifB_intro (fun _ => ?_) (fun _ => ?_)) | ((with_reducible show callW _ _ _ (some (22, _)) _ _); refine callP g_engine_New rfl (hN0 _) ?_) | ((with_reducible show callW _ _ _ (some (25, _)) _ _); refine callP g_engine_Check rfl (hC2 _ hT5 _ _ hu3) ?_) | ((with_reducible show callW _ _ _ (some (25, _)) _ _); refine callP g_engine_Check rfl (hC4 _ hT5) ?_) | ((with_reducible show callW _ _ _ (some (29, _)) _ _); refine callP g_engine_Do rfl () ?_) | ((with_reducible show callW _ _ _ (some (30, _)) _ _); refine callP g_engine_Look rfl (hL2 _ hT5 _ _ hu3) ?_) | ((with_reducible show callW _ _ _ (some (30, _)) _ _); refine callP g_engine_Look rfl (hL3 _ hT5 _ _ hu4) ?_) | ((with_reducible show callW _ _ _ (some (34, _)) _ _); refine callP g_engine_Resolved rfl (hR2 _ hT5 _ _ hu3) ?_) | ((with_reducible show callW _ _ _ (some (34, _)) _ _); refine callP g_engine_Resolved rfl (hR1 _ hT5 _ _ hu1) ?_) | ((fail_if_success (with_reducible refine stk ?_)); simp only [WE, Nat.reduceLeDiff, segX, Nat.reduceBEq, Nat.reduceAdd, Nat.reduceEqDiff, Int.reduceNeg, Int.reduceEq, Int.reduceBEq, Int.reduceLT, Int.reduceLE, Int.reduceBNe, Int.reduceToNat, Nat.reduceMul, Nat.reduceMod, Int.reducePow, reduceIte, ty_3, ty_23, ty_49, ty_54, fo_49_3, fo_49_4, fo_49_5, fo_54_1, fo_54_3, fo_54_4, fo_54_5, tz_23, tz_49, tz_54, bd_23, bd_49, bd_64, Tryz.underlying3, Tryz.underlying30, rs_32, cells_agg, beq_self_eq_true, Bool.and_self]))
end Go.Proofs.YtkokohkbhlnjkaaGreatDoor
namespace Go.Proofs.YtkokohkbhlnjkaaGreatDoor
set_option linter.unusedVariables false
set_option linter.unusedSimpArgs false
open Go Go.RowKit Go.ChangeShapes Go.WideShapes Go.ChangeAt Go.Proofs.YtkokohkbhlnjkaaGreatDoor.R
set_option maxRecDepth 100000
namespace R
theorem laidMetH_of_heap {P : Program} {w w' : World} {l : List (String × DataW Unit)} (hn : (l.all fun x => x.2.handleName?.isNone) = true) (hh : w.heap = w'.heap) (h : laidMetH P l w) : laidMetH P l w' := by
  rw [MakeChecks.laidMetH_plain _ _ _ hn] at h ⊢
  exact h.of_heap hh
theorem leaving_of_handed {a : Assume} {C : Checked} {os : Os} {f : FuncId} {r : Reach} {Pre : World → Array Value → Prop} {Post : World → Array Value → Value → World → Prop} (h : ReturnsInHanded a C os f r Pre Post) : ReturnsInLeavingWide a C os f r Pre Post :=
  fun e => ReturnsInOpen.mono (fun _ _ _ x => ⟨x.2.1, onlyLeaving_of_quiet x.1, x.2.2⟩) (fun _ x => x) (h e)
theorem row_laid {C : Checked} {os : Os} {f : FuncId} {fn : Func} {s : ChangeSpec} {H : Type} {enc : TypeId × Value → H} {conds : List PathCond} {tb : TypeId} {ys : List Ty} {l : List (String × DataW Unit)} {Xs : (Nat → Obj → Prop) → Prop}
    (hn : (l.all fun x => x.2.handleName?.isNone) = true)
    (own : ownKnob C.prog.godebug = none) (started : os.Started) (noInit : C.prog.inits.idxOf? f = none) (hfn : C.prog.funcs[f]? = some fn)
    (witness : ∃ (w : World) (tape : Tape) (i : Input), w.os = os ∧ (w.forCall tape i).Shaped C.prog ∧ i.vars = [] ∧ Input.okWide C.prog (w.forCall tape i) .any w.heap.size f i ∧
      ((s.pre enc C.prog fn conds false (w.forCall tape i).memory i.args ∧ laidMetH C.prog l (w.forCall tape i).memory) ∧ sizedMet enc C.prog fn (OpenSpec.ofChange s) false (w.forCall tape i).memory i.args) ∧ ({} : Assume).holds C.prog (lone (Frame.enter C.prog f i.args .normal) [] (w.forCall tape i)))
    (hv : s.vars = []) (hl : laidOutB C.prog = true) (hpar : fn.params.toList.all (fun t => C.prog.readableRec t && decide (t < C.prog.types.size)) = true)
    (hres : fn.resultTypes = #[tb]) (htb : C.prog.underlying tb = some .bool)
    (hsp : ∀ ds : List (DataW H), ds.length = fn.params.toList.length → (s.fn H ds).results = [.lit (.bool true)] ∧ (s.fn H ds).args = ds ∧ (s.fn H ds).vars = [])
    (hys : tysOf C.prog fn.params.toList = some ys)
    (hX : ∀ W : World, laidMetH C.prog l W → Xs (fun b o => W.heap[b]? = some o))
    (hp : ∀ (x : Nat → Obj → Prop) (vs : List Value), Xs x → Shvs x ys vs → PureC C.prog x f vs (.bool true)) :
    ReturnsInLeavingWide {} C os f .any (fun w args => (s.pre enc C.prog fn conds false w args ∧ laidMetH C.prog l w) ∧ sizedMet enc C.prog fn (OpenSpec.ofChange s) false w args) (s.post enc C.prog fn false true false false) := by
  refine leaving_of_handed (returnsInHanded_of_change_and (X := fun w _ => laidMetH C.prog l w) (fun _ _ _ hh h => laidMetH_of_heap hn hh h) own started noInit hfn witness ?_)
  intro W base args ds gs before hval hW _ _ hL _
  have hW' := hW
  obtain ⟨p, q, hA, hV, rfl, hfz, hnd⟩ := hW
  rw [hv] at hV
  obtain ⟨rfl, rfl⟩ := trodVars_none hV
  have hsh := shvs _ _ _ _ _ base hys (fun j t v h1 h2 => hval j t v (by simpa using h1) (by simpa using h2)) hA
  have hlen := trodAll_len _ _ _ _ hA
  refine (hp _ _ (hX W hL) hsh).alone.mono fun e W' ⟨he, bel⟩ => ?_
  subst he
  obtain ⟨s1, s2, s3⟩ := hsp ds hlen
  refine ⟨_, rfl, ds, [], p ++ [], [], p, [], hW', ?_, ?_, ?_, bel.frame _, fun h => by cases h⟩
  · rw [List.append_nil, s1, hres]; exact trodAll_mk1 (shut_bool htb _)
  · rw [List.append_nil, s2]; exact trodAll_below hl bel _ _ _ _ hpar hA
  · rw [List.append_nil, s3, hv]; rfl
theorem card_goes {p : Pinned} {s : OpenSpec} {c : OpenClaim} (kinds : List LaidKind) (tests : Bool) (har : Bool × String) (lk : Bool)
    (hc : c.holds p s) (hw : c.wfByText s = true) (htie : c.laidByTextAt .later p kinds tests)
    (hst : c.start = .entering) (hnb : c.noBlocks = false ∧ c.again = false) (hm : p.checked.prog.mainIs = some (har.1, har.2.toList)) (hn : (!har.1 && har.2.isEmpty && !lk) = false)
    (hl : ∀ f fn, p.checked.prog.funcNamed c.func = some f → p.checked.prog.funcs[f]? = some fn → lk = p.checked.prog.looks [] ∧ ∀ (j : Nat) t, fn.params[j]? = some t → p.checked.prog.wantsStandIn t = false)
    (hg : true = c.goesBy p.checked.prog) :
    Claim7.holds p (.plain s) { stood := { row := c, standIns := [], harness := har, looks := lk }, kinds := [], alts := [], goes := true, laidByText := true, laidKinds := kinds, laidTests := tests, laidLooks := .later } := by
  have h6 : Claim7.isSixth { stood := { row := c, standIns := [], harness := har, looks := lk }, kinds := [] } = false := by simpa [Claim7.isSixth] using hn
  refine ⟨?_, (fun _ h => by cases h), htie, (fun h => by cases h), hg⟩
  obtain ⟨_, rest⟩ := Claim7.new_of_sixth hc har lk hst hnb hm h6 hl
  exact ⟨hw, rest⟩
end R
end Go.Proofs.YtkokohkbhlnjkaaGreatDoor
namespace Go.Proofs.YtkokohkbhlnjkaaGreatDoor
set_option linter.unusedVariables false
set_option linter.unusedSimpArgs false
open Go Go.RowKit Go.ChangeShapes Go.WideShapes Go.ChangeAt Go.Proofs.YtkokohkbhlnjkaaGreatDoor.R
set_option maxRecDepth 100000
theorem tens_laid (W : World) (h : laidMetH Tryz.prog [("sawtooth/epoch.tens", Rows.laid_sawtooth_epoch_tens)] W) : TensX (fun b o => W.heap[b]? = some o) := by
  rw [MakeChecks.laidMetH_plain _ _ _ (by kernel_rfl)] at h
  obtain ⟨ps, ⟨g, t, cs, fuel, p, q, hg, ht, hv, hd, _, _⟩, _, _⟩ := h
  obtain rfl := Option.some.inj ((show Tryz.prog.globalNamed "sawtooth/epoch.tens" = some 0 by kernel_rfl).symm.trans hg)
  obtain rfl := Option.some.inj ((show (Tryz.prog.globals[0]?).map (·.type) = some 221 by kernel_rfl).symm.trans ht)
  obtain ⟨xs, m, _, ex, hcl, hl, hel⟩ := DataW.trod_array Tryz.underlying221 hd
  have c5 : Tryz.prog.cellsOf 144 = 1 := by kernel_rfl
  have key : ∀ r, r < 2 → ∃ z : Int, cs.toList[r]? = some (.int .u64 z) ∧ (xs.map (·.1))[r]? = some (.lit (.int .u64 z)) := fun r hr => by
    have hE := hel r (by omega)
    rw [c5, Nat.mul_one, List.getElem?_eq_getElem (by omega)] at hE
    obtain ⟨z, e1, e2, _⟩ := DataW.trod_int Tryz.underlying144 hE
    refine ⟨z, ?_, ?_⟩
    · have h0 : ((cs.toList.drop r).take 1)[0]? = some (.int .u64 z) := by rw [e1]; rfl
      simpa using h0
    · rw [List.getElem?_map, List.getElem?_eq_getElem (by omega : r < xs.length), e2]; rfl
  have e3 : (xs.map (·.1)) = [.lit (.int .u64 1000000000), .lit (.int .u64 10000000000)] := (DataW.agg.inj (Prod.mk.inj ex).1).symm
  obtain ⟨z0, a0, b0⟩ := key 0 (by omega)
  obtain ⟨z1, a1, b1⟩ := key 1 (by omega)
  rw [e3] at b0 b1
  simp only [List.getElem?_cons_zero, List.getElem?_cons_succ, Option.some.injEq, DataW.lit.injEq, Lit.int.injEq, true_and] at b0 b1
  subst b0; subst b1
  have hc : cs.toList.length = 2 := hcl.trans (by kernel_rfl)
  have hcs : cs = #[.int .u64 1000000000, .int .u64 10000000000] := by
    obtain ⟨l⟩ := cs
    match l, hc with
    | [a, b], _ =>
      simp at a0 a1
      subst a0; subst a1; rfl
  unfold World.var? at hv
  rw [show Tryz.prog.globalNamed "sawtooth/epoch.tens" = some 0 by kernel_rfl] at hv
  simp only [Option.bind_some] at hv
  split at hv
  · rename_i cs' T f he
    cases hv
    subst hcs
    exact ⟨T, f, he⟩
  · cases hv
theorem main_ : Tryz.pinned.checked.prog.mainIs = some (true, "9743dcc7216159cedf5af689d9831578d52e7622345c3cbb87c8bebbc0866563".toList) := by kernel_rfl
theorem looks_ : true = Tryz.pinned.checked.prog.looks [] := by kernel_rfl
end Go.Proofs.YtkokohkbhlnjkaaGreatDoor
namespace Go.Proofs.YtkokohkbhlnjkaaGreatDoor
set_option linter.unusedVariables false
set_option linter.unusedSimpArgs false
open Go Go.RowKit Go.Proofs.YtkokohkbhlnjkaaGreatDoor.R
set_option maxRecDepth 50000
set_option maxHeartbeats 4000000
theorem shs_i {x : Nat → Obj → Prop} {r : Tys} {cs : List Value} (h : Shs x (.cons 1 (.i .i64) r) cs) : ∃ n b, cs = .int .i64 n :: b ∧ in64 n ∧ Shs x r b := by
  unfold Shs at h
  obtain ⟨a, b, rfl, _, h1, h2⟩ := h
  unfold Sh at h1
  obtain ⟨n, rfl, hw⟩ := h1
  exact ⟨n, b, rfl, wf_i64_out hw, h2⟩
theorem shs_b {x : Nat → Obj → Prop} {r : Tys} {cs : List Value} (h : Shs x (.cons 1 .b r) cs) : ∃ t b, cs = .bool t :: b ∧ Shs x r b := by
  unfold Shs at h
  obtain ⟨a, b, rfl, _, h1, h2⟩ := h
  unfold Sh at h1
  obtain ⟨t, rfl⟩ := h1
  exact ⟨t, b, rfl, h2⟩
theorem shs_r {x : Nat → Obj → Prop} {n : Nat} {l r : Tys} {cs : List Value} (h : Shs x (.cons n (.r l) r) cs) : ∃ a b, cs = a ++ b ∧ Shs x l a ∧ Shs x r b := by
  unfold Shs at h
  obtain ⟨a, b, rfl, _, h1, h2⟩ := h
  unfold Sh at h1
  exact ⟨a, b, rfl, h1, h2⟩
theorem shs_n {x : Nat → Obj → Prop} {cs : List Value} (h : Shs x .nil cs) : cs = [] := by unfold Shs at h; exact h
def XFun (x : Nat → Obj → Prop) : Prop := ∀ b o o', x b o → x b o' → o = o'
theorem shs_m {x : Nat → Obj → Prop} {r : Tys} {cs : List Value} (hf : XFun x) (h : Shs x (.cons 1 (.v 2 (.r (.cons 1 (.i .i64) (.cons 1 (.i .i64) .nil)))) r) cs) : ∃ ms a cap b, cs = .slice a ms.length cap :: b ∧ MsAt x ms (.slice a ms.length cap) ∧ Shs x r b := by
  unfold Shs at h
  obtain ⟨p, b, rfl, _, h1, h2⟩ := h
  unfold Sh at h1
  obtain ⟨a, len, cap, rfl, hc, hm, hi⟩ := h1
  have key : ∀ i, ∃ z : Int × Int, i < len → ∃ b off c T fr, a = some ⟨b, off, none⟩ ∧ x b (.cells c T fr) ∧ c[off + i * 2]? = some (.int .i64 z.1) ∧ c[off + i * 2 + 1]? = some (.int .i64 z.2) := fun i => by
    by_cases hlt : i < len
    · obtain ⟨ds, hl, hs, hj⟩ := hi i hlt
      unfold Sh at hs
      obtain ⟨n1, b1, rfl, _, hs⟩ := shs_i hs
      obtain ⟨n2, b2, rfl, _, hs⟩ := shs_i hs
      have := shs_n hs; subst this
      obtain ⟨q, off, c, T, fr, he, hx, hc0⟩ := hj 0 (by decide)
      obtain ⟨q', off', c', T', fr', he', hx', hc1⟩ := hj 1 (by decide)
      rw [he] at he'
      cases he'
      cases hf _ _ _ hx hx'
      exact ⟨(n1, n2), fun _ => ⟨q, off, c, T, fr, he, hx, by simpa using hc0, by simpa using hc1⟩⟩
    · exact ⟨(0, 0), fun h => absurd h hlt⟩
  have hlen : ((List.range len).map fun i => Classical.choose (key i)).length = len := by simp
  refine ⟨(List.range len).map fun i => Classical.choose (key i), a, cap, b, by rw [hlen]; rfl, ?_, h2⟩
  unfold MsAt
  rw [hlen]
  refine ⟨a, cap, rfl, hc, hm, fun hn => ?_, Mks_of fun i hlt => ?_⟩
  · cases len with
    | zero => rfl
    | succ k =>
      obtain ⟨q, off, c, T, fr, he, _⟩ := Classical.choose_spec (key 0) (by omega)
      rw [hn] at he; cases he
  · have e : mkF ((List.range len).map fun i => Classical.choose (key i)) i = Classical.choose (key i) := by
      unfold mkF
      simp [List.getD, hlt]
    rw [e]
    exact Classical.choose_spec (key i) hlt
def Es.ints (s : Es) : List Int := [s.cf.seg, s.cf.max, s.cf.first, s.cf.grain, s.cf.least, s.cf.great, s.cf.burst, s.now, s.last, s.win, s.thr, s.high, s.fl.sent, s.fl.told, s.fl.out, s.rtt.mean, s.rtt.far, s.rd.id, s.rd.end_,
  s.hy.last, s.hy.least, s.hy.many, s.hy.base, s.hy.rounds, s.ep.start, s.ep.first, s.ep.max, s.ep.k, s.ep.est, s.rec_, s.back, s.bk.at_, s.bk.have_]
def EsW (s : Es) : Prop := ∀ n ∈ s.ints, in64 n
theorem EsW.in_ {s : Es} (h : EsW s) (hl : s.ms.length ≤ 90000) : EsIn s := by
  refine ⟨?_, h _ ?_, h _ ?_, hl⟩
  · constructor <;> exact h _ (by simp [Es.ints])
  · simp [Es.ints]
  · simp [Es.ints]
theorem shv_state {x : Nat → Obj → Prop} {v : Value} (hf : XFun x) (h : Shv x (.r (.cons 7 (.r (.cons 1 (.i .i64) (.cons 1 (.i .i64) (.cons 1 (.i .i64) (.cons 1 (.i .i64) (.cons 1 (.i .i64) (.cons 1 (.i .i64) (.cons 1 (.i .i64) (.nil))))))))) (.cons 1 (.i .i64) (.cons 1 (.i .i64) (.cons 1 (.i .i64) (.cons 1 (.i .i64) (.cons 1 (.i .i64) (.cons 3 (.r (.cons 1 (.i .i64) (.cons 1 (.i .i64) (.cons 1 (.i .i64) (.nil))))) (.cons 3 (.r (.cons 1 (.b) (.cons 1 (.i .i64) (.cons 1 (.i .i64) (.nil))))) (.cons 1 (.v 2 (.r (.cons 1 (.i .i64) (.cons 1 (.i .i64) (.nil))))) (.cons 2 (.r (.cons 1 (.i .i64) (.cons 1 (.i .i64) (.nil)))) (.cons 7 (.r (.cons 1 (.i .i64) (.cons 1 (.i .i64) (.cons 1 (.i .i64) (.cons 1 (.b) (.cons 1 (.b) (.cons 1 (.i .i64) (.cons 1 (.i .i64) (.nil))))))))) (.cons 6 (.r (.cons 1 (.b) (.cons 1 (.i .i64) (.cons 1 (.i .i64) (.cons 1 (.i .i64) (.cons 1 (.i .i64) (.cons 1 (.i .i64) (.nil)))))))) (.cons 1 (.i .i64) (.cons 1 (.i .i64) (.cons 2 (.r (.cons 1 (.i .i64) (.cons 1 (.i .i64) (.nil)))) (.cons 1 (.b) (.nil)))))))))))))))))) v) : ∃ s a cap, v = Es.v s (.slice a s.ms.length cap) ∧ EsW s ∧ MsAt x s.ms (.slice a s.ms.length cap) := by
  unfold Shv at h
  obtain ⟨cs, rfl, h⟩ := h
  obtain ⟨p0, q0, e0, c1_, h2_⟩ := shs_r h
  obtain ⟨c1, _, rfl, w1, c3_⟩ := shs_i c1_
  obtain ⟨c2, _, rfl, w2, c4_⟩ := shs_i c3_
  obtain ⟨c3, _, rfl, w3, c5_⟩ := shs_i c4_
  obtain ⟨c4, _, rfl, w4, c6_⟩ := shs_i c5_
  obtain ⟨c5, _, rfl, w5, c7_⟩ := shs_i c6_
  obtain ⟨c6, _, rfl, w6, c8_⟩ := shs_i c7_
  obtain ⟨c7, _, rfl, w7, c9_⟩ := shs_i c8_
  have := shs_n c9_; subst this
  obtain ⟨n1, _, rfl, w8, h10_⟩ := shs_i h2_
  obtain ⟨n2, _, rfl, w9, h11_⟩ := shs_i h10_
  obtain ⟨n3, _, rfl, w10, h12_⟩ := shs_i h11_
  obtain ⟨n4, _, rfl, w11, h13_⟩ := shs_i h12_
  obtain ⟨n5, _, rfl, w12, h14_⟩ := shs_i h13_
  obtain ⟨_, _, rfl, c15_, h16_⟩ := shs_r h14_
  obtain ⟨f1, _, rfl, w13, c17_⟩ := shs_i c15_
  obtain ⟨f2, _, rfl, w14, c18_⟩ := shs_i c17_
  obtain ⟨f3, _, rfl, w15, c19_⟩ := shs_i c18_
  have := shs_n c19_; subst this
  obtain ⟨_, _, rfl, c20_, h21_⟩ := shs_r h16_
  obtain ⟨r1, _, rfl, c22_⟩ := shs_b c20_
  obtain ⟨r2, _, rfl, w16, c23_⟩ := shs_i c22_
  obtain ⟨r3, _, rfl, w17, c24_⟩ := shs_i c23_
  have := shs_n c24_; subst this
  obtain ⟨ms, a, cap, _, rfl, hm, h25_⟩ := shs_m hf h21_
  obtain ⟨_, _, rfl, c26_, h27_⟩ := shs_r h25_
  obtain ⟨d1, _, rfl, w18, c28_⟩ := shs_i c26_
  obtain ⟨d2, _, rfl, w19, c29_⟩ := shs_i c28_
  have := shs_n c29_; subst this
  obtain ⟨_, _, rfl, c30_, h31_⟩ := shs_r h27_
  obtain ⟨y1, _, rfl, w20, c32_⟩ := shs_i c30_
  obtain ⟨y2, _, rfl, w21, c33_⟩ := shs_i c32_
  obtain ⟨y3, _, rfl, w22, c34_⟩ := shs_i c33_
  obtain ⟨y4, _, rfl, c35_⟩ := shs_b c34_
  obtain ⟨y5, _, rfl, c36_⟩ := shs_b c35_
  obtain ⟨y6, _, rfl, w23, c37_⟩ := shs_i c36_
  obtain ⟨y7, _, rfl, w24, c38_⟩ := shs_i c37_
  have := shs_n c38_; subst this
  obtain ⟨_, _, rfl, c39_, h40_⟩ := shs_r h31_
  obtain ⟨p1, _, rfl, c41_⟩ := shs_b c39_
  obtain ⟨p2, _, rfl, w25, c42_⟩ := shs_i c41_
  obtain ⟨p3, _, rfl, w26, c43_⟩ := shs_i c42_
  obtain ⟨p4, _, rfl, w27, c44_⟩ := shs_i c43_
  obtain ⟨p5, _, rfl, w28, c45_⟩ := shs_i c44_
  obtain ⟨p6, _, rfl, w29, c46_⟩ := shs_i c45_
  have := shs_n c46_; subst this
  obtain ⟨n6, _, rfl, w30, h47_⟩ := shs_i h40_
  obtain ⟨n7, _, rfl, w31, h48_⟩ := shs_i h47_
  obtain ⟨_, _, rfl, c49_, h50_⟩ := shs_r h48_
  obtain ⟨b1, _, rfl, w32, c51_⟩ := shs_i c49_
  obtain ⟨b2, _, rfl, w33, c52_⟩ := shs_i c51_
  have := shs_n c52_; subst this
  obtain ⟨l1, _, rfl, h53_⟩ := shs_b h50_
  have := shs_n h53_; subst this
  refine ⟨⟨⟨c1, c2, c3, c4, c5, c6, c7⟩, n1, n2, n3, n4, n5, ⟨f1, f2, f3⟩, ⟨r1, r2, r3⟩, ms, ⟨d1, d2⟩, ⟨y1, y2, y3, y4, y5, y6, y7⟩, ⟨p1, p2, p3, p4, p5, p6⟩, n6, n7, ⟨b1, b2⟩, l1⟩, a, cap, ?_, ?_, hm⟩
  · obtain ⟨l⟩ := cs
    have e : l = _ := e0
    subst e
    rfl
  · intro n hn
    simp only [Es.ints, List.mem_cons, List.not_mem_nil, or_false] at hn
    rcases hn with rfl | rfl | rfl | rfl | rfl | rfl | rfl | rfl | rfl | rfl | rfl | rfl | rfl | rfl | rfl | rfl | rfl | rfl | rfl | rfl | rfl | rfl | rfl | rfl | rfl | rfl | rfl | rfl | rfl | rfl | rfl | rfl | rfl <;> assumption
theorem shv_event {x : Nat → Obj → Prop} {v : Value} (h : Shv x (.r (.cons 1 (.i .i64) (.cons 1 (.i .i64) (.cons 1 (.i .i64) (.cons 1 (.i .i64) (.nil)))))) v) : ∃ e : Ev, v = e.v ∧ in64 e.kind ∧ in64 e.time ∧ in64 e.bytes ∧ in64 e.rtt := by
  unfold Shv at h
  obtain ⟨cs, rfl, h⟩ := h
  obtain ⟨c1, q0, e0, w1, h54_⟩ := shs_i h
  obtain ⟨c2, _, rfl, w2, h55_⟩ := shs_i h54_
  obtain ⟨c3, _, rfl, w3, h56_⟩ := shs_i h55_
  obtain ⟨c4, _, rfl, w4, h57_⟩ := shs_i h56_
  have := shs_n h57_; subst this
  refine ⟨⟨c1, c2, c3, c4⟩, ?_, w1, w2, w3, w4⟩
  obtain ⟨l⟩ := cs
  have e : l = _ := e0
  subst e
  rfl
theorem shv_int {x : Nat → Obj → Prop} {v : Value} (h : Shv x (.i .i64) v) : ∃ n, v = .int .i64 n ∧ in64 n := by
  obtain ⟨n, rfl, hw⟩ := h
  exact ⟨n, rfl, wf_i64_out hw⟩
theorem heap_fun (W : World) : XFun (fun b o => W.heap[b]? = some o) := fun b o o' h h' => Option.some.inj (h.symm.trans h')
def XLaid (x : Nat → Obj → Prop) : Prop := TensX x ∧ XFun x
theorem laid_x (W : World) (h : laidMetH Tryz.prog [("sawtooth/epoch.tens", Rows.laid_sawtooth_epoch_tens)] W) : XLaid (fun b o => W.heap[b]? = some o) := ⟨tens_laid W h, heap_fun W⟩
end Go.Proofs.YtkokohkbhlnjkaaGreatDoor
namespace Go.Proofs.YtkokohkbhlnjkaaGreatDoor
set_option linter.unusedVariables false
set_option linter.unusedSimpArgs false
open Go Go.RowKit Go.Proofs.YtkokohkbhlnjkaaGreatDoor.R
set_option maxRecDepth 50000
set_option maxHeartbeats 4000000
theorem esDo_err {s : Es} {e : Ev} (h : (esDo s e).2 ≠ 0) : (esDo s e).1 = s := by
  revert h
  unfold esDo
  simp only [Bool.cond_eq_ite]
  (repeat' split) <;> intro h <;> first | rfl | (exfalso; rename_i h1; exact h (by simpa using h1))
theorem esDo_good {s : Es} {e : Ev} (h : (esDo s e).2 = 0) : EsOk s ∧ evCheck e.kind e.time e.bytes e.rtt = 0 ∧ s.now ≤ e.time ∧ e.time ≤ 1099511627776 ∧ esDo s e = esBy (esAt s e.time) e ∧ EsOk (esAt s e.time) ∧ (esBy (esAt s e.time) e).2 = 0 := by
  cases h0 : esOk s with
  | false => exfalso; unfold esDo at h; rw [h0] at h; simp at h
  | true =>
    have hs := (esOk_iff s).1 h0
    by_cases h1 : evCheck e.kind e.time e.bytes e.rtt = 0
    rotate_left
    · exfalso; unfold esDo at h; rw [h0] at h; simp [h1] at h
    by_cases h2 : (clkStep s.now e.time).2 = 0
    rotate_left
    · exfalso; unfold esDo at h; rw [h0] at h; simp [h1, h2] at h
    have h3 : 0 ≤ e.time ∧ e.time ≤ 1099511627776 ∧ s.now ≤ e.time ∧ (clkStep s.now e.time).1 = e.time := by
      revert h2
      unfold clkStep clkCheck
      simp only [Bool.cond_eq_ite]
      (repeat' split) <;> simp_all <;> omega
    obtain ⟨a1, a2, a3, a4⟩ := h3
    have h4 := esAt_ok hs a3 a2
    have e1 : esDo s e = if (esBy (esAt s e.time) e).2 ≠ 0 then (s, (esBy (esAt s e.time) e).2) else esBy (esAt s e.time) e := by
      unfold esDo; rw [h0, a4]; simp [h1, h2, h4.1]
    by_cases h5 : (esBy (esAt s e.time) e).2 = 0
    · exact ⟨hs, h1, a3, a2, by rw [e1, if_neg (by simpa using h5)], h4.2, h5⟩
    · exfalso; rw [e1, if_pos h5] at h; exact h5 h
theorem esCut_keep (s : Es) : (esCut s).cf = s.cf ∧ (esCut s).now = s.now := by unfold esCut; simp only [Bool.cond_eq_ite]; split <;> exact ⟨rfl, rfl⟩
theorem esWake_keep (s : Es) (e : Ev) : (esWake s e).cf = s.cf ∧ (esWake s e).now = s.now := by unfold esWake; split <;> exact ⟨rfl, rfl⟩
theorem esSend_keep (s : Es) (e : Ev) : (esSend s e).1.cf = s.cf ∧ (esSend s e).1.now = s.now := by
  have h := esWake_keep s e
  unfold esSend
  revert h
  generalize esWake s e = t
  intro h
  unfold esSend0
  (repeat' split) <;> exact h
theorem esTimes_keep (s : Es) (e : Ev) : (esTimes s e).1.cf = s.cf ∧ (esTimes s e).1.now = s.now := by unfold esTimes; simp only [Bool.cond_eq_ite]; (repeat' split) <;> exact ⟨rfl, rfl⟩
theorem esRound_keep (s : Es) : (esRound s).1.cf = s.cf ∧ (esRound s).1.now = s.now := by unfold esRound; simp only [Bool.cond_eq_ite]; (repeat' split) <;> exact ⟨rfl, rfl⟩
theorem esCalm_keep (s : Es) (e : Ev) (n : Int) : (esCalm s e n).1.cf = s.cf ∧ (esCalm s e n).1.now = s.now := by
  have h0 : (esCalm0 s e).1.cf = s.cf ∧ (esCalm0 s e).1.now = s.now := by unfold esCalm0; simp only [Bool.cond_eq_ite]; (repeat' split) <;> exact ⟨rfl, rfl⟩
  unfold esCalm
  split
  · exact h0
  · unfold esCalm1; exact h0
theorem esGrow_keep (s : Es) (e : Ev) : (esGrow s e).1.cf = s.cf ∧ (esGrow s e).1.now = s.now := by
  unfold esGrow
  simp only [Bool.cond_eq_ite]
  (repeat' split) <;> first | exact ⟨rfl, rfl⟩ | exact esCalm_keep ..
theorem esAck_keep (s : Es) (e : Ev) : (esAck s e).1.cf = s.cf ∧ (esAck s e).1.now = s.now := by
  unfold esAck
  have h1 := esTimes_keep (esTold s e) e
  have h2 := esRound_keep (esTimes (esTold s e) e).1
  have h3 := esGrow_keep (esRound (esTimes (esTold s e) e).1).1 e
  (repeat' split) <;> first | exact ⟨rfl, rfl⟩ | exact ⟨h3.1.trans (h2.1.trans h1.1), h3.2.trans (h2.2.trans h1.2)⟩
theorem esBy_keep (s : Es) (e : Ev) : (esBy s e).1.cf = s.cf ∧ (esBy s e).1.now = s.now := by
  unfold esBy
  (repeat' split)
  · exact esSend_keep s e
  · exact esAck_keep s e
  · unfold esLose; split
    · exact ⟨rfl, rfl⟩
    · exact esCut_keep _
  · exact esCut_keep s
  · unfold esLate; (repeat' split) <;> exact ⟨rfl, rfl⟩
  · exact ⟨rfl, rfl⟩
  · exact ⟨rfl, rfl⟩
theorem esDo_stays {s : Es} {e : Ev} (h : (esDo s e).2 = 0) : EsOk s ∧ EsOk (esDo s e).1 ∧ (esDo s e).1.cf = s.cf ∧ (esDo s e).1.now = e.time := by
  obtain ⟨h1, h2, h3, h4, h5, h6, h7⟩ := esDo_good h
  have hk := esBy_keep (esAt s e.time) e
  rw [h5]
  exact ⟨h1, esBy_ok h6 rfl h7, hk.1, hk.2⟩
theorem do_gen {y : Nat → Obj → Prop} (hT : TensX y) {s t : Es} {e : Ev} {n : Int} (h : esDo s e = (t, n)) (hi : EsIn s) {u : Value} (hu : MsAt y s.ms u) : RetE Tryz.prog y 29 [s.v u, e.v] (fun v x => ∃ a c, v = .tuple #[t.v (.slice a t.ms.length c), .int .i64 n] ∧ MsAt x t.ms (.slice a t.ms.length c)) := by
  have hd := c_engine_Do hT s e hi hu
  refine ⟨fun w h1 h2 => (hd.out w h1 h2).mono ?_⟩
  rintro _ _ ⟨v, x', h3, ⟨u, h4, h5⟩, h6⟩
  rw [h] at h4 h5
  obtain ⟨a, c, rfl, h5⟩ := h5
  exact ⟨v, x', h3, ⟨a, c, h4, a, c, rfl, h5⟩, h6⟩
end Go.Proofs.YtkokohkbhlnjkaaGreatDoor
namespace Go.Proofs.YtkokohkbhlnjkaaGreatDoor
set_option linter.unusedVariables false
set_option linter.unusedSimpArgs false
open Go Go.RowKit Go.Proofs.YtkokohkbhlnjkaaGreatDoor.R
set_option maxRecDepth 50000
set_option maxHeartbeats 4000000
theorem putLen_le (f : Nat → Int × Int) (len : Nat) (win t n : Int) : putLen f len win t n ≤ len + 1 := by
  have := putK_le f len n
  unfold putLen
  split <;> omega
theorem esCut_fl (s : Es) : (esCut s).fl = s.fl ∧ (esCut s).ms = s.ms := by unfold esCut; simp only [Bool.cond_eq_ite]; split <;> exact ⟨rfl, rfl⟩
theorem esWake_fl (s : Es) (e : Ev) : (esWake s e).fl = s.fl ∧ (esWake s e).ms = s.ms ∧ (esWake s e).bk = s.bk := by unfold esWake; split <;> exact ⟨rfl, rfl, rfl⟩
theorem esTimes_fl (s : Es) (e : Ev) : (esTimes s e).1.fl = s.fl ∧ (esTimes s e).1.ms.length ≤ s.ms.length + 1 := by
  have h := @putL_len s.ms 10000000 e.time e.rtt
  have h2 := putLen_le (mkF s.ms) s.ms.length 10000000 e.time e.rtt
  unfold esTimes; simp only [Bool.cond_eq_ite]; (repeat' split) <;> refine ⟨rfl, ?_⟩ <;> dsimp only <;> omega
theorem esRound_fl (s : Es) : (esRound s).1.fl = s.fl ∧ (esRound s).1.ms = s.ms := by unfold esRound; simp only [Bool.cond_eq_ite]; (repeat' split) <;> exact ⟨rfl, rfl⟩
theorem esCalm_fl (s : Es) (e : Ev) (n : Int) : (esCalm s e n).1.fl = s.fl ∧ (esCalm s e n).1.ms = s.ms := by
  have h0 : (esCalm0 s e).1.fl = s.fl ∧ (esCalm0 s e).1.ms = s.ms := by unfold esCalm0; simp only [Bool.cond_eq_ite]; (repeat' split) <;> exact ⟨rfl, rfl⟩
  unfold esCalm
  split
  · exact h0
  · unfold esCalm1; exact h0
theorem esGrow_fl (s : Es) (e : Ev) : (esGrow s e).1.fl = s.fl ∧ (esGrow s e).1.ms = s.ms := by
  unfold esGrow
  simp only [Bool.cond_eq_ite]
  (repeat' split) <;> first | exact ⟨rfl, rfl⟩ | exact esCalm_fl ..
theorem flBack_out (f : Fl) (n t : Int) : (flBack f n t).1.sent = f.sent ∧ (flBack f n t).1.out ≤ f.out := by
  unfold flBack
  (repeat' split) <;> refine ⟨rfl, ?_⟩ <;> dsimp only <;> omega
theorem esBy_ms (s : Es) (e : Ev) : (esBy s e).1.ms.length ≤ s.ms.length + 1 := by
  unfold esBy
  (repeat' split)
  · have h := (esWake_fl s e).2.1
    unfold esSend
    revert h
    generalize esWake s e = t
    intro h
    unfold esSend0
    (repeat' split) <;> dsimp only <;> rw [h] <;> omega
  · unfold esAck
    have h1 := (esTimes_fl (esTold s e) e).2
    have h2 := (esRound_fl (esTimes (esTold s e) e).1).2
    have h3 := (esGrow_fl (esRound (esTimes (esTold s e) e).1).1 e).2
    have h4 : (esTold s e).ms = s.ms := rfl
    (repeat' split) <;> first | (dsimp only; omega) | (rw [h3, h2, ← h4]; exact h1)
  · unfold esLose; split
    · dsimp only; omega
    · dsimp only; rw [(esCut_fl _).2]; dsimp only; omega
  · dsimp only; rw [(esCut_fl _).2]; omega
  · unfold esLate; (repeat' split) <;> dsimp only <;> omega
  · dsimp only; omega
  · dsimp only; omega
theorem esBy_out (s : Es) (e : Ev) (hk : e.kind ≠ 6) : (esBy s e).1.fl.sent = s.fl.sent ∧ (esBy s e).1.fl.out ≤ s.fl.out := by
  have hb := flBack_out s.fl
  unfold esBy
  rw [if_neg hk]
  (repeat' split)
  · unfold esAck
    have h1 := (esTimes_fl (esTold s e) e).1
    have h2 := (esRound_fl (esTimes (esTold s e) e).1).1
    have h3 := (esGrow_fl (esRound (esTimes (esTold s e) e).1).1 e).1
    have h4 : (esTold s e).fl = (flBack s.fl e.bytes e.bytes).1 := rfl
    (repeat' split) <;> first | (dsimp only; exact ⟨rfl, Int.le_refl _⟩) | (rw [h3, h2, h1, h4]; exact hb _ _)
  · unfold esLose; split
    · exact ⟨rfl, Int.le_refl _⟩
    · dsimp only; rw [(esCut_fl _).1]; exact hb _ _
  · dsimp only; rw [(esCut_fl _).1]; exact ⟨rfl, Int.le_refl _⟩
  · unfold esLate; (repeat' split) <;> first | (dsimp only; exact ⟨rfl, Int.le_refl _⟩) | (dsimp only; exact hb _ _)
  · exact ⟨rfl, Int.le_refl _⟩
  · exact ⟨rfl, Int.le_refl _⟩
theorem esSend_is {s : Es} {e : Ev} (h : (esSend s e).2 = 0) : ∃ r, r = floN (esWake s e).win s.cf.seg 65536 ∧ floE (esWake s e).win s.cf.seg 65536 = 0 ∧ (esSend s e).1.win = (esWake s e).win ∧ (flSend s.fl e.bytes r).2 = 0 ∧ (bkTake s.bk e.bytes).2 = 0 ∧ (esSend s e).1.fl = (flSend s.fl e.bytes r).1 ∧ (esSend s e).1.bk = (bkTake s.bk e.bytes).1 ∧ (esSend s e).1.last = e.time := by
  obtain ⟨w1, w2, w3⟩ := esWake_fl s e
  obtain ⟨w4, w5⟩ := esWake_keep s e
  refine ⟨_, rfl, ?_⟩
  revert h
  unfold esSend
  revert w1 w2 w3 w4 w5
  generalize esWake s e = t
  intro w1 w2 w3 w4 w5
  rw [← w1, ← w3, ← w4]
  unfold esSend0
  split
  · intro h; exfalso; rename_i h1; exact h1 h
  split
  · intro h; exfalso; rename_i h1; exact h1 h
  split
  · intro h; exfalso; rename_i h1; exact h1 h
  rename_i h1 h2 h3
  intro _
  exact ⟨by simpa using h1, rfl, by simpa using h2, by simpa using h3, rfl, rfl, rfl⟩
theorem FlIn_of {f : Fl} (h : flOk f) (h2 : f.sent ≤ 9223372036854775807) : FlIn f := by
  unfold flOk at h
  constructor <;> unfold in64 <;> omega
theorem esDo_fl {s : Es} {e : Ev} (hf : FlIn s.fl) (h : (esDo s e).2 = 0) : FlIn (esDo s e).1.fl := by
  have hk := (esDo_stays h).2.1.fl
  refine FlIn_of hk ?_
  obtain ⟨h1, h2, h3, h4, h5, h6, h7⟩ := esDo_good h
  have hs := hf.sent.2
  rw [h5]
  by_cases h8 : e.kind = 6
  · unfold esBy at h7 ⊢
    rw [if_pos h8] at h7 ⊢
    obtain ⟨r, _, _, _, k1, _, k2, _⟩ := esSend_is h7
    obtain ⟨_, _, _, k3, k4, _⟩ := flSend_ok k1
    rw [k2, k3]
    exact k4
  · rw [(esBy_out _ _ h8).1]; exact hs
theorem esDo_ms (s : Es) (e : Ev) : (esDo s e).1.ms.length ≤ s.ms.length + 1 := by
  by_cases h : (esDo s e).2 = 0
  · obtain ⟨h1, h2, h3, h4, h5, h6, h7⟩ := esDo_good h
    rw [h5]; exact esBy_ms _ _
  · rw [esDo_err h]; omega
end Go.Proofs.YtkokohkbhlnjkaaGreatDoor
