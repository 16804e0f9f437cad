/- The framework and the contracts of the program's functions, part 4: what each answers. Conditions: those that each names. -/
import Derived.Test.YtkokohkbhlnjkaaGreatDoorMa3
import Derived.MapKept
namespace Go.Proofs.YtkokohkbhlnjkaaGreatDoor
set_option linter.unusedVariables false
set_option linter.unusedSimpArgs false
open Go Go.RowKit Go.Proofs.YtkokohkbhlnjkaaGreatDoor.R
set_option maxRecDepth 50000
set_option maxHeartbeats 1000000
theorem natAbs_mul_le {a b : Int} (ha : in64 a) (hb : in64 b) : 0 ≤ (a.natAbs : Int) * b.natAbs ∧ (a.natAbs : Int) * b.natAbs ≤ 85070591730234615865843651857942052864 ∧ ((a * b).natAbs : Int) = (a.natAbs : Int) * b.natAbs := by
  unfold in64 at ha hb
  have h1 : (a.natAbs : Int) * b.natAbs ≤ 9223372036854775808 * 9223372036854775808 := Int.mul_le_mul (by omega) (by omega) (by omega) (by omega)
  have h2 : 0 ≤ (a.natAbs : Int) * b.natAbs := Int.mul_nonneg (by omega) (by omega)
  refine ⟨h2, by omega, ?_⟩
  rw [Int.natAbs_mul]; simp
def bigV (Z : Int) : Value := .agg #[.bool (decide (Z < 0)), .int .u64 ((Z.natAbs : Int) / 18446744073709551616), .int .u64 ((Z.natAbs : Int) % 18446744073709551616)]
theorem c_big_Mul {x : Nat → Obj → Prop} (a b : Int) (ha : in64 a) (hb : in64 b) : PureC Tryz.prog x 186 [.int .i64 a, .int .i64 b] (bigV (a * b)) := by
  obtain ⟨h1, h2, h3⟩ := natAbs_mul_le ha hb
  have ha' := ha
  have hb' := hb
  unfold in64 at ha' hb'
  refine pureC_of_Sd Tryz.func186 rfl rfl fun w => ?_
  refine Sd_of_cW (by kernel_rfl) ?_
  repeat' (first | (with_reducible refine ifB_intro (fun _ => ?_) (fun _ => ?_)) | ((with_reducible show callW _ _ _ (some (233, _)) _ _); refine callP g_big_size_with rfl (c_big_size_with ..) ?_) | ((with_reducible show callW _ _ _ (some (235, _)) _ _); refine callP g_math_bits_Mul64 rfl (c_math_bits_Mul64 _ _ (by omega) (by omega) (by omega) (by omega)) ?_) | ((with_reducible show callW _ _ _ (some (236, _)) _ _); refine callP g_big_far rfl (c_big_far _ (by omega) (by omega)) ?_) | ((fail_if_success (with_reducible refine stk ?_)); simp only [WE, Nat.reduceLeDiff, segX, Nat.reduceBEq, Nat.reduceAdd, Nat.reduceEqDiff, Int.reduceNeg, Int.reduceEq, Int.reduceBEq, Int.reduceLT, Int.reduceLE, Int.reduceBNe, Int.reduceToNat, Nat.reduceMul, Nat.reduceMod, Int.reducePow, reduceIte, ty_196, tz_196, bd_225, Tryz.underlying4, rs_186, appX_nil]))
  unfold bigV
  rw [h3]
  generalize hP : (a.natAbs : Int) * b.natAbs = P at *
  have e0 : (P / 18446744073709551616 == 0 && P % 18446744073709551616 == 0) = (a * b == 0) := by
    rw [Bool.eq_iff_iff]; simp only [Bool.and_eq_true, beq_iff_eq]; omega
  rw [e0]
  congr 3
  by_cases h0 : a * b = 0
  · rw [h0]; simp
  · have := mul_neg (a := a) (b := b) h0
    simp only [this, beq_eq_false_iff_ne.2 h0, Bool.not_false, Bool.and_true]
theorem c_big_Div {x : Nat → Obj → Prop} (g : Bool) (h l d : Int) (hh : 0 ≤ h) (hh1 : h < 18446744073709551616) (hl : 0 ≤ l) (hl1 : l < 18446744073709551616) (hd : 0 < d) (hd1 : d < 18446744073709551616) :
    PureC Tryz.prog x 224 [.agg #[.bool g, .int .u64 h, .int .u64 l], .int .u64 d] (.tuple #[bigV (sv g h l / d), .int .u64 (sv g h l % d), .int .i64 0]) := by
  have f1 : (d == 0) = false := beq_eq_false_iff_ne.2 (by omega)
  have f2 : d ≠ 0 := by omega
  have a1 := Int.mul_ediv_add_emod h d
  have a2 := Int.emod_nonneg h f2
  have a3 := Int.emod_lt_of_pos h hd
  have a4 := Int.ediv_nonneg hh (show 0 ≤ d by omega)
  have a5 := Int.ediv_le_self d hh
  have e1 : wr .u64 (h.tdiv d) = h / d := by rw [Int.tdiv_eq_ediv_of_nonneg hh]; exact wr_u64 (by omega) (by omega)
  have e2 : h.tmod d = h % d := Int.tmod_eq_emod_of_nonneg hh
  obtain ⟨X, hX⟩ : ∃ X, X = h * 18446744073709551616 + l := ⟨_, rfl⟩
  obtain ⟨q, hq⟩ : ∃ q, X / d = q := ⟨_, rfl⟩
  obtain ⟨r, hr⟩ : ∃ r, X % d = r := ⟨_, rfl⟩
  have b1 := Int.mul_ediv_add_emod X d
  have b2 := Int.emod_nonneg X f2
  have b3 := Int.emod_lt_of_pos X hd
  have b4 : 0 ≤ X / d := Int.ediv_nonneg (by omega) (by omega)
  have b5 := Int.ediv_le_self d (show 0 ≤ X by omega)
  rw [hq, hr, Int.mul_comm] at b1
  rw [hr] at b2 b3
  rw [hq] at b4 b5
  obtain ⟨c, hc⟩ : ∃ c, (h % d * 18446744073709551616 + l) / d = c := ⟨_, rfl⟩
  have eX : X = h / d * 18446744073709551616 * d + (h % d * 18446744073709551616 + l) := by
    rw [Int.mul_right_comm, Int.mul_comm (h / d) d]
    omega
  have c1 : q = h / d * 18446744073709551616 + c := by rw [← hq, ← hc, eX, Int.add_comm (h / d * 18446744073709551616 * d), Int.add_mul_ediv_right _ _ f2]; omega
  have c2 : (h % d * 18446744073709551616 + l) % d = r := by rw [← hr, eX, Int.add_comm (h / d * 18446744073709551616 * d), Int.add_mul_emod_self_right]
  have c3 : 0 ≤ c := by rw [← hc]; exact Int.ediv_nonneg (by omega) (by omega)
  have c4 : c < 18446744073709551616 := by rw [← hc]; exact Int.ediv_lt_of_lt_mul hd (by
    have : (h % d + 1) * 18446744073709551616 ≤ d * 18446744073709551616 := by omega
    omega)
  obtain ⟨t, ht⟩ : ∃ t, h / d = t := ⟨_, rfl⟩
  rw [ht] at c1 a4 a5 e1
  have hz : (t == 0 && c == 0) = (q == 0) := by
    rw [Bool.eq_iff_iff]; simp only [Bool.and_eq_true, beq_iff_eq]; omega
  have q1 : q / 18446744073709551616 = t := by omega
  have q2 : q % 18446744073709551616 = c := by omega
  have m1 : (((-1 : Int)).natAbs : Int) = 1 := rfl
  have out : ∀ Z, Z = q ∨ Z = -q → bigV Z = .agg #[.bool (decide (Z < 0)), .int .u64 t, .int .u64 c] := by
    intro Z hZ
    have : (Z.natAbs : Int) = q := by omega
    unfold bigV
    rw [this, q1, q2]
  cases g
  · have e3 : sv false h l = X := hX.symm
    have n1 : decide (q < 0) = false := decide_eq_false (by omega)
    refine pureC_of_Sd Tryz.func224 rfl rfl fun w => ?_
    refine Sd_of_cW (by kernel_rfl) ?_
    repeat' (first | (with_reducible refine ifB_intro (fun _ => ?_) (fun _ => ?_)) | ((with_reducible show callW _ _ _ (some (225, _)) _ _); refine callP g_big_Add rfl (c_big_Add ..) ?_) | ((with_reducible show callW _ _ _ (some (226, _)) _ _); refine callP g_big_Of rfl (c_big_Of (-1) (by omega) (by omega)) ?_) | ((with_reducible show callW _ _ _ (some (233, _)) _ _); refine callP g_big_size_with rfl (c_big_size_with ..) ?_) | ((with_reducible show callW _ _ _ (some (282, _)) _ _); refine callP g_math_bits_Div64 rfl (c_math_bits_Div64 (h % d) l d a2 hl hl1 a3 hd1) ?_) | ((with_reducible show cW _ _ (.region 3 _ true) _ _); refine cW_drawF lx_224_3 (by kernel_rfl) mixed_ (by kernel_rfl) ?_) | ((fail_if_success (with_reducible refine stk ?_)); simp only [WE, Nat.reduceLeDiff, segX, Nat.reduceBEq, Nat.reduceAdd, Nat.reduceEqDiff, Int.reduceNeg, Int.reduceEq, Int.reduceBEq, Int.reduceLT, Int.reduceLE, Int.reduceBNe, Int.reduceToNat, Nat.reduceMul, Nat.reduceMod, Int.reducePow, reduceIte, ty_4, ty_144, ty_196, fo_196_0, fo_196_1, fo_196_2, tz_196, bd_196, bd_225, Tryz.underlying30, Tryz.underlying144, rs_224, appX_nil, f1, f2, e1, e2, hc, c2]))
    rw [e3, hq, hr, out q (.inl rfl), n1]
    rfl
  · have e3 : sv true h l = -X := by rw [hX]; rfl
    by_cases hr0 : r = 0
    · have g1 : (r == 0) = true := beq_iff_eq.2 hr0
      have k1 : (-X) / d = -q := by rw [← b1, hr0, Int.add_zero, ← Int.neg_mul, Int.mul_ediv_cancel _ f2]
      have k2 : (-X) % d = r := by rw [← b1, hr0, Int.add_zero, ← Int.neg_mul, Int.mul_emod_left]
      refine pureC_of_Sd Tryz.func224 rfl rfl fun w => ?_
      refine Sd_of_cW (by kernel_rfl) ?_
      repeat' (first | (with_reducible refine ifB_intro (fun _ => ?_) (fun _ => ?_)) | ((with_reducible show callW _ _ _ (some (225, _)) _ _); refine callP g_big_Add rfl (c_big_Add ..) ?_) | ((with_reducible show callW _ _ _ (some (226, _)) _ _); refine callP g_big_Of rfl (c_big_Of (-1) (by omega) (by omega)) ?_) | ((with_reducible show callW _ _ _ (some (233, _)) _ _); refine callP g_big_size_with rfl (c_big_size_with ..) ?_) | ((with_reducible show callW _ _ _ (some (282, _)) _ _); refine callP g_math_bits_Div64 rfl (c_math_bits_Div64 (h % d) l d a2 hl hl1 a3 hd1) ?_) | ((with_reducible show cW _ _ (.region 3 _ true) _ _); refine cW_drawF lx_224_3 (by kernel_rfl) mixed_ (by kernel_rfl) ?_) | ((fail_if_success (with_reducible refine stk ?_)); simp only [WE, Nat.reduceLeDiff, segX, Nat.reduceBEq, Nat.reduceAdd, Nat.reduceEqDiff, Int.reduceNeg, Int.reduceEq, Int.reduceBEq, Int.reduceLT, Int.reduceLE, Int.reduceBNe, Int.reduceToNat, Nat.reduceMul, Nat.reduceMod, Int.reducePow, reduceIte, ty_4, ty_144, ty_196, fo_196_0, fo_196_1, fo_196_2, tz_196, bd_196, bd_225, Tryz.underlying30, Tryz.underlying144, rs_224, appX_nil, f1, f2, e1, e2, hc, c2, g1]))
      rw [e3, k1, k2, out (-q) (.inr rfl), hz]
      have : (!(q == 0)) = decide (-q < 0) := by
        by_cases h0 : q = 0
        · rw [h0]; rfl
        · rw [beq_eq_false_iff_ne.2 h0, decide_eq_true (by omega)]; rfl
      rw [this]
    · have g1 : (r == 0) = false := beq_eq_false_iff_ne.2 hr0
      have k1 : (-X) / d = -q - 1 := by
        refine dig_of hd ?_ ?_
        · rw [Int.sub_mul, Int.neg_mul, Int.one_mul]; omega
        · rw [show -q - 1 + 1 = -q by omega, Int.neg_mul]; omega
      have k2 : (-X) % d = d - r := by
        have := Int.mul_ediv_add_emod (-X) d
        rw [k1, Int.mul_sub, Int.mul_comm d (-q), Int.neg_mul, Int.mul_one] at this
        omega
      have k3 : wr .u64 (d - r) = d - r := wr_u64 (by omega) (by omega)
      have k4 : q * 2 ≤ q * d := Int.mul_le_mul_of_nonneg_left (by omega) b4
      have hs : sv (!(t == 0 && c == 0)) t c + sv true 0 1 = -q - 1 := by
        unfold sv
        rw [hz]
        by_cases h0 : q = 0
        · rw [beq_iff_eq.2 h0]; simp only [Bool.not_true, cond_false, cond_true]; omega
        · rw [beq_eq_false_iff_ne.2 h0]; simp only [Bool.not_false, cond_true]; omega
      have hn : ((-q - 1).natAbs : Int) = q + 1 := by omega
      have ho : ovr (q + 1) = false := ovr_no (by omega)
      have hAdd := c_big_Add (x := x) (!(t == 0 && c == 0)) true t c 0 1 (by omega) (by omega) (by omega) (by omega) (by omega) (by omega) (by omega) (by omega)
      rw [hs] at hAdd
      unfold aG bH bL bE at hAdd
      rw [hn, ho] at hAdd
      simp only [cond_false] at hAdd
      refine pureC_of_Sd Tryz.func224 rfl rfl fun w => ?_
      refine Sd_of_cW (by kernel_rfl) ?_
      repeat' (first | (with_reducible refine ifB_intro (fun _ => ?_) (fun _ => ?_)) | ((with_reducible show callW _ _ _ (some (225, _)) _ _); refine callP g_big_Add rfl (hAdd) ?_) | ((with_reducible show callW _ _ _ (some (226, _)) _ _); refine callP g_big_Of rfl (c_big_Of (-1) (by omega) (by omega)) ?_) | ((with_reducible show callW _ _ _ (some (233, _)) _ _); refine callP g_big_size_with rfl (c_big_size_with ..) ?_) | ((with_reducible show callW _ _ _ (some (282, _)) _ _); refine callP g_math_bits_Div64 rfl (c_math_bits_Div64 (h % d) l d a2 hl hl1 a3 hd1) ?_) | ((with_reducible show cW _ _ (.region 3 _ true) _ _); refine cW_drawF lx_224_3 (by kernel_rfl) mixed_ (by kernel_rfl) ?_) | ((fail_if_success (with_reducible refine stk ?_)); simp only [WE, Nat.reduceLeDiff, segX, Nat.reduceBEq, Nat.reduceAdd, Nat.reduceEqDiff, Int.reduceNeg, Int.reduceEq, Int.reduceBEq, Int.reduceLT, Int.reduceLE, Int.reduceBNe, Int.reduceToNat, Nat.reduceMul, Nat.reduceMod, Int.reducePow, reduceIte, ty_4, ty_144, ty_196, fo_196_0, fo_196_1, fo_196_2, tz_196, bd_196, bd_225, Tryz.underlying30, Tryz.underlying144, rs_224, appX_nil, f1, f2, e1, e2, hc, c2, g1, m1, k3]))
      rw [e3, k1, k2]
      unfold bigV
      rw [hn]
theorem cmpI_pos {a b : Int} : 0 < cmpI a b ↔ b < a := by
  unfold cmpI; (repeat' split) <;> omega
theorem cmpI_neg {a b : Int} : cmpI a b < 0 ↔ a < b := by
  unfold cmpI; (repeat' split) <;> omega
theorem c_big_Int {x : Nat → Obj → Prop} (g : Bool) (h l : Int) (hh : 0 ≤ h) (hh1 : h < 18446744073709551616) (hl : 0 ≤ l) (hl1 : l < 18446744073709551616) :
    PureC Tryz.prog x 227 [.agg #[.bool g, .int .u64 h, .int .u64 l]] (.int .i64 (sat (sv g h l))) := by
  have s1 : sv (decide ((9223372036854775807 : Int) < 0)) 0 ((9223372036854775807 : Int).natAbs) = 9223372036854775807 := rfl
  have s2 : sv (decide ((-9223372036854775808 : Int) < 0)) 0 ((-9223372036854775808 : Int).natAbs) = -9223372036854775808 := rfl
  have hC1 := c_big_Cmp (x := x) g false h l 0 9223372036854775807 hh hh1 hl hl1 (by omega) (by omega) (by omega) (by omega)
  have hC2 := c_big_Cmp (x := x) g true h l 0 9223372036854775808 hh hh1 hl hl1 (by omega) (by omega) (by omega) (by omega)
  have n1 : (((9223372036854775807 : Int)).natAbs : Int) = 9223372036854775807 := rfl
  have n2 : (((-9223372036854775808 : Int)).natAbs : Int) = 9223372036854775808 := rfl
  refine pureC_of_Sd Tryz.func227 rfl rfl fun w => ?_
  refine Sd_of_cW (by kernel_rfl) ?_
  repeat' (first | (with_reducible refine ifB_intro (fun _ => ?_) (fun _ => ?_)) | ((with_reducible show callW _ _ _ (some (185, _)) _ _); refine callP g_big_Cmp rfl (hC1) ?_) | ((with_reducible show callW _ _ _ (some (185, _)) _ _); refine callP g_big_Cmp rfl (hC2) ?_) | ((with_reducible show callW _ _ _ (some (226, _)) _ _); refine callP g_big_Of rfl (c_big_Of _ (by omega) (by omega)) ?_) | ((with_reducible show cW _ _ (.region 1 _ true) _ _); refine cW_drawF lx_227_1 (by kernel_rfl) mixed_ (by kernel_rfl) ?_) | ((with_reducible show cW _ _ (.region 3 _ true) _ _); refine cW_drawF lx_227_3 (by kernel_rfl) mixed_ (by kernel_rfl) ?_) | ((fail_if_success (with_reducible refine stk ?_)); simp only [WE, Nat.reduceLeDiff, segX, Nat.reduceBEq, Nat.reduceAdd, Nat.reduceEqDiff, Int.reduceNeg, Int.reduceEq, Int.reduceBEq, Int.reduceLT, Int.reduceLE, Int.reduceBNe, Int.reduceToNat, Nat.reduceMul, Nat.reduceMod, Int.reducePow, reduceIte, ty_4, ty_144, ty_196, fo_196_0, fo_196_2, cv_144_3, Tryz.underlying3, Tryz.underlying144, rs_227, appX_nil, n1, n2]))
  all_goals refine congrArg (Value.int .i64) ?_
  all_goals simp only [decide_eq_true_eq, decide_eq_false_iff_not] at *
  all_goals simp only [cmpI_pos, cmpI_neg, wr_def64, sat] at *
  all_goals (repeat' split)
  all_goals first
    | omega
    | (cases g <;> first | contradiction | (simp only [sv, cond_true, cond_false] at * <;> omega))
theorem natAbs_lt {Z : Int} (h : (Z.natAbs : Int) < 340282366920938463463374607431768211456) : (0 ≤ (Z.natAbs : Int) / 18446744073709551616 ∧ (Z.natAbs : Int) / 18446744073709551616 < 18446744073709551616) ∧ 0 ≤ (Z.natAbs : Int) % 18446744073709551616 ∧ (Z.natAbs : Int) % 18446744073709551616 < 18446744073709551616 := by
  have h0 : 0 ≤ (Z.natAbs : Int) := Int.natCast_nonneg _
  generalize (Z.natAbs : Int) = N at *
  exact ⟨⟨Int.ediv_nonneg h0 (by decide), Int.ediv_lt_of_lt_mul (by decide) (by omega)⟩, Int.emod_nonneg _ (by decide), Int.emod_lt_of_pos _ (by decide)⟩
theorem sv_big (Z : Int) : sv (decide (Z < 0)) ((Z.natAbs : Int) / 18446744073709551616) ((Z.natAbs : Int) % 18446744073709551616) = Z := by
  have e := Int.mul_ediv_add_emod (Z.natAbs : Int) 18446744073709551616
  rw [Int.mul_comm] at e
  unfold sv
  rw [e]
  by_cases h : Z < 0
  · rw [decide_eq_true h]
    show -(Z.natAbs : Int) = Z
    omega
  · rw [decide_eq_false h]
    show (Z.natAbs : Int) = Z
    omega
theorem c_big_DivV {x : Nat → Obj → Prop} (Z d : Int) (hZ : (Z.natAbs : Int) < 340282366920938463463374607431768211456) (hd : 0 < d) (hd1 : d < 18446744073709551616) :
    PureC Tryz.prog x 224 [bigV Z, .int .u64 d] (.tuple #[bigV (Z / d), .int .u64 (Z % d), .int .i64 0]) := by
  have h := natAbs_lt hZ
  have := c_big_Div (x := x) (decide (Z < 0)) _ _ d h.1.1 h.1.2 h.2.1 h.2.2 hd hd1
  rw [sv_big] at this
  exact this
theorem c_big_IntV {x : Nat → Obj → Prop} (Z : Int) (hZ : (Z.natAbs : Int) < 340282366920938463463374607431768211456) : PureC Tryz.prog x 227 [bigV Z] (.int .i64 (sat Z)) := by
  have h := natAbs_lt hZ
  have := c_big_Int (x := x) (decide (Z < 0)) _ _ h.1.1 h.1.2 h.2.1 h.2.2
  rw [sv_big] at this
  exact this
theorem c_big_OfV {x : Nat → Obj → Prop} (n : Int) (h : in64 n) : PureC Tryz.prog x 226 [.int .i64 n] (bigV n) := by
  have := c_big_Of (x := x) n h.1 h.2
  have e1 : (n.natAbs : Int) / 18446744073709551616 = 0 := by unfold in64 at h; omega
  have e2 : (n.natAbs : Int) % 18446744073709551616 = n.natAbs := by unfold in64 at h; omega
  unfold bigV
  rw [e1, e2]
  exact this
theorem bigV_inj {a b : Int} : bigV a = bigV b ↔ a = b := by
  constructor
  · intro h
    unfold bigV at h
    simp only [Value.agg.injEq, Array.mk.injEq, List.cons.injEq, Value.bool.injEq, Value.int.injEq, true_and, and_true, decide_eq_decide] at h
    omega
  · exact fun h => h ▸ rfl
def floN (a b c : Int) : Int := if c < 1 then 0 else fitV (a * b / c)
def floE (a b c : Int) : Int := if c < 1 then 20 else fitE (a * b / c)
theorem c_frac_Floor_1 {x : Nat → Obj → Prop} (r d : Int) : PureC Tryz.prog x 162 [.int .u64 r, .int .u64 d] (.bool false) := by
  refine pureC_of_Sd Tryz.func162 rfl rfl fun w => ?_
  refine Sd_of_cW (by kernel_rfl) ?_
  repeat' (first | (with_reducible refine ifB_intro (fun _ => ?_) (fun _ => ?_)) | ((fail_if_success (with_reducible refine stk ?_)); simp only [WE, Nat.reduceLeDiff, segX, Nat.reduceBEq, Nat.reduceAdd, Nat.reduceEqDiff, Int.reduceNeg, Int.reduceEq, Int.reduceBEq, Int.reduceLT, Int.reduceLE, Int.reduceBNe, Int.reduceToNat, Nat.reduceMul, Nat.reduceMod, Int.reducePow, reduceIte, rs_162]))
theorem c_frac_way_part {x : Nat → Obj → Prop} (a b c : Int) (ha : in64 a) (hb : in64 b) (hc : in64 c) :
    PureC Tryz.prog x 163 [.agg #[.func (.func 162) #[] #[]], .int .i64 a, .int .i64 b, .int .i64 c] (.tuple #[.int .i64 (floN a b c), .int .i64 (floE a b c)]) := by
  have hc' := hc
  unfold in64 at hc'
  unfold floN floE
  by_cases h0 : c < 1
  · have f0 : decide (c < 1) = true := decide_eq_true h0
    refine pureC_of_Sd Tryz.func163 rfl rfl fun w => ?_
    refine Sd_of_cW (by kernel_rfl) ?_
    repeat' (first | (with_reducible refine ifB_intro (fun _ => ?_) (fun _ => ?_)) | ((with_reducible show callW _ _ _ (some (186, _)) _ _); refine callP g_big_Mul rfl (c_big_Mul ..) ?_) | ((with_reducible show callW _ _ _ (some (224, _)) _ _); refine callP g_big_Div rfl (c_big_Div ..) ?_) | ((with_reducible show callW _ _ _ (some (225, _)) _ _); refine callP g_big_Add rfl (hAdd) ?_) | ((with_reducible show callW _ _ _ (some (226, _)) _ _); refine callP g_big_Of rfl (c_big_Of _ (by omega) (by omega)) ?_) | ((with_reducible show callW _ _ _ (some (227, _)) _ _); refine callP g_big_Int rfl (c_big_Int ..) ?_) | ((with_reducible show cW _ _ (.region 6 _ true) _ _); refine cW_drawVF lv_163_6 (by kernel_rfl) mixed_ (by kernel_rfl) ?_ (fun _ _ _ h => h)) | ((with_reducible show cW _ _ (.region 6 _ true) _ _); refine cW_drawTF 6 lx_163_6 (by kernel_rfl) mixed_ (by kernel_rfl) ?_; intro l1 l2 e1 e2; simp only [List.take_succ_cons, List.take_zero, List.drop_succ_cons, List.drop_zero] at e1 e2; subst e1; subst e2) | ((with_reducible show cW _ _ (.region 8 _ true) _ _); refine cW_drawF lx_163_8 (by kernel_rfl) mixed_ (by kernel_rfl) ?_) | ((fail_if_success (with_reducible refine stk ?_)); simp only [WE, Nat.reduceLeDiff, segX, Nat.reduceBEq, Nat.reduceAdd, Nat.reduceEqDiff, Int.reduceNeg, Int.reduceEq, Int.reduceBEq, Int.reduceLT, Int.reduceLE, Int.reduceBNe, Int.reduceToNat, Nat.reduceMul, Nat.reduceMod, Int.reducePow, reduceIte, ty_174, ty_196, fo_176_0, tz_196, fk_196, cv_3_144, Tryz.underlying3, Tryz.underlying30, Tryz.underlying144, rs_163, appX_nil, f0]))
    rw [if_pos h0, if_pos h0]
  · have f0 : decide (c < 1) = false := decide_eq_false h0
    have w1 : wr .u64 c = c := wr_u64 (by omega) (by omega)
    obtain ⟨h1, h2, h3⟩ := natAbs_mul_le ha hb
    have hq : ((a * b / c).natAbs : Int) < 340282366920938463463374607431768211456 := by
      have := Int.mul_ediv_add_emod (a * b) c
      have := Int.emod_nonneg (a * b) (show c ≠ 0 by omega)
      have := Int.emod_lt_of_pos (a * b) (show 0 < c by omega)
      have b1 : a * b / c ≤ 85070591730234615865843651857942052864 := Int.ediv_le_of_le_mul (by omega) (by
        have : 85070591730234615865843651857942052864 * 1 ≤ 85070591730234615865843651857942052864 * c := Int.mul_le_mul_of_nonneg_left (by omega) (by omega)
        omega)
      have b2 : -85070591730234615865843651857942052864 ≤ a * b / c := (Int.le_ediv_iff_mul_le (by omega)).2 (by
        have : -85070591730234615865843651857942052864 * c ≤ -85070591730234615865843651857942052864 * 1 := Int.mul_le_mul_of_nonpos_left (by omega) (by omega)
        omega)
      omega
    rw [if_neg h0, if_neg h0]
    generalize hQ : a * b / c = q at *
    have eS : fitV q = if q = sat q then sat q else 0 := by
      unfold fitV sat
      (repeat' split) <;> omega
    have eE : fitE q = if q = sat q then 0 else 10 := by
      unfold fitE sat
      (repeat' split) <;> omega
    have hD := c_big_DivV (x := x) (a * b) c (by omega) (by omega) (by omega)
    rw [hQ] at hD
    refine pureC_of_Sd Tryz.func163 rfl rfl fun w => ?_
    refine Sd_of_cW (by kernel_rfl) ?_
    repeat' (first | (((with_reducible show callW _ _ _ (some (162, _)) _ _); refine callP (goes_of Tryz.func162 rfl rfl) rfl (c_frac_Floor_1 _ _) ?_)) | (with_reducible refine ifB_intro (fun _ => ?_) (fun _ => ?_)) | ((with_reducible show callW _ _ _ (some (186, _)) _ _); refine callP g_big_Mul rfl (c_big_Mul a b ha hb) ?_) | ((with_reducible show callW _ _ _ (some (224, _)) _ _); refine callP g_big_Div rfl (hD) ?_) | ((with_reducible show callW _ _ _ (some (225, _)) _ _); refine callP g_big_Add rfl (hAdd) ?_) | ((with_reducible show callW _ _ _ (some (226, _)) _ _); refine callP g_big_Of rfl (c_big_OfV _ (sat_in q)) ?_) | ((with_reducible show callW _ _ _ (some (227, _)) _ _); refine callP g_big_Int rfl (c_big_IntV q hq) ?_) | ((with_reducible show cW _ _ (.region 6 _ true) _ _); refine cW_drawVF lv_163_6 (by kernel_rfl) mixed_ (by kernel_rfl) ?_ (fun _ _ _ h => h)) | ((with_reducible show cW _ _ (.region 6 _ true) _ _); refine cW_drawTF 6 lx_163_6 (by kernel_rfl) mixed_ (by kernel_rfl) ?_; intro l1 l2 e1 e2; simp only [List.take_succ_cons, List.take_zero, List.drop_succ_cons, List.drop_zero] at e1 e2; subst e1; subst e2) | ((with_reducible show cW _ _ (.region 8 _ true) _ _); refine cW_drawF lx_163_8 (by kernel_rfl) mixed_ (by kernel_rfl) ?_) | ((fail_if_success (with_reducible refine stk ?_)); simp only [WE, Nat.reduceLeDiff, segX, Nat.reduceBEq, Nat.reduceAdd, Nat.reduceEqDiff, Int.reduceNeg, Int.reduceEq, Int.reduceBEq, Int.reduceLT, Int.reduceLE, Int.reduceBNe, Int.reduceToNat, Nat.reduceMul, Nat.reduceMod, Int.reducePow, reduceIte, ty_174, ty_196, fo_176_0, tz_196, fk_196, cv_3_144, Tryz.underlying3, Tryz.underlying30, Tryz.underlying144, rs_163, appX_nil, f0, w1, bigV]))
    all_goals rename_i hE
    all_goals rw [eS, eE]
    all_goals simp only [Bool.not_eq_true', Bool.not_eq_false', Bool.and_eq_false_iff, Bool.and_eq_true, beq_iff_eq, beq_eq_false_iff_ne, ne_eq, decide_eq_decide] at hE
    · have : q ≠ sat q := fun e => by rw [← e] at hE; simp at hE
      rw [if_neg this, if_neg this]
    · have hh : bigV q = bigV (sat q) := by
        unfold bigV
        rw [hE.2.1, hE.2.2, decide_eq_decide.2 hE.1]
      have : q = sat q := bigV_inj.1 hh
      rw [if_pos this, if_pos this]
theorem c_frac_Floor {x : Nat → Obj → Prop} (a b c : Int) (ha : in64 a) (hb : in64 b) (hc : in64 c) :
    PureC Tryz.prog x 100 [.int .i64 a, .int .i64 b, .int .i64 c] (.tuple #[.int .i64 (floN a b c), .int .i64 (floE a b c)]) := by
  refine pureC_of_Sd Tryz.func100 rfl rfl fun w => ?_
  refine Sd_of_cW (by kernel_rfl) ?_
  repeat' (first | (with_reducible refine ifB_intro (fun _ => ?_) (fun _ => ?_)) | ((with_reducible show callW _ _ _ (some (162, _)) _ _); refine callP g_frac_Floor_1 rfl (c_frac_Floor_1 ..) ?_) | ((with_reducible show callW _ _ _ (some (163, _)) _ _); refine callP g_frac_way_part rfl (c_frac_way_part a b c ha hb hc) ?_) | ((fail_if_success (with_reducible refine stk ?_)); simp only [WE, Nat.reduceLeDiff, segX, Nat.reduceBEq, Nat.reduceAdd, Nat.reduceEqDiff, Int.reduceNeg, Int.reduceEq, Int.reduceBEq, Int.reduceLT, Int.reduceLE, Int.reduceBNe, Int.reduceToNat, Nat.reduceMul, Nat.reduceMod, Int.reducePow, reduceIte, bd_176, rs_100]))
theorem c_frac_Segs {x : Nat → Obj → Prop} (a b : Int) (ha : in64 a) (hb : in64 b) :
    PureC Tryz.prog x 134 [.int .i64 a, .int .i64 b] (.tuple #[.int .i64 (floN a 65536 b), .int .i64 (floE a 65536 b)]) := by
  refine pureC_of_Sd Tryz.func134 rfl rfl fun w => ?_
  refine Sd_of_cW (by kernel_rfl) ?_
  repeat' (first | (with_reducible refine ifB_intro (fun _ => ?_) (fun _ => ?_)) | ((with_reducible show callW _ _ _ (some (100, _)) _ _); refine callP g_frac_Floor rfl (c_frac_Floor _ _ _ ha (i64k (by omega) (by omega)) hb) ?_) | ((fail_if_success (with_reducible refine stk ?_)); simp only [WE, Nat.reduceLeDiff, segX, Nat.reduceBEq, Nat.reduceAdd, Nat.reduceEqDiff, Int.reduceNeg, Int.reduceEq, Int.reduceBEq, Int.reduceLT, Int.reduceLE, Int.reduceBNe, Int.reduceToNat, Nat.reduceMul, Nat.reduceMod, Int.reducePow, reduceIte, rs_134]))
theorem c_frac_Bytes {x : Nat → Obj → Prop} (a b : Int) (ha : in64 a) (hb : in64 b) :
    PureC Tryz.prog x 37 [.int .i64 a, .int .i64 b] (.tuple #[.int .i64 (floN a b 65536), .int .i64 (floE a b 65536)]) := by
  refine pureC_of_Sd Tryz.func37 rfl rfl fun w => ?_
  refine Sd_of_cW (by kernel_rfl) ?_
  repeat' (first | (with_reducible refine ifB_intro (fun _ => ?_) (fun _ => ?_)) | ((with_reducible show callW _ _ _ (some (100, _)) _ _); refine callP g_frac_Floor rfl (c_frac_Floor _ _ _ ha hb (i64k (by omega) (by omega))) ?_) | ((fail_if_success (with_reducible refine stk ?_)); simp only [WE, Nat.reduceLeDiff, segX, Nat.reduceBEq, Nat.reduceAdd, Nat.reduceEqDiff, Int.reduceNeg, Int.reduceEq, Int.reduceBEq, Int.reduceLT, Int.reduceLE, Int.reduceBNe, Int.reduceToNat, Nat.reduceMul, Nat.reduceMod, Int.reducePow, reduceIte, rs_37]))
theorem fitV_in (n : Int) : in64 (fitV n) := by unfold fitV in64; split <;> omega
theorem floN_in (a b c : Int) : in64 (floN a b c) := by
  unfold floN; split
  · exact i64k (by omega) (by omega)
  · exact fitV_in _
end Go.Proofs.YtkokohkbhlnjkaaGreatDoor
namespace Go.Proofs.YtkokohkbhlnjkaaGreatDoor
set_option linter.unusedVariables false
set_option linter.unusedSimpArgs false
open Go Go.RowKit Go.Proofs.YtkokohkbhlnjkaaGreatDoor.R
set_option maxRecDepth 50000
set_option maxHeartbeats 400000
def clkCheck (t : Int) : Bool := decide (0 ≤ t) && decide (t ≤ 1099511627776)
def clkStep (now at_ : Int) : Int × Int := bif !clkCheck at_ then (now, 51) else bif decide (at_ < now) then (now, 50) else (at_, 0)
theorem c_clock_Check {x : Nat → Obj → Prop} (t : Int) : PureC Tryz.prog x 56 [.int .i64 t] (.bool (clkCheck t)) := by
  refine pureC_of_Sd Tryz.func56 rfl rfl fun w => ?_
  refine Sd_of_cW (by kernel_rfl) ?_
  repeat' (first | (with_reducible refine ifB_intro (fun _ => ?_) (fun _ => ?_)) | ((fail_if_success (with_reducible refine stk ?_)); simp only [WE, Nat.reduceLeDiff, segX, Nat.reduceBEq, Nat.reduceAdd, Nat.reduceEqDiff, Int.reduceNeg, Int.reduceEq, Int.reduceBEq, Int.reduceLT, Int.reduceLE, Int.reduceBNe, Int.reduceToNat, Nat.reduceMul, Nat.reduceMod, Int.reducePow, reduceIte, rs_56]))
  all_goals (simp only [clkCheck, *, Bool.true_and, Bool.false_and]; try rfl)
theorem c_clock_Step_1 {x : Nat → Obj → Prop} {b T : Nat} {f : Nat × Nat} (n e : Int) (hx : x b (.cells #[.int .i64 n] T f)) : PureC Tryz.prog x 119 [.int .i64 e, .pointer (some ⟨b, 0, none⟩)] (.tuple #[.int .i64 n, .int .i64 e]) := by
  refine pureC_of_Sd Tryz.func119 rfl rfl fun w => ?_
  refine Sd_of_cW (by kernel_rfl) ?_
  have hl : loadX false 1 0 #[.int .i64 n] = some (.int .i64 n) := rfl
  repeat' (first | (with_reducible refine extW_of hx hl ?_) | (with_reducible refine ifB_intro (fun _ => ?_) (fun _ => ?_)) | ((fail_if_success (with_reducible refine stk ?_)); simp only [WE, Nat.reduceLeDiff, segX, Nat.reduceBEq, Nat.reduceAdd, Nat.reduceEqDiff, Int.reduceNeg, Int.reduceEq, Int.reduceBEq, Int.reduceLT, Int.reduceLE, Int.reduceBNe, Int.reduceToNat, Nat.reduceMul, Nat.reduceMod, Int.reducePow, reduceIte, ty_3, rs_119, appX_nil]))
theorem c_clock_Step {x : Nat → Obj → Prop} (now at_ : Int) : PureC Tryz.prog x 72 [.int .i64 now, .int .i64 at_] (.tuple #[.int .i64 (clkStep now at_).1, .int .i64 (clkStep now at_).2]) := by
  refine pureC_of_Sd Tryz.func72 rfl rfl fun w => ?_
  refine Sd_of_cW (by kernel_rfl) ?_
  repeat' (first | (((with_reducible show callW _ _ _ (some (119, _)) _ _); refine callO g_clock_Step_1 (fun s => c_clock_Step_1 now _ (.inr ⟨0, _, rfl, rfl, rfl⟩)) ?_)) | (with_reducible refine ifB_intro (fun _ => ?_) (fun _ => ?_)) | ((with_reducible show callW _ _ _ (some (56, _)) _ _); refine callP g_clock_Check rfl (c_clock_Check ..) ?_) | ((with_reducible show callW _ _ _ (some (119, _)) _ _); refine callP g_clock_Step_1 rfl (c_clock_Step_1 ..) ?_) | ((fail_if_success (with_reducible refine stk ?_)); simp only [WE, Nat.reduceLeDiff, segX, Nat.reduceBEq, Nat.reduceAdd, Nat.reduceEqDiff, Int.reduceNeg, Int.reduceEq, Int.reduceBEq, Int.reduceLT, Int.reduceLE, Int.reduceBNe, Int.reduceToNat, Nat.reduceMul, Nat.reduceMod, Int.reducePow, reduceIte, ty_3, rs_72, appX_nil]))
  all_goals (simp only [clkStep, *, cond_true, cond_false]; try rfl)
end Go.Proofs.YtkokohkbhlnjkaaGreatDoor
namespace Go.Proofs.YtkokohkbhlnjkaaGreatDoor
set_option linter.unusedVariables false
set_option linter.unusedSimpArgs false
open Go Go.RowKit Go.Proofs.YtkokohkbhlnjkaaGreatDoor.R
set_option maxRecDepth 50000
set_option maxHeartbeats 400000
def clkAfter (now by_ : Int) : Int := mx (mn (now + by_) 1099511627776) 0
theorem c_clock_After {x : Nat → Obj → Prop} (now by_ : Int) (h1 : -9223372036854775808 ≤ now ∧ now ≤ 9223372036854775807) (h2 : -9223372036854775808 ≤ by_ ∧ by_ ≤ 9223372036854775807) :
    PureC Tryz.prog x 199 [.int .i64 now, .int .i64 by_] (.int .i64 (clkAfter now by_)) := by
  refine pureC_of_Sd Tryz.func199 rfl rfl fun w => ?_
  refine Sd_of_cW (by kernel_rfl) ?_
  repeat' (first | (with_reducible refine ifB_intro (fun _ => ?_) (fun _ => ?_)) | ((fail_if_success (with_reducible refine stk ?_)); simp only [WE, Nat.reduceLeDiff, segX, Nat.reduceBEq, Nat.reduceAdd, Nat.reduceEqDiff, Int.reduceNeg, Int.reduceEq, Int.reduceBEq, Int.reduceLT, Int.reduceLE, Int.reduceBNe, Int.reduceToNat, Nat.reduceMul, Nat.reduceMod, Int.reducePow, reduceIte, rs_199]))
  all_goals (simp only [decide_eq_true_eq, decide_eq_false_iff_not, wr_def64] at *)
  all_goals (unfold clkAfter; congr 1; unfold mx mn; (repeat' split) <;> omega)
end Go.Proofs.YtkokohkbhlnjkaaGreatDoor
namespace Go.Proofs.YtkokohkbhlnjkaaGreatDoor
set_option linter.unusedVariables false
set_option linter.unusedSimpArgs false
open Go Go.RowKit Go.Proofs.YtkokohkbhlnjkaaGreatDoor.R
set_option maxRecDepth 50000
set_option maxHeartbeats 1000000
structure Fl where
  sent : Int
  told : Int
  out : Int
def Fl.v (f : Fl) : Value := .agg #[.int .i64 f.sent, .int .i64 f.told, .int .i64 f.out]
def flOk (f : Fl) : Prop := 0 ≤ f.sent ∧ 0 ≤ f.told ∧ 0 ≤ f.out ∧ f.told ≤ f.sent ∧ f.out ≤ f.sent - f.told
instance (f : Fl) : Decidable (flOk f) := by unfold flOk; infer_instance
structure FlIn (f : Fl) : Prop where
  sent : in64 f.sent
  told : in64 f.told
  out : in64 f.out
def flRoom (f : Fl) (r : Int) : Int := if flOk f ∧ f.out ≤ r then r - f.out else 0
def flSend (f : Fl) (n r : Int) : Fl × Int :=
  if ¬ (flOk f ∧ 1 ≤ n) then (f, 201) else if 9223372036854775807 - n < f.sent then (f, 10) else if flRoom f r < n then (f, 203) else (⟨f.sent + n, f.told, f.out + n⟩, 0)
def flBack (f : Fl) (n t : Int) : Fl × Int :=
  if ¬ (flOk f ∧ 1 ≤ n) then (f, 201) else if f.out < n then (f, 202) else (⟨f.sent, f.told + t, f.out - n⟩, 0)
theorem c_flight_Check {x : Nat → Obj → Prop} (f : Fl) (h : FlIn f) : PureC Tryz.prog x 57 [f.v] (.bool (decide (flOk f))) := by
  obtain ⟨a, b, c⟩ := f
  have h0 := h
  obtain ⟨h1, h2, h3⟩ := h
  unfold in64 at h1 h2 h3
  unfold Fl.v
  simp only at *
  refine pureC_of_Sd Tryz.func57 rfl rfl fun w => ?_
  refine Sd_of_cW (by kernel_rfl) ?_
  repeat' (first | (with_reducible refine ifB_intro (fun _ => ?_) (fun _ => ?_)) | ((fail_if_success (with_reducible refine stk ?_)); simp only [WE, Nat.reduceLeDiff, segX, Nat.reduceBEq, Nat.reduceAdd, Nat.reduceEqDiff, Int.reduceNeg, Int.reduceEq, Int.reduceBEq, Int.reduceLT, Int.reduceLE, Int.reduceBNe, Int.reduceToNat, Nat.reduceMul, Nat.reduceMod, Int.reducePow, reduceIte, ty_3, fo_36_0, fo_36_1, fo_36_2, rs_57, wr_def64]))
  all_goals refine congrArg Value.bool ?_
  all_goals simp only [decide_eq_true_eq, decide_eq_false_iff_not] at *
  all_goals unfold flOk
  all_goals first
    | exact decide_eq_decide.2 (by dsimp only; omega)
    | exact (decide_eq_false (by dsimp only; omega)).symm
theorem c_flight_Room {x : Nat → Obj → Prop} (f : Fl) (r : Int) (h : FlIn f) (hr : in64 r) : PureC Tryz.prog x 184 [f.v, .int .i64 r] (.int .i64 (flRoom f r)) := by
  obtain ⟨a, b, c⟩ := f
  have h0 := h
  obtain ⟨h1, h2, h3⟩ := h
  have hr0 := hr
  unfold in64 at h1 h2 h3 hr
  unfold Fl.v
  simp only at *
  refine pureC_of_Sd Tryz.func184 rfl rfl fun w => ?_
  refine Sd_of_cW (by kernel_rfl) ?_
  repeat' (first | (with_reducible refine ifB_intro (fun _ => ?_) (fun _ => ?_)) | ((with_reducible show callW _ _ _ (some (57, _)) _ _); refine callP g_flight_Check rfl (c_flight_Check ⟨a, b, c⟩ h0) ?_) | ((fail_if_success (with_reducible refine stk ?_)); simp only [WE, Nat.reduceLeDiff, segX, Nat.reduceBEq, Nat.reduceAdd, Nat.reduceEqDiff, Int.reduceNeg, Int.reduceEq, Int.reduceBEq, Int.reduceLT, Int.reduceLE, Int.reduceBNe, Int.reduceToNat, Nat.reduceMul, Nat.reduceMod, Int.reducePow, reduceIte, ty_3, ty_36, fo_36_2, rs_184, wr_def64]))
  all_goals refine congrArg (Value.int .i64) ?_
  all_goals simp only [decide_eq_true_eq, decide_eq_false_iff_not, Bool.not_eq_true', Bool.not_eq_false', bne_iff_ne, ne_eq, bne_eq_false_iff_eq, beq_iff_eq, beq_eq_false_iff_ne, Bool.and_eq_true, Bool.and_eq_false_iff, Bool.or_eq_true, Bool.or_eq_false_iff, not_true_eq_false, not_false_eq_true] at *
  all_goals simp only [flOk] at *
  all_goals unfold flRoom flOk
  all_goals dsimp only
  all_goals split <;> omega
theorem c_flight_Send {x : Nat → Obj → Prop} (f : Fl) (n r : Int) (h : FlIn f) (hn : in64 n) (hr : in64 r) : PureC Tryz.prog x 125 [f.v, .int .i64 n, .int .i64 r] (.tuple #[(flSend f n r).1.v, .int .i64 (flSend f n r).2]) := by
  obtain ⟨a, b, c⟩ := f
  have h0 := h
  obtain ⟨h1, h2, h3⟩ := h
  have hr0 := hr
  unfold in64 at h1 h2 h3 hr hn
  unfold Fl.v
  simp only at *
  refine pureC_of_Sd Tryz.func125 rfl rfl fun w => ?_
  refine Sd_of_cW (by kernel_rfl) ?_
  repeat' (first | (with_reducible refine ifB_intro (fun _ => ?_) (fun _ => ?_)) | ((with_reducible show callW _ _ _ (some (57, _)) _ _); refine callP g_flight_Check rfl (c_flight_Check ⟨a, b, c⟩ h0) ?_) | ((with_reducible show callW _ _ _ (some (184, _)) _ _); refine callP g_flight_Room rfl (c_flight_Room ⟨a, b, c⟩ r h0 hr0) ?_) | ((fail_if_success (with_reducible refine stk ?_)); simp only [WE, Nat.reduceLeDiff, segX, Nat.reduceBEq, Nat.reduceAdd, Nat.reduceEqDiff, Int.reduceNeg, Int.reduceEq, Int.reduceBEq, Int.reduceLT, Int.reduceLE, Int.reduceBNe, Int.reduceToNat, Nat.reduceMul, Nat.reduceMod, Int.reducePow, reduceIte, ty_3, ty_36, fo_36_0, fo_36_2, tz_36, rs_125, wr_def64]))
  all_goals simp only [decide_eq_true_eq, decide_eq_false_iff_not, Bool.not_eq_true', Bool.not_eq_false', bne_iff_ne, ne_eq, bne_eq_false_iff_eq, beq_iff_eq, beq_eq_false_iff_ne, Bool.and_eq_true, Bool.and_eq_false_iff, Bool.or_eq_true, Bool.or_eq_false_iff, not_true_eq_false, not_false_eq_true] at *
  all_goals unfold flSend
  all_goals dsimp only [Fl.v]
  · rw [if_pos (fun h => by first | exact absurd h.1 (by assumption) | exact absurd h.2 (by omega))]
  · rw [if_pos (fun h => by first | exact absurd h.1 (by assumption) | exact absurd h.2 (by omega))]
  · rw [if_neg (fun h => h ⟨by assumption, by omega⟩), if_pos (by omega)]
  · rw [if_neg (fun h => h ⟨by assumption, by omega⟩), if_neg (by omega), if_pos (by assumption)]
  · rename_i k1 k2 k3 k4
    have k5 : c + n ≤ 9223372036854775807 := by unfold flOk at k1; dsimp only at k1; omega
    rw [if_neg (fun h => h ⟨by assumption, by omega⟩), if_neg (by omega), if_neg (by assumption)]
    unfold flOk at k1
    dsimp only at k1
    rw [show (a + n + 9223372036854775808) % 18446744073709551616 - 9223372036854775808 = a + n by omega, show (c + n + 9223372036854775808) % 18446744073709551616 - 9223372036854775808 = c + n by omega]
theorem c_flight_back {x : Nat → Obj → Prop} (f : Fl) (n r : Int) (h : FlIn f) (hn : in64 n) (hr : r = n ∨ r = 0) : PureC Tryz.prog x 187 [f.v, .int .i64 n, .int .i64 r] (.tuple #[(flBack f n r).1.v, .int .i64 (flBack f n r).2]) := by
  obtain ⟨a, b, c⟩ := f
  have h0 := h
  obtain ⟨h1, h2, h3⟩ := h
  unfold in64 at h1 h2 h3 hn
  unfold Fl.v
  simp only at *
  refine pureC_of_Sd Tryz.func187 rfl rfl fun w => ?_
  refine Sd_of_cW (by kernel_rfl) ?_
  repeat' (first | (with_reducible refine ifB_intro (fun _ => ?_) (fun _ => ?_)) | ((with_reducible show callW _ _ _ (some (57, _)) _ _); refine callP g_flight_Check rfl (c_flight_Check ⟨a, b, c⟩ h0) ?_) | ((fail_if_success (with_reducible refine stk ?_)); simp only [WE, Nat.reduceLeDiff, segX, Nat.reduceBEq, Nat.reduceAdd, Nat.reduceEqDiff, Int.reduceNeg, Int.reduceEq, Int.reduceBEq, Int.reduceLT, Int.reduceLE, Int.reduceBNe, Int.reduceToNat, Nat.reduceMul, Nat.reduceMod, Int.reducePow, reduceIte, ty_3, ty_36, fo_36_1, fo_36_2, tz_36, rs_187, wr_def64]))
  all_goals simp only [decide_eq_true_eq, decide_eq_false_iff_not, Bool.not_eq_true', Bool.not_eq_false', bne_iff_ne, ne_eq, bne_eq_false_iff_eq, beq_iff_eq, beq_eq_false_iff_ne, Bool.and_eq_true, Bool.and_eq_false_iff, Bool.or_eq_true, Bool.or_eq_false_iff, not_true_eq_false, not_false_eq_true] at *
  all_goals unfold flBack
  all_goals dsimp only [Fl.v]
  · rw [if_pos (fun h => by first | exact absurd h.1 (by assumption) | exact absurd h.2 (by omega))]
  · rw [if_pos (fun h => by first | exact absurd h.1 (by assumption) | exact absurd h.2 (by omega))]
  · rw [if_neg (fun h => h ⟨by assumption, by omega⟩), if_pos (by omega)]
  · rename_i k1 k2 k3
    rw [if_neg (fun h => h ⟨by assumption, by omega⟩), if_neg (by omega)]
    unfold flOk at k1
    dsimp only at k1
    rw [show (c - n + 9223372036854775808) % 18446744073709551616 - 9223372036854775808 = c - n by omega, show (b + r + 9223372036854775808) % 18446744073709551616 - 9223372036854775808 = b + r by omega]
theorem c_flight_Ack {x : Nat → Obj → Prop} (f : Fl) (n : Int) (h : FlIn f) (hn : in64 n) : PureC Tryz.prog x 128 [f.v, .int .i64 n] (.tuple #[(flBack f n n).1.v, .int .i64 (flBack f n n).2]) := by
  obtain ⟨a, b, c⟩ := f
  unfold Fl.v
  refine pureC_of_Sd Tryz.func128 rfl rfl fun w => ?_
  refine Sd_of_cW (by kernel_rfl) ?_
  repeat' (first | (with_reducible refine ifB_intro (fun _ => ?_) (fun _ => ?_)) | ((with_reducible show callW _ _ _ (some (187, _)) _ _); refine callP g_flight_back rfl (c_flight_back ⟨a, b, c⟩ n n h hn (.inl rfl)) ?_) | ((fail_if_success (with_reducible refine stk ?_)); simp only [WE, Nat.reduceLeDiff, segX, Nat.reduceBEq, Nat.reduceAdd, Nat.reduceEqDiff, Int.reduceNeg, Int.reduceEq, Int.reduceBEq, Int.reduceLT, Int.reduceLE, Int.reduceBNe, Int.reduceToNat, Nat.reduceMul, Nat.reduceMod, Int.reducePow, reduceIte, ty_36, tz_36, rs_128, Fl.v]))
theorem c_flight_Lose {x : Nat → Obj → Prop} (f : Fl) (n : Int) (h : FlIn f) (hn : in64 n) : PureC Tryz.prog x 138 [f.v, .int .i64 n] (.tuple #[(flBack f n 0).1.v, .int .i64 (flBack f n 0).2]) := by
  obtain ⟨a, b, c⟩ := f
  unfold Fl.v
  refine pureC_of_Sd Tryz.func138 rfl rfl fun w => ?_
  refine Sd_of_cW (by kernel_rfl) ?_
  repeat' (first | (with_reducible refine ifB_intro (fun _ => ?_) (fun _ => ?_)) | ((with_reducible show callW _ _ _ (some (187, _)) _ _); refine callP g_flight_back rfl (c_flight_back ⟨a, b, c⟩ n 0 h hn (.inr rfl)) ?_) | ((fail_if_success (with_reducible refine stk ?_)); simp only [WE, Nat.reduceLeDiff, segX, Nat.reduceBEq, Nat.reduceAdd, Nat.reduceEqDiff, Int.reduceNeg, Int.reduceEq, Int.reduceBEq, Int.reduceLT, Int.reduceLE, Int.reduceBNe, Int.reduceToNat, Nat.reduceMul, Nat.reduceMod, Int.reducePow, reduceIte, ty_36, tz_36, rs_138, Fl.v]))
structure Rd where
  id : Int
  end_ : Int
def Rd.v (r : Rd) : Value := .agg #[.int .i64 r.id, .int .i64 r.end_]
def rdOk (r : Rd) : Prop := 0 ≤ r.id ∧ 0 ≤ r.end_
instance (r : Rd) : Decidable (rdOk r) := by unfold rdOk; infer_instance
def rdBegin (s : Int) : Rd := ⟨0, mx s 0⟩
def rdAck (r : Rd) (told sent : Int) : Rd × Bool × Int :=
  if ¬ (rdOk r ∧ 0 ≤ told ∧ told ≤ sent) then (r, false, 201) else if told < r.end_ then (r, false, 0) else if r.id = 9223372036854775807 then (r, false, 201) else (⟨r.id + 1, sent⟩, true, 0)
theorem c_round_Check {x : Nat → Obj → Prop} (r : Rd) : PureC Tryz.prog x 61 [r.v] (.bool (decide (rdOk r))) := by
  obtain ⟨a, b⟩ := r
  unfold Rd.v
  refine pureC_of_Sd Tryz.func61 rfl rfl fun w => ?_
  refine Sd_of_cW (by kernel_rfl) ?_
  repeat' (first | (with_reducible refine ifB_intro (fun _ => ?_) (fun _ => ?_)) | ((fail_if_success (with_reducible refine stk ?_)); simp only [WE, Nat.reduceLeDiff, segX, Nat.reduceBEq, Nat.reduceAdd, Nat.reduceEqDiff, Int.reduceNeg, Int.reduceEq, Int.reduceBEq, Int.reduceLT, Int.reduceLE, Int.reduceBNe, Int.reduceToNat, Nat.reduceMul, Nat.reduceMod, Int.reducePow, reduceIte, ty_3, fo_41_0, fo_41_1, rs_61]))
  all_goals refine congrArg Value.bool ?_
  all_goals simp only [decide_eq_true_eq, decide_eq_false_iff_not, Bool.not_eq_true', Bool.not_eq_false', bne_iff_ne, ne_eq, bne_eq_false_iff_eq, beq_iff_eq, beq_eq_false_iff_ne, Bool.and_eq_true, Bool.and_eq_false_iff, Bool.or_eq_true, Bool.or_eq_false_iff, not_true_eq_false, not_false_eq_true] at *
  all_goals unfold rdOk
  all_goals first
    | exact decide_eq_decide.2 (by dsimp only; omega)
    | exact (decide_eq_false (by dsimp only; omega)).symm
theorem c_round_Begin {x : Nat → Obj → Prop} (s : Int) : PureC Tryz.prog x 142 [.int .i64 s] (rdBegin s).v := by
  refine pureC_of_Sd Tryz.func142 rfl rfl fun w => ?_
  refine Sd_of_cW (by kernel_rfl) ?_
  repeat' (first | (with_reducible refine ifB_intro (fun _ => ?_) (fun _ => ?_)) | ((fail_if_success (with_reducible refine stk ?_)); simp only [WE, Nat.reduceLeDiff, segX, Nat.reduceBEq, Nat.reduceAdd, Nat.reduceEqDiff, Int.reduceNeg, Int.reduceEq, Int.reduceBEq, Int.reduceLT, Int.reduceLE, Int.reduceBNe, Int.reduceToNat, Nat.reduceMul, Nat.reduceMod, Int.reducePow, reduceIte, ty_41, tz_41, bd_41, rs_142]))
  rfl
theorem c_round_Ack_1 {x : Nat → Obj → Prop} {b T : Nat} {f : Nat × Nat} (r : Rd) (e : Int) (hx : x b (.cells #[.int .i64 r.id, .int .i64 r.end_] T f)) : PureC Tryz.prog x 193 [.int .i64 e, .pointer (some ⟨b, 0, none⟩)] (.tuple #[r.v, .bool false, .int .i64 e]) := by
  have hl : loadX true 2 0 #[.int .i64 r.id, .int .i64 r.end_] = some r.v := rfl
  refine pureC_of_Sd Tryz.func193 rfl rfl fun w => ?_
  refine Sd_of_cW (by kernel_rfl) ?_
  repeat' (first | (with_reducible refine extW_of hx hl ?_) | (with_reducible refine ifB_intro (fun _ => ?_) (fun _ => ?_)) | ((fail_if_success (with_reducible refine stk ?_)); simp only [WE, Nat.reduceLeDiff, segX, Nat.reduceBEq, Nat.reduceAdd, Nat.reduceEqDiff, Int.reduceNeg, Int.reduceEq, Int.reduceBEq, Int.reduceLT, Int.reduceLE, Int.reduceBNe, Int.reduceToNat, Nat.reduceMul, Nat.reduceMod, Int.reducePow, reduceIte, ty_41, tz_41, rs_193, appX_nil, Rd.v]))
theorem c_round_Ack {x : Nat → Obj → Prop} (r : Rd) (t s : Int) (h1 : in64 r.id) : PureC Tryz.prog x 130 [r.v, .int .i64 t, .int .i64 s] (.tuple #[(rdAck r t s).1.v, .bool (rdAck r t s).2.1, .int .i64 (rdAck r t s).2.2]) := by
  obtain ⟨a, b⟩ := r
  unfold in64 at h1
  unfold Rd.v
  refine pureC_of_Sd Tryz.func130 rfl rfl fun w => ?_
  refine Sd_of_cW (by kernel_rfl) ?_
  repeat' (first | (((with_reducible show callW _ _ _ (some (193, _)) _ _); refine callO (goes_of Tryz.func193 rfl rfl) (fun s => c_round_Ack_1 ⟨a, b⟩ _ (.inr ⟨0, _, rfl, rfl, rfl⟩)) ?_)) | (with_reducible refine ifB_intro (fun _ => ?_) (fun _ => ?_)) | ((with_reducible show callW _ _ _ (some (61, _)) _ _); refine callP g_round_Check rfl (c_round_Check ⟨a, b⟩) ?_) | ((with_reducible show callW _ _ _ (some (193, _)) _ _); refine callP g_round_Ack_1 rfl (c_round_Ack_1 ..) ?_) | ((fail_if_success (with_reducible refine stk ?_)); simp only [WE, Nat.reduceLeDiff, segX, Nat.reduceBEq, Nat.reduceAdd, Nat.reduceEqDiff, Int.reduceNeg, Int.reduceEq, Int.reduceBEq, Int.reduceLT, Int.reduceLE, Int.reduceBNe, Int.reduceToNat, Nat.reduceMul, Nat.reduceMod, Int.reducePow, reduceIte, ty_3, ty_41, fo_41_0, fo_41_1, tz_41, bd_41, Tryz.underlying3, rs_130, wr_def64, Rd.v]))
  all_goals simp only [decide_eq_true_eq, decide_eq_false_iff_not, Bool.not_eq_true', Bool.not_eq_false', bne_iff_ne, ne_eq, bne_eq_false_iff_eq, beq_iff_eq, beq_eq_false_iff_ne, Bool.and_eq_true, Bool.and_eq_false_iff, Bool.or_eq_true, Bool.or_eq_false_iff, not_true_eq_false, not_false_eq_true] at *
  all_goals unfold rdAck
  all_goals dsimp only [Rd.v] at *
  · rw [if_pos (fun h => absurd h.1 (by assumption))]
  · rw [if_pos (fun h => absurd h.2.1 (by omega))]
  · rw [if_pos (fun h => absurd h.2.2 (by omega))]
  · rw [if_neg (fun h => h ⟨by assumption, by omega, by omega⟩), if_pos (by omega)]
  · rw [if_neg (fun h => h ⟨by assumption, by omega, by omega⟩), if_neg (by omega), if_pos (by omega)]
  · rw [if_neg (fun h => h ⟨by assumption, by omega, by omega⟩), if_neg (by omega), if_neg (by omega)]
    rw [show (a + 1 + 9223372036854775808) % 18446744073709551616 - 9223372036854775808 = a + 1 by omega]
def lim3 (n l h : Int) : Int := mn (mx n l) h
theorem c_reno_between_int {x : Nat → Obj → Prop} (n l h : Int) : PureC Tryz.prog x 246 [.int .i64 n, .int .i64 l, .int .i64 h] (.int .i64 (lim3 n l h)) := by
  refine pureC_of_Sd Tryz.func246 rfl rfl fun w => ?_
  refine Sd_of_cW (by kernel_rfl) ?_
  repeat' (first | (with_reducible refine ifB_intro (fun _ => ?_) (fun _ => ?_)) | ((fail_if_success (with_reducible refine stk ?_)); simp only [WE, Nat.reduceLeDiff, segX, Nat.reduceBEq, Nat.reduceAdd, Nat.reduceEqDiff, Int.reduceNeg, Int.reduceEq, Int.reduceBEq, Int.reduceLT, Int.reduceLE, Int.reduceBNe, Int.reduceToNat, Nat.reduceMul, Nat.reduceMod, Int.reducePow, reduceIte, rs_246]))
  rfl
theorem c_reno_Part {x : Nat → Obj → Prop} (e p : Int) : PureC Tryz.prog x 245 [.int .i64 e, .int .i64 p] (.tuple #[.int .i64 (if e < p then 9 else 1), .int .i64 (if e < p then 17 else 1)]) := by
  refine pureC_of_Sd Tryz.func245 rfl rfl fun w => ?_
  refine Sd_of_cW (by kernel_rfl) ?_
  repeat' (first | (with_reducible refine ifB_intro (fun _ => ?_) (fun _ => ?_)) | ((fail_if_success (with_reducible refine stk ?_)); simp only [WE, Nat.reduceLeDiff, segX, Nat.reduceBEq, Nat.reduceAdd, Nat.reduceEqDiff, Int.reduceNeg, Int.reduceEq, Int.reduceBEq, Int.reduceLT, Int.reduceLE, Int.reduceBNe, Int.reduceToNat, Nat.reduceMul, Nat.reduceMod, Int.reducePow, reduceIte, rs_245]))
  all_goals simp only [decide_eq_true_eq, decide_eq_false_iff_not, Bool.not_eq_true', Bool.not_eq_false', bne_iff_ne, ne_eq, bne_eq_false_iff_eq, beq_iff_eq, beq_eq_false_iff_ne, Bool.and_eq_true, Bool.and_eq_false_iff, Bool.or_eq_true, Bool.or_eq_false_iff, not_true_eq_false, not_false_eq_true] at *
  all_goals simp only [*, if_true, if_false]
def renoStep (est prior window told : Int) : Int :=
  lim3 (lim3 est 0 68719476736 + lim3 told 0 68719476736 * (if est < prior then 9 else 1) * 65536 / (lim3 window 65536 68719476736 * (if est < prior then 17 else 1))) 0 68719476736
theorem floN_eq {a b c : Int} (hc : 1 ≤ c) (h : in64 (a * b / c)) : floN a b c = a * b / c := by
  unfold in64 at h
  unfold floN fitV
  rw [if_neg (by omega), if_pos h]
theorem floE_eq {a b c : Int} (hc : 1 ≤ c) (h : in64 (a * b / c)) : floE a b c = 0 := by
  unfold in64 at h
  unfold floE fitE
  rw [if_neg (by omega), if_pos h]
theorem div_in {a c : Int} (h0 : 0 ≤ a) (h1 : a ≤ 9223372036854775807) (hc : 1 ≤ c) : 0 ≤ a / c ∧ a / c ≤ 9223372036854775807 ∧ in64 (a / c) := by
  have p1 := Int.ediv_nonneg h0 (show 0 ≤ c by omega)
  have p2 := Int.ediv_le_self c h0
  exact ⟨p1, by omega, i64k (by omega) (by omega)⟩
theorem c_reno_Step {x : Nat → Obj → Prop} (e p w t : Int) : PureC Tryz.prog x 197 [.int .i64 e, .int .i64 p, .int .i64 w, .int .i64 t] (.int .i64 (renoStep e p w t)) := by
  have b1 : 0 ≤ lim3 e 0 68719476736 ∧ lim3 e 0 68719476736 ≤ 68719476736 := by unfold lim3 mn mx; (repeat' split) <;> omega
  have b2 : 65536 ≤ lim3 w 65536 68719476736 ∧ lim3 w 65536 68719476736 ≤ 68719476736 := by unfold lim3 mn mx; (repeat' split) <;> omega
  have b3 : 0 ≤ lim3 t 0 68719476736 ∧ lim3 t 0 68719476736 ≤ 68719476736 := by unfold lim3 mn mx; (repeat' split) <;> omega
  unfold renoStep
  obtain ⟨E, hE⟩ : ∃ E, lim3 e 0 68719476736 = E := ⟨_, rfl⟩
  obtain ⟨W, hW⟩ : ∃ W, lim3 w 65536 68719476736 = W := ⟨_, rfl⟩
  obtain ⟨T, hT⟩ : ∃ T, lim3 t 0 68719476736 = T := ⟨_, rfl⟩
  rw [hE] at b1 ⊢
  rw [hW] at b2 ⊢
  rw [hT] at b3 ⊢
  obtain ⟨n, hn⟩ : ∃ n, (if e < p then (9 : Int) else 1) = n := ⟨_, rfl⟩
  obtain ⟨d, hd⟩ : ∃ d, (if e < p then (17 : Int) else 1) = d := ⟨_, rfl⟩
  have n1 : 1 ≤ n ∧ n ≤ 9 := by rw [← hn]; split <;> omega
  have d1 : 1 ≤ d ∧ d ≤ 17 := by rw [← hd]; split <;> omega
  rw [hn, hd]
  have t1 : 0 ≤ T * n ∧ T * n ≤ 68719476736 * 9 := ⟨Int.mul_nonneg b3.1 (by omega), Int.mul_le_mul b3.2 n1.2 (by omega) (by omega)⟩
  have t2 : 65536 ≤ W * d ∧ W * d ≤ 68719476736 * 17 := ⟨by
    have : 65536 * 1 ≤ W * d := Int.mul_le_mul b2.1 d1.1 (by omega) (by omega)
    omega, Int.mul_le_mul b2.2 d1.2 (by omega) (by omega)⟩
  have w1 : wr .i64 (T * n) = T * n := wr_i64 (by omega) (by omega)
  have w2 : wr .i64 (W * d) = W * d := wr_i64 (by omega) (by omega)
  have q1 := div_in (a := T * n * 65536) (c := W * d) (by omega) (by omega) (by omega)
  have q2 : T * n * 65536 / (W * d) ≤ 4503599627370496 := by
    have := Int.ediv_le_self (W * d) (show 0 ≤ T * n * 65536 by omega)
    have h3 : T * n * 65536 / (W * d) ≤ T * n := by
      refine Int.ediv_le_of_le_mul (by omega) ?_
      exact Int.mul_le_mul_of_nonneg_left t2.1 t1.1
    omega
  have q3 := floN_eq (a := T * n) (b := 65536) (c := W * d) (by omega) q1.2.2
  have q4 : sat (E + T * n * 65536 / (W * d)) = E + T * n * 65536 / (W * d) := sat_id (i64k (by omega) (by omega))
  have hB := c_reno_between_int (x := x) e 0 68719476736
  rw [hE] at hB
  have hB2 := c_reno_between_int (x := x) w 65536 68719476736
  rw [hW] at hB2
  have hB3 := c_reno_between_int (x := x) t 0 68719476736
  rw [hT] at hB3
  have hP := c_reno_Part (x := x) e p
  rw [hn, hd] at hP
  have hF := c_frac_Floor (x := x) (T * n) 65536 (W * d) (i64k (by omega) (by omega)) (i64k (by omega) (by omega)) (i64k (by omega) (by omega))
  rw [q3] at hF
  have hA := c_safe_Add (x := x) E (T * n * 65536 / (W * d)) (i64k (by omega) (by omega)) q1.2.2
  rw [q4] at hA
  refine pureC_of_Sd Tryz.func197 rfl rfl fun w => ?_
  refine Sd_of_cW (by kernel_rfl) ?_
  repeat' (first | (with_reducible refine ifB_intro (fun _ => ?_) (fun _ => ?_)) | ((with_reducible show callW _ _ _ (some (100, _)) _ _); refine callP g_frac_Floor rfl (hF) ?_) | ((with_reducible show callW _ _ _ (some (102, _)) _ _); refine callP g_safe_Add rfl (hA) ?_) | ((with_reducible show callW _ _ _ (some (245, _)) _ _); refine callP g_reno_Part rfl (hP) ?_) | ((with_reducible show callW _ _ _ (some (246, _)) _ _); refine callP g_reno_between_int rfl (hB) ?_) | ((with_reducible show callW _ _ _ (some (246, _)) _ _); refine callP g_reno_between_int rfl (hB2) ?_) | ((with_reducible show callW _ _ _ (some (246, _)) _ _); refine callP g_reno_between_int rfl (hB3) ?_) | ((with_reducible show callW _ _ _ (some (246, _)) _ _); refine callP g_reno_between_int rfl (c_reno_between_int _ _ _) ?_) | ((fail_if_success (with_reducible refine stk ?_)); simp only [WE, Nat.reduceLeDiff, segX, Nat.reduceBEq, Nat.reduceAdd, Nat.reduceEqDiff, Int.reduceNeg, Int.reduceEq, Int.reduceBEq, Int.reduceLT, Int.reduceLE, Int.reduceBNe, Int.reduceToNat, Nat.reduceMul, Nat.reduceMod, Int.reducePow, reduceIte, rs_197, appX_nil, w1, w2]))
def cutOf (n : Int) : Int := if n < 131072 then 131072 else mn n 68719476736
theorem cutOf_in (n : Int) : 131072 ≤ cutOf n ∧ cutOf n ≤ 68719476736 := by unfold cutOf mn; (repeat' split) <;> omega
def cutLeast (n : Int) : Int := cutOf (cutOf n * 7 / 10)
def epFast (last now : Int) : Int := if last ≤ now then now else mx now 0 * 17 / 20
theorem c_epoch_Fast {x : Nat → Obj → Prop} (l n : Int) (hl : in64 l) (hn : in64 n) : PureC Tryz.prog x 250 [.int .i64 l, .int .i64 n] (.int .i64 (epFast l n)) := by
  unfold in64 at hl hn
  unfold epFast
  by_cases h : l ≤ n
  · have f : decide (l ≤ n) = true := decide_eq_true h
    refine pureC_of_Sd Tryz.func250 rfl rfl fun w => ?_
    refine Sd_of_cW (by kernel_rfl) ?_
    repeat' (first | (with_reducible refine ifB_intro (fun _ => ?_) (fun _ => ?_)) | ((with_reducible show callW _ _ _ (some (100, _)) _ _); refine callP g_frac_Floor rfl (hF) ?_) | ((fail_if_success (with_reducible refine stk ?_)); simp only [WE, Nat.reduceLeDiff, segX, Nat.reduceBEq, Nat.reduceAdd, Nat.reduceEqDiff, Int.reduceNeg, Int.reduceEq, Int.reduceBEq, Int.reduceLT, Int.reduceLE, Int.reduceBNe, Int.reduceToNat, Nat.reduceMul, Nat.reduceMod, Int.reducePow, reduceIte, rs_250, appX_nil, f]))
    rw [if_pos h]
  · have f : decide (l ≤ n) = false := decide_eq_false h
    have hm : 0 ≤ mx n 0 ∧ mx n 0 ≤ 9223372036854775807 := by unfold mx; split <;> omega
    rw [if_neg h]
    obtain ⟨M, hM⟩ : ∃ M, mx n 0 = M := ⟨_, rfl⟩
    rw [hM] at hm ⊢
    have hq : in64 (M * 17 / 20) := i64k (by omega) (by omega)
    have hF := c_frac_Floor (x := x) M 17 20 (i64k (by omega) (by omega)) (i64k (by omega) (by omega)) (i64k (by omega) (by omega))
    rw [floN_eq (by omega) hq] at hF
    refine pureC_of_Sd Tryz.func250 rfl rfl fun w => ?_
    refine Sd_of_cW (by kernel_rfl) ?_
    repeat' (first | (with_reducible refine ifB_intro (fun _ => ?_) (fun _ => ?_)) | ((with_reducible show callW _ _ _ (some (100, _)) _ _); refine callP g_frac_Floor rfl (hF) ?_) | ((fail_if_success (with_reducible refine stk ?_)); simp only [WE, Nat.reduceLeDiff, segX, Nat.reduceBEq, Nat.reduceAdd, Nat.reduceEqDiff, Int.reduceNeg, Int.reduceEq, Int.reduceBEq, Int.reduceLT, Int.reduceLE, Int.reduceBNe, Int.reduceToNat, Nat.reduceMul, Nat.reduceMod, Int.reducePow, reduceIte, rs_250, appX_nil, f, hM]))
theorem c_cut_of {x : Nat → Obj → Prop} (n : Int) : PureC Tryz.prog x 251 [.int .i64 n] (.int .i64 (cutOf n)) := by
  refine pureC_of_Sd Tryz.func251 rfl rfl fun w => ?_
  refine Sd_of_cW (by kernel_rfl) ?_
  repeat' (first | (with_reducible refine ifB_intro (fun _ => ?_) (fun _ => ?_)) | ((with_reducible show callW _ _ _ (some (164, _)) _ _); refine callP g_safe_Clamp rfl (c_safe_Clamp _ _ _) ?_) | ((fail_if_success (with_reducible refine stk ?_)); simp only [WE, Nat.reduceLeDiff, segX, Nat.reduceBEq, Nat.reduceAdd, Nat.reduceEqDiff, Int.reduceNeg, Int.reduceEq, Int.reduceBEq, Int.reduceLT, Int.reduceLE, Int.reduceBNe, Int.reduceToNat, Nat.reduceMul, Nat.reduceMod, Int.reducePow, reduceIte, rs_251]))
  rfl
theorem c_cut_window_tenths {x : Nat → Obj → Prop} (n : Int) (h0 : 0 ≤ n) (h1 : n ≤ 68719476736) : PureC Tryz.prog x 314 [.int .i64 n, .int .i64 7] (.int .i64 (cutOf (n * 7 / 10))) := by
  have hF := c_frac_Floor (x := x) n 7 10 (i64k (by omega) (by omega)) (i64k (by omega) (by omega)) (i64k (by omega) (by omega))
  rw [floN_eq (by omega) (i64k (by omega) (by omega))] at hF
  refine pureC_of_Sd Tryz.func314 rfl rfl fun w => ?_
  refine Sd_of_cW (by kernel_rfl) ?_
  repeat' (first | (with_reducible refine ifB_intro (fun _ => ?_) (fun _ => ?_)) | ((with_reducible show callW _ _ _ (some (100, _)) _ _); refine callP g_frac_Floor rfl (hF) ?_) | ((with_reducible show callW _ _ _ (some (251, _)) _ _); refine callP g_cut_of rfl (c_cut_of ..) ?_) | ((fail_if_success (with_reducible refine stk ?_)); simp only [WE, Nat.reduceLeDiff, segX, Nat.reduceBEq, Nat.reduceAdd, Nat.reduceEqDiff, Int.reduceNeg, Int.reduceEq, Int.reduceBEq, Int.reduceLT, Int.reduceLE, Int.reduceBNe, Int.reduceToNat, Nat.reduceMul, Nat.reduceMod, Int.reducePow, reduceIte, rs_314]))
theorem c_cut_window_least {x : Nat → Obj → Prop} (n : Int) (h0 : 0 ≤ n) (h1 : n ≤ 68719476736) : PureC Tryz.prog x 294 [.int .i64 n] (.int .i64 (cutOf (n * 7 / 10))) := by
  refine pureC_of_Sd Tryz.func294 rfl rfl fun w => ?_
  refine Sd_of_cW (by kernel_rfl) ?_
  repeat' (first | (with_reducible refine ifB_intro (fun _ => ?_) (fun _ => ?_)) | ((with_reducible show callW _ _ _ (some (314, _)) _ _); refine callP g_cut_window_tenths rfl (c_cut_window_tenths n h0 h1) ?_) | ((fail_if_success (with_reducible refine stk ?_)); simp only [WE, Nat.reduceLeDiff, segX, Nat.reduceBEq, Nat.reduceAdd, Nat.reduceEqDiff, Int.reduceNeg, Int.reduceEq, Int.reduceBEq, Int.reduceLT, Int.reduceLE, Int.reduceBNe, Int.reduceToNat, Nat.reduceMul, Nat.reduceMod, Int.reducePow, reduceIte, rs_294]))
theorem c_cut_Least {x : Nat → Obj → Prop} (n : Int) : PureC Tryz.prog x 249 [.int .i64 n] (.int .i64 (cutLeast n)) := by
  have h := cutOf_in n
  refine pureC_of_Sd Tryz.func249 rfl rfl fun w => ?_
  refine Sd_of_cW (by kernel_rfl) ?_
  repeat' (first | (with_reducible refine ifB_intro (fun _ => ?_) (fun _ => ?_)) | ((with_reducible show callW _ _ _ (some (251, _)) _ _); refine callP g_cut_of rfl (c_cut_of ..) ?_) | ((with_reducible show callW _ _ _ (some (294, _)) _ _); refine callP g_cut_window_least rfl (c_cut_window_least _ (by omega) h.2) ?_) | ((fail_if_success (with_reducible refine stk ?_)); simp only [WE, Nat.reduceLeDiff, segX, Nat.reduceBEq, Nat.reduceAdd, Nat.reduceEqDiff, Int.reduceNeg, Int.reduceEq, Int.reduceBEq, Int.reduceLT, Int.reduceLE, Int.reduceBNe, Int.reduceToNat, Nat.reduceMul, Nat.reduceMod, Int.reducePow, reduceIte, rs_249]))
  rfl
theorem c_cut_Loss {x : Nat → Obj → Prop} (n l : Int) (hl : in64 l) : PureC Tryz.prog x 202 [.int .i64 n, .int .i64 l] (.tuple #[.int .i64 (cutLeast n), .int .i64 (epFast l (cutOf n))]) := by
  have h := cutOf_in n
  refine pureC_of_Sd Tryz.func202 rfl rfl fun w => ?_
  refine Sd_of_cW (by kernel_rfl) ?_
  repeat' (first | (with_reducible refine ifB_intro (fun _ => ?_) (fun _ => ?_)) | ((with_reducible show callW _ _ _ (some (249, _)) _ _); refine callP g_cut_Least rfl (c_cut_Least ..) ?_) | ((with_reducible show callW _ _ _ (some (250, _)) _ _); refine callP g_epoch_Fast rfl (c_epoch_Fast _ _ hl (i64k (by omega) (by omega))) ?_) | ((with_reducible show callW _ _ _ (some (251, _)) _ _); refine callP g_cut_of rfl (c_cut_of ..) ?_) | ((fail_if_success (with_reducible refine stk ?_)); simp only [WE, Nat.reduceLeDiff, segX, Nat.reduceBEq, Nat.reduceAdd, Nat.reduceEqDiff, Int.reduceNeg, Int.reduceEq, Int.reduceBEq, Int.reduceLT, Int.reduceLE, Int.reduceBNe, Int.reduceToNat, Nat.reduceMul, Nat.reduceMod, Int.reducePow, reduceIte, rs_202]))
theorem c_cut_Timeout {x : Nat → Obj → Prop} (n l : Int) (hl : in64 l) : PureC Tryz.prog x 141 [.int .i64 n, .int .i64 l] (.tuple #[.int .i64 131072, .int .i64 (cutLeast n), .int .i64 (epFast l (cutOf n))]) := by
  refine pureC_of_Sd Tryz.func141 rfl rfl fun w => ?_
  refine Sd_of_cW (by kernel_rfl) ?_
  repeat' (first | (with_reducible refine ifB_intro (fun _ => ?_) (fun _ => ?_)) | ((with_reducible show callW _ _ _ (some (202, _)) _ _); refine callP g_cut_Loss rfl (c_cut_Loss n l hl) ?_) | ((fail_if_success (with_reducible refine stk ?_)); simp only [WE, Nat.reduceLeDiff, segX, Nat.reduceBEq, Nat.reduceAdd, Nat.reduceEqDiff, Int.reduceNeg, Int.reduceEq, Int.reduceBEq, Int.reduceLT, Int.reduceLE, Int.reduceBNe, Int.reduceToNat, Nat.reduceMul, Nat.reduceMod, Int.reducePow, reduceIte, rs_141]))
structure Bk where
  at_ : Int
  have_ : Int
def Bk.v (b : Bk) : Value := .agg #[.int .i64 b.at_, .int .i64 b.have_]
def bkOk (b : Bk) : Prop := 0 ≤ b.at_ ∧ b.at_ ≤ 1099511627776 ∧ 0 ≤ b.have_ ∧ b.have_ ≤ 1152921504606846976
instance (b : Bk) : Decidable (bkOk b) := by unfold bkOk; infer_instance
def bkTaken (n : Int) : Int := if n < 0 then 0 else mn n 1099511627776
theorem bkTaken_in (n : Int) : 0 ≤ bkTaken n ∧ bkTaken n ≤ 1099511627776 := by unfold bkTaken mn; (repeat' split) <;> omega
def bkBytes (b : Bk) : Int := if bkOk b then b.have_ / 1000000 else 0
def bkTake (b : Bk) (n : Int) : Bk × Int := if ¬ (bkOk b ∧ 1 ≤ n) then (b, 201) else if bkBytes b < n then (b, 203) else (⟨b.at_, b.have_ - n * 1000000⟩, 0)
def bkFill (b : Bk) (t rate most : Int) : Bk × Int :=
  if ¬ bkOk b then (b, 201) else if ¬ (0 ≤ t ∧ t ≤ 1099511627776) then (b, 51) else if t < b.at_ then (b, 50)
  else (⟨t, if b.have_ < bkTaken most * 1000000 then mn (sat (b.have_ + sat (bkTaken rate * (t - b.at_)))) (bkTaken most * 1000000) else b.have_⟩, 0)
theorem c_bucket_taken {x : Nat → Obj → Prop} (n : Int) : PureC Tryz.prog x 101 [.int .i64 n] (.int .i64 (bkTaken n)) := by
  refine pureC_of_Sd Tryz.func101 rfl rfl fun w => ?_
  refine Sd_of_cW (by kernel_rfl) ?_
  repeat' (first | (with_reducible refine ifB_intro (fun _ => ?_) (fun _ => ?_)) | ((with_reducible show callW _ _ _ (some (164, _)) _ _); refine callP g_safe_Clamp rfl (c_safe_Clamp _ _ _) ?_) | ((fail_if_success (with_reducible refine stk ?_)); simp only [WE, Nat.reduceLeDiff, segX, Nat.reduceBEq, Nat.reduceAdd, Nat.reduceEqDiff, Int.reduceNeg, Int.reduceEq, Int.reduceBEq, Int.reduceLT, Int.reduceLE, Int.reduceBNe, Int.reduceToNat, Nat.reduceMul, Nat.reduceMod, Int.reducePow, reduceIte, rs_101]))
  rfl
theorem c_bucket_Check {x : Nat → Obj → Prop} (b : Bk) : PureC Tryz.prog x 64 [b.v] (.bool (decide (bkOk b))) := by
  obtain ⟨a, c⟩ := b
  unfold Bk.v
  refine pureC_of_Sd Tryz.func64 rfl rfl fun w => ?_
  refine Sd_of_cW (by kernel_rfl) ?_
  repeat' (first | (with_reducible refine ifB_intro (fun _ => ?_) (fun _ => ?_)) | ((with_reducible show callW _ _ _ (some (56, _)) _ _); refine callP g_clock_Check rfl (c_clock_Check ..) ?_) | ((fail_if_success (with_reducible refine stk ?_)); simp only [WE, Nat.reduceLeDiff, segX, Nat.reduceBEq, Nat.reduceAdd, Nat.reduceEqDiff, Int.reduceNeg, Int.reduceEq, Int.reduceBEq, Int.reduceLT, Int.reduceLE, Int.reduceBNe, Int.reduceToNat, Nat.reduceMul, Nat.reduceMod, Int.reducePow, reduceIte, ty_3, fo_47_0, fo_47_1, rs_64]))
  all_goals refine congrArg Value.bool ?_
  all_goals simp only [clkCheck] at *
  all_goals simp only [decide_eq_true_eq, decide_eq_false_iff_not, Bool.not_eq_true', Bool.not_eq_false', bne_iff_ne, ne_eq, bne_eq_false_iff_eq, beq_iff_eq, beq_eq_false_iff_ne, Bool.and_eq_true, Bool.and_eq_false_iff, Bool.or_eq_true, Bool.or_eq_false_iff, not_true_eq_false, not_false_eq_true] at *
  all_goals unfold bkOk
  all_goals first
    | exact decide_eq_decide.2 (by dsimp only; omega)
    | exact (decide_eq_false (by dsimp only; omega)).symm
theorem c_bucket_Bytes {x : Nat → Obj → Prop} (b : Bk) : PureC Tryz.prog x 39 [b.v] (.int .i64 (bkBytes b)) := by
  obtain ⟨a, c⟩ := b
  unfold Bk.v
  refine pureC_of_Sd Tryz.func39 rfl rfl fun w => ?_
  refine Sd_of_cW (by kernel_rfl) ?_
  repeat' (first | (with_reducible refine ifB_intro (fun _ => ?_) (fun _ => ?_)) | ((with_reducible show callW _ _ _ (some (64, _)) _ _); refine callP g_bucket_Check rfl (c_bucket_Check ⟨a, c⟩) ?_) | ((fail_if_success (with_reducible refine stk ?_)); simp only [WE, Nat.reduceLeDiff, segX, Nat.reduceBEq, Nat.reduceAdd, Nat.reduceEqDiff, Int.reduceNeg, Int.reduceEq, Int.reduceBEq, Int.reduceLT, Int.reduceLE, Int.reduceBNe, Int.reduceToNat, Nat.reduceMul, Nat.reduceMod, Int.reducePow, reduceIte, ty_3, ty_47, fo_47_1, fk_47, bd_47, rs_39, appX_nil]))
  all_goals refine congrArg (Value.int .i64) ?_
  all_goals simp only [decide_eq_true_eq, decide_eq_false_iff_not, Bool.not_eq_true', Bool.not_eq_false', bne_iff_ne, ne_eq, bne_eq_false_iff_eq, beq_iff_eq, beq_eq_false_iff_ne, Bool.and_eq_true, Bool.and_eq_false_iff, Bool.or_eq_true, Bool.or_eq_false_iff, not_true_eq_false, not_false_eq_true] at *
  all_goals unfold bkBytes
  all_goals dsimp only
  · rename_i h
    rw [h.2]; split <;> rfl
  · rename_i h1 h2
    rw [if_neg h2]
  · rename_i h1 h2
    rw [if_pos h2]
    unfold bkOk at h2
    dsimp only at h2
    rw [Int.tdiv_eq_ediv_of_nonneg h2.2.2.1, wr_i64 (by omega) (by omega)]
theorem bkBytes_in (b : Bk) : 0 ≤ bkBytes b ∧ bkBytes b ≤ 1152921504606 := by
  unfold bkBytes
  by_cases h : bkOk b
  · rw [if_pos h]; unfold bkOk at h; omega
  · rw [if_neg h]; omega
theorem c_bucket_Take {x : Nat → Obj → Prop} (b : Bk) (n : Int) : PureC Tryz.prog x 126 [b.v, .int .i64 n] (.tuple #[(bkTake b n).1.v, .int .i64 (bkTake b n).2]) := by
  obtain ⟨a, c⟩ := b
  unfold Bk.v
  refine pureC_of_Sd Tryz.func126 rfl rfl fun w => ?_
  refine Sd_of_cW (by kernel_rfl) ?_
  repeat' (first | (with_reducible refine ifB_intro (fun _ => ?_) (fun _ => ?_)) | ((with_reducible show callW _ _ _ (some (39, _)) _ _); refine callP g_bucket_Bytes rfl (c_bucket_Bytes ⟨a, c⟩) ?_) | ((with_reducible show callW _ _ _ (some (64, _)) _ _); refine callP g_bucket_Check rfl (c_bucket_Check ⟨a, c⟩) ?_) | ((fail_if_success (with_reducible refine stk ?_)); simp only [WE, Nat.reduceLeDiff, segX, Nat.reduceBEq, Nat.reduceAdd, Nat.reduceEqDiff, Int.reduceNeg, Int.reduceEq, Int.reduceBEq, Int.reduceLT, Int.reduceLE, Int.reduceBNe, Int.reduceToNat, Nat.reduceMul, Nat.reduceMod, Int.reducePow, reduceIte, ty_3, ty_47, fo_47_1, tz_47, rs_126, appX_nil, wr_def64]))
  all_goals simp only [decide_eq_true_eq, decide_eq_false_iff_not, Bool.not_eq_true', Bool.not_eq_false', bne_iff_ne, ne_eq, bne_eq_false_iff_eq, beq_iff_eq, beq_eq_false_iff_ne, Bool.and_eq_true, Bool.and_eq_false_iff, Bool.or_eq_true, Bool.or_eq_false_iff, not_true_eq_false, not_false_eq_true] at *
  all_goals unfold bkTake
  all_goals dsimp only [Bk.v]
  · rw [if_pos (fun h => absurd h.1 (by assumption))]
  · rw [if_pos (fun h => absurd h.2 (by omega))]
  · rw [if_neg (fun h => h ⟨by assumption, by omega⟩), if_pos (by assumption)]
  · rename_i k1 k2 k3
    rw [if_neg (fun h => h ⟨by assumption, by omega⟩), if_neg (by assumption)]
    have := bkBytes_in ⟨a, c⟩
    unfold bkBytes at k3
    rw [if_pos k1] at k3
    unfold bkOk at k1
    dsimp only at k1 k3
    rw [show (c - ((n * 1000000 + 9223372036854775808) % 18446744073709551616 - 9223372036854775808) + 9223372036854775808) % 18446744073709551616 - 9223372036854775808 = c - n * 1000000 by omega]
theorem c_bucket_Fill {x : Nat → Obj → Prop} (b : Bk) (t r m : Int) (ht : in64 t) : PureC Tryz.prog x 38 [b.v, .int .i64 t, .int .i64 r, .int .i64 m] (.tuple #[(bkFill b t r m).1.v, .int .i64 (bkFill b t r m).2]) := by
  obtain ⟨a, c⟩ := b
  have hr := bkTaken_in r
  have hm := bkTaken_in m
  have w1 : wr .i64 (bkTaken m * 1000000) = bkTaken m * 1000000 := wr_i64 (by omega) (by omega)
  unfold Bk.v bkFill
  dsimp only
  by_cases hok : bkOk ⟨a, c⟩
  · have hok' := hok
    unfold bkOk at hok
    dsimp only at hok
    have f1 : decide (bkOk ⟨a, c⟩) = true := decide_eq_true hok'
    have hSt : clkStep a t = if ¬ (0 ≤ t ∧ t ≤ 1099511627776) then (a, 51) else if t < a then (a, 50) else (t, 0) := by
      unfold clkStep clkCheck
      by_cases h1 : 0 ≤ t ∧ t ≤ 1099511627776
      · rw [decide_eq_true h1.1, decide_eq_true h1.2, if_neg (fun h => h h1)]
        by_cases h2 : t < a
        · rw [decide_eq_true h2, if_pos h2]; rfl
        · rw [decide_eq_false h2, if_neg h2]; rfl
      · rw [if_pos h1]
        have : (decide (0 ≤ t) && decide (t ≤ 1099511627776)) = false := by
          rw [Bool.and_eq_false_iff, decide_eq_false_iff_not, decide_eq_false_iff_not]; omega
        rw [this]; rfl
    rw [if_neg (fun h => h hok')]
    have hS := c_clock_Step (x := x) a t
    rw [hSt] at hS
    have hc := c_bucket_Check (x := x) ⟨a, c⟩
    rw [f1] at hc
    by_cases h1 : 0 ≤ t ∧ t ≤ 1099511627776
    · rw [if_neg (fun h => h h1)] at hS ⊢
      by_cases h2 : t < a
      · rw [if_pos h2] at hS ⊢
        refine pureC_of_Sd Tryz.func38 rfl rfl fun w => ?_
        refine Sd_seq ?_
        repeat' (first | ((with_reducible show Sd _ _ (.scope _) _ _); refine Sd_scopeF 0 (by rfl) ?_) | ((with_reducible show Sd _ _ _ _ _); refine Sd_of_cW (by kernel_rfl) ?_) | (with_reducible refine ifB_intro (fun _ => ?_) (fun _ => ?_)) | ((with_reducible show callW _ _ _ (some (64, _)) _ _); refine callP g_bucket_Check rfl (hc) ?_) | ((with_reducible show callW _ _ _ (some (72, _)) _ _); refine callP g_clock_Step rfl (hS) ?_) | ((with_reducible show callW _ _ _ (some (101, _)) _ _); refine callP g_bucket_taken rfl (c_bucket_taken ..) ?_) | ((with_reducible show callW _ _ _ (some (102, _)) _ _); refine callP g_safe_Add rfl (c_safe_Add _ _ (i64k (by omega) (by omega)) (sat_in _)) ?_) | ((with_reducible show callW _ _ _ (some (103, _)) _ _); refine callP g_safe_Mul rfl (c_safe_Mul _ _ (i64k (by omega) (by omega)) (i64k (by omega) (by omega))) ?_) | ((with_reducible show cW _ _ (.region 9 _ true) _ _); refine cW_drawTF 13 lx_38_9 (by kernel_rfl) mixed_ (by kernel_rfl) ?_; intro l1 l2 e1 e2; simp only [List.take_succ_cons, List.take_zero, List.drop_succ_cons, List.drop_zero] at e1 e2; subst e1; subst e2) | ((fail_if_success (with_reducible refine stk ?_)); simp only [WE, Nat.reduceLeDiff, segX, Nat.reduceBEq, Nat.reduceAdd, Nat.reduceEqDiff, Int.reduceNeg, Int.reduceEq, Int.reduceBEq, Int.reduceLT, Int.reduceLE, Int.reduceBNe, Int.reduceToNat, Nat.reduceMul, Nat.reduceMod, Int.reducePow, reduceIte, ty_3, ty_47, fo_47_0, fo_47_1, tz_47, Tryz.underlying30, rs_38, appX_nil, jumpW_goto, jumpW_normal, jumpW_ret]))
      · rw [if_neg h2] at hS ⊢
        have w2 : wr .i64 (t - a) = t - a := wr_i64 (by omega) (by omega)
        by_cases h3 : c < bkTaken m * 1000000
        · have f3 : decide (c < bkTaken m * 1000000) = true := decide_eq_true h3
          rw [if_pos h3]
          refine pureC_of_Sd Tryz.func38 rfl rfl fun w => ?_
          refine Sd_seq ?_
          repeat' (first | ((with_reducible show Sd _ _ (.scope _) _ _); refine Sd_scopeF 0 (by rfl) ?_) | ((with_reducible show Sd _ _ _ _ _); refine Sd_of_cW (by kernel_rfl) ?_) | (with_reducible refine ifB_intro (fun _ => ?_) (fun _ => ?_)) | ((with_reducible show callW _ _ _ (some (64, _)) _ _); refine callP g_bucket_Check rfl (hc) ?_) | ((with_reducible show callW _ _ _ (some (72, _)) _ _); refine callP g_clock_Step rfl (hS) ?_) | ((with_reducible show callW _ _ _ (some (101, _)) _ _); refine callP g_bucket_taken rfl (c_bucket_taken ..) ?_) | ((with_reducible show callW _ _ _ (some (102, _)) _ _); refine callP g_safe_Add rfl (c_safe_Add _ _ (i64k (by omega) (by omega)) (sat_in _)) ?_) | ((with_reducible show callW _ _ _ (some (103, _)) _ _); refine callP g_safe_Mul rfl (c_safe_Mul _ _ (i64k (by omega) (by omega)) (i64k (by omega) (by omega))) ?_) | ((with_reducible show cW _ _ (.region 9 _ true) _ _); refine cW_drawTF 13 lx_38_9 (by kernel_rfl) mixed_ (by kernel_rfl) ?_; intro l1 l2 e1 e2; simp only [List.take_succ_cons, List.take_zero, List.drop_succ_cons, List.drop_zero] at e1 e2; subst e1; subst e2) | ((fail_if_success (with_reducible refine stk ?_)); simp only [WE, Nat.reduceLeDiff, segX, Nat.reduceBEq, Nat.reduceAdd, Nat.reduceEqDiff, Int.reduceNeg, Int.reduceEq, Int.reduceBEq, Int.reduceLT, Int.reduceLE, Int.reduceBNe, Int.reduceToNat, Nat.reduceMul, Nat.reduceMod, Int.reducePow, reduceIte, ty_3, ty_47, fo_47_0, fo_47_1, tz_47, Tryz.underlying30, rs_38, appX_nil, jumpW_goto, jumpW_normal, jumpW_ret, w1, w2, f3]))
        · have f3 : decide (c < bkTaken m * 1000000) = false := decide_eq_false h3
          rw [if_neg h3]
          refine pureC_of_Sd Tryz.func38 rfl rfl fun w => ?_
          refine Sd_seq ?_
          repeat' (first | ((with_reducible show Sd _ _ (.scope _) _ _); refine Sd_scopeF 0 (by rfl) ?_) | ((with_reducible show Sd _ _ _ _ _); refine Sd_of_cW (by kernel_rfl) ?_) | (with_reducible refine ifB_intro (fun _ => ?_) (fun _ => ?_)) | ((with_reducible show callW _ _ _ (some (64, _)) _ _); refine callP g_bucket_Check rfl (hc) ?_) | ((with_reducible show callW _ _ _ (some (72, _)) _ _); refine callP g_clock_Step rfl (hS) ?_) | ((with_reducible show callW _ _ _ (some (101, _)) _ _); refine callP g_bucket_taken rfl (c_bucket_taken ..) ?_) | ((with_reducible show callW _ _ _ (some (102, _)) _ _); refine callP g_safe_Add rfl (c_safe_Add _ _ (i64k (by omega) (by omega)) (sat_in _)) ?_) | ((with_reducible show callW _ _ _ (some (103, _)) _ _); refine callP g_safe_Mul rfl (c_safe_Mul _ _ (i64k (by omega) (by omega)) (i64k (by omega) (by omega))) ?_) | ((with_reducible show cW _ _ (.region 9 _ true) _ _); refine cW_drawTF 13 lx_38_9 (by kernel_rfl) mixed_ (by kernel_rfl) ?_; intro l1 l2 e1 e2; simp only [List.take_succ_cons, List.take_zero, List.drop_succ_cons, List.drop_zero] at e1 e2; subst e1; subst e2) | ((fail_if_success (with_reducible refine stk ?_)); simp only [WE, Nat.reduceLeDiff, segX, Nat.reduceBEq, Nat.reduceAdd, Nat.reduceEqDiff, Int.reduceNeg, Int.reduceEq, Int.reduceBEq, Int.reduceLT, Int.reduceLE, Int.reduceBNe, Int.reduceToNat, Nat.reduceMul, Nat.reduceMod, Int.reducePow, reduceIte, ty_3, ty_47, fo_47_0, fo_47_1, tz_47, Tryz.underlying30, rs_38, appX_nil, jumpW_goto, jumpW_normal, jumpW_ret, w1, w2, f3]))
    · rw [if_pos h1] at hS ⊢
      refine pureC_of_Sd Tryz.func38 rfl rfl fun w => ?_
      refine Sd_seq ?_
      repeat' (first | ((with_reducible show Sd _ _ (.scope _) _ _); refine Sd_scopeF 0 (by rfl) ?_) | ((with_reducible show Sd _ _ _ _ _); refine Sd_of_cW (by kernel_rfl) ?_) | (with_reducible refine ifB_intro (fun _ => ?_) (fun _ => ?_)) | ((with_reducible show callW _ _ _ (some (64, _)) _ _); refine callP g_bucket_Check rfl (hc) ?_) | ((with_reducible show callW _ _ _ (some (72, _)) _ _); refine callP g_clock_Step rfl (hS) ?_) | ((with_reducible show callW _ _ _ (some (101, _)) _ _); refine callP g_bucket_taken rfl (c_bucket_taken ..) ?_) | ((with_reducible show callW _ _ _ (some (102, _)) _ _); refine callP g_safe_Add rfl (c_safe_Add _ _ (i64k (by omega) (by omega)) (sat_in _)) ?_) | ((with_reducible show callW _ _ _ (some (103, _)) _ _); refine callP g_safe_Mul rfl (c_safe_Mul _ _ (i64k (by omega) (by omega)) (i64k (by omega) (by omega))) ?_) | ((with_reducible show cW _ _ (.region 9 _ true) _ _); refine cW_drawTF 13 lx_38_9 (by kernel_rfl) mixed_ (by kernel_rfl) ?_; intro l1 l2 e1 e2; simp only [List.take_succ_cons, List.take_zero, List.drop_succ_cons, List.drop_zero] at e1 e2; subst e1; subst e2) | ((fail_if_success (with_reducible refine stk ?_)); simp only [WE, Nat.reduceLeDiff, segX, Nat.reduceBEq, Nat.reduceAdd, Nat.reduceEqDiff, Int.reduceNeg, Int.reduceEq, Int.reduceBEq, Int.reduceLT, Int.reduceLE, Int.reduceBNe, Int.reduceToNat, Nat.reduceMul, Nat.reduceMod, Int.reducePow, reduceIte, ty_3, ty_47, fo_47_0, fo_47_1, tz_47, Tryz.underlying30, rs_38, appX_nil, jumpW_goto, jumpW_normal, jumpW_ret]))
  · have f1 : decide (bkOk ⟨a, c⟩) = false := decide_eq_false hok
    have hc := c_bucket_Check (x := x) ⟨a, c⟩
    rw [f1] at hc
    rw [if_pos hok]
    refine pureC_of_Sd Tryz.func38 rfl rfl fun w => ?_
    refine Sd_seq ?_
    repeat' (first | ((with_reducible show Sd _ _ (.scope _) _ _); refine Sd_scopeF 0 (by rfl) ?_) | ((with_reducible show Sd _ _ _ _ _); refine Sd_of_cW (by kernel_rfl) ?_) | (with_reducible refine ifB_intro (fun _ => ?_) (fun _ => ?_)) | ((with_reducible show callW _ _ _ (some (64, _)) _ _); refine callP g_bucket_Check rfl (hc) ?_) | ((with_reducible show callW _ _ _ (some (72, _)) _ _); refine callP g_clock_Step rfl (hS) ?_) | ((with_reducible show callW _ _ _ (some (101, _)) _ _); refine callP g_bucket_taken rfl (c_bucket_taken ..) ?_) | ((with_reducible show callW _ _ _ (some (102, _)) _ _); refine callP g_safe_Add rfl (c_safe_Add _ _ (i64k (by omega) (by omega)) (sat_in _)) ?_) | ((with_reducible show callW _ _ _ (some (103, _)) _ _); refine callP g_safe_Mul rfl (c_safe_Mul _ _ (i64k (by omega) (by omega)) (i64k (by omega) (by omega))) ?_) | ((with_reducible show cW _ _ (.region 9 _ true) _ _); refine cW_drawTF 13 lx_38_9 (by kernel_rfl) mixed_ (by kernel_rfl) ?_; intro l1 l2 e1 e2; simp only [List.take_succ_cons, List.take_zero, List.drop_succ_cons, List.drop_zero] at e1 e2; subst e1; subst e2) | ((fail_if_success (with_reducible refine stk ?_)); simp only [WE, Nat.reduceLeDiff, segX, Nat.reduceBEq, Nat.reduceAdd, Nat.reduceEqDiff, Int.reduceNeg, Int.reduceEq, Int.reduceBEq, Int.reduceLT, Int.reduceLE, Int.reduceBNe, Int.reduceToNat, Nat.reduceMul, Nat.reduceMod, Int.reducePow, reduceIte, ty_3, ty_47, fo_47_0, fo_47_1, tz_47, Tryz.underlying30, rs_38, appX_nil, jumpW_goto, jumpW_normal, jumpW_ret]))
end Go.Proofs.YtkokohkbhlnjkaaGreatDoor
namespace Go.Proofs.YtkokohkbhlnjkaaGreatDoor
set_option linter.unusedVariables false
set_option linter.unusedSimpArgs false
open Go Go.RowKit Go.Proofs.YtkokohkbhlnjkaaGreatDoor.R
set_option maxRecDepth 50000
set_option maxHeartbeats 400000
abbrev w64 (n : Int) : Int := wr .i64 n
structure Rtt where
  has : Bool
  mean : Int
  far : Int
  deriving DecidableEq
def rttCheck (r : Rtt) : Bool := bif r.has then decide (8 ≤ r.mean) && decide (r.mean ≤ 8589934592) && decide (0 ≤ r.far) && decide (r.far ≤ 4294967296) else r.mean == 0 && r.far == 0
def rttMean (r : Rtt) : Int := w64 (r.mean.tdiv 8)
def rttFar (r : Rtt) : Int := w64 (r.far.tdiv 4)
def rttFirst (t : Int) : Rtt := ⟨true, w64 (t * 8), w64 ((w64 (t * 4)).tdiv 2)⟩
def rttNext (r : Rtt) (t : Int) : Rtt := ⟨r.has, w64 (r.mean + w64 (t - rttMean r)), w64 (r.far + w64 (mx (w64 (t - rttMean r)) (w64 (rttMean r - t)) - rttFar r))⟩
def rttSample (r : Rtt) (t : Int) : Rtt × Int :=
  bif !rttCheck r then (r, 201) else bif decide (t < 1) then (r, 201) else bif decide (1073741824 < t) then (r, 201) else bif !r.has then (rttFirst t, 0) else (rttNext r t, 0)
theorem c_rtt_Mean {x : Nat → Obj → Prop} (h : Bool) (m f : Int) : PureC Tryz.prog x 200 [.agg #[.bool h, .int .i64 m, .int .i64 f]] (.int .i64 (rttMean ⟨h, m, f⟩)) := by
  refine pureC_of_Sd Tryz.func200 rfl rfl fun w => ?_
  refine Sd_of_cW (by kernel_rfl) ?_
  repeat' (first | (with_reducible refine ifB_intro (fun _ => ?_) (fun _ => ?_)) | ((fail_if_success (with_reducible refine stk ?_)); simp only [WE, Nat.reduceLeDiff, segX, Nat.reduceBEq, Nat.reduceAdd, Nat.reduceEqDiff, Int.reduceNeg, Int.reduceEq, Int.reduceBEq, Int.reduceLT, Int.reduceLE, Int.reduceBNe, Int.reduceToNat, Nat.reduceMul, Nat.reduceMod, Int.reducePow, reduceIte, ty_3, fo_38_1, rs_200]))
  rfl
theorem c_rtt_Far {x : Nat → Obj → Prop} (h : Bool) (m f : Int) : PureC Tryz.prog x 291 [.agg #[.bool h, .int .i64 m, .int .i64 f]] (.int .i64 (rttFar ⟨h, m, f⟩)) := by
  refine pureC_of_Sd Tryz.func291 rfl rfl fun w => ?_
  refine Sd_of_cW (by kernel_rfl) ?_
  repeat' (first | (with_reducible refine ifB_intro (fun _ => ?_) (fun _ => ?_)) | ((fail_if_success (with_reducible refine stk ?_)); simp only [WE, Nat.reduceLeDiff, segX, Nat.reduceBEq, Nat.reduceAdd, Nat.reduceEqDiff, Int.reduceNeg, Int.reduceEq, Int.reduceBEq, Int.reduceLT, Int.reduceLE, Int.reduceBNe, Int.reduceToNat, Nat.reduceMul, Nat.reduceMod, Int.reducePow, reduceIte, ty_3, fo_38_2, rs_291]))
  rfl
theorem c_rtt_Check {x : Nat → Obj → Prop} (h : Bool) (m f : Int) : PureC Tryz.prog x 58 [.agg #[.bool h, .int .i64 m, .int .i64 f]] (.bool (rttCheck ⟨h, m, f⟩)) := by
  refine pureC_of_Sd Tryz.func58 rfl rfl fun w => ?_
  refine Sd_of_cW (by kernel_rfl) ?_
  repeat' (first | (with_reducible refine ifB_intro (fun _ => ?_) (fun _ => ?_)) | ((fail_if_success (with_reducible refine stk ?_)); simp only [WE, Nat.reduceLeDiff, segX, Nat.reduceBEq, Nat.reduceAdd, Nat.reduceEqDiff, Int.reduceNeg, Int.reduceEq, Int.reduceBEq, Int.reduceLT, Int.reduceLE, Int.reduceBNe, Int.reduceToNat, Nat.reduceMul, Nat.reduceMod, Int.reducePow, reduceIte, ty_3, ty_4, ty_38, fo_38_0, fo_38_1, fo_38_2, fk_38, bd_38, rs_58]))
  all_goals (refine congrArg Value.bool ?_; simp_all [rttCheck])
  all_goals omega
theorem c_rtt_first {x : Nat → Obj → Prop} (t : Int) : PureC Tryz.prog x 237 [.int .i64 t] (.agg #[.bool (rttFirst t).has, .int .i64 (rttFirst t).mean, .int .i64 (rttFirst t).far]) := by
  refine pureC_of_Sd Tryz.func237 rfl rfl fun w => ?_
  refine Sd_of_cW (by kernel_rfl) ?_
  repeat' (first | (with_reducible refine ifB_intro (fun _ => ?_) (fun _ => ?_)) | ((fail_if_success (with_reducible refine stk ?_)); simp only [WE, Nat.reduceLeDiff, segX, Nat.reduceBEq, Nat.reduceAdd, Nat.reduceEqDiff, Int.reduceNeg, Int.reduceEq, Int.reduceBEq, Int.reduceLT, Int.reduceLE, Int.reduceBNe, Int.reduceToNat, Nat.reduceMul, Nat.reduceMod, Int.reducePow, reduceIte, ty_233, tz_233, bd_38, bd_233, rs_237]))
  rfl
theorem c_rtt_known_next {x : Nat → Obj → Prop} (h : Bool) (m f t : Int) : PureC Tryz.prog x 238 [.agg #[.bool h, .int .i64 m, .int .i64 f], .int .i64 t]
    (.agg #[.bool (rttNext ⟨h, m, f⟩ t).has, .int .i64 (rttNext ⟨h, m, f⟩ t).mean, .int .i64 (rttNext ⟨h, m, f⟩ t).far]) := by
  refine pureC_of_Sd Tryz.func238 rfl rfl fun w => ?_
  refine Sd_of_cW (by kernel_rfl) ?_
  repeat' (first | (with_reducible refine ifB_intro (fun _ => ?_) (fun _ => ?_)) | ((with_reducible show callW _ _ _ (some (200, _)) _ _); refine callP g_rtt_Mean rfl (c_rtt_Mean ..) ?_) | ((with_reducible show callW _ _ _ (some (291, _)) _ _); refine callP g_rtt_Far rfl (c_rtt_Far ..) ?_) | ((with_reducible show cW _ _ (.region 1 _ true) _ _); refine cW_drawF lx_238_1 (by kernel_rfl) mixed_ (by kernel_rfl) ?_) | ((fail_if_success (with_reducible refine stk ?_)); simp only [WE, Nat.reduceLeDiff, segX, Nat.reduceBEq, Nat.reduceAdd, Nat.reduceEqDiff, Int.reduceNeg, Int.reduceEq, Int.reduceBEq, Int.reduceLT, Int.reduceLE, Int.reduceBNe, Int.reduceToNat, Nat.reduceMul, Nat.reduceMod, Int.reducePow, reduceIte, ty_3, ty_38, ty_233, fo_38_1, fo_38_2, fo_233_0, tz_233, rs_238]))
  rfl
theorem c_rtt_Sample {x : Nat → Obj → Prop} (h : Bool) (m f t : Int) : PureC Tryz.prog x 189 [.agg #[.bool h, .int .i64 m, .int .i64 f], .int .i64 t]
    (.tuple #[.agg #[.bool (rttSample ⟨h, m, f⟩ t).1.has, .int .i64 (rttSample ⟨h, m, f⟩ t).1.mean, .int .i64 (rttSample ⟨h, m, f⟩ t).1.far], .int .i64 (rttSample ⟨h, m, f⟩ t).2]) := by
  refine pureC_of_Sd Tryz.func189 rfl rfl fun w => ?_
  refine Sd_of_cW (by kernel_rfl) ?_
  repeat' (first | (with_reducible refine ifB_intro (fun _ => ?_) (fun _ => ?_)) | ((with_reducible show callW _ _ _ (some (58, _)) _ _); refine callP g_rtt_Check rfl (c_rtt_Check ..) ?_) | ((with_reducible show callW _ _ _ (some (237, _)) _ _); refine callP g_rtt_first rfl (c_rtt_first ..) ?_) | ((with_reducible show callW _ _ _ (some (238, _)) _ _); refine callP g_rtt_known_next rfl (c_rtt_known_next ..) ?_) | ((fail_if_success (with_reducible refine stk ?_)); simp only [WE, Nat.reduceLeDiff, segX, Nat.reduceBEq, Nat.reduceAdd, Nat.reduceEqDiff, Int.reduceNeg, Int.reduceEq, Int.reduceBEq, Int.reduceLT, Int.reduceLE, Int.reduceBNe, Int.reduceToNat, Nat.reduceMul, Nat.reduceMod, Int.reducePow, reduceIte, ty_4, ty_38, ty_233, fo_38_0, fo_233_0, tz_38, tz_233, bd_233, rs_189]))
  all_goals (simp only [rttSample, *, cond_true, cond_false]; try rfl)
end Go.Proofs.YtkokohkbhlnjkaaGreatDoor
namespace Go.Proofs.YtkokohkbhlnjkaaGreatDoor
set_option linter.unusedVariables false
set_option linter.unusedSimpArgs false
open Go Go.RowKit Go.Proofs.YtkokohkbhlnjkaaGreatDoor.R
theorem w64_eq {n : Int} (h1 : -9223372036854775808 ≤ n) (h2 : n ≤ 9223372036854775807) : w64 n = n := wr_i64 h1 h2
theorem rttCheck_spec (r : Rtt) : rttCheck r = true ↔ (r.has = true ∧ 8 ≤ r.mean ∧ r.mean ≤ 8589934592 ∧ 0 ≤ r.far ∧ r.far ≤ 4294967296) ∨ (r.has = false ∧ r.mean = 0 ∧ r.far = 0) := by
  obtain ⟨h, m, f⟩ := r
  cases h <;> simp [rttCheck, and_assoc]
theorem rttMean_eq (r : Rtt) (h1 : 0 ≤ r.mean) (h2 : r.mean ≤ 9223372036854775807) : rttMean r = r.mean / 8 := by
  unfold rttMean
  rw [Int.tdiv_eq_ediv_of_nonneg h1, w64_eq] <;> omega
theorem rttFar_eq (r : Rtt) (h1 : 0 ≤ r.far) (h2 : r.far ≤ 9223372036854775807) : rttFar r = r.far / 4 := by
  unfold rttFar
  rw [Int.tdiv_eq_ediv_of_nonneg h1, w64_eq] <;> omega
theorem sample_bad (r : Rtt) (t : Int) (h : ¬ (rttCheck r = true ∧ 1 ≤ t ∧ t ≤ 1073741824)) : rttSample r t = (r, 201) := by
  unfold rttSample
  cases hc : rttCheck r
  · simp
  · simp only [Bool.not_true, cond_false]
    by_cases h1 : t < 1
    · simp [h1]
    · by_cases h2 : 1073741824 < t
      · simp [h2]
      · exact absurd ⟨hc, by omega, by omega⟩ h
theorem sample_first (r : Rtt) (t : Int) (hc : rttCheck r = true) (hh : r.has = false) (h1 : 1 ≤ t) (h2 : t ≤ 1073741824) : rttSample r t = (⟨true, 8 * t, 2 * t⟩, 0) := by
  unfold rttSample
  have e1 : decide (t < 1) = false := by simp; omega
  have e2 : decide (1073741824 < t) = false := by simp; omega
  simp only [hc, hh, e1, e2, Bool.not_true, Bool.not_false, cond_false, cond_true, rttFirst]
  have a1 : w64 (t * 8) = 8 * t := by rw [w64_eq] <;> omega
  have a2 : w64 (t * 4) = 4 * t := by rw [w64_eq] <;> omega
  have a3 : w64 ((4 * t).tdiv 2) = 2 * t := by rw [Int.tdiv_eq_ediv_of_nonneg (by omega), w64_eq] <;> omega
  rw [a1, a2, a3]
def gapOf (r : Rtt) (t : Int) : Int := if t - r.mean / 8 < 0 then r.mean / 8 - t else t - r.mean / 8
theorem sample_next (r : Rtt) (t : Int) (hc : rttCheck r = true) (hh : r.has = true) (h1 : 1 ≤ t) (h2 : t ≤ 1073741824) :
    rttSample r t = (⟨true, r.mean + (t - r.mean / 8), r.far + (gapOf r t - r.far / 4)⟩, 0) := by
  unfold rttSample
  have e1 : decide (t < 1) = false := by simp; omega
  have e2 : decide (1073741824 < t) = false := by simp; omega
  have hc' := (rttCheck_spec r).1 hc
  rw [hh] at hc'
  simp only [true_and, Bool.true_eq_false, false_and, or_false] at hc'
  obtain ⟨b1, b2, b3, b4⟩ := hc'
  have hM : rttMean r = r.mean / 8 := rttMean_eq _ (by omega) (by omega)
  have hF : rttFar r = r.far / 4 := rttFar_eq _ (by omega) (by omega)
  simp only [hc, hh, e1, e2, Bool.not_true, cond_false, rttNext, hM, hF]
  have a1 : w64 (t - r.mean / 8) = t - r.mean / 8 := by rw [w64_eq] <;> omega
  have a2 : w64 (r.mean / 8 - t) = r.mean / 8 - t := by rw [w64_eq] <;> omega
  have a3 : mx (t - r.mean / 8) (r.mean / 8 - t) = gapOf r t := by
    unfold mx gapOf
    (repeat' split) <;> omega
  have hg : 0 ≤ gapOf r t ∧ gapOf r t ≤ 1073741824 := by
    unfold gapOf
    split <;> omega
  rw [a1, a2, a3]
  have a4 : w64 (gapOf r t - r.far / 4) = gapOf r t - r.far / 4 := by rw [w64_eq] <;> omega
  rw [a4]
  have a5 : w64 (r.far + (gapOf r t - r.far / 4)) = r.far + (gapOf r t - r.far / 4) := by rw [w64_eq] <;> omega
  have a6 : w64 (r.mean + (t - r.mean / 8)) = r.mean + (t - r.mean / 8) := by rw [w64_eq] <;> omega
  rw [a5, a6]
theorem sample_check (r : Rtt) (t : Int) (hc : rttCheck r = true) : rttCheck (rttSample r t).1 = true := by
  by_cases hb : 1 ≤ t ∧ t ≤ 1073741824
  · cases hh : r.has
    · rw [sample_first r t hc hh hb.1 hb.2, rttCheck_spec]; left; dsimp only; exact ⟨rfl, by omega, by omega, by omega, by omega⟩
    · rw [sample_next r t hc hh hb.1 hb.2, rttCheck_spec]
      left
      have hc' := (rttCheck_spec r).1 hc
      rw [hh] at hc'
      simp only [true_and, Bool.true_eq_false, false_and, or_false] at hc'
      unfold gapOf
      dsimp only
      refine ⟨rfl, ?_⟩
      split <;> omega
  · rw [sample_bad r t (fun h => hb h.2)]; exact hc
theorem sample_ok {r : Rtt} {t : Int} (e : (rttSample r t).2 = 0) : rttCheck r = true ∧ 1 ≤ t ∧ t ≤ 1073741824 := by
  by_cases ha : rttCheck r = true ∧ 1 ≤ t ∧ t ≤ 1073741824
  · exact ha
  · rw [sample_bad r t ha] at e; simp at e
end Go.Proofs.YtkokohkbhlnjkaaGreatDoor
namespace Go.Proofs.YtkokohkbhlnjkaaGreatDoor
set_option linter.unusedVariables false
set_option linter.unusedSimpArgs false
open Go Go.RowKit Go.Proofs.YtkokohkbhlnjkaaGreatDoor.R
set_option maxRecDepth 50000
set_option maxHeartbeats 1000000
def TensX (x : Nat → Obj → Prop) : Prop := ∃ T f, x 0 (.cells #[.int .u64 1000000000, .int .u64 10000000000] T f)
theorem TensX.mono {x x' : Nat → Obj → Prop} (h : TensX x) (hx : xsub x x') : TensX x' := let ⟨T, f, h⟩ := h; ⟨T, f, hx _ _ h⟩
theorem TensX.all {S : St} {s : Nat → Nat} (h : TensX S.x) : TensX (xAll S s) := h.mono fun _ _ h => .inl h
theorem idx_arr {P : Program} {K : Value → Prop} {T e : TypeId} {cs : Array Value} {n : Nat} {ik : IntKind} {j : Int} {v : Value} {kd : IntKind} (hT : P.underlying T = some (.array n e)) (hd' : (P.info? e).map (·.size) = some 1) (he : P.underlying e = some (.int kd))
    (h0 : 0 ≤ j) (hj : j < (n : Int)) (hv : cs[j.toNat]? = some v) : pureW P (Instr.index T (.agg cs) (.int ik j)) K = K v := by
  obtain ⟨d, hd, h1⟩ := Option.map_eq_some_iff.1 hd'
  refine pureW_of fun w => ?_
  have hs : (sizeOf e).run P w = .ok 1 w := by simp [sizeOf, typeInfo, hd, h1]
  have ha : (isAgg e).run P w = .ok false w := by simp [isAgg, run_underlying he]
  simp [Instr.index, asIntOf, run_underlying hT, h0, hj, hs, part, ha, hv]
theorem bigV_of (g : Bool) {Y : Int} (h0 : 0 ≤ Y) (h1 : Y < 340282366920938463463374607431768211456) : Value.agg #[.bool (bG g Y), .int .u64 (bH Y), .int .u64 (bL Y)] = bigV (bif g then -Y else Y) := by
  have ho := ovr_no h1
  have e : (((bif g then -Y else Y) : Int).natAbs : Int) = Y := by cases g <;> (simp only [cond_true, cond_false]; omega)
  have e2 : (g && !(Y == 0)) = decide ((bif g then -Y else Y) < 0) := by
    cases g
    · simp only [cond_false, Bool.false_and]; exact (decide_eq_false (by omega)).symm
    · simp only [cond_true, Bool.true_and]
      by_cases h : Y = 0
      · rw [h]; rfl
      · rw [beq_eq_false_iff_ne.2 h]; exact (decide_eq_true (by omega)).symm
  unfold bigV bG bH bL
  rw [ho, e]
  simp only [cond_false, e2]
theorem bE_no {Y : Int} (h : Y < 340282366920938463463374607431768211456) : bE Y = 0 := by unfold bE; rw [ovr_no h]; rfl
theorem c_big_ScaleV {x : Nat → Obj → Prop} (Z n : Int) (hZ : 0 ≤ Z) (hZ1 : Z < 340282366920938463463374607431768211456) (hn : 0 ≤ n) (hn1 : n < 18446744073709551616) (hb : Z * n < 340282366920938463463374607431768211456) :
    PureC Tryz.prog x 228 [bigV Z, .int .u64 n] (.tuple #[bigV (Z * n), .int .i64 0]) := by
  have e0 : (Z.natAbs : Int) = Z := by omega
  have h := natAbs_lt (Z := Z) (by omega)
  have := c_big_Scale (x := x) (decide (Z < 0)) _ _ n h.1.1 h.1.2 h.2.1 h.2.2 hn hn1
  have e1 : (Z.natAbs : Int) / 18446744073709551616 * 18446744073709551616 + (Z.natAbs : Int) % 18446744073709551616 = Z := by
    have e := Int.mul_ediv_add_emod (Z.natAbs : Int) 18446744073709551616
    rw [Int.mul_comm] at e
    rw [e, e0]
  have pn := Int.mul_nonneg hZ hn
  rw [e1, bigV_of _ pn hb, bE_no hb, decide_eq_false (show ¬ Z < 0 by omega)] at this
  unfold bigV
  rw [decide_eq_false (show ¬ Z < 0 by omega)]
  exact this
structure Ep where
  on : Bool
  start : Int
  first : Int
  max : Int
  k : Int
  est : Int
  deriving DecidableEq
def Ep.v (e : Ep) : Value := .agg #[.bool e.on, .int .i64 e.start, .int .i64 e.first, .int .i64 e.max, .int .i64 e.k, .int .i64 e.est]
def Ep.zero : Ep := ⟨false, 0, 0, 0, 0, 0⟩
def epGap (g : Int) : Int := if g < 0 then 0 else mn g 68719476736
def epK (g : Int) : Int := rt3 (epGap g * 1000000000 * 10000000000 / 262144)
def epWin (n : Int) : Prop := 0 ≤ n ∧ n ≤ 68719476736
instance (n : Int) : Decidable (epWin n) := by unfold epWin; infer_instance
def epTime (n : Int) : Prop := 0 ≤ n ∧ n ≤ 1099511627776
instance (n : Int) : Decidable (epTime n) := by unfold epTime; infer_instance
def epBegin (t n h : Int) : Ep × Int := if epTime t ∧ epWin n ∧ epWin h then (⟨true, t, n, mx h n, epK (mx h n - n), n⟩, 0) else (Ep.zero, 201)
def epOk (e : Ep) : Prop := if e.on = true then epTime e.start ∧ epWin e.first ∧ epWin e.max ∧ epWin e.est ∧ e.first ≤ e.max ∧ e.k = epK (e.max - e.first) else e = Ep.zero
instance (e : Ep) : Decidable (epOk e) := by unfold epOk; infer_instance
def epShift (e : Ep) (by_ : Int) : Ep := if e.on = true ∧ 0 < by_ then ⟨e.on, mn (sat (e.start + by_)) 1099511627776, e.first, e.max, e.k, e.est⟩ else e
theorem epGap_in (g : Int) : 0 ≤ epGap g ∧ epGap g ≤ 68719476736 := by unfold epGap mn; (repeat' split) <;> omega
theorem epK_in (g : Int) : 0 ≤ epK g ∧ epK g ≤ 8796093022207 := by
  have h := epGap_in g
  unfold epK
  generalize hN : epGap g * 1000000000 * 10000000000 / 262144 = N
  have b : 0 ≤ N ∧ N ≤ 2621440000000000000000000 := by omega
  exact ⟨rt3_nn N, by have := rt3_lt (N := N) (b := 8796093022208) b.1 (by omega) (by omega) (by omega); omega⟩
theorem c_epoch_K {x : Nat → Obj → Prop} (hT : TensX x) (g : Int) : PureC Tryz.prog x 174 [.int .i64 g] (.int .i64 (epK g)) := by
  obtain ⟨T, f, hx⟩ := hT
  have hG := epGap_in g
  have hK := epK_in g
  have e0 : (if g < 0 then 0 else mn g 68719476736) = epGap g := rfl
  obtain ⟨G, hGe⟩ : ∃ G, epGap g = G := ⟨_, rfl⟩
  have hKe : epK g = rt3 (G * 1000000000 * 10000000000 / 262144) := by rw [← hGe]; rfl
  rw [hGe] at hG e0
  have hb : (((G * 1000000000 * 10000000000 / 262144 : Int)).natAbs : Int) < 340282366920938463463374607431768211456 := by omega
  have hl := natAbs_lt hb
  have hTh := c_root_Third (x := x) (decide (G * 1000000000 * 10000000000 / 262144 < 0)) _ _ hl.1.1 hl.1.2 hl.2.1 hl.2.2
  have eN : ((G * 1000000000 * 10000000000 / 262144 : Int).natAbs : Int) / 18446744073709551616 * 18446744073709551616 + ((G * 1000000000 * 10000000000 / 262144 : Int).natAbs : Int) % 18446744073709551616 = G * 1000000000 * 10000000000 / 262144 := by
    have e := Int.mul_ediv_add_emod (((G * 1000000000 * 10000000000 / 262144 : Int)).natAbs : Int) 18446744073709551616
    rw [Int.mul_comm] at e
    rw [e]; omega
  rw [eN, ← hKe] at hTh
  have w1 : wr .i64 (epK g) = epK g := wr_i64 (by omega) (by omega)
  have hl2 : loadX true 2 0 #[Value.int .u64 1000000000, .int .u64 10000000000] = some (.agg #[.int .u64 1000000000, .int .u64 10000000000]) := rfl
  refine pureC_of_Sd Tryz.func174 rfl rfl fun w => ?_
  refine Sd_of_cW (by kernel_rfl) ?_
  repeat' (first | (with_reducible refine extW_of hx hl2 ?_) | (with_reducible refine ifB_intro (fun _ => ?_) (fun _ => ?_)) | ((with_reducible show callW _ _ _ (some (164, _)) _ _); refine callP g_safe_Clamp rfl (c_safe_Clamp _ _ _) ?_) | ((with_reducible show callW _ _ _ (some (224, _)) _ _); refine callP g_big_Div rfl (c_big_DivV (G * 1000000000 * 10000000000) 262144 (by omega) (by omega) (by omega)) ?_) | ((with_reducible show callW _ _ _ (some (226, _)) _ _); refine callP g_big_Of rfl (c_big_OfV G (i64k (by omega) (by omega))) ?_) | ((with_reducible show callW _ _ _ (some (228, _)) _ _); refine callP g_big_Scale rfl (c_big_Scale ..) ?_) | ((with_reducible show callW _ _ _ (some (229, _)) _ _); refine callP g_root_Third rfl (hTh) ?_) | ((fail_if_success (with_reducible refine stk ?_)); simp only [WE, Nat.reduceLeDiff, segX, Nat.reduceBEq, Nat.reduceAdd, Nat.reduceEqDiff, Int.reduceNeg, Int.reduceEq, Int.reduceBEq, Int.reduceLT, Int.reduceLE, Int.reduceBNe, Int.reduceToNat, Nat.reduceMul, Nat.reduceMod, Int.reducePow, reduceIte, ty_196, ty_221, tz_196, cv_144_3, Tryz.underlying3, Tryz.underlying144, rs_174, appX_nil, e0, w1, bigV]))
  refine cW_loopA (α := Nat × Int) (fun p => ⟨[(3, .ptr 0 0), (9, .ext (.agg #[.int .u64 1000000000, .int .u64 10000000000])), (10, .ext (.int .i64 (p.1 : Int)))], [.cells 196 [.ext (.bool (decide (p.2 < 0))), .ext (.int .u64 ((p.2.natAbs : Int) / 18446744073709551616)), .ext (.int .u64 ((p.2.natAbs : Int) % 18446744073709551616))]], x⟩)
    (fun p => (p.1 = 0 ∧ p.2 = G) ∨ (p.1 = 1 ∧ p.2 = G * 1000000000) ∨ (p.1 = 2 ∧ p.2 = G * 1000000000 * 10000000000)) (fun p => 2 - p.1)
    ⟨(0, G), Wk_of' ⟨⟨rfl, rfl⟩, ⟨rfl, rfl⟩, ⟨rfl, rfl⟩, trivial⟩ ⟨rfl, trivial⟩ rfl, .inl ⟨rfl, rfl⟩⟩ (by kernel_rfl) ?_
  rintro ⟨j, Z⟩ hJ
  dsimp only at hJ ⊢
  rcases hJ with ⟨rfl, rfl⟩ | ⟨rfl, rfl⟩ | ⟨rfl, rfl⟩
  · have ht : decide (((0 : Nat) : Int) < 2) = true := by decide
    have hix : ∀ K : Value → Prop, pureW Tryz.prog (Instr.index 221 (.agg #[.int .u64 1000000000, .int .u64 10000000000]) (.int .i64 ((0 : Nat) : Int))) K = K (.int .u64 1000000000) := fun K => idx_arr Tryz.underlying221 (by kernel_rfl) Tryz.underlying144 (by omega) (by omega) rfl
    have e : wr .i64 (((0 : Nat) : Int) + 1) = ((1 : Nat) : Int) := wr_i64 (by omega) (by omega)
    repeat' (first | (rw [hix]) | (with_reducible refine ifB_intro (fun _ => ?_) (fun _ => ?_)) | ((with_reducible show callW _ _ _ (some (164, _)) _ _); refine callP g_safe_Clamp rfl (c_safe_Clamp _ _ _) ?_) | ((with_reducible show callW _ _ _ (some (224, _)) _ _); refine callP g_big_Div rfl (c_big_DivV (G * 1000000000 * 10000000000) 262144 (by omega) (by omega) (by omega)) ?_) | ((with_reducible show callW _ _ _ (some (226, _)) _ _); refine callP g_big_Of rfl (c_big_OfV G (i64k (by omega) (by omega))) ?_) | ((with_reducible show callW _ _ _ (some (228, _)) _ _); refine callP g_big_Scale rfl (c_big_ScaleV (Z) 1000000000 (by omega) (by omega) (by omega) (by omega) (by omega)) ?_) | ((with_reducible show callW _ _ _ (some (229, _)) _ _); refine callP g_root_Third rfl (hTh) ?_) | ((fail_if_success (with_reducible refine stk ?_)); simp only [WE, Nat.reduceLeDiff, segX, Nat.reduceBEq, Nat.reduceAdd, Nat.reduceEqDiff, Int.reduceNeg, Int.reduceEq, Int.reduceBEq, Int.reduceLT, Int.reduceLE, Int.reduceBNe, Int.reduceToNat, Nat.reduceMul, Nat.reduceMod, Int.reducePow, reduceIte, ty_196, ty_221, tz_196, cv_144_3, Tryz.underlying3, Tryz.underlying144, rs_174, appX_nil, ht, e, bigV]))
    exact ⟨(1, Z * 1000000000), Wk_of' ⟨⟨rfl, rfl⟩, ⟨rfl, rfl⟩, ⟨rfl, rfl⟩, trivial⟩ ⟨rfl, trivial⟩ rfl, .inr (.inl ⟨rfl, rfl⟩), by dsimp only; omega⟩
  · have ht : decide (((1 : Nat) : Int) < 2) = true := by decide
    have hix : ∀ K : Value → Prop, pureW Tryz.prog (Instr.index 221 (.agg #[.int .u64 1000000000, .int .u64 10000000000]) (.int .i64 ((1 : Nat) : Int))) K = K (.int .u64 10000000000) := fun K => idx_arr Tryz.underlying221 (by kernel_rfl) Tryz.underlying144 (by omega) (by omega) rfl
    have e : wr .i64 (((1 : Nat) : Int) + 1) = ((2 : Nat) : Int) := wr_i64 (by omega) (by omega)
    repeat' (first | (rw [hix]) | (with_reducible refine ifB_intro (fun _ => ?_) (fun _ => ?_)) | ((with_reducible show callW _ _ _ (some (164, _)) _ _); refine callP g_safe_Clamp rfl (c_safe_Clamp _ _ _) ?_) | ((with_reducible show callW _ _ _ (some (224, _)) _ _); refine callP g_big_Div rfl (c_big_DivV (G * 1000000000 * 10000000000) 262144 (by omega) (by omega) (by omega)) ?_) | ((with_reducible show callW _ _ _ (some (226, _)) _ _); refine callP g_big_Of rfl (c_big_OfV G (i64k (by omega) (by omega))) ?_) | ((with_reducible show callW _ _ _ (some (228, _)) _ _); refine callP g_big_Scale rfl (c_big_ScaleV (G * 1000000000) 10000000000 (by omega) (by omega) (by omega) (by omega) (by omega)) ?_) | ((with_reducible show callW _ _ _ (some (229, _)) _ _); refine callP g_root_Third rfl (hTh) ?_) | ((fail_if_success (with_reducible refine stk ?_)); simp only [WE, Nat.reduceLeDiff, segX, Nat.reduceBEq, Nat.reduceAdd, Nat.reduceEqDiff, Int.reduceNeg, Int.reduceEq, Int.reduceBEq, Int.reduceLT, Int.reduceLE, Int.reduceBNe, Int.reduceToNat, Nat.reduceMul, Nat.reduceMod, Int.reducePow, reduceIte, ty_196, ty_221, tz_196, cv_144_3, Tryz.underlying3, Tryz.underlying144, rs_174, appX_nil, ht, e, bigV]))
    exact ⟨(2, G * 1000000000 * 10000000000), Wk_of' ⟨⟨rfl, rfl⟩, ⟨rfl, rfl⟩, ⟨rfl, rfl⟩, trivial⟩ ⟨rfl, trivial⟩ rfl, .inr (.inr ⟨rfl, rfl⟩), by dsimp only; omega⟩
  · have ht : decide (((2 : Nat) : Int) < 2) = false := by decide
    repeat' (first | (with_reducible refine ifB_intro (fun _ => ?_) (fun _ => ?_)) | ((with_reducible show callW _ _ _ (some (164, _)) _ _); refine callP g_safe_Clamp rfl (c_safe_Clamp _ _ _) ?_) | ((with_reducible show callW _ _ _ (some (224, _)) _ _); refine callP g_big_Div rfl (c_big_DivV (G * 1000000000 * 10000000000) 262144 (by omega) (by omega) (by omega)) ?_) | ((with_reducible show callW _ _ _ (some (226, _)) _ _); refine callP g_big_Of rfl (c_big_OfV G (i64k (by omega) (by omega))) ?_) | ((with_reducible show callW _ _ _ (some (228, _)) _ _); refine callP g_big_Scale rfl (c_big_ScaleV (G * 1000000000) 10000000000 (by omega) (by omega) (by omega) (by omega) (by omega)) ?_) | ((with_reducible show callW _ _ _ (some (229, _)) _ _); refine callP g_root_Third rfl (hTh) ?_) | ((fail_if_success (with_reducible refine stk ?_)); simp only [WE, Nat.reduceLeDiff, segX, Nat.reduceBEq, Nat.reduceAdd, Nat.reduceEqDiff, Int.reduceNeg, Int.reduceEq, Int.reduceBEq, Int.reduceLT, Int.reduceLE, Int.reduceBNe, Int.reduceToNat, Nat.reduceMul, Nat.reduceMod, Int.reducePow, reduceIte, ty_196, ty_221, tz_196, cv_144_3, Tryz.underlying3, Tryz.underlying144, rs_174, appX_nil, ht, bigV, w1]))
theorem c_epoch_window {x : Nat → Obj → Prop} (n : Int) : PureC Tryz.prog x 113 [.int .i64 n] (.bool (decide (epWin n))) := by
  refine pureC_of_Sd Tryz.func113 rfl rfl fun w => ?_
  refine Sd_of_cW (by kernel_rfl) ?_
  repeat' (first | (with_reducible refine ifB_intro (fun _ => ?_) (fun _ => ?_)) | ((fail_if_success (with_reducible refine stk ?_)); simp only [WE, Nat.reduceLeDiff, segX, Nat.reduceBEq, Nat.reduceAdd, Nat.reduceEqDiff, Int.reduceNeg, Int.reduceEq, Int.reduceBEq, Int.reduceLT, Int.reduceLE, Int.reduceBNe, Int.reduceToNat, Nat.reduceMul, Nat.reduceMod, Int.reducePow, reduceIte, rs_113]))
  all_goals refine congrArg Value.bool ?_
  all_goals simp only [decide_eq_true_eq, decide_eq_false_iff_not, Bool.not_eq_true', Bool.not_eq_false', bne_iff_ne, ne_eq, bne_eq_false_iff_eq, beq_iff_eq, beq_eq_false_iff_ne, Bool.and_eq_true, Bool.and_eq_false_iff, Bool.or_eq_true, Bool.or_eq_false_iff, not_true_eq_false, not_false_eq_true] at *
  all_goals unfold epWin
  all_goals first
    | exact decide_eq_decide.2 (by omega)
    | exact (decide_eq_false (by omega)).symm
theorem c_epoch_time {x : Nat → Obj → Prop} (n : Int) : PureC Tryz.prog x 173 [.int .i64 n] (.bool (decide (epTime n))) := by
  refine pureC_of_Sd Tryz.func173 rfl rfl fun w => ?_
  refine Sd_of_cW (by kernel_rfl) ?_
  repeat' (first | (with_reducible refine ifB_intro (fun _ => ?_) (fun _ => ?_)) | ((fail_if_success (with_reducible refine stk ?_)); simp only [WE, Nat.reduceLeDiff, segX, Nat.reduceBEq, Nat.reduceAdd, Nat.reduceEqDiff, Int.reduceNeg, Int.reduceEq, Int.reduceBEq, Int.reduceLT, Int.reduceLE, Int.reduceBNe, Int.reduceToNat, Nat.reduceMul, Nat.reduceMod, Int.reducePow, reduceIte, rs_173]))
  all_goals refine congrArg Value.bool ?_
  all_goals simp only [decide_eq_true_eq, decide_eq_false_iff_not, Bool.not_eq_true', Bool.not_eq_false', bne_iff_ne, ne_eq, bne_eq_false_iff_eq, beq_iff_eq, beq_eq_false_iff_ne, Bool.and_eq_true, Bool.and_eq_false_iff, Bool.or_eq_true, Bool.or_eq_false_iff, not_true_eq_false, not_false_eq_true] at *
  all_goals unfold epTime
  all_goals first
    | exact decide_eq_decide.2 (by omega)
    | exact (decide_eq_false (by omega)).symm
theorem c_epoch_Begin {x : Nat → Obj → Prop} (hT : TensX x) (t n h : Int) : PureC Tryz.prog x 112 [.int .i64 t, .int .i64 n, .int .i64 h] (.tuple #[(epBegin t n h).1.v, .int .i64 (epBegin t n h).2]) := by
  unfold epBegin
  by_cases h1 : epTime t
  · have f1 := decide_eq_true h1
    by_cases h2 : epWin n
    · have f2 := decide_eq_true h2
      by_cases h3 : epWin h
      · have f3 := decide_eq_true h3
        rw [if_pos ⟨h1, h2, h3⟩]
        have w1 : wr .i64 (mx h n - n) = mx h n - n := by unfold epWin at h2 h3; unfold mx; exact wr_i64 (by split <;> omega) (by split <;> omega)
        refine pureC_of_Sd Tryz.func112 rfl rfl fun w => ?_
        refine Sd_of_cW (by kernel_rfl) ?_
        repeat' (first | (with_reducible refine ifB_intro (fun _ => ?_) (fun _ => ?_)) | ((with_reducible show callW _ _ _ (some (113, _)) _ _); refine callP g_epoch_window rfl (c_epoch_window ..) ?_) | ((with_reducible show callW _ _ _ (some (173, _)) _ _); refine callP g_epoch_time rfl (c_epoch_time ..) ?_) | ((with_reducible show callW _ _ _ (some (174, _)) _ _); refine callP g_epoch_K rfl (c_epoch_K hT _) ?_) | ((fail_if_success (with_reducible refine stk ?_)); simp only [WE, Nat.reduceLeDiff, segX, Nat.reduceBEq, Nat.reduceAdd, Nat.reduceEqDiff, Int.reduceNeg, Int.reduceEq, Int.reduceBEq, Int.reduceLT, Int.reduceLE, Int.reduceBNe, Int.reduceToNat, Nat.reduceMul, Nat.reduceMod, Int.reducePow, reduceIte, ty_45, tz_45, bd_45, rs_112, appX_nil, f1, f2, f3, w1, Ep.v]))
      · have f3 := decide_eq_false h3
        rw [if_neg (fun h => h3 h.2.2)]
        refine pureC_of_Sd Tryz.func112 rfl rfl fun w => ?_
        refine Sd_of_cW (by kernel_rfl) ?_
        repeat' (first | (with_reducible refine ifB_intro (fun _ => ?_) (fun _ => ?_)) | ((with_reducible show callW _ _ _ (some (113, _)) _ _); refine callP g_epoch_window rfl (c_epoch_window ..) ?_) | ((with_reducible show callW _ _ _ (some (173, _)) _ _); refine callP g_epoch_time rfl (c_epoch_time ..) ?_) | ((with_reducible show callW _ _ _ (some (174, _)) _ _); refine callP g_epoch_K rfl (c_epoch_K hT _) ?_) | ((fail_if_success (with_reducible refine stk ?_)); simp only [WE, Nat.reduceLeDiff, segX, Nat.reduceBEq, Nat.reduceAdd, Nat.reduceEqDiff, Int.reduceNeg, Int.reduceEq, Int.reduceBEq, Int.reduceLT, Int.reduceLE, Int.reduceBNe, Int.reduceToNat, Nat.reduceMul, Nat.reduceMod, Int.reducePow, reduceIte, ty_45, tz_45, bd_45, rs_112, appX_nil, f1, f2, f3, Ep.v, Ep.zero]))
    · have f2 := decide_eq_false h2
      rw [if_neg (fun h => h2 h.2.1)]
      refine pureC_of_Sd Tryz.func112 rfl rfl fun w => ?_
      refine Sd_of_cW (by kernel_rfl) ?_
      repeat' (first | (with_reducible refine ifB_intro (fun _ => ?_) (fun _ => ?_)) | ((with_reducible show callW _ _ _ (some (113, _)) _ _); refine callP g_epoch_window rfl (c_epoch_window ..) ?_) | ((with_reducible show callW _ _ _ (some (173, _)) _ _); refine callP g_epoch_time rfl (c_epoch_time ..) ?_) | ((with_reducible show callW _ _ _ (some (174, _)) _ _); refine callP g_epoch_K rfl (c_epoch_K hT _) ?_) | ((fail_if_success (with_reducible refine stk ?_)); simp only [WE, Nat.reduceLeDiff, segX, Nat.reduceBEq, Nat.reduceAdd, Nat.reduceEqDiff, Int.reduceNeg, Int.reduceEq, Int.reduceBEq, Int.reduceLT, Int.reduceLE, Int.reduceBNe, Int.reduceToNat, Nat.reduceMul, Nat.reduceMod, Int.reducePow, reduceIte, ty_45, tz_45, bd_45, rs_112, appX_nil, f1, f2, Ep.v, Ep.zero]))
  · have f1 := decide_eq_false h1
    rw [if_neg (fun h => h1 h.1)]
    refine pureC_of_Sd Tryz.func112 rfl rfl fun w => ?_
    refine Sd_of_cW (by kernel_rfl) ?_
    repeat' (first | (with_reducible refine ifB_intro (fun _ => ?_) (fun _ => ?_)) | ((with_reducible show callW _ _ _ (some (113, _)) _ _); refine callP g_epoch_window rfl (c_epoch_window ..) ?_) | ((with_reducible show callW _ _ _ (some (173, _)) _ _); refine callP g_epoch_time rfl (c_epoch_time ..) ?_) | ((with_reducible show callW _ _ _ (some (174, _)) _ _); refine callP g_epoch_K rfl (c_epoch_K hT _) ?_) | ((fail_if_success (with_reducible refine stk ?_)); simp only [WE, Nat.reduceLeDiff, segX, Nat.reduceBEq, Nat.reduceAdd, Nat.reduceEqDiff, Int.reduceNeg, Int.reduceEq, Int.reduceBEq, Int.reduceLT, Int.reduceLE, Int.reduceBNe, Int.reduceToNat, Nat.reduceMul, Nat.reduceMod, Int.reducePow, reduceIte, ty_45, tz_45, bd_45, rs_112, appX_nil, f1, Ep.v, Ep.zero]))
theorem c_epoch_Check {x : Nat → Obj → Prop} (hT : TensX x) (e : Ep) : PureC Tryz.prog x 63 [e.v] (.bool (decide (epOk e))) := by
  obtain ⟨o, a, b, c, k, d⟩ := e
  unfold Ep.v
  refine pureC_of_Sd Tryz.func63 rfl rfl fun w => ?_
  refine Sd_of_cW (by kernel_rfl) ?_
  cases o
  · repeat' (first | (with_reducible refine ifB_intro (fun _ => ?_) (fun _ => ?_)) | ((with_reducible show callW _ _ _ (some (112, _)) _ _); refine callP g_epoch_Begin rfl (c_epoch_Begin hT _ _ _) ?_) | ((with_reducible show callW _ _ _ (some (113, _)) _ _); refine callP g_epoch_window rfl (c_epoch_window _) ?_) | ((fail_if_success (with_reducible refine stk ?_)); simp only [WE, Nat.reduceLeDiff, segX, Nat.reduceBEq, Nat.reduceAdd, Nat.reduceEqDiff, Int.reduceNeg, Int.reduceEq, Int.reduceBEq, Int.reduceLT, Int.reduceLE, Int.reduceBNe, Int.reduceToNat, Nat.reduceMul, Nat.reduceMod, Int.reducePow, reduceIte, ty_3, ty_4, ty_45, fo_45_0, fo_45_1, fo_45_2, fo_45_3, fo_45_5, tz_45, fk_45, bd_45, Tryz.underlying30, rs_63, appX_nil, Ep.v]))
    refine congrArg Value.bool ?_
    unfold epOk Ep.zero
    rw [Bool.eq_iff_iff]
    simp only [Bool.and_eq_true, beq_iff_eq, decide_eq_true_eq, Bool.false_eq_true, if_false, Ep.mk.injEq, true_and]
  · repeat' (first | (with_reducible refine ifB_intro (fun _ => ?_) (fun _ => ?_)) | ((with_reducible show callW _ _ _ (some (112, _)) _ _); refine callP g_epoch_Begin rfl (c_epoch_Begin hT _ _ _) ?_) | ((with_reducible show callW _ _ _ (some (113, _)) _ _); refine callP g_epoch_window rfl (c_epoch_window _) ?_) | ((fail_if_success (with_reducible refine stk ?_)); simp only [WE, Nat.reduceLeDiff, segX, Nat.reduceBEq, Nat.reduceAdd, Nat.reduceEqDiff, Int.reduceNeg, Int.reduceEq, Int.reduceBEq, Int.reduceLT, Int.reduceLE, Int.reduceBNe, Int.reduceToNat, Nat.reduceMul, Nat.reduceMod, Int.reducePow, reduceIte, ty_3, ty_4, ty_45, fo_45_0, fo_45_1, fo_45_2, fo_45_3, fo_45_5, tz_45, fk_45, bd_45, Tryz.underlying30, rs_63, appX_nil, Ep.v]))
    all_goals refine congrArg Value.bool ?_
    all_goals unfold epBegin at *
    all_goals by_cases hB : epTime a ∧ epWin b ∧ epWin c
    all_goals first | rw [if_pos hB] at * | rw [if_neg hB] at * | skip
    all_goals simp only [decide_eq_true_eq, decide_eq_false_iff_not, Bool.not_eq_true', Bool.not_eq_false', bne_iff_ne, ne_eq, bne_eq_false_iff_eq, beq_iff_eq, beq_eq_false_iff_ne, Bool.and_eq_true, Bool.and_eq_false_iff, Bool.or_eq_true, Bool.or_eq_false_iff, not_true_eq_false, not_false_eq_true] at *
    all_goals unfold epOk
    all_goals simp only [if_true]
    · rw [Bool.eq_iff_iff]
      simp only [Bool.true_and, Bool.and_eq_true, beq_iff_eq, decide_eq_true_eq]
      constructor
      · rintro ⟨_, _, h1, h2⟩
        have h3 : b ≤ c := by unfold mx at h1; split at h1 <;> omega
        exact ⟨hB.1, hB.2.1, hB.2.2, by assumption, h3, by rw [h2, ← h1]⟩
      · rintro ⟨_, _, _, _, h1, h2⟩
        have h3 : mx c b = c := by unfold mx; split <;> omega
        rw [h3]
        exact ⟨trivial, trivial, rfl, h2⟩
    · rename_i h _; exact absurd h (by decide)
    · exact (decide_eq_false (fun h => absurd h.2.2.2.1 (by assumption))).symm
    · rename_i h _; exact absurd h (by decide)
    · exact (decide_eq_false (fun h => hB ⟨h.1, h.2.1, h.2.2.1⟩)).symm
theorem c_epoch_Shift {x : Nat → Obj → Prop} (e : Ep) (n : Int) (h : in64 e.start) (hn : in64 n) : PureC Tryz.prog x 183 [e.v, .int .i64 n] (epShift e n).v := by
  obtain ⟨o, a, b, c, k, d⟩ := e
  unfold Ep.v
  refine pureC_of_Sd Tryz.func183 rfl rfl fun w => ?_
  refine Sd_of_cW (by kernel_rfl) ?_
  unfold epShift
  cases o
  · repeat' (first | (with_reducible refine ifB_intro (fun _ => ?_) (fun _ => ?_)) | ((with_reducible show callW _ _ _ (some (102, _)) _ _); refine callP g_safe_Add rfl (c_safe_Add _ _ h hn) ?_) | ((fail_if_success (with_reducible refine stk ?_)); simp only [WE, Nat.reduceLeDiff, segX, Nat.reduceBEq, Nat.reduceAdd, Nat.reduceEqDiff, Int.reduceNeg, Int.reduceEq, Int.reduceBEq, Int.reduceLT, Int.reduceLE, Int.reduceBNe, Int.reduceToNat, Nat.reduceMul, Nat.reduceMod, Int.reducePow, reduceIte, ty_3, ty_4, ty_45, fo_45_0, fo_45_1, tz_45, rs_183, appX_nil]))
    rfl
  · by_cases h0 : 0 < n
    · have f := decide_eq_true h0
      rw [if_pos ⟨rfl, h0⟩]
      repeat' (first | (with_reducible refine ifB_intro (fun _ => ?_) (fun _ => ?_)) | ((with_reducible show callW _ _ _ (some (102, _)) _ _); refine callP g_safe_Add rfl (c_safe_Add _ _ h hn) ?_) | ((fail_if_success (with_reducible refine stk ?_)); simp only [WE, Nat.reduceLeDiff, segX, Nat.reduceBEq, Nat.reduceAdd, Nat.reduceEqDiff, Int.reduceNeg, Int.reduceEq, Int.reduceBEq, Int.reduceLT, Int.reduceLE, Int.reduceBNe, Int.reduceToNat, Nat.reduceMul, Nat.reduceMod, Int.reducePow, reduceIte, ty_3, ty_4, ty_45, fo_45_0, fo_45_1, tz_45, rs_183, appX_nil, f]))
    · have f := decide_eq_false h0
      rw [if_neg (fun h => h0 h.2)]
      repeat' (first | (with_reducible refine ifB_intro (fun _ => ?_) (fun _ => ?_)) | ((with_reducible show callW _ _ _ (some (102, _)) _ _); refine callP g_safe_Add rfl (c_safe_Add _ _ h hn) ?_) | ((fail_if_success (with_reducible refine stk ?_)); simp only [WE, Nat.reduceLeDiff, segX, Nat.reduceBEq, Nat.reduceAdd, Nat.reduceEqDiff, Int.reduceNeg, Int.reduceEq, Int.reduceBEq, Int.reduceLT, Int.reduceLE, Int.reduceBNe, Int.reduceToNat, Nat.reduceMul, Nat.reduceMod, Int.reducePow, reduceIte, ty_3, ty_4, ty_45, fo_45_0, fo_45_1, tz_45, rs_183, appX_nil, f]))
def clampI (a l h : Int) : Int := if a < l then l else mn a h
theorem clampI_in {a l h : Int} (hl : l ≤ h) : l ≤ clampI a l h ∧ clampI a l h ≤ h := by unfold clampI mn; (repeat' split) <;> omega
def rise (d : Int) : Int := clampI d (-2147483648) 2147483648 * clampI d (-2147483648) 2147483648 * clampI d (-2147483648) 2147483648 * 262144 / 10000000000000000000
def cubLaw (e : Ep) (t : Int) : Int := clampI (sat (e.max + rise (sat (t - e.k)))) 0 68719476736
def cubAt (e : Ep) (now : Int) : Int := if e.on = true ∧ epOk e then cubLaw e (sat (now - e.start)) else 0
def cubTarget (e : Ep) (now w : Int) : Int := if 0 ≤ w ∧ e.on = true ∧ epOk e then clampI (cubAt e now) w (sat (w + w / 2)) else w
theorem cube_abs (D : Int) (h0 : -2147483648 ≤ D) (h1 : D ≤ 2147483648) : (D.natAbs : Int) * D.natAbs * D.natAbs ≤ 9903520314283042199192993792 ∧ 0 ≤ (D.natAbs : Int) * D.natAbs * D.natAbs ∧ D * D * D = (bif decide (D < 0) then -((D.natAbs : Int) * D.natAbs * D.natAbs) else (D.natAbs : Int) * D.natAbs * D.natAbs) := by
  have h2 : (D.natAbs : Int) ≤ 2147483648 := by omega
  have h3 : 0 ≤ (D.natAbs : Int) := by omega
  have h4 : (D.natAbs : Int) * D.natAbs ≤ 2147483648 * 2147483648 := Int.mul_le_mul h2 h2 h3 (by omega)
  have h5 : 0 ≤ (D.natAbs : Int) * D.natAbs := Int.mul_nonneg h3 h3
  refine ⟨?_, Int.mul_nonneg h5 h3, ?_⟩
  · have : (D.natAbs : Int) * D.natAbs * D.natAbs ≤ 2147483648 * 2147483648 * 2147483648 := Int.mul_le_mul h4 h2 h3 (by omega)
    omega
  · by_cases h : D < 0
    · have e : (D.natAbs : Int) = -D := by omega
      rw [decide_eq_true h, e]
      simp only [cond_true, Int.neg_mul, Int.mul_neg, Int.neg_neg]
    · have e : (D.natAbs : Int) = D := by omega
      rw [decide_eq_false h, e]
      rfl
theorem c_cubic_Rise {x : Nat → Obj → Prop} (d : Int) (hd : in64 d) : PureC Tryz.prog x 313 [.int .i64 d] (.int .i64 (rise d)) := by
  have hC : -2147483648 ≤ clampI d (-2147483648) 2147483648 ∧ clampI d (-2147483648) 2147483648 ≤ 2147483648 := clampI_in (by omega)
  have hS := c_safe_Clamp (x := x) d (-2147483648) 2147483648
  unfold rise
  have e0 : (if d < -2147483648 then -2147483648 else mn d 2147483648) = clampI d (-2147483648) 2147483648 := rfl
  rw [e0] at hS
  generalize clampI d (-2147483648) 2147483648 = D at *
  obtain ⟨hc1, hc0, hc2⟩ := cube_abs D hC.1 hC.2
  have hA := c_safe_Abs (x := x) D (i64k (by omega) (by omega))
  rw [sat_id (i64k (by omega) (by omega))] at hA
  obtain ⟨n, hn⟩ : ∃ n, (D.natAbs : Int) = n := ⟨_, rfl⟩
  rw [hn] at hA hc1 hc0 hc2
  have hn0 : 0 ≤ n ∧ n ≤ 2147483648 := by omega
  have w1 : wr .u64 n = n := wr_u64 (by omega) (by omega)
  obtain ⟨N, hN⟩ : ∃ N, n * n * n = N := ⟨_, rfl⟩
  have hCu := c_root_Cube (x := x) n (by omega) (by omega)
  rw [hN] at hCu hc1 hc0 hc2
  have hb := bHL_in hc0
  have hbe : bH N * 18446744073709551616 + bL N = N := bHL (by omega)
  have hSc := c_big_Scale (x := x) (decide (D < 0)) (bH N) (bL N) 262144 hb.1.1 hb.1.2 hb.2.1 hb.2.2 (by omega) (by omega)
  rw [hbe, bigV_of _ (by omega) (by omega), bE_no (by omega)] at hSc
  have eZ : (bif decide (D < 0) then -(N * 262144) else N * 262144) = D * D * D * 262144 := by
    rw [hc2]; cases decide (D < 0)
    · rfl
    · simp only [cond_true]; omega
  rw [eZ] at hSc
  obtain ⟨Z, hZ⟩ : ∃ Z, D * D * D * 262144 = Z := ⟨_, rfl⟩
  rw [hZ] at hSc eZ ⊢
  have hZ1 : -2596148429267413814265248164610048 ≤ Z ∧ Z ≤ 2596148429267413814265248164610048 := by
    rw [← eZ]; cases decide (D < 0)
    · simp only [cond_false]; omega
    · simp only [cond_true]; omega
  have hDi := c_big_DivV (x := x) Z 10000000000000000000 (by omega) (by omega) (by omega)
  have hIn := c_big_IntV (x := x) (Z / 10000000000000000000) (by omega)
  rw [sat_id (i64k (by omega) (by omega))] at hIn
  refine pureC_of_Sd Tryz.func313 rfl rfl fun w => ?_
  refine Sd_of_cW (by kernel_rfl) ?_
  repeat' (first | (with_reducible refine ifB_intro (fun _ => ?_) (fun _ => ?_)) | ((with_reducible show callW _ _ _ (some (164, _)) _ _); refine callP g_safe_Clamp rfl (hS) ?_) | ((with_reducible show callW _ _ _ (some (224, _)) _ _); refine callP g_big_Div rfl (hDi) ?_) | ((with_reducible show callW _ _ _ (some (227, _)) _ _); refine callP g_big_Int rfl (hIn) ?_) | ((with_reducible show callW _ _ _ (some (228, _)) _ _); refine callP g_big_Scale rfl (hSc) ?_) | ((with_reducible show callW _ _ _ (some (288, _)) _ _); refine callP g_root_Cube rfl (hCu) ?_) | ((with_reducible show callW _ _ _ (some (316, _)) _ _); refine callP g_safe_Abs rfl (hA) ?_) | ((fail_if_success (with_reducible refine stk ?_)); simp only [WE, Nat.reduceLeDiff, segX, Nat.reduceBEq, Nat.reduceAdd, Nat.reduceEqDiff, Int.reduceNeg, Int.reduceEq, Int.reduceBEq, Int.reduceLT, Int.reduceLE, Int.reduceBNe, Int.reduceToNat, Nat.reduceMul, Nat.reduceMod, Int.reducePow, reduceIte, ty_4, ty_196, fo_196_0, tz_196, cv_3_144, Tryz.underlying3, Tryz.underlying144, rs_313, appX_nil, w1, bigV]))
theorem rise_in (d : Int) : in64 (rise d) := by
  have hC : -2147483648 ≤ clampI d (-2147483648) 2147483648 ∧ clampI d (-2147483648) 2147483648 ≤ 2147483648 := clampI_in (by omega)
  unfold rise
  generalize clampI d (-2147483648) 2147483648 = D at *
  obtain ⟨hc1, hc0, hc2⟩ := cube_abs D hC.1 hC.2
  rw [hc2]
  generalize (D.natAbs : Int) * D.natAbs * D.natAbs = N at *
  cases decide (D < 0)
  · simp only [cond_false]; exact i64k (by omega) (by omega)
  · simp only [cond_true]; exact i64k (by omega) (by omega)
structure EpIn (e : Ep) : Prop where
  start : in64 e.start
  first : in64 e.first
  max : in64 e.max
  k : in64 e.k
  est : in64 e.est
theorem c_cubic_law {x : Nat → Obj → Prop} (e : Ep) (t : Int) (he : EpIn e) (ht : in64 t) : PureC Tryz.prog x 293 [e.v, .int .i64 t] (.int .i64 (cubLaw e t)) := by
  obtain ⟨o, a, b, c, k, d⟩ := e
  unfold Ep.v
  refine pureC_of_Sd Tryz.func293 rfl rfl fun w => ?_
  refine Sd_of_cW (by kernel_rfl) ?_
  repeat' (first | (with_reducible refine ifB_intro (fun _ => ?_) (fun _ => ?_)) | ((with_reducible show callW _ _ _ (some (102, _)) _ _); refine callP g_safe_Add rfl (c_safe_Add _ _ he.max (rise_in _)) ?_) | ((with_reducible show callW _ _ _ (some (164, _)) _ _); refine callP g_safe_Clamp rfl (c_safe_Clamp _ _ _) ?_) | ((with_reducible show callW _ _ _ (some (182, _)) _ _); refine callP g_safe_Sub rfl (c_safe_Sub _ _ ht he.k) ?_) | ((with_reducible show callW _ _ _ (some (313, _)) _ _); refine callP g_cubic_Rise rfl (c_cubic_Rise _ (sat_in _)) ?_) | ((with_reducible show cW _ _ (.region 1 _ true) _ _); refine cW_drawF lx_293_1 (by kernel_rfl) mixed_ (by kernel_rfl) ?_) | ((fail_if_success (with_reducible refine stk ?_)); simp only [WE, Nat.reduceLeDiff, segX, Nat.reduceBEq, Nat.reduceAdd, Nat.reduceEqDiff, Int.reduceNeg, Int.reduceEq, Int.reduceBEq, Int.reduceLT, Int.reduceLE, Int.reduceBNe, Int.reduceToNat, Nat.reduceMul, Nat.reduceMod, Int.reducePow, reduceIte, ty_3, fo_45_3, fo_45_4, rs_293, appX_nil]))
  rfl
theorem c_cubic_is {x : Nat → Obj → Prop} (hT : TensX x) (e : Ep) : PureC Tryz.prog x 247 [e.v] (.bool (decide (e.on = true ∧ epOk e))) := by
  have hc := c_epoch_Check hT e
  obtain ⟨o, a, b, c, k, d⟩ := e
  unfold Ep.v
  refine pureC_of_Sd Tryz.func247 rfl rfl fun w => ?_
  refine Sd_of_cW (by kernel_rfl) ?_
  cases o
  · repeat' (first | (with_reducible refine ifB_intro (fun _ => ?_) (fun _ => ?_)) | ((with_reducible show callW _ _ _ (some (63, _)) _ _); refine callP g_epoch_Check rfl (hc) ?_) | ((fail_if_success (with_reducible refine stk ?_)); simp only [WE, Nat.reduceLeDiff, segX, Nat.reduceBEq, Nat.reduceAdd, Nat.reduceEqDiff, Int.reduceNeg, Int.reduceEq, Int.reduceBEq, Int.reduceLT, Int.reduceLE, Int.reduceBNe, Int.reduceToNat, Nat.reduceMul, Nat.reduceMod, Int.reducePow, reduceIte, ty_4, ty_45, fo_45_0, rs_247, appX_nil]))
    refine congrArg Value.bool ?_
    exact (decide_eq_false (fun h => by cases h.1)).symm
  · repeat' (first | (with_reducible refine ifB_intro (fun _ => ?_) (fun _ => ?_)) | ((with_reducible show callW _ _ _ (some (63, _)) _ _); refine callP g_epoch_Check rfl (hc) ?_) | ((fail_if_success (with_reducible refine stk ?_)); simp only [WE, Nat.reduceLeDiff, segX, Nat.reduceBEq, Nat.reduceAdd, Nat.reduceEqDiff, Int.reduceNeg, Int.reduceEq, Int.reduceBEq, Int.reduceLT, Int.reduceLE, Int.reduceBNe, Int.reduceToNat, Nat.reduceMul, Nat.reduceMod, Int.reducePow, reduceIte, ty_4, ty_45, fo_45_0, rs_247, appX_nil]))
theorem c_cubic_At {x : Nat → Obj → Prop} (hT : TensX x) (e : Ep) (t : Int) (he : EpIn e) (ht : in64 t) : PureC Tryz.prog x 248 [e.v, .int .i64 t] (.int .i64 (cubAt e t)) := by
  have hi := c_cubic_is hT e
  have hl := c_cubic_law (x := x) e (sat (t - e.start)) he (sat_in _)
  obtain ⟨o, a, b, c, k, d⟩ := e
  unfold cubAt
  unfold Ep.v
  by_cases h : o = true ∧ epOk ⟨o, a, b, c, k, d⟩
  · have f := decide_eq_true h
    rw [if_pos h]
    refine pureC_of_Sd Tryz.func248 rfl rfl fun w => ?_
    refine Sd_of_cW (by kernel_rfl) ?_
    repeat' (first | (with_reducible refine ifB_intro (fun _ => ?_) (fun _ => ?_)) | ((with_reducible show callW _ _ _ (some (182, _)) _ _); refine callP g_safe_Sub rfl (c_safe_Sub _ _ ht he.start) ?_) | ((with_reducible show callW _ _ _ (some (247, _)) _ _); refine callP g_cubic_is rfl (hi) ?_) | ((with_reducible show callW _ _ _ (some (293, _)) _ _); refine callP g_cubic_law rfl (hl) ?_) | ((with_reducible show cW _ _ (.region 3 _ true) _ _); refine cW_drawF lx_248_3 (by kernel_rfl) mixed_ (by kernel_rfl) ?_) | ((fail_if_success (with_reducible refine stk ?_)); simp only [WE, Nat.reduceLeDiff, segX, Nat.reduceBEq, Nat.reduceAdd, Nat.reduceEqDiff, Int.reduceNeg, Int.reduceEq, Int.reduceBEq, Int.reduceLT, Int.reduceLE, Int.reduceBNe, Int.reduceToNat, Nat.reduceMul, Nat.reduceMod, Int.reducePow, reduceIte, ty_3, ty_45, fo_45_1, rs_248, appX_nil, f]))
  · have f := decide_eq_false h
    rw [if_neg h]
    refine pureC_of_Sd Tryz.func248 rfl rfl fun w => ?_
    refine Sd_of_cW (by kernel_rfl) ?_
    repeat' (first | (with_reducible refine ifB_intro (fun _ => ?_) (fun _ => ?_)) | ((with_reducible show callW _ _ _ (some (182, _)) _ _); refine callP g_safe_Sub rfl (c_safe_Sub _ _ ht he.start) ?_) | ((with_reducible show callW _ _ _ (some (247, _)) _ _); refine callP g_cubic_is rfl (hi) ?_) | ((with_reducible show callW _ _ _ (some (293, _)) _ _); refine callP g_cubic_law rfl (hl) ?_) | ((with_reducible show cW _ _ (.region 3 _ true) _ _); refine cW_drawF lx_248_3 (by kernel_rfl) mixed_ (by kernel_rfl) ?_) | ((fail_if_success (with_reducible refine stk ?_)); simp only [WE, Nat.reduceLeDiff, segX, Nat.reduceBEq, Nat.reduceAdd, Nat.reduceEqDiff, Int.reduceNeg, Int.reduceEq, Int.reduceBEq, Int.reduceLT, Int.reduceLE, Int.reduceBNe, Int.reduceToNat, Nat.reduceMul, Nat.reduceMod, Int.reducePow, reduceIte, ty_3, ty_45, fo_45_1, rs_248, appX_nil, f]))
theorem c_cubic_Target {x : Nat → Obj → Prop} (hT : TensX x) (e : Ep) (t n : Int) (he : EpIn e) (ht : in64 t) (hn : in64 n) : PureC Tryz.prog x 198 [e.v, .int .i64 t, .int .i64 n] (.int .i64 (cubTarget e t n)) := by
  have hi := c_cubic_is hT e
  have hl := c_cubic_At hT e t he ht
  obtain ⟨o, a, b, c, k, d⟩ := e
  unfold cubTarget
  have hn' := hn
  unfold in64 at hn'
  unfold Ep.v at *
  by_cases h0 : 0 ≤ n
  · have f0 : decide (n < 0) = false := decide_eq_false (by omega)
    have w1 : wr .i64 (n.tdiv 2) = n / 2 := by rw [Int.tdiv_eq_ediv_of_nonneg h0, wr_i64 (by omega) (by omega)]
    by_cases h : o = true ∧ epOk ⟨o, a, b, c, k, d⟩
    · have f := decide_eq_true h
      rw [if_pos ⟨h0, h⟩]
      refine pureC_of_Sd Tryz.func198 rfl rfl fun w => ?_
      refine Sd_of_cW (by kernel_rfl) ?_
      repeat' (first | (with_reducible refine ifB_intro (fun _ => ?_) (fun _ => ?_)) | ((with_reducible show callW _ _ _ (some (102, _)) _ _); refine callP g_safe_Add rfl (c_safe_Add _ _ hn (i64k (by omega) (by omega))) ?_) | ((with_reducible show callW _ _ _ (some (164, _)) _ _); refine callP g_safe_Clamp rfl (c_safe_Clamp _ _ _) ?_) | ((with_reducible show callW _ _ _ (some (247, _)) _ _); refine callP g_cubic_is rfl (hi) ?_) | ((with_reducible show callW _ _ _ (some (248, _)) _ _); refine callP g_cubic_At rfl (hl) ?_) | ((fail_if_success (with_reducible refine stk ?_)); simp only [WE, Nat.reduceLeDiff, segX, Nat.reduceBEq, Nat.reduceAdd, Nat.reduceEqDiff, Int.reduceNeg, Int.reduceEq, Int.reduceBEq, Int.reduceLT, Int.reduceLE, Int.reduceBNe, Int.reduceToNat, Nat.reduceMul, Nat.reduceMod, Int.reducePow, reduceIte, ty_45, rs_198, appX_nil, f, f0, w1]))
      rfl
    · have f := decide_eq_false h
      rw [if_neg (fun h' => h h'.2)]
      refine pureC_of_Sd Tryz.func198 rfl rfl fun w => ?_
      refine Sd_of_cW (by kernel_rfl) ?_
      repeat' (first | (with_reducible refine ifB_intro (fun _ => ?_) (fun _ => ?_)) | ((with_reducible show callW _ _ _ (some (102, _)) _ _); refine callP g_safe_Add rfl (c_safe_Add _ _ hn (i64k (by omega) (by omega))) ?_) | ((with_reducible show callW _ _ _ (some (164, _)) _ _); refine callP g_safe_Clamp rfl (c_safe_Clamp _ _ _) ?_) | ((with_reducible show callW _ _ _ (some (247, _)) _ _); refine callP g_cubic_is rfl (hi) ?_) | ((with_reducible show callW _ _ _ (some (248, _)) _ _); refine callP g_cubic_At rfl (hl) ?_) | ((fail_if_success (with_reducible refine stk ?_)); simp only [WE, Nat.reduceLeDiff, segX, Nat.reduceBEq, Nat.reduceAdd, Nat.reduceEqDiff, Int.reduceNeg, Int.reduceEq, Int.reduceBEq, Int.reduceLT, Int.reduceLE, Int.reduceBNe, Int.reduceToNat, Nat.reduceMul, Nat.reduceMod, Int.reducePow, reduceIte, ty_45, rs_198, appX_nil, f, f0, w1]))
  · have f0 : decide (n < 0) = true := decide_eq_true (by omega)
    rw [if_neg (fun h' => h0 h'.1)]
    refine pureC_of_Sd Tryz.func198 rfl rfl fun w => ?_
    refine Sd_of_cW (by kernel_rfl) ?_
    repeat' (first | (with_reducible refine ifB_intro (fun _ => ?_) (fun _ => ?_)) | ((with_reducible show callW _ _ _ (some (102, _)) _ _); refine callP g_safe_Add rfl (c_safe_Add _ _ hn (i64k (by omega) (by omega))) ?_) | ((with_reducible show callW _ _ _ (some (164, _)) _ _); refine callP g_safe_Clamp rfl (c_safe_Clamp _ _ _) ?_) | ((with_reducible show callW _ _ _ (some (247, _)) _ _); refine callP g_cubic_is rfl (hi) ?_) | ((with_reducible show callW _ _ _ (some (248, _)) _ _); refine callP g_cubic_At rfl (hl) ?_) | ((fail_if_success (with_reducible refine stk ?_)); simp only [WE, Nat.reduceLeDiff, segX, Nat.reduceBEq, Nat.reduceAdd, Nat.reduceEqDiff, Int.reduceNeg, Int.reduceEq, Int.reduceBEq, Int.reduceLT, Int.reduceLE, Int.reduceBNe, Int.reduceToNat, Nat.reduceMul, Nat.reduceMod, Int.reducePow, reduceIte, ty_45, rs_198, appX_nil, f0]))
def rtTime (r : Rtt) : Int := if r.has = true ∧ rttCheck r = true then rttMean r else 100000
def rtNum (slow : Bool) : Int := bif slow then 2 else 5
def rtDen (slow : Bool) : Int := bif slow then 1 else 4
def rateOf (w s : Int) (r : Rtt) (slow : Bool) : Int := mx (lim3 w 0 68719476736 * rtNum slow * (lim3 s 1 65535 * 1000000) / (rtDen slow * 65536 * rtTime r)) 1
theorem rtTime_in (r : Rtt) : 1 ≤ rtTime r ∧ rtTime r ≤ 1073741824 := by
  unfold rtTime
  by_cases h : r.has = true ∧ rttCheck r = true
  · rw [if_pos h]
    rcases (rttCheck_spec r).1 h.2 with h1 | h1
    · rw [rttMean_eq r (by omega) (by omega)]; omega
    · rw [h1.1] at h; cases h.1
  · rw [if_neg h]; omega
theorem c_rate_time {x : Nat → Obj → Prop} (r : Rtt) : PureC Tryz.prog x 181 [.agg #[.bool r.has, .int .i64 r.mean, .int .i64 r.far]] (.int .i64 (rtTime r)) := by
  obtain ⟨h, m, f⟩ := r
  unfold rtTime
  refine pureC_of_Sd Tryz.func181 rfl rfl fun w => ?_
  refine Sd_of_cW (by kernel_rfl) ?_
  repeat' (first | (with_reducible refine ifB_intro (fun _ => ?_) (fun _ => ?_)) | ((with_reducible show callW _ _ _ (some (58, _)) _ _); refine callP g_rtt_Check rfl (c_rtt_Check ..) ?_) | ((with_reducible show callW _ _ _ (some (200, _)) _ _); refine callP g_rtt_Mean rfl (c_rtt_Mean ..) ?_) | ((fail_if_success (with_reducible refine stk ?_)); simp only [WE, Nat.reduceLeDiff, segX, Nat.reduceBEq, Nat.reduceAdd, Nat.reduceEqDiff, Int.reduceNeg, Int.reduceEq, Int.reduceBEq, Int.reduceLT, Int.reduceLE, Int.reduceBNe, Int.reduceToNat, Nat.reduceMul, Nat.reduceMod, Int.reducePow, reduceIte, ty_4, ty_38, fo_38_0, rs_181]))
  all_goals refine congrArg (Value.int .i64) ?_
  all_goals simp_all
theorem c_rate_Gain {x : Nat → Obj → Prop} (s : Bool) : PureC Tryz.prog x 180 [.bool s] (.tuple #[.int .i64 (rtNum s), .int .i64 (rtDen s)]) := by
  refine pureC_of_Sd Tryz.func180 rfl rfl fun w => ?_
  refine Sd_of_cW (by kernel_rfl) ?_
  cases s
  · repeat' (first | (with_reducible refine ifB_intro (fun _ => ?_) (fun _ => ?_)) | ((fail_if_success (with_reducible refine stk ?_)); simp only [WE, Nat.reduceLeDiff, segX, Nat.reduceBEq, Nat.reduceAdd, Nat.reduceEqDiff, Int.reduceNeg, Int.reduceEq, Int.reduceBEq, Int.reduceLT, Int.reduceLE, Int.reduceBNe, Int.reduceToNat, Nat.reduceMul, Nat.reduceMod, Int.reducePow, reduceIte, rs_180, appX_nil]))
    rfl
  · repeat' (first | (with_reducible refine ifB_intro (fun _ => ?_) (fun _ => ?_)) | ((fail_if_success (with_reducible refine stk ?_)); simp only [WE, Nat.reduceLeDiff, segX, Nat.reduceBEq, Nat.reduceAdd, Nat.reduceEqDiff, Int.reduceNeg, Int.reduceEq, Int.reduceBEq, Int.reduceLT, Int.reduceLE, Int.reduceBNe, Int.reduceToNat, Nat.reduceMul, Nat.reduceMod, Int.reducePow, reduceIte, rs_180, appX_nil]))
    rfl
theorem c_rate_bounds_int_take {x : Nat → Obj → Prop} (l h n : Int) : PureC Tryz.prog x 179 [.agg #[.int .i64 l, .int .i64 h], .int .i64 n] (.int .i64 (lim3 n l h)) := by
  refine pureC_of_Sd Tryz.func179 rfl rfl fun w => ?_
  refine Sd_of_cW (by kernel_rfl) ?_
  repeat' (first | (with_reducible refine ifB_intro (fun _ => ?_) (fun _ => ?_)) | ((fail_if_success (with_reducible refine stk ?_)); simp only [WE, Nat.reduceLeDiff, segX, Nat.reduceBEq, Nat.reduceAdd, Nat.reduceEqDiff, Int.reduceNeg, Int.reduceEq, Int.reduceBEq, Int.reduceLT, Int.reduceLE, Int.reduceBNe, Int.reduceToNat, Nat.reduceMul, Nat.reduceMod, Int.reducePow, reduceIte, ty_3, fo_188_0, fo_188_1, rs_179]))
  rfl
theorem c_rate_Of {x : Nat → Obj → Prop} (w s : Int) (r : Rtt) (slow : Bool) : PureC Tryz.prog x 120 [.int .i64 w, .int .i64 s, .agg #[.bool r.has, .int .i64 r.mean, .int .i64 r.far], .bool slow] (.int .i64 (rateOf w s r slow)) := by
  have hT := rtTime_in r
  have b1 : 0 ≤ lim3 w 0 68719476736 ∧ lim3 w 0 68719476736 ≤ 68719476736 := by unfold lim3 mn mx; (repeat' split) <;> omega
  have b2 : 1 ≤ lim3 s 1 65535 ∧ lim3 s 1 65535 ≤ 65535 := by unfold lim3 mn mx; (repeat' split) <;> omega
  have b3 : 2 ≤ rtNum slow ∧ rtNum slow ≤ 5 := by unfold rtNum; cases slow <;> decide
  have b4 : 1 ≤ rtDen slow ∧ rtDen slow ≤ 4 := by unfold rtDen; cases slow <;> decide
  have hTk1 := c_rate_bounds_int_take (x := x) 0 68719476736 w
  have hTk2 := c_rate_bounds_int_take (x := x) 1 65535 s
  have hG := c_rate_Gain (x := x) slow
  have hTi := c_rate_time (x := x) r
  unfold rateOf
  generalize lim3 w 0 68719476736 = W at *
  generalize lim3 s 1 65535 = Sg at *
  generalize rtNum slow = N at *
  generalize rtDen slow = D at *
  generalize rtTime r = T at *
  have p1 : 0 ≤ W * N ∧ W * N ≤ 68719476736 * 5 := ⟨Int.mul_nonneg b1.1 (by omega), Int.mul_le_mul b1.2 b3.2 (by omega) (by omega)⟩
  have p2 : 65536 ≤ D * 65536 * T ∧ D * 65536 * T ≤ 262144 * 1073741824 := ⟨by
    have : 65536 * 1 ≤ D * 65536 * T := Int.mul_le_mul (by omega) hT.1 (by omega) (by omega)
    omega, Int.mul_le_mul (by omega) hT.2 (by omega) (by omega)⟩
  have w1 : wr .i64 (W * N) = W * N := wr_i64 (by omega) (by omega)
  have w2 : wr .i64 (Sg * 1000000) = Sg * 1000000 := wr_i64 (by omega) (by omega)
  have w3 : wr .i64 (D * 65536) = D * 65536 := wr_i64 (by omega) (by omega)
  have w4 : wr .i64 (D * 65536 * T) = D * 65536 * T := wr_i64 (by omega) (by omega)
  have p3 : 0 ≤ W * N * (Sg * 1000000) ∧ W * N * (Sg * 1000000) ≤ 343597383680 * 65535000000 := ⟨Int.mul_nonneg p1.1 (by omega), Int.mul_le_mul (by omega) (by omega) (by omega) (by omega)⟩
  have p4 : 0 ≤ W * N * (Sg * 1000000) / (D * 65536 * T) ∧ W * N * (Sg * 1000000) / (D * 65536 * T) ≤ 9223372036854775807 := ⟨Int.ediv_nonneg p3.1 (by omega), by
    refine Int.ediv_le_of_le_mul (by omega) ?_
    have : 9223372036854775807 * 65536 ≤ 9223372036854775807 * (D * 65536 * T) := Int.mul_le_mul_of_nonneg_left p2.1 (by omega)
    omega⟩
  have hF := c_frac_Floor (x := x) (W * N) (Sg * 1000000) (D * 65536 * T) (i64k (by omega) (by omega)) (i64k (by omega) (by omega)) (i64k (by omega) (by omega))
  rw [floN_eq (by omega) (i64k (by omega) (by omega)), floE_eq (by omega) (i64k (by omega) (by omega))] at hF
  refine pureC_of_Sd Tryz.func120 rfl rfl fun w => ?_
  refine Sd_of_cW (by kernel_rfl) ?_
  repeat' (first | (((with_reducible show callW _ _ _ (some (179, _)) _ _); refine callP (goes_of Tryz.func179 rfl rfl) rfl hTk1 ?_)) | (((with_reducible show callW _ _ _ (some (179, _)) _ _); refine callP (goes_of Tryz.func179 rfl rfl) rfl hTk2 ?_)) | (with_reducible refine ifB_intro (fun _ => ?_) (fun _ => ?_)) | ((with_reducible show callW _ _ _ (some (100, _)) _ _); refine callP g_frac_Floor rfl (hF) ?_) | ((with_reducible show callW _ _ _ (some (103, _)) _ _); refine callP g_safe_Mul rfl (c_safe_Mul ..) ?_) | ((with_reducible show callW _ _ _ (some (179, _)) _ _); refine callP g_rate_bounds_int_take rfl (hTk1) ?_) | ((with_reducible show callW _ _ _ (some (179, _)) _ _); refine callP g_rate_bounds_int_take rfl (hTk2) ?_) | ((with_reducible show callW _ _ _ (some (180, _)) _ _); refine callP g_rate_Gain rfl (hG) ?_) | ((with_reducible show callW _ _ _ (some (181, _)) _ _); refine callP g_rate_time rfl (hTi) ?_) | ((with_reducible show cW _ _ (.region 3 _ true) _ _); refine cW_drawF lx_120_3 (by kernel_rfl) mixed_ (by kernel_rfl) ?_) | ((fail_if_success (with_reducible refine stk ?_)); simp only [WE, Nat.reduceLeDiff, segX, Nat.reduceBEq, Nat.reduceAdd, Nat.reduceEqDiff, Int.reduceNeg, Int.reduceEq, Int.reduceBEq, Int.reduceLT, Int.reduceLE, Int.reduceBNe, Int.reduceToNat, Nat.reduceMul, Nat.reduceMod, Int.reducePow, reduceIte, ty_38, bd_188, Tryz.underlying30, rs_120, appX_nil, w1, w2, w3, w4]))
end Go.Proofs.YtkokohkbhlnjkaaGreatDoor
namespace Go.Proofs.YtkokohkbhlnjkaaGreatDoor
set_option linter.unusedVariables false
set_option linter.unusedSimpArgs false
open Go Go.RowKit
namespace R
theorem ev_getObj_map {P : Program} {w : World} {r : Nat} {l : Array MapEntry} {c : Nat} (es : Array Event) (hb : w.heap[r]? = some (.map l c)) : (getObj r).events P w es = es.push ⟨.obj r, false, false⟩ := by
  simp [getObj, Sem.events, Sem.runT, hb, Obj.isChan, -Sem.runT_eq]
theorem ev_setObj_map {P : Program} {w : World} {r : Nat} {l l' : Array MapEntry} {c c' : Nat} (es : Array Event) (hb : w.heap[r]? = some (.map l c)) : (setObj r (.map l' c')).events P w es = es.push ⟨.obj r, true, false⟩ := by
  simp [setObj, Sem.events, Sem.runT, hb, Obj.isChan, -Sem.runT_eq]
theorem ev_checkKey {P : Program} {w : World} {kt : TypeId} {kd k : IntKind} {z : Int} (hk : P.underlying kt = some (.int kd)) (e : Bool) (n : Nat) (es : Array Event) : (Instr.checkKey e (n + 1) kt (.int k z)).events P w es = es := by
  unfold Instr.checkKey
  simp [Sem.events_bind, run_underlying hk]
theorem ev_findKey {P : Program} {w : World} {kt : TypeId} {d : TypeDesc} {k : Value} {l : List MapEntry} {a : Option (Nat × Value)} (hd : P.underlying kt = some d) (h : Instr.findNow d k l 0 = some a) (es : Array Event) : (Instr.findKey kt k l).events P w es = es := by
  simp [Instr.findKey, run_underlying hd, h]
theorem updW_new {P : Program} {T kt et : TypeId} {kd k : IntKind} {z : Int} {v : Value} {es : Array MapEntry} {n : Nat} {K : Obj → Prop} (ht : P.underlying T = some (.map kt et)) (hk : P.underlying kt = some (.int kd))
    (hf : Instr.findNow (.int kd) (.int k z) es.toList 0 = some none) (hkd : MapKept.IsKey (.int kd) (.int k z)) (h : K (.map (es.push ⟨.int k z, v, n⟩) (n + 1))) : updW P T (.int k z) v (.map es n) K := by
  refine ⟨_, fun r w hb => ⟨?_, fun e he => ?_⟩, h⟩
  · simp [Instr.mapUpdate, run_underlying ht, MapKept.run_getObj_map hb, MapKept.run_checkKey hk hkd, MapKept.run_findKey hk hf, MapKept.run_setObj_map _ hb, Result.andThen]
  · simp [Instr.mapUpdate, run_underlying ht, MapKept.run_getObj_map hb, MapKept.run_checkKey hk hkd, MapKept.run_findKey hk hf, ev_getObj_map _ hb, ev_checkKey hk, ev_findKey hk hf, ev_setObj_map _ hb] at he
    rcases he with rfl | rfl <;> exact ⟨rfl, rfl⟩
theorem lookW_hit {P : Program} {T kt et : TypeId} {kd k : IntKind} {z : Int} {ok : Bool} {es : Array MapEntry} {n i : Nat} {v : Value} {K : Value → Prop} (ht : P.underlying T = some (.map kt et)) (hk : P.underlying kt = some (.int kd))
    (hf : Instr.findNow (.int kd) (.int k z) es.toList 0 = some (some (i, v))) (hkd : MapKept.IsKey (.int kd) (.int k z)) (h : K (if ok = true then .tuple #[v, .bool true] else v)) : lookW P T (.int k z) ok (.map es n) K := by
  refine ⟨_, fun r w hb => ⟨?_, fun e he => ?_⟩, h⟩
  · simp [Instr.lookup, run_underlying ht, MapKept.run_getObj_map hb, MapKept.run_checkKey hk hkd, MapKept.run_findKey hk hf, Result.andThen]
  · have he : e ∈ #[(⟨.obj r, false, false⟩ : Event)] := by
      cases ok <;> simpa [Instr.lookup, run_underlying ht, MapKept.run_getObj_map hb, MapKept.run_checkKey hk hkd, MapKept.run_findKey hk hf, ev_getObj_map _ hb, ev_checkKey hk, ev_findKey hk hf] using he
    simp at he
    subst he
    exact ⟨rfl, rfl, rfl⟩
theorem lookW_miss {P : Program} {T kt et : TypeId} {kd k : IntKind} {z : Int} {ok : Bool} {es : Array MapEntry} {n : Nat} {v : Value} {K : Value → Prop} (ht : P.underlying T = some (.map kt et)) (hk : P.underlying kt = some (.int kd))
    (hz : (P.info? et).bind (·.zero) = some v) (hf : Instr.findNow (.int kd) (.int k z) es.toList 0 = some none) (hkd : MapKept.IsKey (.int kd) (.int k z)) (h : K (if ok = true then .tuple #[v, .bool false] else v)) : lookW P T (.int k z) ok (.map es n) K := by
  refine ⟨_, fun r w hb => ?_, h⟩
  obtain ⟨i, hi, hv⟩ := Option.bind_eq_some_iff.1 hz
  refine ⟨?_, fun e he => ?_⟩
  · simp [Instr.lookup, run_underlying ht, MapKept.run_getObj_map hb, MapKept.run_checkKey hk hkd, MapKept.run_findKey hk hf, Result.andThen, zeroValue, typeInfo, hi, hv]
  · have he : e ∈ #[(⟨.obj r, false, false⟩ : Event)] := by
      cases ok <;> simpa [Instr.lookup, run_underlying ht, MapKept.run_getObj_map hb, MapKept.run_checkKey hk hkd, MapKept.run_findKey hk hf, ev_getObj_map _ hb, ev_checkKey hk, ev_findKey hk hf, zeroValue, typeInfo, hi, hv] using he
    simp at he
    subst he
    exact ⟨rfl, rfl, rfl⟩
theorem find_nil {k : IntKind} {z : Int} {i : Nat} : Instr.findNow (.int k) (.int k z) [] i = some none := rfl
theorem find_cons {k : IntKind} {z y : Int} {v : Value} {n i : Nat} {l : List MapEntry} : Instr.findNow (.int k) (.int k z) (⟨.int k y, v, n⟩ :: l) i = if z = y then some (some (i, v)) else Instr.findNow (.int k) (.int k z) l (i + 1) := by
  by_cases h : z = y
  · subst h; simp [Instr.findNow, Instr.sameNow]
  · have e : (z == y) = false := by simpa using h
    rw [if_neg h]; simp only [Instr.findNow, Instr.sameNow, if_true, e]
theorem push_lit {α : Type} {l : List α} {a : α} : (l.toArray).push a = (l ++ [a]).toArray := by simp
end R
end Go.Proofs.YtkokohkbhlnjkaaGreatDoor
namespace Go.Proofs.YtkokohkbhlnjkaaGreatDoor
set_option linter.unusedVariables false
set_option linter.unusedSimpArgs false
open Go Go.RowKit Go.Proofs.YtkokohkbhlnjkaaGreatDoor.R
set_option maxRecDepth 50000
set_option maxHeartbeats 1000000
structure Hy where
  last : Int
  least : Int
  many : Int
  gentle : Bool
  done : Bool
  base : Int
  rounds : Int
def hyOk (h : Hy) : Prop := 0 ≤ h.last ∧ h.last ≤ 1073741824 ∧ 0 ≤ h.least ∧ h.least ≤ 1073741824 ∧ 0 ≤ h.many ∧ h.many ≤ 8 ∧ (h.many = 0 ↔ h.least = 0) ∧
  ((h.gentle = false ∧ h.base = 0 ∧ h.rounds = 0) ∨ (h.gentle = true ∧ h.done = false ∧ 1 ≤ h.base ∧ h.base ≤ 1073741824 ∧ 0 ≤ h.rounds ∧ h.rounds ≤ 5))
instance (h : Hy) : Decidable (hyOk h) := by unfold hyOk; infer_instance
def hyCheck (h : Hy) : Bool := decide (hyOk h)
def hyThresh (l : Int) : Int := mn (mx (wr .i64 (l.tdiv 8)) 4000) 16000
def hyMay (t : Int) : Bool := decide (0 ≤ t) && decide (t ≤ 1073741824)
def hyPhase (g d : Bool) : Int := bif d then 3 else bif g then 2 else 1
def hySwift (h : Hy) : Hy := if 0 < h.last ∧ h.last + hyThresh h.last ≤ h.least then ⟨h.last, h.least, h.many, true, h.done, h.least, h.rounds⟩ else h
def hyMild (h : Hy) : Hy := if h.least < h.base then ⟨h.last, h.least, h.many, false, h.done, 0, 0⟩ else h
def hyAct (h : Hy) : Hy := if h.many = 8 then (bif h.done then h else bif h.gentle then hyMild h else hySwift h) else h
def hyCount (h : Hy) (t : Int) : Hy := ⟨h.last, if h.least = 0 ∨ t < h.least then t else h.least, mn (h.many + 1) 8, h.gentle, h.done, h.base, h.rounds⟩
def hySample (h : Hy) (t : Int) : Hy × Int := if hyOk h ∧ 1 ≤ t ∧ t ≤ 1073741824 then (hyAct (hyCount h t), 0) else (h, 201)
def hyRound (h : Hy) : Hy × Int := if hyOk h then (if h.gentle = true then (if 5 ≤ h.rounds + 1 then ⟨h.least, 0, 0, false, true, 0, 0⟩ else ⟨h.least, 0, 0, true, h.done, h.base, h.rounds + 1⟩) else ⟨h.least, 0, 0, false, h.done, h.base, h.rounds⟩, 0) else (h, 201)
def hyPart (h : Hy) (n : Int) : Int := bif h.done then 0 else bif h.gentle then wr .i64 ((mx n 0).tdiv 4) else mx n 0
theorem beqq {a b : Int} : (((a == 0) == (b == 0)) = true) = (a = 0 ↔ b = 0) := by
  rw [beq_iff_eq, Bool.eq_iff_iff, beq_iff_eq, beq_iff_eq]
theorem beqr {a b : Int} : ((a == 0) = (b == 0)) = (a = 0 ↔ b = 0) := by
  rw [Bool.eq_iff_iff, beq_iff_eq, beq_iff_eq]
theorem c_hystart_may {x : Nat → Obj → Prop} (t : Int) : PureC Tryz.prog x 111 [.int .i64 t] (.bool (hyMay t)) := by
  refine pureC_of_Sd Tryz.func111 rfl rfl fun w => ?_
  refine Sd_of_cW (by kernel_rfl) ?_
  repeat' (first | (with_reducible refine ifB_intro (fun _ => ?_) (fun _ => ?_)) | ((fail_if_success (with_reducible refine stk ?_)); simp only [WE, Nat.reduceLeDiff, segX, Nat.reduceBEq, Nat.reduceAdd, Nat.reduceEqDiff, Int.reduceNeg, Int.reduceEq, Int.reduceBEq, Int.reduceLT, Int.reduceLE, Int.reduceBNe, Int.reduceToNat, Nat.reduceMul, Nat.reduceMod, Int.reducePow, reduceIte, rs_111]))
  all_goals (simp only [hyMay, *, Bool.true_and, Bool.false_and]; try rfl)
theorem c_hystart_state_phase {x : Nat → Obj → Prop} (a b c : Int) (g d : Bool) (p r : Int) : PureC Tryz.prog x 110 [.agg #[.int .i64 a, .int .i64 b, .int .i64 c, .bool g, .bool d, .int .i64 p, .int .i64 r]] (.int .i64 (hyPhase g d)) := by
  refine pureC_of_Sd Tryz.func110 rfl rfl fun w => ?_
  refine Sd_of_cW (by kernel_rfl) ?_
  repeat' (first | (with_reducible refine ifB_intro (fun _ => ?_) (fun _ => ?_)) | ((fail_if_success (with_reducible refine stk ?_)); simp only [WE, Nat.reduceLeDiff, segX, Nat.reduceBEq, Nat.reduceAdd, Nat.reduceEqDiff, Int.reduceNeg, Int.reduceEq, Int.reduceBEq, Int.reduceLT, Int.reduceLE, Int.reduceBNe, Int.reduceToNat, Nat.reduceMul, Nat.reduceMod, Int.reducePow, reduceIte, ty_4, fo_135_3, fo_135_4, rs_110]))
  all_goals (simp only [hyPhase, *, cond_true, cond_false]; try rfl)
theorem c_hystart_Thresh {x : Nat → Obj → Prop} (t : Int) : PureC Tryz.prog x 292 [.int .i64 t] (.int .i64 (hyThresh t)) := by
  refine pureC_of_Sd Tryz.func292 rfl rfl fun w => ?_
  refine Sd_of_cW (by kernel_rfl) ?_
  repeat' (first | (with_reducible refine ifB_intro (fun _ => ?_) (fun _ => ?_)) | ((fail_if_success (with_reducible refine stk ?_)); simp only [WE, Nat.reduceLeDiff, segX, Nat.reduceBEq, Nat.reduceAdd, Nat.reduceEqDiff, Int.reduceNeg, Int.reduceEq, Int.reduceBEq, Int.reduceLT, Int.reduceLE, Int.reduceBNe, Int.reduceToNat, Nat.reduceMul, Nat.reduceMod, Int.reducePow, reduceIte, rs_292]))
  all_goals rfl
theorem c_hystart_Check {x : Nat → Obj → Prop} (a b c : Int) (g d : Bool) (p r : Int) : PureC Tryz.prog x 62 [.agg #[.int .i64 a, .int .i64 b, .int .i64 c, .bool g, .bool d, .int .i64 p, .int .i64 r]] (.bool (hyCheck ⟨a, b, c, g, d, p, r⟩)) := by
  refine pureC_of_Sd Tryz.func62 rfl rfl fun w => ?_
  refine Sd_of_cW (by kernel_rfl) ?_
  cases d <;> cases g
  repeat' (first | (with_reducible refine ifB_intro (fun _ => ?_) (fun _ => ?_)) | ((with_reducible show callW _ _ _ (some (110, _)) _ _); refine callP g_hystart_state_phase rfl (c_hystart_state_phase ..) ?_) | ((with_reducible show callW _ _ _ (some (111, _)) _ _); refine callP g_hystart_may rfl (c_hystart_may ..) ?_) | ((fail_if_success (with_reducible refine stk ?_)); simp only [WE, Nat.reduceLeDiff, segX, Nat.reduceBEq, Nat.reduceAdd, Nat.reduceEqDiff, Int.reduceNeg, Int.reduceEq, Int.reduceBEq, Int.reduceLT, Int.reduceLE, Int.reduceBNe, Int.reduceToNat, Nat.reduceMul, Nat.reduceMod, Int.reducePow, reduceIte, ty_3, ty_4, ty_43, ty_135, fo_135_0, fo_135_1, fo_135_2, fo_135_3, fo_135_5, fo_135_6, tz_135, Tryz.underlying3, Tryz.underlying4, Tryz.underlying136, rs_62, hyPhase, cond_true, cond_false]))
  all_goals (refine congrArg Value.bool (Bool.eq_iff_iff.2 ?_))
  all_goals (simp only [hyCheck, hyOk, hyMay, beqq, beqr, Bool.and_eq_true, Bool.and_eq_false_iff, decide_eq_true_eq, decide_eq_false_iff_not, bne_iff_ne, ne_eq, bne_eq_false_iff_eq, Bool.not_eq_true', Bool.not_eq_false', beq_iff_eq, Bool.false_eq_true, Bool.true_eq_false, reduceCtorEq, true_and, false_and, and_false, or_false, false_or, false_iff, true_iff, iff_true, iff_false] at *)
  all_goals omega
theorem c_hystart_state_swift {x : Nat → Obj → Prop} (a b c : Int) (g d : Bool) (p r : Int) (h1 : 0 ≤ a ∧ a ≤ 1073741824) : PureC Tryz.prog x 242 [.agg #[.int .i64 a, .int .i64 b, .int .i64 c, .bool g, .bool d, .int .i64 p, .int .i64 r]]
    (.agg #[.int .i64 (hySwift ⟨a, b, c, g, d, p, r⟩).last, .int .i64 (hySwift ⟨a, b, c, g, d, p, r⟩).least, .int .i64 (hySwift ⟨a, b, c, g, d, p, r⟩).many, .bool (hySwift ⟨a, b, c, g, d, p, r⟩).gentle, .bool (hySwift ⟨a, b, c, g, d, p, r⟩).done, .int .i64 (hySwift ⟨a, b, c, g, d, p, r⟩).base, .int .i64 (hySwift ⟨a, b, c, g, d, p, r⟩).rounds]) := by
  have k1 : 4000 ≤ hyThresh a ∧ hyThresh a ≤ 16000 := by unfold hyThresh mn mx; (repeat' split) <;> omega
  have k2 : wr .i64 (a + hyThresh a) = a + hyThresh a := wr_i64 (by omega) (by omega)
  refine pureC_of_Sd Tryz.func242 rfl rfl fun w => ?_
  refine Sd_of_cW (by kernel_rfl) ?_
  repeat' (first | (with_reducible refine ifB_intro (fun _ => ?_) (fun _ => ?_)) | ((with_reducible show callW _ _ _ (some (292, _)) _ _); refine callP g_hystart_Thresh rfl (c_hystart_Thresh ..) ?_) | ((with_reducible show cW _ _ (.region 1 _ true) _ _); refine cW_drawF lx_242_1 (by kernel_rfl) mixed_ (by kernel_rfl) ?_) | ((fail_if_success (with_reducible refine stk ?_)); simp only [WE, Nat.reduceLeDiff, segX, Nat.reduceBEq, Nat.reduceAdd, Nat.reduceEqDiff, Int.reduceNeg, Int.reduceEq, Int.reduceBEq, Int.reduceLT, Int.reduceLE, Int.reduceBNe, Int.reduceToNat, Nat.reduceMul, Nat.reduceMod, Int.reducePow, reduceIte, ty_3, ty_4, ty_135, fo_135_0, fo_135_1, fo_135_3, fo_135_5, tz_135, rs_242, k2]))
  all_goals (simp only [decide_eq_true_eq, decide_eq_false_iff_not] at *)
  all_goals (unfold hySwift; first | rw [if_pos ⟨by assumption, by assumption⟩] | rw [if_neg (fun h => absurd h.1 (by assumption))] | rw [if_neg (fun h => absurd h.2 (by assumption))])
theorem c_hystart_state_mild {x : Nat → Obj → Prop} (a b c : Int) (g d : Bool) (p r : Int) : PureC Tryz.prog x 243 [.agg #[.int .i64 a, .int .i64 b, .int .i64 c, .bool g, .bool d, .int .i64 p, .int .i64 r]]
    (.agg #[.int .i64 (hyMild ⟨a, b, c, g, d, p, r⟩).last, .int .i64 (hyMild ⟨a, b, c, g, d, p, r⟩).least, .int .i64 (hyMild ⟨a, b, c, g, d, p, r⟩).many, .bool (hyMild ⟨a, b, c, g, d, p, r⟩).gentle, .bool (hyMild ⟨a, b, c, g, d, p, r⟩).done, .int .i64 (hyMild ⟨a, b, c, g, d, p, r⟩).base, .int .i64 (hyMild ⟨a, b, c, g, d, p, r⟩).rounds]) := by
  refine pureC_of_Sd Tryz.func243 rfl rfl fun w => ?_
  refine Sd_of_cW (by kernel_rfl) ?_
  repeat' (first | (with_reducible refine ifB_intro (fun _ => ?_) (fun _ => ?_)) | ((fail_if_success (with_reducible refine stk ?_)); simp only [WE, Nat.reduceLeDiff, segX, Nat.reduceBEq, Nat.reduceAdd, Nat.reduceEqDiff, Int.reduceNeg, Int.reduceEq, Int.reduceBEq, Int.reduceLT, Int.reduceLE, Int.reduceBNe, Int.reduceToNat, Nat.reduceMul, Nat.reduceMod, Int.reducePow, reduceIte, ty_3, ty_4, ty_135, fo_135_1, fo_135_3, fo_135_5, fo_135_6, tz_135, rs_243]))
  all_goals (simp only [decide_eq_true_eq, decide_eq_false_iff_not] at *)
  all_goals (unfold hyMild; first | rw [if_pos (by assumption)] | rw [if_neg (by assumption)])
theorem c_hystart_state_over {x : Nat → Obj → Prop} (a b c : Int) (g d : Bool) (p r : Int) : PureC Tryz.prog x 244 [.agg #[.int .i64 a, .int .i64 b, .int .i64 c, .bool g, .bool d, .int .i64 p, .int .i64 r]]
    (.agg #[.int .i64 a, .int .i64 b, .int .i64 c, .bool g, .bool d, .int .i64 p, .int .i64 r]) := by
  refine pureC_of_Sd Tryz.func244 rfl rfl fun w => ?_
  refine Sd_of_cW (by kernel_rfl) ?_
  repeat' (first | (with_reducible refine ifB_intro (fun _ => ?_) (fun _ => ?_)) | ((fail_if_success (with_reducible refine stk ?_)); simp only [WE, Nat.reduceLeDiff, segX, Nat.reduceBEq, Nat.reduceAdd, Nat.reduceEqDiff, Int.reduceNeg, Int.reduceEq, Int.reduceBEq, Int.reduceLT, Int.reduceLE, Int.reduceBNe, Int.reduceToNat, Nat.reduceMul, Nat.reduceMod, Int.reducePow, reduceIte, ty_135, tz_135, rs_244]))
end Go.Proofs.YtkokohkbhlnjkaaGreatDoor
namespace Go.Proofs.YtkokohkbhlnjkaaGreatDoor
set_option linter.unusedVariables false
set_option linter.unusedSimpArgs false
open Go Go.RowKit Go.Proofs.YtkokohkbhlnjkaaGreatDoor.R
set_option maxRecDepth 50000
set_option maxHeartbeats 1000000
theorem lookW_hitF {P : Program} {T kt et : TypeId} {kd k : IntKind} {z : Int} {es : Array MapEntry} {n i : Nat} {v : Value} {K : Value → Prop} (ht : P.underlying T = some (.map kt et)) (hk : P.underlying kt = some (.int kd))
    (hf : Instr.findNow (.int kd) (.int k z) es.toList 0 = some (some (i, v))) (hkd : MapKept.IsKey (.int kd) (.int k z)) (h : K v) : lookW P T (.int k z) false (.map es n) K := lookW_hit ht hk hf hkd h
theorem c_hystart_Sample {x : Nat → Obj → Prop} (a b c : Int) (g d : Bool) (p r : Int) (t : Int) : PureC Tryz.prog x 192 [.agg #[.int .i64 a, .int .i64 b, .int .i64 c, .bool g, .bool d, .int .i64 p, .int .i64 r], .int .i64 t]
    (.tuple #[.agg #[.int .i64 (hySample ⟨a, b, c, g, d, p, r⟩ t).1.last, .int .i64 (hySample ⟨a, b, c, g, d, p, r⟩ t).1.least, .int .i64 (hySample ⟨a, b, c, g, d, p, r⟩ t).1.many, .bool (hySample ⟨a, b, c, g, d, p, r⟩ t).1.gentle, .bool (hySample ⟨a, b, c, g, d, p, r⟩ t).1.done, .int .i64 (hySample ⟨a, b, c, g, d, p, r⟩ t).1.base, .int .i64 (hySample ⟨a, b, c, g, d, p, r⟩ t).1.rounds], .int .i64 (hySample ⟨a, b, c, g, d, p, r⟩ t).2]) := by
  refine pureC_of_Sd Tryz.func192 rfl rfl fun w => ?_
  refine Sd_of_cW (by kernel_rfl) ?_
  by_cases hok : hyOk ⟨a, b, c, g, d, p, r⟩ ∧ 1 ≤ t ∧ t ≤ 1073741824
  · have e0 : hySample ⟨a, b, c, g, d, p, r⟩ t = (hyAct (hyCount ⟨a, b, c, g, d, p, r⟩ t), 0) := if_pos hok
    rw [e0]
    obtain ⟨ho, t1, t2⟩ := hok
    have k1 : hyCheck ⟨a, b, c, g, d, p, r⟩ = true := decide_eq_true ho
    have k2 : decide (t < 1) = false := decide_eq_false (by omega)
    have k3 : hyMay t = true := by unfold hyMay; rw [decide_eq_true (by omega), decide_eq_true t2]; rfl
    unfold hyOk at ho
    dsimp only at ho
    have k4 : wr .i64 (c + 1) = c + 1 := wr_i64 (by omega) (by omega)
    cases d <;> cases g
    repeat' (first | (with_reducible refine updW_new Tryz.underlying237 Tryz.underlying136 (by with_unfolding_all exact rfl) (by with_unfolding_all exact rfl) ?_) | (with_reducible refine lookW_hitF Tryz.underlying237 Tryz.underlying136 (by with_unfolding_all exact rfl) (by with_unfolding_all exact rfl) ?_) | (with_reducible refine ifB_intro (fun _ => ?_) (fun _ => ?_)) | ((with_reducible show callW _ _ _ (some (62, _)) _ _); refine callP g_hystart_Check rfl (c_hystart_Check ..) ?_) | ((with_reducible show callW _ _ _ (some (110, _)) _ _); refine callP g_hystart_state_phase rfl (c_hystart_state_phase ..) ?_) | ((with_reducible show callW _ _ _ (some (111, _)) _ _); refine callP g_hystart_may rfl (c_hystart_may ..) ?_) | ((with_reducible show callW _ _ _ (some (242, _)) _ _); refine callP g_hystart_state_swift rfl (c_hystart_state_swift _ _ _ _ _ _ _ (by omega)) ?_) | ((with_reducible show callW _ _ _ (some (243, _)) _ _); refine callP g_hystart_state_mild rfl (c_hystart_state_mild ..) ?_) | ((with_reducible show callW _ _ _ (some (244, _)) _ _); refine callP g_hystart_state_over rfl (c_hystart_state_over ..) ?_) | ((with_reducible show cW _ _ (.region 9 _ true) _ _); refine cW_drawTF 6 lx_192_9 (by kernel_rfl) mixed_ (by kernel_rfl) ?_; intro l1 l2 e1 e2; simp only [List.take_succ_cons, List.take_zero, List.drop_succ_cons, List.drop_zero] at e1 e2; subst e1; subst e2) | ((fail_if_success (with_reducible refine stk ?_)); simp only [WE, Nat.reduceLeDiff, segX, Nat.reduceBEq, Nat.reduceAdd, Nat.reduceEqDiff, Int.reduceNeg, Int.reduceEq, Int.reduceBEq, Int.reduceLT, Int.reduceLE, Int.reduceBNe, Int.reduceToNat, Nat.reduceMul, Nat.reduceMod, Int.reducePow, reduceIte, ty_3, ty_43, ty_135, fo_135_1, fo_135_2, tz_43, tz_135, Tryz.underlying3, rs_192, k1, k2, k3, k4, hyPhase, cond_true, cond_false, push_lit, List.nil_append, List.cons_append, Bool.not_true]))
    all_goals (simp only [beq_iff_eq, beq_eq_false_iff_ne, decide_eq_true_eq, decide_eq_false_iff_not, ne_eq] at *)
    all_goals (unfold hyAct hyCount; dsimp only)
    all_goals ((repeat' split) <;> first | rfl | (exfalso; omega))
  · have e0 : hySample ⟨a, b, c, g, d, p, r⟩ t = (⟨a, b, c, g, d, p, r⟩, 201) := if_neg hok
    rw [e0]
    cases hc : hyCheck ⟨a, b, c, g, d, p, r⟩
    · repeat' (first | (with_reducible refine ifB_intro (fun _ => ?_) (fun _ => ?_)) | ((with_reducible show callW _ _ _ (some (62, _)) _ _); refine callP g_hystart_Check rfl (c_hystart_Check ..) ?_) | ((with_reducible show callW _ _ _ (some (110, _)) _ _); refine callP g_hystart_state_phase rfl (c_hystart_state_phase ..) ?_) | ((with_reducible show callW _ _ _ (some (111, _)) _ _); refine callP g_hystart_may rfl (c_hystart_may ..) ?_) | ((with_reducible show callW _ _ _ (some (242, _)) _ _); refine callP g_hystart_state_swift rfl (c_hystart_state_swift _ _ _ _ _ _ _ (by omega)) ?_) | ((with_reducible show callW _ _ _ (some (243, _)) _ _); refine callP g_hystart_state_mild rfl (c_hystart_state_mild ..) ?_) | ((with_reducible show callW _ _ _ (some (244, _)) _ _); refine callP g_hystart_state_over rfl (c_hystart_state_over ..) ?_) | ((with_reducible show cW _ _ (.region 9 _ true) _ _); refine cW_drawTF 6 lx_192_9 (by kernel_rfl) mixed_ (by kernel_rfl) ?_; intro l1 l2 e1 e2; simp only [List.take_succ_cons, List.take_zero, List.drop_succ_cons, List.drop_zero] at e1 e2; subst e1; subst e2) | ((fail_if_success (with_reducible refine stk ?_)); simp only [WE, Nat.reduceLeDiff, segX, Nat.reduceBEq, Nat.reduceAdd, Nat.reduceEqDiff, Int.reduceNeg, Int.reduceEq, Int.reduceBEq, Int.reduceLT, Int.reduceLE, Int.reduceBNe, Int.reduceToNat, Nat.reduceMul, Nat.reduceMod, Int.reducePow, reduceIte, ty_3, ty_43, ty_135, fo_135_1, fo_135_2, tz_43, tz_135, Tryz.underlying3, rs_192, hc, Bool.not_false]))
    · have ho := of_decide_eq_true hc
      by_cases h1 : t < 1
      · have k2 : decide (t < 1) = true := decide_eq_true h1
        repeat' (first | (with_reducible refine ifB_intro (fun _ => ?_) (fun _ => ?_)) | ((with_reducible show callW _ _ _ (some (62, _)) _ _); refine callP g_hystart_Check rfl (c_hystart_Check ..) ?_) | ((with_reducible show callW _ _ _ (some (110, _)) _ _); refine callP g_hystart_state_phase rfl (c_hystart_state_phase ..) ?_) | ((with_reducible show callW _ _ _ (some (111, _)) _ _); refine callP g_hystart_may rfl (c_hystart_may ..) ?_) | ((with_reducible show callW _ _ _ (some (242, _)) _ _); refine callP g_hystart_state_swift rfl (c_hystart_state_swift _ _ _ _ _ _ _ (by omega)) ?_) | ((with_reducible show callW _ _ _ (some (243, _)) _ _); refine callP g_hystart_state_mild rfl (c_hystart_state_mild ..) ?_) | ((with_reducible show callW _ _ _ (some (244, _)) _ _); refine callP g_hystart_state_over rfl (c_hystart_state_over ..) ?_) | ((with_reducible show cW _ _ (.region 9 _ true) _ _); refine cW_drawTF 6 lx_192_9 (by kernel_rfl) mixed_ (by kernel_rfl) ?_; intro l1 l2 e1 e2; simp only [List.take_succ_cons, List.take_zero, List.drop_succ_cons, List.drop_zero] at e1 e2; subst e1; subst e2) | ((fail_if_success (with_reducible refine stk ?_)); simp only [WE, Nat.reduceLeDiff, segX, Nat.reduceBEq, Nat.reduceAdd, Nat.reduceEqDiff, Int.reduceNeg, Int.reduceEq, Int.reduceBEq, Int.reduceLT, Int.reduceLE, Int.reduceBNe, Int.reduceToNat, Nat.reduceMul, Nat.reduceMod, Int.reducePow, reduceIte, ty_3, ty_43, ty_135, fo_135_1, fo_135_2, tz_43, tz_135, Tryz.underlying3, rs_192, hc, k2, Bool.not_true]))
      · have k2 : decide (t < 1) = false := decide_eq_false h1
        have k3 : hyMay t = false := by
          unfold hyMay
          rw [decide_eq_false (show ¬ t ≤ 1073741824 from fun h => hok ⟨ho, by omega, h⟩), Bool.and_false]
        repeat' (first | (with_reducible refine ifB_intro (fun _ => ?_) (fun _ => ?_)) | ((with_reducible show callW _ _ _ (some (62, _)) _ _); refine callP g_hystart_Check rfl (c_hystart_Check ..) ?_) | ((with_reducible show callW _ _ _ (some (110, _)) _ _); refine callP g_hystart_state_phase rfl (c_hystart_state_phase ..) ?_) | ((with_reducible show callW _ _ _ (some (111, _)) _ _); refine callP g_hystart_may rfl (c_hystart_may ..) ?_) | ((with_reducible show callW _ _ _ (some (242, _)) _ _); refine callP g_hystart_state_swift rfl (c_hystart_state_swift _ _ _ _ _ _ _ (by omega)) ?_) | ((with_reducible show callW _ _ _ (some (243, _)) _ _); refine callP g_hystart_state_mild rfl (c_hystart_state_mild ..) ?_) | ((with_reducible show callW _ _ _ (some (244, _)) _ _); refine callP g_hystart_state_over rfl (c_hystart_state_over ..) ?_) | ((with_reducible show cW _ _ (.region 9 _ true) _ _); refine cW_drawTF 6 lx_192_9 (by kernel_rfl) mixed_ (by kernel_rfl) ?_; intro l1 l2 e1 e2; simp only [List.take_succ_cons, List.take_zero, List.drop_succ_cons, List.drop_zero] at e1 e2; subst e1; subst e2) | ((fail_if_success (with_reducible refine stk ?_)); simp only [WE, Nat.reduceLeDiff, segX, Nat.reduceBEq, Nat.reduceAdd, Nat.reduceEqDiff, Int.reduceNeg, Int.reduceEq, Int.reduceBEq, Int.reduceLT, Int.reduceLE, Int.reduceBNe, Int.reduceToNat, Nat.reduceMul, Nat.reduceMod, Int.reducePow, reduceIte, ty_3, ty_43, ty_135, fo_135_1, fo_135_2, tz_43, tz_135, Tryz.underlying3, rs_192, hc, k2, k3, Bool.not_true, Bool.not_false]))
theorem c_hystart_Round {x : Nat → Obj → Prop} (a b c : Int) (g d : Bool) (p r : Int) : PureC Tryz.prog x 132 [.agg #[.int .i64 a, .int .i64 b, .int .i64 c, .bool g, .bool d, .int .i64 p, .int .i64 r]]
    (.tuple #[.agg #[.int .i64 (hyRound ⟨a, b, c, g, d, p, r⟩).1.last, .int .i64 (hyRound ⟨a, b, c, g, d, p, r⟩).1.least, .int .i64 (hyRound ⟨a, b, c, g, d, p, r⟩).1.many, .bool (hyRound ⟨a, b, c, g, d, p, r⟩).1.gentle, .bool (hyRound ⟨a, b, c, g, d, p, r⟩).1.done, .int .i64 (hyRound ⟨a, b, c, g, d, p, r⟩).1.base, .int .i64 (hyRound ⟨a, b, c, g, d, p, r⟩).1.rounds], .int .i64 (hyRound ⟨a, b, c, g, d, p, r⟩).2]) := by
  refine pureC_of_Sd Tryz.func132 rfl rfl fun w => ?_
  refine Sd_of_cW (by kernel_rfl) ?_
  cases hc : hyCheck ⟨a, b, c, g, d, p, r⟩
  · have ho := of_decide_eq_false hc
    rw [show hyRound ⟨a, b, c, g, d, p, r⟩ = (⟨a, b, c, g, d, p, r⟩, 201) from if_neg ho]
    repeat' (first | (with_reducible refine ifB_intro (fun _ => ?_) (fun _ => ?_)) | ((with_reducible show callW _ _ _ (some (62, _)) _ _); refine callP g_hystart_Check rfl (c_hystart_Check ..) ?_) | ((fail_if_success (with_reducible refine stk ?_)); simp only [WE, Nat.reduceLeDiff, segX, Nat.reduceBEq, Nat.reduceAdd, Nat.reduceEqDiff, Int.reduceNeg, Int.reduceEq, Int.reduceBEq, Int.reduceLT, Int.reduceLE, Int.reduceBNe, Int.reduceToNat, Nat.reduceMul, Nat.reduceMod, Int.reducePow, reduceIte, ty_3, ty_4, ty_43, fo_43_0, fo_43_1, fo_43_2, fo_43_3, fo_43_4, fo_43_5, fo_43_6, tz_43, rs_132, hc, Bool.not_false]))
  · have ho := of_decide_eq_true hc
    have h0 := ho
    unfold hyOk at ho
    dsimp only at ho
    have k4 : wr .i64 (r + 1) = r + 1 := wr_i64 (by omega) (by omega)
    cases g
    · have hr0 : decide (5 ≤ r) = false := decide_eq_false (by simp only [Bool.false_eq_true, false_and, or_false, true_and] at ho; omega)
      unfold hyRound
      rw [if_pos h0, if_neg (by simp)]
      repeat' (first | (with_reducible refine ifB_intro (fun _ => ?_) (fun _ => ?_)) | ((with_reducible show callW _ _ _ (some (62, _)) _ _); refine callP g_hystart_Check rfl (c_hystart_Check ..) ?_) | ((fail_if_success (with_reducible refine stk ?_)); simp only [WE, Nat.reduceLeDiff, segX, Nat.reduceBEq, Nat.reduceAdd, Nat.reduceEqDiff, Int.reduceNeg, Int.reduceEq, Int.reduceBEq, Int.reduceLT, Int.reduceLE, Int.reduceBNe, Int.reduceToNat, Nat.reduceMul, Nat.reduceMod, Int.reducePow, reduceIte, ty_3, ty_4, ty_43, fo_43_0, fo_43_1, fo_43_2, fo_43_3, fo_43_4, fo_43_5, fo_43_6, tz_43, rs_132, hc, hr0, Bool.not_true]))
    · unfold hyRound
      rw [if_pos h0, if_pos rfl]
      repeat' (first | (with_reducible refine ifB_intro (fun _ => ?_) (fun _ => ?_)) | ((with_reducible show callW _ _ _ (some (62, _)) _ _); refine callP g_hystart_Check rfl (c_hystart_Check ..) ?_) | ((fail_if_success (with_reducible refine stk ?_)); simp only [WE, Nat.reduceLeDiff, segX, Nat.reduceBEq, Nat.reduceAdd, Nat.reduceEqDiff, Int.reduceNeg, Int.reduceEq, Int.reduceBEq, Int.reduceLT, Int.reduceLE, Int.reduceBNe, Int.reduceToNat, Nat.reduceMul, Nat.reduceMod, Int.reducePow, reduceIte, ty_3, ty_4, ty_43, fo_43_0, fo_43_1, fo_43_2, fo_43_3, fo_43_4, fo_43_5, fo_43_6, tz_43, rs_132, hc, k4, Bool.not_true]))
      all_goals (simp only [decide_eq_true_eq, decide_eq_false_iff_not] at *)
      all_goals (first | rw [if_pos (by assumption)] | rw [if_neg (by assumption)])
theorem c_hystart_Part {x : Nat → Obj → Prop} (a b c : Int) (g d : Bool) (p r n : Int) : PureC Tryz.prog x 334 [.agg #[.int .i64 a, .int .i64 b, .int .i64 c, .bool g, .bool d, .int .i64 p, .int .i64 r], .int .i64 n] (.int .i64 (hyPart ⟨a, b, c, g, d, p, r⟩ n)) := by
  refine pureC_of_Sd Tryz.func334 rfl rfl fun w => ?_
  refine Sd_of_cW (by kernel_rfl) ?_
  cases d <;> cases g
  repeat' (first | (with_reducible refine ifB_intro (fun _ => ?_) (fun _ => ?_)) | ((with_reducible show callW _ _ _ (some (110, _)) _ _); refine callP g_hystart_state_phase rfl (c_hystart_state_phase ..) ?_) | ((fail_if_success (with_reducible refine stk ?_)); simp only [WE, Nat.reduceLeDiff, segX, Nat.reduceBEq, Nat.reduceAdd, Nat.reduceEqDiff, Int.reduceNeg, Int.reduceEq, Int.reduceBEq, Int.reduceLT, Int.reduceLE, Int.reduceBNe, Int.reduceToNat, Nat.reduceMul, Nat.reduceMod, Int.reducePow, reduceIte, ty_43, Tryz.underlying136, rs_334, hyPhase, cond_true, cond_false]))
  all_goals rfl
end Go.Proofs.YtkokohkbhlnjkaaGreatDoor
namespace Go.Proofs.YtkokohkbhlnjkaaGreatDoor
set_option linter.unusedVariables false
set_option linter.unusedSimpArgs false
open Go Go.RowKit Go.Proofs.YtkokohkbhlnjkaaGreatDoor.R
set_option maxRecDepth 50000
set_option maxHeartbeats 1000000
theorem c_grow_given {x : Nat → Obj → Prop} (n : Int) : PureC Tryz.prog x 194 [.int .i64 n] (.int .i64 (cutOf n)) := by
  refine pureC_of_Sd Tryz.func194 rfl rfl fun w => ?_
  refine Sd_of_cW (by kernel_rfl) ?_
  repeat' (first | (with_reducible refine ifB_intro (fun _ => ?_) (fun _ => ?_)) | ((with_reducible show callW _ _ _ (some (164, _)) _ _); refine callP g_safe_Clamp rfl (c_safe_Clamp _ _ _) ?_) | ((fail_if_success (with_reducible refine stk ?_)); simp only [WE, Nat.reduceLeDiff, segX, Nat.reduceBEq, Nat.reduceAdd, Nat.reduceEqDiff, Int.reduceNeg, Int.reduceEq, Int.reduceBEq, Int.reduceLT, Int.reduceLE, Int.reduceBNe, Int.reduceToNat, Nat.reduceMul, Nat.reduceMod, Int.reducePow, reduceIte, rs_194]))
  rfl
theorem c_grow_Limit {x : Nat → Obj → Prop} (n h : Int) : PureC Tryz.prog x 135 [.int .i64 n, .int .i64 h] (.int .i64 (mn (cutOf n) (cutOf h))) := by
  refine pureC_of_Sd Tryz.func135 rfl rfl fun w => ?_
  refine Sd_of_cW (by kernel_rfl) ?_
  repeat' (first | (with_reducible refine ifB_intro (fun _ => ?_) (fun _ => ?_)) | ((with_reducible show callW _ _ _ (some (194, _)) _ _); refine callP g_grow_given rfl (c_grow_given _) ?_) | ((fail_if_success (with_reducible refine stk ?_)); simp only [WE, Nat.reduceLeDiff, segX, Nat.reduceBEq, Nat.reduceAdd, Nat.reduceEqDiff, Int.reduceNeg, Int.reduceEq, Int.reduceBEq, Int.reduceLT, Int.reduceLE, Int.reduceBNe, Int.reduceToNat, Nat.reduceMul, Nat.reduceMod, Int.reducePow, reduceIte, rs_135]))
def Hy.v (h : Hy) : Value := .agg #[.int .i64 h.last, .int .i64 h.least, .int .i64 h.many, .bool h.gentle, .bool h.done, .int .i64 h.base, .int .i64 h.rounds]
theorem c_grow_slow_by {x : Nat → Obj → Prop} (h : Hy) (w t : Int) : PureC Tryz.prog x 333 [.agg #[.int .i64 h.last, .int .i64 h.least, .int .i64 h.many, .bool h.gentle, .bool h.done, .int .i64 h.base, .int .i64 h.rounds], .int .i64 w, .int .i64 t] (.int .i64 (hyPart h (mn t 524288))) := by
  obtain ⟨a, b, c, g, d, p, r⟩ := h
  refine pureC_of_Sd Tryz.func333 rfl rfl fun w => ?_
  refine Sd_of_cW (by kernel_rfl) ?_
  repeat' (first | (with_reducible refine ifB_intro (fun _ => ?_) (fun _ => ?_)) | ((with_reducible show callW _ _ _ (some (334, _)) _ _); refine callP g_hystart_Part rfl (c_hystart_Part ..) ?_) | ((fail_if_success (with_reducible refine stk ?_)); simp only [WE, Nat.reduceLeDiff, segX, Nat.reduceBEq, Nat.reduceAdd, Nat.reduceEqDiff, Int.reduceNeg, Int.reduceEq, Int.reduceBEq, Int.reduceLT, Int.reduceLE, Int.reduceBNe, Int.reduceToNat, Nat.reduceMul, Nat.reduceMod, Int.reducePow, reduceIte, ty_43, fo_208_0, rs_333]))
def calmBy (target w t : Int) : Int := if target ≤ w then 0 else mn (t * (target - w) / w) (target - w)
theorem c_grow_calm_by {x : Nat → Obj → Prop} (g w t : Int) (hg : in64 g) (hw : 131072 ≤ w ∧ w ≤ 68719476736) (ht : 0 ≤ t ∧ t ≤ 68719476736) : PureC Tryz.prog x 335 [.agg #[.int .i64 g], .int .i64 w, .int .i64 t] (.int .i64 (calmBy g w t)) := by
  unfold in64 at hg
  unfold calmBy
  by_cases h : g ≤ w
  · have f := decide_eq_true h
    rw [if_pos h]
    refine pureC_of_Sd Tryz.func335 rfl rfl fun w => ?_
    refine Sd_of_cW (by kernel_rfl) ?_
    repeat' (first | (with_reducible refine ifB_intro (fun _ => ?_) (fun _ => ?_)) | ((with_reducible show callW _ _ _ (some (100, _)) _ _); refine callP g_frac_Floor rfl (c_frac_Floor ..) ?_) | ((fail_if_success (with_reducible refine stk ?_)); simp only [WE, Nat.reduceLeDiff, segX, Nat.reduceBEq, Nat.reduceAdd, Nat.reduceEqDiff, Int.reduceNeg, Int.reduceEq, Int.reduceBEq, Int.reduceLT, Int.reduceLE, Int.reduceBNe, Int.reduceToNat, Nat.reduceMul, Nat.reduceMod, Int.reducePow, reduceIte, ty_3, fo_243_0, Tryz.underlying30, rs_335, appX_nil, f]))
  · have f := decide_eq_false h
    rw [if_neg h]
    have w1 : wr .i64 (g - w) = g - w := wr_i64 (by omega) (by omega)
    have hF := c_frac_Floor (x := x) t (g - w) w (i64k (by omega) (by omega)) (i64k (by omega) (by omega)) (i64k (by omega) (by omega))
    by_cases hq : in64 (t * (g - w) / w)
    · rw [floN_eq (by omega) hq, floE_eq (by omega) hq] at hF
      refine pureC_of_Sd Tryz.func335 rfl rfl fun w => ?_
      refine Sd_of_cW (by kernel_rfl) ?_
      repeat' (first | (with_reducible refine ifB_intro (fun _ => ?_) (fun _ => ?_)) | ((with_reducible show callW _ _ _ (some (100, _)) _ _); refine callP g_frac_Floor rfl (hF) ?_) | ((fail_if_success (with_reducible refine stk ?_)); simp only [WE, Nat.reduceLeDiff, segX, Nat.reduceBEq, Nat.reduceAdd, Nat.reduceEqDiff, Int.reduceNeg, Int.reduceEq, Int.reduceBEq, Int.reduceLT, Int.reduceLE, Int.reduceBNe, Int.reduceToNat, Nat.reduceMul, Nat.reduceMod, Int.reducePow, reduceIte, ty_3, fo_243_0, Tryz.underlying30, rs_335, appX_nil, f, w1]))
    · have e1 : floE t (g - w) w = 10 := by
        unfold floE fitE; unfold in64 at hq; rw [if_neg (by omega), if_neg hq]
      have q0 : 0 ≤ t * (g - w) / w := Int.ediv_nonneg (Int.mul_nonneg ht.1 (by omega)) (by omega)
      have e2 : mn (t * (g - w) / w) (g - w) = g - w := by
        unfold in64 at hq; unfold mn; rw [if_pos (by omega)]
      rw [e1] at hF
      rw [e2]
      refine pureC_of_Sd Tryz.func335 rfl rfl fun w => ?_
      refine Sd_of_cW (by kernel_rfl) ?_
      repeat' (first | (with_reducible refine ifB_intro (fun _ => ?_) (fun _ => ?_)) | ((with_reducible show callW _ _ _ (some (100, _)) _ _); refine callP g_frac_Floor rfl (hF) ?_) | ((fail_if_success (with_reducible refine stk ?_)); simp only [WE, Nat.reduceLeDiff, segX, Nat.reduceBEq, Nat.reduceAdd, Nat.reduceEqDiff, Int.reduceNeg, Int.reduceEq, Int.reduceBEq, Int.reduceLT, Int.reduceLE, Int.reduceBNe, Int.reduceToNat, Nat.reduceMul, Nat.reduceMod, Int.reducePow, reduceIte, ty_3, fo_243_0, Tryz.underlying30, rs_335, appX_nil, f, w1]))
def tld (t : Int) : Int := if t < 0 then 0 else mn t 68719476736
theorem tld_in (t : Int) : 0 ≤ tld t ∧ tld t ≤ 68719476736 := by unfold tld mn; (repeat' split) <;> omega
def growSlow (w t : Int) (h : Hy) : Int := cutOf (sat (cutOf w + hyPart h (mn (tld t) 524288)))
def growBoth (w g est t : Int) : Int := cutOf (mx (sat (cutOf w + calmBy g (cutOf w) (tld t))) est)
theorem calmBy_in {g w t : Int} (hg : in64 g) (hw : 131072 ≤ w ∧ w ≤ 68719476736) (ht : 0 ≤ t ∧ t ≤ 68719476736) : 0 ≤ calmBy g w t ∧ in64 (calmBy g w t) := by
  unfold in64 at hg
  unfold calmBy
  by_cases h : g ≤ w
  · rw [if_pos h]; exact ⟨by omega, i64k (by omega) (by omega)⟩
  · rw [if_neg h]
    have q0 : 0 ≤ t * (g - w) / w := Int.ediv_nonneg (Int.mul_nonneg ht.1 (by omega)) (by omega)
    generalize t * (g - w) / w = Q at *
    unfold mn
    split
    · exact ⟨by omega, i64k (by omega) (by omega)⟩
    · exact ⟨by omega, i64k (by omega) (by omega)⟩
theorem inv_old (g e a b : Int) : R.Yields Tryz.prog (invoke (Target.fn (Fn.method "sawtooth/grow.by") #[]) (#[Value.iface 241 (.agg #[.iface 243 (.agg #[.int .i64 g]), .int .i64 e])] ++ #[.int .i64 a, .int .i64 b])) (.enter 335 #[.agg #[.int .i64 g], .int .i64 a, .int .i64 b]) := fun w => by
  exact ⟨rfl, rfl⟩
theorem inv_slow (l1 l2 l3 l4 l5 a b : Int) (c d : Bool) : R.Yields Tryz.prog (invoke (Target.fn (Fn.method "sawtooth/grow.by") #[]) (#[Value.iface 208 (.agg #[.int .i64 l1, .int .i64 l2, .int .i64 l3, .bool c, .bool d, .int .i64 l4, .int .i64 l5])] ++ #[.int .i64 a, .int .i64 b])) (.enter 333 #[.agg #[.int .i64 l1, .int .i64 l2, .int .i64 l3, .bool c, .bool d, .int .i64 l4, .int .i64 l5], .int .i64 a, .int .i64 b]) := fun w => by
  exact ⟨rfl, rfl⟩
theorem ta_old {K : Value → Prop} (g e : Int) : pureW Tryz.prog (Instr.typeAssert (.iface 241 (.agg #[.iface 243 (.agg #[.int .i64 g]), .int .i64 e])) 239 241 true) K = K (.tuple #[.agg #[.iface 243 (.agg #[.int .i64 g]), .int .i64 e], .bool true]) :=
  pureW_of fun w => ⟨by rfl, by rfl⟩
theorem ta_slow1 {K : Value → Prop} (v : Value) : pureW Tryz.prog (Instr.typeAssert (.iface 208 v) 239 241 true) K = K (.tuple #[.agg #[.nilIface, .int .i64 0], .bool false]) :=
  pureW_of fun w => ⟨by rfl, by rfl⟩
theorem ta_slow2 {K : Value → Prop} (v : Value) : pureW Tryz.prog (Instr.typeAssert (.iface 208 v) 239 243 true) K = K (.tuple #[.agg #[.int .i64 0], .bool false]) :=
  pureW_of fun w => ⟨by rfl, by rfl⟩
theorem c_grow_after_old {x : Nat → Obj → Prop} (w t g e : Int) (hg : in64 g) : PureC Tryz.prog x 195 [.int .i64 w, .int .i64 t, .iface 241 (.agg #[.iface 243 (.agg #[.int .i64 g]), .int .i64 e])] (.int .i64 (growBoth w g e t)) := by
  have hw := cutOf_in w
  have ht := tld_in t
  have hC := c_safe_Clamp (x := x) t 0 68719476736
  have e0 : (if t < 0 then 0 else mn t 68719476736) = tld t := rfl
  rw [e0] at hC
  have hB := c_grow_calm_by (x := x) g (cutOf w) (tld t) hg hw ht
  have hi := calmBy_in hg hw ht
  unfold growBoth
  refine pureC_of_Sd Tryz.func195 rfl rfl fun w => ?_
  refine Sd_of_cW (by kernel_rfl) ?_
  repeat' (first | (((with_reducible show invokeW _ _ _ _); refine ⟨_, _, _, inv_old _ _ _ _, hB, ?_⟩)) | (rw [ta_old]) | (with_reducible refine ifB_intro (fun _ => ?_) (fun _ => ?_)) | ((with_reducible show callW _ _ _ (some (102, _)) _ _); refine callP g_safe_Add rfl (c_safe_Add _ _ (i64k (by omega) (by omega)) hi.2) ?_) | ((with_reducible show callW _ _ _ (some (164, _)) _ _); refine callP g_safe_Clamp rfl (hC) ?_) | ((with_reducible show callW _ _ _ (some (194, _)) _ _); refine callP g_grow_given rfl (c_grow_given _) ?_) | ((fail_if_success (with_reducible refine stk ?_)); simp only [WE, Nat.reduceLeDiff, segX, Nat.reduceBEq, Nat.reduceAdd, Nat.reduceEqDiff, Int.reduceNeg, Int.reduceEq, Int.reduceBEq, Int.reduceLT, Int.reduceLE, Int.reduceBNe, Int.reduceToNat, Nat.reduceMul, Nat.reduceMod, Int.reducePow, reduceIte, ty_3, ty_241, ty_243, fo_241_1, fo_243_0, tz_241, tz_243, rs_195, appX_nil]))
theorem hyPart_in {h : Hy} {t : Int} (ht : 0 ≤ t ∧ t ≤ 68719476736) : 0 ≤ hyPart h t ∧ hyPart h t ≤ t := by
  unfold hyPart mx
  have e1 : wr .i64 (t.tdiv 4) = t / 4 := by rw [Int.tdiv_eq_ediv_of_nonneg ht.1, wr_i64 (by omega) (by omega)]
  rw [if_neg (by omega)]
  cases h.done <;> cases h.gentle <;> simp only [cond_true, cond_false, e1] <;> omega
theorem c_grow_after_slow {x : Nat → Obj → Prop} (w t : Int) (h : Hy) : PureC Tryz.prog x 195 [.int .i64 w, .int .i64 t, .iface 208 (.agg #[.int .i64 h.last, .int .i64 h.least, .int .i64 h.many, .bool h.gentle, .bool h.done, .int .i64 h.base, .int .i64 h.rounds])] (.int .i64 (growSlow w t h)) := by
  have hw := cutOf_in w
  have ht := tld_in t
  have hC := c_safe_Clamp (x := x) t 0 68719476736
  have e0 : (if t < 0 then 0 else mn t 68719476736) = tld t := rfl
  rw [e0] at hC
  have hB := c_grow_slow_by (x := x) h (cutOf w) (tld t)
  have hm : 0 ≤ mn (tld t) 524288 ∧ mn (tld t) 524288 ≤ 68719476736 := by unfold mn; split <;> omega
  have hi := hyPart_in (h := h) hm
  unfold growSlow
  refine pureC_of_Sd Tryz.func195 rfl rfl fun w => ?_
  refine Sd_of_cW (by kernel_rfl) ?_
  repeat' (first | (((with_reducible show invokeW _ _ _ _); refine ⟨_, _, _, inv_slow _ _ _ _ _ _ _ _ _, hB, ?_⟩)) | (rw [ta_slow1]) | (rw [ta_slow2]) | (with_reducible refine ifB_intro (fun _ => ?_) (fun _ => ?_)) | ((with_reducible show callW _ _ _ (some (102, _)) _ _); refine callP g_safe_Add rfl (c_safe_Add _ _ (i64k (by omega) (by omega)) (i64k (by omega) (by omega))) ?_) | ((with_reducible show callW _ _ _ (some (164, _)) _ _); refine callP g_safe_Clamp rfl (hC) ?_) | ((with_reducible show callW _ _ _ (some (194, _)) _ _); refine callP g_grow_given rfl (c_grow_given _) ?_) | ((fail_if_success (with_reducible refine stk ?_)); simp only [WE, Nat.reduceLeDiff, segX, Nat.reduceBEq, Nat.reduceAdd, Nat.reduceEqDiff, Int.reduceNeg, Int.reduceEq, Int.reduceBEq, Int.reduceLT, Int.reduceLE, Int.reduceBNe, Int.reduceToNat, Nat.reduceMul, Nat.reduceMod, Int.reducePow, reduceIte, ty_3, ty_241, ty_243, fo_241_1, fo_243_0, tz_241, tz_243, rs_195, appX_nil]))
theorem c_grow_Slow {x : Nat → Obj → Prop} (w t : Int) (h : Hy) : PureC Tryz.prog x 136 [.int .i64 w, .int .i64 t, h.v] (.int .i64 (growSlow w t h)) := by
  have hA := c_grow_after_slow (x := x) w t h
  obtain ⟨a, b, c, g, d, p, r⟩ := h
  unfold Hy.v
  refine pureC_of_Sd Tryz.func136 rfl rfl fun w => ?_
  refine Sd_of_cW (by kernel_rfl) ?_
  repeat' (first | (((with_reducible show pureW _ (Instr.makeInterface _ _) _); refine ⟨_, fun w => ⟨rfl, rfl⟩, ?_⟩)) | (with_reducible refine ifB_intro (fun _ => ?_) (fun _ => ?_)) | ((with_reducible show callW _ _ _ (some (195, _)) _ _); refine callP g_grow_after rfl (hA) ?_) | ((fail_if_success (with_reducible refine stk ?_)); simp only [WE, Nat.reduceLeDiff, segX, Nat.reduceBEq, Nat.reduceAdd, Nat.reduceEqDiff, Int.reduceNeg, Int.reduceEq, Int.reduceBEq, Int.reduceLT, Int.reduceLE, Int.reduceBNe, Int.reduceToNat, Nat.reduceMul, Nat.reduceMod, Int.reducePow, reduceIte, ty_43, bd_208, rs_136, appX_nil]))
theorem c_grow_Both {x : Nat → Obj → Prop} (w g e t : Int) (hg : in64 g) : PureC Tryz.prog x 201 [.int .i64 w, .int .i64 g, .int .i64 e, .int .i64 t] (.int .i64 (growBoth w g e t)) := by
  have hA := c_grow_after_old (x := x) w t g e hg
  refine pureC_of_Sd Tryz.func201 rfl rfl fun w => ?_
  refine Sd_of_cW (by kernel_rfl) ?_
  repeat' (first | (((with_reducible show pureW _ (Instr.makeInterface _ _) _); refine ⟨_, fun w => ⟨rfl, rfl⟩, ?_⟩)) | (with_reducible refine ifB_intro (fun _ => ?_) (fun _ => ?_)) | ((with_reducible show callW _ _ _ (some (195, _)) _ _); refine callP g_grow_after rfl (hA) ?_) | ((fail_if_success (with_reducible refine stk ?_)); simp only [WE, Nat.reduceLeDiff, segX, Nat.reduceBEq, Nat.reduceAdd, Nat.reduceEqDiff, Int.reduceNeg, Int.reduceEq, Int.reduceBEq, Int.reduceLT, Int.reduceLE, Int.reduceBNe, Int.reduceToNat, Nat.reduceMul, Nat.reduceMod, Int.reducePow, reduceIte, bd_241, bd_243, rs_201, appX_nil]))
theorem c_big_CmpV {x : Nat → Obj → Prop} (a b : Int) (ha : (a.natAbs : Int) < 340282366920938463463374607431768211456) (hb : (b.natAbs : Int) < 340282366920938463463374607431768211456) : PureC Tryz.prog x 185 [bigV a, bigV b] (.int .i64 (cmpI a b)) := by
  have h1 := natAbs_lt ha
  have h2 := natAbs_lt hb
  have := c_big_Cmp (x := x) (decide (a < 0)) (decide (b < 0)) _ _ _ _ h1.1.1 h1.1.2 h1.2.1 h1.2.2 h2.1.1 h2.1.2 h2.2.1 h2.2.2
  rw [sv_big, sv_big] at this
  exact this
def used (w o s : Int) : Bool := decide (0 ≤ w ∧ 0 ≤ o ∧ 0 ≤ s ∧ w * s ≤ o * 131072)
theorem built_min3 {P : Program} {ts : Array TypeId} {t : TypeId} {k : IntKind} {cs : Array Bool} {K : Value → Prop} {a b c : Int} : builtW P (builtin .min ts t cs #[.int k a, .int k b, .int k c]) K = K (.int k (mn (mn a b) c)) :=
  builtW_of fun w => by
    constructor <;> simp [builtin, Builtin.min_, Builtin.min2, mn]
    (repeat' split) <;> first | rfl | omega
theorem c_guide_Used {x : Nat → Obj → Prop} (w o s : Int) (hw : in64 w) (ho : in64 o) (hs : in64 s) : PureC Tryz.prog x 127 [.int .i64 w, .int .i64 o, .int .i64 s] (.bool (used w o s)) := by
  have m1 := natAbs_mul_le ho (show in64 131072 from i64k (by omega) (by omega))
  have m2 := natAbs_mul_le hw hs
  have hm : 0 ≤ mn (mn w o) s ↔ 0 ≤ w ∧ 0 ≤ o ∧ 0 ≤ s := by unfold mn; (repeat' split) <;> omega
  have hM1 := c_big_Mul (x := x) o 131072 ho (i64k (by omega) (by omega))
  have hM2 := c_big_Mul (x := x) w s hw hs
  have hCm := c_big_CmpV (x := x) (o * 131072) (w * s) (by omega) (by omega)
  unfold used
  refine pureC_of_Sd Tryz.func127 rfl rfl fun _ => ?_
  refine Sd_of_cW (by kernel_rfl) ?_
  repeat' (first | (with_reducible refine ifB_intro (fun _ => ?_) (fun _ => ?_)) | ((with_reducible show callW _ _ _ (some (185, _)) _ _); refine callP g_big_Cmp rfl (hCm) ?_) | ((with_reducible show callW _ _ _ (some (186, _)) _ _); refine callP g_big_Mul rfl (hM1) ?_) | ((with_reducible show callW _ _ _ (some (186, _)) _ _); refine callP g_big_Mul rfl (hM2) ?_) | ((fail_if_success (with_reducible refine stk ?_)); simp only [WE, Nat.reduceLeDiff, segX, Nat.reduceBEq, Nat.reduceAdd, Nat.reduceEqDiff, Int.reduceNeg, Int.reduceEq, Int.reduceBEq, Int.reduceLT, Int.reduceLE, Int.reduceBNe, Int.reduceToNat, Nat.reduceMul, Nat.reduceMod, Int.reducePow, reduceIte, rs_127, appX_nil, built_min3]))
  all_goals refine congrArg Value.bool ?_
  all_goals simp only [decide_eq_true_eq, decide_eq_false_iff_not, Bool.not_eq_true', Bool.not_eq_false', bne_iff_ne, ne_eq, bne_eq_false_iff_eq, beq_iff_eq, beq_eq_false_iff_ne, Bool.and_eq_true, Bool.and_eq_false_iff, Bool.or_eq_true, Bool.or_eq_false_iff, not_true_eq_false, not_false_eq_true] at *
  · rename_i h
    refine decide_eq_decide.2 ?_
    have hc : 0 ≤ cmpI (o * 131072) (w * s) ↔ w * s ≤ o * 131072 := by
      unfold cmpI; (repeat' split) <;> omega
    rw [hc]
    have := hm.1 h
    exact ⟨fun h => ⟨this.1, this.2.1, this.2.2, h⟩, fun h => h.2.2.2⟩
  · rename_i h
    exact (decide_eq_false (fun h' => h (hm.2 ⟨h'.1, h'.2.1, h'.2.2.1⟩))).symm
end Go.Proofs.YtkokohkbhlnjkaaGreatDoor
namespace Go.Proofs.YtkokohkbhlnjkaaGreatDoor
set_option linter.unusedVariables false
set_option linter.unusedSimpArgs false
open Go Go.RowKit Go.Proofs.YtkokohkbhlnjkaaGreatDoor.R
set_option maxRecDepth 50000
set_option maxHeartbeats 1000000
structure Cf where
  seg : Int
  max : Int
  first : Int
  grain : Int
  least : Int
  great : Int
  burst : Int
def Cf.cells (c : Cf) : List Value := [.int .i64 c.seg, .int .i64 c.max, .int .i64 c.first, .int .i64 c.grain, .int .i64 c.least, .int .i64 c.great, .int .i64 c.burst]
def Cf.num (c : Cf) (i : Nat) : Int := match i with | 0 => c.seg | 1 => c.max | 2 => c.first | 3 => c.grain | 4 => c.least | 5 => c.great | _ => c.burst
def Cf.lo (_ : Cf) (i : Nat) : Int := match i with | 1 => 4 | 2 => 2 | _ => 1
def Cf.hi (c : Cf) (i : Nat) : Int := match i with | 0 => 9000 | 1 => 1048576 | 2 => c.max | 3 => 1000000 | 4 => c.great | 5 => 1099511627776 | _ => 1000
def Cf.at_ (c : Cf) (i : Nat) : Bool := bif decide (c.num i < c.lo i) then false else !(decide (c.hi i < c.num i))
def Cf.row (c : Cf) : List RV := (List.range 7).flatMap fun i => [.ext (.int .i64 (c.num i)), .ext (.int .i64 0), .ext (.int .i64 (c.lo i)), .ext (.int .i64 (c.hi i))]
def Cf.ok (c : Cf) : Bool := (List.range 7).all c.at_
theorem c_guide_bounds {x : Nat → Obj → Prop} (c0 c1 c2 c3 c4 c5 c6 : Int) : RetC Tryz.prog x 107 [.agg #[.int .i64 c0, .int .i64 c1, .int .i64 c2, .int .i64 c3, .int .i64 c4, .int .i64 c5, .int .i64 c6]]
    (.clos 172 [(0, 0)]) [.cells 23 [.ext (.int .i64 c0), .ext (.int .i64 c1), .ext (.int .i64 c2), .ext (.int .i64 c3), .ext (.int .i64 c4), .ext (.int .i64 c5), .ext (.int .i64 c6)]] := by
  refine retC_of_Sd Tryz.func107 rfl rfl rfl fun w => ?_
  refine Sd_of_cW (by kernel_rfl) ?_
  repeat' (first | (with_reducible refine ifB_intro (fun _ => ?_) (fun _ => ?_)) | ((with_reducible show callW _ _ _ (some (172, _)) _ _); refine callP g_guide_bounds_1 rfl (c_guide_bounds_1 ..) ?_) | ((fail_if_success (with_reducible refine stk ?_)); simp only [WE, Nat.reduceLeDiff, segX, Nat.reduceBEq, Nat.reduceAdd, Nat.reduceEqDiff, Int.reduceNeg, Int.reduceEq, Int.reduceBEq, Int.reduceLT, Int.reduceLE, Int.reduceBNe, Int.reduceToNat, Nat.reduceMul, Nat.reduceMod, Int.reducePow, reduceIte, rs_107]))
  exact ⟨(rfl : [RV.clos _ _] = [RV.clos _ _]), preX_refl _⟩
def cfRow (c0 c1 c2 c3 c4 c5 c6 : Int) : List Value := [.int .i64 c0, .int .i64 0, .int .i64 1, .int .i64 9000, .int .i64 c1, .int .i64 0, .int .i64 4, .int .i64 1048576, .int .i64 c2, .int .i64 0, .int .i64 2, .int .i64 c1, .int .i64 c3, .int .i64 0, .int .i64 1, .int .i64 1000000, .int .i64 c4, .int .i64 0, .int .i64 1, .int .i64 c5, .int .i64 c5, .int .i64 0, .int .i64 1, .int .i64 1099511627776, .int .i64 c6, .int .i64 0, .int .i64 1, .int .i64 1000]
theorem seg_row (c0 c1 c2 c3 c4 c5 c6 : Int) (i : Nat) (hi : i < 7) : takeX 4 (dropX (i * 4) (List.map RV.ext (cfRow c0 c1 c2 c3 c4 c5 c6).toArray.toList)) = some [.int .i64 ((⟨c0, c1, c2, c3, c4, c5, c6⟩ : Cf).num i), .int .i64 0, .int .i64 ((⟨c0, c1, c2, c3, c4, c5, c6⟩ : Cf).lo i), .int .i64 ((⟨c0, c1, c2, c3, c4, c5, c6⟩ : Cf).hi i)] := by
  have hc : i = 0 ∨ i = 1 ∨ i = 2 ∨ i = 3 ∨ i = 4 ∨ i = 5 ∨ i = 6 := by omega
  rcases hc with rfl | rfl | rfl | rfl | rfl | rfl | rfl <;> rfl
set_option maxHeartbeats 20000000 in
theorem c_guide_bounds1 {x : Nat → Obj → Prop} (c0 c1 c2 c3 c4 c5 c6 : Int) (b : Nat) (hx : x b (.cells (⟨c0, c1, c2, c3, c4, c5, c6⟩ : Cf).cells.toArray 23 (0, 0))) (s : Nat → Nat) (w : WM) (o0 o1 o2 o3 p1 p3 : RO)
    (hM : Mem s [o0, o1, o2, o3] x w) (hp : cloO 4 p1 = true ∧ cloO 4 p3 = true)
    (hY : ∀ i, i < 7 → ∀ t o4 o5, GenY Tryz.prog [s 0, s 1, s 2, s 3] ⟨t, [o0, o1, o2, o3, o4, o5], x⟩ (s 3)
      [.ext (.agg #[.int .i64 ((⟨c0, c1, c2, c3, c4, c5, c6⟩ : Cf).num i), .int .i64 0]), .ext (.agg #[.int .i64 ((⟨c0, c1, c2, c3, c4, c5, c6⟩ : Cf).lo i), .int .i64 ((⟨c0, c1, c2, c3, c4, c5, c6⟩ : Cf).hi i)])]
      fun v S' => v = .ext (.bool ((⟨c0, c1, c2, c3, c4, c5, c6⟩ : Cf).at_ i)) ∧ S' = ⟨t, [o0, bif (⟨c0, c1, c2, c3, c4, c5, c6⟩ : Cf).at_ i then o1 else p1, o2, bif (⟨c0, c1, c2, c3, c4, c5, c6⟩ : Cf).at_ i then o3 else p3, o4, o5], x⟩) :
    R.Calls Tryz.prog 172 #[.func (.yield (s 3)) #[] #[], .pointer (some ⟨b, 0, none⟩)] w fun e w' => e = .returned (.tuple #[]) ∧ Fr [s 0, s 1, s 2, s 3] w w' ∧
      Mem s [o0, bif (⟨c0, c1, c2, c3, c4, c5, c6⟩ : Cf).ok then o1 else p1, o2, bif (⟨c0, c1, c2, c3, c4, c5, c6⟩ : Cf).ok then o3 else p3] x w' := by
  have := calls_of_Sd (P := Tryz.prog) (s := s) (args := [.ext (.func (.yield (s 3)) #[] #[]), .ext (.pointer (some ⟨b, 0, none⟩))]) (bs := [s 0, s 1, s 2, s 3]) (m := [o0, o1, o2, o3]) (x := x) (w := w)
    (R := fun e w' => e = .returned (.tuple #[]) ∧ Fr [s 0, s 1, s 2, s 3] w w' ∧
      Mem s [o0, bif (⟨c0, c1, c2, c3, c4, c5, c6⟩ : Cf).ok then o1 else p1, o2, bif (⟨c0, c1, c2, c3, c4, c5, c6⟩ : Cf).ok then o3 else p3] x w')
    (Q := fun e S' => (e = .normal ∨ e = .ret) ∧ ∃ o4 r, S'.m = [o0, bif (⟨c0, c1, c2, c3, c4, c5, c6⟩ : Cf).ok then o1 else p1, o2, bif (⟨c0, c1, c2, c3, c4, c5, c6⟩ : Cf).ok then o3 else p3] ++ o4 :: r ∧ S'.x = x ∧
      [o0, bif (⟨c0, c1, c2, c3, c4, c5, c6⟩ : Cf).ok then o1 else p1, o2, bif (⟨c0, c1, c2, c3, c4, c5, c6⟩ : Cf).ok then o3 else p3].all (cloO 4) = true)
    Tryz.func172 rfl (Nat.le_of_ble_eq_true rfl) hM ⟨Nat.le_refl _, fun k hk => ?_⟩ (by simp [clo]) ?_ ?_
  · exact this
  · match k, hk with
    | 0, _ => exact .inl ⟨_, rfl, rfl⟩
    | 1, _ => exact .inl ⟨_, rfl, rfl⟩
    | 2, _ => exact .inl ⟨_, rfl, rfl⟩
    | 3, _ => exact .inl ⟨_, rfl, rfl⟩
  · have l0 : loadX false 1 0 (⟨c0, c1, c2, c3, c4, c5, c6⟩ : Cf).cells.toArray = some (.int .i64 c0) := rfl
    have l1 : loadX false 1 1 (⟨c0, c1, c2, c3, c4, c5, c6⟩ : Cf).cells.toArray = some (.int .i64 c1) := rfl
    have l2 : loadX false 1 2 (⟨c0, c1, c2, c3, c4, c5, c6⟩ : Cf).cells.toArray = some (.int .i64 c2) := rfl
    have l3 : loadX false 1 3 (⟨c0, c1, c2, c3, c4, c5, c6⟩ : Cf).cells.toArray = some (.int .i64 c3) := rfl
    have l4 : loadX false 1 4 (⟨c0, c1, c2, c3, c4, c5, c6⟩ : Cf).cells.toArray = some (.int .i64 c4) := rfl
    have l5 : loadX false 1 5 (⟨c0, c1, c2, c3, c4, c5, c6⟩ : Cf).cells.toArray = some (.int .i64 c5) := rfl
    have l6 : loadX false 1 6 (⟨c0, c1, c2, c3, c4, c5, c6⟩ : Cf).cells.toArray = some (.int .i64 c6) := rfl
    refine Sd_seq (Sd_of_cW (by kernel_rfl) ?_)
    repeat' (first | (with_reducible refine extW_of hx l0 ?_) | (with_reducible refine extW_of hx l1 ?_) | (with_reducible refine extW_of hx l2 ?_) | (with_reducible refine extW_of hx l3 ?_) | (with_reducible refine extW_of hx l4 ?_) | (with_reducible refine extW_of hx l5 ?_) | (with_reducible refine extW_of hx l6 ?_) | (with_reducible refine ifB_intro (fun _ => ?_) (fun _ => ?_)) | ((fail_if_success (with_reducible refine stk ?_)); simp only [WE, Nat.reduceLeDiff, segX, Nat.reduceBEq, Nat.reduceAdd, Nat.reduceEqDiff, Int.reduceNeg, Int.reduceEq, Int.reduceBEq, Int.reduceLT, Int.reduceLE, Int.reduceBNe, Int.reduceToNat, Nat.reduceMul, Nat.reduceMod, Int.reducePow, reduceIte, ty_3, ty_133, ty_183, fo_23_0, fo_23_1, fo_23_2, fo_23_3, fo_23_4, fo_23_5, fo_23_6, el_183, el_184, tz_183, bd_133, bd_183, bl_184, Tryz.underlying184, rs_172, appX_nil]))
    refine bld_ext (z := .agg #[.int .i64 0, .int .i64 0, .int .i64 0, .int .i64 0]) (n := 4) (b := 32) (cfRow c0 c1 c2 c3 c4 c5 c6).toArray rfl Tryz.underlying184 (by kernel_rfl) (by decide) (by decide) (by kernel_rfl) ?_
    generalize hrow : List.map RV.ext (cfRow c0 c1 c2 c3 c4 c5 c6).toArray.toList = row
    (first | (with_reducible refine ifB_intro (fun _ => ?_) (fun _ => ?_)) | ((fail_if_success (with_reducible refine stk ?_)); simp only [WE, Nat.reduceLeDiff, segX, Nat.reduceBEq, Nat.reduceAdd, Nat.reduceEqDiff, Int.reduceNeg, Int.reduceEq, Int.reduceBEq, Int.reduceLT, Int.reduceLE, Int.reduceBNe, Int.reduceToNat, Nat.reduceMul, Nat.reduceMod, Int.reducePow, reduceIte, ty_3, ty_133, ty_183, fo_23_0, fo_23_1, fo_23_2, fo_23_3, fo_23_4, fo_23_5, fo_23_6, el_183, el_184, tz_183, bd_133, bd_183, bl_184, Tryz.underlying184, rs_172]))
    refine Sd_seq (Sd_of_cW (by kernel_rfl) ?_)
    (first | (with_reducible refine ifB_intro (fun _ => ?_) (fun _ => ?_)) | ((fail_if_success (with_reducible refine stk ?_)); simp only [WE, Nat.reduceLeDiff, segX, Nat.reduceBEq, Nat.reduceAdd, Nat.reduceEqDiff, Int.reduceNeg, Int.reduceEq, Int.reduceBEq, Int.reduceLT, Int.reduceLE, Int.reduceBNe, Int.reduceToNat, Nat.reduceMul, Nat.reduceMod, Int.reducePow, reduceIte, ty_3, ty_133, ty_183, fo_23_0, fo_23_1, fo_23_2, fo_23_3, fo_23_4, fo_23_5, fo_23_6, el_183, el_184, tz_183, bd_133, bd_183, bl_184, Tryz.underlying184, rs_172]))
    have k0 := hM.cm 0 _ rfl
    have k1 := hM.cm 1 _ rfl
    have k2 := hM.cm 2 _ rfl
    have k3 := hM.cm 3 _ rfl
    have q1 : (cloO 4 o0 && (cloO 4 o1 && (cloO 4 o2 && cloO 4 o3))) = true := by
      have e0 : cloO 4 o0 = true := k0
      have e1 : cloO 4 o1 = true := k1
      have e2 : cloO 4 o2 = true := k2
      have e3 : cloO 4 o3 = true := k3
      rw [e0, e1, e2, e3]; rfl
    have q2 : (cloO 4 o0 && (true && (cloO 4 o2 && true))) = true := by
      have e0 : cloO 4 o0 = true := k0
      have e2 : cloO 4 o2 = true := k2
      rw [e0, e2]; rfl
    have hcl : [o0, o1, o2, o3, .cells 183 row].all (cloO 5) = true := by
      simp only [List.all_cons, List.all_nil, Bool.and_true, cloO_mono (show 4 ≤ 5 by decide) k0, cloO_mono (show 4 ≤ 5 by decide) k1, cloO_mono (show 4 ≤ 5 by decide) k2, cloO_mono (show 4 ≤ 5 by decide) k3]
      rw [← hrow]; rfl
    refine Sd_block (Sd_loopG (fun i : Nat => ⟨[(48, .ext (.int .i64 i)), (47, .ext (.int .i64 7)), (46, .sl 4 0 7 7), (0, .ext (.func (.yield (s 3)) #[] #[]))], [o0, o1, o2, o3, .cells 183 row], x⟩)
      (fun i => i ≤ 7 ∧ ∀ j, j < i → (⟨c0, c1, c2, c3, c4, c5, c6⟩ : Cf).at_ j = true) (fun i => 7 - i) ?_ ?_)
    · intro s a w hr
      refine ⟨0, s, Wk.rep' (by show 4 ≤ 5; omega) ?_ hr, Nat.zero_le _, fun j hj => absurd hj (Nat.not_lt_zero _)⟩
      exact Wk_of' ⟨⟨rfl, rfl⟩, ⟨rfl, rfl⟩, ⟨rfl, rfl⟩, ⟨rfl, rfl⟩, trivial⟩ ⟨rfl, rfl, rfl, rfl, rfl, trivial⟩ hcl
    rintro i ⟨hi, hall⟩
    by_cases h7 : i = 7
    · subst h7
      have hok : (⟨c0, c1, c2, c3, c4, c5, c6⟩ : Cf).ok = true := List.all_eq_true.2 fun j hj => hall j (List.mem_range.1 hj)
      have hd : decide (((7 : Nat) : Int) < 7) = false := by decide
      refine Sd_seq (Sd_of_cW (by kernel_rfl) ?_)
      simp only [WE, Nat.reduceLeDiff, segX, Nat.reduceBEq, Nat.reduceAdd, Nat.reduceEqDiff, Int.reduceNeg, Int.reduceEq, Int.reduceBEq, Int.reduceLT, Int.reduceLE, Int.reduceBNe, Int.reduceToNat, Nat.reduceMul, Nat.reduceMod, Int.reducePow, reduceIte, ty_3, ty_133, ty_183, fo_23_0, fo_23_1, fo_23_2, fo_23_3, fo_23_4, fo_23_5, fo_23_6, el_183, el_184, tz_183, bd_133, bd_183, bl_184, Tryz.underlying184, rs_172, hd]
      refine Sd_seq (Sd_of_cW (by kernel_rfl) ?_)
      simp only [WE, Nat.reduceLeDiff, segX, Nat.reduceBEq, Nat.reduceAdd, Nat.reduceEqDiff, Int.reduceNeg, Int.reduceEq, Int.reduceBEq, Int.reduceLT, Int.reduceLE, Int.reduceBNe, Int.reduceToNat, Nat.reduceMul, Nat.reduceMod, Int.reducePow, reduceIte, ty_3, ty_133, ty_183, fo_23_0, fo_23_1, fo_23_2, fo_23_3, fo_23_4, fo_23_5, fo_23_6, el_183, el_184, tz_183, bd_133, bd_183, bl_184, Tryz.underlying184, rs_172, hd]
      simp only [hok, cond_true, k0, k1, k2, k3, Bool.and_self]
      exact ⟨.inl trivial, _, _, rfl, q1⟩
    · have hlt : i < 7 := by omega
      have hseg := seg_row c0 c1 c2 c3 c4 c5 c6 i hlt
      rw [hrow] at hseg
      refine Sd_seq (Sd_of_cW (by kernel_rfl) ?_)
      have hd : decide ((i : Int) < 7) = true := by simp; omega
      have hw : wr .i64 ((i : Int) + 1) = ((i + 1 : Nat) : Int) := by rw [wr_i64 (by omega) (by omega)]; rfl
      simp only [WE, Nat.reduceLeDiff, segX, Nat.reduceBEq, Nat.reduceAdd, Nat.reduceEqDiff, Int.reduceNeg, Int.reduceEq, Int.reduceBEq, Int.reduceLT, Int.reduceLE, Int.reduceBNe, Int.reduceToNat, Nat.reduceMul, Nat.reduceMod, Int.reducePow, reduceIte, ty_3, ty_133, ty_183, fo_23_0, fo_23_1, fo_23_2, fo_23_3, fo_23_4, fo_23_5, fo_23_6, el_183, el_184, tz_183, bd_133, bd_183, bl_184, Tryz.underlying184, rs_172, hd]
      refine Sd_seq (Sd_of_cW (by kernel_rfl) ?_)
      simp only [WE, Nat.reduceLeDiff, segX, Nat.reduceBEq, Nat.reduceAdd, Nat.reduceEqDiff, Int.reduceNeg, Int.reduceEq, Int.reduceBEq, Int.reduceLT, Int.reduceLE, Int.reduceBNe, Int.reduceToNat, Nat.reduceMul, Nat.reduceMod, Int.reducePow, reduceIte, ty_3, ty_133, ty_183, fo_23_0, fo_23_1, fo_23_2, fo_23_3, fo_23_4, fo_23_5, fo_23_6, el_183, el_184, tz_183, bd_133, bd_183, bl_184, Tryz.underlying184, rs_172, hd]
      refine Sd_seq (Sd_block (Sd_seq (Sd_of_cW (by kernel_rfl) ?_)))
      simp only [WE, Nat.reduceLeDiff, segX, Nat.reduceBEq, Nat.reduceAdd, Nat.reduceEqDiff, Int.reduceNeg, Int.reduceEq, Int.reduceBEq, Int.reduceLT, Int.reduceLE, Int.reduceBNe, Int.reduceToNat, Nat.reduceMul, Nat.reduceMod, Int.reducePow, reduceIte, ty_3, ty_133, ty_183, fo_23_0, fo_23_1, fo_23_2, fo_23_3, fo_23_4, fo_23_5, fo_23_6, el_183, el_184, tz_183, bd_133, bd_183, bl_184, Tryz.underlying184, rs_172, hd]
      refine inW_of ⟨by omega, by omega⟩ ?_
      simp only [WE, Nat.reduceLeDiff, segX, Nat.reduceBEq, Nat.reduceAdd, Nat.reduceEqDiff, Int.reduceNeg, Int.reduceEq, Int.reduceBEq, Int.reduceLT, Int.reduceLE, Int.reduceBNe, Int.reduceToNat, Nat.reduceMul, Nat.reduceMod, Int.reducePow, reduceIte, ty_3, ty_133, ty_183, fo_23_0, fo_23_1, fo_23_2, fo_23_3, fo_23_4, fo_23_5, fo_23_6, el_183, el_184, tz_183, bd_133, bd_183, bl_184, Tryz.underlying184, rs_172, hd, Int.toNat_natCast, hseg]
      refine Sd_seq ?_
      refine Sd_regionYk (o := ?o) 5 ?h1 ?h2 ?h3 ?h4
      case h1 => exact rfl
      case h2 => kernel_rfl
      case h3 => exact rfl
      dsimp only [List.take, List.drop]
      simp only [WE, Nat.reduceLeDiff, segX, Nat.reduceBEq, Nat.reduceAdd, Nat.reduceEqDiff, Int.reduceNeg, Int.reduceEq, Int.reduceBEq, Int.reduceLT, Int.reduceLE, Int.reduceBNe, Int.reduceToNat, Nat.reduceMul, Nat.reduceMod, Int.reducePow, reduceIte, ty_3, ty_133, ty_183, fo_23_0, fo_23_1, fo_23_2, fo_23_3, fo_23_4, fo_23_5, fo_23_6, el_183, el_184, tz_183, bd_133, bd_183, bl_184, Tryz.underlying184, rs_172, hd]
      refine inW_of ⟨by decide, by decide⟩ ?_
      simp only [WE, Nat.reduceLeDiff, segX, Nat.reduceBEq, Nat.reduceAdd, Nat.reduceEqDiff, Int.reduceNeg, Int.reduceEq, Int.reduceBEq, Int.reduceLT, Int.reduceLE, Int.reduceBNe, Int.reduceToNat, Nat.reduceMul, Nat.reduceMod, Int.reducePow, reduceIte, ty_3, ty_133, ty_183, fo_23_0, fo_23_1, fo_23_2, fo_23_3, fo_23_4, fo_23_5, fo_23_6, el_183, el_184, tz_183, bd_133, bd_183, bl_184, Tryz.underlying184, rs_172]
      refine inW_of ⟨by decide, by decide⟩ ?_
      simp only [WE, Nat.reduceLeDiff, segX, Nat.reduceBEq, Nat.reduceAdd, Nat.reduceEqDiff, Int.reduceNeg, Int.reduceEq, Int.reduceBEq, Int.reduceLT, Int.reduceLE, Int.reduceBNe, Int.reduceToNat, Nat.reduceMul, Nat.reduceMod, Int.reducePow, reduceIte, ty_3, ty_133, ty_183, fo_23_0, fo_23_1, fo_23_2, fo_23_3, fo_23_4, fo_23_5, fo_23_6, el_183, el_184, tz_183, bd_133, bd_183, bl_184, Tryz.underlying184, rs_172]
      refine yW_of (l := ?l) (vs := ?vs) ?e1 ?e2 ?e3
      case e1 => exact rfl
      case e2 => exact rfl
      refine GenY.mono (hY i hlt _ _ _) ?_
      rintro v S' ⟨rfl, rfl⟩
      cases hb : (⟨c0, c1, c2, c3, c4, c5, c6⟩ : Cf).at_ i
      · have hko : (⟨c0, c1, c2, c3, c4, c5, c6⟩ : Cf).ok = false := by
          cases hq : (⟨c0, c1, c2, c3, c4, c5, c6⟩ : Cf).ok with
          | false => rfl
          | true =>
            have := List.all_eq_true.1 hq i (List.mem_range.2 hlt)
            rw [hb] at this; cases this
        simp only [WE, Nat.reduceLeDiff, segX, Nat.reduceBEq, Nat.reduceAdd, Nat.reduceEqDiff, Int.reduceNeg, Int.reduceEq, Int.reduceBEq, Int.reduceLT, Int.reduceLE, Int.reduceBNe, Int.reduceToNat, Nat.reduceMul, Nat.reduceMod, Int.reducePow, reduceIte, ty_3, ty_133, ty_183, fo_23_0, fo_23_1, fo_23_2, fo_23_3, fo_23_4, fo_23_5, fo_23_6, el_183, el_184, tz_183, bd_133, bd_183, bl_184, Tryz.underlying184, rs_172, hb]
        refine Sd_of_cW (by kernel_rfl) ?_
        simp only [WE, Nat.reduceLeDiff, segX, Nat.reduceBEq, Nat.reduceAdd, Nat.reduceEqDiff, Int.reduceNeg, Int.reduceEq, Int.reduceBEq, Int.reduceLT, Int.reduceLE, Int.reduceBNe, Int.reduceToNat, Nat.reduceMul, Nat.reduceMod, Int.reducePow, reduceIte, ty_3, ty_133, ty_183, fo_23_0, fo_23_1, fo_23_2, fo_23_3, fo_23_4, fo_23_5, fo_23_6, el_183, el_184, tz_183, bd_133, bd_183, bl_184, Tryz.underlying184, rs_172, hb]
        simp only [hko, cond_false, k0, k2, hp.1, hp.2, Bool.and_self]
        exact ⟨.inr trivial, _, _, rfl, q2⟩
      · simp only [WE, Nat.reduceLeDiff, segX, Nat.reduceBEq, Nat.reduceAdd, Nat.reduceEqDiff, Int.reduceNeg, Int.reduceEq, Int.reduceBEq, Int.reduceLT, Int.reduceLE, Int.reduceBNe, Int.reduceToNat, Nat.reduceMul, Nat.reduceMod, Int.reducePow, reduceIte, ty_3, ty_133, ty_183, fo_23_0, fo_23_1, fo_23_2, fo_23_3, fo_23_4, fo_23_5, fo_23_6, el_183, el_184, tz_183, bd_133, bd_183, bl_184, Tryz.underlying184, rs_172, hb]
        refine Sd_of_cW (by kernel_rfl) ?_
        simp only [WE, Nat.reduceLeDiff, segX, Nat.reduceBEq, Nat.reduceAdd, Nat.reduceEqDiff, Int.reduceNeg, Int.reduceEq, Int.reduceBEq, Int.reduceLT, Int.reduceLE, Int.reduceBNe, Int.reduceToNat, Nat.reduceMul, Nat.reduceMod, Int.reducePow, reduceIte, ty_3, ty_133, ty_183, fo_23_0, fo_23_1, fo_23_2, fo_23_3, fo_23_4, fo_23_5, fo_23_6, el_183, el_184, tz_183, bd_133, bd_183, bl_184, Tryz.underlying184, rs_172, hb]
        refine Sd_of_cW (by kernel_rfl) ?_
        simp only [WE, Nat.reduceLeDiff, segX, Nat.reduceBEq, Nat.reduceAdd, Nat.reduceEqDiff, Int.reduceNeg, Int.reduceEq, Int.reduceBEq, Int.reduceLT, Int.reduceLE, Int.reduceBNe, Int.reduceToNat, Nat.reduceMul, Nat.reduceMod, Int.reducePow, reduceIte, ty_3, ty_133, ty_183, fo_23_0, fo_23_1, fo_23_2, fo_23_3, fo_23_4, fo_23_5, fo_23_6, el_183, el_184, tz_183, bd_133, bd_183, bl_184, Tryz.underlying184, rs_172, hw]
        intro s' a' w' hr
        refine ⟨i + 1, s', Wk.rep' (by show 4 ≤ 5; omega) ?_ hr, ⟨by omega, fun j hj => ?_⟩, by omega⟩
        · exact Wk_of' ⟨⟨rfl, rfl⟩, ⟨rfl, rfl⟩, ⟨rfl, rfl⟩, ⟨rfl, rfl⟩, trivial⟩ ⟨rfl, rfl, rfl, rfl, rfl, trivial⟩ hcl
        · by_cases hji : j = i
          · subst hji; exact hb
          · exact hall j (by omega)
  · rintro e s' S' a w' hr ⟨he, o4, r, hm, hxx, hcl⟩
    have main : a.defers = [] ∧ ∀ w1, Rely w' w1 → ∃ v, (results Tryz.f172 a.tmps).run Tryz.prog w1.w = .ok v w1.w ∧ EvIn w1 ((results Tryz.f172 a.tmps).events Tryz.prog w1.w #[]) ∧
        (Ending.returned v = .returned (.tuple #[]) ∧ Fr [s 0, s 1, s 2, s 3] w w1 ∧ Mem s [o0, bif (⟨c0, c1, c2, c3, c4, c5, c6⟩ : Cf).ok then o1 else p1, o2, bif (⟨c0, c1, c2, c3, c4, c5, c6⟩ : Cf).ok then o3 else p3] x w1) := by
      refine ⟨hr.df, fun w1 hrel => ?_⟩
      have hr1 := hr.rely hrel
      have hres : RunE Tryz.prog w1 (results Tryz.f172 a.tmps) (.tuple #[]) := resW_run (fn := Tryz.f172) hr1.sl hr1.mr ⟨[], rfl, by decide, rfl⟩
      refine ⟨.tuple #[], hres.1, hres.2, rfl, hr1.fr, ?_⟩
      have h1 := hr1.mr
      rw [hm, hxx] at h1
      exact h1.take (n := 4) (by simp) hcl fun k hk => by
        rcases hr1.own.at_ k (by rw [hm]; simp; omega) with ⟨b', g1, g2⟩ | ⟨g1, _⟩
        · rw [g2]
          match k, hk with
          | 0, _ => cases g1; rfl
          | 1, _ => cases g1; rfl
          | 2, _ => cases g1; rfl
          | 3, _ => cases g1; rfl
        · simp at g1; omega
    rcases he with rfl | rfl
    · exact main
    · exact main
end Go.Proofs.YtkokohkbhlnjkaaGreatDoor
namespace Go.Proofs.YtkokohkbhlnjkaaGreatDoor
set_option linter.unusedVariables false
set_option linter.unusedSimpArgs false
open Go Go.RowKit Go.Proofs.YtkokohkbhlnjkaaGreatDoor.R
set_option maxRecDepth 50000
set_option maxHeartbeats 4000000
theorem Wp_seqS {P : Program} {rn : Bool} {G : Ctx} {x y : Code} {QS : Exit → St → Prop} {Q : Exit → Act → WM → Prop} {s : Nat → Nat} {S : St} {a : Act} {w : WM} (hr : Rep G.bs G.w0 G.n G.ds s S a w) (h : Sd P G x QS S)
    (hk : ∀ e s S a w, Rep G.bs G.w0 G.n G.ds s S a w → QS e S → e = .normal ∧ Wp P rn y Q a w) : Wp P rn (.seq x y) Q a w := by
  refine Wp_seq (Wp.mono (h s a w hr).any ?_)
  rintro e a' w' ⟨s', S', h1, h2⟩
  obtain ⟨rfl, h3⟩ := hk e s' S' a' w' h1 h2
  exact h3
theorem guide_round {x : Nat → Obj → Prop} (c : Cf) (cfg : List RV) (i : Nat) (bs : List Nat) (l : Nat) (hl : bs[3]? = some l) (t : List (Nat × RV)) (o4 o5 : RO) (r : Loop) (hz : r.tmps.size = 21) (hp : r.params = #[7, 8]) (hst : r.state = .ready) (hpe : r.pending = none)
    (h1 : ∀ b, bs[0]? = some b → r.tmps.getD 1 undef = .pointer (some ⟨b, 0, none⟩)) (h2 : ∀ b, bs[1]? = some b → r.tmps.getD 2 undef = .pointer (some ⟨b, 0, none⟩)) (hb0 : ∃ b, bs[0]? = some b) (hb1 : ∃ b, bs[1]? = some b)
    (hcode : ∃ f k, Tryz.f50.body = some (.seq k (.seq (.seq f (.block 0 (.rangeFunc (.tmp 6) #[7, 8] r.assign r.body))) (.seq (.region 6 #[⟨none, .store 30 (.tmp 2) (.const (.int .i64 0)), 0, "guide.go:45", #[], none⟩] false) .ret)))) :
    GenY Tryz.prog bs ⟨t, [.cells 23 cfg, .cells 30 [.ext (.int .i64 0)], .obj (.deferred (some [])), .obj (.loop r), o4, o5], x⟩ l
      [.ext (.agg #[.int .i64 (c.num i), .int .i64 0]), .ext (.agg #[.int .i64 (c.lo i), .int .i64 (c.hi i)])]
      fun v S' => v = .ext (.bool (c.at_ i)) ∧ S' = ⟨t, [.cells 23 cfg, bif c.at_ i then .cells 30 [.ext (.int .i64 0)] else .cells 30 [.ext (.int .i64 210)], .obj (.deferred (some [])), bif c.at_ i then .obj (.loop r) else .obj (asLoop r .done (some .ret)), o4, o5], x⟩ := by
  refine genY_of (kL := 3) (t' := [(1, .ptr 0 0), (2, .ptr 1 0), (7, .ext (.agg #[.int .i64 (c.num i), .int .i64 0])), (8, .ext (.agg #[.int .i64 (c.lo i), .int .i64 (c.hi i)]))]) r rfl hl (by rw [hp]; rfl) ?_ ?_
  · intro s' hpin
    obtain ⟨b0, hb0⟩ := hb0
    obtain ⟨b1, hb1⟩ := hb1
    have e0 := hpin 0 b0 hb0
    have e1 := hpin 1 b1 hb1
    have f1 := h1 b0 hb0
    have f2 := h2 b1 hb1
    intro j v hj
    rw [hp]
    have hfold : ∀ u1 u2 : Value, ((#[7, 8] : Array Tmp).zip [u1, u2].toArray).foldl (fun tmps (x : Tmp × Value) => tmps.setIfInBounds x.1 x.2) r.tmps = (r.tmps.setIfInBounds 7 u1).setIfInBounds 8 u2 := fun u1 u2 => by simp
    simp only [List.map_cons, List.map_nil]
    rw [hfold]
    have s1 : ∀ u : Value, (r.tmps.setIfInBounds 7 u).size = 21 := fun u => by simp [hz]
    rw [getD_set (by rw [s1]; omega), getD_set (by rw [hz]; omega)]
    simp only [lk_cons, lk_nil] at hj
    by_cases j1 : j = 1
    · subst j1
      simp at hj
      subst hj
      exact ⟨by simp [f1, ren, e0], by simp [clo]⟩
    · by_cases j2 : j = 2
      · subst j2
        simp at hj
        subst hj
        exact ⟨by simp [f2, ren, e1], by simp [clo]⟩
      · by_cases j7 : j = 7
        · subst j7
          simp at hj
          subst hj
          exact ⟨by simp [ren], rfl⟩
        · by_cases j8 : j = 8
          · subst j8
            simp at hj
            subst hj
            exact ⟨by simp [ren], rfl⟩
          · simp [j1, j2, j7, j8] at hj
  · intro hcl bs0 w0
    rw [hz]
    obtain ⟨f, k, hcode⟩ := hcode
    have e := hcode
    simp only [Tryz.f50, Option.some.injEq, Code.seq.injEq, Code.block.injEq, Code.rangeFunc.injEq] at e
    obtain ⟨_, ⟨_, _, _, _, ea, eb⟩, _⟩ := e
    rw [← ea, ← eb]
    refine Sd_seq (Sd_of_cW (by kernel_rfl) ?_)
    simp only [WE, Nat.reduceLeDiff, segX, Nat.reduceBEq, Nat.reduceAdd, Nat.reduceEqDiff, Int.reduceNeg, Int.reduceEq, Int.reduceBEq, Int.reduceLT, Int.reduceLE, Int.reduceBNe, Int.reduceToNat, Nat.reduceMul, Nat.reduceMod, Int.reducePow, reduceIte, ty_3, ty_23, ty_30, ty_133, el_133, tz_30, tz_133, rs_50]
    refine Sd_of_cW (by kernel_rfl) ?_
    simp only [WE, Nat.reduceLeDiff, segX, Nat.reduceBEq, Nat.reduceAdd, Nat.reduceEqDiff, Int.reduceNeg, Int.reduceEq, Int.reduceBEq, Int.reduceLT, Int.reduceLE, Int.reduceBNe, Int.reduceToNat, Nat.reduceMul, Nat.reduceMod, Int.reducePow, reduceIte, ty_3, ty_23, ty_30, ty_133, el_133, tz_30, tz_133, rs_50]
    refine ⟨r, rfl, hst, ?_⟩
    refine Sd_of_cW (by kernel_rfl) ?_
    have cl : ∀ o ∈ [RO.cells 23 cfg, o4, o5], cloO 6 o = true := fun o ho => List.all_eq_true.1 hcl o (by
      simp only [List.mem_cons, List.not_mem_nil, or_false] at ho ⊢
      rcases ho with rfl | rfl | rfl <;> simp)
    have c0 := cl _ (by simp : RO.cells 23 cfg ∈ _)
    have c4 := cl o4 (by simp)
    have c5 := cl o5 (by simp)
    have hreq : asLoop { r with state := .busy } .ready none = .loop r := by
      obtain ⟨st, pe, _, _, _, _, _, _⟩ := r
      simp only at hst hpe
      subst hst; subst hpe; rfl
    cases d1 : decide (c.num i < c.lo i)
    · cases d2 : decide (c.hi i < c.num i)
      · have hat : c.at_ i = true := by simp only [Cf.at_, d1, d2]; rfl
        repeat' (first | (with_reducible refine inW_of ⟨by decide, by decide⟩ ?_) | (with_reducible refine ifB_intro (fun _ => ?_) (fun _ => ?_)) | ((with_reducible show callW _ _ _ (some (107, _)) _ _); refine callP g_guide_bounds rfl (c_guide_bounds ..) ?_) | ((fail_if_success (with_reducible refine stk ?_)); simp only [WE, Nat.reduceLeDiff, segX, Nat.reduceBEq, Nat.reduceAdd, Nat.reduceEqDiff, Int.reduceNeg, Int.reduceEq, Int.reduceBEq, Int.reduceLT, Int.reduceLE, Int.reduceBNe, Int.reduceToNat, Nat.reduceMul, Nat.reduceMod, Int.reducePow, reduceIte, ty_3, ty_23, ty_30, ty_133, el_133, tz_30, tz_133, rs_50, d1, d2, appX_nil]))
        refine ⟨_, rfl, Nat.le_of_ble_eq_true rfl, Nat.le_of_ble_eq_true rfl, ?_, ?_, ?_⟩
        · show (cloO 6 _ && (true && (true && (true && (cloO 6 o4 && (cloO 6 o5 && true)))))) = true
          rw [c0, c4, c5]; rfl
        · rw [hat]; rfl
        · rw [hat]
          simp only [cond_true]
          rw [← hreq]
          rfl
      · have hat : c.at_ i = false := by simp only [Cf.at_, d1, d2]; rfl
        repeat' (first | (with_reducible refine inW_of ⟨by decide, by decide⟩ ?_) | (with_reducible refine ifB_intro (fun _ => ?_) (fun _ => ?_)) | ((with_reducible show callW _ _ _ (some (107, _)) _ _); refine callP g_guide_bounds rfl (c_guide_bounds ..) ?_) | ((fail_if_success (with_reducible refine stk ?_)); simp only [WE, Nat.reduceLeDiff, segX, Nat.reduceBEq, Nat.reduceAdd, Nat.reduceEqDiff, Int.reduceNeg, Int.reduceEq, Int.reduceBEq, Int.reduceLT, Int.reduceLE, Int.reduceBNe, Int.reduceToNat, Nat.reduceMul, Nat.reduceMod, Int.reducePow, reduceIte, ty_3, ty_23, ty_30, ty_133, el_133, tz_30, tz_133, rs_50, d1, d2, appX_nil]))
        refine ⟨_, rfl, Nat.le_of_ble_eq_true rfl, Nat.le_of_ble_eq_true rfl, ?_, ?_, ?_⟩
        · show (cloO 6 _ && (true && (true && (true && (cloO 6 o4 && (cloO 6 o5 && true)))))) = true
          rw [c0, c4, c5]; rfl
        · rw [hat]; rfl
        · rw [hat]; rfl
    · have hat : c.at_ i = false := by simp only [Cf.at_, d1]; rfl
      repeat' (first | (with_reducible refine inW_of ⟨by decide, by decide⟩ ?_) | (with_reducible refine ifB_intro (fun _ => ?_) (fun _ => ?_)) | ((with_reducible show callW _ _ _ (some (107, _)) _ _); refine callP g_guide_bounds rfl (c_guide_bounds ..) ?_) | ((fail_if_success (with_reducible refine stk ?_)); simp only [WE, Nat.reduceLeDiff, segX, Nat.reduceBEq, Nat.reduceAdd, Nat.reduceEqDiff, Int.reduceNeg, Int.reduceEq, Int.reduceBEq, Int.reduceLT, Int.reduceLE, Int.reduceBNe, Int.reduceToNat, Nat.reduceMul, Nat.reduceMod, Int.reducePow, reduceIte, ty_3, ty_23, ty_30, ty_133, el_133, tz_30, tz_133, rs_50, d1, appX_nil]))
      refine ⟨_, rfl, Nat.le_of_ble_eq_true rfl, Nat.le_of_ble_eq_true rfl, ?_, ?_, ?_⟩
      · show (cloO 6 _ && (true && (true && (true && (cloO 6 o4 && (cloO 6 o5 && true)))))) = true
        rw [c0, c4, c5]; rfl
      · rw [hat]; rfl
      · rw [hat]; rfl
theorem guide_end {w0 : WM} {s : Nat → Nat} {a : Act} {w : WM} {t : List (Nat × RV)} {x : Nat → Obj → Prop} {r0 : Nat} {cfg : List RV} {v : Int} {o3 : RO}
    (hr : Rep [] w0 21 [R.mark r0] s ⟨t, [.cells 23 cfg, .cells 30 [.ext (.int .i64 v)], .obj (.deferred (some [])), o3], x⟩ a w) (h2 : lk t 2 = some (.ptr 1 0)) (hs : s 2 = r0) :
    R.bodyPostD Tryz.prog Tryz.f50 (fun e (w' : WM) => e = .returned (.int .i64 v) ∧ Fr [] w0 w' ∧ NewOk w') .ret a w := by
  refine .inr ⟨r0, hr.df, fun w1 hrel => ?_⟩
  have hr1 := hr.rely hrel
  have k1 := hr1.mr.mem 2 _ rfl
  simp only [renO, hs] at k1
  have k2 := hr1.mr.mine 2 (Nat.le_of_ble_eq_true rfl)
  rw [hs] at k2
  have hset := hr1.set (k := 2) (o := .obj (.deferred none)) (v := { w1.w with heap := w1.heap.setIfInBounds r0 (.deferred none) }) (Nat.le_of_ble_eq_true rfl) rfl (by simp) (fun j => by
    rw [hs]; simp only [renO]; exact set_heap (w := w1.w) (Array.getElem?_eq_some_iff.1 k1).1 j) rfl rfl rfl
  refine ⟨k1, k2, fun w2 hrel2 => ?_⟩
  have hr2 : Rep [] w0 21 [R.mark r0] s ⟨t, [.cells 23 cfg, .cells 30 [.ext (.int .i64 v)], .obj (.deferred none), o3], x⟩ a w2 := Rep.rely (w := w1.put r0 (.deferred none)) hset hrel2
  have hres : RunE Tryz.prog w2 (results Tryz.f50 a.tmps) (.int .i64 v) := by
    refine resW_run (fn := Tryz.f50) hr2.sl hr2.mr ?_
    show resL _ _ [ResultVar.cell 2 30] _
    simp only [resL_cons, resL_nil, res1_cell, h2, WE, Nat.reduceLeDiff, segX, Nat.reduceBEq, Nat.reduceAdd, Nat.reduceEqDiff, Int.reduceNeg, Int.reduceEq, Int.reduceBEq, Int.reduceLT, Int.reduceLE, Int.reduceBNe, Int.reduceToNat, Nat.reduceMul, Nat.reduceMod, Int.reducePow, reduceIte, ty_3, ty_23, ty_30, ty_133, el_133, tz_30, tz_133, rs_50]
  exact ⟨.int .i64 v, hres.1, hres.2, rfl, hr2.fr, hr2.mr.new⟩
def Cf.v (c : Cf) : Value := .agg #[.int .i64 c.seg, .int .i64 c.max, .int .i64 c.first, .int .i64 c.grain, .int .i64 c.least, .int .i64 c.great, .int .i64 c.burst]
def Cf.err (c : Cf) : Int := bif c.ok then 0 else 210
theorem pinned {P : Program} {rn : Bool} {w0 : WM} {n : Nat} {ds : List Deferred} {s : Nat → Nat} {S : St} {a : Act} {w : WM} {code : Code} {QS : Exit → St → Prop} {Q : Exit → Act → WM → Prop} (hr : Rep [] w0 n ds s S a w)
    (h : Sd P ⟨(List.range S.m.length).map s, w, n, ds⟩ code QS S)
    (hk : ∀ e s' S' a' w', Rep [] w0 n ds s' S' a' w' → (∀ k, k < S.m.length → s' k = s k) → QS e S' → Q e a' w') (hl : ∀ e S', QS e S' → S'.m.length = S.m.length) : Wp P rn code Q a w := by
  have hrep : Rep ((List.range S.m.length).map s) w n ds s S a w :=
    ⟨hr.mr, ⟨by simp, fun k hk => .inl ⟨s k, by rw [List.getElem?_map, List.getElem?_range hk]; rfl, rfl⟩⟩, Fr.refl _ _, hr.size, hr.slot, hr.df⟩
  refine Wp.mono (h s a w hrep).any ?_
  rintro e a' w' ⟨s', S', h1, h2⟩
  have hlen := hl e S' h2
  have pin : ∀ k, k < S.m.length → s' k = s k := fun k hk => by
    rcases h1.own.at_ k (by rw [hlen]; exact hk) with ⟨b, g1, g2⟩ | ⟨g1, _⟩
    · simp [hk] at g1
      rw [g2, ← g1]
    · simp at g1; omega
  have hc := hr.call (S' := ⟨S.t, S'.m, S'.x⟩) rfl hlen (by
    have := h1.mr.take (s' := s) (n := S.m.length) (by rw [hlen]; exact Nat.le_refl _) (by
      rw [List.take_of_length_le (by omega)]
      exact List.all_eq_true.2 fun o ho => by
        obtain ⟨k, hk⟩ := List.getElem?_of_mem ho
        have := h1.mr.cm k o hk
        rwa [hlen] at this) fun k hk => (pin k hk).symm
    rwa [List.take_of_length_le (by omega)] at this) h1.fr
  exact hk e s' S' a' w' ⟨h1.mr, .none fun k hk => by
    rw [pin k (by rw [← hlen]; exact hk)]
    exact (hr.own.mem (by rw [← hlen]; exact hk)).resolve_left (by simp), hc.fr, h1.size, h1.slot, h1.df⟩ pin h2
theorem guide_loop {x : Nat → Obj → Prop} (c : Cf) (as_ bd : Code)
    (hcode : ∃ f k, Tryz.f50.body = some (.seq k (.seq (.seq f (.block 0 (.rangeFunc (.tmp 6) #[7, 8] as_ bd))) (.seq (.region 6 #[⟨none, .store 30 (.tmp 2) (.const (.int .i64 0)), 0, "guide.go:45", #[], none⟩] false) .ret))))
    {w0 w : WM} {s : Nat → Nat} {a : Act} {b : Nat} (fn : FuncId) {t : List (Nat × RV)} (hr : Rep [] w0 21 [] s ⟨t, [.cells 23 (c.cells.map .ext), .cells 30 [.ext (.int .i64 0)]], x⟩ a w)
    (ht1 : lk t 1 = some (.ptr 0 0)) (ht2 : lk t 2 = some (.ptr 1 0)) (hxb : x b (.cells c.cells.toArray 23 (0, 0))) {Q : Exit → Act → WM → Prop}
    (hn : c.ok = true → ∀ s' a' w' o3, Rep [] w0 21 [R.mark w.heap.size] s' ⟨t, [.cells 23 (c.cells.map .ext), .cells 30 [.ext (.int .i64 0)], .obj (.deferred (some [])), o3], x⟩ a' w' → s' 2 = w.heap.size → Q .normal a' w')
    (hb : c.ok = false → ∀ s' a' w' o3, Rep [] w0 21 [R.mark w.heap.size] s' ⟨t, [.cells 23 (c.cells.map .ext), .cells 30 [.ext (.int .i64 210)], .obj (.deferred (some [])), o3], x⟩ a' w' → s' 2 = w.heap.size → Q .ret a' w') :
    R.Calls Tryz.prog 172 (#[] ++ #[.func (.yield (w.heap.size + 1)) #[] #[]] ++ #[.pointer (some ⟨b, 0, none⟩)]) (loopW w fn a #[7, 8] as_ bd) fun e w3 => ∃ v, e = .returned v ∧ ∀ w4, Rely w3 w4 → ∃ r, w4.heap[w.heap.size + 1]? = some (.loop r) ∧ w4.M (w.heap.size + 1) ∧ r.state ≠ .busy ∧
      ((r.pending = none ∧ Q .normal { a with defers := R.mark w.heap.size :: a.defers } (w4.put (w.heap.size + 1) (asLoop r .exhausted r.pending))) ∨
       (r.pending = some .ret ∧ Q .ret { a with defers := R.mark w.heap.size :: a.defers } (w4.put (w.heap.size + 1) (asLoop r .exhausted r.pending)))) := by
  let r : Loop := { state := .ready, pending := none, fn, tmps := a.tmps, params := #[7, 8], assign := as_, body := bd, defers := w.heap.size }
  have hal := hr.alloc (.obj (.deferred (some []))) rfl
  have hal2 := hal.alloc (.obj (.loop r)) rfl
  simp only [renO, List.cons_append, List.nil_append, List.length_cons, List.length_nil, Nat.zero_add, Nat.reduceAdd, List.length_append] at hal2
  generalize hs2 : (fun k => if k = 3 then (w.to (w.w.alloc (.deferred (some [])))).heap.size else if k = 2 then w.heap.size else s k) = s2 at hal2
  have e0 : s2 0 = s 0 := by rw [← hs2]; rfl
  have e1 : s2 1 = s 1 := by rw [← hs2]; rfl
  have e2 : s2 2 = w.heap.size := by rw [← hs2]; rfl
  have e3 : s2 3 = w.heap.size + 1 := by rw [← hs2]; show (w.w.alloc _).heap.size = _; rw [World.size_alloc]
  have f1 := (hr.slot 1 _ ht1).1
  have f2 := (hr.slot 2 _ ht2).1
  simp only [ren] at f1 f2
  have hcalls := c_guide_bounds1 (x := x) c.seg c.max c.first c.grain c.least c.great c.burst b hxb s2 _ _ _ _ _ (.cells 30 [.ext (.int .i64 210)]) (.obj (asLoop r .done (some .ret))) hal2.mr ⟨rfl, rfl⟩
    (fun i hi t' o4 o5 => (guide_round c (c.cells.map .ext) i [s2 0, s2 1, s2 2, s2 3] (s2 3) rfl t' o4 o5 r hr.size rfl rfl rfl (fun b hb => by cases hb; rw [e0]; exact f1) (fun b hb => by cases hb; rw [e1]; exact f2) ⟨_, rfl⟩ ⟨_, rfl⟩ hcode))
  rw [e3] at hcalls
  refine R.Calls.mono hcalls ?_
  rintro e w3 ⟨rfl, hf, hm⟩
  rw [← e3] at hf
  refine ⟨_, rfl, fun w4 hrel => ?_⟩
  change Mem s2 [_, bif c.ok then _ else _, _, bif c.ok then _ else _] x w3 at hm
  cases hok : c.ok with
  | true =>
    rw [hok] at hm
    have hm' : Mem s2 [.cells 23 (c.cells.map .ext), .cells 30 [.ext (.int .i64 0)], .obj (.deferred (some [])), .obj (.loop r)] x w3 := hm
    have hr3 : Rep [] w0 21 [] s2 ⟨t, [.cells 23 (c.cells.map .ext), .cells 30 [.ext (.int .i64 0)], .obj (.deferred (some [])), .obj (.loop r)], x⟩ a w3 := Rep.call (S' := ⟨t, _, x⟩) hal2 rfl rfl hm' hf
    obtain ⟨k1, k2, k3⟩ := rep_loop (kL := 3) (r' := { r with state := .exhausted, pending := none }) (hr3.rely hrel) rfl e3
    refine ⟨r, k1, k2, by simp [r], .inl ⟨rfl, hn hok s2 _ _ _ ⟨k3.mr, k3.own, k3.fr, k3.size, k3.slot, ?_⟩ e2⟩⟩
    show _ :: a.defers = _
    rw [hr.df]
  | false =>
    rw [hok] at hm
    have hm' : Mem s2 [.cells 23 (c.cells.map .ext), .cells 30 [.ext (.int .i64 210)], .obj (.deferred (some [])), .obj (asLoop r .done (some .ret))] x w3 := hm
    have hr3 : Rep [] w0 21 [] s2 ⟨t, [.cells 23 (c.cells.map .ext), .cells 30 [.ext (.int .i64 210)], .obj (.deferred (some [])), .obj (asLoop r .done (some .ret))], x⟩ a w3 := Rep.call (S' := ⟨t, _, x⟩) hal2 rfl rfl hm' hf
    obtain ⟨k1, k2, k3⟩ := rep_loop (kL := 3) (r := { r with state := .done, pending := some .ret }) (r' := { r with state := .exhausted, pending := some .ret }) (hr3.rely hrel) rfl e3
    refine ⟨{ r with state := .done, pending := some .ret }, k1, k2, by simp, .inr ⟨rfl, hb hok s2 _ _ _ ⟨k3.mr, k3.own, k3.fr, k3.size, k3.slot, ?_⟩ e2⟩⟩
    show _ :: a.defers = _
    rw [hr.df]
theorem c_guide_Check {x : Nat → Obj → Prop} (c : Cf) : PureC Tryz.prog x 50 [c.v] (.int .i64 c.err) := by
  refine ⟨fun w hx hwf => ?_⟩
  refine calls_of_WpD Tryz.func50 rfl ?_
  have hr0 := rep_start (w := w) (n := 21) (args := [.ext c.v]) (s := fun _ => 0) (m := []) (x := x) (bs := []) (Nat.le_of_ble_eq_true rfl)
    ⟨fun k o hk => by simp at hk, fun j k hj => by simp at hj, fun k o hk => by simp at hk, fun b o hb => (hx b o hb).1, fun b o _ k hk => by simp at hk, fun k hk => by simp at hk, fun b o hb => (hx b o hb).2, hwf⟩ (.none fun k hk => by simp at hk) (by simp [clo])
  refine Wp_seqS (G := ⟨[], w, 21, []⟩) (QS := fun e S' => e = .normal ∧ S'.m = [.cells 23 (c.cells.map .ext), .cells 30 [.ext (.int .i64 0)]] ∧ S'.x = x ∧ lk S'.t 1 = some (.ptr 0 0) ∧ lk S'.t 2 = some (.ptr 1 0)) hr0 ?_ ?_
  · refine Sd_of_cW (by kernel_rfl) ?_
    unfold Cf.v Cf.cells
    simp only [WE, Nat.reduceLeDiff, segX, Nat.reduceBEq, Nat.reduceAdd, Nat.reduceEqDiff, Int.reduceNeg, Int.reduceEq, Int.reduceBEq, Int.reduceLT, Int.reduceLE, Int.reduceBNe, Int.reduceToNat, Nat.reduceMul, Nat.reduceMod, Int.reducePow, reduceIte, ty_3, ty_23, ty_30, ty_133, el_133, tz_30, tz_133, rs_50]
  rintro e s1 ⟨t1, m1, x1⟩ a1 w1 hr1 ⟨rfl, hm, hxx, ht1, ht2⟩
  refine ⟨rfl, ?_⟩
  simp only at hm hxx ht1 ht2
  subst hm; subst hxx
  have hr1' : Rep [] w 21 [] s1 ⟨[(1, .ptr 0 0), (2, .ptr 1 0)], [.cells 23 (c.cells.map .ext), .cells 30 [.ext (.int .i64 0)]], x1⟩ a1 w1 :=
    by
      refine Wk.rep' (Nat.zero_le _) ?_ hr1
      exact Wk_of' ⟨⟨ht1, rfl⟩, ⟨ht2, rfl⟩, trivial⟩ ⟨rfl, rfl, trivial⟩ rfl
  refine Wp_seq ?_
  refine Wp_seqS (G := ⟨[], w, 21, []⟩) (QS := fun e S' => e = .normal ∧ S'.m = [.cells 23 (c.cells.map .ext), .cells 30 [.ext (.int .i64 0)]] ∧ ∃ b, xsub x1 S'.x ∧ S'.x b (.cells c.cells.toArray 23 (0, 0)) ∧
    lk S'.t 1 = some (.ptr 0 0) ∧ lk S'.t 2 = some (.ptr 1 0) ∧ lk S'.t 6 = some (.ext (.func (.func 172) #[] #[.pointer (some ⟨b, 0, none⟩)]))) hr1' ?_ ?_
  · refine Sd_of_cW (by kernel_rfl) ?_
    unfold Cf.cells
    repeat' (first | (((with_reducible show callW _ _ _ (some (107, _)) _ _); refine callR g_guide_bounds rfl (c_guide_bounds ..) ?_; intro s' x' hs1 hs2)) | (with_reducible refine ifB_intro (fun _ => ?_) (fun _ => ?_)) | ((with_reducible show callW _ _ _ (some (107, _)) _ _); refine callP g_guide_bounds rfl (c_guide_bounds ..) ?_) | ((fail_if_success (with_reducible refine stk ?_)); simp only [WE, Nat.reduceLeDiff, segX, Nat.reduceBEq, Nat.reduceAdd, Nat.reduceEqDiff, Int.reduceNeg, Int.reduceEq, Int.reduceBEq, Int.reduceLT, Int.reduceLE, Int.reduceBNe, Int.reduceToNat, Nat.reduceMul, Nat.reduceMod, Int.reducePow, reduceIte, ty_3, ty_23, ty_30, ty_133, el_133, tz_30, tz_133, rs_50, appX_nil]))
    exact ⟨s' 0, hs1, hs2 0 _ rfl, rfl⟩
  rintro e s2 ⟨t2, m2, x2⟩ a2 w2 hr2 ⟨rfl, hm, b, hxs, hxb, ht1, ht2, ht6⟩
  refine ⟨rfl, ?_⟩
  simp only at hm hxs hxb ht1 ht2 ht6
  subst hm
  have hev : a2.eval (.tmp 6) = .func (.func 172) #[] #[.pointer (some ⟨b, 0, none⟩)] := (hr2.slot 6 _ ht6).1
  refine Wp_block (Wp_rangeFunc hev (fun args v => g_guide_bounds_1 args v) fun fn w3 hrel => ?_)
  refine guide_loop c _ _ ⟨_, _, rfl⟩ fn (hr2.rely hrel) ht1 ht2 hxb ?_ ?_
  · intro hok s' a' w' o3 hr hs
    refine pinned (QS := fun e S' => e = .ret ∧ ∃ o3, S'.m = [.cells 23 (c.cells.map .ext), .cells 30 [.ext (.int .i64 0)], .obj (.deferred (some [])), o3] ∧ lk S'.t 2 = some (.ptr 1 0)) hr ?_ ?_ ?_
    · refine Sd_of_cW (by kernel_rfl) ?_
      simp only [WE, Nat.reduceLeDiff, segX, Nat.reduceBEq, Nat.reduceAdd, Nat.reduceEqDiff, Int.reduceNeg, Int.reduceEq, Int.reduceBEq, Int.reduceLT, Int.reduceLE, Int.reduceBNe, Int.reduceToNat, Nat.reduceMul, Nat.reduceMod, Int.reducePow, reduceIte, ty_3, ty_23, ty_30, ty_133, el_133, tz_30, tz_133, rs_50, ht2]
      exact ⟨o3, rfl⟩
    · rintro e s4 ⟨t4, m4, x4⟩ a4 w4 hr4 hpin ⟨rfl, o4, hm4, ht4⟩
      simp only at hm4 ht4
      subst hm4
      have := guide_end hr4 ht4 ((hpin 2 (Nat.le_of_ble_eq_true rfl)).trans hs)
      rw [show (0 : Int) = c.err by unfold Cf.err; rw [hok]; rfl] at this
      exact this
    · rintro e S' ⟨_, o4, hm4, _⟩
      rw [hm4]; rfl
  · intro hok s' a' w' o3 hr hs
    have := guide_end hr ht2 hs
    rw [show (210 : Int) = c.err by unfold Cf.err; rw [hok]; rfl] at this
    exact this
end Go.Proofs.YtkokohkbhlnjkaaGreatDoor
#print axioms Go.Proofs.YtkokohkbhlnjkaaGreatDoor.c_guide_Check
namespace Go.Proofs.YtkokohkbhlnjkaaGreatDoor
set_option linter.unusedVariables false
set_option linter.unusedSimpArgs false
open Go Go.RowKit Go.Proofs.YtkokohkbhlnjkaaGreatDoor.R
set_option maxRecDepth 50000
set_option maxHeartbeats 1000000
structure CfIn (c : Cf) : Prop where
  seg : 1 ≤ c.seg ∧ c.seg ≤ 9000
  max : 4 ≤ c.max ∧ c.max ≤ 1048576
  first : 2 ≤ c.first ∧ c.first ≤ c.max
  grain : 1 ≤ c.grain ∧ c.grain ≤ 1000000
  least : 1 ≤ c.least ∧ c.least ≤ c.great
  great : 1 ≤ c.great ∧ c.great ≤ 1099511627776
  burst : 1 ≤ c.burst ∧ c.burst ≤ 1000
theorem Cf.at_iff (c : Cf) (i : Nat) : c.at_ i = true ↔ c.lo i ≤ c.num i ∧ c.num i ≤ c.hi i := by
  unfold Cf.at_
  by_cases h : c.num i < c.lo i
  · simp [h]; omega
  · simp [h]; omega
theorem Cf.ok_iff (c : Cf) : c.ok = true ↔ CfIn c := by
  constructor
  · intro h
    have k := fun i (hi : i < 7) => (c.at_iff i).1 (List.all_eq_true.1 h i (List.mem_range.2 hi))
    exact ⟨k 0 (by decide), k 1 (by decide), k 2 (by decide), k 3 (by decide), k 4 (by decide), k 5 (by decide), k 6 (by decide)⟩
  · rintro ⟨h0, h1, h2, h3, h4, h5, h6⟩
    refine List.all_eq_true.2 fun i hi => (c.at_iff i).2 ?_
    have hi := List.mem_range.1 hi
    have hc : i = 0 ∨ i = 1 ∨ i = 2 ∨ i = 3 ∨ i = 4 ∨ i = 5 ∨ i = 6 := by omega
    rcases hc with rfl | rfl | rfl | rfl | rfl | rfl | rfl <;> assumption
instance (c : Cf) : Decidable (CfIn c) := decidable_of_iff _ c.ok_iff
def cfFirst (c : Cf) : Int := if CfIn c then c.first * 65536 else 131072
theorem c_guide_First {x : Nat → Obj → Prop} (c : Cf) : PureC Tryz.prog x 51 [c.v] (.int .i64 (cfFirst c)) := by
  have hk := c_guide_Check (x := x) c
  unfold cfFirst
  cases ho : c.ok with
  | true =>
    have hin := c.ok_iff.1 ho
    rw [if_pos hin]
    have he : c.err = 0 := by unfold Cf.err; rw [ho]; rfl
    rw [he] at hk
    have h1 := hin.max
    have h2 := hin.first
    have hw : wr .i64 (c.first * 65536) = c.first * 65536 := wr_i64 (by omega) (by omega)
    unfold Cf.v at hk ⊢
    refine pureC_of_Sd Tryz.func51 rfl rfl fun w => ?_
    refine Sd_of_cW (by kernel_rfl) ?_
    repeat' (first | (with_reducible refine ifB_intro (fun _ => ?_) (fun _ => ?_)) | ((with_reducible show callW _ _ _ (some (50, _)) _ _); refine callP g_guide_Check rfl (hk) ?_) | ((fail_if_success (with_reducible refine stk ?_)); simp only [WE, Nat.reduceLeDiff, segX, Nat.reduceBEq, Nat.reduceAdd, Nat.reduceEqDiff, Int.reduceNeg, Int.reduceEq, Int.reduceBEq, Int.reduceLT, Int.reduceLE, Int.reduceBNe, Int.reduceToNat, Nat.reduceMul, Nat.reduceMod, Int.reducePow, reduceIte, ty_3, ty_23, fo_23_2, Tryz.underlying30, rs_51, hw]))
  | false =>
    rw [if_neg (fun h => by rw [c.ok_iff.2 h] at ho; cases ho)]
    have he : c.err = 210 := by unfold Cf.err; rw [ho]; rfl
    rw [he] at hk
    unfold Cf.v at hk ⊢
    refine pureC_of_Sd Tryz.func51 rfl rfl fun w => ?_
    refine Sd_of_cW (by kernel_rfl) ?_
    repeat' (first | (with_reducible refine ifB_intro (fun _ => ?_) (fun _ => ?_)) | ((with_reducible show callW _ _ _ (some (50, _)) _ _); refine callP g_guide_Check rfl (hk) ?_) | ((fail_if_success (with_reducible refine stk ?_)); simp only [WE, Nat.reduceLeDiff, segX, Nat.reduceBEq, Nat.reduceAdd, Nat.reduceEqDiff, Int.reduceNeg, Int.reduceEq, Int.reduceBEq, Int.reduceLT, Int.reduceLE, Int.reduceBNe, Int.reduceToNat, Nat.reduceMul, Nat.reduceMod, Int.reducePow, reduceIte, ty_3, ty_23, fo_23_2, Tryz.underlying30, rs_51, appX_nil]))
def idleOf (window last now timeout : Int) (c : Cf) : Int := if sat (now - last) ≤ timeout then window else mx (mn window (cfFirst c)) 131072
theorem c_guide_Idle {x : Nat → Obj → Prop} (window last now timeout : Int) (c : Cf) (hl : in64 last) (hn : in64 now) :
    PureC Tryz.prog x 122 [.int .i64 window, .int .i64 last, .int .i64 now, .int .i64 timeout, c.v] (.int .i64 (idleOf window last now timeout c)) := by
  have hk := c_guide_First (x := x) c
  unfold Cf.v at hk ⊢
  unfold idleOf
  by_cases h : sat (now - last) ≤ timeout
  · rw [if_pos h]
    have hd : decide (sat (now - last) ≤ timeout) = true := by simpa using h
    refine pureC_of_Sd Tryz.func122 rfl rfl fun w => ?_
    refine Sd_of_cW (by kernel_rfl) ?_
    repeat' (first | (with_reducible refine ifB_intro (fun _ => ?_) (fun _ => ?_)) | ((with_reducible show callW _ _ _ (some (51, _)) _ _); refine callP g_guide_First rfl (hk) ?_) | ((with_reducible show callW _ _ _ (some (182, _)) _ _); refine callP g_safe_Sub rfl (c_safe_Sub _ _ hn hl) ?_) | ((fail_if_success (with_reducible refine stk ?_)); simp only [WE, Nat.reduceLeDiff, segX, Nat.reduceBEq, Nat.reduceAdd, Nat.reduceEqDiff, Int.reduceNeg, Int.reduceEq, Int.reduceBEq, Int.reduceLT, Int.reduceLE, Int.reduceBNe, Int.reduceToNat, Nat.reduceMul, Nat.reduceMod, Int.reducePow, reduceIte, ty_23, rs_122, hd]))
  · rw [if_neg h]
    have hd : decide (sat (now - last) ≤ timeout) = false := by simpa using h
    refine pureC_of_Sd Tryz.func122 rfl rfl fun w => ?_
    refine Sd_of_cW (by kernel_rfl) ?_
    repeat' (first | (with_reducible refine ifB_intro (fun _ => ?_) (fun _ => ?_)) | ((with_reducible show callW _ _ _ (some (51, _)) _ _); refine callP g_guide_First rfl (hk) ?_) | ((with_reducible show callW _ _ _ (some (182, _)) _ _); refine callP g_safe_Sub rfl (c_safe_Sub _ _ hn hl) ?_) | ((fail_if_success (with_reducible refine stk ?_)); simp only [WE, Nat.reduceLeDiff, segX, Nat.reduceBEq, Nat.reduceAdd, Nat.reduceEqDiff, Int.reduceNeg, Int.reduceEq, Int.reduceBEq, Int.reduceLT, Int.reduceLE, Int.reduceBNe, Int.reduceToNat, Nat.reduceMul, Nat.reduceMod, Int.reducePow, reduceIte, ty_23, rs_122, hd]))
theorem c_guide_Pause {x : Nat → Obj → Prop} (e : Ep) (last now : Int) (h : in64 e.start) (hl : in64 last) (hn : in64 now) : PureC Tryz.prog x 123 [e.v, .int .i64 last, .int .i64 now] (epShift e (sat (now - last))).v := by
  have hk := c_epoch_Shift (x := x) e (sat (now - last)) h (sat_in _)
  unfold Ep.v at hk ⊢
  refine pureC_of_Sd Tryz.func123 rfl rfl fun w => ?_
  refine Sd_of_cW (by kernel_rfl) ?_
  repeat' (first | (with_reducible refine ifB_intro (fun _ => ?_) (fun _ => ?_)) | ((with_reducible show callW _ _ _ (some (182, _)) _ _); refine callP g_safe_Sub rfl (c_safe_Sub _ _ hn hl) ?_) | ((with_reducible show callW _ _ _ (some (183, _)) _ _); refine callP g_epoch_Shift rfl (hk) ?_) | ((with_reducible show cW _ _ (.region 1 _ true) _ _); refine cW_drawTF 5 lx_123_1 (by kernel_rfl) mixed_ (by kernel_rfl) ?_; intro l1 l2 e1 e2; simp only [List.take_succ_cons, List.take_zero, List.drop_succ_cons, List.drop_zero] at e1 e2; subst e1; subst e2) | ((fail_if_success (with_reducible refine stk ?_)); simp only [WE, Nat.reduceLeDiff, segX, Nat.reduceBEq, Nat.reduceAdd, Nat.reduceEqDiff, Int.reduceNeg, Int.reduceEq, Int.reduceBEq, Int.reduceLT, Int.reduceLE, Int.reduceBNe, Int.reduceToNat, Nat.reduceMul, Nat.reduceMod, Int.reducePow, reduceIte, ty_45, tz_45, rs_123]))
  all_goals rfl
end Go.Proofs.YtkokohkbhlnjkaaGreatDoor
