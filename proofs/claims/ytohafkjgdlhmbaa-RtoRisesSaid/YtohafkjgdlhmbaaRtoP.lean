/- The timeout (layer 7): plain laws of what the functions answer. -/
import Derived.Test.YtohafkjgdlhmbaaRtoAll
import Derived.Test.YtohafkjgdlhmbaaRef07
namespace Go.Proofs.Ytohafkjgdlhmbaa
open Go Go.RowKit Go.Proofs.Ytohafkjgdlhmbaa.R
set_option linter.unusedVariables false

theorem wn_pos (n : Int) : 1 ≤ wn n := by unfold wn mn mx; (repeat' split) <;> omega
theorem wn_max (n : Int) : wn n ≤ 1099511627776 := by unfold wn mn mx; (repeat' split) <;> omega
theorem wn_mono {a b : Int} (h : a ≤ b) : wn a ≤ wn b := by unfold wn mn mx; (repeat' split) <;> omega
theorem wn_in {n : Int} (h1 : 1 ≤ n) (h2 : n ≤ 1099511627776) : wn n = n := by unfold wn mn mx; (repeat' split) <;> omega
theorem mn_le_l (a b : Int) : mn a b ≤ a := by unfold mn; split <;> omega
theorem mn_le_r (a b : Int) : mn a b ≤ b := by unfold mn; split <;> omega
theorem le_mn {a b c : Int} (h1 : c ≤ a) (h2 : c ≤ b) : c ≤ mn a b := by unfold mn; split <;> omega
theorem mn_mono {a b c d : Int} (h1 : a ≤ c) (h2 : b ≤ d) : mn a b ≤ mn c d := by unfold mn; (repeat' split) <;> omega
theorem mx_mono {a b c d : Int} (h1 : a ≤ c) (h2 : b ≤ d) : mx a b ≤ mx c d := by unfold mx; (repeat' split) <;> omega
theorem mx_ge_l (a b : Int) : a ≤ mx a b := by unfold mx; split <;> omega
theorem mx_ge_r (a b : Int) : b ≤ mx a b := by unfold mx; split <;> omega

/-- The base without its wrap. -/
theorem rtoBase_eq (r : Rtt) (c : Cfg) : rtoBase r c = if r.has = true ∧ rttCheck r = true then r.mean / 8 + mx (wn c.grain) r.far else 1000000 := by
  unfold rtoBase
  cases hh : r.has
  · simp
  · cases hc : rttCheck r
    · simp
    · have := (rttCheck_spec r).1 hc
      rw [hh] at this
      simp only [true_and, Bool.true_eq_false, false_and, or_false] at this
      have h1 := wn_pos c.grain
      have h2 := wn_max c.grain
      rw [rttMean_eq r (by omega) (by omega)]
      simp only [Bool.not_true, cond_false, and_self, if_true]
      exact w64_eq (by unfold mx; split <;> omega) (by unfold mx; split <;> omega)
theorem rtoBase_pos (r : Rtt) (c : Cfg) : 1 ≤ rtoBase r c := by
  rw [rtoBase_eq]
  split
  · rename_i h
    have := (rttCheck_spec r).1 h.2
    rw [h.1] at this
    simp only [true_and, Bool.true_eq_false, false_and, or_false] at this
    have h1 := wn_pos c.grain
    have := mx_ge_l (wn c.grain) r.far
    omega
  · omega
theorem rtoBase_mono (r : Rtt) (c d : Cfg) (h : c.grain ≤ d.grain) : rtoBase r c ≤ rtoBase r d := by
  rw [rtoBase_eq, rtoBase_eq]
  split
  · have := mx_mono (wn_mono h) (Int.le_refl r.far)
    omega
  · omega

theorem pow_one (k : Nat) : (1 : Int) ≤ 2 ^ k := by
  have : 0 < 2 ^ k := Nat.two_pow_pos k
  have e : ((2 ^ k : Nat) : Int) = (2 : Int) ^ k := by push_cast; rfl
  omega
theorem pow_up {a b : Nat} (h : a ≤ b) : (2 : Int) ^ a ≤ 2 ^ b := by
  have : 2 ^ a ≤ 2 ^ b := Nat.pow_le_pow_right (by decide) h
  have e1 : ((2 ^ a : Nat) : Int) = (2 : Int) ^ a := by push_cast; rfl
  have e2 : ((2 ^ b : Nat) : Int) = (2 : Int) ^ b := by push_cast; rfl
  omega
theorem dbl_eq {g : Int} (hg : g ≤ 1099511627776) : ∀ (k : Nat) {n : Int}, 1 ≤ n → n ≤ g → dbl g k n = mn (2 ^ k * n) g
  | 0, n, h1, h2 => by simp only [dbl, mn, Int.pow_zero, Int.one_mul]; rw [if_neg (by omega)]
  | k + 1, n, h1, h2 => by
    have hp : (1 : Int) ≤ 2 ^ k := pow_one _ 
    have e2 : (2 : Int) ^ (k + 1) * n = 2 * (2 ^ k * n) := by rw [Int.pow_succ, Int.mul_comm (2 ^ k) 2, Int.mul_assoc]
    have hpn : n ≤ 2 ^ k * n := by
      have := Int.mul_le_mul_of_nonneg_right hp (by omega : 0 ≤ n)
      omega
    have hpg : g ≤ 2 ^ k * g := by
      have := Int.mul_le_mul_of_nonneg_right hp (by omega : 0 ≤ g)
      omega
    simp only [dbl]
    rw [w64_eq (by omega) (by omega)]
    by_cases he : n = g
    · subst he
      simp only [beq_self_eq_true, cond_true]
      rw [e2]
      unfold mn
      rw [if_pos (by omega)]
    · have hb : (n == g) = false := beq_eq_false_iff_ne.2 he
      rw [hb, cond_false, dbl_eq hg k (by unfold mn; split <;> omega) (mn_le_r _ _), e2]
      by_cases h3 : 2 * n ≤ g
      · have : mn (2 * n) g = 2 * n := by unfold mn; rw [if_neg (by omega)]
        rw [this, Int.mul_left_comm]
      · have : mn (2 * n) g = g := by unfold mn; rw [if_pos (by omega)]
        rw [this]
        unfold mn
        rw [if_pos (show g < 2 * (2 ^ k * n) by omega)]
        split <;> omega

/-- The timeout's start. -/
def rto0 (r : Rtt) (c : Cfg) : Int := mn (mx (rtoBase r c) (wn c.least)) (wn c.great)
theorem rto0_pos (r : Rtt) (c : Cfg) : 1 ≤ rto0 r c := le_mn (by have := rtoBase_pos r c; have := mx_ge_l (rtoBase r c) (wn c.least); omega) (wn_pos _)
theorem rto0_le (r : Rtt) (c : Cfg) : rto0 r c ≤ wn c.great := mn_le_r _ _
theorem rto0_mono (r : Rtt) (c d : Cfg) (h1 : c.grain ≤ d.grain) (h2 : c.least ≤ d.least) (h3 : c.great ≤ d.great) : rto0 r c ≤ rto0 r d :=
  mn_mono (mx_mono (rtoBase_mono r c d h1) (wn_mono h2)) (wn_mono h3)
theorem rtoOf_eq (r : Rtt) (c : Cfg) (t : Int) : rtoOf r c t = mn (2 ^ (mx t 0).toNat * rto0 r c) (wn c.great) :=
  dbl_eq (wn_max _) _ (rto0_pos r c) (rto0_le r c)
theorem rtoOf_mono (r : Rtt) (c d : Cfg) {s t : Int} (h1 : c.grain ≤ d.grain) (h2 : c.least ≤ d.least) (h3 : c.great ≤ d.great) (h4 : s ≤ t) : rtoOf r c s ≤ rtoOf r d t := by
  rw [rtoOf_eq, rtoOf_eq]
  refine mn_mono ?_ (wn_mono h3)
  have k1 := rto0_mono r c d h1 h2 h3
  have k2 := rto0_pos r c
  have k3 : (2 : Int) ^ (mx s 0).toNat ≤ 2 ^ (mx t 0).toNat := pow_up (by have := mx_mono h4 (Int.le_refl 0); omega)
  have k4 : (1 : Int) ≤ 2 ^ (mx s 0).toNat := pow_one _
  calc 2 ^ (mx s 0).toNat * rto0 r c ≤ 2 ^ (mx t 0).toNat * rto0 r c := Int.mul_le_mul_of_nonneg_right k3 (by omega)
    _ ≤ 2 ^ (mx t 0).toNat * rto0 r d := Int.mul_le_mul_of_nonneg_left k1 (by omega)
theorem rtoOf_zero (r : Rtt) (c : Cfg) : rtoOf r c 0 = rto0 r c := by
  rw [rtoOf_eq]
  have : (mx 0 0).toNat = 0 := by decide
  rw [this, Int.pow_zero, Int.one_mul]
  have := rto0_le r c
  unfold mn
  rw [if_neg (by omega)]
theorem rtoOf_ge0 (r : Rtt) (c : Cfg) (t : Int) : rto0 r c ≤ rtoOf r c t := by
  rw [rtoOf_eq]
  have k4 : (1 : Int) ≤ 2 ^ (mx t 0).toNat := pow_one _
  have k2 := rto0_pos r c
  have := Int.mul_le_mul_of_nonneg_right k4 (by omega : 0 ≤ rto0 r c)
  exact le_mn (by omega) (rto0_le r c)
theorem rtoOf_full (r : Rtt) (c : Cfg) {t : Int} (h : 40 ≤ t) : rtoOf r c t = wn c.great := by
  rw [rtoOf_eq]
  have k3 : (2 : Int) ^ 40 ≤ 2 ^ (mx t 0).toNat := pow_up (by unfold mx; split <;> omega)
  have k2 := rto0_pos r c
  have k5 := wn_max c.great
  have := Int.mul_le_mul k3 k2 (by omega) (by omega)
  have e : (2 : Int) ^ 40 = 1099511627776 := by decide
  unfold mn
  split <;> omega
theorem rtoOf_succ (r : Rtt) (c : Cfg) {t : Int} (h : 0 ≤ t) : rtoOf r c (t + 1) = mn (2 * rtoOf r c t) (wn c.great) := by
  rw [rtoOf_eq, rtoOf_eq]
  have e : (mx (t + 1) 0).toNat = (mx t 0).toNat + 1 := by unfold mx; (repeat' split) <;> omega
  rw [e]
  have e2 : (2 : Int) ^ ((mx t 0).toNat + 1) * rto0 r c = 2 * (2 ^ (mx t 0).toNat * rto0 r c) := by rw [Int.pow_succ, Int.mul_comm (2 ^ _) 2, Int.mul_assoc]
  rw [e2]
  have := wn_pos c.great
  unfold mn
  (repeat' split) <;> omega
end Go.Proofs.Ytohafkjgdlhmbaa
