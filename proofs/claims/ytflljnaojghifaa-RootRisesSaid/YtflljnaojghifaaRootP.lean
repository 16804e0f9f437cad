/- Whole roots: plain arithmetic. -/
namespace Go.Proofs.Ytflljnaojghifaa

/-- The greatest number, up to a bound, whose power is no greater. -/
def rtN (p : Nat → Nat) (N : Nat) : Nat → Nat
  | 0 => 0
  | b + 1 => if p (b + 1) ≤ N then b + 1 else rtN p N b

theorem rtN_le {p : Nat → Nat} (hm : ∀ a b, a ≤ b → p a ≤ p b) (h0 : p 0 = 0) {N : Nat} : ∀ {b : Nat}, (N < p (b + 1)) → ∀ n, n ≤ rtN p N b ↔ p n ≤ N
  | 0, hb, n => by
    simp only [rtN]
    constructor
    · intro h
      have : n = 0 := by omega
      subst this; omega
    · intro h
      rcases Nat.eq_zero_or_pos n with h1 | h1
      · omega
      · have := hm 1 n h1
        simp only [Nat.zero_add] at hb
        omega
  | b + 1, hb, n => by
    simp only [rtN]
    by_cases h : p (b + 1) ≤ N
    · rw [if_pos h]
      constructor
      · intro h1
        exact Nat.le_trans (hm _ _ h1) h
      · intro h1
        rcases Nat.lt_or_ge (b + 1) n with h2 | h2
        · have := hm (b + 1 + 1) n h2
          omega
        · exact h2
    · rw [if_neg h]
      exact rtN_le hm h0 (by omega) n

def sqN (n : Nat) : Nat := n * n
def cuN (n : Nat) : Nat := n * n * n
theorem sqN_mono (a b : Nat) (h : a ≤ b) : sqN a ≤ sqN b := Nat.mul_le_mul h h
theorem cuN_mono (a b : Nat) (h : a ≤ b) : cuN a ≤ cuN b := Nat.mul_le_mul (Nat.mul_le_mul h h) h

def rt3 (N : Int) : Int := rtN cuN N.toNat 8796093022207
def rt2 (N : Int) : Int := rtN sqN N.toNat 18446744073709551615
theorem rt3_nn (N : Int) : 0 ≤ rt3 N := Int.natCast_nonneg _
theorem rt2_nn (N : Int) : 0 ≤ rt2 N := Int.natCast_nonneg _

theorem rt3_le {N : Int} (h0 : 0 ≤ N) (h1 : N < 340282366920938463463374607431768211456) (n : Int) (hn : 0 ≤ n) : n ≤ rt3 N ↔ n * n * n ≤ N := by
  obtain ⟨M, rfl⟩ := Int.eq_ofNat_of_zero_le h0
  obtain ⟨m, rfl⟩ := Int.eq_ofNat_of_zero_le hn
  unfold rt3
  rw [Int.toNat_natCast, ← Int.natCast_mul, ← Int.natCast_mul, Int.ofNat_le, Int.ofNat_le]
  refine rtN_le cuN_mono rfl ?_ m
  have : cuN (8796093022207 + 1) = 680564733841876926926749214863536422912 := by decide
  rw [this]
  omega
theorem rt2_le {N : Int} (h0 : 0 ≤ N) (h1 : N < 340282366920938463463374607431768211456) (n : Int) (hn : 0 ≤ n) : n ≤ rt2 N ↔ n * n ≤ N := by
  obtain ⟨M, rfl⟩ := Int.eq_ofNat_of_zero_le h0
  obtain ⟨m, rfl⟩ := Int.eq_ofNat_of_zero_le hn
  unfold rt2
  rw [Int.toNat_natCast, ← Int.natCast_mul, Int.ofNat_le, Int.ofNat_le]
  refine rtN_le sqN_mono rfl ?_ m
  have : sqN (18446744073709551615 + 1) = 340282366920938463463374607431768211456 := by decide
  rw [this]
  omega

theorem mul_mono {a b c d : Int} (h0 : 0 ≤ a) (h : a ≤ b) (h1 : 0 ≤ c) (h2 : c ≤ d) : a * c ≤ b * d :=
  Int.le_trans (Int.mul_le_mul_of_nonneg_right h h1) (Int.mul_le_mul_of_nonneg_left h2 (Int.le_trans h0 h))
theorem sq_mono {a b : Int} (h0 : 0 ≤ a) (h : a ≤ b) : a * a ≤ b * b := mul_mono h0 h h0 h
theorem cu_mono {a b : Int} (h0 : 0 ≤ a) (h : a ≤ b) : a * a * a ≤ b * b * b := mul_mono (Int.mul_nonneg h0 h0) (sq_mono h0 h) h0 h
theorem sq_nn (a : Int) (h : 0 ≤ a) : 0 ≤ a * a := Int.mul_nonneg h h
theorem cu_nn (a : Int) (h : 0 ≤ a) : 0 ≤ a * a * a := Int.mul_nonneg (Int.mul_nonneg h h) h

/-- A number of so many bits has a root of a third, or half, of them. -/
theorem rt3_lt {N : Int} {b : Int} (h0 : 0 ≤ N) (h1 : N < 340282366920938463463374607431768211456) (hb : 0 ≤ b) (h : N < b * b * b) : rt3 N < b := by
  have := rt3_le h0 h1 b hb
  omega
theorem rt2_lt {N : Int} {b : Int} (h0 : 0 ≤ N) (h1 : N < 340282366920938463463374607431768211456) (hb : 0 ≤ b) (h : N < b * b) : rt2 N < b := by
  have := rt2_le h0 h1 b hb
  omega
theorem rt3_eq {N r : Int} (h0 : 0 ≤ N) (h1 : N < 340282366920938463463374607431768211456) (hr : 0 ≤ r) (hl : r * r * r ≤ N) (hu : N < (r + 1) * (r + 1) * (r + 1)) : rt3 N = r := by
  have a := (rt3_le h0 h1 r hr).2 hl
  have b := rt3_lt h0 h1 (b := r + 1) (by omega) hu
  omega
theorem rt2_eq {N r : Int} (h0 : 0 ≤ N) (h1 : N < 340282366920938463463374607431768211456) (hr : 0 ≤ r) (hl : r * r ≤ N) (hu : N < (r + 1) * (r + 1)) : rt2 N = r := by
  have a := (rt2_le h0 h1 r hr).2 hl
  have b := rt2_lt h0 h1 (b := r + 1) (by omega) hu
  omega
end Go.Proofs.Ytflljnaojghifaa
