/- Plain laws of layer 10. -/
import Derived.Test.YtflljnaojghifaaLaw10a
namespace Go.Proofs.Ytflljnaojghifaa
open Go Go.RowKit Go.Proofs.Ytflljnaojghifaa.R
set_option linter.unusedSimpArgs false
set_option linter.unusedVariables false

theorem thresh_in (a : Int) : 4000 ≤ hyThresh a ∧ hyThresh a ≤ 16000 := by unfold hyThresh mn mx; (repeat' split) <;> omega

theorem hyRound_ok (h : Hy) (k : hyOk h) : (hyRound h).2 = 0 ∧ hyOk (hyRound h).1 ∧ (h.done = true → (hyRound h).1.done = true) := by
  obtain ⟨a, b, c, g, d, p, r⟩ := h
  unfold hyRound
  rw [if_pos k]
  unfold hyOk at k ⊢
  dsimp only at k ⊢
  cases g
  · simp only [Bool.false_eq_true, if_false, false_and, or_false, true_and] at k ⊢
    exact ⟨by omega, fun h => h⟩
  · simp only [Bool.true_eq_false, false_and, false_or, true_and] at k
    rw [if_pos rfl]
    by_cases h5 : 5 ≤ r + 1
    · rw [if_pos h5]
      refine ⟨rfl, ?_, fun _ => rfl⟩
      dsimp only
      simp only [Bool.false_eq_true, false_and, or_false, true_and, eq_self, and_self, and_true]
      omega
    · rw [if_neg h5]
      refine ⟨rfl, ?_, fun h => h⟩
      dsimp only
      simp only [Bool.true_eq_false, false_and, false_or, true_and]
      have hd := k.2.2.2.2.2.2.2.1
      simp only [hd, true_and, eq_self, and_self, and_true]
      omega

theorem hyAct_ok (h : Hy) (k : hyOk h) (h1 : h.least ≠ 0) : hyOk (hyAct h) ∧ (h.done = true → hyAct h = h) ∧ (hyAct h).done = h.done ∧ (hyAct h).last = h.last ∧ (hyAct h).least = h.least ∧ (hyAct h).many = h.many := by
  obtain ⟨a, b, c, g, d, p, r⟩ := h
  by_cases h8 : c = 8
  · cases d
    · cases g
      · have e : hyAct ⟨a, b, c, false, false, p, r⟩ = hySwift ⟨a, b, c, false, false, p, r⟩ := if_pos h8
        rw [e]
        by_cases hs : 0 < a ∧ a + hyThresh a ≤ b
        · have e : hySwift ⟨a, b, c, false, false, p, r⟩ = ⟨a, b, c, true, false, b, r⟩ := if_pos hs
          rw [e]
          unfold hyOk at k ⊢
          dsimp only at k ⊢ h1
          simp only [Bool.false_eq_true, Bool.true_eq_false, false_and, or_false, false_or, true_and, false_implies, and_true] at k ⊢
          omega
        · have e : hySwift ⟨a, b, c, false, false, p, r⟩ = ⟨a, b, c, false, false, p, r⟩ := if_neg hs
          rw [e]
          exact ⟨k, fun _ => rfl, rfl, rfl, rfl, rfl⟩
      · have e : hyAct ⟨a, b, c, true, false, p, r⟩ = hyMild ⟨a, b, c, true, false, p, r⟩ := if_pos h8
        rw [e]
        by_cases hs : b < p
        · have e : hyMild ⟨a, b, c, true, false, p, r⟩ = ⟨a, b, c, false, false, 0, 0⟩ := if_pos hs
          rw [e]
          unfold hyOk at k ⊢
          dsimp only at k ⊢ h1
          simp only [Bool.false_eq_true, Bool.true_eq_false, false_and, or_false, false_or, true_and, false_implies, and_true] at k ⊢
          omega
        · have e : hyMild ⟨a, b, c, true, false, p, r⟩ = ⟨a, b, c, true, false, p, r⟩ := if_neg hs
          rw [e]
          exact ⟨k, fun _ => rfl, rfl, rfl, rfl, rfl⟩
    · have e : hyAct ⟨a, b, c, g, true, p, r⟩ = ⟨a, b, c, g, true, p, r⟩ := if_pos h8
      rw [e]
      exact ⟨k, fun _ => rfl, rfl, rfl, rfl, rfl⟩
  · have e : hyAct ⟨a, b, c, g, d, p, r⟩ = ⟨a, b, c, g, d, p, r⟩ := if_neg h8
    rw [e]
    exact ⟨k, fun _ => rfl, rfl, rfl, rfl, rfl⟩

theorem hyCount_ok (h : Hy) (t : Int) (k : hyOk h) (t1 : 1 ≤ t) (t2 : t ≤ 1073741824) : hyOk (hyCount h t) ∧ (hyCount h t).least ≠ 0 := by
  obtain ⟨a, b, c, g, d, p, r⟩ := h
  unfold hyCount
  have k0 := k
  unfold hyOk at k ⊢
  dsimp only at k ⊢
  have hl : 1 ≤ (if b = 0 ∨ t < b then t else b) ∧ (if b = 0 ∨ t < b then t else b) ≤ 1073741824 := by split <;> omega
  have hm : 1 ≤ mn (c + 1) 8 ∧ mn (c + 1) 8 ≤ 8 := by unfold mn; split <;> omega
  refine ⟨⟨k.1, k.2.1, by omega, by omega, by omega, by omega, by omega, k.2.2.2.2.2.2.2⟩, by omega⟩

theorem hySample_in (h : Hy) (t : Int) (k : hyOk h ∧ 1 ≤ t ∧ t ≤ 1073741824) : hySample h t = (hyAct (hyCount h t), 0) := if_pos k
theorem hySample_no (h : Hy) (t : Int) (k : ¬ (hyOk h ∧ 1 ≤ t ∧ t ≤ 1073741824)) : hySample h t = (h, 201) := if_neg k
theorem hyRound_no (h : Hy) (k : ¬ hyOk h) : hyRound h = (h, 201) := if_neg k

theorem hyStep_no (h : Hy) (t : Int) (k : ¬ hyOk h) : hyStep h t = (h, 201) := by
  unfold hyStep
  cases t == 0
  · exact hySample_no h t fun q => k q.1
  · exact hyRound_no h k
theorem hyStep_ok (h : Hy) (t : Int) (k : hyOk h) : hyOk (hyStep h t).1 ∧ (h.done = true → (hyStep h t).1.done = true) ∧ ((hyStep h t).2 = 0 ∨ hyStep h t = (h, 201)) := by
  unfold hyStep
  cases t == 0
  · rw [cond_false]
    by_cases q : hyOk h ∧ 1 ≤ t ∧ t ≤ 1073741824
    · rw [hySample_in h t q]
      obtain ⟨q1, q2⟩ := hyCount_ok h t k q.2.1 q.2.2
      have q3 := hyAct_ok _ q1 q2
      exact ⟨q3.1, fun hd => by rw [q3.2.2.1]; exact hd, .inl rfl⟩
    · rw [hySample_no h t q]
      exact ⟨k, fun h => h, .inr rfl⟩
  · rw [cond_true]
    obtain ⟨q1, q2, q3⟩ := hyRound_ok h k
    exact ⟨q2, q3, .inl q1⟩
theorem hyUp_ok (zs : Nat → Int) (h : Hy) (k : hyOk h) : ∀ i, hyOk (hyUp zs h i)
  | 0 => k
  | i + 1 => (hyStep_ok _ _ (hyUp_ok zs h k i)).1

/-- Five rounds without a time. -/
theorem round_gentle (h : Hy) (k : hyOk h) (g : h.gentle = true) : ((hyRound h).1.done = true ∧ (hyRound h).1.gentle = false) ∨ ((hyRound h).1.gentle = true ∧ (hyRound h).1.rounds = h.rounds + 1 ∧ h.rounds + 1 < 5) := by
  unfold hyRound
  rw [if_pos k, if_pos g]
  by_cases h5 : 5 ≤ h.rounds + 1
  · rw [if_pos h5]; exact .inl ⟨rfl, rfl⟩
  · rw [if_neg h5]; exact .inr ⟨rfl, rfl, by omega⟩
theorem round_plain (h : Hy) (k : hyOk h) (g : h.gentle = false) : (hyRound h).1.gentle = false ∧ (hyRound h).1.done = h.done := by
  unfold hyRound
  rw [if_pos k, if_neg (by rw [g]; simp)]
  exact ⟨rfl, rfl⟩
theorem hyStep_zero (h : Hy) : hyStep h 0 = hyRound h := rfl
theorem up_end (h : Hy) (k : hyOk h) : ∀ n, ((h.gentle = false → (hyUp (fun _ => 0) h n).gentle = false ∧ (hyUp (fun _ => 0) h n).done = h.done) ∧
    (h.gentle = true → ((hyUp (fun _ => 0) h n).gentle = false ∧ (hyUp (fun _ => 0) h n).done = true) ∨ ((hyUp (fun _ => 0) h n).gentle = true ∧ (hyUp (fun _ => 0) h n).rounds = h.rounds + n ∧ (n = 0 ∨ h.rounds + n < 5))))
  | 0 => ⟨fun g => ⟨g, rfl⟩, fun g => .inr ⟨g, by simp [hyUp], .inl rfl⟩⟩
  | n + 1 => by
    have kn := hyUp_ok (fun _ => 0) h k n
    have e : hyUp (fun _ => 0) h (n + 1) = (hyRound (hyUp (fun _ => 0) h n)).1 := rfl
    obtain ⟨i1, i2⟩ := up_end h k n
    rw [e]
    refine ⟨fun g => ?_, fun g => ?_⟩
    · obtain ⟨q1, q2⟩ := round_plain _ kn (i1 g).1
      exact ⟨q1, q2.trans (i1 g).2⟩
    · rcases i2 g with ⟨j1, j2⟩ | ⟨j1, j2, j3⟩
      · obtain ⟨q1, q2⟩ := round_plain _ kn j1
        exact .inl ⟨q1, q2.trans j2⟩
      · rcases round_gentle _ kn j1 with ⟨q1, q2⟩ | ⟨q1, q2, q3⟩
        · exact .inl ⟨q2, q1⟩
        · exact .inr ⟨q1, by rw [q2, j2]; push_cast; omega, .inr (by rw [j2] at q3; push_cast; omega)⟩
theorem five_end (h : Hy) (k : hyOk h) : (hyUp (fun _ => 0) h 5).gentle = false ∧ (hyUp (fun _ => 0) h 5).done = (h.done || h.gentle) := by
  obtain ⟨i1, i2⟩ := up_end h k 5
  cases g : h.gentle
  · rw [Bool.or_false]; exact i1 g
  · rw [Bool.or_true]
    rcases i2 g with q | ⟨_, q2, q3⟩
    · exact q
    · unfold hyOk at k
      rw [g] at k
      simp only [Bool.true_eq_false, false_and, false_or, true_and] at k
      rcases q3 with q3 | q3 <;> omega
end Go.Proofs.Ytflljnaojghifaa
