/- Events (layer 20): plain laws: all of them so much later. -/
import Derived.Test.YtflljnaojghifaaEvP
import Derived.Test.YtflljnaojghifaaRwl
namespace Go.Proofs.Ytflljnaojghifaa
open Go Go.RowKit Go.Proofs.Ytflljnaojghifaa.R
set_option linter.unusedSimpArgs false
set_option linter.unusedVariables false
set_option maxRecDepth 50000
set_option maxHeartbeats 4000000

def later (d : Int) (e : Ev) : Ev := ⟨e.kind, e.time + d, e.bytes, e.rtt⟩
structure Shift (d : Int) (r r' : Raw) : Prop where
  len : r'.len = r.len
  same : ∀ j, j < r.len → j ≠ 1 → r'.zs j = r.zs j
  time : 1 < r.len → 0 ≤ r.zs 1 ∧ r.zs 1 < 4294967296 ∧ r'.zs 1 = r.zs 1 + d

theorem evCheck_later {d k t b r : Int} (hd : 0 ≤ d ∧ d < 4294967296) (ht : 0 ≤ t ∧ t < 4294967296) : evCheck k (t + d) b r = evCheck k t b r := by
  rw [evCheck_eq, evCheck_eq, if_neg (show ¬ t + d < 0 by omega), if_neg (show ¬ 1099511627776 < t + d by omega), if_neg (show ¬ t < 0 by omega), if_neg (show ¬ 1099511627776 < t by omega)]

theorem evDec_later {d : Int} {r r' : Raw} (hd : 0 ≤ d ∧ d < 4294967296) (h : Shift d r r') :
    (∃ e, evDec r.len r.zs = (e, 0) ∧ evDec r'.len r'.zs = (later d e, 0) ∧ 0 ≤ e.time ∧ e.time < 4294967296) ∨ (∃ e, e ≠ 0 ∧ evDec r.len r.zs = (⟨0, 0, 0, 0⟩, e) ∧ evDec r'.len r'.zs = (⟨0, 0, 0, 0⟩, e)) := by
  rw [h.len]
  by_cases h4 : r.len = 4
  · obtain ⟨t1, t2, t3⟩ := h.time (by omega)
    have e0 := h.same 0 (by omega) (by decide)
    have e2 := h.same 2 (by omega) (by decide)
    have e3 := h.same 3 (by omega) (by decide)
    have hc : evCheck (r'.zs 0) (r'.zs 1) (r'.zs 2) (r'.zs 3) = evCheck (r.zs 0) (r.zs 1) (r.zs 2) (r.zs 3) := by
      rw [e0, e2, e3, t3]
      exact evCheck_later hd ⟨t1, t2⟩
    unfold evDec
    rw [if_pos h4, if_pos h4, hc]
    by_cases hz : evCheck (r.zs 0) (r.zs 1) (r.zs 2) (r.zs 3) = 0
    · rw [if_pos hz, if_pos hz]
      exact .inl ⟨_, rfl, by rw [e0, e2, e3, t3]; rfl, t1, t2⟩
    · rw [if_neg hz, if_neg hz]
      exact .inr ⟨_, hz, rfl, rfl⟩
  · unfold evDec
    rw [if_neg h4, if_neg h4]
    exact .inr ⟨201, by decide, rfl, rfl⟩

theorem evUp_later {d : Int} {rs ls : Nat → Raw} (hd : 0 ≤ d ∧ d < 4294967296) : ∀ i, (∀ j, j < i → Shift d (rs j) (ls j)) →
    (evUp ls i).2.2 = (evUp rs i).2.2 ∧ (evUp ls i).2.1 = (evUp rs i).2.1.map (later d) ∧ (((evUp rs i).2.1 = [] ∧ (evUp rs i).1 = 0 ∧ (evUp ls i).1 = 0) ∨ ((evUp rs i).2.1 ≠ [] ∧ (evUp ls i).1 = (evUp rs i).1 + d))
  | 0, _ => ⟨rfl, rfl, .inl ⟨rfl, rfl, rfl⟩⟩
  | i + 1, h => by
    obtain ⟨h1, h2, h3⟩ := evUp_later hd i fun j hj => h j (by omega)
    rw [evUp, evUp]
    rcases evDec_later hd (h i (by omega)) with ⟨e, d1, d2, t1, t2⟩ | ⟨e, he, d1, d2⟩
    · rw [d1, d2]
      have q1 : ∀ now, evStep (e, 0) now = if e.time < now then (50, now) else (0, e.time) := fun now => by
        simp only [evStep, if_true]
        rw [clkStep_in ⟨t1, by omega⟩]
        split <;> rfl
      have q2 : ∀ now, evStep (later d e, 0) now = if e.time + d < now then (50, now) else (0, e.time + d) := fun now => by
        simp only [evStep, if_true, later]
        rw [clkStep_in ⟨by omega, by omega⟩]
        split <;> rfl
      rw [q1, q2]
      rcases h3 with ⟨g1, g2, g3⟩ | ⟨g1, g2⟩
      · rw [g2, g3, if_neg (show ¬ e.time + d < 0 by omega), if_neg (show ¬ e.time < 0 by omega)]
        simp only [if_true]
        exact ⟨by rw [h1], by rw [h2, List.map_append]; rfl, .inr ⟨by simp, by trivial⟩⟩
      · rw [g2]
        by_cases ht : e.time < (evUp rs i).1
        · rw [if_pos ht, if_pos (show e.time + d < (evUp rs i).1 + d by omega)]
          simp only [show ¬ (50 : Int) = 0 by decide, if_false]
          exact ⟨by rw [h1], h2, .inr ⟨g1, by trivial⟩⟩
        · rw [if_neg ht, if_neg (show ¬ e.time + d < (evUp rs i).1 + d by omega)]
          simp only [if_true]
          exact ⟨by rw [h1], by rw [h2, List.map_append]; rfl, .inr ⟨by simp, by trivial⟩⟩
    · rw [d1, d2]
      have q : ∀ now, evStep ((⟨0, 0, 0, 0⟩ : Ev), e) now = (e, now) := fun now => by simp only [evStep, he, if_false]
      rw [q, q]
      simp only [he, if_false]
      exact ⟨by rw [h1], h2, h3⟩
end Go.Proofs.Ytflljnaojghifaa
