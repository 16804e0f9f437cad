/- The time there and back: plain laws of what its functions answer. -/
import Derived.Test.YtohafkjgdlhmbaaRtt
namespace Go.Proofs.Ytohafkjgdlhmbaa
open Go Go.RowKit Go.Proofs.Ytohafkjgdlhmbaa.R

theorem w64_eq {n : Int} (h1 : -9223372036854775808 ≤ n) (h2 : n ≤ 9223372036854775807) : w64 n = n := wr_i64 h1 h2

theorem rttCheck_spec (r : Rtt) : rttCheck r = true ↔ (r.has = true ∧ 8 ≤ r.mean ∧ r.mean ≤ 8589934592 ∧ 0 ≤ r.far ∧ r.far ≤ 4294967296) ∨ (r.has = false ∧ r.mean = 0 ∧ r.far = 0) := by
  obtain ⟨h, m, f⟩ := r
  cases h <;> simp [rttCheck, and_assoc]

theorem rttMean_eq (r : Rtt) (h1 : 0 ≤ r.mean) (h2 : r.mean ≤ 9223372036854775807) : rttMean r = r.mean / 8 := by
  unfold rttMean
  rw [Int.tdiv_eq_ediv_of_nonneg h1, w64_eq] <;> omega
theorem rttFar_eq (r : Rtt) (h1 : 0 ≤ r.far) (h2 : r.far ≤ 9223372036854775807) : rttFar r = r.far / 4 := by
  unfold rttFar
  rw [Int.tdiv_eq_ediv_of_nonneg h1, w64_eq] <;> omega

theorem sample_bad (r : Rtt) (t : Int) (h : ¬ (rttCheck r = true ∧ 1 ≤ t ∧ t ≤ 1073741824)) : rttSample r t = (r, 201) := by
  unfold rttSample
  cases hc : rttCheck r
  · simp
  · simp only [Bool.not_true, cond_false]
    by_cases h1 : t < 1
    · simp [h1]
    · by_cases h2 : 1073741824 < t
      · simp [h2]
      · exact absurd ⟨hc, by omega, by omega⟩ h

theorem sample_first (r : Rtt) (t : Int) (hc : rttCheck r = true) (hh : r.has = false) (h1 : 1 ≤ t) (h2 : t ≤ 1073741824) : rttSample r t = (⟨true, 8 * t, 2 * t⟩, 0) := by
  unfold rttSample
  have e1 : decide (t < 1) = false := by simp; omega
  have e2 : decide (1073741824 < t) = false := by simp; omega
  simp only [hc, hh, e1, e2, Bool.not_true, Bool.not_false, cond_false, cond_true, rttFirst]
  have a1 : w64 (t * 8) = 8 * t := by rw [w64_eq] <;> omega
  have a2 : w64 (t * 4) = 4 * t := by rw [w64_eq] <;> omega
  have a3 : w64 ((4 * t).tdiv 2) = 2 * t := by rw [Int.tdiv_eq_ediv_of_nonneg (by omega), w64_eq] <;> omega
  rw [a1, a2, a3]

def gapOf (r : Rtt) (t : Int) : Int := if t - r.mean / 8 < 0 then r.mean / 8 - t else t - r.mean / 8

theorem sample_next (r : Rtt) (t : Int) (hc : rttCheck r = true) (hh : r.has = true) (h1 : 1 ≤ t) (h2 : t ≤ 1073741824) :
    rttSample r t = (⟨true, r.mean + (t - r.mean / 8), r.far + (gapOf r t - r.far / 4)⟩, 0) := by
  unfold rttSample
  have e1 : decide (t < 1) = false := by simp; omega
  have e2 : decide (1073741824 < t) = false := by simp; omega
  have hc' := (rttCheck_spec r).1 hc
  rw [hh] at hc'
  simp only [true_and, Bool.true_eq_false, false_and, or_false] at hc'
  obtain ⟨b1, b2, b3, b4⟩ := hc'
  have hM : rttMean r = r.mean / 8 := rttMean_eq _ (by omega) (by omega)
  have hF : rttFar r = r.far / 4 := rttFar_eq _ (by omega) (by omega)
  simp only [hc, hh, e1, e2, Bool.not_true, cond_false, rttNext, hM, hF]
  have a1 : w64 (t - r.mean / 8) = t - r.mean / 8 := by rw [w64_eq] <;> omega
  have a2 : w64 (r.mean / 8 - t) = r.mean / 8 - t := by rw [w64_eq] <;> omega
  have a3 : mx (t - r.mean / 8) (r.mean / 8 - t) = gapOf r t := by
    unfold mx gapOf
    (repeat' split) <;> omega
  have hg : 0 ≤ gapOf r t ∧ gapOf r t ≤ 1073741824 := by
    unfold gapOf
    split <;> omega
  rw [a1, a2, a3]
  have a4 : w64 (gapOf r t - r.far / 4) = gapOf r t - r.far / 4 := by rw [w64_eq] <;> omega
  rw [a4]
  have a5 : w64 (r.far + (gapOf r t - r.far / 4)) = r.far + (gapOf r t - r.far / 4) := by rw [w64_eq] <;> omega
  have a6 : w64 (r.mean + (t - r.mean / 8)) = r.mean + (t - r.mean / 8) := by rw [w64_eq] <;> omega
  rw [a5, a6]

/-- What is known stays so. -/
theorem sample_check (r : Rtt) (t : Int) (hc : rttCheck r = true) : rttCheck (rttSample r t).1 = true := by
  by_cases hb : 1 ≤ t ∧ t ≤ 1073741824
  · cases hh : r.has
    · rw [sample_first r t hc hh hb.1 hb.2, rttCheck_spec]; left; dsimp only; exact ⟨rfl, by omega, by omega, by omega, by omega⟩
    · rw [sample_next r t hc hh hb.1 hb.2, rttCheck_spec]
      left
      have hc' := (rttCheck_spec r).1 hc
      rw [hh] at hc'
      simp only [true_and, Bool.true_eq_false, false_and, or_false] at hc'
      unfold gapOf
      dsimp only
      refine ⟨rfl, ?_⟩
      split <;> omega
  · rw [sample_bad r t (fun h => hb h.2)]; exact hc

theorem sample_rises (r : Rtt) (a b : Int) (hab : a ≤ b) (e1 : (rttSample r a).2 = 0) (e2 : (rttSample r b).2 = 0) :
    (rttSample r a).1.mean ≤ (rttSample r b).1.mean ∧ rttMean (rttSample r a).1 ≤ rttMean (rttSample r b).1 := by
  by_cases ha : rttCheck r = true ∧ 1 ≤ a ∧ a ≤ 1073741824
  · by_cases hb : rttCheck r = true ∧ 1 ≤ b ∧ b ≤ 1073741824
    · have k1 := (rttCheck_spec _).1 (sample_check r a ha.1)
      have k2 := (rttCheck_spec _).1 (sample_check r b ha.1)
      have hm : (rttSample r a).1.mean ≤ (rttSample r b).1.mean := by
        cases hh : r.has
        · rw [sample_first r a ha.1 hh ha.2.1 ha.2.2, sample_first r b hb.1 hh hb.2.1 hb.2.2]; dsimp only; omega
        · rw [sample_next r a ha.1 hh ha.2.1 ha.2.2, sample_next r b hb.1 hh hb.2.1 hb.2.2]; dsimp only; omega
      refine ⟨hm, ?_⟩
      rw [rttMean_eq _ (by omega) (by omega), rttMean_eq _ (by omega) (by omega)]
      omega
    · rw [sample_bad r b hb] at e2; simp at e2
  · rw [sample_bad r a ha] at e1; simp at e1

theorem between_bad (r : Rtt) (t : Int) (e : (rttSample r t).2 ≠ 0) : (rttSample r t).1 = r ∧ (rttCheck r = true → 1 ≤ t → 1073741824 < t) := by
  by_cases ha : rttCheck r = true ∧ 1 ≤ t ∧ t ≤ 1073741824
  · cases hh : r.has
    · rw [sample_first r t ha.1 hh ha.2.1 ha.2.2] at e; simp at e
    · rw [sample_next r t ha.1 hh ha.2.1 ha.2.2] at e; simp at e
  · rw [sample_bad r t ha]
    refine ⟨rfl, fun h1 h2 => ?_⟩
    rcases Int.lt_or_le 1073741824 t with h3 | h3
    · exact h3
    · exact absurd ⟨h1, h2, h3⟩ ha

theorem sample_ok {r : Rtt} {t : Int} (e : (rttSample r t).2 = 0) : rttCheck r = true ∧ 1 ≤ t ∧ t ≤ 1073741824 := by
  by_cases ha : rttCheck r = true ∧ 1 ≤ t ∧ t ≤ 1073741824
  · exact ha
  · rw [sample_bad r t ha] at e; simp at e

theorem between_first (r : Rtt) (t : Int) (e : (rttSample r t).2 = 0) (hh : r.has = false) :
    rttMean (rttSample r t).1 = t ∧ rttFar (rttSample r t).1 = wr .i64 (t.tdiv 2) ∧ rttCheck (rttSample r t).1 = true := by
  obtain ⟨h0, h1, h2⟩ := sample_ok e
  refine ⟨?_, ?_, sample_check r t h0⟩
  · rw [sample_first r t h0 hh h1 h2, rttMean_eq _ (by dsimp only; omega) (by dsimp only; omega)]; dsimp only; omega
  · rw [sample_first r t h0 hh h1 h2, rttFar_eq _ (by dsimp only; omega) (by dsimp only; omega), Int.tdiv_eq_ediv_of_nonneg (by omega), wr_i64 (by omega) (by omega)]; dsimp only; omega

theorem between_next (r : Rtt) (t : Int) (e : (rttSample r t).2 = 0) (hh : r.has = true) :
    mn (rttMean r) t ≤ rttMean (rttSample r t).1 ∧ rttMean (rttSample r t).1 ≤ mx (rttMean r) t ∧
    wr .i64 ((rttSample r t).1.far - r.far) ≤ mx (wr .i64 (t - rttMean r)) (wr .i64 (rttMean r - t)) ∧ 0 ≤ (rttSample r t).1.far ∧
    wr .i64 (4 * rttFar (rttSample r t).1) ≤ wr .i64 (r.far + mx (wr .i64 (t - rttMean r)) (wr .i64 (rttMean r - t))) ∧ rttCheck (rttSample r t).1 = true := by
  obtain ⟨h0, h1, h2⟩ := sample_ok e
  have hc := sample_check r t h0
  have hc' := (rttCheck_spec r).1 h0
  rw [hh] at hc'
  simp only [true_and, Bool.true_eq_false, false_and, or_false] at hc'
  have hM : rttMean r = r.mean / 8 := rttMean_eq _ (by omega) (by omega)
  rw [hM]
  rw [sample_next r t h0 hh h1 h2] at hc ⊢
  have hc2 := (rttCheck_spec _).1 hc
  simp only [true_and, Bool.true_eq_false, false_and, or_false] at hc2
  rw [rttMean_eq _ (by dsimp only; omega) (by dsimp only; omega), rttFar_eq _ (by dsimp only; omega) (by dsimp only; omega)]
  dsimp only at *
  rw [wr_i64 (n := t - r.mean / 8) (by omega) (by omega), wr_i64 (n := r.mean / 8 - t) (by omega) (by omega)]
  have hg : mx (t - r.mean / 8) (r.mean / 8 - t) = gapOf r t := by
    unfold mx gapOf
    (repeat' split) <;> omega
  have hg2 : 0 ≤ gapOf r t ∧ gapOf r t ≤ 1073741824 := by
    unfold gapOf
    split <;> omega
  rw [hg, wr_i64 (n := r.far + (gapOf r t - r.far / 4) - r.far) (by omega) (by omega), wr_i64 (n := r.far + gapOf r t) (by omega) (by omega),
    wr_i64 (n := 4 * ((r.far + (gapOf r t - r.far / 4)) / 4)) (by omega) (by omega)]
  refine ⟨?_, ?_, by omega, by omega, by omega, hc⟩
  · unfold mn; split <;> omega
  · unfold mx; split <;> omega
end Go.Proofs.Ytohafkjgdlhmbaa
