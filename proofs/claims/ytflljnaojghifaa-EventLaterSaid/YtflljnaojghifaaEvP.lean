/- Events (layer 20): plain laws: parts, and the good ones alone. -/
import Derived.Test.YtflljnaojghifaaLaw20d
namespace Go.Proofs.Ytflljnaojghifaa
open Go Go.RowKit Go.Proofs.Ytflljnaojghifaa.R
set_option linter.unusedSimpArgs false
set_option linter.unusedVariables false
set_option maxRecDepth 50000
set_option maxHeartbeats 4000000

def evErr (rs : Nat → Raw) (i : Nat) : Int := (evStep (evDec (rs i).len (rs i).zs) (evUp rs i).1).1

theorem evUp_part (rs : Nat → Raw) (k : Nat) : ∀ d, ∃ o b, (evUp rs (k + d)).2.1 = (evUp rs k).2.1 ++ o ∧ (evUp rs (k + d)).2.2 = (evUp rs k).2.2 ++ b
  | 0 => ⟨[], [], by simp, by simp⟩
  | d + 1 => by
    obtain ⟨o, b, h1, h2⟩ := evUp_part rs k d
    rw [show k + (d + 1) = (k + d) + 1 by omega]
    simp only [evUp]
    refine ⟨if (evStep (evDec (rs (k + d)).len (rs (k + d)).zs) (evUp rs (k + d)).1).1 = 0 then o ++ [(evDec (rs (k + d)).len (rs (k + d)).zs).1] else o, b ++ [(evStep (evDec (rs (k + d)).len (rs (k + d)).zs) (evUp rs (k + d)).1).1], ?_, ?_⟩
    · rw [h1]
      split
      · rw [List.append_assoc]
      · rfl
    · rw [h2, List.append_assoc]
theorem evUp_take (rs : Nat → Raw) {k n : Nat} (h : k ≤ n) : (evUp rs k).2.1.length ≤ (evUp rs n).2.1.length ∧ (evUp rs n).2.1.take (evUp rs k).2.1.length = (evUp rs k).2.1 ∧ (evUp rs n).2.2.take k = (evUp rs k).2.2 := by
  obtain ⟨o, b, h1, h2⟩ := evUp_part rs k (n - k)
  rw [show k + (n - k) = n by omega] at h1 h2
  refine ⟨by rw [h1, List.length_append]; omega, by rw [h1]; exact List.take_left' rfl, ?_⟩
  rw [h2]
  exact List.take_left' (evUp_len rs k).2
theorem evErr_get (rs : Nat → Raw) {i n : Nat} (h : i < n) : (evUp rs n).2.2[i]? = some (evErr rs i) := by
  have h1 := (evUp_take rs (show i + 1 ≤ n from h)).2.2
  have h2 : ((evUp rs n).2.2.take (i + 1))[i]? = (evUp rs n).2.2[i]? := by rw [List.getElem?_take, if_pos (by omega)]
  rw [← h2, h1, evUp]
  rw [List.getElem?_append_right (by rw [(evUp_len rs i).2]; exact Nat.le_refl _), (evUp_len rs i).2, Nat.sub_self]
  rfl
theorem evUp_congr {f g : Nat → Raw} : ∀ {m : Nat}, (∀ j, j < m → f j = g j) → evUp f m = evUp g m
  | 0, _ => rfl
  | m + 1, h => by
    have ih := evUp_congr (f := f) (g := g) (m := m) fun j hj => h j (by omega)
    rw [evUp, evUp, ih, h m (by omega)]

def rawZ : Raw := ⟨none, 0, 0, fun _ => 0⟩
def goods (rs : Nat → Raw) : Nat → List Raw
  | 0 => []
  | i + 1 => if evErr rs i = 0 then goods rs i ++ [rs i] else goods rs i
theorem goods_len (rs : Nat → Raw) : ∀ i, (goods rs i).length ≤ i
  | 0 => Nat.le_refl _
  | i + 1 => by
    have := goods_len rs i
    rw [goods]
    split
    · rw [List.length_append]; simp; omega
    · omega
theorem goods_up (rs : Nat → Raw) : ∀ i, evUp (fun j => (goods rs i).getD j rawZ) (goods rs i).length = ((evUp rs i).1, (evUp rs i).2.1, List.replicate (goods rs i).length 0) ∧ (goods rs i).length = (evUp rs i).2.1.length
  | 0 => ⟨rfl, rfl⟩
  | i + 1 => by
    obtain ⟨h1, h2⟩ := goods_up rs i
    rw [goods, evUp]
    rcases evStep_cases _ _ _ (rfl : evDec (rs i).len (rs i).zs = _) (evUp rs i).1 with ⟨q1, q2, q3⟩ | ⟨e, q1, q2⟩
    · have he : evErr rs i = 0 := by unfold evErr; rw [q2]
      rw [if_pos he]
      rw [q2]
      simp only [if_true]
      refine ⟨?_, by rw [List.length_append, List.length_append, h2]; rfl⟩
      rw [List.length_append]
      show evUp _ ((goods rs i).length + 1) = _
      have hc : evUp (fun j => (goods rs i ++ [rs i]).getD j rawZ) (goods rs i).length = evUp (fun j => (goods rs i).getD j rawZ) (goods rs i).length := evUp_congr fun j hj => by
        simp only [List.getD_eq_getElem?_getD]
        rw [List.getElem?_append_left hj]
      have hl : (goods rs i ++ [rs i]).getD (goods rs i).length rawZ = rs i := by simp
      rw [evUp, hc, h1, hl]
      dsimp only
      rw [q2]
      simp only [if_true]
      rw [show (goods rs i).length + [rs i].length = (goods rs i).length + 1 from rfl, List.replicate_succ']
    · have he : ¬ evErr rs i = 0 := by unfold evErr; rw [q2]; exact q1
      rw [if_neg he, q2]
      simp only [if_neg q1]
      exact ⟨h1, h2⟩

theorem RowAt.cut {x : Nat → Obj → Prop} {a : Option Addr} {z n cap m : Nat} {vals : List Value} (h : RowAt x a z n cap vals) (hm : m ≤ n) : RowAt x a z m cap (vals.take (m * z)) := by
  obtain ⟨h1, h2⟩ := h
  have hz : m * z ≤ n * z := Nat.mul_le_mul_right _ hm
  refine ⟨by rw [List.length_take]; omega, ?_⟩
  rcases h2 with ⟨q1, q2, q3⟩ | ⟨b, c, T, f, q1, q2, q3, q4, q5⟩
  · exact .inl ⟨q1, by omega, q3⟩
  · refine .inr ⟨b, c, T, f, q1, q2, ?_, by omega, q5⟩
    rw [← q3, List.take_take, Nat.min_eq_left hz]
theorem evVals_take : ∀ (l : List Ev) (m : Nat), (evVals l).take (m * 4) = evVals (l.take m)
  | [], m => by simp [evVals]
  | e :: l, 0 => by simp [evVals]
  | e :: l, m + 1 => by
    simp only [evVals, List.take_succ_cons, show (m + 1) * 4 = m * 4 + 4 by omega, List.cons_append, List.nil_append]
    rw [evVals_take l m]
theorem erVals_take (l : List Int) (m : Nat) : (erVals l).take (m * 1) = erVals (l.take m) := by simp [erVals]
theorem RowAt.len_cap {x : Nat → Obj → Prop} {a : Option Addr} {z n cap : Nat} {vals : List Value} (h : RowAt x a z n cap vals) : n ≤ cap := by
  rcases h.2 with ⟨_, h2, h3⟩ | ⟨_, _, _, _, _, _, _, h4, _⟩
  · omega
  · exact h4

/-- A slice of what came in, from its beginning. -/
def slA (a : Option Addr) (cap : Nat) : Option Addr := if cap = 0 then a else a.map (·.add 0)
theorem sl_hi {P : Program} {t e : TypeId} {a : Option Addr} {len cap : Nat} {k : IntKind} {z : Int} {K : Value → Prop} (ht : P.underlying t = some (.slice e)) (hi : (P.info? e).isSome = true) (hz : 0 ≤ z ∧ z ≤ cap) (h : K (.slice (slA a cap) z.toNat cap)) :
    pureW P (Instr.sliceAt t (.slice a len cap) none (some (.int k z)) none) K := by
  obtain ⟨i, hi⟩ := Option.isSome_iff_exists.1 hi
  refine ⟨_, fun w => ?_, h⟩
  have hz' : 0 ≤ z ∧ z ≤ (cap : Int) := hz
  simp [Instr.sliceAt, Instr.slice, run_underlying ht, Instr.sliceBounds, Instr.sliceBound, asIntOf, hz', sizeOf, typeInfo, hi, slA]
end Go.Proofs.Ytflljnaojghifaa
