/- Loops by a family of states. -/
import Derived.Test.YtflljnaojghifaaRwx
namespace Go.Proofs.Ytflljnaojghifaa
open Go Go.RowKit
namespace R
set_option linter.unusedVariables false

def wkL (t : List (Nat × RV)) (n : Nat) : List (Nat × RV) → Prop
  | [] => True
  | p :: r => (lk t p.1 = some p.2 ∧ clo n p.2 = true) ∧ wkL t n r

theorem wkL_spec {t : List (Nat × RV)} {n : Nat} : ∀ {l : List (Nat × RV)}, wkL t n l → ∀ i v, lk l i = some v → lk t i = some v ∧ clo n v = true
  | [], _, i, v, h => by simp [lk] at h
  | p :: r, hw, i, v, h => by
    rw [lk_cons] at h
    split at h
    · rename_i e
      simp only [Option.some.injEq] at h
      subst h; subst e
      exact hw.1
    · exact wkL_spec hw.2 i v h

theorem Wk_of {S S1 : St} (ht : wkL S.t S1.m.length S1.t) (hm : preX S1.m S.m) (hc : S1.m.all (cloO S1.m.length) = true) (hx : S.x = S1.x) : Wk S S1 :=
  ⟨wkL_spec ht, by
    have : ∀ (l r : List RO), preX l r → ∃ q, r = l ++ q := by
      intro l
      induction l with
      | nil => exact fun r _ => ⟨r, rfl⟩
      | cons a l ih =>
        intro r h
        cases r with
        | nil => exact h.elim
        | cons b r =>
          obtain ⟨q, hq⟩ := ih r h.2
          exact ⟨q, by rw [hq, h.1]; rfl⟩
    exact this _ _ hm, fun k o hk => List.all_eq_true.1 hc o (List.mem_of_getElem? hk), fun b o h => hx ▸ h⟩

theorem Wk_of' {t t1 : List (Nat × RV)} {m m1 : List RO} {x : Nat → Obj → Prop} (ht : wkL t m1.length t1) (hm : preX m1 m) (hc : m1.all (cloO m1.length) = true) : Wk ⟨t, m, x⟩ ⟨t1, m1, x⟩ := Wk_of ht hm hc rfl

theorem Sd_loopA {α : Type} {P : Program} {G : Ctx} {Q : Exit → St → Prop} {S : St} {c : Code} (st : α → St) (J : α → Prop) (μ : α → Nat) (h0 : ∃ a, Wk S (st a) ∧ J a)
    (round : ∀ a, J a → Sd P G c (thenW (fun S' => ∃ b, Wk S' (st b) ∧ J b ∧ μ b < μ a) Q) (st a)) : Sd P G (.loop c) Q S := by
  have least : ∀ k a, J a → μ a = k → ∃ n b, J b ∧ st b = st a ∧ μ b = n ∧ ∀ d, J d → st d = st a → n ≤ μ d := by
    intro k
    induction k using Nat.strongRecOn with
    | _ k ih =>
      intro a ha hk
      by_cases h : ∀ d, J d → st d = st a → k ≤ μ d
      · exact ⟨k, a, ha, rfl, hk, h⟩
      · simp only [Classical.not_forall] at h
        obtain ⟨d, h1, h2, h3⟩ := h
        obtain ⟨n, b, q1, q2, q3, q4⟩ := ih (μ d) (by omega) d h1 rfl
        exact ⟨n, b, q1, q2.trans h2, q3, fun e h4 h5 => q4 e h4 (h5.trans h2.symm)⟩
  let mu : St → Nat := fun S => Classical.epsilon fun n => ∃ b, J b ∧ st b = S ∧ μ b = n ∧ ∀ d, J d → st d = S → n ≤ μ d
  have spec : ∀ a, J a → ∃ b, J b ∧ st b = st a ∧ μ b = mu (st a) ∧ ∀ d, J d → st d = st a → mu (st a) ≤ μ d := by
    intro a ha
    obtain ⟨n, h⟩ := least _ a ha rfl
    exact Classical.epsilon_spec (p := fun n => ∃ b, J b ∧ st b = st a ∧ μ b = n ∧ ∀ d, J d → st d = st a → n ≤ μ d) ⟨n, h⟩
  refine Sd_loop (fun S => ∃ a, J a ∧ st a = S) mu ?_ ?_
  · obtain ⟨a, h1, h2⟩ := h0
    exact ⟨st a, h1, a, h2, rfl⟩
  · rintro _ ⟨a, ha, rfl⟩
    obtain ⟨b, hb, e, hm, hle⟩ := spec a ha
    have := round b hb
    rw [e] at this
    refine Sd_mono this ?_
    intro e S' h
    cases e with
    | normal =>
      obtain ⟨d, h1, h2, h3⟩ := h
      obtain ⟨b2, _, _, _, hle2⟩ := spec d h2
      have := hle2 d h2 rfl
      exact ⟨st d, h1, ⟨d, h2, rfl⟩, by omega⟩
    | _ => exact h
theorem cW_loopA {α : Type} {P : Program} {G : Ctx} {Q : Exit → St → Prop} {S : St} {c : Code} (st : α → St) (J : α → Prop) (μ : α → Nat) (h0 : ∃ a, Wk S (st a) ∧ J a) (hc : cOk G.n c = true)
    (round : ∀ a, J a → cW P G c (thenW (fun S' => ∃ b, Wk S' (st b) ∧ J b ∧ μ b < μ a) Q) (st a)) : cW P G (.loop c) Q S :=
  Sd_loopA st J μ h0 fun a ha => Sd_of_cW hc (round a ha)
theorem inW_of {j : Int} {len : Nat} {K : Prop} (h : 0 ≤ j ∧ j < (len : Int)) (hK : K) : inW j len K := ⟨h, hK⟩
theorem extW_of {S : St} {g : Bool} {n b off : Nat} {K : Value → Prop} {c : Array Value} {T : TypeId} {f : Nat × Nat} {v : Value} (hx : S.x b (.cells c T f)) (hl : loadX g n off c = some v) (hK : K v) : extW S g n b off K := ⟨c, T, f, v, hx, hl, hK⟩
end R
end Go.Proofs.Ytflljnaojghifaa
