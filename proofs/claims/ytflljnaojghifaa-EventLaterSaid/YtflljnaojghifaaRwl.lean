/- Loops whose rounds hand over memory: what was the state's own is only known of from then on. -/
import Derived.Test.YtflljnaojghifaaRwo
namespace Go.Proofs.Ytflljnaojghifaa
open Go Go.RowKit
namespace R
set_option linter.unusedVariables false

section
variable {P : Program} {G : Ctx} {Q : Exit → St → Prop} {S : St}
/-- A loop by a family of states; a round's end may choose the next state by what the world is. -/
theorem Sd_loopX {α : Type} {c : Code} (st : α → St) (J : α → Prop) (μ : α → Nat) (h0 : ∃ p, WkE S (st p) ∧ J p)
    (round : ∀ p, J p → Sd P G c (thenW (fun S' => ∀ (s : Nat → Nat) (a : Act) (w : World), Rep G.bs G.w0 G.n G.ds s S' a w → ∃ q s', Rep G.bs G.w0 G.n G.ds s' (st q) a w ∧ J q ∧ μ q < μ p) Q) (st p)) : Sd P G (.loop c) Q S := by
  suffices ∀ p, J p → Sd P G (.loop c) Q (st p) by
    obtain ⟨p, hw, hi⟩ := h0
    exact fun s a w hr => by
      obtain ⟨s', hr'⟩ := hw G s a w hr
      exact this p hi s' a w hr'
  intro p hJ s a w hr
  refine wp_loop (fun a w => ∃ s p, Rep G.bs G.w0 G.n G.ds s (st p) a w ∧ J p ∧ True) (fun a w => Classical.epsilon fun k => ∃ s p, Rep G.bs G.w0 G.n G.ds s (st p) a w ∧ J p ∧ μ p = k ∧ ∀ s' p', Rep G.bs G.w0 G.n G.ds s' (st p') a w → J p' → k ≤ μ p') ⟨s, p, hr, hJ, trivial⟩ ?_
  clear hr hJ s a w p
  rintro a w ⟨s, p, hr, hJ, _⟩
  have hleast : ∀ a w s p, Rep G.bs G.w0 G.n G.ds s (st p) a w → J p → ∃ k, ∃ s p, Rep G.bs G.w0 G.n G.ds s (st p) a w ∧ J p ∧ μ p = k ∧ ∀ s' p', Rep G.bs G.w0 G.n G.ds s' (st p') a w → J p' → k ≤ μ p' := by
    intro a w
    suffices ∀ k, ∀ s p, Rep G.bs G.w0 G.n G.ds s (st p) a w → J p → μ p = k → ∃ k, ∃ s p, Rep G.bs G.w0 G.n G.ds s (st p) a w ∧ J p ∧ μ p = k ∧ ∀ s' p', Rep G.bs G.w0 G.n G.ds s' (st p') a w → J p' → k ≤ μ p' from
      fun s p h1 h2 => this _ s p h1 h2 rfl
    intro k
    induction k using Nat.strongRecOn with
    | _ k ih =>
      intro s p hr hJ hk
      by_cases hl : ∀ s' p', Rep G.bs G.w0 G.n G.ds s' (st p') a w → J p' → k ≤ μ p'
      · exact ⟨k, s, p, hr, hJ, hk, hl⟩
      · simp only [Classical.not_forall] at hl
        obtain ⟨s', p', h1, h2, h3⟩ := hl
        exact ih (μ p') (by omega) s' p' h1 h2 rfl
  obtain ⟨s1, p1, hr1, hJ1, hk1, hl1⟩ := Classical.epsilon_spec (hleast a w s p hr hJ)
  refine Code.wp_mono ?_ (round p1 hJ1 s1 a w hr1)
  rintro e a' w' ⟨s', S', h1, h2⟩
  cases e with
  | normal =>
    obtain ⟨q, s4, hr2, hJ2, hlt⟩ := h2 s' a' w' h1
    obtain ⟨s3, p3, hr3, hJ3, hk3, hl3⟩ := Classical.epsilon_spec (hleast a' w' s4 q hr2 hJ2)
    refine ⟨⟨s4, q, hr2, hJ2, trivial⟩, ?_⟩
    have := hl3 s4 q hr2 hJ2
    omega
  | _ => exact ⟨s', S', h1, h2⟩
theorem cW_loopX {α : Type} {c : Code} (st : α → St) (J : α → Prop) (μ : α → Nat) (h0 : ∃ p, WkE S (st p) ∧ J p) (hc : cOk G.n c = true)
    (round : ∀ p, J p → cW P G c (thenW (fun S' => ∀ (s : Nat → Nat) (a : Act) (w : World), Rep G.bs G.w0 G.n G.ds s S' a w → ∃ q s', Rep G.bs G.w0 G.n G.ds s' (st q) a w ∧ J q ∧ μ q < μ p) Q) (st p)) : cW P G (.loop c) Q S :=
  Sd_loopX st J μ h0 fun p hp => Sd_of_cW hc (round p hp)

end

def extL (t : List (Nat × RV)) : List (Nat × RV) → Prop
  | [] => True
  | p :: r => (lk t p.1 = some p.2 ∧ ∃ u, p.2 = .ext u) ∧ extL t r
theorem extL_spec {t : List (Nat × RV)} : ∀ {l : List (Nat × RV)}, extL t l → ∀ i v, lk l i = some v → lk t i = some v ∧ ∃ u, v = .ext u
  | [], _, i, v, h => by simp [lk] at h
  | p :: r, hw, i, v, h => by
    rw [lk_cons] at h
    split at h
    · rename_i he
      simp only [Option.some.injEq] at h
      subst h
      rw [he]
      exact hw.1
    · exact extL_spec hw.2 i v h

/-- A row that the last element of another row points to is handed over: it is known of only. -/
theorem Rep.pub {bs : List Nat} {w0 : World} {N : Nat} {ds : List Deferred} {s : Nat → Nat} {a : Act} {w : World} {t rest : List (Nat × RV)} {m : List RO} {x : Nat → Obj → Prop} {o c g cg n cap kl : Nat} {T T' : TypeId} {L Z crow : List RV}
    (hr : Rep bs w0 N ds s ⟨t, m, x⟩ a w) (ho : nthX m o = some (.cells T (L ++ [.sl c 0 n cap] ++ Z))) (hc : nthX m c = some (.cells T' crow)) (hoc : o ≠ c) (hL : ∀ v ∈ L, ∃ u, v = .ext u) (hZ : ∀ v ∈ Z, ∃ u, v = .ext u)
    (hl : lk t kl = some (.sl o 0 g cg)) (he : extL t rest) :
    Rep bs w0 N ds (fun _ => s o) ⟨(kl, .sl 0 0 g cg) :: rest, [.cells T (L ++ [.ext (.slice (some ⟨s c, 0, none⟩) n cap)] ++ Z)], fun b o' => x b o' ∨ (b = s c ∧ o' = renO s (.cells T' crow))⟩ a w := by
  rw [nthX_eq] at ho hc
  have hom := (List.getElem?_eq_some_iff.1 ho).1
  have hcm := (List.getElem?_eq_some_iff.1 hc).1
  have same : ∀ l : List RV, (∀ v ∈ l, ∃ u, v = .ext u) → l.map (ren (fun _ => s o)) = l.map (ren s) := fun l h => List.map_congr_left fun v hv => by
    obtain ⟨u, rfl⟩ := h v hv
    rfl
  have hne : s o ≠ s c := fun e => hoc (hr.mr.inj o c hom hcm e)
  refine ⟨⟨?_, ?_, ?_, ?_, ?_⟩, ?_, hr.fr, hr.size, ?_, hr.df⟩
  · intro k p hk
    match k with
    | 0 =>
      simp only [List.getElem?_cons_zero, Option.some.injEq] at hk
      subst hk
      have h1 := hr.mr.mem o _ ho
      show w.heap[s o]? = _
      rw [h1]
      simp only [renO, List.map_append, same L hL, same Z hZ]
      rfl
    | k + 1 => simp at hk
  · intro j k hj hk _
    simp only [List.length_cons, List.length_nil] at hj hk
    omega
  · intro k p hk
    match k with
    | 0 =>
      simp only [List.getElem?_cons_zero, Option.some.injEq] at hk
      subst hk
      simp only [cloO, List.all_append, Bool.and_eq_true, List.all_eq_true]
      refine ⟨⟨fun v hv => ?_, fun v hv => ?_⟩, fun v hv => ?_⟩
      · obtain ⟨u, rfl⟩ := hL v hv; rfl
      · rw [List.mem_singleton.1 hv]; rfl
      · obtain ⟨u, rfl⟩ := hZ v hv; rfl
    | k + 1 => simp at hk
  · rintro b p (hb | ⟨rfl, rfl⟩)
    · exact hr.mr.ext b p hb
    · exact hr.mr.mem c _ hc
  · rintro b p (hb | ⟨rfl, rfl⟩) k hk
    · exact hr.mr.apart b p hb o hom
    · exact hne
  · intro k hk
    exact hr.own o hom
  · intro i v hi
    rw [lk_cons] at hi
    split at hi
    · rename_i e
      simp only [Option.some.injEq] at hi
      subst hi
      rw [e]
      exact ⟨(hr.slot kl _ hl).1, rfl⟩
    · obtain ⟨h1, u, rfl⟩ := extL_spec he i v hi
      exact ⟨(hr.slot i _ h1).1, rfl⟩
end R
end Go.Proofs.Ytflljnaojghifaa
