/- Regions that draw their order and make memory: what is quiet may be taken first. -/
import Derived.Test.YtflljnaojghifaaRww
import Derived.OrdersHeld
import Derived.Deep.RegionHeld3
namespace Go.Proofs.Ytflljnaojghifaa
open Go Go.RowKit
namespace R
set_option linter.unusedVariables false

section
variable {P : Program} {ops : Array Oper} {Q : Exit → Act → World → Prop} {md : Region.Mode} {D : World → Prop}

theorem wp_of_at {C : World → Prop} {o : Oper} {a : Act} {v : Value} {K' : Act → World → Prop} {w : World} (hw : C w) (hK : ∀ w', C w' → K' (a.put o.dst v) w') (h3 : o.quietAt P a C w v) : o.wp P a w K' Q := by
  unfold Oper.quietAt at h3
  unfold Oper.wp
  generalize (execOp a.eval o).run P w = r at *
  cases r with
  | ok n w' =>
    cases n <;> simp only [Oper.quietUpon] at h3 <;> simp only [Oper.upon]
    case value u =>
      obtain ⟨e1, e2⟩ := h3
      rw [e1, e2]
      exact hK _ hw
    case skip =>
      obtain ⟨e1, e2⟩ := h3
      rw [e1, ← e2]
      exact hK _ hw
    case enter f args =>
      obtain ⟨e1, hc⟩ := h3
      rw [e1]
      exact hc.mono fun e w'' ⟨he, hw''⟩ => by subst he; exact hK _ hw''
  | halt x w' => simp only [Oper.quietUpon] at h3

/-- In state 'a', in every world of D, operation 'o' leaves 'v'. -/
def Yq (P : Program) (ops : Array Oper) (D : World → Prop) (o : Oper) (v : Value) (a : Act) : Prop :=
  (Region.wanted o (yielded ops a.tmps) = true ∧ ∀ w, D w → o.quietAt P a (fun w' => Fr [] w w') w v) ∨
  (Region.wanted o (yielded ops a.tmps) = false ∧ v = undef)

theorem Yq.of_same {o : Oper} {v : Value} {a a' : Act} (hy : Yq P ops D o v a) (he : execOp a'.eval o = execOp a.eval o)
    (hw : Region.wanted o (yielded ops a'.tmps) = Region.wanted o (yielded ops a.tmps)) : Yq P ops D o v a' := by
  unfold Yq Oper.quietAt at *
  rw [he, hw]
  exact hy

theorem Yq.wpOp {i : Nat} {o : Oper} {v : Value} {a : Act} (hi : ops[i]? = some o) (hy : Yq P ops D o v a)
    {K : Act → World → Prop} {w : World} (hD : D w) (h : ∀ w', Fr [] w w' → K (a.put o.dst v) w') : wpOp P ops Q i K a w := by
  unfold Go.wpOp
  simp only [hi]
  rcases hy with ⟨hw, hv⟩ | ⟨hw, rfl⟩
  · simp only [hw, if_true]; exact .inl (wp_of_at (Fr.refl _ _) h (hv w hD))
  · simp only [hw, Bool.false_eq_true, if_false]; exact h _ (Fr.refl _ _)

theorem wpOp_putY {j : Nat} {oi oj : Oper} {v : Value} (hj : ops[j]? = some oj) (hap : oi.apart ops oj = true)
    (hsi : ∀ cs b, oi.op ≠ .select cs b) (hsj : ∀ cs b, oj.op ≠ .select cs b)
    (hQ : ∀ c a w, Q (.panic c) (a.put oi.dst v) w → Q (.panic c) a w) {K : Act → World → Prop} {a : Act} {w : World}
    (hy : Yq P ops D oi v a) (h : wpOp P ops Q j K (a.put oi.dst v) w) :
    wpOp P ops Q j (fun a' w' => Yq P ops D oi v a' ∧ K (a'.put oi.dst v) w') a w := by
  obtain ⟨h1, h2, h3⟩ := Oper.apart_spec hap
  have keep : ∀ (a : Act), Yq P ops D oi v a → ∀ u, Yq P ops D oi v (a.put oj.dst u) := fun a hy u =>
    hy.of_same (execOp_put oi hsi a oj.dst u h3) (wanted_put oi a oj.dst u h3)
  have keepD : ∀ d, Yq P ops D oi v { a with defers := d :: a.defers } := fun d => hy.of_same rfl rfl
  unfold Go.wpOp at *
  simp only [hj] at *
  rw [wanted_put oj a oi.dst v h1] at h
  split
  · rename_i hw
    simp only [hw, if_true] at h
    rcases h with h | ⟨hasks, hlets⟩
    case inr => exact .inr ⟨by unfold Oper.asks at *; rw [execOp_put oj hsj a oi.dst v h1] at hasks; exact hasks, hlets⟩
    refine .inl ?_
    unfold Oper.wp at *
    rw [execOp_put oj hsj a oi.dst v h1] at h
    generalize (execOp a.eval oj).run P w = r at *
    cases r with
    | ok n w' =>
      cases n <;> simp only [Oper.upon] at h ⊢
      case value u => exact ⟨keep a hy u, by rw [← Act.put_comm a v u h2]; exact h⟩
      case skip => exact ⟨keep a hy _, by rw [← Act.put_comm a v undef h2]; exact h⟩
      case defer d =>
        refine ⟨keep _ (keepD d) _, ?_⟩
        rw [← Act.put_comm _ v undef h2, ← Act.put_defers]
        exact h
      case enter f args =>
        refine Calls.mono h fun e w'' he => ?_
        cases e with
        | returned u => exact ⟨keep a hy u, by rw [← Act.put_comm a v u h2]; exact he⟩
        | panicked c => exact hQ _ _ _ he
        | outgrown => exact he
      case row row args => exact Rows.mono h fun u w'' he => ⟨keep a hy u, by rw [← Act.put_comm a v u h2]; exact he⟩
    | halt x w' =>
      cases x <;> simp only [Oper.upon] at h ⊢
      case panic u => exact hQ _ _ _ h
  · rename_i hw
    simp only [hw, Bool.false_eq_true, if_false] at h
    exact ⟨keep a hy _, by rw [← Act.put_comm a v undef h2]; exact h⟩

/-- Whatever order is picked, in whatever later world. -/
def wpX (P : Program) (md : Region.Mode) (ops : Array Oper) (Q : Exit → Act → World → Prop) (D : World → Prop) : Nat → Array Bool → Act → World → Prop
  | 0, listed, a, w => Region.ready md ops listed = [] ∧ Q .normal a w
  | f + 1, listed, a, w =>
    (Region.ready md ops listed = [] → Q .normal a w) ∧
    ∀ i ∈ Region.ready md ops listed, wpOp P ops Q i (fun a' w' => D w' ∧ ∀ w'', Fr [] w' w'' → wpX P md ops Q D f (listed.setIfInBounds i true) a' w'') a w

theorem wpAny_of_X : ∀ (f : Nat) (listed : Array Bool) (a : Act) (w : World), wpX P md ops Q D f listed a w → wpAny P md ops Q f listed a w
  | 0, _, _, _, h => h
  | f + 1, _, _, _, h => ⟨h.1, fun i hi => wpOp_mono (fun a' w' h' => wpAny_of_X f _ a' w' (h'.2 w' (Fr.refl _ _))) (h.2 i hi)⟩

theorem wpX_first {i : Nat} {oi : Oper} {v : Value} (hi : ops[i]? = some oi) (hsel : ∀ (j : Nat) (o : Oper) cs b, ops[j]? = some o → o.op ≠ .select cs b)
    (hQ : ∀ c a w, Q (.panic c) (a.put oi.dst v) w → Q (.panic c) a w) (hD : ∀ w w', D w → Fr [] w w' → D w') :
    ∀ (f : Nat) (listed : Array Bool) (a : Act) (w : World),
      (∀ j oj, ops[j]? = some oj → j ≠ i → listed.getD j true = false → (∀ e ∈ oj.after, Region.binds md e = true → e.on ≠ i) → oi.apart ops oj = true) →
      i ∈ Region.ready md ops listed → Yq P ops D oi v a → D w →
      (∀ w', Fr [] w w' → wpX P md ops Q D f (listed.setIfInBounds i true) (a.put oi.dst v) w') → wpX P md ops Q D (f + 1) listed a w := by
  intro f
  induction f with
  | zero =>
    intro listed a w _ hr hy hd H
    refine ⟨fun h => (by rw [h] at hr; cases hr), fun j hj => ?_⟩
    by_cases hji : j = i
    · subst hji; exact hy.wpOp hi hd fun w' hw' => ⟨hD _ _ hd hw', fun w'' hw'' => H w'' (hw'.trans hw'')⟩
    · have := ready_mono hj hji
      rw [(H w (Fr.refl _ _)).1] at this
      cases this
  | succ f ih =>
    intro listed a w hfree hr hy hd H
    have hun := (mem_ready.1 hr).1
    refine ⟨fun h => (by rw [h] at hr; cases hr), fun j hj => ?_⟩
    by_cases hji : j = i
    · subst hji; exact hy.wpOp hi hd fun w' hw' => ⟨hD _ _ hd hw', fun w'' hw'' => H w'' (hw'.trans hw'')⟩
    · have h1 := (H w (Fr.refl _ _)).2 j (ready_mono hj hji)
      obtain ⟨hjun, oj, hoj, hall⟩ := mem_ready.1 hj
      have hnot : ∀ e ∈ oj.after, Region.binds md e = true → e.on ≠ i := fun e he hb heq => by
        have h1 := hall e he hb
        rw [heq, getD_both hun] at h1
        cases h1
      have h2 := wpOp_putY hoj (hfree j oj hoj hji hjun hnot) (fun cs b => hsel i oi cs b hi) (fun cs b => hsel j oj cs b hoj) hQ hy h1
      have hfree' : ∀ k ok, ops[k]? = some ok → k ≠ i → (listed.setIfInBounds j true).getD k true = false →
          (∀ e ∈ ok.after, Region.binds md e = true → e.on ≠ i) → oi.apart ops ok = true := fun k ok hk hki hun hno => by
        refine hfree k ok hk hki ?_ hno
        by_cases hjk : j = k
        · subst hjk; exact hjun
        · rw [getD_set_ne true hjk] at hun; exact hun
      refine wpOp_mono (fun a' w' h3 => ⟨h3.2.1, fun w'' hw'' => ih (listed.setIfInBounds j true) a' w'' hfree' (ready_mono hr (Ne.symm hji)) h3.1 (hD _ _ h3.2.1 hw'') ?_⟩) h2
      intro w3 hw3
      rw [Array.setIfInBounds_comm _ _ hji]
      exact h3.2.2 w3 (hw''.trans hw3)

/-- The quiet head. -/
def headR (P : Program) (ops : Array Oper) (D : World → Prop) (L : Act → Prop) : List Oper → Act → Prop
  | [], a => L a
  | o :: l, a => ∃ v, Yq P ops D o v a ∧ headR P ops D L l (a.put o.dst v)

theorem wpX_lex {g n : Nat} {L : Act → Prop} (hsel : Region.noSelect ops = true) (hQ : ∀ c a d v w, Q (.panic c) (a.put d v) w → Q (.panic c) a w) (hD : ∀ w w', D w → Fr [] w w' → D w')
    (hL : ∀ listed a w, Region.seqB md ops g n listed = true → L a → D w → wpX P md ops Q D g listed a w) :
    ∀ (l : List Oper) (k : Nat) (listed : Array Bool) (a : Act) (w : World), (∀ j, j < l.length → l[j]? = ops[k + j]?) → k + l.length = n →
    Region.lexHead md ops g l.length k listed = true → headR P ops D L l a → D w → wpX P md ops Q D (l.length + g) listed a w
  | [], k, listed, a, w, _, hk, hB, h, hd => by
    have : k = n := by simpa using hk
    subst this
    simp only [List.length_nil, Nat.zero_add]
    exact hL listed a w (by simpa [Region.lexHead] using hB) h hd
  | o :: l, k, listed, a, w, hl, hk, hB, h, hd => by
    have h0 : ops[k]? = some o := by simpa using (hl 0 (by simp)).symm
    simp only [List.length_cons, Region.lexHead, Bool.and_eq_true] at hB
    obtain ⟨⟨hr, hf⟩, hB'⟩ := hB
    have hr' : k ∈ Region.ready md ops listed := by simpa using hr
    obtain ⟨v, hy, hK⟩ := h
    rw [List.length_cons, show l.length + 1 + g = (l.length + g) + 1 by omega]
    exact wpX_first h0 (Region.noSelect_spec hsel) (fun c a w => hQ c a _ _ w) hD _ listed a w (Region.free_spec h0 hf) hr' hy hd fun w' hw' =>
      wpX_lex hsel hQ hD hL l (k + 1) _ _ w' (fun j hj => by have := hl (j + 1) (by simp; omega); simpa [Nat.add_assoc, Nat.add_comm 1 j] using this) (by simp only [List.length_cons] at hk; omega) hB' hK (hD _ _ hd hw')
end

def lexLB (ops : Array Oper) (n : Nat) : Bool := Region.noSelect ops && decide (n ≤ ops.size) && Region.lexHead .any ops (ops.size - n) n 0 (Array.replicate ops.size false)

/-- What stood before stands. -/
def preX : List RO → List RO → Prop
  | [], _ => True
  | _ :: _, [] => False
  | a :: l, b :: r => a = b ∧ preX l r
theorem preX_nil {r : List RO} : preX [] r = True := propext ⟨fun h => h, fun h => h⟩
theorem preX_cons {a : RO} {l r : List RO} : preX (a :: l) (a :: r) = preX l r := propext ⟨fun h => h.2, fun h => ⟨rfl, h⟩⟩
@[congr] theorem preX_congr {l l' r r' : List RO} (h : hold l = l') (h2 : hold r = r') : preX l r = preX l' r' := by rw [← h, ← h2]; rfl
theorem preX_get : ∀ {l r : List RO}, preX l r → ∀ (k : Nat) (o : RO), l[k]? = some o → r[k]? = some o
  | [], _, _, _, _, h => by simp at h
  | _ :: _, [], h, _, _, _ => h.elim
  | a :: l, b :: r, h, 0, o, hk => by simp at hk ⊢; exact h.1 ▸ hk
  | a :: l, b :: r, h, k + 1, o, hk => by simp at hk ⊢; exact preX_get h.2 k o hk
theorem preX_len : ∀ {l r : List RO}, preX l r → l.length ≤ r.length
  | [], _, _ => Nat.zero_le _
  | _ :: _, [], h => h.elim
  | a :: l, b :: r, h => Nat.succ_le_succ (preX_len h.2)
theorem preX_refl : ∀ (l : List RO), preX l l
  | [] => trivial
  | _ :: l => ⟨rfl, preX_refl l⟩

/-- The loud tail, in its forced order. -/
def tailW (P : Program) (m : List RO) (x : Nat → Obj → Prop) : List Oper → St → (St → Prop) → Prop
  | [], S, K => K S
  | o :: r, S, K => match o.guard with
    | none => opW P false S o (fun v S' => preX m S'.m ∧ S'.x = x ∧ tailW P m x r (S'.put o.dst v) K) (fun _ _ => False)
    | some _ => False
@[congr] theorem tailW_congr {P : Program} {m : List RO} {x : Nat → Obj → Prop} {l : List Oper} {S S' : St} {K : St → Prop} (h : hold S = S') : tailW P m x l S K = tailW P m x l S' K := by rw [← h]; rfl
theorem tailW_nil {P : Program} {m : List RO} {x : Nat → Obj → Prop} {S : St} {K : St → Prop} : tailW P m x [] S K = K S := propext ⟨fun h => h, fun h => h⟩
theorem tailW_none {P : Program} {m : List RO} {x : Nat → Obj → Prop} {S : St} {K : St → Prop} {d : Option Nat} {op : Op} {ty : TypeId} {pos : String} {af : Array Edge} {r : List Oper} :
    tailW P m x (⟨d, op, ty, pos, af, none⟩ :: r) S K = opW P false S ⟨d, op, ty, pos, af, none⟩ (fun v S' => preX m S'.m ∧ S'.x = x ∧ tailW P m x r (S'.put d v) K) (fun _ _ => False) := propext ⟨fun h => h, fun h => h⟩

section
variable {P : Program} {ops : Array Oper} {bs : List Nat} {w0 : World} {n : Nat} {ds : List Deferred} {s : Nat → Nat} {m : List RO} {x : Nat → Obj → Prop}

theorem mem_pre {s' : Nat → Nat} {M : List RO} {w w' : World} (h0 : Mem s m x w) (h : Mem s' M x w') (hp : preX m M) (ha : ∀ k, k < m.length → s' k = s k) : Mem s m x w' :=
  ⟨fun k o hk => by
      have hlt := (List.getElem?_eq_some_iff.1 hk).1
      have := h.mem k o (preX_get hp k o hk)
      rw [ha k hlt, renO_congr ha (h0.cm k o hk)] at this
      exact this,
    h0.inj, h0.cm, h.ext, h0.apart⟩

theorem wpX_seq {Q : Exit → Act → World → Prop} {K : St → Prop} {wS : World} (hM0 : Mem s m x wS)
    (hK : ∀ s S a w, Rep bs w0 n ds s S a w → K S → Q .normal a w) :
    ∀ (l : List Oper) (k : Nat) (listed : Array Bool) (s' : Nat → Nat) (S : St) (a : Act) (w : World), (∀ j, l[j]? = ops[k + j]?) → Region.seqB .any ops l.length k listed = true → dOk n l = true →
      Rep bs w0 n ds s' S a w → preX m S.m → S.x = x → (∀ i, i < m.length → s' i = s i) → tailW P m x l S K →
      wpX P .any ops Q (fun w' => Mem s m x w' ∧ Fr bs w0 w') l.length listed a w
  | [], _, _, s', S, a, w, _, hB, _, hr, _, _, _, h => ⟨by simpa [Region.seqB] using hB, hK s' S a w hr h⟩
  | o :: l, k, listed, s', S, a, w, hl, hB, hd, hr, hp, hx, ha, h => by
    obtain ⟨hd1, hd2⟩ := dOk_cons hd
    have h0 : ops[k]? = some o := by simpa using (hl 0).symm
    simp only [List.length_cons, Region.seqB, Bool.and_eq_true, decide_eq_true_eq] at hB
    refine ⟨fun h1 => (by rw [hB.1] at h1; cases h1), fun i hi => ?_⟩
    rw [hB.1] at hi
    have hik : i = k := by simpa using hi
    subst hik
    unfold tailW at h
    unfold wpOp
    simp only [h0]
    cases hg : o.guard with
    | some g => simp only [hg] at h
    | none =>
      simp only [hg] at h
      simp only [Region.wanted, hg, if_true]
      refine .inl (opW_sound hr h (fun s2 v S2 w2 hag hv hr2 hk => ?_) (fun u s2 S2 w2 _ hp => hp.elim))
      obtain ⟨k1, k2, k3⟩ := hk
      have ha2 : ∀ i, i < m.length → s2 i = s i := fun i hi => (hag i (Nat.lt_of_lt_of_le hi (preX_len hp))).trans (ha i hi)
      have hM2 := hr2.mr
      rw [k2] at hM2
      refine ⟨⟨mem_pre hM0 hM2 k1 ha2, hr2.fr⟩, fun w3 hw3 => ?_⟩
      have hr3 := (hr2.put hd1 hv).step (by rw [St.put_m, St.put_x]; exact hr2.mr.keep hw3) (hw3.mono (by simp))
      exact wpX_seq hM0 hK l (i + 1) _ s2 _ _ w3 (fun j => by have := hl (j + 1); simpa [Nat.add_assoc, Nat.add_comm 1 j] using this) hB.2 hd2 hr3 (by rw [St.put_m]; exact k1) (by rw [St.put_x]; exact k2) ha2 k3

theorem headW_R {K : St → Prop} {wS : World} {D : World → Prop} (hD : ∀ w, D w → Mem s m x w) (hall : dOk n ops.toList = true) :
    ∀ (l : List Oper) (S : St) (a : Act), dOk n l = true → S.m = m → S.x = x → Sl s S a → Mem s m x wS → a.tmps.size = n → a.defers = ds → headW P ops l S K →
      headR P ops D (fun a' => ∃ S', S'.m = m ∧ S'.x = x ∧ Sl s S' a' ∧ a'.tmps.size = n ∧ a'.defers = ds ∧ K S') l a
  | [], S, a, _, hm, hx, hs, _, hz, hdf, h => ⟨S, hm, hx, hs, hz, hdf, h⟩
  | o :: l, S, a, hd, hm, hx, hs, hM, hz, hdf, h => by
    obtain ⟨hd1, hd2⟩ := dOk_cons hd
    have putSl : ∀ (S : St) (v : RV), Sl s S a → clo S.m.length v = true → Sl s (S.put o.dst v) (a.put o.dst (ren s v)) ∧ (a.put o.dst (ren s v)).tmps.size = n ∧ (a.put o.dst (ren s v)).defers = ds := by
      intro S v hs hv
      cases ho : o.dst with
      | none => exact ⟨hs, hz, hdf⟩
      | some d =>
        have hdn := hd1 d ho
        refine ⟨?_, by simp [Act.put, hz], hdf⟩
        intro i u hi
        simp only [St.put, lk_cons] at hi
        simp only [Act.put]
        rw [getD_set (by rw [hz]; exact hdn)]
        by_cases hid : i = d
        · simp only [hid, if_true, Option.some.injEq] at hi ⊢
          subst hi
          exact ⟨rfl, hv⟩
        · simp only [hid, if_false] at hi ⊢
          exact hs i u hi
    have run : ∀ S : St, S.m = m → S.x = x → Sl s S a → Region.wanted o (yielded ops a.tmps) = true → opW P true S o (fun v S' => headW P ops l (S'.put o.dst v) K) (fun _ _ => False) →
        headR P ops D (fun a' => ∃ S', S'.m = m ∧ S'.x = x ∧ Sl s S' a' ∧ a'.tmps.size = n ∧ a'.defers = ds ∧ K S') (o :: l) a := by
      intro S hm hx hs hw h
      have hM' : Mem s S.m S.x wS := by rw [hm, hx]; exact hM
      obtain ⟨v, h1, h2, h3⟩ := opW_quiet hs hM' h
      obtain ⟨p1, p2, p3⟩ := putSl S v hs h1
      refine ⟨ren s v, .inl ⟨hw, fun w' hw' => h3 s a _ w' hs (by rw [hm, hx]; exact hD w' hw') (fun w2 hw2 => hw2)⟩, ?_⟩
      exact headW_R hD hall l _ _ hd2 (by rw [St.put_m, hm]) (by rw [St.put_x, hx]) p1 hM p2 p3 h2
    have no : ∀ S : St, S.m = m → S.x = x → Sl s S a → Region.wanted o (yielded ops a.tmps) = false → headW P ops l (S.put o.dst (.ext undef)) K →
        headR P ops D (fun a' => ∃ S', S'.m = m ∧ S'.x = x ∧ Sl s S' a' ∧ a'.tmps.size = n ∧ a'.defers = ds ∧ K S') (o :: l) a := by
      intro S hm hx hs hw h
      obtain ⟨p1, p2, p3⟩ := putSl S (.ext undef) hs rfl
      exact ⟨undef, .inr ⟨hw, rfl⟩, headW_R hD hall l _ _ hd2 (by rw [St.put_m, hm]) (by rw [St.put_x, hx]) p1 hM p2 p3 h⟩
    unfold headW at h
    cases hg : o.guard with
    | none =>
      simp only [hg] at h
      exact run S hm hx hs (by simp only [Region.wanted, hg]) h
    | some g =>
      obtain ⟨j, want⟩ := g
      simp only [hg] at h
      obtain ⟨y, hy, h⟩ := bindV_out h
      obtain ⟨hyl, hys⟩ := yd_sl hs hz hall (fun o ho => Array.mem_toList_iff.2 (Array.mem_of_getElem? ho)) hy
      cases y with
      | no =>
        simp only [gdW] at h
        exact no S hm hx hs (by simp only [Region.wanted, hg, hyl]; rfl) h
      | yes d b =>
        unfold gdW at h
        have h := ifB_out h
        have hs2 := hys d b rfl
        by_cases hc : b = want
        · subst hc
          simp only [beq_self_eq_true] at h
          exact run (S.put (some d) (.ext (.bool b))) hm hx hs2 (by simp only [Region.wanted, hg, hyl, beq_self_eq_true]) h
        · have hb : (b == want) = false := by simpa using hc
          simp only [hb] at h
          have : (some b == some want) = false := by simpa using hc
          exact no (S.put (some d) (.ext (.bool b))) hm hx hs2 (by simp only [Region.wanted, hg, hyl, this]) h
end

section
variable {P : Program} {G : Ctx} {Q : Exit → St → Prop} {S : St}

theorem Sd_drawL {id : Nat} {ops : Array Oper} (k : Nat) (hm : P.follows .mixedOrders = true) (hd : dOk G.n ops.toList = true) (hB : lexLB ops k = true)
    (h : headW P ops (ops.toList.take k) S fun S' => tailW P S.m S.x (ops.toList.drop k) S' (Q .normal)) : Sd P G (.region id ops true) Q S := fun s a w hr => by
  have hr' := hr.drew
  have hdt : dOk G.n (ops.toList.take k) = true := List.all_eq_true.2 fun o ho => List.all_eq_true.1 hd o (List.mem_of_mem_take ho)
  have hdd : dOk G.n (ops.toList.drop k) = true := List.all_eq_true.2 fun o ho => List.all_eq_true.1 hd o (List.mem_of_mem_drop ho)
  simp only [lexLB, Bool.and_eq_true, decide_eq_true_eq] at hB
  obtain ⟨⟨hsel, hn⟩, hlex⟩ := hB
  have htl : (ops.toList.take k).length = k := by simp; omega
  have hdl : (ops.toList.drop k).length = ops.size - k := by simp
  refine wp_region_noPanic (wp_region_any hm (wpAny_of_X (D := fun w' => Mem s S.m S.x w' ∧ Fr G.bs G.w0 w') _ _ _ _ ?_))
  have hq := headW_R (wS := w) (ds := G.ds) (D := fun w' => Mem s S.m S.x w' ∧ Fr G.bs G.w0 w') (fun _ h => h.1) hd (ops.toList.take k) S a hdt rfl rfl hr'.sl hr.mr hr'.size hr'.df h
  have := wpX_lex (md := .any) (g := ops.size - k) (n := k) (Q := NoPanic fun e a w => ∃ s S, Rep G.bs G.w0 G.n G.ds s S a w ∧ Q e S) hsel (fun _ _ _ _ _ h => h.elim)
    (fun w1 w2 h1 h2 => ⟨h1.1.keep h2, h1.2.trans (h2.mono (by simp))⟩) (fun listed a' w' hs hL hDw => by
      obtain ⟨S', h1, h2, h3, h4, h5, h6⟩ := hL
      have hrep : Rep G.bs G.w0 G.n G.ds s S' a' w' :=
        ⟨by rw [h1, h2]; exact hDw.1, fun k hk => hr.own k (by rw [← h1]; exact hk), hDw.2, h4, h3, h5⟩
      have hseq := wpX_seq (ops := ops) (Q := NoPanic fun e a w => ∃ s S, Rep G.bs G.w0 G.n G.ds s S a w ∧ Q e S) (K := Q .normal) hr.mr
        (fun s S a w hr h => ⟨s, S, hr, h⟩) (ops.toList.drop k) k listed s S' a' w' (fun j => by simp [List.getElem?_drop]) (by rw [hdl]; exact hs) hdd hrep (by rw [h1]; exact preX_refl _) h2 (fun _ _ => rfl) h6
      rw [hdl] at hseq
      exact hseq)
    (ops.toList.take k) 0 (Array.replicate ops.size false) a { w with drawn := w.drawn + 1 } (fun j hj => by
      have hj' : j < k := by rw [htl] at hj; exact hj
      simp [hj']) (by rw [Nat.zero_add]; exact htl) (by rw [htl]; exact hlex) hq ⟨hr'.mr, hr'.fr⟩
  rw [htl, show k + (ops.size - k) = ops.size by omega] at this
  exact this

def lxL (f : Func) (i k : Nat) : Bool := match rgF f i with
  | some ops => lexLB ops k
  | none => false
theorem cW_drawLF {f : Func} {i : Nat} {l : List Oper} (k : Nat) (hl : lxL f i k = true) (he : rgF f i = some l.toArray) (hm : P.follows .mixedOrders = true) (hd : dOk G.n l = true)
    (h : ∀ l1 l2, l.take k = l1 → l.drop k = l2 → headW P l.toArray l1 S fun S' => tailW P S.m S.x l2 S' (Q .normal)) : cW P G (.region i l.toArray true) Q S :=
  Sd_drawL (ops := l.toArray) k hm (by simpa using hd) (by rw [lxL, he] at hl; exact hl) (h _ _ rfl rfl)
end
end R
end Go.Proofs.Ytflljnaojghifaa
