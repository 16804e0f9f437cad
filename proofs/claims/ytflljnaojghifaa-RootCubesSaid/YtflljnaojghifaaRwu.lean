/- The walk over a small state: regions (in the text's order, and in whatever order), code, bodies. -/
import Derived.Test.YtflljnaojghifaaRwt
import Derived.Scope
import Derived.ScopeJumps
namespace Go.Proofs.Ytflljnaojghifaa
open Go Go.RowKit
namespace R

/-! A region that draws its order: first what is quiet in a class of worlds, then the rest, one behind the other. -/
section
variable {P : Program} {md : Region.Mode} {ops : Array Oper} {C : World → Prop}

def wpAnyQL (P : Program) (md : Region.Mode) (ops : Array Oper) (C : World → Prop) (n : Nat) (L : Array Bool → Act → Prop) : Nat → Array Bool → Act → Prop
  | 0, listed, a => L listed a
  | f + 1, listed, a =>
    Region.ready md ops listed ≠ [] ∧ ∀ i ∈ Region.ready md ops listed, i < n ∧ qOp P ops C i (wpAnyQL P md ops C n L f (listed.setIfInBounds i true)) a

theorem wpAny_of_headQ {n g : Nat} {L : Array Bool → Act → Prop} {Q' : Exit → Act → World → Prop} (hL : ∀ listed a w, C w → L listed a → wpAny P md ops Q' g listed a w) :
    ∀ (f : Nat) (listed : Array Bool) (a : Act) (w : World), C w → wpAnyQL P md ops C n L f listed a → wpAny P md ops Q' (f + g) listed a w
  | 0, listed, a, w, hw, h => by rw [Nat.zero_add]; exact hL _ _ _ hw h
  | f + 1, listed, a, w, hw, h => by
    rw [show f + 1 + g = (f + g) + 1 by omega]
    exact ⟨fun h0 => absurd h0 h.1, fun i hi => wpOp_of_qOp hw (fun a' w' hw' h' => wpAny_of_headQ hL f _ a' w' hw' h') (h.2 i hi).2⟩

theorem wpAnyQL_first {n i : Nat} {oi : Oper} {v : Value} {L : Array Bool → Act → Prop} (hi : ops[i]? = some oi) (hsel : ∀ (j : Nat) (o : Oper) cs b, ops[j]? = some o → o.op ≠ .select cs b)
    (hs : Region.sinkB md ops n = true) (hc : Region.chainB md ops n = true) (hn : n < ops.size) (hin : i < n)
    (hdone : ∀ listed a, L listed a → ∀ j ∈ Region.ready md ops listed, n ≤ j) :
    ∀ (f : Nat) (listed : Array Bool) (a : Act), HeadInv md ops n listed →
      (∀ j oj, ops[j]? = some oj → j ≠ i → listed.getD j true = false → (∀ e ∈ oj.after, Region.binds md e = true → e.on ≠ i) → oi.apart ops oj = true) →
      i ∈ Region.ready md ops listed → YieldsIn P ops C oi v a →
      wpAnyQL P md ops C n L f (listed.setIfInBounds i true) (a.put oi.dst v) → wpAnyQL P md ops C n L (f + 1) listed a := by
  intro f
  induction f with
  | zero =>
    intro listed a inv _ hr hy H
    have hun := (mem_ready.1 hr).1
    refine ⟨fun h => (by rw [h] at hr; cases hr), fun j hj => ?_⟩
    have hjn : j < n := by
      rcases Nat.lt_or_ge j n with h | h
      · exact h
      · exact absurd hj (tail_waits hs hc hn inv _ i rfl hin hun j h)
    refine ⟨hjn, ?_⟩
    by_cases hji : j = i
    · subst hji; exact hy.qOp hi H
    · have := hdone _ _ H j (ready_mono hj hji)
      omega
  | succ f ih =>
    intro listed a inv hfree hr hy H
    have hun := (mem_ready.1 hr).1
    refine ⟨fun h => (by rw [h] at hr; cases hr), fun j hj => ?_⟩
    have hjn : j < n := by
      rcases Nat.lt_or_ge j n with h | h
      · exact h
      · exact absurd hj (tail_waits hs hc hn inv _ i rfl hin hun j h)
    refine ⟨hjn, ?_⟩
    by_cases hji : j = i
    · subst hji; exact hy.qOp hi H
    · have h1 := (H.2 j (ready_mono hj hji)).2
      obtain ⟨hjun, oj, hoj, hall⟩ := mem_ready.1 hj
      have hnot : ∀ e ∈ oj.after, Region.binds md e = true → e.on ≠ i := fun e he hb heq => by
        have h1 := hall e he hb
        rw [heq, getD_both hun] at h1
        cases h1
      have h2 := qOp_put hoj (hfree j oj hoj hji hjun hnot) (fun cs b => hsel i oi cs b hi) (fun cs b => hsel j oj cs b hoj) hy h1
      have hfree' : ∀ k ok, ops[k]? = some ok → k ≠ i → (listed.setIfInBounds j true).getD k true = false →
          (∀ e ∈ ok.after, Region.binds md e = true → e.on ≠ i) → oi.apart ops ok = true := fun k ok hk hki hun hno => by
        refine hfree k ok hk hki ?_ hno
        by_cases hjk : j = k
        · subst hjk; exact hjun
        · rw [getD_set_ne true hjk] at hun; exact hun
      refine qOp_mono (fun a' h3 => ih (listed.setIfInBounds j true) a' (inv.set hj hjn) hfree' (ready_mono hr (Ne.symm hji)) h3.1 ?_) h2
      rw [Array.setIfInBounds_comm _ _ hji]
      exact h3.2

theorem wpAnyQL_lex {n g : Nat} {Lq : Act → Prop} (hsel : Region.noSelect ops = true) (hs : Region.sinkB md ops n = true) (hc : Region.chainB md ops n = true) (hn : n < ops.size) :
    ∀ (l : List Oper) (k : Nat) (listed : Array Bool) (a : Act), (∀ j, j < l.length → l[j]? = ops[k + j]?) → k + l.length = n → HeadInv md ops n listed →
    Region.lexHead md ops g l.length k listed = true → wpQuiet P ops C Lq l a →
    wpAnyQL P md ops C n (fun listed' a' => Region.seqB md ops g n listed' = true ∧ Lq a') l.length listed a
  | [], k, listed, a, _, hk, _, hB, h => by
    have : k = n := by simpa using hk
    subst this
    exact ⟨by simpa [Region.lexHead] using hB, h⟩
  | o :: l, k, listed, a, hl, hk, inv, hB, h => by
    have h0 : ops[k]? = some o := by simpa using (hl 0 (by simp)).symm
    simp only [List.length_cons, Region.lexHead, Bool.and_eq_true] at hB
    obtain ⟨⟨hr, hf⟩, hB'⟩ := hB
    have hkn : k < n := by simp only [List.length_cons] at hk; omega
    have hr' : k ∈ Region.ready md ops listed := by simpa using hr
    have hst : qOp P ops C k (wpQuiet P ops C Lq l) a := by unfold qOp; simp only [h0]; exact h
    obtain ⟨v, hy, hK⟩ := yieldsIn_of_qOp h0 hst
    exact wpAnyQL_first h0 (Region.noSelect_spec hsel) hs hc hn hkn (fun listed' a' hL => seqB_ready hL.1) l.length listed a inv (Region.free_spec h0 hf) hr' hy
      (wpAnyQL_lex hsel hs hc hn l (k + 1) _ _ (fun j hj => by have := hl (j + 1) (by simp; omega); simpa [Nat.add_assoc, Nat.add_comm 1 j] using this) (by simp only [List.length_cons] at hk; omega) (inv.set hr' hkn) hB' hK)

theorem wp_region_quiet_tail {id : Nat} {Q : Exit → Act → World → Prop} {a : Act} {w : World} (n : Nat) (hm : P.follows .mixedOrders = true) (hB : Region.lexTailB .any ops n = true)
    (hC : C { w with drawn := w.drawn + 1 }) (h : wpQuiet P ops C (fun a' => ∀ w', C w' → wpList P ops Q (ops.toList.drop n) a' w') (ops.toList.take n) a) : (Code.region id ops true).wp P Q a w := by
  simp only [Region.lexTailB, Bool.and_eq_true, decide_eq_true_eq] at hB
  obtain ⟨⟨⟨⟨hsel, hn⟩, hs⟩, hc⟩, hlex⟩ := hB
  have htl : (ops.toList.take n).length = n := by simp; omega
  have hdl : (ops.toList.drop n).length = ops.size - n := by simp
  have inv0 : HeadInv .any ops n (Array.replicate ops.size false) :=
    ⟨by simp, fun j oj _ hl => (by rw [getD_replicate_false] at hl; cases hl), fun t _ ht => getD_in (by simpa using ht) (getD_replicate_false _ _)⟩
  have H := wpAnyQL_lex (md := .any) (g := ops.size - n) hsel hs hc hn (ops.toList.take n) 0 _ a (fun j hj => by
    have hj' : j < n := by rw [htl] at hj; exact hj
    simp [hj']) (by simpa using htl) inv0 (by rw [htl]; exact hlex) h
  refine wp_region_any hm ?_
  have := wpAny_of_headQ (Q' := Q) (g := ops.size - n) (fun listed a' w' hw' hL => by
    have := wpAny_of_seq (md := .any) (Q' := Q) (ops.toList.drop n) n listed a' w' (fun j => by simp [List.getElem?_drop]) (by rw [hdl]; exact hL.1) (hL.2 w' hw')
    rwa [hdl] at this) _ _ _ _ hC H
  rw [htl, show n + (ops.size - n) = ops.size by omega] at this
  exact this
end

/-! Regions -/
inductive Yd where
  | no
  | yes (d : Nat) (b : Bool)

def ydV (d : Nat) (v : RV) : Yd := match v with | .ext (.bool b) => .yes d b | _ => .no

def ydO (S : St) (o : Option Oper) : Option Yd :=
  match o with
  | none => some .no
  | some o => match o.dst with
    | none => some .no
    | some d => (lk S.t d).map (ydV d)
def yd (S : St) (ops : Array Oper) (j : Nat) : Option Yd := ydO S ops[j]?

/-- An operation that is done only if an earlier one says so. -/
def gdW (y : Yd) (want : Bool) (S : St) (A B : St → Prop) : Prop :=
  match y with
  | .no => B S
  | .yes d b => ifB b fun b => bif (b == want) then A (S.put (some d) (.ext (.bool b))) else B (S.put (some d) (.ext (.bool b)))

@[congr] theorem gdW_congr {y : Yd} {want : Bool} {S : St} {A B : St → Prop} {y' : Yd} (h : hold y = y') : gdW y want S A B = gdW y' want S A B := by rw [← h]; rfl

def opsW (P : Program) (ops : Array Oper) : List Oper → St → (St → Prop) → (Value → St → Prop) → Prop
  | [], S, K, _ => K S
  | o :: r, S, K, Pn =>
    match o.guard with
    | none => opW P false S o (fun v S' => opsW P ops r (S'.put o.dst v) K Pn) Pn
    | some g => bindV (yd S ops g.1) fun y => gdW y g.2 S
        (fun S => opW P false S o (fun v S' => opsW P ops r (S'.put o.dst v) K Pn) Pn)
        (fun S => opsW P ops r (S.put o.dst (.ext undef)) K Pn)
@[congr] theorem opsW_congr {P : Program} {ops : Array Oper} {l : List Oper} {S S' : St} {K : St → Prop} {Pn : Value → St → Prop} (h : hold S = S') : opsW P ops l S K Pn = opsW P ops l S' K Pn := by rw [← h]; rfl

/-- The quiet head of a region that draws. -/
def headW (P : Program) (ops : Array Oper) : List Oper → St → (St → Prop) → Prop
  | [], S, K => K S
  | o :: r, S, K =>
    match o.guard with
    | none => opW P true S o (fun v S' => headW P ops r (S'.put o.dst v) K) (fun _ _ => False)
    | some g => bindV (yd S ops g.1) fun y => gdW y g.2 S
        (fun S => opW P true S o (fun v S' => headW P ops r (S'.put o.dst v) K) (fun _ _ => False))
        (fun S => headW P ops r (S.put o.dst (.ext undef)) K)
@[congr] theorem headW_congr {P : Program} {ops : Array Oper} {l : List Oper} {S S' : St} {K : St → Prop} (h : hold S = S') : headW P ops l S K = headW P ops l S' K := by rw [← h]; rfl

def dOk (n : Nat) (l : List Oper) : Bool := l.all fun o => match o.dst with | some d => decide (d < n) | none => true

theorem dOk_cons {n : Nat} {o : Oper} {l : List Oper} (h : dOk n (o :: l) = true) : (∀ i, o.dst = some i → i < n) ∧ dOk n l = true := by
  simp only [dOk, List.all_cons, Bool.and_eq_true] at h
  refine ⟨fun i hi => ?_, h.2⟩
  have := h.1
  rw [hi] at this
  simpa using this

section
variable {P : Program} {w w0 : World} {s : Nat → Nat} {S : St} {bs : List Nat} {n : Nat} {ds : List Deferred} {ops : Array Oper}

theorem yd_sl {a : Act} (h : Sl s S a) (hz : a.tmps.size = n) {l : List Oper} (hd : dOk n l = true) {j : Nat} {y : Yd} (hl : ∀ o, ops[j]? = some o → o ∈ l) (hy : yd S ops j = some y) :
    yielded ops a.tmps j = (match y with | .no => none | .yes _ b => some b) ∧
      ∀ d b, y = .yes d b → Sl s (S.put (some d) (.ext (.bool b))) a := by
  unfold yd ydO at hy
  unfold yielded
  cases ho : ops[j]? with
  | none => simp only [ho, Option.some.injEq] at hy; subst hy; exact ⟨rfl, fun d b e => by cases e⟩
  | some o =>
    simp only [ho] at hy
    cases hdd : o.dst with
    | none => simp only [hdd, Option.some.injEq] at hy; subst hy; exact ⟨by simp [hdd], fun d b e => by cases e⟩
    | some d =>
      simp only [hdd, Option.map_eq_some_iff] at hy
      obtain ⟨v, hv, rfl⟩ := hy
      have h1 := (h d v hv).1
      have hdn : d < a.tmps.size := by
        have := List.all_eq_true.1 hd o (hl o ho)
        rw [hdd] at this
        rw [hz]; simpa using this
      have hq : a.tmps[d]? = some (ren s v) := by
        rw [Array.getD_eq_getD_getElem?] at h1
        simp only [hdn, Array.getElem?_eq_getElem, Option.getD_some] at h1 ⊢
        rw [h1]
      simp only [Option.bind_some, hdd, hq]
      refine ⟨?_, ?_⟩
      · cases v with
        | ext u => cases u <;> rfl
        | _ => rfl
      · intro d' b e
        have : v = .ext (.bool b) ∧ d' = d := by
          cases v with
          | ext u => cases u <;> simp only [ydV, Yd.yes.injEq, reduceCtorEq] at e
                     exact ⟨by rw [e.2], e.1.symm⟩
          | _ => cases e
        obtain ⟨rfl, rfl⟩ := this
        intro i u hi
        simp only [St.put, lk_cons] at hi
        split at hi
        · rename_i e'
          simp only [Option.some.injEq] at hi
          subst hi; subst e'
          exact ⟨h1, rfl⟩
        · exact h i u hi

theorem Rep.again {a : Act} (hr : Rep bs w0 n ds s S a w) {d : Nat} {v : RV} (h : Sl s (S.put (some d) v) a) : Rep bs w0 n ds s (S.put (some d) v) a w :=
  ⟨hr.mr, hr.own, hr.fr, hr.size, h, hr.df⟩

theorem opsW_sound {K : St → Prop} {Pn : Value → St → Prop} {Q : Exit → Act → World → Prop} (hall : dOk n ops.toList = true)
    (hK : ∀ s S a w, Rep bs w0 n ds s S a w → K S → Q .normal a w)
    (hP : ∀ u s S a w, Rep bs w0 n ds s S a w → Pn u S → Q (.panic [{ v := u, recovered := false }]) a w) :
    ∀ (l : List Oper) (s : Nat → Nat) (S : St) (a : Act) (w : World), dOk n l = true → Rep bs w0 n ds s S a w → opsW P ops l S K Pn → wpList P ops Q l a w
  | [], s, S, a, w, _, hr, h => hK s S a w hr h
  | o :: l, s, S, a, w, hd, hr, h => by
    obtain ⟨hd1, hd2⟩ := dOk_cons hd
    have run : ∀ S, Rep bs w0 n ds s S a w → opW P false S o (fun v S' => opsW P ops l (S'.put o.dst v) K Pn) Pn → o.wp P a w (wpList P ops Q l) Q := fun S hr h =>
      opW_sound hr h (fun s' v S' w' _ hv hr' hk => opsW_sound hall hK hP l s' _ _ w' hd2 (hr'.put hd1 hv) hk) (fun u s' S' w' hr' hp => hP u s' S' a w' hr' hp)
    unfold opsW at h
    unfold wpList
    cases hg : o.guard with
    | none =>
      simp only [hg] at h
      simp only [Region.wanted, hg, if_true]
      exact .inl (run S hr h)
    | some g =>
      obtain ⟨j, want⟩ := g
      simp only [hg] at h
      obtain ⟨y, hy, h⟩ := bindV_out h
      obtain ⟨hyl, hys⟩ := yd_sl hr.sl hr.size hall (fun o ho => Array.mem_toList_iff.2 (Array.mem_of_getElem? ho)) hy
      simp only [Region.wanted, hg, hyl]
      cases y with
      | no =>
        simp only [gdW] at h
        simp only [reduceCtorEq, beq_iff_eq, if_false]
        exact opsW_sound hall hK hP l s _ _ w hd2 (hr.put (v := .ext undef) hd1 rfl) h
      | yes d b =>
        unfold gdW at h
        have h := ifB_out h
        have hr2 := hr.again (hys d b rfl)
        by_cases hc : b = want
        · subst hc
          simp only [beq_self_eq_true] at h
          simp only [beq_self_eq_true, if_true]
          exact .inl (run _ hr2 h)
        · have hb : (b == want) = false := by simpa using hc
          simp only [hb] at h
          have : (some b == some want) = false := by simpa using hc
          simp only [this, Bool.false_eq_true, if_false]
          exact opsW_sound hall hK hP l s _ _ w hd2 (hr2.put (v := .ext undef) hd1 rfl) h

theorem headW_quiet {K : St → Prop} {m : List RO} {x : Nat → Obj → Prop} {w1 : World} (hall : dOk n ops.toList = true) :
    ∀ (l : List Oper) (S : St) (a : Act), dOk n l = true → S.m = m → S.x = x → Sl s S a → Mem s m x w1 → a.tmps.size = n → a.defers = ds → headW P ops l S K →
      wpQuiet P ops (fun w' => Mem s m x w' ∧ Fr [] w1 w') (fun a' => ∃ S', S'.m = m ∧ S'.x = x ∧ Sl s S' a' ∧ a'.tmps.size = n ∧ a'.defers = ds ∧ K S') l a
  | [], S, a, _, hm, hx, hs, _, hz, hdf, h => ⟨S, hm, hx, hs, hz, hdf, h⟩
  | o :: l, S, a, hd, hm, hx, hs, hM, hz, hdf, h => by
    obtain ⟨hd1, hd2⟩ := dOk_cons hd
    have putSl : ∀ (S : St) (v : RV), Sl s S a → clo S.m.length v = true → Sl s (S.put o.dst v) (a.put o.dst (ren s v)) ∧ (a.put o.dst (ren s v)).tmps.size = n ∧ (a.put o.dst (ren s v)).defers = ds := by
      intro S v hs hv
      cases ho : o.dst with
      | none => exact ⟨hs, hz, hdf⟩
      | some d =>
        have hdn := hd1 d ho
        refine ⟨?_, by simp [Act.put, hz], hdf⟩
        intro i u hi
        simp only [St.put, lk_cons] at hi
        simp only [Act.put]
        rw [getD_set (by rw [hz]; exact hdn)]
        by_cases hid : i = d
        · simp only [hid, if_true, Option.some.injEq] at hi ⊢
          subst hi
          exact ⟨rfl, hv⟩
        · simp only [hid, if_false] at hi ⊢
          exact hs i u hi
    have run : ∀ S : St, S.m = m → S.x = x → Sl s S a → opW P true S o (fun v S' => headW P ops l (S'.put o.dst v) K) (fun _ _ => False) →
        o.quiet P a (fun w' => Mem s m x w' ∧ Fr [] w1 w') (wpQuiet P ops (fun w' => Mem s m x w' ∧ Fr [] w1 w') (fun a' => ∃ S', S'.m = m ∧ S'.x = x ∧ Sl s S' a' ∧ a'.tmps.size = n ∧ a'.defers = ds ∧ K S') l) := by
      intro S hm hx hs h
      have hM' : Mem s S.m S.x w1 := by rw [hm, hx]; exact hM
      obtain ⟨v, h1, h2, h3⟩ := opW_quiet hs hM' h
      obtain ⟨p1, p2, p3⟩ := putSl S v hs h1
      refine ⟨ren s v, fun w' hw' => h3 s a _ w' hs (by rw [hm, hx]; exact hw'.1) (fun w2 hw2 => ?_), ?_⟩
      · have hw1 : Mem s S.m S.x w' := by rw [hm, hx]; exact hw'.1
        have := hw1.keep hw2
        rw [hm, hx] at this
        exact ⟨this, hw'.2.trans hw2⟩
      · exact headW_quiet hall l _ _ hd2 (by rw [St.put_m, hm]) (by rw [St.put_x, hx]) p1 hM p2 p3 h2
    unfold headW at h
    unfold wpQuiet
    cases hg : o.guard with
    | none =>
      simp only [hg] at h
      simp only [Region.wanted, hg, if_true]
      exact run S hm hx hs h
    | some g =>
      obtain ⟨j, want⟩ := g
      simp only [hg] at h
      obtain ⟨y, hy, h⟩ := bindV_out h
      obtain ⟨hyl, hys⟩ := yd_sl hs hz hall (fun o ho => Array.mem_toList_iff.2 (Array.mem_of_getElem? ho)) hy
      simp only [Region.wanted, hg, hyl]
      cases y with
      | no =>
        simp only [gdW] at h
        simp only [reduceCtorEq, beq_iff_eq, if_false]
        obtain ⟨p1, p2, p3⟩ := putSl S (.ext undef) hs rfl
        exact headW_quiet hall l _ _ hd2 (by rw [St.put_m, hm]) (by rw [St.put_x, hx]) p1 hM p2 p3 h
      | yes d b =>
        unfold gdW at h
        have h := ifB_out h
        have hs2 := hys d b rfl
        by_cases hc : b = want
        · subst hc
          simp only [beq_self_eq_true] at h
          simp only [beq_self_eq_true, if_true]
          exact run (S.put (some d) (.ext (.bool b))) hm hx hs2 h
        · have hb : (b == want) = false := by simpa using hc
          simp only [hb] at h
          have : (some b == some want) = false := by simpa using hc
          simp only [this, Bool.false_eq_true, if_false]
          obtain ⟨p1, p2, p3⟩ := putSl _ (.ext undef) hs2 rfl
          exact headW_quiet hall l _ _ hd2 (by rw [St.put_m]; exact hm) (by rw [St.put_x]; exact hx) p1 hM p2 p3 h
end

/-! Code -/
structure Ctx where
  bs : List Nat
  w0 : World
  n : Nat
  ds : List Deferred

def Lift (G : Ctx) (Q : Exit → St → Prop) : Exit → Act → World → Prop := fun e a w => ∃ s S, Rep G.bs G.w0 G.n G.ds s S a w ∧ Q e S

/-- From the state S on the code goes as Q says. -/
def Sd (P : Program) (G : Ctx) (c : Code) (Q : Exit → St → Prop) (S : St) : Prop := ∀ s a w, Rep G.bs G.w0 G.n G.ds s S a w → c.wp P (Lift G Q) a w

@[congr] theorem Sd_congr {P : Program} {G : Ctx} {c : Code} {Q : Exit → St → Prop} {S S' : St} (h : hold S = S') : Sd P G c Q S = Sd P G c Q S' := by rw [← h]; rfl

/-- Something is forgotten. -/
structure Wk (S S1 : St) : Prop where
  t : ∀ i v, lk S1.t i = some v → lk S.t i = some v ∧ clo S1.m.length v = true
  m : ∃ r, S.m = S1.m ++ r
  c : ∀ (k : Nat) (o : RO), S1.m[k]? = some o → cloO S1.m.length o = true
  x : ∀ b o, S1.x b o → S.x b o

theorem Wk.rep {G : Ctx} {S S1 : St} {s : Nat → Nat} {a : Act} {w : World} (h : Wk S S1) (hr : Rep G.bs G.w0 G.n G.ds s S a w) : Rep G.bs G.w0 G.n G.ds s S1 a w := by
  obtain ⟨r, hr'⟩ := h.m
  have hlen : S1.m.length ≤ S.m.length := by rw [hr']; simp
  refine ⟨⟨?_, ?_, h.c, fun b o hb => hr.mr.ext b o (h.x b o hb), ?_⟩, ?_, hr.fr, hr.size, ?_, hr.df⟩
  · intro k o hk
    refine hr.mr.mem k o ?_
    rw [hr', List.getElem?_append_left (List.getElem?_eq_some_iff.1 hk).1]
    exact hk
  · intro j k hj hk he; exact hr.mr.inj j k (by omega) (by omega) he
  · intro b o hb k hk; exact hr.mr.apart b o (h.x b o hb) k (by omega)
  · intro k hk; exact hr.own k (by omega)
  · intro i v hi
    obtain ⟨h1, h2⟩ := h.t i v hi
    exact ⟨(hr.slot i v h1).1, h2⟩

section
variable {P : Program} {G : Ctx} {Q : Exit → St → Prop} {S : St}

theorem Sd_mono {c : Code} {Q' : Exit → St → Prop} (h : Sd P G c Q S) (hq : ∀ e S, Q e S → Q' e S) : Sd P G c Q' S :=
  fun s a w hr => Code.wp_mono (fun e _ _ ⟨s, S, h1, h2⟩ => ⟨s, S, h1, hq e S h2⟩) (h s a w hr)

theorem Sd_wk {c : Code} {S1 : St} (hw : Wk S S1) (h : Sd P G c Q S1) : Sd P G c Q S := fun s a w hr => h s a w (hw.rep hr)

theorem Sd_skip (h : Q .normal S) : Sd P G .skip Q S := fun s _ _ hr => wp_skip ⟨s, S, hr, h⟩
theorem Sd_label {l : Nat} (h : Q .normal S) : Sd P G (.label l) Q S := fun s _ _ hr => wp_label ⟨s, S, hr, h⟩
theorem Sd_exit {i : Nat} (h : Q (.exit i) S) : Sd P G (.exit i) Q S := fun s _ _ hr => wp_exit ⟨s, S, hr, h⟩
theorem Sd_goto {i : Nat} (h : Q (.goto i) S) : Sd P G (.goto i) Q S := fun s _ _ hr => wp_goto ⟨s, S, hr, h⟩
theorem Sd_ret (h : Q .ret S) : Sd P G .ret Q S := fun s _ _ hr => wp_ret ⟨s, S, hr, h⟩

/-- What follows behind the first part. -/
def thenW (K : St → Prop) (Q : Exit → St → Prop) : Exit → St → Prop
  | .normal, S => K S
  | e, S => Q e S

theorem Sd_seq {x y : Code} (h : Sd P G x (thenW (Sd P G y Q) Q) S) : Sd P G (.seq x y) Q S := fun s a w hr => by
  refine wp_seq (Code.wp_mono ?_ (h s a w hr))
  rintro e a w ⟨s, S, h1, h2⟩
  cases e <;> first | exact h2 s a w h1 | exact ⟨s, S, h1, h2⟩

theorem Sd_cond {c : Operand} {x y : Code} (h : getX S c fun v => condW v (Sd P G x Q S) (Sd P G y Q S)) : Sd P G (.cond c x y) Q S := fun s a w hr => by
  obtain ⟨v, h1, h2⟩ := getX_out h
  have e1 := (hr.sl.eval h1).1
  simp only [ren] at e1
  unfold condW at h2
  cases v with
  | bool t =>
    refine wp_cond (t := t) e1 ?_
    have h2 := ifB_out h2
    cases t
    · exact h2 s a w hr
    · exact h2 s a w hr
  | _ => exact h2.elim

def inBlockW (id : Nat) (Q : Exit → St → Prop) : Exit → St → Prop
  | .exit i, S => if i = id then Q .normal S else Q (.exit i) S
  | e, S => Q e S

theorem Sd_block {id : Nat} {c : Code} (h : Sd P G c (inBlockW id Q) S) : Sd P G (.block id c) Q S := fun s a w hr => by
  refine wp_block (Code.wp_mono ?_ (h s a w hr))
  rintro e a w ⟨s, S, h1, h2⟩
  cases e with
  | exit i =>
    simp only [inBlockW] at h2
    simp only [Exit.inBlock]
    split at h2
    · rename_i hi; simp only [hi, if_true]; exact ⟨s, S, h1, h2⟩
    · rename_i hi; simp only [hi, if_false]; exact ⟨s, S, h1, h2⟩
  | _ => exact ⟨s, S, h1, h2⟩

theorem Sd_loop {c : Code} (I : St → Prop) (μ : St → Nat) (h0 : ∃ S1, Wk S S1 ∧ I S1)
    (round : ∀ S, I S → Sd P G c (thenW (fun S' => ∃ S1, Wk S' S1 ∧ I S1 ∧ μ S1 < μ S) Q) S) : Sd P G (.loop c) Q S := by
  suffices ∀ m, ∀ S, I S → μ S = m → Sd P G (.loop c) Q S by
    obtain ⟨S1, hw, hi⟩ := h0
    exact Sd_wk hw (this _ S1 hi rfl)
  intro m S hI hmm s a w hr
  refine wp_loop (fun a w => ∃ s S, Rep G.bs G.w0 G.n G.ds s S a w ∧ I S ∧ True) (fun a w => Classical.epsilon fun k => ∃ s S, Rep G.bs G.w0 G.n G.ds s S a w ∧ I S ∧ μ S = k ∧ ∀ s' S', Rep G.bs G.w0 G.n G.ds s' S' a w → I S' → k ≤ μ S') ⟨s, S, hr, hI, trivial⟩ ?_
  clear hr hI hmm s a w S m
  rintro a w ⟨s, S, hr, hI, _⟩
  have hleast : ∀ a w s S, Rep G.bs G.w0 G.n G.ds s S a w → I S → ∃ k, ∃ s S, Rep G.bs G.w0 G.n G.ds s S a w ∧ I S ∧ μ S = k ∧ ∀ s' S', Rep G.bs G.w0 G.n G.ds s' S' a w → I S' → k ≤ μ S' := by
    intro a w
    suffices ∀ k, ∀ s S, Rep G.bs G.w0 G.n G.ds s S a w → I S → μ S = k → ∃ k, ∃ s S, Rep G.bs G.w0 G.n G.ds s S a w ∧ I S ∧ μ S = k ∧ ∀ s' S', Rep G.bs G.w0 G.n G.ds s' S' a w → I S' → k ≤ μ S' from
      fun s S h1 h2 => this _ s S h1 h2 rfl
    intro k
    induction k using Nat.strongRecOn with
    | _ k ih =>
      intro s S hr hI hk
      by_cases hl : ∀ s' S', Rep G.bs G.w0 G.n G.ds s' S' a w → I S' → k ≤ μ S'
      · exact ⟨k, s, S, hr, hI, hk, hl⟩
      · simp only [Classical.not_forall] at hl
        obtain ⟨s', S', h1, h2, h3⟩ := hl
        exact ih (μ S') (by omega) s' S' h1 h2 rfl
  obtain ⟨s1, S1, hr1, hI1, hk1, hl1⟩ := Classical.epsilon_spec (hleast a w s S hr hI)
  refine Code.wp_mono ?_ (round S1 hI1 s1 a w hr1)
  rintro e a' w' ⟨s', S', h1, h2⟩
  cases e with
  | normal =>
    obtain ⟨S2, hw2, hI2, hlt⟩ := h2
    have hr2 := hw2.rep h1
    obtain ⟨s3, S3, hr3, hI3, hk3, hl3⟩ := Classical.epsilon_spec (hleast a' w' s' S2 hr2 hI2)
    refine ⟨⟨s', S2, hr2, hI2, trivial⟩, ?_⟩
    have := hl3 s' S2 hr2 hI2
    omega
  | _ => exact ⟨s', S', h1, h2⟩

/-- A region, in the text's order. -/
theorem Sd_region {id : Nat} {ops : Array Oper} (hd : dOk G.n ops.toList = true) (h : opsW P ops ops.toList S (Q .normal) (fun u S => Q (.panic [{ v := u, recovered := false }]) S)) :
    Sd P G (.region id ops false) Q S := fun s a w hr =>
  wp_region_list (opsW_sound hd (fun s S _ _ hr h => ⟨s, S, hr, h⟩) (fun _ s S _ _ hr h => ⟨s, S, hr, h⟩) ops.toList s S a w hd hr h)

theorem Rep.drew {bs : List Nat} {w0 : World} {n : Nat} {ds : List Deferred} {s : Nat → Nat} {a : Act} {w : World} (h : Rep bs w0 n ds s S a w) : Rep bs w0 n ds s S a { w with drawn := w.drawn + 1 } :=
  h.step (h.mr.keep (Fr.drew _ _)) (Fr.drew _ _)

/-- A region that draws its order: all of it quiet. -/
theorem Sd_draw {id : Nat} {ops : Array Oper} (hm : P.follows .mixedOrders = true) (hd : dOk G.n ops.toList = true) (hB : Region.lexB .any ops = true) (h : headW P ops ops.toList S (Q .normal)) :
    Sd P G (.region id ops true) Q S := fun s a w hr => by
  have hr' := hr.drew
  refine wp_region_quiet (C := fun w' => Mem s S.m S.x w' ∧ Fr [] { w with drawn := w.drawn + 1 } w') hm hB ⟨hr'.mr, Fr.refl _ _⟩ ?_
  have hq := headW_quiet (K := Q .normal) (ds := G.ds) hd ops.toList S a hd rfl rfl hr'.sl hr'.mr hr'.size hr'.df h
  have mono : ∀ (C : World → Prop) (K K' : Act → Prop) (hK : ∀ a, K a → K' a) (l : List Oper) (a : Act), wpQuiet P ops C K l a → wpQuiet P ops C K' l a := by
    intro C K K' hK l
    induction l with
    | nil => exact fun a h => hK a h
    | cons o l ih =>
      intro a h
      unfold wpQuiet at h ⊢
      split
      · rename_i hw; simp only [hw, if_true] at h; exact Oper.quiet_mono ih h
      · rename_i hw; simp only [hw] at h; exact ih _ h
  refine mono _ _ _ ?_ _ _ hq
  rintro a' ⟨S', h1, h2, h3, h4, h5, h6⟩ w' ⟨hM, hF⟩
  refine ⟨s, S', ⟨by rw [h1, h2]; exact hM, fun k hk => hr.own k (by rw [← h1]; exact hk), hr'.fr.trans (hF.mono (by simp)), h4, h3, h5⟩, h6⟩

/-- A region that draws its order: quiet up to its operation k, then one behind the other. -/
theorem Sd_drawT {id : Nat} {ops : Array Oper} (k : Nat) (hm : P.follows .mixedOrders = true) (hd : dOk G.n ops.toList = true) (hB : Region.lexTailB .any ops k = true)
    (h : headW P ops (ops.toList.take k) S fun S => opsW P ops (ops.toList.drop k) S (Q .normal) (fun u S => Q (.panic [{ v := u, recovered := false }]) S)) :
    Sd P G (.region id ops true) Q S := fun s a w hr => by
  have hr' := hr.drew
  have hdt : dOk G.n (ops.toList.take k) = true := List.all_eq_true.2 fun o ho => List.all_eq_true.1 hd o (List.mem_of_mem_take ho)
  have hdd : dOk G.n (ops.toList.drop k) = true := List.all_eq_true.2 fun o ho => List.all_eq_true.1 hd o (List.mem_of_mem_drop ho)
  refine wp_region_quiet_tail (C := fun w' => Mem s S.m S.x w' ∧ Fr [] { w with drawn := w.drawn + 1 } w') k hm hB ⟨hr'.mr, Fr.refl _ _⟩ ?_
  have hq := headW_quiet (ds := G.ds) hd (ops.toList.take k) S a hdt rfl rfl hr'.sl hr'.mr hr'.size hr'.df h
  have mono : ∀ (C : World → Prop) (K K' : Act → Prop) (hK : ∀ a, K a → K' a) (l : List Oper) (a : Act), wpQuiet P ops C K l a → wpQuiet P ops C K' l a := by
    intro C K K' hK l
    induction l with
    | nil => exact fun a h => hK a h
    | cons o l ih =>
      intro a h
      unfold wpQuiet at h ⊢
      split
      · rename_i hw; simp only [hw, if_true] at h; exact Oper.quiet_mono ih h
      · rename_i hw; simp only [hw] at h; exact ih _ h
  refine mono _ _ _ ?_ _ _ hq
  rintro a' ⟨S', h1, h2, h3, h4, h5, h6⟩ w' ⟨hM, hF⟩
  have hrep : Rep G.bs G.w0 G.n G.ds s S' a' w' :=
    ⟨by rw [h1, h2]; exact hM, fun k hk => hr.own k (by rw [← h1]; exact hk), hr'.fr.trans (hF.mono (by simp)), h4, h3, h5⟩
  exact opsW_sound hd (fun s S _ _ hr h => ⟨s, S, hr, h⟩) (fun _ s S _ _ hr h => ⟨s, S, hr, h⟩) _ s S' a' w' hdd hrep h6

def noGotoW (Q : Exit → St → Prop) : Exit → St → Prop
  | .goto _, _ => False
  | e, S => Q e S

theorem Sd_scope {c : Code} (h : Sd P G c (noGotoW Q) S) : Sd P G (.scope c) Q S := fun s a w hr => by
  refine wp_scope_straight (Code.wp_mono ?_ (h s a w hr))
  rintro e a w ⟨s, S, h1, h2⟩
  cases e <;> first | exact h2.elim | exact ⟨s, S, h1, h2⟩


/-- What stands in the code's regions is in its frame. -/
def cOk (n : Nat) : Code → Bool
  | .region _ ops _ => dOk n ops.toList
  | .seq a b => cOk n a && cOk n b
  | .cond _ a b => cOk n a && cOk n b
  | .block _ c => cOk n c
  | .loop c => cOk n c
  | .scope c => cOk n c
  | _ => true

/-- Straight code, worked out; loops, and regions that draw their order, are left as they are. -/
def cW (P : Program) (G : Ctx) : Code → (Exit → St → Prop) → St → Prop
  | .skip, Q, S => Q .normal S
  | .label _, Q, S => Q .normal S
  | .exit i, Q, S => Q (.exit i) S
  | .goto i, Q, S => Q (.goto i) S
  | .ret, Q, S => Q .ret S
  | .seq a b, Q, S => cW P G a (thenW (cW P G b Q) Q) S
  | .cond c a b, Q, S => getX S c fun v => condW v (cW P G a Q S) (cW P G b Q S)
  | .block i c, Q, S => cW P G c (inBlockW i Q) S
  | .scope c, Q, S => cW P G c (noGotoW Q) S
  | .region _ ops false, Q, S => opsW P ops ops.toList S (Q .normal) (fun u S => Q (.panic [{ v := u, recovered := false }]) S)
  | .region i ops true, Q, S => Sd P G (.region i ops true) Q S
  | .loop c, Q, S => Sd P G (.loop c) Q S
  | .rangeFunc f ps a b, Q, S => Sd P G (.rangeFunc f ps a b) Q S
  | .refuse w, Q, S => Sd P G (.refuse w) Q S
@[congr] theorem cW_congr {P : Program} {G : Ctx} {c : Code} {Q : Exit → St → Prop} {S S' : St} (h : hold S = S') : cW P G c Q S = cW P G c Q S' := by rw [← h]; rfl

theorem Sd_of_cW : ∀ {c : Code} {Q : Exit → St → Prop} {S : St}, cOk G.n c = true → cW P G c Q S → Sd P G c Q S
  | .skip, Q, S, _, h => Sd_skip h
  | .label _, Q, S, _, h => Sd_label h
  | .exit _, Q, S, _, h => Sd_exit h
  | .goto _, Q, S, _, h => Sd_goto h
  | .ret, Q, S, _, h => Sd_ret h
  | .seq a b, Q, S, hd, h => by
    simp only [cOk, Bool.and_eq_true] at hd
    refine Sd_seq (Sd_mono (Sd_of_cW hd.1 h) ?_)
    intro e S hq
    cases e <;> first | exact Sd_of_cW hd.2 hq | exact hq
  | .cond c a b, Q, S, hd, h => by
    simp only [cOk, Bool.and_eq_true] at hd
    refine Sd_cond ?_
    obtain ⟨v, h1, h2⟩ := getX_out h
    unfold getX gv
    rw [h1, bindV_some]
    unfold condW at h2
    show condW v _ _
    unfold condW
    cases v with
    | bool t =>
      refine ⟨fun e => ?_, fun e => ?_⟩
      · subst e
        exact Sd_of_cW hd.1 (ifB_out h2)
      · subst e
        exact Sd_of_cW hd.2 (ifB_out h2)
    | _ => exact h2.elim
  | .block i c, Q, S, hd, h => Sd_block (Sd_of_cW (c := c) hd h)
  | .scope c, Q, S, hd, h => Sd_scope (Sd_of_cW (c := c) hd h)
  | .region _ ops false, Q, S, hd, h => Sd_region hd h
  | .region _ ops true, Q, S, _, h => h
  | .loop c, Q, S, _, h => h
  | .rangeFunc _ _ _ _, Q, S, _, h => h
  | .refuse _, Q, S, _, h => h

theorem ifB_intro {b : Bool} {f : Bool → Prop} (h1 : b = true → f true) (h2 : b = false → f false) : ifB b f := ⟨h1, h2⟩

theorem ifB_t {b : Bool} {f : Bool → Prop} (h : b = true) (k : f true) : ifB b f := ⟨fun _ => k, fun e => absurd (h.symm.trans e) (by simp)⟩
theorem ifB_f {b : Bool} {f : Bool → Prop} (h : b = false) (k : f false) : ifB b f := ⟨fun e => absurd (h.symm.trans e) (by simp), fun _ => k⟩
theorem callP {q : Bool} {S : St} {g : FuncId} {as : List RV} {es : List Value} {v : Value} {K : RV → St → Prop} {Pn : Value → St → Prop} (hg : goes P g) (he : toExts as = some es) (hp : PureC P S.x g es v)
    (hk : K (.ext v) S) : callW P q S (some (g, as)) K Pn := .inl ⟨hg, .inl ⟨es, v, he, hp, hk⟩⟩
theorem callN {q : Bool} {S : St} {g : FuncId} {as : List RV} {es : List Value} {v : Value} {K : RV → St → Prop} {Pn : Value → St → Prop} (he : toExts as = some es) (hp : ExtC P g es v)
    (hk : K (.ext v) S) : callW P q S (some (g, as)) K Pn := .inr ⟨es, v, he, hp, hk⟩

theorem goes_of {f : FuncId} {fn : Func} (hf : P.funcs[f]? = some fn) (hn : (fn.name == "runtime.NumGoroutine") = false) (hb : fn.body.isNone = false) : goes P f := by
  intro args w
  unfold callFunc
  rw [Sem.run_bind, run_program]
  simp only [Result.andThen_ok, hf, hn, hb, Bool.false_eq_true, if_false]
  rfl
end
end R
end Go.Proofs.Ytflljnaojghifaa
