/- Regions that draw their order, with calls that make memory among them: step by step, what is quiet first. -/
import Derived.Test.YtflljnaojghifaaRwz
namespace Go.Proofs.Ytflljnaojghifaa
open Go Go.RowKit
namespace R
set_option linter.unusedVariables false

/-- An order: what is quiet, and free, may be taken at once; all else where nothing else may be. -/
def mixB (ops : Array Oper) : List (Nat × Bool) → Array Bool → Bool
  | [], listed => (Region.ready .any ops listed).isEmpty
  | (i, true) :: r, listed => (Region.ready .any ops listed).contains i && Region.free .any ops listed i && mixB ops r (listed.setIfInBounds i true)
  | (i, false) :: r, listed => decide (Region.ready .any ops listed = [i]) && mixB ops r (listed.setIfInBounds i true)
def lexMB (ops : Array Oper) (steps : List (Nat × Bool)) : Bool := Region.noSelect ops && (steps.length == ops.size) && mixB ops steps (Array.replicate ops.size false)

def xsub (x x' : Nat → Obj → Prop) : Prop := ∀ b o, x b o → x' b o
theorem xsub_refl {x : Nat → Obj → Prop} : xsub x x = True := propext ⟨fun _ => trivial, fun _ b o h => h⟩

def mixW (P : Program) (ops : Array Oper) : List (Nat × Bool) → St → (St → Prop) → Prop
  | [], S, K => K S
  | (i, true) :: r, S, K => bindV (nthX ops.toList i) fun o => headW P ops [o] S fun S' => mixW P ops r S' K
  | (i, false) :: r, S, K => bindV (nthX ops.toList i) fun o => match o.guard with
    | none => opW P false S o (fun v S' => preX S.m S'.m ∧ xsub S.x S'.x ∧ mixW P ops r (S'.put o.dst v) K) (fun _ _ => False)
    | some _ => False
@[congr] theorem mixW_congr {P : Program} {ops : Array Oper} {l : List (Nat × Bool)} {S S' : St} {K : St → Prop} (h : hold S = S') : mixW P ops l S K = mixW P ops l S' K := by rw [← h]; rfl
theorem mixW_nil {P : Program} {ops : Array Oper} {S : St} {K : St → Prop} : mixW P ops [] S K = K S := propext ⟨fun h => h, fun h => h⟩
theorem mixW_q {P : Program} {l : List Oper} {i : Nat} {r : List (Nat × Bool)} {S : St} {K : St → Prop} : mixW P l.toArray ((i, true) :: r) S K = bindV (nthX l i) fun o => headW P l.toArray [o] S fun S' => mixW P l.toArray r S' K := propext ⟨fun h => h, fun h => h⟩
/-- A step that is not quiet. -/
def loudW (P : Program) (ops : Array Oper) (r : List (Nat × Bool)) (S : St) (K : St → Prop) (o : Oper) : Prop := match o.guard with
  | none => opW P false S o (fun v S' => preX S.m S'.m ∧ xsub S.x S'.x ∧ mixW P ops r (S'.put o.dst v) K) (fun _ _ => False)
  | some _ => False
@[congr] theorem loudW_congr {P : Program} {ops : Array Oper} {r : List (Nat × Bool)} {S S' : St} {K : St → Prop} {o : Oper} (h : hold S = S') : loudW P ops r S K o = loudW P ops r S' K o := by rw [← h]; rfl
theorem mixW_l {P : Program} {l : List Oper} {i : Nat} {r : List (Nat × Bool)} {S : St} {K : St → Prop} : mixW P l.toArray ((i, false) :: r) S K = bindV (nthX l i) fun o => loudW P l.toArray r S K o := propext ⟨fun h => h, fun h => h⟩
theorem loudW_none {P : Program} {ops : Array Oper} {r : List (Nat × Bool)} {S : St} {K : St → Prop} {d : Option Nat} {op : Op} {ty : TypeId} {pos : String} {af : Array Edge} :
    loudW P ops r S K ⟨d, op, ty, pos, af, none⟩ = opW P false S ⟨d, op, ty, pos, af, none⟩ (fun v S' => preX S.m S'.m ∧ xsub S.x S'.x ∧ mixW P ops r (S'.put d v) K) (fun _ _ => False) := propext ⟨fun h => h, fun h => h⟩

section
variable {P : Program} {ops : Array Oper} {bs : List Nat} {w0 : World} {n : Nat} {ds : List Deferred}

theorem wpX_mono {md : Region.Mode} {Q : Exit → Act → World → Prop} {D D' : World → Prop} (h : ∀ w, D w → D' w) : ∀ (f : Nat) (listed : Array Bool) (a : Act) (w : World), wpX P md ops Q D f listed a w → wpX P md ops Q D' f listed a w
  | 0, _, _, _, k => k
  | f + 1, _, _, _, k => ⟨k.1, fun i hi => wpOp_mono (fun a' w' h' => ⟨h _ h'.1, fun w'' hw => wpX_mono h f _ a' w'' (h'.2 w'' hw)⟩) (k.2 i hi)⟩

theorem mem_pre' {s s' : Nat → Nat} {m M : List RO} {x x' : Nat → Obj → Prop} {w w' : World} (h0 : Mem s m x w) (h : Mem s' M x' w') (hp : preX m M) (hx : xsub x x') (ha : ∀ k, k < m.length → s' k = s k) : Mem s m x w' :=
  ⟨fun k o hk => by
      have hlt := (List.getElem?_eq_some_iff.1 hk).1
      have := h.mem k o (preX_get hp k o hk)
      rw [ha k hlt, renO_congr ha (h0.cm k o hk)] at this
      exact this,
    h0.inj, h0.cm, fun b o hb => h.ext b o (hx b o hb), h0.apart⟩

theorem wpX_mix {Q : Exit → Act → World → Prop} {K : St → Prop} (hsel : Region.noSelect ops = true) (hQ : ∀ c a d v w, Q (.panic c) (a.put d v) w → Q (.panic c) a w)
    (hK : ∀ s S a w, Rep bs w0 n ds s S a w → K S → Q .normal a w) (hall : dOk n ops.toList = true) :
    ∀ (l : List (Nat × Bool)) (listed : Array Bool) (s : Nat → Nat) (S : St) (a : Act) (w : World), mixB ops l listed = true → Rep bs w0 n ds s S a w → mixW P ops l S K →
      wpX P .any ops Q (fun w' => Mem s S.m S.x w' ∧ Fr bs w0 w') l.length listed a w
  | [], listed, s, S, a, w, hB, hr, h => ⟨by simpa [mixB] using hB, hK s S a w hr h⟩
  | (i, true) :: l, listed, s, S, a, w, hB, hr, h => by
    simp only [mixB, Bool.and_eq_true] at hB
    obtain ⟨⟨hr1, hf⟩, hB'⟩ := hB
    have hr' : i ∈ Region.ready .any ops listed := by simpa using hr1
    obtain ⟨o, ho, h⟩ := bindV_out h
    rw [nthX_eq] at ho
    have h0 : ops[i]? = some o := by simpa using ho
    have hd1 : dOk n [o] = true := by
      simp only [dOk, List.all_cons, List.all_nil, Bool.and_true]
      exact List.all_eq_true.1 hall o (List.mem_of_getElem? ho)
    have hq := headW_R (wS := w) (ds := ds) (D := fun w' => Mem s S.m S.x w' ∧ Fr bs w0 w') (fun _ h => h.1) hall [o] S a hd1 rfl rfl hr.sl hr.mr hr.size hr.df h
    obtain ⟨v, hy, S', h1, h2, h3, h4, h5, h6⟩ := hq
    refine wpX_first h0 (Region.noSelect_spec hsel) (fun c a w => hQ c a _ _ w) (fun w1 w2 h1 h2 => ⟨h1.1.keep h2, h1.2.trans (h2.mono (by simp))⟩) _ listed a w (Region.free_spec h0 hf) hr' hy ⟨hr.mr, hr.fr⟩ fun w' hw' => ?_
    have hrep : Rep bs w0 n ds s S' (a.put o.dst v) w' :=
      ⟨by rw [h1, h2]; exact hr.mr.keep hw', fun k hk => hr.own k (by rw [← h1]; exact hk), hr.fr.trans (hw'.mono (by simp)), h4, h3, h5⟩
    have := wpX_mix hsel hQ hK hall l (listed.setIfInBounds i true) s S' _ w' hB' hrep h6
    rw [h1, h2] at this
    exact this
  | (i, false) :: l, listed, s, S, a, w, hB, hr, h => by
    simp only [mixB, Bool.and_eq_true, decide_eq_true_eq] at hB
    obtain ⟨o, ho, h7⟩ := bindV_out h
    rw [nthX_eq] at ho
    have h8 : loudW P ops l S K o := h7
    clear h h7
    have h0 : ops[i]? = some o := by simpa using ho
    have hd1 : ∀ i, o.dst = some i → i < n := (dOk_cons (l := []) (by
      simp only [dOk, List.all_cons, List.all_nil, Bool.and_true]
      exact List.all_eq_true.1 hall o (List.mem_of_getElem? ho))).1
    refine ⟨fun h1 => (by rw [hB.1] at h1; cases h1), fun j hj => ?_⟩
    rw [hB.1] at hj
    have hik : j = i := by simpa using hj
    subst hik
    unfold wpOp
    simp only [h0]
    unfold loudW at h8
    cases hg : o.guard with
    | some g => simp only [hg] at h8
    | none =>
      simp only [hg] at h8
      simp only [Region.wanted, hg, if_true]
      refine .inl (opW_sound hr h8 (fun s2 v S2 w2 hag hv hr2 hk => ?_) (fun u s2 S2 w2 _ hp => hp.elim))
      obtain ⟨k1, k2, k3⟩ := hk
      refine ⟨⟨mem_pre' hr.mr hr2.mr k1 k2 hag, hr2.fr⟩, fun w3 hw3 => ?_⟩
      have hr3 := (hr2.put hd1 hv).step (by rw [St.put_m, St.put_x]; exact hr2.mr.keep hw3) (hw3.mono (by simp))
      have := wpX_mix hsel hQ hK hall l (listed.setIfInBounds j true) s2 _ _ w3 hB.2 hr3 k3
      rw [St.put_m, St.put_x] at this
      exact wpX_mono (fun w4 h4 => ⟨mem_pre' hr.mr h4.1 k1 k2 hag, h4.2⟩) _ _ _ _ this
end

section
variable {P : Program} {G : Ctx} {Q : Exit → St → Prop} {S : St}

theorem Sd_drawM {id : Nat} {ops : Array Oper} (steps : List (Nat × Bool)) (hm : P.follows .mixedOrders = true) (hd : dOk G.n ops.toList = true) (hB : lexMB ops steps = true)
    (h : mixW P ops steps S (Q .normal)) : Sd P G (.region id ops true) Q S := fun s a w hr => by
  have hr' := hr.drew
  simp only [lexMB, Bool.and_eq_true, beq_iff_eq] at hB
  obtain ⟨⟨hsel, hn⟩, hlex⟩ := hB
  refine wp_region_noPanic (wp_region_any hm (wpAny_of_X (D := fun w' => Mem s S.m S.x w' ∧ Fr G.bs G.w0 w') _ _ _ _ ?_))
  have := wpX_mix (Q := NoPanic fun e a w => ∃ s S, Rep G.bs G.w0 G.n G.ds s S a w ∧ Q e S) (K := Q .normal) hsel (fun _ _ _ _ _ h => h.elim) (fun s S a w hr h => ⟨s, S, hr, h⟩) hd steps _ s S a _ hlex hr' h
  rw [hn] at this
  exact this

def lxM (f : Func) (i : Nat) (steps : List (Nat × Bool)) : Bool := match rgF f i with
  | some ops => lexMB ops steps
  | none => false
theorem cW_drawMF {f : Func} {i : Nat} {l : List Oper} {steps : List (Nat × Bool)} (hl : lxM f i steps = true) (he : rgF f i = some l.toArray) (hm : P.follows .mixedOrders = true) (hd : dOk G.n l = true)
    (h : mixW P l.toArray steps S (Q .normal)) : cW P G (.region i l.toArray true) Q S :=
  Sd_drawM (ops := l.toArray) steps hm (by simpa using hd) (by rw [lxM, he] at hl; exact hl) h
end
end R
end Go.Proofs.Ytflljnaojghifaa
