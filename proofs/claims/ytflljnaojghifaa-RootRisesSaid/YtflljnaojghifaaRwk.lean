/- Regions that draw their order, where more than one step that makes memory may be next: by a plan of all orders. -/
import Derived.Test.YtflljnaojghifaaRwo
namespace Go.Proofs.Ytflljnaojghifaa
open Go Go.RowKit
namespace R
set_option linter.unusedVariables false

/-- A plan: what is quiet, and free, is taken at once; else all that may be next, one by one. -/
inductive Plan where
  | fin
  | q (i : Nat) (r : Plan)
  | alt (i : Nat) (r rest : Plan)

def Plan.ids : Plan → List Nat
  | .alt i _ rest => i :: rest.ids
  | _ => []

def planB (ops : Array Oper) : Plan → Bool → Nat → Array Bool → Bool
  | .fin, true, _, _ => true
  | .fin, false, 0, listed => (Region.ready .any ops listed).isEmpty
  | .q i r, false, n + 1, listed => (Region.ready .any ops listed).contains i && Region.free .any ops listed i && planB ops r false n (listed.setIfInBounds i true)
  | .alt i r rest, true, n + 1, listed => planB ops r false n (listed.setIfInBounds i true) && planB ops rest true (n + 1) listed
  | .alt i r rest, false, n + 1, listed => decide (Region.ready .any ops listed = i :: rest.ids) && planB ops r false n (listed.setIfInBounds i true) && planB ops rest true (n + 1) listed
  | _, _, _, _ => false
def lexPB (ops : Array Oper) (p : Plan) : Bool := Region.noSelect ops && planB ops p false ops.size (Array.replicate ops.size false)

def planW (P : Program) (ops : Array Oper) : Plan → Bool → List RO → (Nat → Obj → Prop) → St → (St → Prop) → Prop
  | .fin, true, _, _, _, _ => True
  | .fin, false, _, _, S, K => K S
  | .q _ _, true, _, _, _, _ => True
  | .q i r, false, m, x, S, K => bindV (nthX ops.toList i) fun o => headW P ops [o] S fun S' => planW P ops r false S.m S.x S' K
  | .alt i r rest, _, m, x, S, K => (bindV (nthX ops.toList i) fun o => match o.guard with
      | none => opW P false S o (fun v S' => preX m S'.m ∧ xsub x S'.x ∧ planW P ops r false m x (S'.put o.dst v) K) (fun _ _ => False)
      | some _ => False) ∧ planW P ops rest true m x S K
/-- A step that is not quiet. -/
def ploudW (P : Program) (ops : Array Oper) (r : Plan) (m : List RO) (x : Nat → Obj → Prop) (S : St) (K : St → Prop) (o : Oper) : Prop := match o.guard with
  | none => opW P false S o (fun v S' => preX m S'.m ∧ xsub x S'.x ∧ planW P ops r false m x (S'.put o.dst v) K) (fun _ _ => False)
  | some _ => False
@[congr] theorem planW_congr {P : Program} {ops : Array Oper} {p : Plan} {b : Bool} {m : List RO} {x : Nat → Obj → Prop} {S S' : St} {K : St → Prop} (h : hold S = S') : planW P ops p b m x S K = planW P ops p b m x S' K := by rw [← h]; rfl
@[congr] theorem ploudW_congr {P : Program} {ops : Array Oper} {r : Plan} {m : List RO} {x : Nat → Obj → Prop} {S S' : St} {K : St → Prop} {o : Oper} (h : hold S = S') : ploudW P ops r m x S K o = ploudW P ops r m x S' K o := by rw [← h]; rfl
theorem planW_end {P : Program} {ops : Array Oper} {m : List RO} {x : Nat → Obj → Prop} {S : St} {K : St → Prop} : planW P ops .fin true m x S K = True := propext ⟨fun h => h, fun h => h⟩
theorem planW_fin {P : Program} {ops : Array Oper} {m : List RO} {x : Nat → Obj → Prop} {S : St} {K : St → Prop} : planW P ops .fin false m x S K = K S := propext ⟨fun h => h, fun h => h⟩
theorem planW_q {P : Program} {l : List Oper} {i : Nat} {r : Plan} {m : List RO} {x : Nat → Obj → Prop} {S : St} {K : St → Prop} : planW P l.toArray (.q i r) false m x S K = bindV (nthX l i) fun o => headW P l.toArray [o] S fun S' => planW P l.toArray r false S.m S.x S' K := propext ⟨fun h => h, fun h => h⟩
theorem planW_alt {P : Program} {l : List Oper} {i : Nat} {b : Bool} {r rest : Plan} {m : List RO} {x : Nat → Obj → Prop} {S : St} {K : St → Prop} :
    planW P l.toArray (.alt i r rest) b m x S K = ((bindV (nthX l i) fun o => ploudW P l.toArray r m x S K o) ∧ planW P l.toArray rest true m x S K) := by
  cases b <;> exact propext ⟨fun h => h, fun h => h⟩
theorem ploudW_none {P : Program} {ops : Array Oper} {r : Plan} {m : List RO} {x : Nat → Obj → Prop} {S : St} {K : St → Prop} {d : Option Nat} {op : Op} {ty : TypeId} {pos : String} {af : Array Edge} :
    ploudW P ops r m x S K ⟨d, op, ty, pos, af, none⟩ = opW P false S ⟨d, op, ty, pos, af, none⟩ (fun v S' => preX m S'.m ∧ xsub x S'.x ∧ planW P ops r false m x (S'.put d v) K) (fun _ _ => False) := propext ⟨fun h => h, fun h => h⟩

section
variable {P : Program} {ops : Array Oper} {bs : List Nat} {w0 : World} {n : Nat} {ds : List Deferred}

/-- The steps that may be next, in plan p. -/
def Alts : Plan → Nat → Plan → Prop
  | .alt i r rest, j, q => (j = i ∧ q = r) ∨ Alts rest j q
  | _, _, _ => False

theorem alts_of_ids : ∀ {p : Plan} {j : Nat}, j ∈ p.ids → ∃ q, Alts p j q
  | .alt i r rest, j, h => by
    simp only [Plan.ids, List.mem_cons] at h
    rcases h with rfl | h
    · exact ⟨r, .inl ⟨rfl, rfl⟩⟩
    · obtain ⟨q, hq⟩ := alts_of_ids h
      exact ⟨q, .inr hq⟩
theorem alts_B {listed : Array Bool} {n : Nat} : ∀ {p : Plan} {b : Bool} {j : Nat} {q : Plan}, Alts p j q → planB ops p b (n + 1) listed = true → planB ops q false n (listed.setIfInBounds j true) = true
  | .alt i r rest, b, j, q, h, hB => by
    cases b <;> simp only [planB, Bool.and_eq_true] at hB
    · rcases h with ⟨rfl, rfl⟩ | h
      · exact hB.1.2
      · exact alts_B h hB.2
    · rcases h with ⟨rfl, rfl⟩ | h
      · exact hB.1
      · exact alts_B h hB.2
theorem alts_W {m : List RO} {x : Nat → Obj → Prop} {S : St} {K : St → Prop} : ∀ {p : Plan} {b : Bool} {j : Nat} {q : Plan}, Alts p j q → planW P ops p b m x S K → bindV (nthX ops.toList j) fun o => ploudW P ops q m x S K o
  | .alt i r rest, b, j, q, h, hW => by
    have hW' : (bindV (nthX ops.toList i) fun o => ploudW P ops r m x S K o) ∧ planW P ops rest true m x S K := by cases b <;> exact hW
    rcases h with ⟨rfl, rfl⟩ | h
    · exact hW'.1
    · exact alts_W h hW'.2
theorem wpX_plan {Q : Exit → Act → World → Prop} {K : St → Prop} (hsel : Region.noSelect ops = true) (hQ : ∀ c a d v w, Q (.panic c) (a.put d v) w → Q (.panic c) a w)
    (hK : ∀ s S a w, Rep bs w0 n ds s S a w → K S → Q .normal a w) (hall : dOk n ops.toList = true) :
    ∀ (f : Nat) (p : Plan) (m : List RO) (x : Nat → Obj → Prop) (s0 : Nat → Nat) (wS : World) (listed : Array Bool) (s : Nat → Nat) (S : St) (a : Act) (w : World), planB ops p false f listed = true → Rep bs w0 n ds s S a w →
      Mem s0 m x wS → preX m S.m → xsub x S.x → (∀ k, k < m.length → s k = s0 k) → planW P ops p false m x S K →
      wpX P .any ops Q (fun w' => Mem s0 m x w' ∧ Fr bs w0 w') f listed a w
  | 0, p, m, x, s0, wS, listed, s, S, a, w, hB, hr, hM, hp, hx, ha, h => by
    cases p with
    | fin => exact ⟨by simpa [planB] using hB, hK s S a w hr h⟩
    | q _ _ => simp [planB] at hB
    | alt _ _ _ => simp [planB] at hB
  | f + 1, .fin, m, x, s0, wS, listed, s, S, a, w, hB, hr, hM, hp, hx, ha, h => by simp [planB] at hB
  | f + 1, .q i r, m, x, s0, wS, listed, s, S, a, w, hB, hr, hM, hp, hx, ha, h => by
    simp only [planB, Bool.and_eq_true] at hB
    obtain ⟨⟨hr1, hf⟩, hB'⟩ := hB
    have hr' : i ∈ Region.ready .any ops listed := by simpa using hr1
    obtain ⟨o, ho, h⟩ := bindV_out h
    rw [nthX_eq] at ho
    have h0 : ops[i]? = some o := by simpa using ho
    have hd1 : dOk n [o] = true := by
      simp only [dOk, List.all_cons, List.all_nil, Bool.and_true]
      exact List.all_eq_true.1 hall o (List.mem_of_getElem? ho)
    have hq := headW_R (wS := w) (ds := ds) (D := fun w' => Mem s S.m S.x w' ∧ Fr bs w0 w') (fun _ h => h.1) hall [o] S a hd1 rfl rfl hr.sl hr.mr hr.size hr.df h
    obtain ⟨v, hy, S', h1, h2, h3, h4, h5, h6⟩ := hq
    refine wpX_mono (D := fun w' => Mem s S.m S.x w' ∧ Fr bs w0 w') (fun w4 h4 => ⟨mem_pre' hM h4.1 hp hx ha, h4.2⟩) _ _ _ _ ?_
    refine wpX_first h0 (Region.noSelect_spec hsel) (fun c a w => hQ c a _ _ w) (fun w1 w2 h1 h2 => ⟨h1.1.keep h2, h1.2.trans (h2.mono (by simp))⟩) _ listed a w (Region.free_spec h0 hf) hr' hy ⟨hr.mr, hr.fr⟩ fun w' hw' => ?_
    have hrep : Rep bs w0 n ds s S' (a.put o.dst v) w' :=
      ⟨by rw [h1, h2]; exact hr.mr.keep hw', fun k hk => hr.own k (by rw [← h1]; exact hk), hr.fr.trans (hw'.mono (by simp)), h4, h3, h5⟩
    exact wpX_plan hsel hQ hK hall f r S.m S.x s w (listed.setIfInBounds i true) s S' _ w' hB' hrep hr.mr (by rw [h1]; exact preX_refl _) (by rw [h2]; exact fun _ _ h => h) (fun _ _ => rfl) h6
  | f + 1, .alt i r rest, m, x, s0, wS, listed, s, S, a, w, hB, hr, hM, hp, hx, ha, h => by
    have hB0 := hB
    simp only [planB, Bool.and_eq_true, decide_eq_true_eq] at hB
    refine ⟨fun h1 => (by rw [hB.1.1] at h1; cases h1), fun j hj => ?_⟩
    rw [hB.1.1] at hj
    obtain ⟨q, hq⟩ := alts_of_ids (p := .alt i r rest) hj
    have hBq := alts_B hq hB0
    obtain ⟨o, ho, h8⟩ := bindV_out (alts_W hq h)
    rw [nthX_eq] at ho
    have h0 : ops[j]? = some o := by simpa using ho
    have hd1 : ∀ i, o.dst = some i → i < n := (dOk_cons (l := []) (by
      simp only [dOk, List.all_cons, List.all_nil, Bool.and_true]
      exact List.all_eq_true.1 hall o (List.mem_of_getElem? ho))).1
    unfold wpOp
    simp only [h0]
    unfold ploudW at h8
    cases hg : o.guard with
    | some g => simp only [hg] at h8
    | none =>
      simp only [hg] at h8
      simp only [Region.wanted, hg, if_true]
      refine .inl (opW_sound hr h8 (fun s2 v S2 w2 hag hv hr2 hk => ?_) (fun u s2 S2 w2 _ hp => hp.elim))
      obtain ⟨k1, k2, k3⟩ := hk
      have ha2 : ∀ k, k < m.length → s2 k = s0 k := fun k hk => (hag k (Nat.lt_of_lt_of_le hk (preX_len hp))).trans (ha k hk)
      refine ⟨⟨mem_pre' hM hr2.mr k1 k2 ha2, hr2.fr⟩, fun w3 hw3 => ?_⟩
      have hr3 := (hr2.put hd1 hv).step (by rw [St.put_m, St.put_x]; exact hr2.mr.keep hw3) (hw3.mono (by simp))
      exact wpX_plan hsel hQ hK hall f q m x s0 wS (listed.setIfInBounds j true) s2 _ _ w3 hBq hr3 hM (by rw [St.put_m]; exact k1) (by rw [St.put_x]; exact k2) ha2 k3
end

section
variable {P : Program} {G : Ctx} {Q : Exit → St → Prop} {S : St}

theorem Sd_drawP {id : Nat} {ops : Array Oper} (p : Plan) (S1 : St) (hm : P.follows .mixedOrders = true) (hd : dOk G.n ops.toList = true) (hB : lexPB ops p = true)
    (h : planW P ops p false S.m S.x S (fun S' => WkE S' S1)) (hQ : Q .normal S1) : Sd P G (.region id ops true) Q S := fun s a w hr => by
  have hr' := hr.drew
  simp only [lexPB, Bool.and_eq_true] at hB
  obtain ⟨hsel, hlex⟩ := hB
  refine wp_region_noPanic (wp_region_any hm (wpAny_of_X (D := fun w' => Mem s S.m S.x w' ∧ Fr G.bs G.w0 w') _ _ _ _ ?_))
  exact wpX_plan (Q := NoPanic fun e a w => ∃ s S, Rep G.bs G.w0 G.n G.ds s S a w ∧ Q e S) (K := fun S' => WkE S' S1) hsel (fun _ _ _ _ _ h => h.elim) (fun s S a w hr h => by
    obtain ⟨s', hr2⟩ := h G s a w hr
    exact ⟨s', S1, hr2, hQ⟩) hd ops.size p S.m S.x s w _ s S a _ hlex hr' hr.mr (preX_refl _) (fun _ _ h => h) (fun _ _ => rfl) h

def lxP (f : Func) (i : Nat) (p : Plan) : Bool := match rgF f i with
  | some ops => lexPB ops p
  | none => false
theorem cW_drawPF {f : Func} {i : Nat} {l : List Oper} {p : Plan} (S1 : St) (hl : lxP f i p = true) (he : rgF f i = some l.toArray) (hm : P.follows .mixedOrders = true) (hd : dOk G.n l = true)
    (h : planW P l.toArray p false S.m S.x S (fun S' => WkE S' S1)) (hQ : Q .normal S1) : cW P G (.region i l.toArray true) Q S :=
  Sd_drawP (ops := l.toArray) p S1 hm (by simpa using hd) (by rw [lxP, he] at hl; exact hl) h hQ
end
end R
end Go.Proofs.Ytflljnaojghifaa
