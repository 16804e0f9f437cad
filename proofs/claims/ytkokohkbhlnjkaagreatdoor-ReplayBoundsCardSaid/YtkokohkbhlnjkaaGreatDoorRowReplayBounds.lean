/- 'sawtoothlaw22.ReplayBounds': for every input the call returns true, and each argument reads as it did: the tied card. Conditions: the listed variable holds what the program's text lays. -/
import Derived.Test.YtkokohkbhlnjkaaGreatDoorMa6
import Derived.Test.YtkokohkbhlnjkaaGreatDoorCards
import Derived.Test.YtkokohkbhlnjkaaGreatDoorTie
namespace Go.Proofs.YtkokohkbhlnjkaaGreatDoor
set_option linter.unusedVariables false
set_option linter.unusedSimpArgs false
open Go Go.RowKit Go.Proofs.YtkokohkbhlnjkaaGreatDoor.R
set_option maxRecDepth 50000
set_option maxHeartbeats 8000000
theorem QuB {x:Nat→Obj→Prop} (hT:TensX x) (c:Cf) {a:Option Addr} {len cap:Nat} {rs:Nat→Raw} (hl:len≤cap) (hc:cap≤maxLen) (hr:Raws x a len rs):PureC Tryz.prog x 16 [c.v,.slice a len cap] (.bool true):=by
 have hF:=QcJ (x:=x) (cap:=cap) (most:=60) (by unfold maxLen at hc; omega) hr
 refine Qab Tryz.func16 rfl rfl fun w=>?_
 refine Qaa (by kernel_rfl) ?_
 cases hf:fewB rs len 60 with
 | false=>
  rw [hf] at hF
  unfold Cf.v
  repeat' (first|((with_reducible show callW _ _ _ (some (19,_)) _ _);refine callP QaZ rfl (hF) ?_)|((with_reducible show callW _ _ _ (some (40,_)) _ _);refine callP Qbz rfl (Qbx hT) ?_)|((fail_if_success (with_reducible refine stk ?_));simp only [WE,Nat.reduceBEq,Nat.reduceAdd,QrV]))
 | true=>
  rw [hf] at hF
  have h60:=Qdi hf
  have hP:=Qa4 (cap:=cap) c hT (by omega) hr
  unfold PlayNR at hP
  obtain ⟨l,hl'⟩:∃ l,(plNotes c rs len).1=l:=⟨_,rfl⟩
  obtain ⟨er,her⟩:∃ er,(plNotes c rs len).2=er:=⟨_,rfl⟩
  have hb:∀ (i:Nat) (e:Nt),l[i]? = some e→131072≤e.win∧e.win≤wr .i64 (c.max * 65536)∧131072≤e.thr∧1≤e.rate∧c.least≤e.rto∧e.rto≤c.great∧0≤e.part∧e.part≤3:=fun i e he=>by
   cases hok:c.ok with
   | false=>
    have:(plNotes c rs len).1=[]:=by unfold plNotes; rw [if_neg (by simp [hok])]
    rw [this] at hl'
    subst hl'
    simp at he
   | true=>
    have hlen:=QcY (rs:=rs) (len:=len) hok
    have hi:i < len:=by rw [←hlen,hl']; exact (List.getElem?_eq_some_iff.1 he).1
    have h1:=QBD hok hi (by rw [hl']; exact he)
    obtain ⟨_,hm,_⟩:=(c.ok_iff).1 hok
    have e1:wr .i64 (c.max * 65536)=c.max * 65536:=Qag (by omega) (by omega)
    rw [e1]; exact h1
  have hn:l.length≤60∧(er=0∨l.length=0):=by
   rw [←hl',←her]
   cases hok:c.ok with
   | false=>
    have:plNotes c rs len=([],210):=by unfold plNotes; rw [if_neg (by simp [hok])]
    rw [this]; exact ⟨by simp,.inr rfl⟩
   | true=>
    rw [QcY hok]
    exact ⟨by omega,.inl (by unfold plNotes; rw [if_pos hok])⟩
  rw [hl',her] at hP
  generalize hN:l.length=n at hP hn
  unfold Cf.v at hP
  unfold Cf.v
  repeat' (first|((with_reducible show callW _ _ _ (some (19,_)) _ _);refine callP QaZ rfl (hF) ?_)|((with_reducible show callW _ _ _ (some (40,_)) _ _);refine callP Qbz rfl (Qbx hT) ?_)|((fail_if_success (with_reducible refine stk ?_));simp only [WE,segX,Nat.reduceBEq,Nat.reduceAdd,Qai]))
  refine callE QaG rfl hP ?_
  rintro v x1 x2 ⟨a1,c1,rfl,hn1⟩ hs1 hs2
  replace hn1:=hn1.mono hs2
  clear hs1 hs2
  repeat' (first|((fail_if_success (with_reducible refine stk ?_));simp only [WE,Nat.reduceBEq]))
  refine Qa3 (α:=Nat) (fun i=>⟨[(8,.ext (.int .i64 i)),(6,.ext (.slice a1 n c1)),(7,.ext (.int .i64 er)),(5,.ext (.bool true)),(2,.ptr 0 0)],[.cells 23 (cfCells c)],x2⟩)
   (fun i=>i≤n) (fun i=>n - i)
   ⟨0,Qae ⟨⟨rfl,rfl⟩,⟨rfl,rfl⟩,⟨rfl,rfl⟩,⟨rfl,rfl⟩,⟨rfl,rfl⟩,trivial⟩ (Qao _) rfl,Nat.zero_le _⟩ (by kernel_rfl) ?_
  intro i hi
  try dsimp only at hi ⊢
  unfold cfCells
  by_cases hlt:i < n
  ·have hd:decide ((i:Int) < (n:Int))=true:=by simp; exact hlt
   have ei:wr .i64 ((i:Int)+1)=((i+1:Nat):Int):=by rw [Qag (by omega) (by omega)]; rfl
   obtain ⟨e,he⟩:∃ e,l[i]? = some e:=⟨l[i],by simp [hN,hlt]⟩
   obtain ⟨b1,d1,T1,f1,rfl,hx1,hc1,_⟩:=Qa8 hn1 hlt he
   obtain ⟨p1,p2,p3,p4,p5,p6,p7,p8⟩:=hb i e he
   obtain ⟨ee,ew,et,era,ert,ep⟩:=e
   dsimp only at p1 p2 p3 p4 p5 p6 p7 p8 hc1
   have q1:decide (ew < 131072)=false:=by simp; omega
   have q2:decide (wr .i64 (c.max * 65536) < ew)=false:=by simp; omega
   have q3:decide (et < 131072)=false:=by simp; omega
   have q4:decide (era < 1)=false:=by simp; omega
   have q5:decide (ert < c.least)=false:=by simp; omega
   have q6:decide (c.great < ert)=false:=by simp; omega
   have q7:decide (ep < 0)=false:=by simp; omega
   have q8:decide (3 < ep)=false:=by simp; omega
   repeat' (first|(with_reducible refine Qam ⟨by omega,by omega⟩ ?_)|(with_reducible refine Qad hx1 hc1 ?_)|((fail_if_success (with_reducible refine stk ?_));simp only [WE,Nat.reduceBEq,Nat.reduceAdd,Nat.reduceEqDiff,ty_3,QaN,QaE,QaW,QaV,Qfa,Qyj,Qyk,Qyl,Qym,QaP,Qa2,Qav,hd,ei,q1,q2,q3,q4,q5,q6,q7,q8]))
   exact ⟨i+1,Qae ⟨⟨rfl,rfl⟩,⟨rfl,rfl⟩,⟨rfl,rfl⟩,⟨rfl,rfl⟩,⟨rfl,rfl⟩,trivial⟩ ⟨rfl,trivial⟩ rfl,by omega,by omega⟩
  ·have hd:decide ((i:Int) < (n:Int))=false:=by simp; omega
   repeat' (first|(with_reducible refine Qah (fun _=>?_) (fun _=>?_))|((fail_if_success (with_reducible refine stk ?_));simp only [WE,Nat.reduceBEq,Qav,QrV,hd]))
   rcases hn.2 with h | h
   ·rename_i hq
    rw [h] at hq
    cases hq
   ·rw [h]; rfl
theorem QBR:∀ (x:Nat→Obj→Prop) (vs:List Value),XLaid x→Shvs x [.r (.cons 1 (.i .i64) (.cons 1 (.i .i64) (.cons 1 (.i .i64) (.cons 1 (.i .i64) (.cons 1 (.i .i64) (.cons 1 (.i .i64) (.cons 1 (.i .i64) (.nil)))))))),.v 1 (.v 1 (.i .i64))] vs→PureC Tryz.prog x 16 vs (.bool true):=by
 intro x vs hx hv
 rcases vs with _ | ⟨v0,_ | ⟨v1,_ | ⟨v2,vs⟩⟩⟩ <;> simp only [Shvs,and_false] at hv
 obtain ⟨h0,h1,_⟩:=hv
 obtain ⟨c,rfl,_⟩:=Qd9 h0
 obtain ⟨a,len,cap,rs,rfl,g1,g2,g3⟩:=Qea h1
 exact QuB hx.1 c g1 g2 g3
end Go.Proofs.YtkokohkbhlnjkaaGreatDoor
namespace Go.Proofs.YtkokohkbhlnjkaaGreatDoor
set_option linter.unusedVariables false
set_option linter.unusedSimpArgs false
open Go Go.RowKit Go.ChangeShapes Go.WideShapes Go.ChangeAt Go.Proofs.YtkokohkbhlnjkaaGreatDoor.R
set_option maxRecDepth 100000
theorem replayBounds_lifted (os:Os) (started:os.Started) (H:Type) (enc:TypeId×Value→H) :
  ReturnsInLeavingWide {} Tryz.checked os 16 .any (Rows.replayBoundsRow.pre enc Tryz.prog Tryz.f16 (OpenSpec.ofChange Rows.replayBoundsSpec)) (Rows.replayBoundsSpec.post enc Tryz.prog Tryz.f16 false true false false):=
 Qd7 (C:=Tryz.checked) (s:=Rows.replayBoundsSpec) (conds:=[]) (l:=Rows.replayBoundsRow.laid) (Xs:=XLaid) (tb:=4) (ys:=[.r (.cons 1 (.i .i64) (.cons 1 (.i .i64) (.cons 1 (.i .i64) (.cons 1 (.i .i64) (.cons 1 (.i .i64) (.cons 1 (.i .i64) (.cons 1 (.i .i64) (.nil)))))))),.v 1 (.v 1 (.i .i64))]) (by kernel_rfl) own_ started (by kernel_rfl) Tryz.func16
  (ChangeSpec.witness_shaped (enc:=enc) (C:=Tryz.checked) (os:=os) (X:=fun w _=>laidMetH Tryz.prog Rows.replayBoundsRow.laid w) false (World.laidAll Tryz.prog os Rows.replayBoundsRow.laid) #[.agg #[.int .i64 0,.int .i64 0,.int .i64 0,.int .i64 0,.int .i64 0,.int .i64 0,.int .i64 0],.slice none 0 0] 8 (World.laidAll_os _ _ _)
   (World.shaped_of_ZipB (by kernel_rfl) (by kernel_rfl)) (by kernel_rfl) (by kernel_rfl) (by kernel_rfl)
   (by rw [MakeChecks.laidMetH_plain _ _ _ (by kernel_rfl)]; exact laidMet_laidAll _ (by kernel_rfl) (by kernel_rfl)))
  rfl QbA (by kernel_rfl) rfl Tryz.underlying4
  (fun ds hd=>by match ds,hd with | [d0,d1],_=>exact ⟨rfl,rfl,rfl⟩)
  (by kernel_rfl) Qdq (fun x vs hT h=>QBR x vs hT h)
set_option maxHeartbeats 8000000 in
theorem replayBounds_closed:joinedFacts Tryz.checked.prog 16 Tryz.f16 Rows.replayBoundsSpec Rows.replayBoundsRow=true:=by
 unfold joinedFacts
 simp only [Bool.and_eq_true]
 repeat' apply And.intro
 all_goals first | (with_reducible exact QbA) | (as_aux_lemma=>kernel_rfl)
theorem replayBounds_named:Tryz.checked.prog.funcNamed Rows.replayBoundsRow.func=some 16:=by kernel_rfl
theorem replayBounds_inst:Tryz.f16.isInstance Tryz.checked.prog Rows.replayBoundsRow.origin Rows.replayBoundsRow.targs:=of_decide_eq_true (by kernel_rfl)
theorem replayBounds_wrap:Tryz.f16.isWrapper Tryz.checked.prog Rows.replayBoundsRow.wrapper Rows.replayBoundsRow.mainSum:=by unfold Func.isWrapper; first | (rw [if_pos (by decide +kernel)]; kernel_rfl) | (rw [if_neg (by decide +kernel)]; exact ⟨rfl,rfl⟩)
theorem replayBounds_said:Rows.ReplayBoundsSaid:=
 OpenClaim.holds_of_wide_leaving 16 Tryz.f16 rfl rfl rfl rfl rfl rfl rfl ⟨rfl,rfl,rfl,rfl,rfl⟩ rfl rfl rfl rfl rfl replayBounds_named Tryz.func16 replayBounds_closed
  replayBounds_inst replayBounds_wrap (fun os started H enc _=>replayBounds_lifted os started H enc)
theorem replayBounds_goes:true=Rows.replayBoundsRow.goesBy Tryz.pinned.checked.prog:=by kernel_rfl
theorem replayBounds_wf:Rows.replayBoundsRow.wfByText (OpenSpec.ofChange Rows.replayBoundsSpec)=true:=by kernel_rfl
theorem replayBounds_wants:([23,24].all fun u=>!Tryz.prog.wantsStandIn u)=true:=by kernel_rfl
theorem replayBounds_holds:Rows.ReplayBoundsCardSaid:=
 Qdf [.data] true (true, "9743dcc7216159cedf5af689d9831578d52e7622345c3cbb87c8bebbc0866563") true
  replayBounds_said replayBounds_wf replayBounds_row_tie rfl ⟨rfl,rfl⟩ Qd3 rfl
  (fun f fn hf hfn=>by
   obtain rfl:f=16:=Option.some.inj (hf.symm.trans replayBounds_named)
   obtain rfl:fn=Tryz.f16:=(Option.some.inj (Tryz.func16.symm.trans hfn)).symm
   exact ⟨QdU,fun j t ht=>by
    rw [Tryz.params16] at ht
    have hm:t∈[23,24]:=by simpa using Array.mem_of_getElem? ht
    exact (show Tryz.prog.wantsStandIn t=false by simpa using List.all_eq_true.1 replayBounds_wants t hm)⟩)
  replayBounds_goes
#print axioms replayBounds_holds
end Go.Proofs.YtkokohkbhlnjkaaGreatDoor
