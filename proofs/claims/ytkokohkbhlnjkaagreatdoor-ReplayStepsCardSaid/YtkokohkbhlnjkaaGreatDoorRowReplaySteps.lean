/- 'sawtoothlaw22.ReplaySteps': for every input the call returns true, and each argument reads as it did: the tied card. Conditions: the listed variable holds what the program's text lays. -/
import Derived.Test.YtkokohkbhlnjkaaGreatDoorMa6
import Derived.Test.YtkokohkbhlnjkaaGreatDoorCards
import Derived.Test.YtkokohkbhlnjkaaGreatDoorTie
namespace Go.Proofs.YtkokohkbhlnjkaaGreatDoor
set_option linter.unusedVariables false
set_option linter.unusedSimpArgs false
open Go Go.RowKit Go.Proofs.YtkokohkbhlnjkaaGreatDoor.R
set_option maxRecDepth 50000
set_option maxHeartbeats 8000000
structure StepS where
 i:Nat
 u:Value
 y:Nat→Obj→Prop
def stepSt (c:Cf) (ad:Option Addr) (len cap:Nat) (rs:Nat→Raw) (s0:Es) (a1:Option Addr) (c1:Nat) (p:StepS):St:=
 ⟨[(10,.ext (.int .i64 p.i)),(6,.ext (.slice a1 len c1)),(1,.ext (.slice ad len cap)),(5,.ext (.bool true)),(2,.ptr 0 0),(8,.ptr 1 0)],
  [.cells 23 (cfCells c),.cells 49 (sRow (playUp s0 rs p.i).1 p.u)],p.y⟩
def stepJ (rs:Nat→Raw) (s0:Es) (len:Nat) (x2:Nat→Obj→Prop) (p:StepS):Prop:=p.i≤len∧xsub x2 p.y∧MsAt p.y (playUp s0 rs p.i).1.ms p.u
theorem Qxu {c:Cf} (h:c.ok=false):esNew c=(esZ,210):=by unfold esNew; rw [h]; rfl
theorem QFM {x:Nat→Obj→Prop} (hT:TensX x) (c:Cf) {ad:Option Addr} {len cap:Nat} {rs:Nat→Raw} (hok:c.ok=true) (h60:len≤60) (hF:PureC Tryz.prog x 19 [.slice ad len cap,.int .i64 60] (.bool true)) (hr:Raws x ad len rs):PureC Tryz.prog x 14 [c.v,.slice ad len cap] (.bool true):=by
 refine Qab Tryz.func14 rfl rfl fun w=>?_
 refine Qaa (by kernel_rfl) ?_
 have hP:=Qa4 (cap:=cap) c hT (by omega) hr
 unfold PlayNR at hP
 obtain ⟨l,hl'⟩:∃ l,(plNotes c rs len).1=l:=⟨_,rfl⟩
 have e1:(plNotes c rs len).2=0:=by unfold plNotes; rw [if_pos hok]
 have e2:(esNew c).2=0:=by unfold esNew; rw [hok]; rfl
 have hll:l.length=len:=by rw [←hl']; exact QcY hok
 rw [e1,hl',hll] at hP
 have hN:=fun (z:Nat→Obj→Prop)=>Qeh (x:=z) c
 rw [e2] at hN
 obtain ⟨s0,hs0⟩:∃ s0,(esNew c).1=s0:=⟨_,rfl⟩
 rw [hs0] at hN
 unfold Cf.v at hP
 unfold Cf.v Es.v Es.cells at hN
 unfold Cf.v
 have qb:((len:Int) != (len:Int))=false:=bne_self_eq_false _
 have qc:((0:Int) != 0)=false:=rfl
 repeat' (first|((with_reducible show callW _ _ _ (some (19,_)) _ _);refine callP QaZ rfl (hF) ?_)|((with_reducible show callW _ _ _ (some (40,_)) _ _);refine callP Qbz rfl (Qbx hT) ?_)|((fail_if_success (with_reducible refine stk ?_));simp only [WE,segX,Nat.reduceBEq,Nat.reduceAdd,Qai]))
 refine callE QaG rfl hP ?_
 rintro v x1 x2 ⟨a1,c1,rfl,hn1⟩ hs1 hs2
 replace hn1:=hn1.mono hs2
 have hT2:TensX x2:=hT.mono hs1
 have hr2:=hr.mono hs1
 clear hs2
 repeat' (first|((with_reducible show callW _ _ _ (some (22,_)) _ _);refine callP Qdm rfl (hN _) ?_)|((fail_if_success (with_reducible refine stk ?_));simp only [WE,segX,Nat.reduceBEq,Nat.reduceAdd,Nat.reduceEqDiff,Qai,Qaj,Qau,QaM,Qav,qb,qc]))
 have hm0:s0.ms=[]:=by rw [←hs0]; unfold esNew; rw [hok]; rfl
 refine QfT (stepSt c ad len cap rs s0 a1 c1) (stepJ rs s0 len x2) (fun p=>len - p.i)
  ⟨⟨0,.slice none 0 0,x2⟩,QaI [0,1] (fun _ _ h=>h) ⟨⟨rfl,rfl⟩,⟨rfl,rfl⟩,⟨rfl,rfl⟩,⟨rfl,rfl⟩,⟨rfl,rfl⟩,⟨rfl,rfl⟩,trivial⟩ ⟨⟨rfl,rfl⟩,⟨rfl,rfl⟩,trivial⟩ (by decide) (Nat.le_refl _),Nat.zero_le _,fun _ _ h=>h,by
   show MsAt x2 s0.ms _
   rw [hm0]
   exact ⟨none,0,rfl,Nat.le_refl _,by decide,fun _=>rfl,fun i hi=>absurd hi (by simp)⟩⟩ (by kernel_rfl) ?_
 rintro ⟨i,u,y⟩ ⟨hi,hxy,hu⟩
 simp only [stepSt]
 dsimp only at hi hxy hu
 have hPi:PIn (playUp s0 rs i).1 i:=PIn.up (by rw [←hs0]; exact PIn.new hok) rs i
 have hTy:TensX y:=hT2.mono hxy
 obtain ⟨cur,hcur⟩:∃ cur,(playUp s0 rs i).1=cur:=⟨_,rfl⟩
 rw [hcur] at hPi hu ⊢
 by_cases hlt:i < len
 ·have hd:decide ((i:Int) < (len:Int))=true:=by simp; exact hlt
  have ei:wr .i64 ((i:Int)+1)=((i+1:Nat):Int):=by rw [Qag (by omega) (by omega)]; rfl
  obtain ⟨hz,bb,off,cc,T,fr,rfl,hxr,hcr⟩:=(hr2.mono hxy) i hlt
  have he:l[i]? = some (noteOf (playStep cur (rs i))):=by rw [←hl',Qfo hok hlt,hs0,hcur]
  obtain ⟨b1,d1,T1,f1,rfl,hx1,hc1,_⟩:=Qa8 (hn1.mono hxy) hlt he
  have hD:=QlL (cap:=(rs i).cap) hz
  have hup:(playUp s0 rs (i+1)).1=(playStep cur (rs i)).1:=by rw [←hcur]; rfl
  have hnx:PIn (playStep cur (rs i)).1 (i+1):=hPi.step (rs i)
  by_cases hbd:(rawEv (rs i)).2=0
  ·have hs:playStep cur (rs i)=esDo cur (rawEv (rs i)).1:=if_pos hbd
   rw [hs] at hc1 hup hnx
   unfold rawEv at hc1 hup hnx hbd
   revert hD hc1 hup hnx hbd
   generalize evDec (rs i).len (rs i).zs=D
   obtain ⟨ev,bd⟩:=D
   dsimp only
   intro hc1 hD hup hnx hbd
   subst hbd
   generalize hdo:esDo cur ev=p at *
   obtain ⟨t,g⟩:=p
   dsimp only at hup hnx hc1
   have hDo:=Qgb hTy hdo (hPi.in_ (by omega)) hu
   obtain ⟨a0,cp0,rfl,hu0⟩:=hu
   unfold Es.v Es.cells Ev.v at hDo
   obtain ⟨q,hq⟩:∃ q,esLook t=q:=⟨_,rfl⟩
   have hnt:noteOf (t,g)=⟨g,q.win,q.thr,q.rate,q.rto,q.part⟩:=by unfold noteOf; rw [hq]
   rw [hnt] at hc1
   obtain ⟨q0,q1,q2,q3,q4,q5⟩:=q
   dsimp only at hc1
   have qz:((0:Int) == 0)=true:=rfl
   unfold cfCells sRow Es.cells
   repeat' (first|(with_reducible refine Qam ⟨by omega,by omega⟩ ?_)|(with_reducible refine Qad hxr hcr ?_)|((with_reducible show callW _ _ _ (some (28,_)) _ _);refine callP QiF rfl (hD) ?_)|((fail_if_success (with_reducible refine stk ?_));simp only [WE,segX,Nat.reduceBEq,Nat.reduceAdd,Nat.reduceEqDiff,QbX,Qaj,QaU,QbR,QeN,Qav,hd]))
   refine callE Qgy rfl hDo ?_
   rintro v x3 x4 ⟨a3,c3,rfl,hu3⟩ hs3 hs4
   have hu4:=hu3.mono hs4
   have hT4:=hTy.mono hs3
   have hL:=QeZ hT4 t hnx.fl (by have:=hnx.ok.back; omega) (by have:=hnx.ms; omega) hu4
   rw [hq] at hL
   unfold Es.v Es.cells Nt.v at hL
   replace hx1:=hs3 _ _ hx1
   repeat' (first|(with_reducible refine Qam ⟨by omega,by omega⟩ ?_)|(with_reducible refine Qad hx1 hc1 ?_)|((with_reducible show callW _ _ _ (some (30,_)) _ _);refine callP Qfc rfl (hL) ?_)|((with_reducible show cW _ _ (.region 18 _ true) _ _);refine Qas QpD (by kernel_rfl) Qaf (by kernel_rfl) ?_)|((fail_if_success (with_reducible refine stk ?_));simp only [WE,segX,Nat.reduceBEq,Nat.reduceAdd,Nat.reduceEqDiff,Qaq,Qaj,QaN,QaK,QaP,Qau,Qa2,Qeo,ei]))
   refine ⟨⟨i+1,.slice a3 t.ms.length c3,x4⟩,QaI [0,1] (fun _ _ h=>h) ⟨⟨rfl,rfl⟩,⟨rfl,rfl⟩,⟨rfl,rfl⟩,⟨rfl,rfl⟩,⟨rfl,rfl⟩,⟨rfl,rfl⟩,trivial⟩ ⟨⟨rfl,rfl⟩,⟨?_,?_⟩,trivial⟩ (by decide) (Nat.le_refl _),⟨hlt,fun b o h=>hs3 b o (hxy b o h),?_⟩,?_⟩
   ·dsimp only
    rw [hup]; rfl
   ·dsimp only
    rw [hup]; rfl
   ·dsimp only
    rw [hup]; exact hu4
   ·dsimp only
    omega
  ·have hs:playStep cur (rs i)=(cur,(rawEv (rs i)).2):=if_neg hbd
   rw [hs] at hc1 hup hnx
   unfold rawEv at hc1 hup hnx hbd
   revert hc1 hD hup hnx hbd
   generalize evDec (rs i).len (rs i).zs=D
   obtain ⟨ev,bd⟩:=D
   dsimp only
   intro hc1 hD hup hnx hbd
   obtain ⟨q,hq⟩:∃ q,esLook cur=q:=⟨_,rfl⟩
   have hnt:noteOf (cur,bd)=⟨bd,q.win,q.thr,q.rate,q.rto,q.part⟩:=by unfold noteOf; rw [hq]
   rw [hnt] at hc1
   have hL:=QeZ hTy cur hPi.fl (by have:=hPi.ok.back; omega) (by have:=hPi.ms; omega) hu
   rw [hq] at hL
   obtain ⟨q0,q1,q2,q3,q4,q5⟩:=q
   dsimp only at hc1
   have hu0:=hu
   obtain ⟨a0,cp0,rfl,_⟩:=hu0
   have qz:(bd == 0)=false:=by simpa using hbd
   unfold Es.v Es.cells Nt.v at hL
   unfold cfCells sRow Es.cells
   repeat' (first|(with_reducible refine Qam ⟨by omega,by omega⟩ ?_)|(with_reducible refine Qad hxr hcr ?_)|(with_reducible refine Qad hx1 hc1 ?_)|((with_reducible show callW _ _ _ (some (28,_)) _ _);refine callP QiF rfl (hD) ?_)|((with_reducible show callW _ _ _ (some (30,_)) _ _);refine callP Qfc rfl (hL) ?_)|((with_reducible show cW _ _ (.region 18 _ true) _ _);refine Qas QpD (by kernel_rfl) Qaf (by kernel_rfl) ?_)|((fail_if_success (with_reducible refine stk ?_));simp only [WE,segX,Nat.reduceBEq,Nat.reduceAdd,Nat.reduceEqDiff,QbX,Qaq,Qaj,QaN,QaU,QaK,QbR,QaP,Qa2,QeN,Qeo,Qav,hd,ei,qz]))
   refine ⟨⟨i+1,.slice a0 cur.ms.length cp0,y⟩,QaI [0,1] (fun _ _ h=>h) ⟨⟨rfl,rfl⟩,⟨rfl,rfl⟩,⟨rfl,rfl⟩,⟨rfl,rfl⟩,⟨rfl,rfl⟩,⟨rfl,rfl⟩,trivial⟩ ⟨⟨rfl,rfl⟩,⟨?_,?_⟩,trivial⟩ (by decide) (Nat.le_refl _),⟨hlt,hxy,?_⟩,?_⟩
   ·dsimp only
    rw [hup]; rfl
   ·dsimp only
    rw [hup]; rfl
   ·dsimp only
    rw [hup]; exact hu
   ·dsimp only
    omega
 ·have hd:decide ((i:Int) < (len:Int))=false:=by simp; omega
  have:i=len:=by omega
  subst this
  have hLs:=Qdc (cap:=cap) c hTy (by omega) (hr2.mono hxy)
  unfold LastR plLast at hLs
  rw [if_pos hok,hs0,hcur] at hLs
  unfold Cf.v Es.v Es.cells at hLs
  have hu0:=hu
  obtain ⟨a0,cp0,rfl,_⟩:=hu0
  unfold cfCells sRow Es.cells
  repeat' (first|((fail_if_success (with_reducible refine stk ?_));simp only [WE,segX,Nat.reduceBEq,Qai,Qav,hd]))
  refine callE QbU rfl hLs ?_
  rintro v x3 x4 ⟨a3,c3,rfl,hu3⟩ hs3 hs4
  have hS:=Qei (x:=x4) cur (by have:=hPi.ms; omega) (hu3.mono hs4) (hu.mono hs3)
  unfold Es.v Es.cells at hS
  repeat' (first|((with_reducible show callW _ _ _ (some (24,_)) _ _);refine callP Qew rfl (hS) ?_)|((fail_if_success (with_reducible refine stk ?_));simp only [WE,segX,Nat.reduceBEq,Nat.reduceAdd,Nat.reduceEqDiff,Qaj,Qau,Qhh]))
theorem QFL {x:Nat→Obj→Prop} (hT:TensX x) (c:Cf) {ad:Option Addr} {len cap:Nat} {rs:Nat→Raw} (hok:c.ok=false) (h60:len≤60) (hF:PureC Tryz.prog x 19 [.slice ad len cap,.int .i64 60] (.bool true)) (hr:Raws x ad len rs):PureC Tryz.prog x 14 [c.v,.slice ad len cap] (.bool true):=by
 refine Qab Tryz.func14 rfl rfl fun w=>?_
 refine Qaa (by kernel_rfl) ?_
 have hP:=Qa4 (cap:=cap) c hT (by omega) hr
 unfold PlayNR plNotes at hP
 rw [if_neg (by simp [hok])] at hP
 replace hP:RetE Tryz.prog x 20 [c.v,.slice ad len cap] (fun v x=>∃ a cp,v=.tuple #[.slice a 0 cp,.int .i64 210]):=Qjz hP fun v x' ⟨a,cp,h1,_⟩=>⟨a,cp,h1⟩
 have hN:=fun (z:Nat→Obj→Prop)=>Qeh (x:=z) c
 rw [Qxu hok] at hN
 unfold Cf.v at hP
 unfold Cf.v Es.v Es.cells at hN
 unfold Cf.v
 have qc:((210:Int) != 210)=false:=rfl
 have qd:((210:Int) == 0)=false:=rfl
 have qe:decide ((0:Int) < ((0:Nat):Int))=false:=rfl
 repeat' (first|((with_reducible show callW _ _ _ (some (19,_)) _ _);refine callP QaZ rfl (hF) ?_)|((with_reducible show callW _ _ _ (some (40,_)) _ _);refine callP Qbz rfl (Qbx hT) ?_)|((fail_if_success (with_reducible refine stk ?_));simp only [WE,segX,Nat.reduceBEq,Nat.reduceAdd,Qai]))
 refine callE QaG rfl hP ?_
 rintro v x1 x2 ⟨a1,c1,rfl⟩ hs1 hs2
 have hT2:TensX x2:=hT.mono hs1
 have hr2:=hr.mono hs1
 clear hs2
 have hLs:=Qdc (cap:=cap) c hT2 (by omega) hr2
 unfold LastR plLast at hLs
 rw [if_neg (by simp [hok])] at hLs
 replace hLs:RetE Tryz.prog x2 23 [c.v,.slice ad len cap] (fun v x=>∃ a cp,v=.tuple #[Es.v esZ (.slice a 0 cp),.int .i64 210]∧MsAt x esZ.ms (.slice a 0 cp)):=hLs
 unfold Cf.v Es.v Es.cells at hLs
 have hz0:∀ y,MsAt y esZ.ms (.slice none 0 0):=fun y=>⟨none,0,rfl,Nat.le_refl _,by decide,fun _=>rfl,fun i hi=>absurd hi (by simp [esZ])⟩
 have fin:∀ K:Prop,K→K:=fun _ h=>h
 cases hq:((0:Nat):Int) != (len:Int)
 ·repeat' (first|((with_reducible show callW _ _ _ (some (22,_)) _ _);refine callP Qdm rfl (hN _) ?_)|((fail_if_success (with_reducible refine stk ?_));simp only [WE,segX,Nat.reduceBEq,Nat.reduceAdd,Nat.reduceEqDiff,Qai,Qaj,Qau,QaM,Qav,hq,qc]))
  refine Qa3 (α:=Unit) (fun _=>⟨[(10,.ext (.int .i64 0)),(6,.ext (.slice a1 0 c1)),(1,.ext (.slice ad len cap)),(5,.ext (.bool true)),(2,.ptr 0 0),(8,.ptr 1 0)],[.cells 23 (cfCells c),.cells 49 (sRow esZ (.slice none 0 0))],x2⟩) (fun _=>True) (fun _=>0)
   ⟨(),Qae ⟨⟨rfl,rfl⟩,⟨rfl,rfl⟩,⟨rfl,rfl⟩,⟨rfl,rfl⟩,⟨rfl,rfl⟩,⟨rfl,rfl⟩,trivial⟩ (Qao _) rfl,trivial⟩ (by kernel_rfl) ?_
  rintro ⟨⟩ _
  unfold cfCells sRow Es.cells
  repeat' (first|((fail_if_success (with_reducible refine stk ?_));simp only [WE,segX,Nat.reduceBEq,Qai,Qav,qe]))
  refine callE QbU rfl hLs ?_
  rintro v x3 x4 ⟨a3,c3,rfl,hu3⟩ hs3 hs4
  have hS:=Qei (x:=x4) esZ (by decide) (hu3.mono hs4) (hz0 x4)
  unfold Es.v Es.cells at hS
  repeat' (first|((with_reducible show callW _ _ _ (some (24,_)) _ _);refine callP Qew rfl (hS) ?_)|((fail_if_success (with_reducible refine stk ?_));simp only [WE,segX,Nat.reduceBEq,Nat.reduceAdd,Nat.reduceEqDiff,Qaj,Qau,Qhh]))
 ·repeat' (first|((with_reducible show callW _ _ _ (some (22,_)) _ _);refine callP Qdm rfl (hN _) ?_)|((fail_if_success (with_reducible refine stk ?_));simp only [WE,segX,Nat.reduceBEq,Nat.reduceAdd,Nat.reduceEqDiff,Qai,Qaj,Qau,QaM,Qav,hq,qc,qd]))
  refine Qa3 (α:=Unit) (fun _=>⟨[(10,.ext (.int .i64 0)),(6,.ext (.slice a1 0 c1)),(1,.ext (.slice ad len cap)),(5,.ext (.bool true)),(2,.ptr 0 0),(8,.ptr 1 0)],[.cells 23 (cfCells c),.cells 49 (sRow esZ (.slice none 0 0))],x2⟩) (fun _=>True) (fun _=>0)
   ⟨(),Qae ⟨⟨rfl,rfl⟩,⟨rfl,rfl⟩,⟨rfl,rfl⟩,⟨rfl,rfl⟩,⟨rfl,rfl⟩,⟨rfl,rfl⟩,trivial⟩ (Qao _) rfl,trivial⟩ (by kernel_rfl) ?_
  rintro ⟨⟩ _
  unfold cfCells sRow Es.cells
  repeat' (first|((fail_if_success (with_reducible refine stk ?_));simp only [WE,segX,Nat.reduceBEq,Qai,Qav,qe]))
  refine callE QbU rfl hLs ?_
  rintro v x3 x4 ⟨a3,c3,rfl,hu3⟩ hs3 hs4
  have hS:=Qei (x:=x4) esZ (by decide) (hu3.mono hs4) (hz0 x4)
  unfold Es.v Es.cells at hS
  repeat' (first|((with_reducible show callW _ _ _ (some (24,_)) _ _);refine callP Qew rfl (hS) ?_)|((fail_if_success (with_reducible refine stk ?_));simp only [WE,segX,Nat.reduceBEq,Nat.reduceAdd,Nat.reduceEqDiff,Qaj,Qau,Qhh]))
theorem QFN {x:Nat→Obj→Prop} (hT:TensX x) (c:Cf) {ad:Option Addr} {len cap:Nat} {rs:Nat→Raw} (hl:len≤cap) (hc:cap≤maxLen) (hr:Raws x ad len rs):PureC Tryz.prog x 14 [c.v,.slice ad len cap] (.bool true):=by
 have hF:=QcJ (x:=x) (cap:=cap) (most:=60) (by unfold maxLen at hc; omega) hr
 cases hf:fewB rs len 60 with
 | false=>
  rw [hf] at hF
  refine Qab Tryz.func14 rfl rfl fun w=>?_
  refine Qaa (by kernel_rfl) ?_
  unfold Cf.v
  repeat' (first|((with_reducible show callW _ _ _ (some (19,_)) _ _);refine callP QaZ rfl (hF) ?_)|((with_reducible show callW _ _ _ (some (40,_)) _ _);refine callP Qbz rfl (Qbx hT) ?_)|((fail_if_success (with_reducible refine stk ?_));simp only [WE,Nat.reduceBEq,Nat.reduceAdd,Qhh]))
 | true=>
  rw [hf] at hF
  have h60:=Qdi hf
  cases hok:c.ok with
  | true=>exact QFM hT c hok (by omega) hF hr
  | false=>exact QFL hT c hok (by omega) hF hr
theorem QBU:∀ (x:Nat→Obj→Prop) (vs:List Value),XLaid x→Shvs x [.r (.cons 1 (.i .i64) (.cons 1 (.i .i64) (.cons 1 (.i .i64) (.cons 1 (.i .i64) (.cons 1 (.i .i64) (.cons 1 (.i .i64) (.cons 1 (.i .i64) (.nil)))))))),.v 1 (.v 1 (.i .i64))] vs→PureC Tryz.prog x 14 vs (.bool true):=by
 intro x vs hx hv
 rcases vs with _ | ⟨v0,_ | ⟨v1,_ | ⟨v2,vs⟩⟩⟩ <;> simp only [Shvs,and_false] at hv
 obtain ⟨h0,h1,_⟩:=hv
 obtain ⟨c,rfl,_⟩:=Qd9 h0
 obtain ⟨a,len,cap,rs,rfl,g1,g2,g3⟩:=Qea h1
 exact QFN hx.1 c g1 g2 g3
end Go.Proofs.YtkokohkbhlnjkaaGreatDoor
namespace Go.Proofs.YtkokohkbhlnjkaaGreatDoor
set_option linter.unusedVariables false
set_option linter.unusedSimpArgs false
open Go Go.RowKit Go.ChangeShapes Go.WideShapes Go.ChangeAt Go.Proofs.YtkokohkbhlnjkaaGreatDoor.R
set_option maxRecDepth 100000
theorem replaySteps_lifted (os:Os) (started:os.Started) (H:Type) (enc:TypeId×Value→H) :
  ReturnsInLeavingWide {} Tryz.checked os 14 .any (Rows.replayStepsRow.pre enc Tryz.prog Tryz.f14 (OpenSpec.ofChange Rows.replayStepsSpec)) (Rows.replayStepsSpec.post enc Tryz.prog Tryz.f14 false true false false):=
 Qd7 (C:=Tryz.checked) (s:=Rows.replayStepsSpec) (conds:=[]) (l:=Rows.replayStepsRow.laid) (Xs:=XLaid) (tb:=4) (ys:=[.r (.cons 1 (.i .i64) (.cons 1 (.i .i64) (.cons 1 (.i .i64) (.cons 1 (.i .i64) (.cons 1 (.i .i64) (.cons 1 (.i .i64) (.cons 1 (.i .i64) (.nil)))))))),.v 1 (.v 1 (.i .i64))]) (by kernel_rfl) own_ started (by kernel_rfl) Tryz.func14
  (ChangeSpec.witness_shaped (enc:=enc) (C:=Tryz.checked) (os:=os) (X:=fun w _=>laidMetH Tryz.prog Rows.replayStepsRow.laid w) false (World.laidAll Tryz.prog os Rows.replayStepsRow.laid) #[.agg #[.int .i64 0,.int .i64 0,.int .i64 0,.int .i64 0,.int .i64 0,.int .i64 0,.int .i64 0],.slice none 0 0] 8 (World.laidAll_os _ _ _)
   (World.shaped_of_ZipB (by kernel_rfl) (by kernel_rfl)) (by kernel_rfl) (by kernel_rfl) (by kernel_rfl)
   (by rw [MakeChecks.laidMetH_plain _ _ _ (by kernel_rfl)]; exact laidMet_laidAll _ (by kernel_rfl) (by kernel_rfl)))
  rfl QbA (by kernel_rfl) rfl Tryz.underlying4
  (fun ds hd=>by match ds,hd with | [d0,d1],_=>exact ⟨rfl,rfl,rfl⟩)
  (by kernel_rfl) Qdq (fun x vs hT h=>QBU x vs hT h)
set_option maxHeartbeats 8000000 in
theorem replaySteps_closed:joinedFacts Tryz.checked.prog 14 Tryz.f14 Rows.replayStepsSpec Rows.replayStepsRow=true:=by
 unfold joinedFacts
 simp only [Bool.and_eq_true]
 repeat' apply And.intro
 all_goals first | (with_reducible exact QbA) | (as_aux_lemma=>kernel_rfl)
theorem replaySteps_named:Tryz.checked.prog.funcNamed Rows.replayStepsRow.func=some 14:=by kernel_rfl
theorem replaySteps_inst:Tryz.f14.isInstance Tryz.checked.prog Rows.replayStepsRow.origin Rows.replayStepsRow.targs:=of_decide_eq_true (by kernel_rfl)
theorem replaySteps_wrap:Tryz.f14.isWrapper Tryz.checked.prog Rows.replayStepsRow.wrapper Rows.replayStepsRow.mainSum:=by unfold Func.isWrapper; first | (rw [if_pos (by decide +kernel)]; kernel_rfl) | (rw [if_neg (by decide +kernel)]; exact ⟨rfl,rfl⟩)
theorem replaySteps_said:Rows.ReplayStepsSaid:=
 OpenClaim.holds_of_wide_leaving 14 Tryz.f14 rfl rfl rfl rfl rfl rfl rfl ⟨rfl,rfl,rfl,rfl,rfl⟩ rfl rfl rfl rfl rfl replaySteps_named Tryz.func14 replaySteps_closed
  replaySteps_inst replaySteps_wrap (fun os started H enc _=>replaySteps_lifted os started H enc)
theorem replaySteps_goes:true=Rows.replayStepsRow.goesBy Tryz.pinned.checked.prog:=by kernel_rfl
theorem replaySteps_wf:Rows.replayStepsRow.wfByText (OpenSpec.ofChange Rows.replayStepsSpec)=true:=by kernel_rfl
theorem replaySteps_wants:([23,24].all fun u=>!Tryz.prog.wantsStandIn u)=true:=by kernel_rfl
theorem replaySteps_holds:Rows.ReplayStepsCardSaid:=
 Qdf [.data] true (true, "9743dcc7216159cedf5af689d9831578d52e7622345c3cbb87c8bebbc0866563") true
  replaySteps_said replaySteps_wf replaySteps_row_tie rfl ⟨rfl,rfl⟩ Qd3 rfl
  (fun f fn hf hfn=>by
   obtain rfl:f=14:=Option.some.inj (hf.symm.trans replaySteps_named)
   obtain rfl:fn=Tryz.f14:=(Option.some.inj (Tryz.func14.symm.trans hfn)).symm
   exact ⟨QdU,fun j t ht=>by
    rw [Tryz.params14] at ht
    have hm:t∈[23,24]:=by simpa using Array.mem_of_getElem? ht
    exact (show Tryz.prog.wantsStandIn t=false by simpa using List.all_eq_true.1 replaySteps_wants t hm)⟩)
  replaySteps_goes
#print axioms replaySteps_holds
end Go.Proofs.YtkokohkbhlnjkaaGreatDoor
