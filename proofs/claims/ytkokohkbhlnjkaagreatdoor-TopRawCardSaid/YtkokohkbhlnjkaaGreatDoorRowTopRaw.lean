/- 'sawtoothtop.TopRaw': for every input the call returns true, and each argument reads as it did: the tied card. Conditions: the listed variable holds what the program's text lays. -/
import Derived.Test.YtkokohkbhlnjkaaGreatDoorMa6
import Derived.Test.YtkokohkbhlnjkaaGreatDoorCards
import Derived.Test.YtkokohkbhlnjkaaGreatDoorTie
namespace Go.Proofs.YtkokohkbhlnjkaaGreatDoor
set_option linter.unusedVariables false
set_option linter.unusedSimpArgs false
open Go Go.RowKit Go.Proofs.YtkokohkbhlnjkaaGreatDoor.R
set_option maxRecDepth 50000
set_option maxHeartbeats 8000000
theorem Qrh (s:Es) (rs:Nat→Raw) (k:Nat):∀ d,(playUp s rs (k+d)).2.take k=(playUp s rs k).2
 | 0=>by rw [Nat.add_zero,List.take_of_length_le (by rw [QcZ]; exact Nat.le_refl _)]
 | d+1=>by
  have hl:=QcZ s rs (k+d)
  show ((playUp s rs (k+d)).2 ++ _).take k=_
  rw [List.take_append_of_le_length (by omega)]
  exact Qrh s rs k d
theorem QB0 {c:Cf} {rs:Nat→Raw} {k n:Nat} (h:c.ok=true) (hk:k≤n):(plNotes c rs n).1.take k=(plNotes c rs k).1:=by
 unfold plNotes
 rw [if_pos h,if_pos h]
 obtain ⟨d,rfl⟩:=Nat.exists_eq_add_of_le hk
 show ((playUp (esNew c).1 rs (k+d)).2.map noteOf).take k=_
 rw [←List.map_take,Qrh]
theorem Qp9:∀ (l:List Nt) (m:Nat),(ntVals l).take (m * 6)=ntVals (l.take m)
 | [],m=>by simp [ntVals]
 | e :: l,0=>by simp [ntVals]
 | e :: l,m+1=>by
  simp only [ntVals,ntRow,List.take_succ_cons,show (m+1) * 6=m * 6+6 by omega,List.cons_append,List.nil_append]
  rw [Qp9 l m]
def slA (a:Option Addr) (cap:Nat):Option Addr:=if cap=0 then a else a.map (·.add 0)
theorem QFG {P:Program} {t e:TypeId} {a:Option Addr} {len cap:Nat} {k:IntKind} {z:Int} {K:Value→Prop} (ht:P.underlying t=some (.slice e)) (hi:(P.info? e).isSome=true) (hz:0≤z∧z≤cap) (h:K (.slice (slA a cap) z.toNat cap)) :
  pureW P (Instr.sliceAt t (.slice a len cap) none (some (.int k z)) none) K:=by
 obtain ⟨i,hi⟩:=Option.isSome_iff_exists.1 hi
 have hz':0≤z∧z≤(cap:Int):=hz
 refine ⟨_,fun w=>⟨?_,?_⟩,h⟩
 ·simp [Instr.sliceAt,Instr.slice,run_underlying ht,Instr.sliceBounds,Instr.sliceBound,asIntOf,hz',sizeOf,typeInfo,hi,slA]
 ·simp [Instr.sliceAt,Instr.slice,run_underlying ht,Instr.sliceBounds,Instr.sliceBound,asIntOf,hz',sizeOf,typeInfo,hi,slA]
theorem Qhm {P:Program} {t e:TypeId} {a:Option Addr} {len cap:Nat} {k:IntKind} {z:Int} {K:Value→Prop} (ht:P.underlying t=some (.slice e)) (hi:(P.info? e).isSome=true) (hz:0≤z∧z≤cap) (h:K (.slice (slA a cap) z.toNat cap)) :
  pureW P (Instr.sliceAt t (.slice a len cap) ([]:List Value)[0]? [Value.int k z][0]? ([]:List Value)[0]?) K:=QFG ht hi hz h
theorem QsB {b off:Nat} {cap:Nat}:slA (some ⟨b,off,none⟩) cap=some ⟨b,off,none⟩:=by
 unfold slA
 split
 ·rfl
 ·rw [Option.map_some,Addr.add_lit,Nat.add_zero]
theorem Raws.cut {x:Nat→Obj→Prop} {a:Option Addr} {len k cap:Nat} {rs:Nat→Raw} (h:Raws x a len rs) (hk:k≤len):Raws x (slA a cap) k rs:=fun i hi=>by
 obtain ⟨h1,b,off,c,T,f,rfl,h3,h4⟩:=h i (by omega)
 exact ⟨h1,b,off,c,T,f,QsB,h3,h4⟩
theorem RowAt.cut {x:Nat→Obj→Prop} {a:Option Addr} {z n cap m:Nat} {vals:List Value} (h:RowAt x a z n cap vals) (hm:m≤n):RowAt x a z m cap (vals.take (m * z)):=by
 obtain ⟨h1,h2⟩:=h
 have hz:m * z≤n * z:=Nat.mul_le_mul_right _ hm
 refine ⟨by rw [List.length_take]; omega,?_⟩
 rcases h2 with ⟨q1,q2,q3⟩ | ⟨b,c,T,f,q1,q2,q3,q4,q5⟩
 ·exact .inl ⟨q1,by omega,q3⟩
 ·refine .inr ⟨b,c,T,f,q1,q2,?_,by omega,q5⟩
  rw [←q3,List.take_take,Nat.min_eq_left hz]
theorem RowAt.len_cap {x:Nat→Obj→Prop} {a:Option Addr} {z n cap:Nat} {vals:List Value} (h:RowAt x a z n cap vals):n≤cap:=by
 rcases h.2 with ⟨_,h2,h3⟩ | ⟨_,_,_,_,_,_,_,h4,_⟩
 ·omega
 ·exact h4
theorem RowAt.slA {x:Nat→Obj→Prop} {a:Option Addr} {z n cap:Nat} {vals:List Value} (h:RowAt x a z n cap vals):slA a cap=a:=by
 rcases h.2 with ⟨rfl,_⟩ | ⟨b,c,T,f,rfl,_⟩
 ·unfold Go.Proofs.YtkokohkbhlnjkaaGreatDoor.slA; split <;> rfl
 ·exact QsB
end Go.Proofs.YtkokohkbhlnjkaaGreatDoor
namespace Go.Proofs.YtkokohkbhlnjkaaGreatDoor
set_option linter.unusedVariables false
set_option linter.unusedSimpArgs false
open Go Go.RowKit Go.Proofs.YtkokohkbhlnjkaaGreatDoor.R
set_option maxRecDepth 50000
set_option maxHeartbeats 8000000
theorem Qfp {s:Es} {r:Raw} (h:(playStep s r).2≠0):(playStep s r).1=s:=by
 unfold playStep at h ⊢
 by_cases h0:(rawEv r).2=0
 ·rw [if_pos h0] at h ⊢; exact Qgf h
 ·rw [if_neg h0]
theorem Qrf {s:Es} {f g:Nat→Raw}:∀ {m:Nat},(∀ j,j < m→f j=g j)→playUp s f m=playUp s g m
 | 0,_=>rfl
 | m+1,h=>by
  have ih:=Qrf (s:=s) (f:=f) (g:=g) (m:=m) fun j hj=>h j (by omega)
  rw [playUp,playUp,ih,h m (by omega)]
def rawZ:Raw:=⟨none,0,0,fun _=>0⟩
def playL (s:Es) (l:List Raw):Es×List (Es×Int):=playUp s (fun j=>l.getD j rawZ) l.length
theorem QGs (s:Es):playL s []=(s,[]):=rfl
theorem Qjl (s:Es) (l:List Raw) (r:Raw):playL s (l ++ [r])=((playStep (playL s l).1 r).1,(playL s l).2 ++ [playStep (playL s l).1 r]):=by
 have hc:playUp s (fun j=>(l ++ [r]).getD j rawZ) l.length=playL s l:=Qrf fun j hj=>by
  simp only [List.getD_eq_getElem?_getD]
  rw [List.getElem?_append_left hj]
 have hl:(l ++ [r]).getD l.length rawZ=r:=by simp
 unfold playL at hc ⊢
 rw [List.length_append]
 show playUp _ _ (l.length+1)=_
 rw [playUp,hc]
 simp only [hl]
theorem Qre (s:Es) (l:List Raw):(playL s l).2.length=l.length:=QcZ _ _ _
def goods (s:Es) (rs:Nat→Raw):Nat→List Raw
 | 0=>[]
 | i+1=>if (playStep (playUp s rs i).1 (rs i)).2=0 then goods s rs i ++ [rs i] else goods s rs i
theorem QoF (s:Es) (rs:Nat→Raw):∀ i,(goods s rs i).length≤i
 | 0=>Nat.le_refl _
 | i+1=>by
  have:=QoF s rs i
  rw [goods]
  split
  ·rw [List.length_append]; simp; omega
  ·omega
theorem QiP (s:Es) (rs:Nat→Raw):∀ i,∀ r∈goods s rs i,∃ j,j < i∧r=rs j
 | 0,r,h=>by simp [goods] at h
 | i+1,r,h=>by
  rw [goods] at h
  split at h
  ·rcases List.mem_append.1 h with h | h
   ·obtain ⟨j,h1,h2⟩:=QiP s rs i r h
    exact ⟨j,by omega,h2⟩
   ·exact ⟨i,by omega,List.mem_singleton.1 h⟩
  ·obtain ⟨j,h1,h2⟩:=QiP s rs i r h
   exact ⟨j,by omega,h2⟩
def isGood (p:Es×Int):Bool:=decide (p.2=0)
theorem QoG (s:Es) (rs:Nat→Raw):∀ i,playL s (goods s rs i)=((playUp s rs i).1,(playUp s rs i).2.filter isGood)
 | 0=>rfl
 | i+1=>by
  have h1:=QoG s rs i
  rw [goods,playUp]
  by_cases h0:(playStep (playUp s rs i).1 (rs i)).2=0
  ·rw [if_pos h0,Qjl,h1]
   dsimp only
   rw [List.filter_append]
   have:isGood (playStep (playUp s rs i).1 (rs i))=true:=decide_eq_true h0
   rw [List.filter_cons,if_pos this]
   rfl
  ·rw [if_neg h0,h1]
   dsimp only
   rw [List.filter_append]
   have:¬ isGood (playStep (playUp s rs i).1 (rs i))=true:=fun h=>h0 (of_decide_eq_true h)
   rw [List.filter_cons,if_neg this,Qfp h0]
   simp
theorem Qta:∀ l:List (Es×Int),wins ((l.filter isGood).map noteOf)=wins (l.map noteOf)
 | []=>rfl
 | p :: l=>by
  have ih:=Qta l
  rw [List.filter_cons,List.map_cons,wins]
  by_cases h:p.2=0
  ·rw [if_pos (show isGood p=true from decide_eq_true h),List.map_cons,wins,ih]
  ·rw [if_neg (show ¬ isGood p=true from fun q=>h (of_decide_eq_true q)),ih,if_neg (show ¬ (noteOf p).err=0 from h)]
theorem Qs9:∀ l:List (Es×Int),(wins ((l.filter isGood).map noteOf)).length=((l.filter isGood).map noteOf).length
 | []=>rfl
 | p :: l=>by
  have ih:=Qs9 l
  rw [List.filter_cons]
  by_cases h:p.2=0
  ·rw [if_pos (show isGood p=true from decide_eq_true h),List.map_cons,wins,if_pos (show (noteOf p).err=0 from h),List.length_cons,List.length_cons,ih]
  ·rw [if_neg (show ¬ isGood p=true from fun q=>h (of_decide_eq_true q)),ih]
def Nt.no (n:Nt):Nt:={ n with err:=0 }
theorem QgY (p:Es×Int):noteOf p=⟨p.2,(esLook p.1).win,(esLook p.1).thr,(esLook p.1).rate,(esLook p.1).rto,(esLook p.1).part⟩:=by
 unfold noteOf
 generalize esLook p.1=q
 rfl
theorem QBF (p:Es×Int):(noteOf p).no=(esLook p.1).no:=by
 rw [QgY]
 generalize esLook p.1=q
 rfl
theorem Qjd (p:Es×Int):(noteOf p).err=p.2:=rfl
theorem QGq {s:Es} {r:Raw} (h:(playStep s r).2≠0):(noteOf (playStep s r)).no=(esLook s).no:=by rw [QBF,Qfp h]
theorem QGp {s:Es} (h:EsOk s):(esLook s).no=esLook s:=by rw [Qfi h]; rfl
end Go.Proofs.YtkokohkbhlnjkaaGreatDoor
namespace Go.Proofs.YtkokohkbhlnjkaaGreatDoor
set_option linter.unusedVariables false
set_option linter.unusedSimpArgs false
open Go Go.RowKit Go.Proofs.YtkokohkbhlnjkaaGreatDoor.R
set_option maxRecDepth 50000
set_option maxHeartbeats 8000000
def known (n:Int):Prop:=n=0∨n=10∨n=50∨n=51∨n=200∨n=201∨n=202∨n=203
theorem QAa (n:Int):known (fitE n):=by unfold fitE known; split <;> omega
theorem Qpc {a b c:Int} (h:1≤c):known (floE a b c):=by unfold floE; rw [if_neg (by omega)]; exact QAa _
theorem QAb (f:Fl) (n r:Int):known (flSend f n r).2:=by unfold flSend known; (repeat' split) <;> simp
theorem QiV (f:Fl) (n t:Int):known (flBack f n t).2:=by unfold flBack known; (repeat' split) <;> simp
theorem Qz5 (b:Bk) (n:Int):known (bkTake b n).2:=by unfold bkTake known; (repeat' split) <;> simp
theorem Qz4 (b:Bk) (t r m:Int):known (bkFill b t r m).2:=by unfold bkFill known; (repeat' split) <;> simp
theorem QAh (r:Rtt) (t:Int):known (rttSample r t).2:=by unfold rttSample known; simp only [Bool.cond_eq_ite]; (repeat' split) <;> simp
theorem QAf (f:Nat→Int×Int) (n:Nat) (w t:Int):known (putErr f n w t):=by unfold putErr known; (repeat' split) <;> simp
theorem QAe (h:Hy) (t:Int):known (hySample h t).2:=by unfold hySample known; (repeat' split) <;> simp
theorem QAd (h:Hy):known (hyRound h).2:=by unfold hyRound known; (repeat' split) <;> simp
theorem Qz9 (t n h:Int):known (epBegin t n h).2:=by unfold epBegin known; (repeat' split) <;> simp
theorem Qpb (k t b r:Int):known (evCheck k t b r):=by unfold evCheck known; simp only [Bool.cond_eq_ite]; (repeat' split) <;> simp
theorem Qz7 (n t:Int):known (clkStep n t).2:=by unfold clkStep known; simp only [Bool.cond_eq_ite]; (repeat' split) <;> simp
theorem kn_0:known 0:=.inl rfl
theorem Qo9:known 201:=by unfold known; omega
theorem Qz2:known 202:=by unfold known; omega
theorem QAi {s:Es} {e:Ev} (h:1≤s.cf.seg):known (esSend s e).2:=by
 unfold esSend
 have:1≤(esWake s e).cf.seg:=by rw [(Qig s e).1]; exact h
 generalize esWake s e=t at *
 unfold esSend0
 (repeat' split)
 ·exact Qpc (c:=65536) (by decide)
 ·exact QAb _ _ _
 ·exact Qz5 _ _
 ·exact kn_0
theorem QAk (s:Es) (e:Ev):known (esTimes s e).2:=by
 unfold esTimes
 simp only [Bool.cond_eq_ite]
 (repeat' split) <;> first | exact kn_0 | exact QAh _ _ | exact QAf _ _ _ _ | exact QAe _ _
theorem QAg (s:Es):known (esRound s).2:=by
 unfold esRound
 simp only [Bool.cond_eq_ite]
 (repeat' split) <;> first | exact kn_0 | exact QAd _
theorem Qz6 (s:Es) (e:Ev) (n:Int):known (esCalm s e n).2:=by
 have h:known (esCalm0 s e).2:=by
  unfold esCalm0
  simp only [Bool.cond_eq_ite]
  (repeat' split) <;> first | exact kn_0 | exact Qz9 _ _ _
 unfold esCalm
 split
 ·exact h
 ·exact kn_0
theorem QAc {s:Es} {e:Ev} (h:1≤s.cf.seg):known (esGrow s e).2:=by
 unfold esGrow
 simp only [Bool.cond_eq_ite]
 (repeat' split) <;> first | exact kn_0 | exact Qpc h | exact Qz6 _ _ _
theorem Qz3 {s:Es} {e:Ev} (h:1≤s.cf.seg):known (esAck s e).2:=by
 unfold esAck
 (repeat' split)
 ·exact QiV _ _ _
 ·exact QAk _ _
 ·exact QAg _
 ·refine QAc ?_
  rw [(Qm1 _).1,(Qm7 _ _).1]
  exact h
theorem Qpa {s:Es} {e:Ev} (h:1≤s.cf.seg):known (esBy s e).2:=by
 unfold esBy
 (repeat' split)
 ·exact QAi h
 ·exact Qz3 h
 ·unfold esLose
  split
  ·exact QiV _ _ _
  ·exact kn_0
 ·exact kn_0
 ·unfold esLate
  (repeat' split) <;> first | exact Qz2 | exact QiV _ _ _ | exact kn_0
 ·exact kn_0
 ·exact kn_0
theorem Qz8 {s:Es} {e:Ev} (h:EsOk s):known (esDo s e).2:=by
 have hs:1≤s.cf.seg:=h.cf.seg.1
 unfold esDo
 simp only [Bool.cond_eq_ite]
 (repeat' split)
 ·exact Qo9
 ·exact Qpb _ _ _ _
 ·exact Qz7 _ _
 ·exact Qz4 _ _ _ _
 ·exact Qpa hs
 ·exact Qpa hs
theorem QAj {s:Es} {r:Raw} (h:EsOk s):known (playStep s r).2:=by
 unfold playStep
 split
 ·exact Qz8 h
 ·unfold rawEv evDec
  (repeat' split) <;> first | exact kn_0 | exact Qpb _ _ _ _ | exact Qo9
end Go.Proofs.YtkokohkbhlnjkaaGreatDoor
namespace Go.Proofs.YtkokohkbhlnjkaaGreatDoor
set_option linter.unusedVariables false
set_option linter.unusedSimpArgs false
open Go Go.RowKit Go.Proofs.YtkokohkbhlnjkaaGreatDoor.R
set_option maxRecDepth 50000
set_option maxHeartbeats 4000000
def topC:Cf:=⟨1000,100,10,1000,200000,60000000,100⟩
def top0:Es:=(esNew topC).1
def top1:Es×Int:=esDo top0 ⟨6,0,10000,0⟩
def top2:Es×Int:=esDo top1.1 ⟨1,100000,10000,100000⟩
theorem QjW:(esNew topC).2=0∧top0.win=655360∧top0.cf.seg=1000∧top1.2=0∧top2.2=0∧top2.1.win=1179648∧top2.1.now=100000∧top2.1.fl.told=10000:=⟨by kernel_rfl,by kernel_rfl,by kernel_rfl,by kernel_rfl,by kernel_rfl,by kernel_rfl,by kernel_rfl,by kernel_rfl⟩
theorem QF2:EsIn top0∧EsIn top1.1:=by
 have p0:PIn top0 0:=PIn.new (c:=topC) (by kernel_rfl)
 have h1:=(QjW).2.2.2.1
 have m:=QmU top0 ⟨6,0,10000,0⟩
 have m0:=p0.ms
 exact ⟨p0.in_ (by decide),(⟨(Qgg h1).2.1,QmT p0.fl h1,QmV p0.rd h1,by show top1.1.ms.length≤1; unfold top1; omega⟩:PIn top1.1 1).in_ (by decide)⟩
theorem Qwn {x:Nat→Obj→Prop} (hT:TensX x) {u:Value} (hu:MsAt x top0.ms u):RetE Tryz.prog x 47 [top0.v u,.int .i64 0] (fun v x=>∃ a c,v=.tuple #[top2.1.v (.slice a top2.1.ms.length c),.bool true]):=by
 obtain ⟨_,h1,h2,h3,h4,_⟩:=QjW
 obtain ⟨i0,i1⟩:=QF2
 have d1:esDo top0 ⟨6,0,10000,0⟩=(top1.1,0):=by rw [←h3]; rfl
 have d2:esDo top1.1 ⟨1,100000,10000,100000⟩=(top2.1,0):=by rw [←h4]; rfl
 generalize top0=s at *
 generalize top1.1=t at *
 generalize top2.1=v at *
 have hFB:∀ y,PureC Tryz.prog y 37 [.int .i64 s.win,.int .i64 s.cf.seg] (.tuple #[.int .i64 10000,.int .i64 0]):=fun y=>by
  have:=QlP (x:=y) s.win s.cf.seg (by rw [h1]; exact ⟨by decide,by decide⟩) (by rw [h2]; exact ⟨by decide,by decide⟩)
  rw [h1,h2] at this ⊢
  exact this
 refine Qhe Tryz.func47 rfl rfl fun w x1 hx1=>?_
 have hD1:=Qgb (hT.mono hx1) d1 i0 (hu.mono hx1)
 obtain ⟨a0,c0,rfl,_⟩:=hu
 unfold Es.v Es.cells Ev.v at hD1
 unfold Es.v Es.cells
 refine Qaa (by kernel_rfl) ?_
 have e1:wr .i64 ((0:Int)+100000)=100000:=Qag (by decide) (by decide)
 repeat' (first|((with_reducible show callW _ _ _ (some (37,_)) _ _);refine callP QgF rfl (hFB _) ?_)|((fail_if_success (with_reducible refine stk ?_));simp only [WE,Nat.reduceLeDiff,segX,Nat.reduceBEq,Nat.reduceAdd,ty_3,Qaj,QaB,QaY,QaF,Qau,Qee]))
 refine callEN Qgy rfl hD1 ?_
 rintro v x2 x3 ⟨a1,c1,rfl,hu1⟩ hs1 hs2 _
 have hD2:=Qgb (hT.mono fun b o h=>hs1 _ _ (hx1 _ _ h)) d2 i1 (hu1.mono hs2)
 unfold Es.v Es.cells Ev.v at hD2
 repeat' (first|((fail_if_success (with_reducible refine stk ?_));simp only [WE,Nat.reduceLeDiff,segX,Nat.reduceBEq,Nat.reduceAdd,Nat.reduceEqDiff,Qaj,Qau,Qee,e1]))
 refine callEN Qgy rfl hD2 ?_
 rintro v x4 x5 ⟨a2,c2,rfl,hu2⟩ hs3 hs4 _
 repeat' (first|((fail_if_success (with_reducible refine stk ?_));simp only [WE,segX,Nat.reduceBEq,Nat.reduceAdd,Nat.reduceEqDiff,Qaj,Qau]))
 rw [QeO]
 simp only [WE,Nat.reduceLeDiff,segX,Nat.reduceBEq,Nat.reduceAdd,Nat.reduceEqDiff,Int.reduceNeg,Int.reduceEq,Int.reduceBEq,Int.reduceLT,Int.reduceLE,Int.reduceBNe,Int.reduceToNat,Nat.reduceMul,Nat.reduceMod,Int.reducePow,reduceIte,ty_3,Qaj,QaB,QaY,QaF,Qau,Qee,Tryz.underlying30,QEy]
 exact ⟨_,fun _ _=>False,rfl,fun b o h=>h.elim,fun b o h=>h.elim,_,_,rfl⟩
theorem Qe2 {x:Nat→Obj→Prop} (hT:TensX x):PureC Tryz.prog x 18 [] (.bool true):=by
 obtain ⟨h0,_,_,_,_,h5,h6,h7⟩:=QjW
 have hN:=fun (y:Nat→Obj→Prop)=>Qeh (x:=y) topC
 have e0:(esNew topC).1=top0:=rfl
 rw [h0,e0] at hN
 have hm:top0.ms=[]:=by kernel_rfl
 have hz:∀ y,MsAt y top0.ms (.slice none 0 0):=fun y=>by rw [hm]; exact ⟨none,0,rfl,Nat.le_refl _,by decide,fun _=>rfl,fun i hi=>absurd hi (by simp)⟩
 have hU:=Qwn hT (hz x)
 generalize top2.1=v at *
 generalize top0=s at *
 unfold Cf.v Es.v Es.cells at hN
 unfold Es.v Es.cells at hU
 refine Qab Tryz.func18 rfl rfl fun w=>?_
 refine Qaa (by kernel_rfl) ?_
 repeat' (first|((with_reducible show callW _ _ _ (some (22,_)) _ _);refine callP Qdm rfl (hN _) ?_)|((fail_if_success (with_reducible refine stk ?_));simp only [WE,Nat.reduceLeDiff,segX,Nat.reduceBEq,Nat.reduceAdd,Nat.reduceEqDiff,Qai,Qaj,QjZ,Qau,QeV]))
 refine callE Qzy rfl hU ?_
 rintro v' x1 x2 ⟨a1,c1,rfl⟩ hs1 hs2
 rw [h5,h6,h7]
 repeat' (first|((fail_if_success (with_reducible refine stk ?_));simp only [WE,Nat.reduceBEq,Nat.reduceAdd,Nat.reduceEqDiff,ty_3,Qaj,Qiv,QbJ,QaF,QaJ,QDr]))
end Go.Proofs.YtkokohkbhlnjkaaGreatDoor
namespace Go.Proofs.YtkokohkbhlnjkaaGreatDoor
set_option linter.unusedVariables false
set_option linter.unusedSimpArgs false
open Go Go.RowKit Go.Proofs.YtkokohkbhlnjkaaGreatDoor.R
set_option maxRecDepth 50000
set_option maxHeartbeats 8000000
structure RawS where
 i:Nat
 u:Value
 y:Nat→Obj→Prop
def rawSt (c:Cf) (ad:Option Addr) (len cap:Nat) (rs:Nat→Raw) (s0:Es) (a1:Option Addr) (c1:Nat) (p:RawS):St:=
 ⟨[(10,.ext (.int .i64 p.i)),(6,.ext (.slice a1 len c1)),(1,.ext (.slice ad len cap)),(5,.ext (.bool true)),(2,.ptr 0 0),(8,.ptr 1 0)],
  [.cells 23 (cfCells c),.cells 49 (sRow (playUp s0 rs p.i).1 p.u)],p.y⟩
def rawJ (rs:Nat→Raw) (s0:Es) (len:Nat) (x2:Nat→Obj→Prop) (p:RawS):Prop:=p.i≤len∧xsub x2 p.y∧MsAt p.y (playUp s0 rs p.i).1.ms p.u
theorem QCs {x:Nat→Obj→Prop} (hT:TensX x) (c:Cf) {ad:Option Addr} {len cap:Nat} {rs:Nat→Raw} (hok:c.ok=true) (hcap:len≤cap) (h60:len≤60) (hF:PureC Tryz.prog x 19 [.slice ad len cap,.int .i64 60] (.bool true)) (hr:Raws x ad len rs):PureC Tryz.prog x 4 [c.v,.slice ad len cap] (.bool true):=by
 refine Qab Tryz.func4 rfl rfl fun w=>?_
 refine Qaa (by kernel_rfl) ?_
 have hP:=Qa4 (cap:=cap) c hT (by omega) hr
 unfold PlayNR at hP
 obtain ⟨l,hl'⟩:∃ l,(plNotes c rs len).1=l:=⟨_,rfl⟩
 have e1:(plNotes c rs len).2=0:=by unfold plNotes; rw [if_pos hok]
 have e2:(esNew c).2=0:=by unfold esNew; rw [hok]; rfl
 have hll:l.length=len:=by rw [←hl']; exact QcY hok
 rw [e1,hl',hll] at hP
 have hN:=fun (z:Nat→Obj→Prop)=>Qeh (x:=z) c
 rw [e2] at hN
 have hL:=fun (z:Nat→Obj→Prop) (hz:TensX z) (hrz:Raws z ad len rs) (i:Nat) (hi:i < len)=>Qdc (cap:=cap) (len:=i+1) (ad:=slA ad cap) c hz (by omega) (hrz.cut hi)
 unfold LastR plLast at hL
 simp only [if_pos hok] at hL
 have hPU:∀ i,PIn (playUp (esNew c).1 rs i).1 i:=fun i=>PIn.up (PIn.new hok) rs i
 have hCF:∀ i,(playUp (esNew c).1 rs i).1.cf=c:=fun i=>(Qjm _ _ _).trans (QmX hok)
 have hlg:∀ i,i < len→l[i]? = some (noteOf (playStep (playUp (esNew c).1 rs i).1 (rs i))):=fun i hi=>by rw [←hl']; exact Qfo hok hi
 have hm0:(esNew c).1.ms=[]:=by unfold esNew; rw [hok]; rfl
 obtain ⟨_,hmax,_⟩:=(c.ok_iff).1 hok
 obtain ⟨s0,hs0⟩:∃ s0,(esNew c).1=s0:=⟨_,rfl⟩
 rw [hs0] at hN hPU hCF hlg hm0
 simp only [hs0] at hL
 unfold Cf.v Es.v Es.cells at hN
 unfold Cf.v at hP
 unfold Cf.v Es.v Es.cells at hL
 unfold Cf.v
 have qb:((len:Int) == (len:Int))=true:=beq_self_eq_true _
 have qc:((0:Int) != 0)=false:=rfl
 repeat' (first|((with_reducible show callW _ _ _ (some (18,_)) _ _);refine callP Qff rfl (Qe2 hT) ?_)|((with_reducible show callW _ _ _ (some (19,_)) _ _);refine callP QaZ rfl (hF) ?_)|((fail_if_success (with_reducible refine stk ?_));simp only [WE,segX,Nat.reduceBEq,Nat.reduceAdd,Qai]))
 refine callE QaG rfl hP ?_
 rintro v x1 x2 ⟨a1,c1,rfl,hn1⟩ hs1 hs2
 replace hn1:=hn1.mono hs2
 have hT2:TensX x2:=hT.mono hs1
 have hr2:=hr.mono hs1
 clear hs2
 repeat' (first|((with_reducible show callW _ _ _ (some (22,_)) _ _);refine callP Qdm rfl (hN _) ?_)|((fail_if_success (with_reducible refine stk ?_));simp only [WE,segX,Nat.reduceBEq,Nat.reduceAdd,Nat.reduceEqDiff,Qai,Qaj,Qau,qc]))
 refine QfT (rawSt c ad len cap rs s0 a1 c1) (rawJ rs s0 len x2) (fun p=>len - p.i)
  ⟨⟨0,.slice none 0 0,x2⟩,QaI [0,1] (fun _ _ h=>h) ⟨⟨rfl,rfl⟩,⟨rfl,rfl⟩,⟨rfl,rfl⟩,⟨rfl,rfl⟩,⟨rfl,rfl⟩,⟨rfl,rfl⟩,trivial⟩ ⟨⟨rfl,rfl⟩,⟨rfl,rfl⟩,trivial⟩ (by decide) (Nat.le_refl _),Nat.zero_le _,fun _ _ h=>h,by
   show MsAt x2 s0.ms _
   rw [hm0]
   exact ⟨none,0,rfl,Nat.le_refl _,by decide,fun _=>rfl,fun i hi=>absurd hi (by simp)⟩⟩ (by kernel_rfl) ?_
 rintro ⟨i,u,y⟩ ⟨hi,hxy,hu⟩
 simp only [rawSt]
 dsimp only at hi hxy hu
 have hTy:TensX y:=hT2.mono hxy
 by_cases hlt:i < len
 ·have hd:decide ((i:Int) < (len:Int))=true:=by simp; exact hlt
  have ei:wr .i64 ((i:Int)+1)=((i+1:Nat):Int):=by rw [Qag (by omega) (by omega)]; rfl
  have em:wr .i64 (c.max * 65536)=c.max * 65536:=Qag (by omega) (by omega)
  obtain ⟨b1,d1,T1,f1,rfl,hx1,_,hc1,_⟩:=Qa8 (hn1.mono hxy) hlt (hlg i hlt)
  have hPn:=hPU (i+1)
  have hCn:=hCF (i+1)
  have hPi:=hPU i
  have hLi:=hL y hTy (hr2.mono hxy) i hlt
  have hup:(playUp s0 rs (i+1)).1=(playStep (playUp s0 rs i).1 (rs i)).1:=rfl
  have hkn:=QAj (r:=rs i) hPi.ok
  have hsame:(playStep (playUp s0 rs i).1 (rs i)).2≠0→(playUp s0 rs (i+1)).1=(playUp s0 rs i).1:=fun h=>by rw [hup]; exact Qfp h
  have hc1:loadX false 1 ((i:Int).toNat * 6) d1=some (.int .i64 (playStep (playUp s0 rs i).1 (rs i)).2):=hc1
  clear hup
  generalize (playStep (playUp s0 rs i).1 (rs i)).2=er at hc1 hkn hsame
  obtain ⟨t,ht⟩:∃ t,(playUp s0 rs (i+1)).1=t:=⟨_,rfl⟩
  obtain ⟨cur,hcur⟩:∃ cur,(playUp s0 rs i).1=cur:=⟨_,rfl⟩
  rw [ht] at hPn hCn hLi hsame
  rw [hcur] at hPi hu hsame ⊢
  have hu0:=hu
  obtain ⟨a0,cp0,rfl,_⟩:=hu0
  have q1:decide (t.win < 131072)=false:=decide_eq_false (by have:=hPn.ok.win.1; omega)
  have q2:decide (c.max * 65536 < t.win)=false:=decide_eq_false (by have:=hPn.ok.win.2; rw [hCn] at this; omega)
  have q3:decide (t.thr < 131072)=false:=decide_eq_false (by have:=hPn.ok.thr.1; omega)
  have q4:decide (t.fl.out < 0)=false:=decide_eq_false (by have:=hPn.ok.fl; unfold flOk at this; omega)
  unfold cfCells sRow Es.cells
  repeat' (first|(with_reducible refine Qhm (e:=28) Tryz.underlying24 (by kernel_rfl) ⟨by omega,by omega⟩ ?_)|(with_reducible refine And.intro ?_ ?_)|((with_reducible show cW _ _ (.region 11 _ true) _ _);refine Qaw QAL (by kernel_rfl) Qaf (by kernel_rfl) ?_ (fun _ _ _ h=>h))|((fail_if_success (with_reducible refine stk ?_));simp only [WE,segX,Nat.reduceBEq,Nat.reduceAdd,Qai,Qau,Qav,hd,ei,Int.toNat_natCast]))
  all_goals (
   refine callE QbU rfl hLi ?_
   rintro v x3 x4 ⟨a3,c3,rfl,hu3⟩ hs3 hs4
   have hu4:=hu3.mono hs4
   have hu5:=hu.mono hs3
   have hT4:=hTy.mono hs3
   replace hx1:=hs3 _ _ hx1
   have hC:=QhN hT4 t hPn.fl (by have:=hPn.ms; omega) hu4
   rw [(Qcj t).2 hPn.ok] at hC
   by_cases hz:er=0
   ·subst hz
    unfold Es.v Es.cells at hC
    repeat' (first|(with_reducible refine Qam ⟨by omega,by omega⟩ ?_)|(with_reducible refine Qad hx1 hc1 ?_)|(with_reducible refine And.intro ?_ ?_)|(((with_reducible show xsub _ _); first | exact hs3 | exact fun _ _ h=>h))|((with_reducible show callW _ _ _ (some (25,_)) _ _);refine callP Qev rfl (hC) ?_)|((fail_if_success (with_reducible refine stk ?_));simp only [WE,segX,Nat.reduceBEq,Nat.reduceAdd,Nat.reduceEqDiff,Int.reduceBNe,ty_3,Qaq,Qaj,QaE,QbE,QaF,QbT,QaJ,QaK,QaP,Qau,ei,q1,q2,q3,q4,em]))
    refine ⟨⟨i+1,.slice a3 t.ms.length c3,x4⟩,QaI [0,1] (fun _ _ h=>h) ⟨⟨rfl,rfl⟩,⟨rfl,rfl⟩,⟨rfl,rfl⟩,⟨rfl,rfl⟩,⟨rfl,rfl⟩,⟨rfl,rfl⟩,trivial⟩ ⟨⟨rfl,rfl⟩,⟨?_,?_⟩,trivial⟩ (by decide) (Nat.le_refl _),⟨hlt,fun b o h=>hs3 b o (hxy b o h),?_⟩,?_⟩
    ·dsimp only
     rw [ht]; rfl
    ·dsimp only
     rw [ht]; rfl
    ·dsimp only
     rw [ht]; exact hu4
    ·dsimp only
     omega
   ·have hS:=Qei (x:=x4) cur (by have:=hPi.ms; omega) (by have:=hsame hz; rw [this] at hu4; exact hu4) hu5
    have htc:=hsame hz
    have hS:PureC Tryz.prog x4 24 [Es.v t (.slice a3 t.ms.length c3),Es.v cur (.slice a0 cur.ms.length cp0)] (.bool true):=by rw [htc]; exact hS
    unfold Es.v Es.cells at hC hS
    rcases hkn with h | h | h | h | h | h | h | h
    ·exact absurd h hz
    all_goals subst h
    repeat' (first|(with_reducible refine Qam ⟨by omega,by omega⟩ ?_)|(with_reducible refine Qad hx1 hc1 ?_)|(with_reducible refine And.intro ?_ ?_)|(((with_reducible show xsub _ _); first | exact hs3 | exact fun _ _ h=>h))|((with_reducible show callW _ _ _ (some (24,_)) _ _);refine callP Qew rfl (hS) ?_)|((with_reducible show callW _ _ _ (some (25,_)) _ _);refine callP Qev rfl (hC) ?_)|((fail_if_success (with_reducible refine stk ?_));simp only [WE,segX,Nat.reduceBEq,Nat.reduceAdd,Nat.reduceEqDiff,Int.reduceBEq,Int.reduceBNe,ty_3,Qaq,Qaj,QaE,QbE,QaF,QbT,QaJ,QaK,QaP,Qau,ei,q1,q2,q3,q4,em]))
    all_goals refine ⟨⟨i+1,.slice a3 t.ms.length c3,x4⟩,QaI [0,1] (fun _ _ h=>h) ⟨⟨rfl,rfl⟩,⟨rfl,rfl⟩,⟨rfl,rfl⟩,⟨rfl,rfl⟩,⟨rfl,rfl⟩,⟨rfl,rfl⟩,trivial⟩ ⟨⟨rfl,rfl⟩,⟨by dsimp only; rw [ht]; rfl,by dsimp only; rw [ht]; rfl⟩,trivial⟩ (by decide) (Nat.le_refl _),⟨hlt,fun b o h=>hs3 b o (hxy b o h),by dsimp only; rw [ht]; exact hu4⟩,by dsimp only; omega⟩)
 ·have hd:decide ((i:Int) < (len:Int))=false:=by simp; omega
  repeat' (first|((fail_if_success (with_reducible refine stk ?_));simp only [WE,Nat.reduceBEq,QaM,Qav,rs_4,hd]))
theorem QCr {x:Nat→Obj→Prop} (hT:TensX x) (c:Cf) {ad:Option Addr} {len cap:Nat} {rs:Nat→Raw} (hok:c.ok=false) (h60:len≤60) (hF:PureC Tryz.prog x 19 [.slice ad len cap,.int .i64 60] (.bool true)) (hr:Raws x ad len rs):PureC Tryz.prog x 4 [c.v,.slice ad len cap] (.bool true):=by
 refine Qab Tryz.func4 rfl rfl fun w=>?_
 refine Qaa (by kernel_rfl) ?_
 have hP:=Qa4 (cap:=cap) c hT (by omega) hr
 unfold PlayNR plNotes at hP
 rw [if_neg (by simp [hok])] at hP
 unfold Cf.v at hP
 unfold Cf.v
 have q0:((([]:List Nt).length:Int) == 0)=true:=rfl
 have q1:(((0:Nat):Int) == 0)=true:=rfl
 repeat' (first|((with_reducible show callW _ _ _ (some (18,_)) _ _);refine callP Qff rfl (Qe2 hT) ?_)|((with_reducible show callW _ _ _ (some (19,_)) _ _);refine callP QaZ rfl (hF) ?_)|((fail_if_success (with_reducible refine stk ?_));simp only [WE,segX,Nat.reduceBEq,Nat.reduceAdd,Qai]))
 refine callE QaG rfl hP ?_
 rintro v x1 x2 ⟨a1,c1,rfl,hn1⟩ hs1 hs2
 repeat' (first|((fail_if_success (with_reducible refine stk ?_));simp only [WE,Nat.reduceBEq,Int.reduceBNe,Qav,rs_4,q1]))
theorem QBW:∀ (x:Nat→Obj→Prop) (vs:List Value),XLaid x→Shvs x [.r (.cons 1 (.i .i64) (.cons 1 (.i .i64) (.cons 1 (.i .i64) (.cons 1 (.i .i64) (.cons 1 (.i .i64) (.cons 1 (.i .i64) (.cons 1 (.i .i64) (.nil)))))))),.v 1 (.v 1 (.i .i64))] vs→PureC Tryz.prog x 4 vs (.bool true):=by
 intro x vs hx hv
 rcases vs with _ | ⟨v0,_ | ⟨v1,_ | ⟨v2,vs⟩⟩⟩ <;> simp only [Shvs,and_false] at hv
 obtain ⟨h0,h1,_⟩:=hv
 obtain ⟨c,rfl,_⟩:=Qd9 h0
 obtain ⟨a,len,cap,rs,rfl,g1,g2,g3⟩:=Qea h1
 have hT:=hx.1
 have hF:=QcJ (x:=x) (cap:=cap) (most:=60) (by unfold maxLen at g2; omega) g3
 cases hf:fewB rs len 60 with
 | false=>
  rw [hf] at hF
  refine Qab Tryz.func4 rfl rfl fun w=>?_
  refine Qaa (by kernel_rfl) ?_
  unfold Cf.v
  repeat' (first|((with_reducible show callW _ _ _ (some (18,_)) _ _);refine callP Qff rfl (Qe2 hT) ?_)|((with_reducible show callW _ _ _ (some (19,_)) _ _);refine callP QaZ rfl (hF) ?_)|((fail_if_success (with_reducible refine stk ?_));simp only [WE,Nat.reduceBEq,Nat.reduceAdd,rs_4]))
 | true=>
  rw [hf] at hF
  have h60:=Qdi hf
  cases hok:c.ok with
  | true=>exact QCs hT c hok g1 (by omega) hF g3
  | false=>exact QCr hT c hok (by omega) hF g3
end Go.Proofs.YtkokohkbhlnjkaaGreatDoor
namespace Go.Proofs.YtkokohkbhlnjkaaGreatDoor
set_option linter.unusedVariables false
set_option linter.unusedSimpArgs false
open Go Go.RowKit Go.ChangeShapes Go.WideShapes Go.ChangeAt Go.Proofs.YtkokohkbhlnjkaaGreatDoor.R
set_option maxRecDepth 100000
theorem topRaw_lifted (os:Os) (started:os.Started) (H:Type) (enc:TypeId×Value→H) :
  ReturnsInLeavingWide {} Tryz.checked os 4 .any (Rows.topRawRow.pre enc Tryz.prog Tryz.f4 (OpenSpec.ofChange Rows.topRawSpec)) (Rows.topRawSpec.post enc Tryz.prog Tryz.f4 false true false false):=
 Qd7 (C:=Tryz.checked) (s:=Rows.topRawSpec) (conds:=[]) (l:=Rows.topRawRow.laid) (Xs:=XLaid) (tb:=4) (ys:=[.r (.cons 1 (.i .i64) (.cons 1 (.i .i64) (.cons 1 (.i .i64) (.cons 1 (.i .i64) (.cons 1 (.i .i64) (.cons 1 (.i .i64) (.cons 1 (.i .i64) (.nil)))))))),.v 1 (.v 1 (.i .i64))]) (by kernel_rfl) own_ started (by kernel_rfl) Tryz.func4
  (ChangeSpec.witness_shaped (enc:=enc) (C:=Tryz.checked) (os:=os) (X:=fun w _=>laidMetH Tryz.prog Rows.topRawRow.laid w) false (World.laidAll Tryz.prog os Rows.topRawRow.laid) #[.agg #[.int .i64 0,.int .i64 0,.int .i64 0,.int .i64 0,.int .i64 0,.int .i64 0,.int .i64 0],.slice none 0 0] 8 (World.laidAll_os _ _ _)
   (World.shaped_of_ZipB (by kernel_rfl) (by kernel_rfl)) (by kernel_rfl) (by kernel_rfl) (by kernel_rfl)
   (by rw [MakeChecks.laidMetH_plain _ _ _ (by kernel_rfl)]; exact laidMet_laidAll _ (by kernel_rfl) (by kernel_rfl)))
  rfl QbA (by kernel_rfl) rfl Tryz.underlying4
  (fun ds hd=>by match ds,hd with | [d0,d1],_=>exact ⟨rfl,rfl,rfl⟩)
  (by kernel_rfl) Qdq (fun x vs hT h=>QBW x vs hT h)
set_option maxHeartbeats 8000000 in
theorem topRaw_closed:joinedFacts Tryz.checked.prog 4 Tryz.f4 Rows.topRawSpec Rows.topRawRow=true:=by
 unfold joinedFacts
 simp only [Bool.and_eq_true]
 repeat' apply And.intro
 all_goals first | (with_reducible exact QbA) | (as_aux_lemma=>kernel_rfl)
theorem topRaw_named:Tryz.checked.prog.funcNamed Rows.topRawRow.func=some 4:=by kernel_rfl
theorem topRaw_inst:Tryz.f4.isInstance Tryz.checked.prog Rows.topRawRow.origin Rows.topRawRow.targs:=of_decide_eq_true (by kernel_rfl)
theorem topRaw_wrap:Tryz.f4.isWrapper Tryz.checked.prog Rows.topRawRow.wrapper Rows.topRawRow.mainSum:=by unfold Func.isWrapper; first | (rw [if_pos (by decide +kernel)]; kernel_rfl) | (rw [if_neg (by decide +kernel)]; exact ⟨rfl,rfl⟩)
theorem topRaw_said:Rows.TopRawSaid:=
 OpenClaim.holds_of_wide_leaving 4 Tryz.f4 rfl rfl rfl rfl rfl rfl rfl ⟨rfl,rfl,rfl,rfl,rfl⟩ rfl rfl rfl rfl rfl topRaw_named Tryz.func4 topRaw_closed
  topRaw_inst topRaw_wrap (fun os started H enc _=>topRaw_lifted os started H enc)
theorem topRaw_goes:true=Rows.topRawRow.goesBy Tryz.pinned.checked.prog:=by kernel_rfl
theorem topRaw_wf:Rows.topRawRow.wfByText (OpenSpec.ofChange Rows.topRawSpec)=true:=by kernel_rfl
theorem topRaw_wants:([23,24].all fun u=>!Tryz.prog.wantsStandIn u)=true:=by kernel_rfl
theorem topRaw_holds:Rows.TopRawCardSaid:=
 Qdf [.data] true (true, "9743dcc7216159cedf5af689d9831578d52e7622345c3cbb87c8bebbc0866563") true
  topRaw_said topRaw_wf topRaw_row_tie rfl ⟨rfl,rfl⟩ Qd3 rfl
  (fun f fn hf hfn=>by
   obtain rfl:f=4:=Option.some.inj (hf.symm.trans topRaw_named)
   obtain rfl:fn=Tryz.f4:=(Option.some.inj (Tryz.func4.symm.trans hfn)).symm
   exact ⟨QdU,fun j t ht=>by
    rw [Tryz.params4] at ht
    have hm:t∈[23,24]:=by simpa using Array.mem_of_getElem? ht
    exact (show Tryz.prog.wantsStandIn t=false by simpa using List.all_eq_true.1 topRaw_wants t hm)⟩)
  topRaw_goes
#print axioms topRaw_holds
end Go.Proofs.YtkokohkbhlnjkaaGreatDoor
