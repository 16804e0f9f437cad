/- The framework and the contracts of the program's functions, part 4: what each answers. Conditions: those that each names. -/
import Derived.Test.YtkokohkbhlnjkaaGreatDoorMa3
import Derived.Recover
namespace Go.Proofs.YtkokohkbhlnjkaaGreatDoor
set_option linter.unusedVariables false
set_option linter.unusedSimpArgs false
open Go Go.RowKit Go.Proofs.YtkokohkbhlnjkaaGreatDoor.R
set_option maxRecDepth 50000
set_option maxHeartbeats 1000000
structure Cf where
 seg:Int
 max:Int
 first:Int
 grain:Int
 least:Int
 great:Int
 burst:Int
def Cf.cells (c:Cf):List Value:=[.int .i64 c.seg,.int .i64 c.max,.int .i64 c.first,.int .i64 c.grain,.int .i64 c.least,.int .i64 c.great,.int .i64 c.burst]
def Cf.num (c:Cf) (i:Nat):Int:=match i with | 0=>c.seg | 1=>c.max | 2=>c.first | 3=>c.grain | 4=>c.least | 5=>c.great | _=>c.burst
def Cf.lo (_:Cf) (i:Nat):Int:=match i with | 1=>4 | 2=>2 | _=>1
def Cf.hi (c:Cf) (i:Nat):Int:=match i with | 0=>9000 | 1=>1048576 | 2=>c.max | 3=>1000000 | 4=>c.great | 5=>1099511627776 | _=>1000
def Cf.at_ (c:Cf) (i:Nat):Bool:=bif decide (c.num i < c.lo i) then false else !(decide (c.hi i < c.num i))
def Cf.row (c:Cf):List RV:=(List.range 7).flatMap fun i=>[.ext (.int .i64 (c.num i)),.ext (.int .i64 0),.ext (.int .i64 (c.lo i)),.ext (.int .i64 (c.hi i))]
def Cf.ok (c:Cf):Bool:=(List.range 7).all c.at_
theorem Qvr {x:Nat→Obj→Prop} (c0 c1 c2 c3 c4 c5 c6:Int):RetC Tryz.prog x 107 [.agg #[.int .i64 c0,.int .i64 c1,.int .i64 c2,.int .i64 c3,.int .i64 c4,.int .i64 c5,.int .i64 c6]]
  (.clos 172 [(0,0)]) [.cells 23 [.ext (.int .i64 c0),.ext (.int .i64 c1),.ext (.int .i64 c2),.ext (.int .i64 c3),.ext (.int .i64 c4),.ext (.int .i64 c5),.ext (.int .i64 c6)]]:=by
 refine QrP Tryz.func107 rfl rfl rfl fun w=>?_
 refine Qaa (by kernel_rfl) ?_
 repeat' (first|((fail_if_success (with_reducible refine stk ?_));simp only [WE,Nat.reduceBEq]))
 exact ⟨(rfl:[RV.clos _ _]=[RV.clos _ _]),Qao _⟩
def cfRow (c0 c1 c2 c3 c4 c5 c6:Int):List Value:=[.int .i64 c0,.int .i64 0,.int .i64 1,.int .i64 9000,.int .i64 c1,.int .i64 0,.int .i64 4,.int .i64 1048576,.int .i64 c2,.int .i64 0,.int .i64 2,.int .i64 c1,.int .i64 c3,.int .i64 0,.int .i64 1,.int .i64 1000000,.int .i64 c4,.int .i64 0,.int .i64 1,.int .i64 c5,.int .i64 c5,.int .i64 0,.int .i64 1,.int .i64 1099511627776,.int .i64 c6,.int .i64 0,.int .i64 1,.int .i64 1000]
theorem QFd (c0 c1 c2 c3 c4 c5 c6:Int) (i:Nat) (hi:i < 7):takeX 4 (dropX (i * 4) (List.map RV.ext (cfRow c0 c1 c2 c3 c4 c5 c6).toArray.toList))=some [.int .i64 ((⟨c0,c1,c2,c3,c4,c5,c6⟩:Cf).num i),.int .i64 0,.int .i64 ((⟨c0,c1,c2,c3,c4,c5,c6⟩:Cf).lo i),.int .i64 ((⟨c0,c1,c2,c3,c4,c5,c6⟩:Cf).hi i)]:=by
 have hc:i=0∨i=1∨i=2∨i=3∨i=4∨i=5∨i=6:=by omega
 rcases hc with rfl | rfl | rfl | rfl | rfl | rfl | rfl <;> rfl
set_option maxHeartbeats 20000000 in
theorem Qvs {x:Nat→Obj→Prop} (c0 c1 c2 c3 c4 c5 c6:Int) (b:Nat) (hx:x b (.cells (⟨c0,c1,c2,c3,c4,c5,c6⟩:Cf).cells.toArray 23 (0,0))) (s:Nat→Nat) (w:WM) (o0 o1 o2 o3 p1 p3:RO)
  (hM:Mem s [o0,o1,o2,o3] x w) (hp:cloO 4 p1=true∧cloO 4 p3=true)
  (hY:∀ i,i < 7→∀ t o4 o5,GenY Tryz.prog [s 0,s 1,s 2,s 3] ⟨t,[o0,o1,o2,o3,o4,o5],x⟩ (s 3)
   [.ext (.agg #[.int .i64 ((⟨c0,c1,c2,c3,c4,c5,c6⟩:Cf).num i),.int .i64 0]),.ext (.agg #[.int .i64 ((⟨c0,c1,c2,c3,c4,c5,c6⟩:Cf).lo i),.int .i64 ((⟨c0,c1,c2,c3,c4,c5,c6⟩:Cf).hi i)])]
   fun v S'=>v=.ext (.bool ((⟨c0,c1,c2,c3,c4,c5,c6⟩:Cf).at_ i))∧S'=⟨t,[o0,bif (⟨c0,c1,c2,c3,c4,c5,c6⟩:Cf).at_ i then o1 else p1,o2,bif (⟨c0,c1,c2,c3,c4,c5,c6⟩:Cf).at_ i then o3 else p3,o4,o5],x⟩) :
  R.Calls Tryz.prog 172 #[.func (.yield (s 3)) #[] #[],.pointer (some ⟨b,0,none⟩)] w fun e w'=>e=.returned (.tuple #[])∧Fr [s 0,s 1,s 2,s 3] w w' ∧
   Mem s [o0,bif (⟨c0,c1,c2,c3,c4,c5,c6⟩:Cf).ok then o1 else p1,o2,bif (⟨c0,c1,c2,c3,c4,c5,c6⟩:Cf).ok then o3 else p3] x w':=by
 have:=Qci (P:=Tryz.prog) (s:=s) (args:=[.ext (.func (.yield (s 3)) #[] #[]),.ext (.pointer (some ⟨b,0,none⟩))]) (bs:=[s 0,s 1,s 2,s 3]) (m:=[o0,o1,o2,o3]) (x:=x) (w:=w)
  (R:=fun e w'=>e=.returned (.tuple #[])∧Fr [s 0,s 1,s 2,s 3] w w' ∧
   Mem s [o0,bif (⟨c0,c1,c2,c3,c4,c5,c6⟩:Cf).ok then o1 else p1,o2,bif (⟨c0,c1,c2,c3,c4,c5,c6⟩:Cf).ok then o3 else p3] x w')
  (Q:=fun e S'=>(e=.normal∨e=.ret)∧∃ o4 r,S'.m=[o0,bif (⟨c0,c1,c2,c3,c4,c5,c6⟩:Cf).ok then o1 else p1,o2,bif (⟨c0,c1,c2,c3,c4,c5,c6⟩:Cf).ok then o3 else p3] ++ o4 :: r∧S'.x=x ∧
   [o0,bif (⟨c0,c1,c2,c3,c4,c5,c6⟩:Cf).ok then o1 else p1,o2,bif (⟨c0,c1,c2,c3,c4,c5,c6⟩:Cf).ok then o3 else p3].all (cloO 4)=true)
  Tryz.func172 rfl (Nat.le_of_ble_eq_true rfl) hM ⟨Nat.le_refl _,fun k hk=>?_⟩ (by simp [clo]) ?_ ?_
 ·exact this
 ·match k,hk with
  | 0,_=>exact .inl ⟨_,rfl,rfl⟩
  | 1,_=>exact .inl ⟨_,rfl,rfl⟩
  | 2,_=>exact .inl ⟨_,rfl,rfl⟩
  | 3,_=>exact .inl ⟨_,rfl,rfl⟩
 ·have l0:loadX false 1 0 (⟨c0,c1,c2,c3,c4,c5,c6⟩:Cf).cells.toArray=some (.int .i64 c0):=rfl
  have l1:loadX false 1 1 (⟨c0,c1,c2,c3,c4,c5,c6⟩:Cf).cells.toArray=some (.int .i64 c1):=rfl
  have l2:loadX false 1 2 (⟨c0,c1,c2,c3,c4,c5,c6⟩:Cf).cells.toArray=some (.int .i64 c2):=rfl
  have l3:loadX false 1 3 (⟨c0,c1,c2,c3,c4,c5,c6⟩:Cf).cells.toArray=some (.int .i64 c3):=rfl
  have l4:loadX false 1 4 (⟨c0,c1,c2,c3,c4,c5,c6⟩:Cf).cells.toArray=some (.int .i64 c4):=rfl
  have l5:loadX false 1 5 (⟨c0,c1,c2,c3,c4,c5,c6⟩:Cf).cells.toArray=some (.int .i64 c5):=rfl
  have l6:loadX false 1 6 (⟨c0,c1,c2,c3,c4,c5,c6⟩:Cf).cells.toArray=some (.int .i64 c6):=rfl
  refine Qal (Qaa (by kernel_rfl) ?_)
  repeat' (first|(with_reducible refine Qad hx l0 ?_)|(with_reducible refine Qad hx l1 ?_)|(with_reducible refine Qad hx l2 ?_)|(with_reducible refine Qad hx l3 ?_)|(with_reducible refine Qad hx l4 ?_)|(with_reducible refine Qad hx l5 ?_)|(with_reducible refine Qad hx l6 ?_)|((fail_if_success (with_reducible refine stk ?_));simp only [WE,Nat.reduceLeDiff,Nat.reduceBEq,Nat.reduceAdd,ty_3,QaB,QaE,Qa5,Qa6,QaW,QaV,QaX,Qbb,Qbc]))
  refine QhH (z:=.agg #[.int .i64 0,.int .i64 0,.int .i64 0,.int .i64 0]) (n:=4) (b:=32) (cfRow c0 c1 c2 c3 c4 c5 c6).toArray rfl Tryz.underlying184 (by kernel_rfl) (by decide) (by decide) (by kernel_rfl) ?_
  generalize hrow:List.map RV.ext (cfRow c0 c1 c2 c3 c4 c5 c6).toArray.toList=row
  (first | (with_reducible refine Qah (fun _=>?_) (fun _=>?_)) | ((fail_if_success (with_reducible refine stk ?_)); simp only [WE,Nat.reduceLeDiff,segX,Nat.reduceBEq,Nat.reduceAdd,Nat.reduceEqDiff,Int.reduceNeg,Int.reduceEq,Int.reduceBEq,Int.reduceLT,Int.reduceLE,Int.reduceBNe,Int.reduceToNat,Nat.reduceMul,Nat.reduceMod,Int.reducePow,reduceIte,ty_3,QaR,Qbn,QaB,QaE,Qa5,Qa6,QaW,QaV,QaX,Qbg,Qbh,Qbo,Qbb,Qbc,Qbf,Tryz.underlying184,Qbl]))
  refine Qal (Qaa (by kernel_rfl) ?_)
  (first | (with_reducible refine Qah (fun _=>?_) (fun _=>?_)) | ((fail_if_success (with_reducible refine stk ?_)); simp only [WE,Nat.reduceLeDiff,segX,Nat.reduceBEq,Nat.reduceAdd,Nat.reduceEqDiff,Int.reduceNeg,Int.reduceEq,Int.reduceBEq,Int.reduceLT,Int.reduceLE,Int.reduceBNe,Int.reduceToNat,Nat.reduceMul,Nat.reduceMod,Int.reducePow,reduceIte,ty_3,QaR,Qbn,QaB,QaE,Qa5,Qa6,QaW,QaV,QaX,Qbg,Qbh,Qbo,Qbb,Qbc,Qbf,Tryz.underlying184,Qbl]))
  have k0:=hM.cm 0 _ rfl
  have k1:=hM.cm 1 _ rfl
  have k2:=hM.cm 2 _ rfl
  have k3:=hM.cm 3 _ rfl
  have q1:(cloO 4 o0 && (cloO 4 o1 && (cloO 4 o2 && cloO 4 o3)))=true:=by
   have e0:cloO 4 o0=true:=k0
   have e1:cloO 4 o1=true:=k1
   have e2:cloO 4 o2=true:=k2
   have e3:cloO 4 o3=true:=k3
   rw [e0,e1,e2,e3]; rfl
  have q2:(cloO 4 o0 && (true && (cloO 4 o2 && true)))=true:=by
   have e0:cloO 4 o0=true:=k0
   have e2:cloO 4 o2=true:=k2
   rw [e0,e2]; rfl
  have hcl:[o0,o1,o2,o3,.cells 183 row].all (cloO 5)=true:=by
   simp only [List.all_cons,List.all_nil,Bool.and_true,Qe3 (show 4≤5 by decide) k0,Qe3 (show 4≤5 by decide) k1,Qe3 (show 4≤5 by decide) k2,Qe3 (show 4≤5 by decide) k3]
   rw [←hrow]; rfl
  refine Qhu (QtI (fun i:Nat=>⟨[(48,.ext (.int .i64 i)),(47,.ext (.int .i64 7)),(46,.sl 4 0 7 7),(0,.ext (.func (.yield (s 3)) #[] #[]))],[o0,o1,o2,o3,.cells 183 row],x⟩)
   (fun i=>i≤7∧∀ j,j < i→(⟨c0,c1,c2,c3,c4,c5,c6⟩:Cf).at_ j=true) (fun i=>7 - i) ?_ ?_)
  ·intro s a w hr
   refine ⟨0,s,Wk.rep' (by show 4≤5; omega) ?_ hr,Nat.zero_le _,fun j hj=>absurd hj (Nat.not_lt_zero _)⟩
   exact Qae ⟨⟨rfl,rfl⟩,⟨rfl,rfl⟩,⟨rfl,rfl⟩,⟨rfl,rfl⟩,trivial⟩ ⟨rfl,rfl,rfl,rfl,rfl,trivial⟩ hcl
  rintro i ⟨hi,hall⟩
  by_cases h7:i=7
  ·subst h7
   have hok:(⟨c0,c1,c2,c3,c4,c5,c6⟩:Cf).ok=true:=List.all_eq_true.2 fun j hj=>hall j (List.mem_range.1 hj)
   have hd:decide (((7:Nat):Int) < 7)=false:=by decide
   refine Qal (Qaa (by kernel_rfl) ?_)
   simp only [WE,Nat.reduceLeDiff,segX,Nat.reduceBEq,Nat.reduceAdd,Nat.reduceEqDiff,Int.reduceNeg,Int.reduceEq,Int.reduceBEq,Int.reduceLT,Int.reduceLE,Int.reduceBNe,Int.reduceToNat,Nat.reduceMul,Nat.reduceMod,Int.reducePow,reduceIte,ty_3,QaR,Qbn,QaB,QaE,Qa5,Qa6,QaW,QaV,QaX,Qbg,Qbh,Qbo,Qbb,Qbc,Qbf,Tryz.underlying184,Qbl,hd]
   refine Qal (Qaa (by kernel_rfl) ?_)
   simp only [WE,Nat.reduceLeDiff,segX,Nat.reduceBEq,Nat.reduceAdd,Nat.reduceEqDiff,Int.reduceNeg,Int.reduceEq,Int.reduceBEq,Int.reduceLT,Int.reduceLE,Int.reduceBNe,Int.reduceToNat,Nat.reduceMul,Nat.reduceMod,Int.reducePow,reduceIte,ty_3,QaR,Qbn,QaB,QaE,Qa5,Qa6,QaW,QaV,QaX,Qbg,Qbh,Qbo,Qbb,Qbc,Qbf,Tryz.underlying184,Qbl,hd]
   simp only [hok,cond_true,k0,k1,k2,k3,Bool.and_self]
   exact ⟨.inl trivial,_,_,rfl,q1⟩
  ·have hlt:i < 7:=by omega
   have hseg:=QFd c0 c1 c2 c3 c4 c5 c6 i hlt
   rw [hrow] at hseg
   refine Qal (Qaa (by kernel_rfl) ?_)
   have hd:decide ((i:Int) < 7)=true:=by simp; omega
   have hw:wr .i64 ((i:Int)+1)=((i+1:Nat):Int):=by rw [Qag (by omega) (by omega)]; rfl
   simp only [WE,Nat.reduceLeDiff,segX,Nat.reduceBEq,Nat.reduceAdd,Nat.reduceEqDiff,Int.reduceNeg,Int.reduceEq,Int.reduceBEq,Int.reduceLT,Int.reduceLE,Int.reduceBNe,Int.reduceToNat,Nat.reduceMul,Nat.reduceMod,Int.reducePow,reduceIte,ty_3,QaR,Qbn,QaB,QaE,Qa5,Qa6,QaW,QaV,QaX,Qbg,Qbh,Qbo,Qbb,Qbc,Qbf,Tryz.underlying184,Qbl,hd]
   refine Qal (Qaa (by kernel_rfl) ?_)
   simp only [WE,Nat.reduceLeDiff,segX,Nat.reduceBEq,Nat.reduceAdd,Nat.reduceEqDiff,Int.reduceNeg,Int.reduceEq,Int.reduceBEq,Int.reduceLT,Int.reduceLE,Int.reduceBNe,Int.reduceToNat,Nat.reduceMul,Nat.reduceMod,Int.reducePow,reduceIte,ty_3,QaR,Qbn,QaB,QaE,Qa5,Qa6,QaW,QaV,QaX,Qbg,Qbh,Qbo,Qbb,Qbc,Qbf,Tryz.underlying184,Qbl,hd]
   refine Qal (Qhu (Qal (Qaa (by kernel_rfl) ?_)))
   simp only [WE,Nat.reduceLeDiff,segX,Nat.reduceBEq,Nat.reduceAdd,Nat.reduceEqDiff,Int.reduceNeg,Int.reduceEq,Int.reduceBEq,Int.reduceLT,Int.reduceLE,Int.reduceBNe,Int.reduceToNat,Nat.reduceMul,Nat.reduceMod,Int.reducePow,reduceIte,ty_3,QaR,Qbn,QaB,QaE,Qa5,Qa6,QaW,QaV,QaX,Qbg,Qbh,Qbo,Qbb,Qbc,Qbf,Tryz.underlying184,Qbl,hd]
   refine Qam ⟨by omega,by omega⟩ ?_
   simp only [WE,Nat.reduceLeDiff,segX,Nat.reduceBEq,Nat.reduceAdd,Nat.reduceEqDiff,Int.reduceNeg,Int.reduceEq,Int.reduceBEq,Int.reduceLT,Int.reduceLE,Int.reduceBNe,Int.reduceToNat,Nat.reduceMul,Nat.reduceMod,Int.reducePow,reduceIte,ty_3,QaR,Qbn,QaB,QaE,Qa5,Qa6,QaW,QaV,QaX,Qbg,Qbh,Qbo,Qbb,Qbc,Qbf,Tryz.underlying184,Qbl,hd,Int.toNat_natCast,hseg]
   refine Qal ?_
   refine QtN (o:=?o) 5 ?h1 ?h2 ?h3 ?h4
   case h1=>exact rfl
   case h2=>kernel_rfl
   case h3=>exact rfl
   dsimp only [List.take,List.drop]
   simp only [WE,Nat.reduceLeDiff,segX,Nat.reduceBEq,Nat.reduceAdd,Nat.reduceEqDiff,Int.reduceNeg,Int.reduceEq,Int.reduceBEq,Int.reduceLT,Int.reduceLE,Int.reduceBNe,Int.reduceToNat,Nat.reduceMul,Nat.reduceMod,Int.reducePow,reduceIte,ty_3,QaR,Qbn,QaB,QaE,Qa5,Qa6,QaW,QaV,QaX,Qbg,Qbh,Qbo,Qbb,Qbc,Qbf,Tryz.underlying184,Qbl,hd]
   refine Qam ⟨by decide,by decide⟩ ?_
   simp only [WE,Nat.reduceLeDiff,segX,Nat.reduceBEq,Nat.reduceAdd,Nat.reduceEqDiff,Int.reduceNeg,Int.reduceEq,Int.reduceBEq,Int.reduceLT,Int.reduceLE,Int.reduceBNe,Int.reduceToNat,Nat.reduceMul,Nat.reduceMod,Int.reducePow,reduceIte,ty_3,QaR,Qbn,QaB,QaE,Qa5,Qa6,QaW,QaV,QaX,Qbg,Qbh,Qbo,Qbb,Qbc,Qbf,Tryz.underlying184,Qbl]
   refine Qam ⟨by decide,by decide⟩ ?_
   simp only [WE,Nat.reduceLeDiff,segX,Nat.reduceBEq,Nat.reduceAdd,Nat.reduceEqDiff,Int.reduceNeg,Int.reduceEq,Int.reduceBEq,Int.reduceLT,Int.reduceLE,Int.reduceBNe,Int.reduceToNat,Nat.reduceMul,Nat.reduceMod,Int.reducePow,reduceIte,ty_3,QaR,Qbn,QaB,QaE,Qa5,Qa6,QaW,QaV,QaX,Qbg,Qbh,Qbo,Qbb,Qbc,Qbf,Tryz.underlying184,Qbl]
   refine QGk (l:=?l) (vs:=?vs) ?e1 ?e2 ?e3
   case e1=>exact rfl
   case e2=>exact rfl
   refine GenY.mono (hY i hlt _ _ _) ?_
   rintro v S' ⟨rfl,rfl⟩
   cases hb:(⟨c0,c1,c2,c3,c4,c5,c6⟩:Cf).at_ i
   ·have hko:(⟨c0,c1,c2,c3,c4,c5,c6⟩:Cf).ok=false:=by
     cases hq:(⟨c0,c1,c2,c3,c4,c5,c6⟩:Cf).ok with
     | false=>rfl
     | true=>
      have:=List.all_eq_true.1 hq i (List.mem_range.2 hlt)
      rw [hb] at this; cases this
    simp only [WE,Nat.reduceLeDiff,segX,Nat.reduceBEq,Nat.reduceAdd,Nat.reduceEqDiff,Int.reduceNeg,Int.reduceEq,Int.reduceBEq,Int.reduceLT,Int.reduceLE,Int.reduceBNe,Int.reduceToNat,Nat.reduceMul,Nat.reduceMod,Int.reducePow,reduceIte,ty_3,QaR,Qbn,QaB,QaE,Qa5,Qa6,QaW,QaV,QaX,Qbg,Qbh,Qbo,Qbb,Qbc,Qbf,Tryz.underlying184,Qbl,hb]
    refine Qaa (by kernel_rfl) ?_
    simp only [WE,Nat.reduceLeDiff,segX,Nat.reduceBEq,Nat.reduceAdd,Nat.reduceEqDiff,Int.reduceNeg,Int.reduceEq,Int.reduceBEq,Int.reduceLT,Int.reduceLE,Int.reduceBNe,Int.reduceToNat,Nat.reduceMul,Nat.reduceMod,Int.reducePow,reduceIte,ty_3,QaR,Qbn,QaB,QaE,Qa5,Qa6,QaW,QaV,QaX,Qbg,Qbh,Qbo,Qbb,Qbc,Qbf,Tryz.underlying184,Qbl,hb]
    simp only [hko,cond_false,k0,k2,hp.1,hp.2,Bool.and_self]
    exact ⟨.inr trivial,_,_,rfl,q2⟩
   ·simp only [WE,Nat.reduceLeDiff,segX,Nat.reduceBEq,Nat.reduceAdd,Nat.reduceEqDiff,Int.reduceNeg,Int.reduceEq,Int.reduceBEq,Int.reduceLT,Int.reduceLE,Int.reduceBNe,Int.reduceToNat,Nat.reduceMul,Nat.reduceMod,Int.reducePow,reduceIte,ty_3,QaR,Qbn,QaB,QaE,Qa5,Qa6,QaW,QaV,QaX,Qbg,Qbh,Qbo,Qbb,Qbc,Qbf,Tryz.underlying184,Qbl,hb]
    refine Qaa (by kernel_rfl) ?_
    simp only [WE,Nat.reduceLeDiff,segX,Nat.reduceBEq,Nat.reduceAdd,Nat.reduceEqDiff,Int.reduceNeg,Int.reduceEq,Int.reduceBEq,Int.reduceLT,Int.reduceLE,Int.reduceBNe,Int.reduceToNat,Nat.reduceMul,Nat.reduceMod,Int.reducePow,reduceIte,ty_3,QaR,Qbn,QaB,QaE,Qa5,Qa6,QaW,QaV,QaX,Qbg,Qbh,Qbo,Qbb,Qbc,Qbf,Tryz.underlying184,Qbl,hb]
    refine Qaa (by kernel_rfl) ?_
    simp only [WE,Nat.reduceLeDiff,segX,Nat.reduceBEq,Nat.reduceAdd,Nat.reduceEqDiff,Int.reduceNeg,Int.reduceEq,Int.reduceBEq,Int.reduceLT,Int.reduceLE,Int.reduceBNe,Int.reduceToNat,Nat.reduceMul,Nat.reduceMod,Int.reducePow,reduceIte,ty_3,QaR,Qbn,QaB,QaE,Qa5,Qa6,QaW,QaV,QaX,Qbg,Qbh,Qbo,Qbb,Qbc,Qbf,Tryz.underlying184,Qbl,hw]
    intro s' a' w' hr
    refine ⟨i+1,s',Wk.rep' (by show 4≤5; omega) ?_ hr,⟨by omega,fun j hj=>?_⟩,by omega⟩
    ·exact Qae ⟨⟨rfl,rfl⟩,⟨rfl,rfl⟩,⟨rfl,rfl⟩,⟨rfl,rfl⟩,trivial⟩ ⟨rfl,rfl,rfl,rfl,rfl,trivial⟩ hcl
    ·by_cases hji:j=i
     ·subst hji; exact hb
     ·exact hall j (by omega)
 ·rintro e s' S' a w' hr ⟨he,o4,r,hm,hxx,hcl⟩
  have main:a.defers=[]∧∀ w1,Rely w' w1→∃ v,(results Tryz.f172 a.tmps).run Tryz.prog w1.w=.ok v w1.w∧EvIn w1 ((results Tryz.f172 a.tmps).events Tryz.prog w1.w #[]) ∧
    (Ending.returned v=.returned (.tuple #[])∧Fr [s 0,s 1,s 2,s 3] w w1∧Mem s [o0,bif (⟨c0,c1,c2,c3,c4,c5,c6⟩:Cf).ok then o1 else p1,o2,bif (⟨c0,c1,c2,c3,c4,c5,c6⟩:Cf).ok then o3 else p3] x w1):=by
   refine ⟨hr.df,fun w1 hrel=>?_⟩
   have hr1:=hr.rely hrel
   have hres:RunE Tryz.prog w1 (results Tryz.f172 a.tmps) (.tuple #[]):=Qd6 (fn:=Tryz.f172) hr1.sl hr1.mr ⟨[],rfl,by decide,rfl⟩
   refine ⟨.tuple #[],hres.1,hres.2,rfl,hr1.fr,?_⟩
   have h1:=hr1.mr
   rw [hm,hxx] at h1
   exact h1.take (n:=4) (by simp) hcl fun k hk=>by
    rcases hr1.own.at_ k (by rw [hm]; simp; omega) with ⟨b',g1,g2⟩ | ⟨g1,_⟩
    ·rw [g2]
     match k,hk with
     | 0,_=>cases g1; rfl
     | 1,_=>cases g1; rfl
     | 2,_=>cases g1; rfl
     | 3,_=>cases g1; rfl
    ·simp at g1; omega
  rcases he with rfl | rfl
  ·exact main
  ·exact main
set_option linter.unusedVariables false
set_option linter.unusedSimpArgs false
open Go Go.RowKit Go.Proofs.YtkokohkbhlnjkaaGreatDoor.R
set_option maxRecDepth 50000
set_option maxHeartbeats 4000000
theorem Qbe {P:Program} {rn:Bool} {G:Ctx} {x y:Code} {QS:Exit→St→Prop} {Q:Exit→Act→WM→Prop} {s:Nat→Nat} {S:St} {a:Act} {w:WM} (hr:Rep G.bs G.w0 G.n G.ds s S a w) (h:Sd P G x QS S)
  (hk:∀ e s S a w,Rep G.bs G.w0 G.n G.ds s S a w→QS e S→e=.normal∧Wp P rn y Q a w):Wp P rn (.seq x y) Q a w:=by
 refine QaO (Wp.mono (h s a w hr).any ?_)
 rintro e a' w' ⟨s',S',h1,h2⟩
 obtain ⟨rfl,h3⟩:=hk e s' S' a' w' h1 h2
 exact h3
theorem QzG {x:Nat→Obj→Prop} (c:Cf) (cfg:List RV) (i:Nat) (bs:List Nat) (l:Nat) (hl:bs[3]? = some l) (t:List (Nat×RV)) (o4 o5:RO) (r:Loop) (hz:r.tmps.size=21) (hp:r.params=#[7,8]) (hst:r.state=.ready) (hpe:r.pending=none)
  (h1:∀ b,bs[0]? = some b→r.tmps.getD 1 undef=.pointer (some ⟨b,0,none⟩)) (h2:∀ b,bs[1]? = some b→r.tmps.getD 2 undef=.pointer (some ⟨b,0,none⟩)) (hb0:∃ b,bs[0]? = some b) (hb1:∃ b,bs[1]? = some b)
  (hcode : ∃ f k, Tryz.f50.body = some (.seq k (.seq (.seq f (.block 0 (.rangeFunc (.tmp 6) #[7, 8] r.assign r.body))) (.seq (.region 6 #[⟨none, .store 30 (.tmp 2) (.const (.int .i64 0)), 0, "guide.go:45", #[], none⟩] false) .ret)))) :
  GenY Tryz.prog bs ⟨t,[.cells 23 cfg,.cells 30 [.ext (.int .i64 0)],.obj (.deferred (some [])),.obj (.loop r),o4,o5],x⟩ l
   [.ext (.agg #[.int .i64 (c.num i),.int .i64 0]),.ext (.agg #[.int .i64 (c.lo i),.int .i64 (c.hi i)])]
   fun v S'=>v=.ext (.bool (c.at_ i))∧S'=⟨t,[.cells 23 cfg,bif c.at_ i then .cells 30 [.ext (.int .i64 0)] else .cells 30 [.ext (.int .i64 210)],.obj (.deferred (some [])),bif c.at_ i then .obj (.loop r) else .obj (asLoop r .done (some .ret)),o4,o5],x⟩:=by
 refine QzB (kL:=3) (t':=[(1,.ptr 0 0),(2,.ptr 1 0),(7,.ext (.agg #[.int .i64 (c.num i),.int .i64 0])),(8,.ext (.agg #[.int .i64 (c.lo i),.int .i64 (c.hi i)]))]) r rfl hl (by rw [hp]; rfl) ?_ ?_
 ·intro s' hpin
  obtain ⟨b0,hb0⟩:=hb0
  obtain ⟨b1,hb1⟩:=hb1
  have e0:=hpin 0 b0 hb0
  have e1:=hpin 1 b1 hb1
  have f1:=h1 b0 hb0
  have f2:=h2 b1 hb1
  intro j v hj
  rw [hp]
  have hfold:∀ u1 u2:Value,((#[7,8]:Array Tmp).zip [u1,u2].toArray).foldl (fun tmps (x:Tmp×Value)=>tmps.setIfInBounds x.1 x.2) r.tmps=(r.tmps.setIfInBounds 7 u1).setIfInBounds 8 u2:=fun u1 u2=>by simp
  simp only [List.map_cons,List.map_nil]
  rw [hfold]
  have s1:∀ u:Value,(r.tmps.setIfInBounds 7 u).size=21:=fun u=>by simp [hz]
  rw [Qfg (by rw [s1]; omega),Qfg (by rw [hz]; omega)]
  simp only [Qa7,QiX] at hj
  by_cases j1:j=1
  ·subst j1
   simp at hj
   subst hj
   exact ⟨by simp [f1,ren,e0],by simp [clo]⟩
  ·by_cases j2:j=2
   ·subst j2
    simp at hj
    subst hj
    exact ⟨by simp [f2,ren,e1],by simp [clo]⟩
   ·by_cases j7:j=7
    ·subst j7
     simp at hj
     subst hj
     exact ⟨by simp [ren],rfl⟩
    ·by_cases j8:j=8
     ·subst j8
      simp at hj
      subst hj
      exact ⟨by simp [ren],rfl⟩
     ·simp [j1,j2,j7,j8] at hj
 ·intro hcl bs0 w0
  rw [hz]
  obtain ⟨f,k,hcode⟩:=hcode
  have e:=hcode
  simp only [Tryz.f50,Option.some.injEq,Code.seq.injEq,Code.block.injEq,Code.rangeFunc.injEq] at e
  obtain ⟨_,⟨_,_,_,_,ea,eb⟩,_⟩:=e
  rw [←ea,←eb]
  refine Qal (Qaa (by kernel_rfl) ?_)
  simp only [WE,Nat.reduceLeDiff,segX,Nat.reduceBEq,Nat.reduceAdd,Nat.reduceEqDiff,Int.reduceNeg,Int.reduceEq,Int.reduceBEq,Int.reduceLT,Int.reduceLE,Int.reduceBNe,Int.reduceToNat,Nat.reduceMul,Nat.reduceMod,Int.reducePow,reduceIte,ty_3,Qai,Qaq,QaR,QcL,Qce,QfE,Qfv]
  refine Qaa (by kernel_rfl) ?_
  simp only [WE,Nat.reduceLeDiff,segX,Nat.reduceBEq,Nat.reduceAdd,Nat.reduceEqDiff,Int.reduceNeg,Int.reduceEq,Int.reduceBEq,Int.reduceLT,Int.reduceLE,Int.reduceBNe,Int.reduceToNat,Nat.reduceMul,Nat.reduceMod,Int.reducePow,reduceIte,ty_3,Qai,Qaq,QaR,QcL,Qce,QfE,Qfv]
  refine ⟨r,rfl,hst,?_⟩
  refine Qaa (by kernel_rfl) ?_
  have cl:∀ o∈[RO.cells 23 cfg,o4,o5],cloO 6 o=true:=fun o ho=>List.all_eq_true.1 hcl o (by
   simp only [List.mem_cons,List.not_mem_nil,or_false] at ho ⊢
   rcases ho with rfl | rfl | rfl <;> simp)
  have c0:=cl _ (by simp:RO.cells 23 cfg∈_)
  have c4:=cl o4 (by simp)
  have c5:=cl o5 (by simp)
  have hreq:asLoop { r with state:=.busy } .ready none=.loop r:=by
   obtain ⟨st,pe,_,_,_,_,_,_⟩:=r
   simp only at hst hpe
   subst hst; subst hpe; rfl
  cases d1:decide (c.num i < c.lo i)
  ·cases d2:decide (c.hi i < c.num i)
   ·have hat:c.at_ i=true:=by simp only [Cf.at_,d1,d2]; rfl
    repeat' (first|(with_reducible refine Qam ⟨by decide,by decide⟩ ?_)|((fail_if_success (with_reducible refine stk ?_));simp only [WE,Nat.reduceBEq,Int.reduceToNat,Nat.reduceMul,ty_3,QcL,d1,d2]))
    refine ⟨_,rfl,Nat.le_of_ble_eq_true rfl,Nat.le_of_ble_eq_true rfl,?_,?_,?_⟩
    ·show (cloO 6 _ && (true && (true && (true && (cloO 6 o4 && (cloO 6 o5 && true))))))=true
     rw [c0,c4,c5]; rfl
    ·rw [hat]; rfl
    ·rw [hat]
     simp only [cond_true]
     rw [←hreq]
     rfl
   ·have hat:c.at_ i=false:=by simp only [Cf.at_,d1,d2]; rfl
    repeat' (first|(with_reducible refine Qam ⟨by decide,by decide⟩ ?_)|((fail_if_success (with_reducible refine stk ?_));simp only [WE,Nat.reduceBEq,Nat.reduceEqDiff,Int.reduceToNat,Nat.reduceMul,ty_3,Qaq,QcL,d1,d2]))
    refine ⟨_,rfl,Nat.le_of_ble_eq_true rfl,Nat.le_of_ble_eq_true rfl,?_,?_,?_⟩
    ·show (cloO 6 _ && (true && (true && (true && (cloO 6 o4 && (cloO 6 o5 && true))))))=true
     rw [c0,c4,c5]; rfl
    ·rw [hat]; rfl
    ·rw [hat]; rfl
  ·have hat:c.at_ i=false:=by simp only [Cf.at_,d1]; rfl
   repeat' (first|(with_reducible refine Qam ⟨by decide,by decide⟩ ?_)|((fail_if_success (with_reducible refine stk ?_));simp only [WE,Nat.reduceBEq,Nat.reduceEqDiff,Int.reduceToNat,Nat.reduceMul,ty_3,Qaq,QcL,d1]))
   refine ⟨_,rfl,Nat.le_of_ble_eq_true rfl,Nat.le_of_ble_eq_true rfl,?_,?_,?_⟩
   ·show (cloO 6 _ && (true && (true && (true && (cloO 6 o4 && (cloO 6 o5 && true))))))=true
    rw [c0,c4,c5]; rfl
   ·rw [hat]; rfl
   ·rw [hat]; rfl
theorem QoI {w0:WM} {s:Nat→Nat} {a:Act} {w:WM} {t:List (Nat×RV)} {x:Nat→Obj→Prop} {r0:Nat} {cfg:List RV} {v:Int} {o3:RO}
  (hr:Rep [] w0 21 [R.mark r0] s ⟨t,[.cells 23 cfg,.cells 30 [.ext (.int .i64 v)],.obj (.deferred (some [])),o3],x⟩ a w) (h2:lk t 2=some (.ptr 1 0)) (hs:s 2=r0) :
  R.bodyPostD Tryz.prog Tryz.f50 (fun e (w':WM)=>e=.returned (.int .i64 v)∧Fr [] w0 w'∧NewOk w') .ret a w:=by
 refine .inr ⟨r0,hr.df,fun w1 hrel=>?_⟩
 have hr1:=hr.rely hrel
 have k1:=hr1.mr.mem 2 _ rfl
 simp only [renO,hs] at k1
 have k2:=hr1.mr.mine 2 (Nat.le_of_ble_eq_true rfl)
 rw [hs] at k2
 have hset:=hr1.set (k:=2) (o:=.obj (.deferred none)) (v:={ w1.w with heap:=w1.heap.setIfInBounds r0 (.deferred none) }) (Nat.le_of_ble_eq_true rfl) rfl (by simp) (fun j=>by
  rw [hs]; simp only [renO]; exact QeJ (w:=w1.w) (Array.getElem?_eq_some_iff.1 k1).1 j) rfl rfl rfl
 refine ⟨k1,k2,fun w2 hrel2=>?_⟩
 have hr2:Rep [] w0 21 [R.mark r0] s ⟨t,[.cells 23 cfg,.cells 30 [.ext (.int .i64 v)],.obj (.deferred none),o3],x⟩ a w2:=Rep.rely (w:=w1.put r0 (.deferred none)) hset hrel2
 have hres:RunE Tryz.prog w2 (results Tryz.f50 a.tmps) (.int .i64 v):=by
  refine Qd6 (fn:=Tryz.f50) hr2.sl hr2.mr ?_
  show resL _ _ [ResultVar.cell 2 30] _
  simp only [Qhb,Qhc,Qjx,h2,WE,Nat.reduceLeDiff,segX,Nat.reduceBEq,Nat.reduceAdd,Nat.reduceEqDiff,Int.reduceNeg,Int.reduceEq,Int.reduceBEq,Int.reduceLT,Int.reduceLE,Int.reduceBNe,Int.reduceToNat,Nat.reduceMul,Nat.reduceMod,Int.reducePow,reduceIte,ty_3,Qai,Qaq,QaR,QcL,Qce,QfE,Qfv]
 exact ⟨.int .i64 v,hres.1,hres.2,rfl,hr2.fr,hr2.mr.new⟩
def Cf.v (c:Cf):Value:=.agg #[.int .i64 c.seg,.int .i64 c.max,.int .i64 c.first,.int .i64 c.grain,.int .i64 c.least,.int .i64 c.great,.int .i64 c.burst]
def Cf.err (c:Cf):Int:=bif c.ok then 0 else 210
theorem pinned {P:Program} {rn:Bool} {w0:WM} {n:Nat} {ds:List Deferred} {s:Nat→Nat} {S:St} {a:Act} {w:WM} {code:Code} {QS:Exit→St→Prop} {Q:Exit→Act→WM→Prop} (hr:Rep [] w0 n ds s S a w)
  (h:Sd P ⟨(List.range S.m.length).map s,w,n,ds⟩ code QS S)
  (hk:∀ e s' S' a' w',Rep [] w0 n ds s' S' a' w'→(∀ k,k < S.m.length→s' k=s k)→QS e S'→Q e a' w') (hl:∀ e S',QS e S'→S'.m.length=S.m.length):Wp P rn code Q a w:=by
 have hrep:Rep ((List.range S.m.length).map s) w n ds s S a w:=
  ⟨hr.mr,⟨by simp,fun k hk=>.inl ⟨s k,by rw [List.getElem?_map,List.getElem?_range hk]; rfl,rfl⟩⟩,Fr.refl _ _,hr.size,hr.slot,hr.df⟩
 refine Wp.mono (h s a w hrep).any ?_
 rintro e a' w' ⟨s',S',h1,h2⟩
 have hlen:=hl e S' h2
 have pin:∀ k,k < S.m.length→s' k=s k:=fun k hk=>by
  rcases h1.own.at_ k (by rw [hlen]; exact hk) with ⟨b,g1,g2⟩ | ⟨g1,_⟩
  ·simp [hk] at g1
   rw [g2,←g1]
  ·simp at g1; omega
 have hc:=hr.call (S':=⟨S.t,S'.m,S'.x⟩) rfl hlen (by
  have:=h1.mr.take (s':=s) (n:=S.m.length) (by rw [hlen]; exact Nat.le_refl _) (by
   rw [List.take_of_length_le (by omega)]
   exact List.all_eq_true.2 fun o ho=>by
    obtain ⟨k,hk⟩:=List.getElem?_of_mem ho
    have:=h1.mr.cm k o hk
    rwa [hlen] at this) fun k hk=>(pin k hk).symm
  rwa [List.take_of_length_le (by omega)] at this) h1.fr
 exact hk e s' S' a' w' ⟨h1.mr,.none fun k hk=>by
  rw [pin k (by rw [←hlen]; exact hk)]
  exact (hr.own.mem (by rw [←hlen]; exact hk)).resolve_left (by simp),hc.fr,h1.size,h1.slot,h1.df⟩ pin h2
theorem QzF {x:Nat→Obj→Prop} (c:Cf) (as_ bd:Code)
  (hcode : ∃ f k, Tryz.f50.body = some (.seq k (.seq (.seq f (.block 0 (.rangeFunc (.tmp 6) #[7, 8] as_ bd))) (.seq (.region 6 #[⟨none, .store 30 (.tmp 2) (.const (.int .i64 0)), 0, "guide.go:45", #[], none⟩] false) .ret))))
  {w0 w:WM} {s:Nat→Nat} {a:Act} {b:Nat} (fn:FuncId) {t:List (Nat×RV)} (hr:Rep [] w0 21 [] s ⟨t,[.cells 23 (c.cells.map .ext),.cells 30 [.ext (.int .i64 0)]],x⟩ a w)
  (ht1:lk t 1=some (.ptr 0 0)) (ht2:lk t 2=some (.ptr 1 0)) (hxb:x b (.cells c.cells.toArray 23 (0,0))) {Q:Exit→Act→WM→Prop}
  (hn:c.ok=true→∀ s' a' w' o3,Rep [] w0 21 [R.mark w.heap.size] s' ⟨t,[.cells 23 (c.cells.map .ext),.cells 30 [.ext (.int .i64 0)],.obj (.deferred (some [])),o3],x⟩ a' w'→s' 2=w.heap.size→Q .normal a' w')
  (hb:c.ok=false→∀ s' a' w' o3,Rep [] w0 21 [R.mark w.heap.size] s' ⟨t,[.cells 23 (c.cells.map .ext),.cells 30 [.ext (.int .i64 210)],.obj (.deferred (some [])),o3],x⟩ a' w'→s' 2=w.heap.size→Q .ret a' w') :
  R.Calls Tryz.prog 172 (#[] ++ #[.func (.yield (w.heap.size+1)) #[] #[]] ++ #[.pointer (some ⟨b,0,none⟩)]) (loopW w fn a #[7,8] as_ bd) fun e w3=>∃ v,e=.returned v∧∀ w4,Rely w3 w4→∃ r,w4.heap[w.heap.size+1]? = some (.loop r)∧w4.M (w.heap.size+1)∧r.state≠.busy ∧
   ((r.pending=none∧Q .normal { a with defers:=R.mark w.heap.size :: a.defers } (w4.put (w.heap.size+1) (asLoop r .exhausted r.pending))) ∨
    (r.pending=some .ret∧Q .ret { a with defers:=R.mark w.heap.size :: a.defers } (w4.put (w.heap.size+1) (asLoop r .exhausted r.pending)))):=by
 let r:Loop:={ state:=.ready,pending:=none,fn,tmps:=a.tmps,params:=#[7,8],assign:=as_,body:=bd,defers:=w.heap.size }
 have hal:=hr.alloc (.obj (.deferred (some []))) rfl
 have hal2:=hal.alloc (.obj (.loop r)) rfl
 simp only [renO,List.cons_append,List.nil_append,List.length_cons,List.length_nil,Nat.zero_add,Nat.reduceAdd,List.length_append] at hal2
 generalize hs2:(fun k=>if k=3 then (w.to (w.w.alloc (.deferred (some [])))).heap.size else if k=2 then w.heap.size else s k)=s2 at hal2
 have e0:s2 0=s 0:=by rw [←hs2]; rfl
 have e1:s2 1=s 1:=by rw [←hs2]; rfl
 have e2:s2 2=w.heap.size:=by rw [←hs2]; rfl
 have e3:s2 3=w.heap.size+1:=by rw [←hs2]; show (w.w.alloc _).heap.size=_; rw [World.size_alloc]
 have f1:=(hr.slot 1 _ ht1).1
 have f2:=(hr.slot 2 _ ht2).1
 simp only [ren] at f1 f2
 have hcalls:=Qvs (x:=x) c.seg c.max c.first c.grain c.least c.great c.burst b hxb s2 _ _ _ _ _ (.cells 30 [.ext (.int .i64 210)]) (.obj (asLoop r .done (some .ret))) hal2.mr ⟨rfl,rfl⟩
  (fun i hi t' o4 o5=>(QzG c (c.cells.map .ext) i [s2 0,s2 1,s2 2,s2 3] (s2 3) rfl t' o4 o5 r hr.size rfl rfl rfl (fun b hb=>by cases hb; rw [e0]; exact f1) (fun b hb=>by cases hb; rw [e1]; exact f2) ⟨_,rfl⟩ ⟨_,rfl⟩ hcode))
 rw [e3] at hcalls
 refine R.Calls.mono hcalls ?_
 rintro e w3 ⟨rfl,hf,hm⟩
 rw [←e3] at hf
 refine ⟨_,rfl,fun w4 hrel=>?_⟩
 change Mem s2 [_,bif c.ok then _ else _,_,bif c.ok then _ else _] x w3 at hm
 cases hok:c.ok with
 | true=>
  rw [hok] at hm
  have hm':Mem s2 [.cells 23 (c.cells.map .ext),.cells 30 [.ext (.int .i64 0)],.obj (.deferred (some [])),.obj (.loop r)] x w3:=hm
  have hr3:Rep [] w0 21 [] s2 ⟨t,[.cells 23 (c.cells.map .ext),.cells 30 [.ext (.int .i64 0)],.obj (.deferred (some [])),.obj (.loop r)],x⟩ a w3:=Rep.call (S':=⟨t,_,x⟩) hal2 rfl rfl hm' hf
  obtain ⟨k1,k2,k3⟩:=Qg9 (kL:=3) (r':={ r with state:=.exhausted,pending:=none }) (hr3.rely hrel) rfl e3
  refine ⟨r,k1,k2,by simp [r],.inl ⟨rfl,hn hok s2 _ _ _ ⟨k3.mr,k3.own,k3.fr,k3.size,k3.slot,?_⟩ e2⟩⟩
  show _ :: a.defers=_
  rw [hr.df]
 | false=>
  rw [hok] at hm
  have hm':Mem s2 [.cells 23 (c.cells.map .ext),.cells 30 [.ext (.int .i64 210)],.obj (.deferred (some [])),.obj (asLoop r .done (some .ret))] x w3:=hm
  have hr3:Rep [] w0 21 [] s2 ⟨t,[.cells 23 (c.cells.map .ext),.cells 30 [.ext (.int .i64 210)],.obj (.deferred (some [])),.obj (asLoop r .done (some .ret))],x⟩ a w3:=Rep.call (S':=⟨t,_,x⟩) hal2 rfl rfl hm' hf
  obtain ⟨k1,k2,k3⟩:=Qg9 (kL:=3) (r:={ r with state:=.done,pending:=some .ret }) (r':={ r with state:=.exhausted,pending:=some .ret }) (hr3.rely hrel) rfl e3
  refine ⟨{ r with state:=.done,pending:=some .ret },k1,k2,by simp,.inr ⟨rfl,hb hok s2 _ _ _ ⟨k3.mr,k3.own,k3.fr,k3.size,k3.slot,?_⟩ e2⟩⟩
  show _ :: a.defers=_
  rw [hr.df]
theorem c_guide_Check {x:Nat→Obj→Prop} (c:Cf):PureC Tryz.prog x 50 [c.v] (.int .i64 c.err):=by
 refine ⟨fun w hx hwf=>?_⟩
 refine Qwq Tryz.func50 rfl ?_
 have hr0:=Qcv (w:=w) (n:=21) (args:=[.ext c.v]) (s:=fun _=>0) (m:=[]) (x:=x) (bs:=[]) (Nat.le_of_ble_eq_true rfl)
  ⟨fun k o hk=>by simp at hk,fun j k hj=>by simp at hj,fun k o hk=>by simp at hk,fun b o hb=>(hx b o hb).1,fun b o _ k hk=>by simp at hk,fun k hk=>by simp at hk,fun b o hb=>(hx b o hb).2,hwf⟩ (.none fun k hk=>by simp at hk) (by simp [clo])
 refine Qbe (G:=⟨[],w,21,[]⟩) (QS:=fun e S'=>e=.normal∧S'.m=[.cells 23 (c.cells.map .ext),.cells 30 [.ext (.int .i64 0)]]∧S'.x=x∧lk S'.t 1=some (.ptr 0 0)∧lk S'.t 2=some (.ptr 1 0)) hr0 ?_ ?_
 ·refine Qaa (by kernel_rfl) ?_
  unfold Cf.v Cf.cells
  simp only [WE,Nat.reduceLeDiff,segX,Nat.reduceBEq,Nat.reduceAdd,Nat.reduceEqDiff,Int.reduceNeg,Int.reduceEq,Int.reduceBEq,Int.reduceLT,Int.reduceLE,Int.reduceBNe,Int.reduceToNat,Nat.reduceMul,Nat.reduceMod,Int.reducePow,reduceIte,ty_3,Qai,Qaq,QaR,QcL,Qce,QfE,Qfv]
 rintro e s1 ⟨t1,m1,x1⟩ a1 w1 hr1 ⟨rfl,hm,hxx,ht1,ht2⟩
 refine ⟨rfl,?_⟩
 simp only at hm hxx ht1 ht2
 subst hm; subst hxx
 have hr1':Rep [] w 21 [] s1 ⟨[(1,.ptr 0 0),(2,.ptr 1 0)],[.cells 23 (c.cells.map .ext),.cells 30 [.ext (.int .i64 0)]],x1⟩ a1 w1:=
  by
   refine Wk.rep' (Nat.zero_le _) ?_ hr1
   exact Qae ⟨⟨ht1,rfl⟩,⟨ht2,rfl⟩,trivial⟩ ⟨rfl,rfl,trivial⟩ rfl
 refine QaO ?_
 refine Qbe (G:=⟨[],w,21,[]⟩) (QS:=fun e S'=>e=.normal∧S'.m=[.cells 23 (c.cells.map .ext),.cells 30 [.ext (.int .i64 0)]]∧∃ b,xsub x1 S'.x∧S'.x b (.cells c.cells.toArray 23 (0,0)) ∧
  lk S'.t 1=some (.ptr 0 0)∧lk S'.t 2=some (.ptr 1 0)∧lk S'.t 6=some (.ext (.func (.func 172) #[] #[.pointer (some ⟨b,0,none⟩)]))) hr1' ?_ ?_
 ·refine Qaa (by kernel_rfl) ?_
  unfold Cf.cells
  repeat' (first|(((with_reducible show callW _ _ _ (some (107,_)) _ _);refine callR QyX rfl (Qvr ..) ?_; intro s' x' hs1 hs2))|((fail_if_success (with_reducible refine stk ?_));simp only [WE,segX,Nat.reduceBEq,Qai]))
  exact ⟨s' 0,hs1,hs2 0 _ rfl,rfl⟩
 rintro e s2 ⟨t2,m2,x2⟩ a2 w2 hr2 ⟨rfl,hm,b,hxs,hxb,ht1,ht2,ht6⟩
 refine ⟨rfl,?_⟩
 simp only at hm hxs hxb ht1 ht2 ht6
 subst hm
 have hev:a2.eval (.tmp 6)=.func (.func 172) #[] #[.pointer (some ⟨b,0,none⟩)]:=(hr2.slot 6 _ ht6).1
 refine Qc6 (QtW hev (fun args v=>QyY args v) fun fn w3 hrel=>?_)
 refine QzF c _ _ ⟨_,_,rfl⟩ fn (hr2.rely hrel) ht1 ht2 hxb ?_ ?_
 ·intro hok s' a' w' o3 hr hs
  refine pinned (QS:=fun e S'=>e=.ret∧∃ o3,S'.m=[.cells 23 (c.cells.map .ext),.cells 30 [.ext (.int .i64 0)],.obj (.deferred (some [])),o3]∧lk S'.t 2=some (.ptr 1 0)) hr ?_ ?_ ?_
  ·refine Qaa (by kernel_rfl) ?_
   simp only [WE,Nat.reduceLeDiff,segX,Nat.reduceBEq,Nat.reduceAdd,Nat.reduceEqDiff,Int.reduceNeg,Int.reduceEq,Int.reduceBEq,Int.reduceLT,Int.reduceLE,Int.reduceBNe,Int.reduceToNat,Nat.reduceMul,Nat.reduceMod,Int.reducePow,reduceIte,ty_3,Qai,Qaq,QaR,QcL,Qce,QfE,Qfv,ht2]
   exact ⟨o3,rfl⟩
  ·rintro e s4 ⟨t4,m4,x4⟩ a4 w4 hr4 hpin ⟨rfl,o4,hm4,ht4⟩
   simp only at hm4 ht4
   subst hm4
   have:=QoI hr4 ht4 ((hpin 2 (Nat.le_of_ble_eq_true rfl)).trans hs)
   rw [show (0:Int)=c.err by unfold Cf.err; rw [hok]; rfl] at this
   exact this
  ·rintro e S' ⟨_,o4,hm4,_⟩
   rw [hm4]; rfl
 ·intro hok s' a' w' o3 hr hs
  have:=QoI hr ht2 hs
  rw [show (210:Int)=c.err by unfold Cf.err; rw [hok]; rfl] at this
  exact this
end Go.Proofs.YtkokohkbhlnjkaaGreatDoor
#print axioms Go.Proofs.YtkokohkbhlnjkaaGreatDoor.c_guide_Check
namespace Go.Proofs.YtkokohkbhlnjkaaGreatDoor
set_option linter.unusedVariables false
set_option linter.unusedSimpArgs false
open Go Go.RowKit Go.Proofs.YtkokohkbhlnjkaaGreatDoor.R
set_option maxRecDepth 50000
set_option maxHeartbeats 1000000
structure CfIn (c:Cf):Prop where
 seg:1≤c.seg∧c.seg≤9000
 max:4≤c.max∧c.max≤1048576
 first:2≤c.first∧c.first≤c.max
 grain:1≤c.grain∧c.grain≤1000000
 least:1≤c.least∧c.least≤c.great
 great:1≤c.great∧c.great≤1099511627776
 burst:1≤c.burst∧c.burst≤1000
theorem Cf.at_iff (c:Cf) (i:Nat):c.at_ i=true↔c.lo i≤c.num i∧c.num i≤c.hi i:=by
 unfold Cf.at_
 by_cases h:c.num i < c.lo i
 ·simp [h]; omega
 ·simp [h]; omega
theorem Cf.ok_iff (c:Cf):c.ok=true↔CfIn c:=by
 constructor
 ·intro h
  have k:=fun i (hi:i < 7)=>(c.at_iff i).1 (List.all_eq_true.1 h i (List.mem_range.2 hi))
  exact ⟨k 0 (by decide),k 1 (by decide),k 2 (by decide),k 3 (by decide),k 4 (by decide),k 5 (by decide),k 6 (by decide)⟩
 ·rintro ⟨h0,h1,h2,h3,h4,h5,h6⟩
  refine List.all_eq_true.2 fun i hi=>(c.at_iff i).2 ?_
  have hi:=List.mem_range.1 hi
  have hc:i=0∨i=1∨i=2∨i=3∨i=4∨i=5∨i=6:=by omega
  rcases hc with rfl | rfl | rfl | rfl | rfl | rfl | rfl <;> assumption
instance (c:Cf):Decidable (CfIn c):=decidable_of_iff _ c.ok_iff
def cfFirst (c:Cf):Int:=if CfIn c then c.first * 65536 else 131072
theorem QlR {x:Nat→Obj→Prop} (c:Cf):PureC Tryz.prog x 51 [c.v] (.int .i64 (cfFirst c)):=by
 have hk:=c_guide_Check (x:=x) c
 unfold cfFirst
 cases ho:c.ok with
 | true=>
  have hin:=c.ok_iff.1 ho
  rw [if_pos hin]
  have he:c.err=0:=by unfold Cf.err; rw [ho]; rfl
  rw [he] at hk
  have h1:=hin.max
  have h2:=hin.first
  have hw:wr .i64 (c.first * 65536)=c.first * 65536:=Qag (by omega) (by omega)
  unfold Cf.v at hk ⊢
  refine Qab Tryz.func51 rfl rfl fun w=>?_
  refine Qaa (by kernel_rfl) ?_
  repeat' (first|((with_reducible show callW _ _ _ (some (50,_)) _ _);refine callP Qfd rfl (hk) ?_)|((fail_if_success (with_reducible refine stk ?_));simp only [WE,segX,Nat.reduceBEq,Int.reduceBNe,ty_3,Qai,Qa5,Qsb,hw]))
 | false=>
  rw [if_neg (fun h=>by rw [c.ok_iff.2 h] at ho; cases ho)]
  have he:c.err=210:=by unfold Cf.err; rw [ho]; rfl
  rw [he] at hk
  unfold Cf.v at hk ⊢
  refine Qab Tryz.func51 rfl rfl fun w=>?_
  refine Qaa (by kernel_rfl) ?_
  repeat' (first|((with_reducible show callW _ _ _ (some (50,_)) _ _);refine callP Qfd rfl (hk) ?_)|((fail_if_success (with_reducible refine stk ?_));simp only [WE,segX,Nat.reduceBEq,Int.reduceBNe,Qai,Qsb]))
def idleOf (window last now timeout:Int) (c:Cf):Int:=if sat (now - last)≤timeout then window else mx (mn window (cfFirst c)) 131072
theorem Qvo {x:Nat→Obj→Prop} (window last now timeout:Int) (c:Cf) (hl:in64 last) (hn:in64 now) :
  PureC Tryz.prog x 122 [.int .i64 window,.int .i64 last,.int .i64 now,.int .i64 timeout,c.v] (.int .i64 (idleOf window last now timeout c)):=by
 have hk:=QlR (x:=x) c
 unfold Cf.v at hk ⊢
 unfold idleOf
 by_cases h:sat (now - last)≤timeout
 ·rw [if_pos h]
  have hd:decide (sat (now - last)≤timeout)=true:=by simpa using h
  refine Qab Tryz.func122 rfl rfl fun w=>?_
  refine Qaa (by kernel_rfl) ?_
  repeat' (first|((with_reducible show callW _ _ _ (some (182,_)) _ _);refine callP Qex rfl (Qek _ _ hn hl) ?_)|((fail_if_success (with_reducible refine stk ?_));simp only [WE,Nat.reduceBEq,Nat.reduceAdd,QrT,hd]))
 ·rw [if_neg h]
  have hd:decide (sat (now - last)≤timeout)=false:=by simpa using h
  refine Qab Tryz.func122 rfl rfl fun w=>?_
  refine Qaa (by kernel_rfl) ?_
  repeat' (first|((with_reducible show callW _ _ _ (some (51,_)) _ _);refine callP Qop rfl (hk) ?_)|((with_reducible show callW _ _ _ (some (182,_)) _ _);refine callP Qex rfl (Qek _ _ hn hl) ?_)|((fail_if_success (with_reducible refine stk ?_));simp only [WE,segX,Nat.reduceBEq,Nat.reduceAdd,Qai,QrT,hd]))
theorem Qvp {x:Nat→Obj→Prop} (e:Ep) (last now:Int) (h:in64 e.start) (hl:in64 last) (hn:in64 now):PureC Tryz.prog x 123 [e.v,.int .i64 last,.int .i64 now] (epShift e (sat (now - last))).v:=by
 have hk:=Qu8 (x:=x) e (sat (now - last)) h (QeI _)
 unfold Ep.v at hk ⊢
 refine Qab Tryz.func123 rfl rfl fun w=>?_
 refine Qaa (by kernel_rfl) ?_
 repeat' (first|((with_reducible show callW _ _ _ (some (182,_)) _ _);refine callP Qex rfl (Qek _ _ hn hl) ?_)|((with_reducible show callW _ _ _ (some (183,_)) _ _);refine callP QyL rfl (hk) ?_)|((with_reducible show cW _ _ (.region 1 _ true) _ _);refine QbI 5 QAS (by kernel_rfl) Qaf (by kernel_rfl) ?_; intro l1 l2 e1 e2; simp only [List.take_succ_cons,List.take_zero,List.drop_succ_cons,List.drop_zero] at e1 e2; subst e1; subst e2)|((fail_if_success (with_reducible refine stk ?_));simp only [WE,segX,Nat.reduceBEq,Nat.reduceAdd,Nat.reduceEqDiff,QaH,Qcf,QCZ]))
 all_goals rfl
set_option maxHeartbeats 2000000
def isT (t:Int):Bool:=bif decide (0≤t) then decide (t≤1099511627776) else false
theorem QgS (t:Int):isT t=true↔0≤t∧t≤1099511627776:=by
 unfold isT
 by_cases h:0≤t
 ·simp [h]
 ·simp [h]
theorem QhU {x:Nat→Obj→Prop} (t:Int):PureC Tryz.prog x 108 [.int .i64 t] (.bool (isT t)):=by
 refine Qab Tryz.func108 rfl rfl fun w=>?_
 refine Qaa (by kernel_rfl) ?_
 repeat' (first|(with_reducible refine Qah (fun _=>?_) (fun _=>?_))|((fail_if_success (with_reducible refine stk ?_));simp only [WE,Nat.reduceBEq,QCS]))
 all_goals (simp only [isT, *,cond_true,cond_false])
def Mks (x:Nat→Obj→Prop) (a:Option Addr) (len:Nat) (f:Nat→Int×Int):Prop:=
 ∀ i,i < len→∃ b off c T fr,a=some ⟨b,off,none⟩∧x b (.cells c T fr)∧loadX true 2 (off+i * 2) c=some (.agg #[.int .i64 (f i).1,.int .i64 (f i).2])∧loadX false 1 (off+i * 2) c=some (.int .i64 (f i).1)∧loadX false 1 (off+i * 2+1) c=some (.int .i64 (f i).2)
theorem Mks.mono {x x':Nat→Obj→Prop} {a:Option Addr} {len:Nat} {f:Nat→Int×Int} (h:Mks x a len f) (hx:xsub x x'):Mks x' a len f:=fun i hi=>by
 obtain ⟨b,off,c,T,fr,h1,h2,h3⟩:=h i hi
 exact ⟨b,off,c,T,fr,h1,hx _ _ h2,h3⟩
def mkGood (f:Nat→Int×Int) (i:Nat):Bool:=bif isT (f i).1 then (bif decide (0 < i) then (bif decide ((f i).1 < (f (i - 1)).1) then false else !(decide ((f i).2≤(f (i - 1)).2))) else true) else false
def mkOk (f:Nat→Int×Int) (len:Nat):Bool:=(List.range len).all (mkGood f)
theorem QBy {f:Nat→Int×Int} {len:Nat} (h:∀ j,j < len→mkGood f j=true):mkOk f len=true:=List.all_eq_true.2 fun j hj=>h j (List.mem_range.1 hj)
theorem Qi7 {f:Nat→Int×Int} {len i:Nat} (hi:i < len) (h:mkGood f i=false):mkOk f len=false:=by
 cases hq:mkOk f len with
 | false=>rfl
 | true=>
  have:=List.all_eq_true.1 hq i (List.mem_range.2 hi)
  rw [h] at this; cases this
theorem QlS {x:Nat→Obj→Prop} {a:Option Addr} {len cap:Nat} {f:Nat→Int×Int} (hmax:len≤1152921504606846976) (hm:Mks x a len f):PureC Tryz.prog x 59 [.slice a len cap] (.bool (mkOk f len)):=by
 refine Qab Tryz.func59 rfl rfl fun w=>?_
 refine Qaa (by kernel_rfl) ?_
 repeat' (first|((fail_if_success (with_reducible refine stk ?_));simp only [WE,Nat.reduceBEq,Qbp]))
 refine Qa3 (α:=Nat) (fun i=>⟨[(7,.ext (.int .i64 i)),(6,.ext (.int .i64 len)),(5,.ext (.slice a len cap)),(0,.ext (.slice a len cap))],[],x⟩)
  (fun i=>i≤len∧∀ j,j < i→mkGood f j=true) (fun i=>len - i)
  ⟨0,Qae ⟨⟨rfl,rfl⟩,⟨rfl,rfl⟩,⟨rfl,rfl⟩,⟨rfl,rfl⟩,trivial⟩ trivial rfl,Nat.zero_le _,fun j hj=>absurd hj (Nat.not_lt_zero _)⟩ (by kernel_rfl) ?_
 rintro i ⟨hi,hall⟩
 try dsimp only at hi ⊢
 by_cases hlt:i < len
 ·have hd:decide ((i:Int) < (len:Int))=true:=by simp; exact hlt
  obtain ⟨b,off,c,T,fr,rfl,hx,h1,h2,h3⟩:=hm i hlt
  have ei:wr .i64 ((i:Int)+1)=((i+1:Nat):Int):=by rw [Qag (by omega) (by omega)]; rfl
  have et:((i:Int)).toNat=i:=Int.toNat_natCast i
  cases hA:isT (f i).1 with
  | false=>
   have hg:mkGood f i=false:=by simp only [mkGood,hA]; rfl
   have hno:=Qi7 hlt hg
   have hC:=QhU (x:=x) (f i).1
   rw [hA] at hC
   repeat' (first|(with_reducible refine Qam ⟨by omega,by omega⟩ ?_)|(with_reducible refine Qad hx h1 ?_)|((with_reducible show callW _ _ _ (some (108,_)) _ _);refine callP Qb7 rfl (hC) ?_)|((with_reducible show cW _ _ (.region 4 _ true) _ _);refine Qas Qfj (by kernel_rfl) Qaf (by kernel_rfl) ?_)|((fail_if_success (with_reducible refine stk ?_));simp only [WE,Nat.reduceBEq,Nat.reduceAdd,Nat.reduceEqDiff,ty_3,Qc2,Qby,Qbr,QfG,Qhj,hd,et,hno]))
  | true=>
   have hC:=QhU (x:=x) (f i).1
   rw [hA] at hC
   by_cases h0:0 < i
   ·have hz:decide (0 < (i:Int))=true:=by simp; exact h0
    have em:wr .i64 ((i:Int) - 1)=((i - 1:Nat):Int):=by rw [Qag (by omega) (by omega)]; omega
    have et1:(((i - 1:Nat):Int)).toNat=i - 1:=Int.toNat_natCast _
    obtain ⟨b',off',c',T',fr',he,hx',h1',h2',h3'⟩:=hm (i - 1) (by omega)
    cases he
    cases hB:decide ((f i).1 < (f (i - 1)).1) with
    | true=>
     have hg:mkGood f i=false:=by simp only [mkGood,hA,hB,decide_eq_true h0]; rfl
     have hno:=Qi7 hlt hg
     repeat' (first|(with_reducible refine Qam ⟨by omega,by omega⟩ ?_)|(with_reducible refine Qad hx h1 ?_)|(with_reducible refine Qad hx' h2' ?_)|((with_reducible show callW _ _ _ (some (108,_)) _ _);refine callP Qb7 rfl (hC) ?_)|((with_reducible show cW _ _ (.region 4 _ true) _ _);refine Qas Qfj (by kernel_rfl) Qaf (by kernel_rfl) ?_)|((fail_if_success (with_reducible refine stk ?_));simp only [WE,Nat.reduceBEq,Nat.reduceAdd,Nat.reduceEqDiff,ty_3,Qc2,Qby,Qbr,QfG,Qhj,hd,et,hno,hz,em,et1,hB]))
    | false=>
     cases hC2:decide ((f i).2≤(f (i - 1)).2) with
     | true=>
      have hg:mkGood f i=false:=by simp only [mkGood,hA,hB,hC2,decide_eq_true h0]; rfl
      have hno:=Qi7 hlt hg
      repeat' (first|(with_reducible refine Qam ⟨by omega,by omega⟩ ?_)|(with_reducible refine Qad hx h1 ?_)|(with_reducible refine Qad hx' h2' ?_)|(with_reducible refine Qad hx' h3' ?_)|((with_reducible show callW _ _ _ (some (108,_)) _ _);refine callP Qb7 rfl (hC) ?_)|((with_reducible show cW _ _ (.region 4 _ true) _ _);refine Qas Qfj (by kernel_rfl) Qaf (by kernel_rfl) ?_)|((fail_if_success (with_reducible refine stk ?_));simp only [WE,Nat.reduceBEq,Nat.reduceAdd,Nat.reduceEqDiff,ty_3,Qc2,Qby,Qgt,Qbr,QfG,Qhj,hd,et,hno,hz,em,et1,hB,hC2]))
     | false=>
      have hg:mkGood f i=true:=by simp only [mkGood,hA,hB,hC2,decide_eq_true h0]; rfl
      repeat' (first|(with_reducible refine Qam ⟨by omega,by omega⟩ ?_)|(with_reducible refine Qad hx h1 ?_)|(with_reducible refine Qad hx' h2' ?_)|(with_reducible refine Qad hx' h3' ?_)|((with_reducible show callW _ _ _ (some (108,_)) _ _);refine callP Qb7 rfl (hC) ?_)|((with_reducible show cW _ _ (.region 4 _ true) _ _);refine Qas Qfj (by kernel_rfl) Qaf (by kernel_rfl) ?_)|((fail_if_success (with_reducible refine stk ?_));simp only [WE,Nat.reduceBEq,Nat.reduceAdd,Nat.reduceEqDiff,ty_3,Qc2,Qby,Qgt,Qbr,QfG,hd,et,hz,em,et1,hB,hC2,ei]))
      refine ⟨i+1,Qae ⟨⟨rfl,rfl⟩,⟨rfl,rfl⟩,⟨rfl,rfl⟩,⟨rfl,rfl⟩,trivial⟩ trivial rfl,⟨by omega,fun j hj=>?_⟩,by omega⟩
      by_cases hji:j=i
      ·subst hji; exact hg
      ·exact hall j (by omega)
   ·have hz:decide (0 < (i:Int))=false:=by simp; omega
    have hg:mkGood f i=true:=by simp only [mkGood,hA,decide_eq_false h0]; rfl
    repeat' (first|(with_reducible refine Qam ⟨by omega,by omega⟩ ?_)|(with_reducible refine Qad hx h1 ?_)|((with_reducible show callW _ _ _ (some (108,_)) _ _);refine callP Qb7 rfl (hC) ?_)|((with_reducible show cW _ _ (.region 4 _ true) _ _);refine Qas Qfj (by kernel_rfl) Qaf (by kernel_rfl) ?_)|((fail_if_success (with_reducible refine stk ?_));simp only [WE,Nat.reduceBEq,Nat.reduceAdd,Nat.reduceEqDiff,ty_3,Qc2,Qby,Qbr,QfG,hd,et,hz,ei]))
    refine ⟨i+1,Qae ⟨⟨rfl,rfl⟩,⟨rfl,rfl⟩,⟨rfl,rfl⟩,⟨rfl,rfl⟩,trivial⟩ trivial rfl,⟨by omega,fun j hj=>?_⟩,by omega⟩
    by_cases hji:j=i
    ·subst hji; exact hg
    ·exact hall j (by omega)
 ·have hd:decide ((i:Int) < (len:Int))=false:=by simp; omega
  have hok:mkOk f len=true:=QBy fun j hj=>hall j (by omega)
  repeat' (first|((fail_if_success (with_reducible refine stk ?_));simp only [WE,Nat.reduceBEq,Qhj,hd,hok]))
def idxOf (p:Nat→Bool) (len:Nat):Int:=match (List.range len).find? p with | some i=>i | none=>-1
theorem QoQ {p:Nat→Bool} {len:Nat} (h:∀ j,j < len→p j=false):idxOf p len = -1:=by
 have:(List.range len).find? p=none:=List.find?_eq_none.2 fun j hj=>by rw [h j (List.mem_range.1 hj)]; decide
 unfold idxOf
 rw [this]
theorem Qnv {p:Nat→Bool}:∀ {len i:Nat},i < len→p i=true→(∀ j,j < i→p j=false)→(List.range len).find? p=some i
 | 0,i,hi,_,_=>absurd hi (Nat.not_lt_zero _)
 | len+1,i,hi,h1,h2=>by
  rw [List.range_succ,List.find?_append]
  by_cases hl:i < len
  ·rw [Qnv hl h1 h2]; rfl
  ·have:i=len:=by omega
   subst this
   have:(List.range i).find? p=none:=List.find?_eq_none.2 fun j hj=>by rw [h2 j (List.mem_range.1 hj)]; decide
   rw [this]
   simp [h1]
theorem QzQ {p:Nat→Bool} {len i:Nat} (hi:i < len) (h1:p i=true) (h2:∀ j,j < i→p j=false):idxOf p len=i:=by
 unfold idxOf
 rw [Qnv hi h1 h2]
theorem QsZ (v:Value) (l:List Value):toExts (.ext v :: l.map .ext)=some (v :: l):=by
 have:∀ l:List Value,toExts (l.map .ext)=some l:=fun l=>by
  induction l with
  | nil=>rfl
  | cons a l ih=>simp [toExts,ih]
 simp [toExts,this]
theorem Qh0 {x:Nat→Obj→Prop} {a:Option Addr} {len cap:Nat} {f:Nat→Int×Int} {g:FuncId} {caps:List Value} {p:Nat→Bool} (hmax:len≤1152921504606846976) (hm:Mks x a len f) (hg:goes Tryz.prog g)
  (hp:∀ i,i < len→PureC Tryz.prog x g (.agg #[.int .i64 (f i).1,.int .i64 (f i).2] :: caps) (.bool (p i))) :
  PureC Tryz.prog x 109 [.slice a len cap,.func (.func g) #[] caps.toArray] (.int .i64 (idxOf p len)):=by
 refine Qab Tryz.func109 rfl rfl fun w=>?_
 refine Qaa (by kernel_rfl) ?_
 repeat' (first|((fail_if_success (with_reducible refine stk ?_));simp only [WE,Nat.reduceBEq,Nat.reduceAdd,Qbp]))
 refine Qa3 (α:=Nat) (fun i=>⟨[(8,.ext (.int .i64 i)),(7,.ext (.int .i64 len)),(1,.ext (.func (.func g) #[] caps.toArray)),(0,.ext (.slice a len cap))],[],x⟩)
  (fun i=>i≤len∧∀ j,j < i→p j=false) (fun i=>len - i)
  ⟨0,Qae ⟨⟨rfl,rfl⟩,⟨rfl,rfl⟩,⟨rfl,rfl⟩,⟨rfl,rfl⟩,trivial⟩ trivial rfl,Nat.zero_le _,fun j hj=>absurd hj (Nat.not_lt_zero _)⟩ (by kernel_rfl) ?_
 rintro i ⟨hi,hall⟩
 try dsimp only at hi ⊢
 by_cases hlt:i < len
 ·have hd:decide ((i:Int) < (len:Int))=true:=by simp; exact hlt
  obtain ⟨b,off,c,T,fr,rfl,hx,h1,h2,h3⟩:=hm i hlt
  have ei:wr .i64 ((i:Int)+1)=((i+1:Nat):Int):=by rw [Qag (by omega) (by omega)]; rfl
  have et:((i:Int)).toNat=i:=Int.toNat_natCast i
  have hC:=hp i hlt
  cases hA:p i with
  | true=>
   have hno:=QzQ hlt hA hall
   rw [hA] at hC
   repeat' (first|(with_reducible refine Qam ⟨by omega,by omega⟩ ?_)|(with_reducible refine Qad hx h1 ?_)|(((with_reducible show callW _ _ _ (some (g,_)) _ _);refine callP hg (QsZ _ _) hC ?_))|((fail_if_success (with_reducible refine stk ?_));simp only [WE,Nat.reduceBEq,Qc2,Qbr,QrS,hd,et,hno]))
  | false=>
   rw [hA] at hC
   repeat' (first|(with_reducible refine Qam ⟨by omega,by omega⟩ ?_)|(with_reducible refine Qad hx h1 ?_)|(((with_reducible show callW _ _ _ (some (g,_)) _ _);refine callP hg (QsZ _ _) hC ?_))|((fail_if_success (with_reducible refine stk ?_));simp only [WE,Nat.reduceBEq,Qc2,Qbr,hd,et,ei]))
   refine ⟨i+1,Qae ⟨⟨rfl,rfl⟩,⟨rfl,rfl⟩,⟨rfl,rfl⟩,⟨rfl,rfl⟩,trivial⟩ trivial rfl,⟨by omega,fun j hj=>?_⟩,by omega⟩
   by_cases hji:j=i
   ·subst hji; exact hA
   ·exact hall j (by omega)
 ·have hd:decide ((i:Int) < (len:Int))=false:=by simp; omega
  have hok:=QoQ (p:=p) (len:=len) fun j hj=>hall j (by omega)
  repeat' (first|((fail_if_success (with_reducible refine stk ?_));simp only [WE,Nat.reduceBEq,Int.reduceNeg,QrS,hd,hok]))
set_option maxHeartbeats 1000000
def mkCells (f:Nat→Int×Int) (len:Nat):List Value:=(List.range len).flatMap fun i=>[.int .i64 (f i).1,.int .i64 (f i).2]
theorem Qi4 (f:Nat→Int×Int) (len:Nat):mkCells f (len+1)=mkCells f len ++ [.int .i64 (f len).1,.int .i64 (f len).2]:=by
 unfold mkCells
 rw [List.range_succ,List.flatMap_append]
 simp
theorem QcV (f:Nat→Int×Int):∀ len,(mkCells f len).length=len * 2
 | 0=>rfl
 | len+1=>by rw [Qi4,List.length_append,QcV f len]; simp; omega
theorem Qi3 (f:Nat→Int×Int):∀ {len i:Nat},i < len→(mkCells f len)[i * 2]? = some (.int .i64 (f i).1)∧(mkCells f len)[i * 2+1]? = some (.int .i64 (f i).2)
 | 0,i,hi=>absurd hi (Nat.not_lt_zero _)
 | len+1,i,hi=>by
  have hl:=QcV f len
  rw [Qi4]
  by_cases h:i < len
  ·obtain ⟨h1,h2⟩:=Qi3 f h
   rw [List.getElem?_append_left (by omega),List.getElem?_append_left (by omega)]
   exact ⟨h1,h2⟩
  ·have:i=len:=by omega
   subst this
   rw [List.getElem?_append_right (by omega),List.getElem?_append_right (by omega),hl]
   simp
theorem QBv {f:Nat→Int×Int} {len k:Nat} {u:Value} (h:(mkCells f len)[k]? = some u):∃ i,i < len∧(k=i * 2∧u=.int .i64 (f i).1∨k=i * 2+1∧u=.int .i64 (f i).2):=by
 have hk:k < len * 2:=by have:=(List.getElem?_eq_some_iff.1 h).1; rwa [QcV] at this
 have hi:k / 2 < len:=by omega
 obtain ⟨h1,h2⟩:=Qi3 f hi
 refine ⟨k / 2,hi,?_⟩
 rcases Nat.mod_two_eq_zero_or_one k with hm | hm
 ·have e:k / 2 * 2=k:=by omega
  rw [e,h] at h1
  exact .inl ⟨e.symm,by simpa using h1⟩
 ·have e:k / 2 * 2+1=k:=by omega
  rw [e,h] at h2
  exact .inr ⟨e.symm,by simpa using h2⟩
theorem QBw {f g:Nat→Int×Int} {len:Nat} (h:∀ i,i < len→f i=g i):mkCells f len=mkCells g len:=by
 unfold mkCells
 rw [List.flatMap_def,List.flatMap_def]
 congr 1
 exact List.map_congr_left fun i hi=>by rw [h i (List.mem_range.1 hi)]
theorem extract2 {c:Array Value} {o:Nat} {u v:Value} (h1:c[o]? = some u) (h2:c[o+1]? = some v):loadX true 2 o c=some (.agg #[u,v]):=by
 have hs:o+2≤c.size:=by have:=(Array.getElem?_eq_some_iff.1 h2).1; omega
 unfold loadX
 simp only [hs,if_true,Option.some.injEq,Value.agg.injEq]
 apply Array.ext'
 apply List.ext_getElem?
 intro j
 rw [Array.toList_extract,List.extract_eq_take_drop,List.getElem?_take,List.getElem?_drop]
 match j with
 | 0=>simpa using h1
 | 1=>simpa using h2
 | j+2=>simp; omega
theorem Qts {x:Nat→Obj→Prop} {a:Option Addr} {len:Nat} {f:Nat→Int×Int} (h:∀ i,i < len→∃ b off c T fr,a=some ⟨b,off,none⟩∧x b (.cells c T fr)∧c[off+i * 2]? = some (.int .i64 (f i).1)∧c[off+i * 2+1]? = some (.int .i64 (f i).2)):Mks x a len f:=fun i hi=>by
 obtain ⟨b,off,c,T,fr,h1,h2,h3,h4⟩:=h i hi
 exact ⟨b,off,c,T,fr,h1,h2,extract2 h3 h4,h3,h4⟩
theorem Qko {x:Nat→Obj→Prop} {b len:Nat} {f:Nat→Int×Int} {c:Array Value} {T:TypeId} {fr:Nat×Nat} (hx:x b (.cells c T fr)) (hc:c.toList.take (len * 2)=mkCells f len):Mks x (some ⟨b,0,none⟩) len f:=Qts fun i hi=>by
 obtain ⟨h1,h2⟩:=Qi3 f hi
 rw [←hc,List.getElem?_take_of_lt (by omega)] at h1
 rw [←hc,List.getElem?_take_of_lt (by omega)] at h2
 exact ⟨b,0,c,T,fr,rfl,hx,by simpa using h1,by simpa using h2⟩
theorem Mks.cell {x:Nat→Obj→Prop} {b off len:Nat} {f:Nat→Int×Int} (h:Mks x (some ⟨b,off,none⟩) len f):∀ k u,(mkCells f len)[k]? = some u→u.oneCell'=true∧∃ c T fr,x b (.cells c T fr)∧c[off+k]? = some u:=fun k u hk=>by
 obtain ⟨i,hi,hu⟩:=QBv hk
 obtain ⟨b',off',c,T,fr,he,hx,_,h2,h3⟩:=h i hi
 cases he
 rcases hu with ⟨rfl,rfl⟩ | ⟨rfl,rfl⟩
 ·exact ⟨rfl,c,T,fr,hx,h2⟩
 ·exact ⟨rfl,c,T,fr,hx,by rw [←Nat.add_assoc]; exact h3⟩
theorem Mks.take {x:Nat→Obj→Prop} {a:Option Addr} {len n:Nat} {f:Nat→Int×Int} (h:Mks x a len f) (hn:n≤len):Mks x a n f:=fun i hi=>h i (by omega)
theorem Mks.drop {x:Nat→Obj→Prop} {b off len n:Nat} {f:Nat→Int×Int} (h:Mks x (some ⟨b,off,none⟩) len f):Mks x (some ⟨b,off+n * 2,none⟩) (len - n) (fun i=>f (i+n)):=fun i hi=>by
 obtain ⟨b',off',c,T,fr,he,hx,h1,h2,h3⟩:=h (i+n) (by omega)
 cases he
 have e:off+(i+n) * 2=off+n * 2+i * 2:=by omega
 rw [e] at h1 h2 h3
 exact ⟨b,_,c,T,fr,rfl,hx,h1,h2,h3⟩
theorem QE6 {P:Program} (w:World) (d:Nat) (t E:TypeId) (a:Option Addr) (l c:Nat) (h:P.underlying t=some (.slice E)):(Op.equalIn (d+1) t (.slice a l c) (.slice none 0 0)).run P w=.ok a.isNone w∧∀ es,(Op.equalIn (d+1) t (.slice a l c) (.slice none 0 0)).events P w es=es:=by
 cases a <;> constructor <;> simp [Op.equalIn,run_underlying h]
theorem QhI {P:Program} {T E:TypeId} {x y:Operand} {a:Option Addr} {l c:Nat} {K:Value→Prop} (hT:P.underlying T=some (.slice E)):binW P .eql T x y (.slice a l c) (.slice none 0 0) K=K (.bool a.isNone):=by
 have h:pureW P (do eqGuard .eql T x y (.slice a l c) (.slice none 0 0); binOp .eql T (.slice a l c) (.slice none 0 0)) K=K (.bool a.isNone):=by
  refine QaD fun w=>?_
  have:=QE6 (P:=P) w 9999 T E a l c hT
  constructor <;> simp [eqGuard,binOp,Op.equal,Op.maxDepth,this.1,this.2]
 exact h
theorem QeT:appS Tryz.prog #[39,39]=some (93,[.int .i64 0,.int .i64 0],16):=by kernel_rfl
def RMk (len:Nat) (f:Nat→Int×Int) (v:Value) (x:Nat→Obj→Prop):Prop:=∃ a c,v=.slice a len c∧len≤c∧c≤maxLen∧(a=none→len=0)∧Mks x a len f
theorem Qtt {len cap:Nat} {f:Nat→Int×Int} {s:Nat→Nat} {m:List RO} {k:Nat} {T:TypeId} {row:List RV} (hk:m[k]? = some (.cells T row)) (hc:len≤cap∧cap≤maxLen) (hr:∃ r,row=(mkCells f len).map .ext ++ r) :
  RMk len f (.slice (some ⟨s k,0,none⟩) len cap) (xOwn m s):=by
 obtain ⟨r,rfl⟩:=hr
 refine ⟨_,_,rfl,hc.1,hc.2,(fun h=>by cases h),Qko (c:=(((mkCells f len).map RV.ext ++ r).map (ren s)).toArray) (T:=T) (fr:=(0,0)) ⟨k,_,hk,rfl,rfl⟩ ?_⟩
 simp only [List.map_append,Qax]
 exact List.take_left' (QcV f len)
theorem Qwl {x:Nat→Obj→Prop} {a:Option Addr} {len cap:Nat} {f:Nat→Int×Int} (hmax:len≤1000000) (hn:a=none→len=0) (hm:Mks x a len f) :
  RetE Tryz.prog x 118 [.slice a len cap] (RMk len f):=by
 refine QjA Tryz.func118 rfl rfl fun w=>?_
 refine Qaa (by kernel_rfl) ?_
 cases a with
 | none=>
  have h0:=hn rfl
  subst h0
  repeat' (first|(rw [QhI Tryz.underlying39])|((fail_if_success (with_reducible refine stk ?_));simp only [WE,Nat.reduceBEq,Option.isNone_none]))
  intro s
  exact ⟨none,0,rfl,Nat.le_refl _,Nat.zero_le _,fun _=>rfl,fun i hi=>absurd hi (Nat.not_lt_zero _)⟩
 | some ad=>
  by_cases h0:len=0
  ·subst h0
   repeat' (first|(rw [QhI Tryz.underlying39])|(with_reducible refine QfQ Tryz.underlying39 (by kernel_rfl) ?_)|(with_reducible refine QhD QeT (Nat.le_refl _) ?_)|((fail_if_success (with_reducible refine stk ?_));simp only [WE,Nat.reduceBEq,Option.isNone_some]))
   intro s
   exact ⟨_,0,rfl,Nat.le_refl _,Nat.zero_le _,(fun h=>by cases h),fun i hi=>absurd hi (Nat.not_lt_zero _)⟩
  ·obtain ⟨b,off,c,T,fr,he,_⟩:=hm 0 (by omega)
   cases he
   have hl:=QcV f len
   repeat' (first|(rw [QhI Tryz.underlying39])|(with_reducible refine QfQ Tryz.underlying39 (by kernel_rfl) ?_)|((fail_if_success (with_reducible refine stk ?_));simp only [WE,Nat.reduceBEq,Option.isNone_some]))
   refine Qkw (l:=mkCells f len) QeT ⟨by simp only [maxLen]; omega,by omega⟩ hl hm.cell (by with_unfolding_all exact rfl) (by simp) (by omega) ?_
   intro cap' hc1 hc2
   repeat' (first|((fail_if_success (with_reducible refine stk ?_));simp only [WE,Nat.reduceAdd,Nat.reduceMul]))
   intro s
   simp only [Nat.zero_add] at hc1 ⊢
   exact Qtt (k:=1) rfl ⟨hc1,hc2⟩ ⟨_,by simp; rfl⟩
theorem QvS {x:Nat→Obj→Prop} {a a':Option Addr} {len cap cap':Nat} {f:Nat→Int×Int} (hmax:len≤1152921504606846976) (hm:Mks x a len f) (hm':Mks x a' len f):PureC Tryz.prog x 53 [.slice a len cap,.slice a' len cap'] (.bool true):=by
 refine Qab Tryz.func53 rfl rfl fun w=>?_
 refine Qaa (by kernel_rfl) ?_
 repeat' (first|((fail_if_success (with_reducible refine stk ?_));simp only [WE,Nat.reduceBEq,Nat.reduceAdd,Qbp,bne_self_eq_false]))
 refine Qa3 (α:=Nat) (fun i=>⟨[(5,.ext (.int .i64 i)),(1,.ext (.slice a' len cap')),(0,.ext (.slice a len cap))],[],x⟩)
  (fun i=>i≤len) (fun i=>len - i)
  ⟨0,Qae ⟨⟨rfl,rfl⟩,⟨rfl,rfl⟩,⟨rfl,rfl⟩,trivial⟩ trivial rfl,Nat.zero_le _⟩ (by kernel_rfl) ?_
 intro i hi
 try dsimp only at hi ⊢
 by_cases hlt:i < len
 ·have hd:decide ((i:Int) < (len:Int))=true:=by simp; exact hlt
  obtain ⟨b,off,c,T,fr,rfl,hx,h1,h2,h3⟩:=hm i hlt
  obtain ⟨b',off',c',T',fr',rfl,hx',h1',h2',h3'⟩:=hm' i hlt
  have ei:wr .i64 ((i:Int)+1)=((i+1:Nat):Int):=by rw [Qag (by omega) (by omega)]; rfl
  have et:((i:Int)).toNat=i:=Int.toNat_natCast i
  repeat' (first|(with_reducible refine Qam ⟨by omega,by omega⟩ ?_)|(with_reducible refine Qad hx h1 ?_)|(with_reducible refine Qad hx' h1' ?_)|((with_reducible show cW _ _ (.region 6 _ true) _ _);refine Qas QBl (by kernel_rfl) Qaf (by kernel_rfl) ?_)|((fail_if_success (with_reducible refine stk ?_));simp only [WE,Nat.reduceBEq,Qc2,Qbr,Qx3,Qbp,hd,et,ei]))
  refine ⟨i+1,Qae ⟨⟨rfl,rfl⟩,⟨rfl,rfl⟩,⟨rfl,rfl⟩,trivial⟩ trivial rfl,by omega,by omega⟩
 ·have hd:decide ((i:Int) < (len:Int))=false:=by simp; omega
  repeat' (first|((fail_if_success (with_reducible refine stk ?_));simp only [WE,Nat.reduceBEq,Qbp,QEA,hd]))
theorem QBs (z:Array Value) (n:Nat):((madeCells z n).toList.map RV.ext).length=n:=by simp [madeCells]
def ROwn (len:Nat) (f:Nat→Int×Int) (v:Value) (x:Nat→Obj→Prop):Prop:=∃ b,v=.slice (some ⟨b,0,none⟩) len len∧Mks x (some ⟨b,0,none⟩) len f
theorem ROwn.mk {len:Nat} {f:Nat→Int×Int} {v:Value} {x:Nat→Obj→Prop} (h:ROwn len f v x) (hl:len≤maxLen):RMk len f v x:=by
 obtain ⟨b,rfl,hm⟩:=h
 exact ⟨_,_,rfl,Nat.le_refl _,hl,(fun h=>by cases h),hm⟩
theorem Qht {len:Nat} {f:Nat→Int×Int} {s:Nat→Nat} {m:List RO} {k:Nat} {T:TypeId} {row:List RV} {x:Nat→Obj→Prop} (hx:xsub (xOwn m s) x) (hk:m[k]? = some (.cells T row)) (hr:∃ r,row=(mkCells f len).map .ext ++ r):Mks x (some ⟨s k,0,none⟩) len f:=by
 obtain ⟨r,rfl⟩:=hr
 refine Qko (c:=(((mkCells f len).map RV.ext ++ r).map (ren s)).toArray) (T:=T) (fr:=(0,0)) (hx _ _ ⟨k,_,hk,rfl,rfl⟩) ?_
 simp only [List.map_append,Qax]
 exact List.take_left' (QcV f len)
theorem Qtu {len:Nat} {f:Nat→Int×Int} {s:Nat→Nat} {m:List RO} {k:Nat} {T:TypeId} {row:List RV} (hk:m[k]? = some (.cells T row)) (hr:∃ r,row=(mkCells f len).map .ext ++ r):ROwn len f (.slice (some ⟨s k,0,none⟩) len len) (xOwn m s):=
 ⟨_,rfl,Qht (fun _ _ h=>h) hk hr⟩
theorem Qe1 {x:Nat→Obj→Prop} {a:Option Addr} {len cap:Nat} {f:Nat→Int×Int} (hmax:len≤1000000) (hn:a=none→len=0) (hm:Mks x a len f) :
  RetE Tryz.prog x 239 [.slice a len cap] (ROwn len f):=by
 refine QjA Tryz.func239 rfl rfl fun w=>?_
 refine Qaa (by kernel_rfl) ?_
 repeat' (first|((fail_if_success (with_reducible refine stk ?_));simp only [WE,Nat.reduceBEq,Qbp]))
 refine QCN (z:=.agg #[.int .i64 0,.int .i64 0]) (n:=2) (b:=16) Tryz.underlying39 (by kernel_rfl) (by omega) (Int.le_refl _) (by omega) (by omega) (by omega) ?_
 have hrl:=QBs (Value.cells (.agg #[.int .i64 0,.int .i64 0])) (((len:Int)).toNat * 2)
 generalize hrow:List.map RV.ext (madeCells (Value.cells (.agg #[.int .i64 0,.int .i64 0])) (((len:Int)).toNat * 2)).toList=row at *
 simp only [Int.toNat_natCast] at hrl ⊢
 by_cases h0:len=0
 ·subst h0
  repeat' (first|(with_reducible refine QwE QeT ?_)|((fail_if_success (with_reducible refine stk ?_));simp only [WE,Nat.reduceBEq]))
  intro s
  exact ⟨_,rfl,fun i hi=>absurd hi (Nat.not_lt_zero _)⟩
 ·obtain ⟨b,off,c,T,fr,he,_⟩:=hm 0 (by omega)
  cases he
  have hl:=QcV f len
  repeat' (first|((fail_if_success (with_reducible refine stk ?_));simp only [WE,Nat.reduceBEq]))
  refine QwC (l:=mkCells f len) QeT hl hm.cell (by with_unfolding_all exact rfl) hrl ?_
  repeat' (first|((fail_if_success (with_reducible refine stk ?_));simp only [WE,Nat.reduceBEq]))
  intro s
  exact Qtu (k:=0) rfl ⟨[],by simp⟩
theorem QvA {x:Nat→Obj→Prop} {t n v:Int} {b:Nat} {T:TypeId} {fr:Nat×Nat} (hx:x b (.cells #[.int .i64 v] T fr)) :
  PureC Tryz.prog x 240 [.agg #[.int .i64 t,.int .i64 n],.pointer (some ⟨b,0,none⟩)] (.bool (decide (v≤n))):=by
 have h1:loadX false 1 0 #[.int .i64 v]=some (.int .i64 v):=rfl
 refine Qab Tryz.func240 rfl rfl fun w=>?_
 refine Qaa (by kernel_rfl) ?_
 repeat' (first|(with_reducible refine Qad hx h1 ?_)|((fail_if_success (with_reducible refine stk ?_));simp only [WE,Nat.reduceBEq,Nat.reduceAdd,ty_3,Qgt,QD1]))
theorem QvB {x:Nat→Obj→Prop} {t n at_ win:Int} {b1 b2:Nat} {T1 T2:TypeId} {f1 f2:Nat×Nat} (h1:x b1 (.cells #[.int .i64 at_] T1 f1)) (h2:x b2 (.cells #[.int .i64 win] T2 f2)) (hw:in64 (at_ - win)) :
  PureC Tryz.prog x 241 [.agg #[.int .i64 t,.int .i64 n],.pointer (some ⟨b1,0,none⟩),.pointer (some ⟨b2,0,none⟩)] (.bool (decide (at_ - win≤t))):=by
 have l1:loadX false 1 0 #[.int .i64 at_]=some (.int .i64 at_):=rfl
 have l2:loadX false 1 0 #[.int .i64 win]=some (.int .i64 win):=rfl
 have e:wr .i64 (at_ - win)=at_ - win:=by unfold in64 at hw; exact Qag (by omega) (by omega)
 refine Qab Tryz.func241 rfl rfl fun w=>?_
 refine Qaa (by kernel_rfl) ?_
 repeat' (first|(with_reducible refine Qad h1 l1 ?_)|(with_reducible refine Qad h2 l2 ?_)|((fail_if_success (with_reducible refine stk ?_));simp only [WE,Nat.reduceBEq,Nat.reduceAdd,ty_3,Qby,QD2,e]))
theorem Qwm {x:Nat→Obj→Prop} {a:Option Addr} {len cap:Nat} {f:Nat→Int×Int} {g:FuncId} {caps:List Value} {p:Nat→Bool} (hmax:len≤1152921504606846976) (hm:Mks x a len f) (hg:goes Tryz.prog g)
  (hp:∀ i,i < len→PureC Tryz.prog x g (.agg #[.int .i64 (f i).1,.int .i64 (f i).2] :: caps) (.bool (p i))) :
  PureC Tryz.prog x 60 [.slice a len cap,.func (.func g) #[] caps.toArray] (.bool (decide (0≤idxOf p len))):=by
 have hC:=Qh0 (cap:=cap) hmax hm hg hp
 refine Qab Tryz.func60 rfl rfl fun w=>?_
 refine Qaa (by kernel_rfl) ?_
 repeat' (first|(((with_reducible show callW _ _ _ (some (109,_)) _ _);refine callP QiO rfl hC ?_))|((fail_if_success (with_reducible refine stk ?_));simp only [WE,Nat.reduceBEq,Nat.reduceAdd,QEG]))
def putK (f:Nat→Int×Int) (len:Nat) (n:Int):Nat:=match (List.range len).find? (fun i=>decide (n≤(f i).2)) with | some k=>k | none=>len
def putG (f:Nat→Int×Int) (k:Nat) (t n:Int) (i:Nat):Int×Int:=if i < k then f i else (t,n)
def putF (f:Nat→Int×Int) (len:Nat) (win t n:Int):Nat:=((List.range (putK f len n+1)).find? fun i=>decide (t - win≤(putG f (putK f len n) t n i).1)).getD 0
def putErr (f:Nat→Int×Int) (len:Nat) (win t:Int):Int:=
 if mkOk f len=false∨isT t=false∨win < 0 then 51 else if 0 < len∧t < (f (len - 1)).1 then 50 else 0
def putLen (f:Nat→Int×Int) (len:Nat) (win t n:Int):Nat:=if putErr f len win t=0 then putK f len n+1 - putF f len win t n else len
def putFn (f:Nat→Int×Int) (len:Nat) (win t n:Int):Nat→Int×Int:=if putErr f len win t=0 then fun i=>putG f (putK f len n) t n (i+putF f len win t n) else f
def PutR (f:Nat→Int×Int) (len:Nat) (win t n:Int) (v:Value) (x:Nat→Obj→Prop):Prop:=
 ∃ u,v=.tuple #[u,.int .i64 (putErr f len win t)]∧RMk (putLen f len win t n) (putFn f len win t n) u x
theorem QeF (f:Nat→Int×Int) (len:Nat) (n:Int):putK f len n≤len:=by
 unfold putK
 split
 ·rename_i k hk
  have:=List.mem_of_find?_eq_some hk
  have:=List.mem_range.1 this
  omega
 ·exact Nat.le_refl _
theorem QCj (f:Nat→Int×Int) (len:Nat) (n:Int):idxOf (fun i=>decide (n≤(f i).2)) len=if putK f len n=len then -1 else (putK f len n:Int):=by
 unfold putK idxOf
 cases hk:(List.range len).find? (fun i=>decide (n≤(f i).2)) with
 | none=>simp
 | some k=>
  have:=List.mem_range.1 (List.mem_of_find?_eq_some hk)
  simp only
  rw [if_neg (by omega)]
theorem Qjq (f:Nat→Int×Int) (len:Nat) (win t n:Int):putF f len win t n≤putK f len n:=by
 unfold putF
 cases h:(List.range (putK f len n+1)).find? fun i=>decide (t - win≤(putG f (putK f len n) t n i).1) with
 | none=>simp
 | some k=>
  have:=List.mem_range.1 (List.mem_of_find?_eq_some h)
  simp only [Option.getD_some]; omega
def evSome (b:Int):Bool:=decide (1≤b) && decide (b≤1073741824)
def evFull (b r:Int):Bool:=evSome b && (decide (0≤r) && decide (r≤1073741824))
def evBytes (b r:Int):Bool:=evSome b && (r == 0)
def evBare (b r:Int):Bool:=(b == 0) && (r == 0)
def evRight (k b r:Int):Bool:=if k=1 then evFull b r else if k=2∨k=6 then evBytes b r else evBare b r
def evCheck (k t b r:Int):Int:=if 1≤k∧k≤7 then (bif !clkCheck t then 51 else bif !evRight k b r then 201 else 0) else 200
theorem QlM {x:Nat→Obj→Prop} (k t b r:Int):PureC Tryz.prog x 230 [.agg #[.int .i64 k,.int .i64 t,.int .i64 b,.int .i64 r]] (.bool (evSome b)):=by
 refine Qab Tryz.func230 rfl rfl fun w=>?_
 refine Qaa (by kernel_rfl) ?_
 repeat' (first|(with_reducible refine Qah (fun _=>?_) (fun _=>?_))|((fail_if_success (with_reducible refine stk ?_));simp only [WE,Nat.reduceBEq,ty_3,QnN,QDR]))
 all_goals (simp only [evSome, *,Bool.true_and,Bool.false_and]; try rfl)
theorem Qvc {x:Nat→Obj→Prop} (k t b r:Int):PureC Tryz.prog x 176 [.agg #[.int .i64 k,.int .i64 t,.int .i64 b,.int .i64 r]] (.bool (evFull b r)):=by
 refine Qab Tryz.func176 rfl rfl fun w=>?_
 refine Qaa (by kernel_rfl) ?_
 repeat' (first|(with_reducible refine Qah (fun _=>?_) (fun _=>?_))|((with_reducible show callW _ _ _ (some (230,_)) _ _);refine callP Qoj rfl (QlM ..) ?_)|((fail_if_success (with_reducible refine stk ?_));simp only [WE,segX,Nat.reduceBEq,ty_3,Qs1,Qit,QDn]))
 all_goals (simp only [evFull, *,Bool.true_and,Bool.false_and,Bool.and_false]; try rfl)
theorem Qvb {x:Nat→Obj→Prop} (k t b r:Int):PureC Tryz.prog x 177 [.agg #[.int .i64 k,.int .i64 t,.int .i64 b,.int .i64 r]] (.bool (evBytes b r)):=by
 refine Qab Tryz.func177 rfl rfl fun w=>?_
 refine Qaa (by kernel_rfl) ?_
 repeat' (first|(with_reducible refine Qah (fun _=>?_) (fun _=>?_))|((with_reducible show callW _ _ _ (some (230,_)) _ _);refine callP Qoj rfl (QlM ..) ?_)|((fail_if_success (with_reducible refine stk ?_));simp only [WE,segX,Nat.reduceBEq,ty_3,Qs1,Qit,QDo]))
 all_goals (simp only [evBytes, *,Bool.true_and,Bool.false_and,Bool.and_false]; try rfl)
theorem Qva {x:Nat→Obj→Prop} (k t b r:Int):PureC Tryz.prog x 178 [.agg #[.int .i64 k,.int .i64 t,.int .i64 b,.int .i64 r]] (.bool (evBare b r)):=by
 refine Qab Tryz.func178 rfl rfl fun w=>?_
 refine Qaa (by kernel_rfl) ?_
 repeat' (first|(with_reducible refine Qah (fun _=>?_) (fun _=>?_))|((fail_if_success (with_reducible refine stk ?_));simp only [WE,Nat.reduceBEq,ty_3,QnN,Qit,QDp]))
 all_goals (simp only [evBare, *,Bool.true_and,Bool.false_and,Bool.and_false]; try rfl)
def evKinds:Array MapEntry:=#[⟨.int .i64 1,.func (.func 176) #[] #[],0⟩,⟨.int .i64 2,.func (.func 177) #[] #[],1⟩,⟨.int .i64 6,.func (.func 177) #[] #[],2⟩,⟨.int .i64 3,.func (.func 178) #[] #[],3⟩,
 ⟨.int .i64 4,.func (.func 178) #[] #[],4⟩,⟨.int .i64 5,.func (.func 178) #[] #[],5⟩,⟨.int .i64 7,.func (.func 178) #[] #[],6⟩]
theorem Qu9 {x:Nat→Obj→Prop}:RetC Tryz.prog x 117 [] (.mp 0) [.obj (.map evKinds 7)]:=by
 refine QrP Tryz.func117 rfl rfl rfl fun w=>?_
 refine Qaa (by kernel_rfl) ?_
 repeat' (first|(with_reducible refine Qj4 Tryz.underlying148 Tryz.underlying3 (by with_unfolding_all exact rfl) (by with_unfolding_all exact rfl) ?_)|((fail_if_success (with_reducible refine stk ?_));simp only [WE,Nat.reduceAdd,Qjp]))
 exact ⟨(rfl:[RV.mp 0]=[RV.mp 0]),Qao _⟩
theorem Qnl {S:St} {b:Nat} {o:Obj} {K:Obj→Prop} (h:S.x b o) (hK:K o):extM S b K:=⟨o,h,hK⟩
theorem QAy {P:Program} {T kt et:TypeId} {kd k:IntKind} {z:Int} {es:Array MapEntry} {n i:Nat} {v:Value} {K:Value→Prop} (ht:P.underlying T=some (.map kt et)) (hk:P.underlying kt=some (.int kd))
  (hf:Instr.findNow (.int kd) (.int k z) es.toList 0=some (some (i,v))) (hkd:MapKept.IsKey (.int kd) (.int k z)) (h:K (.tuple #[v,.bool true])):lookW P T (.int k z) true (.map es n) K:=Qpt ht hk hf hkd h
theorem QAA {P:Program} {T kt et:TypeId} {kd k:IntKind} {z:Int} {es:Array MapEntry} {n:Nat} {v:Value} {K:Value→Prop} (ht:P.underlying T=some (.map kt et)) (hk:P.underlying kt=some (.int kd))
  (hz:(P.info? et).bind (·.zero)=some v) (hf:Instr.findNow (.int kd) (.int k z) es.toList 0=some none) (hkd:MapKept.IsKey (.int kd) (.int k z)) (h:K (.tuple #[v,.bool false])):lookW P T (.int k z) true (.map es n) K:=QAz ht hk hz hf hkd h
theorem QxM {k:Int} (h:¬ (1≤k∧k≤7)):Instr.findNow (.int .i64) (.int .i64 k) evKinds.toList 0=some none:=by
 unfold evKinds
 simp only [QxV,QxW]
 rw [if_neg (by omega),if_neg (by omega),if_neg (by omega),if_neg (by omega),if_neg (by omega),if_neg (by omega),if_neg (by omega)]
theorem QhQ {x:Nat→Obj→Prop} (k t b r:Int):PureC Tryz.prog x 67 [.agg #[.int .i64 k,.int .i64 t,.int .i64 b,.int .i64 r]] (.int .i64 (evCheck k t b r)):=by
 refine Qab Tryz.func67 rfl rfl fun w=>?_
 refine Qaa (by kernel_rfl) ?_
 repeat' (first|((with_reducible show cW _ _ (.region 1 _ true) _ _);refine QeX QAv (by kernel_rfl) Qaf (by kernel_rfl) ?_)|((fail_if_success (with_reducible refine stk ?_));simp only [WE,Nat.reduceBEq,ty_3,Qdl]))
 refine callR QyM rfl Qu9 ?_
 intro s x' hx hm
 have hk:x' (s 0) (.map evKinds 7):=hm 0 _ rfl
 have hs:xsub x x'=True:=propext ⟨fun _=>trivial,fun _=>hx⟩
 clear hx hm
 dsimp only [ren]
 by_cases h:1≤k∧k≤7
 ·have hh:k=1∨k=2∨k=3∨k=4∨k=5∨k=6∨k=7:=by omega
  have e0:evCheck k t b r=(bif !clkCheck t then 51 else bif !evRight k b r then 201 else 0):=if_pos h
  rw [e0]
  clear e0 h
  have er1:∀ b r,evRight 1 b r=evFull b r:=fun _ _=>rfl
  have er2:∀ b r,evRight 2 b r=evBytes b r:=fun _ _=>rfl
  have er6:∀ b r,evRight 6 b r=evBytes b r:=fun _ _=>rfl
  have er3:∀ b r,evRight 3 b r=evBare b r:=fun _ _=>rfl
  have er4:∀ b r,evRight 4 b r=evBare b r:=fun _ _=>rfl
  have er5:∀ b r,evRight 5 b r=evBare b r:=fun _ _=>rfl
  have er7:∀ b r,evRight 7 b r=evBare b r:=fun _ _=>rfl
  rcases hh with rfl | rfl | rfl | rfl | rfl | rfl | rfl
  all_goals (simp only [er1,er2,er3,er4,er5,er6,er7])
  repeat' (first|(with_reducible refine Qnl hk ?_)|(with_reducible refine QAy Tryz.underlying148 Tryz.underlying3 (by with_unfolding_all exact rfl) (by with_unfolding_all exact rfl) ?_)|(((with_reducible show callW _ _ _ (some (176,_)) _ _);refine callP QyP rfl (Qvc ..) ?_))|(((with_reducible show callW _ _ _ (some (177,_)) _ _);refine callP QyO rfl (Qvb ..) ?_))|(((with_reducible show callW _ _ _ (some (178,_)) _ _);refine callP QyN rfl (Qva ..) ?_))|(with_reducible refine Qah (fun _=>?_) (fun _=>?_))|((with_reducible show callW _ _ _ (some (56,_)) _ _);refine callP Qgw rfl (QfW ..) ?_)|((fail_if_success (with_reducible refine stk ?_));simp only [WE,segX,Nat.reduceBEq,ty_3,QaU,Qbi,Qsd,hs]))
  all_goals (rename_i e1; clear er1 er2 er3 er4 er5 er6 er7 hs)
  all_goals (first | (simp only [e1,cond_true]; done) | (rename_i e2 _; simp only [e1,e2,cond_true,cond_false]) | (rename_i e2; simp only [e1,e2,cond_true,cond_false]))
 ·have e0:evCheck k t b r=200:=if_neg h
  have hf:=QxM h
  repeat' (first|(with_reducible refine Qnl hk ?_)|(with_reducible refine QAA (v:=.nilFunc) Tryz.underlying148 Tryz.underlying3 (by kernel_rfl) hf (by with_unfolding_all exact rfl) ?_)|((fail_if_success (with_reducible refine stk ?_));simp only [WE,Nat.reduceBEq,Qsd,hs]))
  rw [e0]
structure Ev where
 kind:Int
 time:Int
 bytes:Int
 rtt:Int
def evDec (len:Nat) (zs:Nat→Int):Ev×Int:=if len=4 then (if evCheck (zs 0) (zs 1) (zs 2) (zs 3)=0 then (⟨zs 0,zs 1,zs 2,zs 3⟩,0) else (⟨0,0,0,0⟩,evCheck (zs 0) (zs 1) (zs 2) (zs 3))) else (⟨0,0,0,0⟩,201)
def Ints (x:Nat→Obj→Prop) (a:Option Addr) (len:Nat) (zs:Nat→Int):Prop:=
 ∀ i,i < len→(Lit.int .i64 (zs i)).wf=true∧∃ b off c T f,a=some ⟨b,off,none⟩∧x b (.cells c T f)∧loadX false 1 (off+(i:Int).toNat * 1) c=some (.int .i64 (zs i))
theorem QlL {x:Nat→Obj→Prop} {a:Option Addr} {len cap:Nat} {zs:Nat→Int} (hz:Ints x a len zs):PureC Tryz.prog x 28 [.slice a len cap]
  (.tuple #[.agg #[.int .i64 (evDec len zs).1.kind,.int .i64 (evDec len zs).1.time,.int .i64 (evDec len zs).1.bytes,.int .i64 (evDec len zs).1.rtt],.int .i64 (evDec len zs).2]):=by
 refine Qab Tryz.func28 rfl rfl fun w=>?_
 refine Qaa (by kernel_rfl) ?_
 by_cases h4:len=4
 ·subst h4
  obtain ⟨_,b,off,c0,T0,f0,rfl,hx0,hc0⟩:=hz 0 (by decide)
  obtain ⟨_,b1,off1,c1,T1,f1,e1,hx1,hc1⟩:=hz 1 (by decide)
  obtain ⟨_,b2,off2,c2,T2,f2,e2,hx2,hc2⟩:=hz 2 (by decide)
  obtain ⟨_,b3,off3,c3,T3,f3,e3,hx3,hc3⟩:=hz 3 (by decide)
  simp only [Option.some.injEq,Addr.mk.injEq,and_true] at e1 e2 e3
  obtain ⟨rfl,rfl⟩:=e1
  obtain ⟨rfl,rfl⟩:=e2
  obtain ⟨rfl,rfl⟩:=e3
  have hc0:loadX false 1 off c0=some (.int .i64 (zs 0)):=hc0
  have hc1:loadX false 1 (off+1) c1=some (.int .i64 (zs 1)):=hc1
  have hc2:loadX false 1 (off+2) c2=some (.int .i64 (zs 2)):=hc2
  have hc3:loadX false 1 (off+3) c3=some (.int .i64 (zs 3)):=hc3
  have d4:(((4:Nat):Int) != 4)=false:=rfl
  have e0:evDec 4 zs=(if evCheck (zs 0) (zs 1) (zs 2) (zs 3)=0 then (⟨zs 0,zs 1,zs 2,zs 3⟩,0) else (⟨0,0,0,0⟩,evCheck (zs 0) (zs 1) (zs 2) (zs 3))):=if_pos rfl
  rw [e0]
  by_cases hc:evCheck (zs 0) (zs 1) (zs 2) (zs 3)=0
  ·have d5:(evCheck (zs 0) (zs 1) (zs 2) (zs 3) != 0)=false:=by rw [hc]; rfl
   rw [if_pos hc]
   repeat' (first|(with_reducible refine Qam ⟨by omega,by omega⟩ ?_)|(with_reducible refine Qad hx0 hc0 ?_)|(with_reducible refine Qad hx1 hc1 ?_)|(with_reducible refine Qad hx2 hc2 ?_)|(with_reducible refine Qad hx3 hc3 ?_)|((with_reducible show callW _ _ _ (some (67,_)) _ _);refine callP QgD rfl (QhQ ..) ?_)|((with_reducible show cW _ _ (.region 3 _ true) _ _);refine QfS 13 QpE (by kernel_rfl) Qaf (by kernel_rfl) ?_; intro l1 l2 e1 e2; simp only [List.take_succ_cons,List.take_zero,List.drop_succ_cons,List.drop_zero] at e1 e2; subst e1; subst e2)|((fail_if_success (with_reducible refine stk ?_));simp only [WE,Nat.reduceLeDiff,segX,Nat.reduceBEq,Nat.reduceAdd,Nat.reduceEqDiff,Int.reduceToNat,Nat.reduceMul,ty_3,QaU,Qbd,QeN,Qee,QbH,QjI,d4,d5]))
  ·have d5:(evCheck (zs 0) (zs 1) (zs 2) (zs 3) != 0)=true:=bne_iff_ne.2 hc
   rw [if_neg hc]
   repeat' (first|(with_reducible refine Qam ⟨by omega,by omega⟩ ?_)|(with_reducible refine Qad hx0 hc0 ?_)|(with_reducible refine Qad hx1 hc1 ?_)|(with_reducible refine Qad hx2 hc2 ?_)|(with_reducible refine Qad hx3 hc3 ?_)|((with_reducible show callW _ _ _ (some (67,_)) _ _);refine callP QgD rfl (QhQ ..) ?_)|((with_reducible show cW _ _ (.region 3 _ true) _ _);refine QfS 13 QpE (by kernel_rfl) Qaf (by kernel_rfl) ?_; intro l1 l2 e1 e2; simp only [List.take_succ_cons,List.take_zero,List.drop_succ_cons,List.drop_zero] at e1 e2; subst e1; subst e2)|((fail_if_success (with_reducible refine stk ?_));simp only [WE,Nat.reduceLeDiff,segX,Nat.reduceBEq,Nat.reduceAdd,Nat.reduceEqDiff,Int.reduceToNat,Nat.reduceMul,ty_3,QaU,Qbd,QeN,Qee,QbH,QjI,d4,d5]))
 ·have e0:evDec len zs=(⟨0,0,0,0⟩,201):=if_neg h4
  have d4:((len:Int) != 4)=true:=by simp; omega
  rw [e0]
  repeat' (first|((fail_if_success (with_reducible refine stk ?_));simp only [WE,segX,Nat.reduceBEq,Nat.reduceAdd,Nat.reduceEqDiff,QaU,QeN,Qee,QbH,QjI,d4]))
set_option maxHeartbeats 400000
structure Cfg where
 seg:Int
 most:Int
 first:Int
 grain:Int
 least:Int
 great:Int
 burst:Int
def wn (n:Int):Int:=mn (mx n 1) 1099511627776
def rtoBase (r:Rtt) (c:Cfg):Int:=bif !r.has then 1000000 else bif !rttCheck r then 1000000 else w64 (rttMean r+mx (wn c.grain) r.far)
def dbl (g:Int):Nat→Int→Int
 | 0,n=>n
 | k+1,n=>bif n == g then n else dbl g k (mn (w64 (2 * n)) g)
def rtoOf (r:Rtt) (c:Cfg) (t:Int):Int:=dbl (wn c.great) (mx t 0).toNat (mn (mx (rtoBase r c) (wn c.least)) (wn c.great))
def rtoBack (r:Rtt) (c:Cfg) (t:Int):Int:=bif decide (t < 0) then 0 else bif rtoOf r c t == wn c.great then t else w64 (t+1)
theorem QhZ {x:Nat→Obj→Prop} (n:Int):PureC Tryz.prog x 203 [.int .i64 n] (.int .i64 (wn n)):=by
 refine Qab Tryz.func203 rfl rfl fun w=>?_
 refine Qaa (by kernel_rfl) ?_
 repeat' (first|((fail_if_success (with_reducible refine stk ?_));simp only [WE,Nat.reduceBEq,QDI]))
 rfl
theorem Qv7 {x:Nat→Obj→Prop} (h:Bool) (m f c0 c1 c2 c3 c4 c5 c6:Int):PureC Tryz.prog x 204 [.agg #[.bool h,.int .i64 m,.int .i64 f],.agg #[.int .i64 c0,.int .i64 c1,.int .i64 c2,.int .i64 c3,.int .i64 c4,.int .i64 c5,.int .i64 c6]]
  (.int .i64 (rtoBase ⟨h,m,f⟩ ⟨c0,c1,c2,c3,c4,c5,c6⟩)):=by
 refine Qab Tryz.func204 rfl rfl fun w=>?_
 refine Qaa (by kernel_rfl) ?_
 repeat' (first|(with_reducible refine Qah (fun _=>?_) (fun _=>?_))|((with_reducible show callW _ _ _ (some (58,_)) _ _);refine callP QgK rfl (Qf5 ..) ?_)|((with_reducible show callW _ _ _ (some (200,_)) _ _);refine callP QgL rfl (Qf6 ..) ?_)|((with_reducible show callW _ _ _ (some (203,_)) _ _);refine callP QiN rfl (QhZ ..) ?_)|((with_reducible show cW _ _ (.region 3 _ true) _ _);refine Qas QA4 (by kernel_rfl) Qaf (by kernel_rfl) ?_)|((fail_if_success (with_reducible refine stk ?_));simp only [WE,segX,Nat.reduceBEq,Nat.reduceAdd,ty_3,ty_4,Qba,Qa6,Qgp,Qgq,QDJ]))
 all_goals (simp only [rtoBase, *,cond_true,cond_false]; try rfl)
theorem Ql3 {x:Nat→Obj→Prop} (h:Bool) (m f c0 c1 c2 c3 c4 c5 c6 t:Int) (ht:t≤9223372036854775807):PureC Tryz.prog x 143 [.agg #[.bool h,.int .i64 m,.int .i64 f],.agg #[.int .i64 c0,.int .i64 c1,.int .i64 c2,.int .i64 c3,.int .i64 c4,.int .i64 c5,.int .i64 c6],.int .i64 t]
  (.int .i64 (rtoOf ⟨h,m,f⟩ ⟨c0,c1,c2,c3,c4,c5,c6⟩ t)):=by
 refine Qab Tryz.func143 rfl rfl fun w=>?_
 refine Qaa (by kernel_rfl) ?_
 repeat' (first|((with_reducible show callW _ _ _ (some (203,_)) _ _);refine callP QiN rfl (QhZ ..) ?_)|((with_reducible show callW _ _ _ (some (204,_)) _ _);refine callP Qzp rfl (Qv7 ..) ?_)|((with_reducible show cW _ _ (.region 2 _ true) _ _);refine Qas QAX (by kernel_rfl) Qaf (by kernel_rfl) ?_)|((fail_if_success (with_reducible refine stk ?_));simp only [WE,segX,Nat.reduceBEq,Nat.reduceAdd,ty_3,Qai,Qba,QaW,QaV]))
 have hT:mx t 0=((mx t 0).toNat:Int):=by unfold mx; split <;> omega
 have hTm:(mx t 0).toNat≤9223372036854775807:=by unfold mx; split <;> omega
 unfold rtoOf
 dsimp only
 generalize hg:wn c5=g
 generalize hn0:mn (mx (rtoBase ⟨h,m,f⟩ ⟨c0,c1,c2,c3,c4,c5,c6⟩) (wn c4)) g=n0
 generalize (mx t 0).toNat=T at *
 rw [hT]
 refine Qa3 (α:=Nat×Int) (fun p=>⟨[(23,.ext (.int .i64 p.1)),(22,.ext (.int .i64 T)),(8,.ext (.int .i64 p.2)),(7,.ext (.int .i64 g))],[],x⟩)
  (fun p=>p.1≤T∧dbl g (T - p.1) p.2=dbl g T n0) (fun p=>T - p.1)
  ⟨(0,n0),Qae ⟨⟨rfl,rfl⟩,⟨rfl,rfl⟩,⟨rfl,rfl⟩,⟨rfl,rfl⟩,trivial⟩ trivial rfl,Nat.zero_le _,rfl⟩ (by kernel_rfl) ?_
 rintro ⟨i,n⟩ ⟨hi,hR⟩
 dsimp only at hi hR ⊢
 rw [←hR]
 by_cases hlt:i < T
 ·have hd:decide ((i:Int) < (T:Int))=true:=by simp; exact hlt
  obtain ⟨k,hk⟩:∃ k,T - i=k+1:=⟨T - i - 1,by omega⟩
  have hk2:T - (i+1)=k:=by omega
  rw [hk] at hR ⊢
  have e:wr .i64 ((i:Int)+1)=((i+1:Nat):Int):=by rw [Qag (by omega) (by omega)]; rfl
  cases he:n == g
  ·repeat' (first|((fail_if_success (with_reducible refine stk ?_));simp only [WE,Nat.reduceBEq,hd,he,e]))
   refine ⟨(i+1,mn (w64 (2 * n)) g),Qae ⟨⟨rfl,rfl⟩,⟨rfl,rfl⟩,⟨rfl,rfl⟩,⟨rfl,rfl⟩,trivial⟩ trivial rfl,?_⟩
   dsimp only
   refine ⟨⟨by omega,?_⟩,by omega⟩
   rw [hk2]
   simp only [dbl,he,cond_false]
  ·repeat' (first|((fail_if_success (with_reducible refine stk ?_));simp only [WE,Nat.reduceBEq,Nat.reduceEqDiff,QrU,hd,he,e]))
   simp only [dbl,he,cond_true]
 ·have hd:decide ((i:Int) < (T:Int))=false:=by simp; omega
  have e0:T - i=0:=by omega
  rw [e0]
  repeat' (first|((fail_if_success (with_reducible refine stk ?_));simp only [WE,Nat.reduceBEq,QrU,hd]))
  all_goals rfl
theorem Qv6 {x:Nat→Obj→Prop} (h:Bool) (m f c0 c1 c2 c3 c4 c5 c6 t:Int) (ht:t≤9223372036854775807):PureC Tryz.prog x 140 [.agg #[.bool h,.int .i64 m,.int .i64 f],.agg #[.int .i64 c0,.int .i64 c1,.int .i64 c2,.int .i64 c3,.int .i64 c4,.int .i64 c5,.int .i64 c6],.int .i64 t]
  (.int .i64 (rtoBack ⟨h,m,f⟩ ⟨c0,c1,c2,c3,c4,c5,c6⟩ t)):=by
 refine Qab Tryz.func140 rfl rfl fun w=>?_
 refine Qaa (by kernel_rfl) ?_
 repeat' (first|(with_reducible refine Qah (fun _=>?_) (fun _=>?_))|((with_reducible show callW _ _ _ (some (143,_)) _ _);refine callP Qow rfl (Ql3 _ _ _ _ _ _ _ _ _ _ _ ht) ?_)|((with_reducible show callW _ _ _ (some (203,_)) _ _);refine callP QiN rfl (QhZ ..) ?_)|((with_reducible show cW _ _ (.region 3 _ true) _ _);refine Qas QAW (by kernel_rfl) Qaf (by kernel_rfl) ?_)|((fail_if_success (with_reducible refine stk ?_));simp only [WE,segX,Nat.reduceBEq,Nat.reduceAdd,ty_3,Qai,Qba,QaV,QDd]))
 all_goals (simp only [rtoBack, *,cond_true,cond_false]; try rfl)
def mkF (l:List (Int×Int)) (i:Nat):Int×Int:=l.getD i (0,0)
structure Es where
 cf:Cf
 now:Int
 last:Int
 win:Int
 thr:Int
 high:Int
 fl:Fl
 rtt:Rtt
 ms:List (Int×Int)
 rd:Rd
 hy:Hy
 ep:Ep
 rec_:Int
 back:Int
 bk:Bk
 lim:Bool
def Ev.v (e:Ev):Value:=.agg #[.int .i64 e.kind,.int .i64 e.time,.int .i64 e.bytes,.int .i64 e.rtt]
def Rtt.v (r:Rtt):Value:=.agg #[.bool r.has,.int .i64 r.mean,.int .i64 r.far]
def Cf.g (c:Cf):Cfg:=⟨c.seg,c.max,c.first,c.grain,c.least,c.great,c.burst⟩
def Es.cells (s:Es) (u:Value):List Value:=
 [.int .i64 s.cf.seg,.int .i64 s.cf.max,.int .i64 s.cf.first,.int .i64 s.cf.grain,.int .i64 s.cf.least,.int .i64 s.cf.great,.int .i64 s.cf.burst,
  .int .i64 s.now,.int .i64 s.last,.int .i64 s.win,.int .i64 s.thr,.int .i64 s.high,.int .i64 s.fl.sent,.int .i64 s.fl.told,.int .i64 s.fl.out,
  .bool s.rtt.has,.int .i64 s.rtt.mean,.int .i64 s.rtt.far,u,.int .i64 s.rd.id,.int .i64 s.rd.end_,
  .int .i64 s.hy.last,.int .i64 s.hy.least,.int .i64 s.hy.many,.bool s.hy.gentle,.bool s.hy.done,.int .i64 s.hy.base,.int .i64 s.hy.rounds,
  .bool s.ep.on,.int .i64 s.ep.start,.int .i64 s.ep.first,.int .i64 s.ep.max,.int .i64 s.ep.k,.int .i64 s.ep.est,
  .int .i64 s.rec_,.int .i64 s.back,.int .i64 s.bk.at_,.int .i64 s.bk.have_,.bool s.lim]
def Es.v (s:Es) (u:Value):Value:=.agg (s.cells u).toArray
def esMark (now:Int) (m:Int×Int):Bool:=decide (m.1≤now) && (decide (1≤m.2) && decide (m.2≤1073741824))
structure EsOk (s:Es):Prop where
 cf:CfIn s.cf
 now:0≤s.now∧s.now≤1099511627776
 last:0≤s.last∧s.last≤s.now
 win:131072≤s.win∧s.win≤s.cf.max * 65536
 thr:131072≤s.thr∧s.thr≤68719476736
 high:0≤s.high∧s.high≤68719476736
 fl:flOk s.fl
 rtt:rttCheck s.rtt=true
 mo:mkOk (mkF s.ms) s.ms.length=true
 ms:∀ m∈s.ms,esMark s.now m=true
 rd:rdOk s.rd
 hy:hyOk s.hy
 ep:epOk s.ep
 bk:bkOk s.bk
 bkAt:s.bk.at_≤s.now
 rec_:0≤s.rec_∧s.rec_≤s.fl.sent
 back:0≤s.back∧s.back≤64
def esOk (s:Es):Bool:=
 decide (CfIn s.cf) && decide (0≤s.now∧s.now≤1099511627776) && decide (0≤s.last∧s.last≤s.now) && decide (131072≤s.win∧s.win≤s.cf.max * 65536) && decide (131072≤s.thr∧s.thr≤68719476736) &&
 decide (0≤s.high∧s.high≤68719476736) && decide (flOk s.fl) && rttCheck s.rtt && mkOk (mkF s.ms) s.ms.length && s.ms.all (esMark s.now) && decide (rdOk s.rd) && decide (hyOk s.hy) && decide (epOk s.ep) && decide (bkOk s.bk) &&
 decide (s.bk.at_≤s.now) && decide (0≤s.rec_∧s.rec_≤s.fl.sent) && decide (0≤s.back∧s.back≤64)
theorem Qcj (s:Es):esOk s=true↔EsOk s:=by
 unfold esOk
 simp only [Bool.and_eq_true,decide_eq_true_eq,List.all_eq_true]
 constructor
 ·rintro ⟨⟨⟨⟨⟨⟨⟨⟨⟨⟨⟨⟨⟨⟨⟨⟨h1,h2⟩,h3⟩,h4⟩,h5⟩,h6⟩,h7⟩,h8⟩,h9⟩,h10⟩,h11⟩,h12⟩,h13⟩,h14⟩,h15⟩,h16⟩,h17⟩
  exact ⟨h1,h2,h3,h4,h5,h6,h7,h8,h9,h10,h11,h12,h13,h14,h15,h16,h17⟩
 ·rintro ⟨h1,h2,h3,h4,h5,h6,h7,h8,h9,h10,h11,h12,h13,h14,h15,h16,h17⟩
  exact ⟨⟨⟨⟨⟨⟨⟨⟨⟨⟨⟨⟨⟨⟨⟨⟨h1,h2⟩,h3⟩,h4⟩,h5⟩,h6⟩,h7⟩,h8⟩,h9⟩,h10⟩,h11⟩,h12⟩,h13⟩,h14⟩,h15⟩,h16⟩,h17⟩
def esSlow (s:Es):Bool:=decide (s.win < s.thr)
def esRes (s:Es):Int:=wr .i64 (s.fl.sent - s.fl.out)
def esRecs (s:Es):Bool:=decide (esRes s < s.rec_)
def esRate (s:Es):Int:=rateOf s.win s.cf.seg s.rtt (esSlow s)
def esRto (s:Es):Int:=rtoOf s.rtt s.cf.g s.back
def esPhase (s:Es):Int:=bif esRecs s then 3 else bif !esSlow s then 2 else bif s.hy.gentle then 1 else 0
structure Nt where
 err:Int
 win:Int
 thr:Int
 rate:Int
 rto:Int
 part:Int
 deriving DecidableEq
def Nt.v (n:Nt):Value:=.agg #[.int .i64 n.err,.int .i64 n.win,.int .i64 n.thr,.int .i64 n.rate,.int .i64 n.rto,.int .i64 n.part]
def esLook (s:Es):Nt:=bif esOk s then ⟨0,s.win,s.thr,esRate s,esRto s,esPhase s⟩ else ⟨201,0,0,0,0,0⟩
def esNew (c:Cf):Es×Int:=bif c.ok then (⟨c,0,0,cfFirst c,68719476736,0,⟨0,0,0⟩,⟨false,0,0⟩,[],⟨0,0⟩,⟨0,0,0,false,false,0,0⟩,Ep.zero,0,0,⟨0,c.burst * c.seg * 1000000⟩,false⟩,0)
 else (⟨⟨0,0,0,0,0,0,0⟩,0,0,0,0,0,⟨0,0,0⟩,⟨false,0,0⟩,[],⟨0,0⟩,⟨0,0,0,false,false,0,0⟩,Ep.zero,0,0,⟨0,0⟩,false⟩,210)
def hyZ:Hy:=⟨0,0,0,false,false,0,0⟩
def hyDone:Hy:=⟨0,0,0,false,true,0,0⟩
def esCut (s:Es):Es:=bif esRecs s then s else { s with win:=cutLeast s.win,high:=epFast s.high (cutOf s.win),thr:=cutLeast s.win,rec_:=s.fl.sent,ep:=Ep.zero,hy:=hyDone }
def esWake (s:Es) (e:Ev):Es:=if s.fl.out=0 then { s with win:=idleOf s.win s.last e.time (esRto s) s.cf,ep:=epShift s.ep (sat (e.time - s.last)) } else s
def esSend0 (s:Es) (e:Ev):Es×Int:=
 if floE s.win s.cf.seg 65536≠0 then (s,floE s.win s.cf.seg 65536)
 else if (flSend s.fl e.bytes (floN s.win s.cf.seg 65536)).2≠0 then (s,(flSend s.fl e.bytes (floN s.win s.cf.seg 65536)).2)
 else if (bkTake s.bk e.bytes).2≠0 then (s,(bkTake s.bk e.bytes).2)
 else ({ s with fl:=(flSend s.fl e.bytes (floN s.win s.cf.seg 65536)).1,bk:=(bkTake s.bk e.bytes).1,last:=e.time,lim:=!used s.win (flSend s.fl e.bytes (floN s.win s.cf.seg 65536)).1.out s.cf.seg },0)
def esSend (s:Es) (e:Ev):Es×Int:=esSend0 (esWake s e) e
def putL (l:List (Int×Int)) (win t n:Int):List (Int×Int):=(List.range (putLen (mkF l) l.length win t n)).map (putFn (mkF l) l.length win t n)
def esTimes (s:Es) (e:Ev):Es×Int:=
 if e.rtt=0 then (s,0)
 else if (rttSample s.rtt e.rtt).2≠0 then (s,(rttSample s.rtt e.rtt).2)
 else if putErr (mkF s.ms) s.ms.length 10000000 e.time≠0 then (s,putErr (mkF s.ms) s.ms.length 10000000 e.time)
 else bif esSlow s then
  (if (hySample s.hy e.rtt).2≠0 then (s,(hySample s.hy e.rtt).2) else ({ s with rtt:=(rttSample s.rtt e.rtt).1,ms:=putL s.ms 10000000 e.time e.rtt,hy:=(hySample s.hy e.rtt).1 },0))
 else ({ s with rtt:=(rttSample s.rtt e.rtt).1,ms:=putL s.ms 10000000 e.time e.rtt },0)
def esCalm0 (s:Es) (e:Ev):Es×Int:=bif s.ep.on then (s,0) else if (epBegin e.time s.win s.high).2≠0 then (s,(epBegin e.time s.win s.high).2) else ({ s with ep:=(epBegin e.time s.win s.high).1 },0)
def epEst (e:Ep) (n:Int):Ep:=⟨e.on,e.start,e.first,e.max,e.k,n⟩
def esCalm1 (s:Es) (e:Ev) (told:Int):Es:=
 let ep:=epEst s.ep (renoStep s.ep.est s.ep.max s.win told)
 { s with ep:=ep,win:=mn (cutOf (growBoth s.win (cubTarget ep (clkAfter e.time (rttMean s.rtt)) s.win) ep.est told)) (cutOf (s.cf.max * 65536)) }
def esCalm (s:Es) (e:Ev) (told:Int):Es×Int:=if (esCalm0 s e).2≠0 then esCalm0 s e else (esCalm1 (esCalm0 s e).1 e told,0)
def esFast (s:Es) (told:Int):Es:=
 let w:=mn (cutOf (growSlow s.win told s.hy)) (cutOf (s.cf.max * 65536))
 { s with win:=w,thr:=bif s.hy.done then w else s.thr }
def esGrow (s:Es) (e:Ev):Es×Int:=
 bif esRecs s || s.lim then (s,0)
 else if floE e.bytes 65536 s.cf.seg≠0 then (s,floE e.bytes 65536 s.cf.seg)
 else bif esSlow s then (esFast s (floN e.bytes 65536 s.cf.seg),0) else esCalm s e (floN e.bytes 65536 s.cf.seg)
def esRound (s:Es):Es×Int:=
 let r:=rdAck s.rd (esRes s) s.fl.sent
 bif r.2.1 && esSlow s then (if (hyRound s.hy).2≠0 then (s,(hyRound s.hy).2) else ({ s with rd:=r.1,hy:=(hyRound s.hy).1 },0)) else ({ s with rd:=r.1 },0)
def esTold (s:Es) (e:Ev):Es:={ s with fl:=(flBack s.fl e.bytes e.bytes).1,back:=0 }
def esAck (s:Es) (e:Ev):Es×Int:=
 if (flBack s.fl e.bytes e.bytes).2≠0 then (s,(flBack s.fl e.bytes e.bytes).2)
 else if (esTimes (esTold s e) e).2≠0 then (s,(esTimes (esTold s e) e).2)
 else if (esRound (esTimes (esTold s e) e).1).2≠0 then (s,(esRound (esTimes (esTold s e) e).1).2)
 else esGrow (esRound (esTimes (esTold s e) e).1).1 e
def esLose (s:Es) (e:Ev):Es×Int:=if (flBack s.fl e.bytes 0).2≠0 then (s,(flBack s.fl e.bytes 0).2) else (esCut { s with fl:=(flBack s.fl e.bytes 0).1 },0)
def esLate (s:Es):Es×Int:=
 if s.fl.out=0 then (s,202)
 else if (flBack s.fl s.fl.out 0).2≠0 then (s,(flBack s.fl s.fl.out 0).2)
 else ({ s with back:=rtoBack s.rtt s.cf.g s.back,win:=131072,thr:=cutLeast s.win,high:=epFast s.high (cutOf s.win),fl:=(flBack s.fl s.fl.out 0).1,rec_:=(flBack s.fl s.fl.out 0).1.sent,ep:=Ep.zero,hy:=hyZ,rd:=rdBegin (flBack s.fl s.fl.out 0).1.sent },0)
def esBy (s:Es) (e:Ev):Es×Int:=
 if e.kind=6 then esSend s e else if e.kind=1 then esAck s e else if e.kind=2 then esLose s e else if e.kind=3 then (esCut s,0) else if e.kind=4 then esLate s else if e.kind=5 then ({ s with lim:=true },0) else (s,0)
def esFill (s:Es) (now:Int):Bk×Int:=bkFill s.bk now (esRate s) (s.cf.burst * s.cf.seg)
def esAt (s:Es) (now:Int):Es:={ s with bk:=(esFill s now).1,now:=now }
def esDo (s:Es) (e:Ev):Es×Int:=
 bif !esOk s then (s,201)
 else if evCheck e.kind e.time e.bytes e.rtt≠0 then (s,evCheck e.kind e.time e.bytes e.rtt)
 else if (clkStep s.now e.time).2≠0 then (s,(clkStep s.now e.time).2)
 else if (esFill s (clkStep s.now e.time).1).2≠0 then (s,(esFill s (clkStep s.now e.time).1).2)
 else if (esBy (esAt s (clkStep s.now e.time).1) e).2≠0 then (s,(esBy (esAt s (clkStep s.now e.time).1) e).2)
 else esBy (esAt s (clkStep s.now e.time).1) e
theorem QgP (h:Hy) (k:hyOk h):(hyRound h).2=0∧hyOk (hyRound h).1∧(h.done=true→(hyRound h).1.done=true):=by
 obtain ⟨a,b,c,g,d,p,r⟩:=h
 unfold hyRound
 rw [if_pos k]
 unfold hyOk at k ⊢
 dsimp only at k ⊢
 cases g
 ·simp only [Bool.false_eq_true,if_false,false_and,or_false,true_and] at k ⊢
  exact ⟨by omega,fun h=>h⟩
 ·simp only [Bool.true_eq_false,false_and,false_or,true_and] at k
  rw [if_pos rfl]
  by_cases h5:5≤r+1
  ·rw [if_pos h5]
   refine ⟨rfl,?_,fun _=>rfl⟩
   dsimp only
   simp only [Bool.false_eq_true,false_and,or_false,true_and,eq_self,and_self,and_true]
   omega
  ·rw [if_neg h5]
   refine ⟨rfl,?_,fun h=>h⟩
   dsimp only
   simp only [Bool.true_eq_false,false_and,false_or,true_and]
   have hd:=k.2.2.2.2.2.2.2.1
   simp only [hd,true_and,eq_self,and_self,and_true]
   omega
theorem QzI (h:Hy) (k:hyOk h) (h1:h.least≠0):hyOk (hyAct h)∧(h.done=true→hyAct h=h)∧(hyAct h).done=h.done∧(hyAct h).last=h.last∧(hyAct h).least=h.least∧(hyAct h).many=h.many:=by
 obtain ⟨a,b,c,g,d,p,r⟩:=h
 by_cases h8:c=8
 ·cases d
  ·cases g
   ·have e:hyAct ⟨a,b,c,false,false,p,r⟩=hySwift ⟨a,b,c,false,false,p,r⟩:=if_pos h8
    rw [e]
    by_cases hs:0 < a∧a+hyThresh a≤b
    ·have e:hySwift ⟨a,b,c,false,false,p,r⟩=⟨a,b,c,true,false,b,r⟩:=if_pos hs
     rw [e]
     unfold hyOk at k ⊢
     dsimp only at k ⊢ h1
     simp only [Bool.false_eq_true,Bool.true_eq_false,false_and,or_false,false_or,true_and,false_implies,and_true] at k ⊢
     omega
    ·have e:hySwift ⟨a,b,c,false,false,p,r⟩=⟨a,b,c,false,false,p,r⟩:=if_neg hs
     rw [e]
     exact ⟨k,fun _=>rfl,rfl,rfl,rfl,rfl⟩
   ·have e:hyAct ⟨a,b,c,true,false,p,r⟩=hyMild ⟨a,b,c,true,false,p,r⟩:=if_pos h8
    rw [e]
    by_cases hs:b < p
    ·have e:hyMild ⟨a,b,c,true,false,p,r⟩=⟨a,b,c,false,false,0,0⟩:=if_pos hs
     rw [e]
     unfold hyOk at k ⊢
     dsimp only at k ⊢ h1
     simp only [Bool.false_eq_true,Bool.true_eq_false,false_and,or_false,false_or,true_and,false_implies,and_true] at k ⊢
     omega
    ·have e:hyMild ⟨a,b,c,true,false,p,r⟩=⟨a,b,c,true,false,p,r⟩:=if_neg hs
     rw [e]
     exact ⟨k,fun _=>rfl,rfl,rfl,rfl,rfl⟩
  ·have e:hyAct ⟨a,b,c,g,true,p,r⟩=⟨a,b,c,g,true,p,r⟩:=if_pos h8
   rw [e]
   exact ⟨k,fun _=>rfl,rfl,rfl,rfl,rfl⟩
 ·have e:hyAct ⟨a,b,c,g,d,p,r⟩=⟨a,b,c,g,d,p,r⟩:=if_neg h8
  rw [e]
  exact ⟨k,fun _=>rfl,rfl,rfl,rfl,rfl⟩
theorem QzJ (h:Hy) (t:Int) (k:hyOk h) (t1:1≤t) (t2:t≤1073741824):hyOk (hyCount h t)∧(hyCount h t).least≠0:=by
 obtain ⟨a,b,c,g,d,p,r⟩:=h
 unfold hyCount
 have k0:=k
 unfold hyOk at k ⊢
 dsimp only at k ⊢
 have hl:1≤(if b=0∨t < b then t else b)∧(if b=0∨t < b then t else b)≤1073741824:=by split <;> omega
 have hm:1≤mn (c+1) 8∧mn (c+1) 8≤8:=by unfold mn; split <;> omega
 refine ⟨⟨k.1,k.2.1,by omega,by omega,by omega,by omega,by omega,k.2.2.2.2.2.2.2⟩,by omega⟩
theorem QoP (h:Hy) (t:Int) (k:hyOk h∧1≤t∧t≤1073741824):hySample h t=(hyAct (hyCount h t),0):=if_pos k
theorem QzN (h:Hy) (t:Int) (k:¬ (hyOk h∧1≤t∧t≤1073741824)):hySample h t=(h,201):=if_neg k
theorem Qj7 (n:Int):1≤wn n:=by unfold wn mn mx; (repeat' split) <;> omega
theorem Qj6 (n:Int):wn n≤1099511627776:=by unfold wn mn mx; (repeat' split) <;> omega
theorem Qho {n:Int} (h1:1≤n) (h2:n≤1099511627776):wn n=n:=by unfold wn mn mx; (repeat' split) <;> omega
theorem Qi8 (a b:Int):mn a b≤b:=by unfold mn; split <;> omega
theorem QiW {a b c:Int} (h1:c≤a) (h2:c≤b):c≤mn a b:=by unfold mn; split <;> omega
theorem QpT (a b:Int):a≤mx a b:=by unfold mx; split <;> omega
theorem QBB (a b:Int):b≤mx a b:=by unfold mx; split <;> omega
theorem QEY (r:Rtt) (c:Cfg):rtoBase r c=if r.has=true∧rttCheck r=true then r.mean / 8+mx (wn c.grain) r.far else 1000000:=by
 unfold rtoBase
 cases hh:r.has
 ·simp
 ·cases hc:rttCheck r
  ·simp
  ·have:=(Qcw r).1 hc
   rw [hh] at this
   simp only [true_and,Bool.true_eq_false,false_and,or_false] at this
   have h1:=Qj7 c.grain
   have h2:=Qj6 c.grain
   rw [QeH r (by omega) (by omega)]
   simp only [Bool.not_true,cond_false,and_self,if_true]
   exact QbM (by unfold mx; split <;> omega) (by unfold mx; split <;> omega)
theorem QEZ (r:Rtt) (c:Cfg):1≤rtoBase r c:=by
 rw [QEY]
 split
 ·rename_i h
  have:=(Qcw r).1 h.2
  rw [h.1] at this
  simp only [true_and,Bool.true_eq_false,false_and,or_false] at this
  have h1:=Qj7 c.grain
  have:=QpT (wn c.grain) r.far
  omega
 ·omega
theorem Qrl (k:Nat):(1:Int)≤2 ^ k:=by
 have:0 < 2 ^ k:=Nat.two_pow_pos k
 have e:((2 ^ k:Nat):Int)=(2:Int) ^ k:=by push_cast; rfl
 omega
theorem QCe {a b:Nat} (h:a≤b):(2:Int) ^ a≤2 ^ b:=by
 have:2 ^ a≤2 ^ b:=Nat.pow_le_pow_right (by decide) h
 have e1:((2 ^ a:Nat):Int)=(2:Int) ^ a:=by push_cast; rfl
 have e2:((2 ^ b:Nat):Int)=(2:Int) ^ b:=by push_cast; rfl
 omega
theorem Qmu {g:Int} (hg:g≤1099511627776):∀ (k:Nat) {n:Int},1≤n→n≤g→dbl g k n=mn (2 ^ k * n) g
 | 0,n,h1,h2=>by simp only [dbl,mn,Int.pow_zero,Int.one_mul]; rw [if_neg (by omega)]
 | k+1,n,h1,h2=>by
  have hp:(1:Int)≤2 ^ k:=Qrl _
  have e2:(2:Int) ^ (k+1) * n=2 * (2 ^ k * n):=by rw [Int.pow_succ,Int.mul_comm (2 ^ k) 2,Int.mul_assoc]
  have hpn:n≤2 ^ k * n:=by
   have:=Int.mul_le_mul_of_nonneg_right hp (by omega:0≤n)
   omega
  have hpg:g≤2 ^ k * g:=by
   have:=Int.mul_le_mul_of_nonneg_right hp (by omega:0≤g)
   omega
  simp only [dbl]
  rw [QbM (by omega) (by omega)]
  by_cases he:n=g
  ·subst he
   simp only [beq_self_eq_true,cond_true]
   rw [e2]
   unfold mn
   rw [if_pos (by omega)]
  ·have hb:(n == g)=false:=beq_eq_false_iff_ne.2 he
   rw [hb,cond_false,Qmu hg k (by unfold mn; split <;> omega) (Qi8 _ _),e2]
   by_cases h3:2 * n≤g
   ·have:mn (2 * n) g=2 * n:=by unfold mn; rw [if_neg (by omega)]
    rw [this,Int.mul_left_comm]
   ·have:mn (2 * n) g=g:=by unfold mn; rw [if_pos (by omega)]
    rw [this]
    unfold mn
    rw [if_pos (show g < 2 * (2 ^ k * n) by omega)]
    split <;> omega
def rto0 (r:Rtt) (c:Cfg):Int:=mn (mx (rtoBase r c) (wn c.least)) (wn c.great)
theorem Qhk (r:Rtt) (c:Cfg):1≤rto0 r c:=QiW (by have:=QEZ r c; have:=QpT (rtoBase r c) (wn c.least); omega) (Qj7 _)
theorem Qsj (r:Rtt) (c:Cfg):rto0 r c≤wn c.great:=Qi8 _ _
theorem QjM (r:Rtt) (c:Cfg) (t:Int):rtoOf r c t=mn (2 ^ (mx t 0).toNat * rto0 r c) (wn c.great):=
 Qmu (Qj6 _) _ (Qhk r c) (Qsj r c)
theorem Qsk (r:Rtt) (c:Cfg) (t:Int):rto0 r c≤rtoOf r c t:=by
 rw [QjM]
 have k4:(1:Int)≤2 ^ (mx t 0).toNat:=Qrl _
 have k2:=Qhk r c
 have:=Int.mul_le_mul_of_nonneg_right k4 (by omega:0≤rto0 r c)
 exact QiW (by omega) (Qsj r c)
theorem QE0 (r:Rtt) (c:Cfg) {t:Int} (h:40≤t):rtoOf r c t=wn c.great:=by
 rw [QjM]
 have k3:(2:Int) ^ 40≤2 ^ (mx t 0).toNat:=QCe (by unfold mx; split <;> omega)
 have k2:=Qhk r c
 have k5:=Qj6 c.great
 have:=Int.mul_le_mul k3 k2 (by omega) (by omega)
 have e:(2:Int) ^ 40=1099511627776:=by decide
 unfold mn
 split <;> omega
theorem Qir {f:Fl} {n r:Int} (h:(flSend f n r).2=0):flOk f∧1≤n∧flOk (flSend f n r).1∧(flSend f n r).1=⟨f.sent+n,f.told,f.out+n⟩∧f.sent+n≤9223372036854775807∧f.out+n≤r:=by
 unfold flSend at h ⊢
 by_cases h1:¬ (flOk f∧1≤n)
 ·rw [if_pos h1] at h; cases h
 ·rw [if_neg h1] at h ⊢
  have h1:=Decidable.not_not.1 h1
  by_cases h2:9223372036854775807 - n < f.sent
  ·rw [if_pos h2] at h; cases h
  ·rw [if_neg h2] at h ⊢
   by_cases h3:flRoom f r < n
   ·rw [if_pos h3] at h; cases h
   ·rw [if_neg h3]
    obtain ⟨h0,hn⟩:=h1
    have h00:=h0
    unfold flOk at h0
    unfold flRoom at h3
    by_cases h4:flOk f∧f.out≤r
    ·rw [if_pos h4] at h3
     refine ⟨h00,hn,?_,rfl,by omega,by omega⟩
     unfold flOk
     dsimp only
     omega
    ·rw [if_neg h4] at h3; omega
theorem Qgj {f:Fl} {n t:Int} (h:(flBack f n t).2=0):flOk f∧1≤n∧n≤f.out∧(flBack f n t).1=⟨f.sent,f.told+t,f.out - n⟩:=by
 unfold flBack at h ⊢
 by_cases h1:¬ (flOk f∧1≤n)
 ·rw [if_pos h1] at h; cases h
 ·rw [if_neg h1] at h ⊢
  have h1:=Decidable.not_not.1 h1
  by_cases h2:f.out < n
  ·rw [if_pos h2] at h; cases h
  ·rw [if_neg h2]
   exact ⟨h1.1,h1.2,by omega,rfl⟩
theorem Qx4 {f:Fl} {n t:Int} (h:flOk f) (h1:1≤n) (h2:n≤f.out):flBack f n t=(⟨f.sent,f.told+t,f.out - n⟩,0):=by
 unfold flBack
 rw [if_neg (fun h'=>h' ⟨h,h1⟩),if_neg (by omega)]
theorem Qiq {f:Fl} {n t:Int} (h:(flBack f n t).2=0) (ht:t=n∨t=0):flOk (flBack f n t).1:=by
 obtain ⟨h1,h2,h3,h4⟩:=Qgj h
 rw [h4]
 unfold flOk at h1 ⊢
 dsimp only
 omega
theorem Qf9 {n:Int} (h:131072≤n∧n≤68719476736):cutOf n=n:=by unfold cutOf mn; (repeat' split) <;> omega
theorem QwK {n:Int} (h:131072≤n∧n≤68719476736):cutLeast n=mx (7 * n / 10) 131072:=by
 unfold cutLeast
 rw [Qf9 h]
 unfold cutOf mn mx
 (repeat' split) <;> omega
theorem Qmq (n:Int):131072≤cutLeast n∧cutLeast n≤68719476736:=by unfold cutLeast; exact Qem _
theorem Qmr {n:Int} (h:131072≤n∧n≤68719476736):cutLeast n≤n:=by rw [QwK h]; unfold mx; split <;> omega
theorem QmC {l n:Int} (hn:131072≤n∧n≤68719476736) (hl:0≤l∧l≤68719476736):0≤epFast l n∧epFast l n≤68719476736:=by unfold epFast mx; (repeat' split) <;> omega
theorem Quy {b:Bk} {n:Int} (h:(bkTake b n).2=0):bkOk b∧1≤n∧n≤bkBytes b∧(bkTake b n).1=⟨b.at_,b.have_ - n * 1000000⟩∧bkOk (bkTake b n).1:=by
 unfold bkTake at h ⊢
 by_cases h1:¬ (bkOk b∧1≤n)
 ·rw [if_pos h1] at h; cases h
 ·rw [if_neg h1] at h ⊢
  have h1:=Decidable.not_not.1 h1
  by_cases h2:bkBytes b < n
  ·rw [if_pos h2] at h; cases h
  ·rw [if_neg h2]
   obtain ⟨h3,h4⟩:=h1
   refine ⟨h3,h4,by omega,rfl,?_⟩
   unfold bkBytes at h2
   rw [if_pos h3] at h2
   unfold bkOk at h3 ⊢
   dsimp only
   omega
theorem QkP {b:Bk} {t r m:Int} (hb:bkOk b) (ht:0≤t∧t≤1099511627776) (h:b.at_≤t):(bkFill b t r m).2=0∧(bkFill b t r m).1.at_=t∧bkOk (bkFill b t r m).1∧b.have_≤(bkFill b t r m).1.have_:=by
 unfold bkFill
 rw [if_neg (fun h=>h hb),if_neg (fun h=>h ht),if_neg (by omega)]
 have hm:=QfO m
 have hr:=QfO r
 have h2:0≤bkTaken r * (t - b.at_):=Int.mul_nonneg hr.1 (by omega)
 generalize bkTaken r * (t - b.at_)=Q at *
 generalize bkTaken m=M at *
 unfold bkOk at hb ⊢
 unfold sat mn
 dsimp only
 refine ⟨rfl,rfl,⟨ht.1,ht.2,?_⟩,?_⟩ <;> ((repeat' split) <;> omega)
theorem QAt (n:Int):0≤lim3 n 0 68719476736∧lim3 n 0 68719476736≤68719476736:=by unfold lim3 mn mx; (repeat' split) <;> omega
theorem Qjw (a b c d:Int):0≤renoStep a b c d∧renoStep a b c d≤68719476736:=by unfold renoStep; exact QAt _
theorem Qh7 {t n h:Int} (k:(epBegin t n h).2=0):epTime t∧epWin n∧epWin h∧epOk (epBegin t n h).1∧(epBegin t n h).1.on=true∧(epBegin t n h).1.max=mx h n:=by
 unfold epBegin at k ⊢
 by_cases h1:epTime t∧epWin n∧epWin h
 ·rw [if_pos h1]
  obtain ⟨h1,h2,h3⟩:=h1
  refine ⟨h1,h2,h3,?_,rfl,rfl⟩
  unfold epOk
  rw [if_pos rfl]
  dsimp only
  have:epWin (mx h n):=by unfold epWin mx at *; split <;> omega
  exact ⟨h1,h2,this,h2,QBB _ _,rfl⟩
 ·rw [if_neg h1] at k; cases k
theorem QmB {t n h:Int} (h1:epTime t) (h2:epWin n) (h3:epWin h):(epBegin t n h).2=0:=by unfold epBegin; rw [if_pos ⟨h1,h2,h3⟩]
theorem QwY {e:Ep} {n:Int} (h:epOk e):epOk (epShift e n):=by
 unfold epShift
 split
 ·rename_i h1
  unfold epOk at h ⊢
  rw [if_pos h1.1] at h
  rw [if_pos h1.1]
  dsimp only
  refine ⟨?_,h.2⟩
  have:=h.1
  unfold epTime at this ⊢
  unfold mn sat
  (repeat' split) <;> omega
 ·exact h
theorem Qh8 {e:Ep} {n:Int} (h:epOk e) (ho:e.on=true) (hn:epWin n):epOk (epEst e n):=by
 unfold epOk at h ⊢
 rw [if_pos ho] at h
 unfold epEst
 rw [if_pos ho]
 dsimp only
 exact ⟨h.1,h.2.1,h.2.2.1,hn,h.2.2.2.2.1,h.2.2.2.2.2⟩
theorem QmF:epOk Ep.zero:=by unfold epOk Ep.zero; rw [if_neg (by simp)]
theorem QCw {r:Rd} {t s:Int} (h:rdOk r) (hs:0≤s):rdOk (rdAck r t s).1:=by
 unfold rdAck
 (repeat' split) <;> first | exact h|(unfold rdOk at h ⊢; dsimp only; omega)
theorem QCx (s:Int):rdOk (rdBegin s):=by unfold rdOk rdBegin mx; dsimp only; split <;> omega
theorem QzL:hyOk hyZ:=by decide
theorem QzK:hyOk hyDone:=by decide
theorem QE1 {r:Rtt} {c:Cfg} {t:Int} (h1:1≤c.great) (h2:c.great≤1099511627776):1≤rtoOf r c t∧rtoOf r c t≤c.great:=by
 have h:=Qsk r c t
 have hp:=Qhk r c
 refine ⟨by omega,?_⟩
 rw [QjM]
 have:=Qi8 (2 ^ (mx t 0).toNat * rto0 r c) (wn c.great)
 rw [Qho h1 h2] at this
 rw [Qho h1 h2]
 exact this
theorem QEX {r:Rtt} {c:Cfg} {t:Int} (h:0≤t∧t≤64):0≤rtoBack r c t∧rtoBack r c t≤64:=by
 unfold rtoBack
 rw [decide_eq_false (show ¬ t < 0 by omega)]
 simp only [cond_false]
 by_cases h40:40≤t
 ·rw [QE0 r c h40]
  simp only [beq_self_eq_true,cond_true]
  exact h
 ·have e:w64 (t+1)=t+1:=Qag (by omega) (by omega)
  rw [e]
  cases rtoOf r c t == wn c.great <;> simp only [cond_true,cond_false] <;> omega
theorem QpM (f:Nat→Int×Int) (i:Nat):mkGood f i=true↔isT (f i).1=true∧(0 < i→(f (i - 1)).1≤(f i).1∧(f (i - 1)).2 < (f i).2):=by
 unfold mkGood
 cases h1:isT (f i).1
 ·simp
 ·by_cases h2:0 < i
  ·by_cases h3:(f i).1 < (f (i - 1)).1
   ·simp [h2,h3]; omega
   ·simp [h2,h3]; omega
  ·simp [h2]
theorem Qfl (f:Nat→Int×Int) (len:Nat):mkOk f len=true↔∀ i,i < len→isT (f i).1=true∧(0 < i→(f (i - 1)).1≤(f i).1∧(f (i - 1)).2 < (f i).2):=by
 unfold mkOk
 rw [List.all_eq_true]
 exact ⟨fun h i hi=>(QpM f i).1 (h i (List.mem_range.2 hi)),fun h i hi=>(QpM f i).2 (h i (List.mem_range.1 hi))⟩
theorem QBx {f g:Nat→Int×Int} {len:Nat} (h:∀ i,i < len→f i=g i):mkOk f len=mkOk g len:=by
 rw [Bool.eq_iff_iff,Qfl,Qfl]
 constructor
 ·intro k i hi
  have:=k i hi
  rw [←h i hi]
  refine ⟨this.1,fun h0=>?_⟩
  rw [←h (i - 1) (by omega)]
  exact this.2 h0
 ·intro k i hi
  have:=k i hi
  rw [h i hi]
  refine ⟨this.1,fun h0=>?_⟩
  rw [h (i - 1) (by omega)]
  exact this.2 h0
theorem QpL (g:Nat→Int×Int) {len i:Nat} (h:i < len):mkF ((List.range len).map g) i=g i:=by
 unfold mkF
 rw [List.getD_eq_getElem?_getD,List.getElem?_map,List.getElem?_range h]
 rfl
theorem Qi5 {l:List (Int×Int)} {i:Nat} (h:i < l.length):mkF l i∈l:=by
 unfold mkF
 rw [List.getD_eq_getElem?_getD,List.getElem?_eq_getElem h]
 exact List.getElem_mem h
theorem QpN {f:Nat→Int×Int} {len:Nat} (h:mkOk f len=true):∀ {j i:Nat},i≤j→j < len→(f i).1≤(f j).1
 | 0,i,hi,_=>by
  have:i=0:=by omega
  subst this; exact Int.le_refl _
 | j+1,i,hi,hj=>by
  by_cases h1:i=j+1
  ·subst h1; exact Int.le_refl _
  ·have:=QpN h (i:=i) (j:=j) (by omega) (by omega)
   have h2:=((Qfl f len).1 h (j+1) hj).2 (by omega)
   simp only [Nat.add_sub_cancel] at h2
   omega
theorem QCk {f:Nat→Int×Int} {len:Nat} {n:Int} {i:Nat} (h:i < putK f len n):(f i).2 < n:=by
 unfold putK at h
 split at h
 ·rename_i k hk
  rw [List.find?_range_eq_some] at hk
  have:=hk.2.2 i h
  simpa using this
 ·rename_i hk
  rw [List.find?_range_eq_none] at hk
  have:=hk i h
  simpa using this
theorem QCf {f:Nat→Int×Int} {len:Nat} {win t:Int} (h:putErr f len win t=0):mkOk f len=true∧isT t=true∧0≤win∧(0 < len→(f (len - 1)).1≤t):=by
 unfold putErr at h
 by_cases h1:mkOk f len=false∨isT t=false∨win < 0
 ·rw [if_pos h1] at h; cases h
 ·rw [if_neg h1] at h
  simp only [not_or,Bool.not_eq_false] at h1
  refine ⟨h1.1,h1.2.1,by omega,fun h0=>?_⟩
  by_cases h2:0 < len∧t < (f (len - 1)).1
  ·rw [if_pos h2] at h; cases h
  ·omega
theorem Qjs {l:List (Int×Int)} {win t n:Int}:(putL l win t n).length=putLen (mkF l) l.length win t n:=by unfold putL; simp
theorem QCl {l:List (Int×Int)} {win t n:Int} (h:putErr (mkF l) l.length win t=0):mkOk (mkF (putL l win t n)) (putL l win t n).length=true∧∀ m∈putL l win t n,m∈l∨m=(t,n):=by
 obtain ⟨h1,h2,h3,h4⟩:=QCf h
 have hK:=QeF (mkF l) l.length n
 have hF:=Qjq (mkF l) l.length win t n
 have hlen:putLen (mkF l) l.length win t n=putK (mkF l) l.length n+1 - putF (mkF l) l.length win t n:=by unfold putLen; rw [if_pos h]
 have hfn:putFn (mkF l) l.length win t n=fun i=>putG (mkF l) (putK (mkF l) l.length n) t n (i+putF (mkF l) l.length win t n):=by unfold putFn; rw [if_pos h]
 generalize hkk:putK (mkF l) l.length n=K at *
 generalize hff:putF (mkF l) l.length win t n=F at *
 constructor
 ·rw [Qjs,QBx (g:=putFn (mkF l) l.length win t n) (fun i hi=>by unfold putL; exact QpL _ hi),Qfl,hlen,hfn]
  intro i hi
  dsimp only
  unfold putG
  by_cases hik:i+F < K
  ·rw [if_pos hik]
   have k1:=(Qfl _ _).1 h1 (i+F) (by omega)
   refine ⟨k1.1,fun h0=>?_⟩
   rw [if_pos (by omega),show i - 1+F=i+F - 1 by omega]
   exact k1.2 (by omega)
  ·rw [if_neg hik]
   refine ⟨h2,fun h0=>?_⟩
   rw [if_pos (by omega)]
   have hk1:(mkF l (i - 1+F)).2 < n:=QCk (by rw [hkk]; omega)
   have hk2:=QpN h1 (i:=i - 1+F) (j:=l.length - 1) (by omega) (by omega)
   have hk3:=h4 (by omega)
   exact ⟨by dsimp only; omega,hk1⟩
 ·intro m hm
  unfold putL at hm
  obtain ⟨i,hi,rfl⟩:=List.mem_map.1 hm
  have hi:=List.mem_range.1 hi
  rw [hlen] at hi
  rw [hfn]
  dsimp only
  unfold putG
  by_cases hik:i+F < K
  ·rw [if_pos hik]
   exact .inl (Qi5 (by omega))
  ·rw [if_neg hik]
   exact .inr rfl
theorem EsOk.winM {s:Es} (h:EsOk s):131072≤s.win∧s.win≤68719476736:=by
 have h1:=h.win
 have h2:=h.cf.max
 omega
theorem EsOk.maxM {s:Es} (h:EsOk s):cutOf (s.cf.max * 65536)=s.cf.max * 65536:=Qf9 (by have h2:=h.cf.max; omega)
theorem Qe4 {s:Es} {t:Int} (h:EsOk s) (h1:s.now≤t) (h2:t≤1099511627776):(esFill s t).2=0∧EsOk (esAt s t):=by
 have h3:=h.now
 have h4:=h.bkAt
 obtain ⟨f1,f2,f3,f4⟩:=QkP (r:=esRate s) (m:=s.cf.burst * s.cf.seg) h.bk (t:=t) ⟨by omega,h2⟩ (by omega)
 refine ⟨f1,⟨h.cf,⟨by dsimp only [esAt]; omega,h2⟩,⟨h.last.1,by have:=h.last.2; dsimp only [esAt]; omega⟩,h.win,h.thr,h.high,h.fl,h.rtt,h.mo,fun m hm=>?_,h.rd,h.hy,h.ep,f3,?_,h.rec_,h.back⟩⟩
 ·have:=h.ms m hm
  unfold esMark at this ⊢
  simp only [Bool.and_eq_true,decide_eq_true_eq] at this ⊢
  exact ⟨Int.le_trans this.1 h1,this.2⟩
 ·show (esFill s t).1.at_≤t
  unfold esFill
  rw [f2]; exact Int.le_refl _
theorem QmP {s:Es} (h:EsOk s):EsOk (esCut s):=by
 unfold esCut
 cases esRecs s with
 | true=>exact h
 | false=>
  have hw:=h.winM
  have h1:=Qmq s.win
  have h2:=Qmr hw
  have h3:=h.win
  have h4:cutOf s.win=s.win:=Qf9 hw
  have hf:=h.fl
  unfold flOk at hf
  refine ⟨h.cf,h.now,h.last,⟨h1.1,by dsimp only [cond_false]; omega⟩,h1,?_,h.fl,h.rtt,h.mo,h.ms,h.rd,QzK,QmF,h.bk,h.bkAt,⟨hf.1,Int.le_refl _⟩,h.back⟩
  show 0≤epFast s.high (cutOf s.win)∧_
  rw [h4]
  exact QmC hw h.high
theorem QzP {w l n t:Int} {c:Cf} (h:131072≤w):131072≤idleOf w l n t c∧idleOf w l n t c≤w:=by
 unfold idleOf
 split
 ·omega
 ·unfold mx mn; (repeat' split) <;> omega
theorem Qna {s:Es} {e:Ev} (h:EsOk s):EsOk (esWake s e):=by
 unfold esWake
 split
 ·have h1:=QzP (l:=s.last) (n:=e.time) (t:=esRto s) (c:=s.cf) h.win.1
  have h2:=h.win
  exact ⟨h.cf,h.now,h.last,⟨h1.1,by dsimp only; omega⟩,h.thr,h.high,h.fl,h.rtt,h.mo,h.ms,h.rd,h.hy,QwY h.ep,h.bk,h.bkAt,h.rec_,h.back⟩
 ·exact h
theorem Qxx {s:Es} {e:Ev} (h:EsOk s) (ht:e.time=s.now) (k:(esSend0 s e).2=0):EsOk (esSend0 s e).1 ∧
  (esSend0 s e).1={ s with fl:=⟨s.fl.sent+e.bytes,s.fl.told,s.fl.out+e.bytes⟩,bk:=⟨s.bk.at_,s.bk.have_ - e.bytes * 1000000⟩,last:=e.time,lim:=!used s.win (s.fl.out+e.bytes) s.cf.seg } ∧
  floE s.win s.cf.seg 65536=0∧s.fl.out+e.bytes≤floN s.win s.cf.seg 65536∧e.bytes≤bkBytes s.bk∧1≤e.bytes:=by
 unfold esSend0 at k ⊢
 by_cases h1:floE s.win s.cf.seg 65536≠0
 ·rw [if_pos h1] at k; exact absurd k h1
 ·rw [if_neg h1] at k ⊢
  by_cases h2:(flSend s.fl e.bytes (floN s.win s.cf.seg 65536)).2≠0
  ·rw [if_pos h2] at k; exact absurd k h2
  ·rw [if_neg h2] at k ⊢
   by_cases h3:(bkTake s.bk e.bytes).2≠0
   ·rw [if_pos h3] at k; exact absurd k h3
   ·rw [if_neg h3]
    obtain ⟨a1,a2,a3,a4,a5,a6⟩:=Qir (Decidable.not_not.1 h2)
    obtain ⟨b1,b2,b3,b4,b5⟩:=Quy (Decidable.not_not.1 h3)
    have hn:=h.now
    have hr:=h.rec_
    have hb:=h.bkAt
    dsimp only
    rw [a4] at a3 ⊢
    rw [b4] at b5 ⊢
    refine ⟨⟨h.cf,h.now,⟨by dsimp only; omega,by dsimp only; omega⟩,h.win,h.thr,h.high,a3,h.rtt,h.mo,h.ms,h.rd,h.hy,h.ep,b5,hb,⟨hr.1,by dsimp only; omega⟩,h.back⟩,rfl,Decidable.not_not.1 h1,a6,b3,a2⟩
theorem QzO {h:Hy} {t:Int} (k:(hySample h t).2=0):hyOk (hySample h t).1:=by
 by_cases h1:hyOk h∧1≤t∧t≤1073741824
 ·rw [QoP h t h1]
  have h2:=QzJ h t h1.1 h1.2.1 h1.2.2
  exact (QzI _ h2.1 h2.2).1
 ·rw [QzN h t h1] at k; cases k
theorem Qid {s:Es} {e:Ev} (h:EsOk s) (ht:e.time=s.now) (k:(esTimes s e).2=0):EsOk (esTimes s e).1:=by
 unfold esTimes at k ⊢
 by_cases h0:e.rtt=0
 ·rw [if_pos h0]; exact h
 rw [if_neg h0] at k ⊢
 by_cases h1:(rttSample s.rtt e.rtt).2≠0
 ·rw [if_pos h1] at k; exact absurd k h1
 rw [if_neg h1] at k ⊢
 by_cases h2:putErr (mkF s.ms) s.ms.length 10000000 e.time≠0
 ·rw [if_pos h2] at k; exact absurd k h2
 rw [if_neg h2] at k ⊢
 have h1:=Decidable.not_not.1 h1
 have h2:=Decidable.not_not.1 h2
 have hs:=QFb h1
 obtain ⟨p1,p2⟩:=QCl (n:=e.rtt) h2
 have hms:∀ m∈putL s.ms 10000000 e.time e.rtt,esMark s.now m=true:=fun m hm=>by
  rcases p2 m hm with hm | rfl
  ·exact h.ms m hm
  ·unfold esMark
   simp only [Bool.and_eq_true,decide_eq_true_eq]
   exact ⟨by omega,hs.2⟩
 cases h3:esSlow s with
 | true=>
  rw [h3] at k
  simp only [cond_true] at k ⊢
  by_cases h4:(hySample s.hy e.rtt).2≠0
  ·rw [if_pos h4] at k; exact absurd k h4
  rw [if_neg h4]
  exact ⟨h.cf,h.now,h.last,h.win,h.thr,h.high,h.fl,Qsp _ _ h.rtt,p1,hms,h.rd,QzO (Decidable.not_not.1 h4),h.ep,h.bk,h.bkAt,h.rec_,h.back⟩
 | false=>
  simp only [cond_false]
  exact ⟨h.cf,h.now,h.last,h.win,h.thr,h.high,h.fl,Qsp _ _ h.rtt,p1,hms,h.rd,h.hy,h.ep,h.bk,h.bkAt,h.rec_,h.back⟩
theorem Qib {s:Es} (h:EsOk s) (k:(esRound s).2=0):EsOk (esRound s).1:=by
 have hf:=h.fl
 unfold flOk at hf
 have hr:=QCw (t:=esRes s) h.rd hf.1
 unfold esRound at k ⊢
 dsimp only at k ⊢
 cases h3:(rdAck s.rd (esRes s) s.fl.sent).2.1 && esSlow s with
 | true=>
  rw [h3] at k
  simp only [cond_true] at k ⊢
  by_cases h4:(hyRound s.hy).2≠0
  ·rw [if_pos h4] at k; exact absurd k h4
  rw [if_neg h4]
  exact ⟨h.cf,h.now,h.last,h.win,h.thr,h.high,h.fl,h.rtt,h.mo,h.ms,hr,(QgP _ h.hy).2.1,h.ep,h.bk,h.bkAt,h.rec_,h.back⟩
 | false=>
  simp only [cond_false]
  exact ⟨h.cf,h.now,h.last,h.win,h.thr,h.high,h.fl,h.rtt,h.mo,h.ms,hr,h.hy,h.ep,h.bk,h.bkAt,h.rec_,h.back⟩
theorem Qpk {s:Es} (h:EsOk s) (n:Int):131072≤mn (cutOf n) (cutOf (s.cf.max * 65536))∧mn (cutOf n) (cutOf (s.cf.max * 65536))≤s.cf.max * 65536:=by
 have h1:=Qem n
 have h2:=h.cf.max
 rw [h.maxM]
 unfold mn
 split <;> omega
theorem Qxl {s:Es} (h:EsOk s) (told:Int):EsOk (esFast s told):=by
 have h1:=Qpk h (growSlow s.win told s.hy)
 have h2:=h.cf.max
 refine ⟨h.cf,h.now,h.last,h1,?_,h.high,h.fl,h.rtt,h.mo,h.ms,h.rd,h.hy,h.ep,h.bk,h.bkAt,h.rec_,h.back⟩
 show 131072≤(bif s.hy.done then _ else s.thr)∧(bif s.hy.done then _ else s.thr)≤_
 cases s.hy.done
 ·exact h.thr
 ·simp only [cond_true]
  omega
theorem Qgd {s:Es} {e:Ev} (h:EsOk s) (ht:e.time=s.now):(esCalm0 s e).2=0∧EsOk (esCalm0 s e).1∧(esCalm0 s e).1.ep.on=true:=by
 unfold esCalm0
 cases ho:s.ep.on with
 | true=>exact ⟨rfl,h,ho⟩
 | false=>
  simp only [cond_false]
  have h1:=QmB (t:=e.time) (n:=s.win) (h:=s.high) (by rw [ht]; exact h.now) ⟨by have:=h.winM; omega,h.winM.2⟩ h.high
  obtain ⟨a1,a2,a3,a4,a5,a6⟩:=Qh7 h1
  rw [if_neg (fun h'=>h' h1)]
  exact ⟨rfl,⟨h.cf,h.now,h.last,h.win,h.thr,h.high,h.fl,h.rtt,h.mo,h.ms,h.rd,h.hy,a4,h.bk,h.bkAt,h.rec_,h.back⟩,a5⟩
theorem Qxg {s:Es} {e:Ev} (h:EsOk s) (ho:s.ep.on=true) (told:Int):EsOk (esCalm1 s e told):=by
 unfold esCalm1
 exact ⟨h.cf,h.now,h.last,Qpk h _,h.thr,h.high,h.fl,h.rtt,h.mo,h.ms,h.rd,h.hy,Qh8 h.ep ho (Qjw _ _ _ _),h.bk,h.bkAt,h.rec_,h.back⟩
theorem QmM {s:Es} {e:Ev} (h:EsOk s) (ht:e.time=s.now) (told:Int):(esCalm s e told).2=0∧EsOk (esCalm s e told).1:=by
 obtain ⟨h1,h2,h3⟩:=Qgd h ht
 unfold esCalm
 rw [if_neg (fun h'=>h' h1)]
 exact ⟨rfl,Qxg h2 h3 told⟩
theorem Qxo {s:Es} {e:Ev} (h:EsOk s) (ht:e.time=s.now) (k:(esGrow s e).2=0):EsOk (esGrow s e).1:=by
 unfold esGrow at k ⊢
 cases h1:esRecs s || s.lim with
 | true=>exact h
 | false=>
  rw [h1] at k
  simp only [cond_false] at k ⊢
  by_cases h2:floE e.bytes 65536 s.cf.seg≠0
  ·rw [if_pos h2] at k; exact absurd k h2
  rw [if_neg h2]
  cases esSlow s with
  | true=>exact Qxl h _
  | false=>exact (QmM h ht _).2
theorem Qie {s:Es} {e:Ev} (h:EsOk s) (k:(flBack s.fl e.bytes e.bytes).2=0):EsOk (esTold s e):=by
 have h1:=Qiq k (.inl rfl)
 obtain ⟨a1,a2,a3,a4⟩:=Qgj k
 have hr:=h.rec_
 refine ⟨h.cf,h.now,h.last,h.win,h.thr,h.high,h1,h.rtt,h.mo,h.ms,h.rd,h.hy,h.ep,h.bk,h.bkAt,?_,⟨Int.le_refl _,by dsimp only [esTold]; omega⟩⟩
 show 0≤s.rec_∧s.rec_≤(flBack s.fl e.bytes e.bytes).1.sent
 rw [a4]
 exact hr
theorem Qic (s:Es) (e:Ev):(esTimes s e).1.now=s.now:=by
 unfold esTimes
 (repeat' split) <;> (try (cases esSlow s <;> simp only [cond_true,cond_false])) <;> (try split) <;> rfl
theorem Qm3 (s:Es):(esRound s).1.now=s.now:=by
 unfold esRound
 dsimp only
 cases (rdAck s.rd (esRes s) s.fl.sent).2.1 && esSlow s <;> simp only [cond_true,cond_false] <;> (try split) <;> rfl
theorem Qw3 {s:Es} {e:Ev} (h:EsOk s) (ht:e.time=s.now) (k:(esAck s e).2=0):EsOk (esAck s e).1:=by
 unfold esAck at k ⊢
 by_cases h1:(flBack s.fl e.bytes e.bytes).2≠0
 ·rw [if_pos h1] at k; exact absurd k h1
 rw [if_neg h1] at k ⊢
 have h2:=Qie h (Decidable.not_not.1 h1)
 have n2:e.time=(esTold s e).now:=ht
 by_cases h3:(esTimes (esTold s e) e).2≠0
 ·rw [if_pos h3] at k; exact absurd k h3
 rw [if_neg h3] at k ⊢
 have h4:=Qid h2 n2 (Decidable.not_not.1 h3)
 have n4:=Qic (esTold s e) e
 by_cases h5:(esRound (esTimes (esTold s e) e).1).2≠0
 ·rw [if_pos h5] at k; exact absurd k h5
 rw [if_neg h5] at k ⊢
 have h6:=Qib h4 (Decidable.not_not.1 h5)
 have n6:=Qm3 (esTimes (esTold s e) e).1
 exact Qxo h6 (by rw [n6,n4]; exact n2) k
theorem Qxt {s:Es} {e:Ev} (h:EsOk s) (k:(esLose s e).2=0):EsOk (esLose s e).1:=by
 unfold esLose at k ⊢
 by_cases h1:(flBack s.fl e.bytes 0).2≠0
 ·rw [if_pos h1] at k; exact absurd k h1
 rw [if_neg h1]
 have h1:=Decidable.not_not.1 h1
 have h2:=Qiq h1 (.inr rfl)
 obtain ⟨a1,a2,a3,a4⟩:=Qgj h1
 refine QmP ⟨h.cf,h.now,h.last,h.win,h.thr,h.high,h2,h.rtt,h.mo,h.ms,h.rd,h.hy,h.ep,h.bk,h.bkAt,?_,h.back⟩
 dsimp only
 rw [a4]
 exact h.rec_
theorem Qxr {s:Es} (h:EsOk s) (k:(esLate s).2=0):EsOk (esLate s).1:=by
 unfold esLate at k ⊢
 by_cases h0:s.fl.out=0
 ·rw [if_pos h0] at k; cases k
 rw [if_neg h0] at k ⊢
 by_cases h1:(flBack s.fl s.fl.out 0).2≠0
 ·rw [if_pos h1] at k; exact absurd k h1
 rw [if_neg h1]
 have h1:=Decidable.not_not.1 h1
 have h2:=Qiq h1 (.inr rfl)
 obtain ⟨a1,a2,a3,a4⟩:=Qgj h1
 have hw:=h.winM
 have hm:=h.cf.max
 have h4:cutOf s.win=s.win:=Qf9 hw
 have h5:=h2
 unfold flOk at h5
 refine ⟨h.cf,h.now,h.last,⟨Int.le_refl _,by dsimp only; omega⟩,Qmq _,?_,h2,h.rtt,h.mo,h.ms,QCx _,QzL,QmF,h.bk,h.bkAt,⟨h5.1,Int.le_refl _⟩,QEX h.back⟩
 show 0≤epFast s.high (cutOf s.win)∧_
 rw [h4]
 exact QmC hw h.high
theorem Qxb {s:Es} {e:Ev} (h:EsOk s) (ht:e.time=s.now) (k:(esBy s e).2=0):EsOk (esBy s e).1:=by
 unfold esBy at k ⊢
 by_cases k6:e.kind=6
 ·rw [if_pos k6] at k ⊢
  have hw:=Qna (e:=e) h
  have hn:(esWake s e).now=s.now:=by unfold esWake; split <;> rfl
  exact (Qxx hw (by rw [hn]; exact ht) k).1
 rw [if_neg k6] at k ⊢
 by_cases k1:e.kind=1
 ·rw [if_pos k1] at k ⊢; exact Qw3 h ht k
 rw [if_neg k1] at k ⊢
 by_cases k2:e.kind=2
 ·rw [if_pos k2] at k ⊢; exact Qxt h k
 rw [if_neg k2] at k ⊢
 by_cases k3:e.kind=3
 ·rw [if_pos k3]; exact QmP h
 rw [if_neg k3] at k ⊢
 by_cases k4:e.kind=4
 ·rw [if_pos k4] at k ⊢; exact Qxr h k
 rw [if_neg k4] at k ⊢
 by_cases k5:e.kind=5
 ·rw [if_pos k5]
  exact ⟨h.cf,h.now,h.last,h.win,h.thr,h.high,h.fl,h.rtt,h.mo,h.ms,h.rd,h.hy,h.ep,h.bk,h.bkAt,h.rec_,h.back⟩
 rw [if_neg k5]
 exact h
open Go Go.RowKit
open Go.Conc (G)
namespace R
section
variable {P:Program} {Cx:Ctx} {Q:Exit→St→Prop} {S:St}
theorem Qhv {c:Code} (hbs:Cx.bs=[]) (h:∀ s:Nat→Nat,NewIn S.x (xOwn S.m s)→Sd P Cx c Q ⟨S.t.map fun p=>(p.1,.ext (ren s p.2)),[],xAll S s⟩):Sd P Cx c Q S:=fun s a w hr=>by
 have hn:NewIn S.x (xOwn S.m s):=by
  rintro b o ⟨k,o1,hk,rfl,rfl⟩ o' ho
  exact hr.mr.apart _ o' ho k (List.getElem?_eq_some_iff.1 hk).1 rfl
 refine h s hn s a w ⟨⟨fun k o hk=>by simp at hk,fun j k hj=>by simp at hj,fun k o hk=>by simp at hk,?_,fun b o _ k hk=>by simp at hk,fun k hk=>by simp at hk,?_,hr.mr.wf⟩,?_,hr.fr,hr.size,?_,hr.df⟩
 ·exact fun b o hb=>(Qhq hr.mr b o hb).1
 ·exact fun b o hb=>(Qhq hr.mr b o hb).2
 ·rw [hbs]; exact .none fun k hk=>by simp at hk
 ·have key:∀ (l:List (Nat×RV)) (i:Nat) (v:RV),lk (l.map fun p=>(p.1,RV.ext (ren s p.2))) i=some v→∃ u,lk l i=some u∧v=.ext (ren s u):=by
   intro l
   induction l with
   | nil=>intro i v h; simp [lk] at h
   | cons p l ih=>
    intro i v h
    rw [List.map_cons,Qa7] at h
    rw [Qa7]
    by_cases e:i=p.1
    ·simp only [e,if_true,Option.some.injEq] at h ⊢
     exact ⟨p.2,rfl,h.symm⟩
    ·simp only [e,if_false] at h ⊢
     exact ih i v h
  intro i v hi
  obtain ⟨u,h1,rfl⟩:=key S.t i v hi
  exact ⟨(hr.slot i u h1).1,rfl⟩
theorem callEN {g:FuncId} {ags:List RV} {es:List Value} {R:Value→(Nat→Obj→Prop)→Prop} {K:RV→St→Prop} {Pn:Value→St→Prop} (hg:goes P g) (he:toExts ags=some es)
  (hr:RetE P S.x g es R)
  (h:∀ (v:Value) (x' x'':Nat→Obj→Prop),R v x'→xsub S.x x''→xsub x' x''→NewIn S.x x'→K (.ext v) ⟨S.t,S.m,x''⟩):callW P false S (some (g,ags)) K Pn:=by
 refine .inl ⟨hg,.inr ⟨rfl,fun s w hm=>?_⟩⟩
 have e:=Qa9 he
 subst e
 rw [Qax]
 refine (hr.out w hm.kn hm.wf).mono fun e w' ⟨v,x',h1,h2,h3,h4,h5⟩=>?_
 refine ⟨h4.mono (by simp),.inl ⟨.ext v,⟨S.t,S.m,fun b o=>S.x b o∨x' b o⟩,h1,rfl,rfl,rfl,?_,h v x' _ h2 (fun b o hb=>.inl hb) (fun b o hb=>.inr hb) (fun b o hb o' ho=>(h3 b o hb).2.1 (hm.know b o' ho))⟩⟩
 have k:=hm.keep h4 h5
 refine ⟨k.mem,k.inj,k.cm,?_,?_,k.mine,?_,k.wf⟩
 ·rintro b o (hb | hb)
  ·exact k.ext b o hb
  ·exact (h3 b o hb).1
 ·rintro b o (hb | hb) i hi
  ·exact k.apart b o hb i hi
  ·have:=(h3 b o hb).2.1
   exact fun e=>this (e▸.inl (hm.mine i hi))
 ·rintro b o (hb | hb)
  ·exact k.know b o hb
  ·exact (h3 b o hb).2.2
end
def BackN (P:Program) (fn:Func) (x1:Nat→Obj→Prop) (R:Value→(Nat→Obj→Prop)→Prop):Exit→St→Prop
 | .normal,S=>resL P S fn.results.toList (fun vs=>∃ us x',toExts vs=some us∧xsub x' S.x∧NewIn x1 x'∧R (retV us) x')
 | .ret,S=>resL P S fn.results.toList (fun vs=>∃ us x',toExts vs=some us∧xsub x' S.x∧NewIn x1 x'∧R (retV us) x')
 | _,_=>False
theorem QeO {P:Program} {fn:Func} {x1:Nat→Obj→Prop} {R:Value→(Nat→Obj→Prop)→Prop} {S:St}:BackN P fn x1 R .ret S=resL P S fn.results.toList (fun vs=>∃ us x',toExts vs=some us∧xsub x' S.x∧NewIn x1 x'∧R (retV us) x'):=propext ⟨fun h=>h,fun h=>h⟩
def xWM (w:WM):Nat→Obj→Prop:=fun b o=>w.heap[b]? = some o∧w.O b
theorem QCI (s:Nat→Nat) (us:List Value):(if hv:(us.map RV.ext).length=1 then ren s ((us.map RV.ext)[0]'(by omega)) else .tuple ((us.map RV.ext).map (ren s)).toArray)=retV us:=by
 match us with
 | []=>rfl
 | [v]=>rfl
 | u1 :: u2 :: us=>simp [retV,ren,Function.comp_def]
theorem QpU {P:Program} {w w1:WM} {s:Nat→Nat} {m:List RO} {x x':Nat→Obj→Prop} (hwf:∀ b,w.O b→b < w.heap.size) (hm:Mem s m x w1) (hx:xsub x' x) (hn:NewIn (xWM w) x'):∀ b o,x' b o→w1.heap[b]? = some o∧¬ w.O b∧w1.O b:=fun b o hb=>
 ⟨hm.ext b o (hx b o hb),fun ho=>hn b o hb (w.heap[b]'(hwf b ho)) ⟨by simp,ho⟩,hm.know b o (hx b o hb)⟩
theorem Qhe {P:Program} {x:Nat→Obj→Prop} {f:FuncId} {fn:Func} {c:Code} {args:List Value} {R:Value→(Nat→Obj→Prop)→Prop} (hf:P.funcs[f]? = some fn) (hb:fn.body=some c) (hn:Nat.ble args.length fn.ntmps=true)
  (h:∀ w x1,xsub x x1→Sd P ⟨[],w,fn.ntmps,[]⟩ c (BackN P fn x1 R) { t:=mkT 0 (args.map .ext),m:=[],x:=x1 }):RetE P x f args R:=by
 refine ⟨fun w hx hwf=>?_⟩
 have:=Qci (s:=fun _=>0) (args:=args.map .ext) (R:=fun e w'=>∃ v x',e=.returned v∧R v x'∧(∀ b o,x' b o→w'.heap[b]? = some o∧¬ w.O b∧w'.O b)∧Fr [] w w'∧NewOk w') (bs:=[]) (m:=[]) (x:=xWM w) hf hb (by simpa using Nat.le_of_ble_eq_true hn)
  ⟨fun k o hk=>by simp at hk,fun j k hj=>by simp at hj,fun k o hk=>by simp at hk,fun b o hb=>hb.1,fun b o _ k hk=>by simp at hk,fun k hk=>by simp at hk,fun b o hb=>hb.2,hwf⟩ (.none fun k hk=>by simp at hk) (by simp [clo]) (h w _ (fun b o hb=>hx b o hb)) ?_
 ·rwa [Qax] at this
 ·intro e s S a w' hr hq
  have main:resL P S fn.results.toList (fun vs=>∃ us x',toExts vs=some us∧xsub x' S.x∧NewIn (xWM w) x'∧R (retV us) x') →
    a.defers=[]∧∀ w1,Rely w' w1→∃ v,(results fn a.tmps).run P w1.w=.ok v w1.w∧EvIn w1 ((results fn a.tmps).events P w1.w #[]) ∧
     ∃ v' x',(Ending.returned v)=.returned v'∧R v' x'∧(∀ b o,x' b o→w1.heap[b]? = some o∧¬ w.O b∧w1.O b)∧Fr [] w w1∧NewOk w1:=by
   intro h1
   refine ⟨hr.df,fun w1 hrel=>?_⟩
   have hr1:=hr.rely hrel
   obtain ⟨vs,g1,g2,us,x',h2,h3,h4,h5⟩:=Qc0 (fn:=fn) hr1.sl hr1.mr h1
   have e:=Qa9 h2
   subst e
   rw [QCI] at g1
   exact ⟨retV us,g1.1,g1.2,_,x',rfl,h5,QpU (P:=P) hwf hr1.mr h3 h4,hr1.fr,hr1.mr.new⟩
  cases e with
  | normal=>exact main hq
  | ret=>exact main hq
  | _=>exact hq.elim
structure PanC (P:Program) (x:Nat→Obj→Prop) (g:FuncId) (args:List Value) (v:Value):Prop where
 out:∀ w:WM,(∀ b o,x b o→w.heap[b]? = some o∧w.O b)→(∀ b,w.O b→b < w.heap.size)→Calls P g args.toArray w fun e w'=>e=.panicked [{ v,recovered:=false }]∧Fr [] w w'∧NewOk w'
theorem callPan {P:Program} {S:St} {g:FuncId} {ags:List RV} {es:List Value} {v:Value} {K:RV→St→Prop} {Pn:Value→St→Prop} (hg:goes P g) (he:toExts ags=some es) (hp:PanC P S.x g es v) (h:Pn v S):callW P false S (some (g,ags)) K Pn:=by
 refine .inl ⟨hg,.inr ⟨rfl,fun s w hm=>?_⟩⟩
 have e:=Qa9 he
 subst e
 rw [Qax]
 exact (hp.out w hm.kn hm.wf).mono fun e w' ⟨h1,h4,h5⟩=>⟨h4.mono (by simp),.inr ⟨v,S,h1,rfl,rfl,hm.keep h4 h5,h⟩⟩
def BackPan (v:Value):Exit→St→Prop
 | .panic ch,_=>ch=[{ v,recovered:=false }]
 | _,_=>False
theorem QfJ {v:Value} {ch:List PanicEntry} {S:St}:BackPan v (.panic ch) S=(ch=[{ v,recovered:=false }]):=propext ⟨fun h=>h,fun h=>h⟩
theorem Qg4 {P:Program} {x:Nat→Obj→Prop} {f:FuncId} {fn:Func} {c:Code} {args:List Value} {v:Value} (hf:P.funcs[f]? = some fn) (hb:fn.body=some c) (hn:Nat.ble args.length fn.ntmps=true)
  (h:∀ w,Sd P ⟨[],w,fn.ntmps,[]⟩ c (BackPan v) { t:=mkT 0 (args.map .ext),m:=[],x }):PanC P x f args v:=by
 refine ⟨fun w hx hwf=>?_⟩
 have:=Qci (s:=fun _=>0) (args:=args.map .ext) (R:=fun e w'=>e=.panicked [{ v,recovered:=false }]∧Fr [] w w'∧NewOk w') (bs:=[]) (m:=[]) (x:=x) hf hb (by simpa using Nat.le_of_ble_eq_true hn)
  ⟨fun k o hk=>by simp at hk,fun j k hj=>by simp at hj,fun k o hk=>by simp at hk,fun b o hb=>(hx b o hb).1,fun b o _ k hk=>by simp at hk,fun k hk=>by simp at hk,fun b o hb=>(hx b o hb).2,hwf⟩ (.none fun k hk=>by simp at hk) (by simp [clo]) (h w) ?_
 ·rwa [Qax] at this
 ·intro e s S a w' hr hq
  cases e with
  | panic ch=>
   cases (show ch=_ from hq)
   refine ⟨hr.df,fun w1 hrel=>?_⟩
   have hr1:=hr.rely hrel
   exact ⟨rfl,hr1.fr,hr1.mr.new⟩
  | _=>exact hq.elim
theorem Qjj {P:Program} {ops:Array Oper} {i:Nat} {rest:List Nat} {Q:Exit→Act→WM→Prop} {a:Act} {w:WM} {o:Oper} {d:Deferred} (ho:ops[i]? = some o) (hw:Region.wanted o (yielded ops a.tmps)=true)
  (hd:∀ v,(execOp a.eval o).run P v=.ok (.defer d) v∧(execOp a.eval o).events P v #[]=#[]) (h:OpsR P true ops rest Q ({ a with defers:=d :: a.defers }.put o.dst undef) w):OpsR P true ops (i :: rest) Q a w:=fun b k cs Stop hb hn hc=>by
 have hro:=hn rfl
 have hb':(b.kind == CallKind.early)=false:=by simpa using hb
 refine .ctl rfl (fun m v=>?_) (h b k cs Stop hb hn hc)
 rw [Qfx ho hw]
 have hs:o.semAt b.roundOf a.eval=execOp a.eval o:=by rw [hro]; unfold Oper.semAt; cases o.op <;> rfl
 have hs0:seen P b.fn #[]=#[]:=by rw [Go.Conc.seen_def]; rfl
 rw [hs]
 have e:({ b.atR a (.inRegion ops (i :: rest) :: k) with defers:=d :: a.defers }:Frame).finish undef=b.atR ({ a with defers:=d :: a.defers }.put o.dst undef) (.inRegion ops rest :: k):=by
  have:=Frame.finish_atR b { a with defers:=d :: a.defers } ops i rest k undef
  rw [ho] at this
  exact this
 simp only [stepG.apply,Sem.runT_eq,(hd v).1,(hd v).2,if_true]
 have e3:((b.atR a (.inRegion ops (i :: rest) :: k)).kind == CallKind.early)=false:=by simpa [Frame.atR] using hb'
 simp only [e3,Bool.false_eq_true,if_false]
 rw [show (b.atR a (.inRegion ops (i :: rest) :: k)).fn=b.fn from rfl,hs0]
 exact congrArg (fun fr=>GStep.after #[] (GStep.go { frame:=fr,callers:=cs,status:=.running,dying:=none } v)) e
def recVal:FrameMode→Value
 | .panicking ({ v,recovered:=false,goexit:=false } :: _)=>v
 | _=>.nilIface
def recMode:FrameMode→FrameMode
 | .panicking ({ v,recovered:=false,goexit:=false } :: older)=>.panicking ({ v,recovered:=true } :: older)
 | m=>m
theorem QE8 {P:Program} {Stop:Goroutine→WM→Prop} {ops:Array Oper} {i:Nat} {rest:List Nat} {a:Act} {w:WM} {o:Oper} {b c:Frame} {k:List Item} {cs:List Frame} (ho:ops[i]? = some o) (hw:Region.wanted o (yielded ops a.tmps)=true)
  (hd:∀ v,(execOp a.eval o).run P v=.ok .recover v∧(execOp a.eval o).events P v #[]=#[]) (hnd:∀ c,o.op≠.defer c) (hb:b.kind=.deferred) (hro:b.roundOf=none)
  (h:Run P Stop (G (b.atR (a.put o.dst (recVal c.mode)) (.inRegion ops rest :: k)) ({ c with mode:=recMode c.mode } :: cs)) w):Run P Stop (G (b.atR a (.inRegion ops (i :: rest) :: k)) (c :: cs)) w:=by
 refine .ctl rfl (fun m v=>?_) h
 rw [Qfx ho hw,Oper.semAt_eq _ _ _ hnd]
 have hs0:seen P b.fn #[]=#[]:=by rw [Go.Conc.seen_def]; rfl
 have hfin:∀ v,(b.atR a (.inRegion ops (i :: rest) :: k)).finish v=b.atR (a.put o.dst v) (.inRegion ops rest :: k):=fun v=>by rw [Frame.finish_atR,ho]; rfl
 have e3:((b.atR a (.inRegion ops (i :: rest) :: k)).kind == CallKind.early)=false:=by show (b.kind == _)=false; rw [hb]; rfl
 have e4:(b.atR a (.inRegion ops (i :: rest) :: k)).roundOf=none:=hro
 have e5:=tryRecover_deferred (fr:=b.atR a (.inRegion ops (i :: rest) :: k)) hb (c :: cs)
 simp only [stepG.apply,Sem.runT_eq,(hd v).1,(hd v).2,if_true,e3,Bool.false_eq_true,if_false,e4,e5]
 rw [show (b.atR a (.inRegion ops (i :: rest) :: k)).fn=b.fn from rfl,hs0]
 obtain ⟨c1,c2,c3,c4,cm,c5,c6⟩:=c
 simp only [hfin]
 cases cm with
 | panicking ch=>
  cases ch with
  | nil=>rfl
  | cons e older=>
   obtain ⟨v,r,g⟩:=e
   cases r <;> cases g <;> rfl
 | run=>rfl
 | returning=>rfl
theorem Qsl {P:Program} {Stop:Goroutine→WM→Prop} {fr:Frame} {cs:List Frame} {w:WM} {d:Deferred} {ds:List Deferred} {fv:Fn} {cap args:Array Value} {f:FuncId} (hm:fr.mode≠.run) (hd:fr.defers=d :: ds)
  (ht:d.target=.fn fv cap) (hi:∀ v,(invoke d.target d.args).run P v=.ok (.enter f args) v∧(invoke d.target d.args).events P v #[]=#[])
  (h:Run P Stop (G (Frame.enter P f args .deferred) ({ fr with defers:=ds } :: cs)) w):Run P Stop (G fr cs) w:=by
 refine .ctl rfl (fun m v=>?_) h
 have hs0:seen P fr.fn #[]=#[]:=by rw [Go.Conc.seen_def]; rfl
 obtain ⟨t,a⟩:=d
 simp only at ht hi
 subst ht
 cases hmode:fr.mode with
 | run=>exact absurd hmode hm
 | returning=>simp [G,stepG,unwind,callDeferred,hmode,hd,(hi v).1,(hi v).2,hs0,GStep.after]
 | panicking ch=>simp [G,stepG,unwind,callDeferred,hmode,hd,(hi v).1,(hi v).2,hs0,GStep.after]
theorem QE5 {P:Program} {Stop:Goroutine→WM→Prop} {fr c:Frame} {cs:List Frame} {w:WM} {fn:Func} (hk:fr.kind=.deferred) (hm:fr.mode=.returning) (hd:fr.defers=[]) (hf:P.funcs[fr.fn]? = some fn) (hr:fn.results=#[])
  (h:Run P Stop (G { c with mode:=settle c.mode } cs) w):Run P Stop (G fr (c :: cs)) w:=by
 refine .ctl rfl (fun m v=>?_) h
 have hs0:seen P fr.fn #[]=#[]:=by rw [Go.Conc.seen_def]; rfl
 have r1:(results fn fr.tmps).run P v=.ok (.tuple #[]) v∧(results fn fr.tmps).events P v #[]=#[]:=by
  unfold results
  rw [hr]
  constructor <;> simp
 simp only [G,stepG,unwind,doReturn,hm,hd,hk,hf,Sem.runT_eq,r1.1,r1.2,hs0]
 obtain ⟨c1,c2,c3,c4,cm,c5,c6⟩:=c
 cases cm with
 | panicking ch=>
  cases ch with
  | nil=>rfl
  | cons e older=>
   obtain ⟨v,r,g⟩:=e
   cases r
   ·rfl
   ·simp only [settle]
    generalize List.dropWhile (fun x=>!x.goexit) older=l
    cases l <;> rfl
 | run=>rfl
 | returning=>rfl
def DCall (P:Program) (g:FuncId) (args:Array Value) (u:FrameMode) (w:WM) (K:WM→Prop):Prop:=
 ∀ (c:Frame) (cs:List Frame) (Stop:Goroutine→WM→Prop),c.mode=u→(∀ w',K w'→Run P Stop (G { c with mode:=.returning } cs) w')→Run P Stop (G (Frame.enter P g args .deferred) (c :: cs)) w
theorem QwN {P:Program} {g:FuncId} {fn:Func} {id:Nat} {ops:Array Oper} {y:Code} {o:Oper} {args:Array Value} {u:FrameMode} {w:WM} {K:WM→Prop} {Q:Exit→Act→WM→Prop} (hu:settle (recMode u)=.returning)
  (hf:P.funcs[g]? = some fn) (hb:fn.body=some (.seq (.region id ops false) y)) (hres:fn.results=#[]) (ho:ops[0]? = some o) (hg:o.guard=none) (hsz:0 < ops.size)
  (hd:∀ (a:Act) v,(execOp a.eval o).run P v=.ok .recover v∧(execOp a.eval o).events P v #[]=#[]) (hnd:∀ c,o.op≠.defer c)
  (h:OpsR P true ops (List.range' 1 (ops.size - 1)) (thenA (fun a w=>Wp P true y Q a w) Q) (Act.put { tmps:=args ++ Array.replicate (fn.ntmps - args.size) undef,defers:=[] } o.dst (recVal u)) w)
  (hQ:∀ e a w',Q e a w'→(e=.normal∨e=.ret)∧a.defers=[]∧K w'):DCall P g args u w K:=by
 intro c cs Stop hc hk
 subst hc
 let b:Frame:={ (default:Frame) with fn:=g,kind:=.deferred,roundOf:=none }
 have henter:Frame.enter P g args .deferred=b.atR { tmps:=args ++ Array.replicate (fn.ntmps - args.size) undef,defers:=[] } [.code (.seq (.region id ops false) y)]:=by
  simp [Frame.enter,Frame.atR,hf,hb,b]
 rw [henter]
 refine .ctl rfl (fun _ _=>Qsz) (.ctl rfl (fun _ _=>QjQ) ?_)
 have hr:List.range ops.size=0 :: List.range' 1 (ops.size - 1):=by
  rw [List.range_eq_range']
  obtain ⟨n,hn⟩:∃ n,ops.size=n+1:=⟨ops.size - 1,by omega⟩
  rw [hn,List.range'_succ]; rfl
 rw [hr]
 refine QE8 ho (by simp [Region.wanted,hg]) (hd _) hnd rfl rfl ?_
 have fin:∀ e a w',Q e a w'→After P Stop b [] ({ c with mode:=recMode c.mode } :: cs) e a w':=fun e a w' hq=>by
  obtain ⟨he,hdf,hK⟩:=hQ e a w' hq
  have last:∀ todo,Run P Stop (G { b.atR a todo with mode:=.returning } ({ c with mode:=recMode c.mode } :: cs)) w':=fun todo=>by
   refine QE5 (fn:=fn) rfl rfl hdf hf hres ?_
   have:=hk w' hK
   rw [←hu] at this
   exact this
  rcases he with rfl | rfl
  ·exact .ctl rfl (fun _ _=>QeK rfl) (last _)
  ·exact fun k'=>.ctl rfl (fun _ _=>Qfy rfl) (last _)
 refine h b [.code y] _ Stop (by simp [b]) (fun _=>rfl) fun e a w' hq=>?_
 cases e with
 | normal=>exact hq b [] _ Stop (by simp [b]) (fun _=>rfl) fin
 | exit id=>exact absurd (hQ _ _ _ hq).1 (by simp)
 | goto l=>exact absurd (hQ _ _ _ hq).1 (by simp)
 | ret=>exact fin _ _ _ hq
 | panic ch=>exact absurd (hQ _ _ _ hq).1 (by simp)
 | outgrown=>exact absurd (hQ _ _ _ hq).1 (by simp)
def bodyPostR (P:Program) (fn:Func) (R:Ending→WM→Prop):Exit→Act→WM→Prop
 | .normal,a,w | .ret,a,w=>∃ d fv cap g args,a.defers=[d]∧d.target=.fn fv cap∧(∀ v,(invoke d.target d.args).run P v=.ok (.enter g args) v∧(invoke d.target d.args).events P v #[]=#[]) ∧
   DCall P g args .returning w fun w'=>∀ w1,Rely w' w1→∃ v,(results fn a.tmps).run P w1.w=.ok v w1.w∧EvIn w1 ((results fn a.tmps).events P w1.w #[])∧R (.returned v) w1
 | .panic ch,a,w=>∃ d fv cap g args,a.defers=[d]∧d.target=.fn fv cap∧(∀ v,(invoke d.target d.args).run P v=.ok (.enter g args) v∧(invoke d.target d.args).events P v #[]=#[]) ∧
   DCall P g args (.panicking ch) w fun w'=>∀ w1,Rely w' w1→∃ v,(results fn a.tmps).run P w1.w=.ok v w1.w∧EvIn w1 ((results fn a.tmps).events P w1.w #[])∧R (.returned v) w1
 | _,_,_=>False
theorem Qwr {P:Program} {f:FuncId} {fn:Func} {c:Code} {args:Array Value} {w:WM} {R:Ending→WM→Prop} (hf:P.funcs[f]? = some fn) (hb:fn.body=some c)
  (h:Wp P true c (bodyPostR P fn R) { tmps:=args ++ Array.replicate (fn.ntmps - args.size) undef,defers:=[] } w):Calls P f args w R:=by
 intro cs Stop hc
 let b:Frame:={ (default:Frame) with fn:=f,kind:=.normal,roundOf:=none }
 have henter:Frame.enter P f args .normal=b.atR { tmps:=args ++ Array.replicate (fn.ntmps - args.size) undef,defers:=[] } [.code c]:=by
  simp [Frame.enter,Frame.atR,hf,hb,b]
 rw [henter]
 have ret:∀ (a':Act) (todo:List Item) (w':WM) (u:FrameMode),u≠.run→(∃ d fv cap g args,a'.defers=[d]∧d.target=.fn fv cap∧(∀ v,(invoke d.target d.args).run P v=.ok (.enter g args) v∧(invoke d.target d.args).events P v #[]=#[]) ∧
   DCall P g args u w' fun w'=>∀ w1,Rely w' w1→∃ v,(results fn a'.tmps).run P w1.w=.ok v w1.w∧EvIn w1 ((results fn a'.tmps).events P w1.w #[])∧R (.returned v) w1) →
   Run P Stop (G { b.atR a' todo with mode:=u } cs) w':=fun a' todo w' u hu hq=>by
  obtain ⟨d,fv,cap,g,args',h1,h2,h3,h4⟩:=hq
  refine Qsl (fr:={ b.atR a' todo with mode:=u }) (ds:=[]) hu h1 h2 h3 (h4 _ _ _ rfl fun w2 hw2=>?_)
  refine hc _ _ ⟨rfl,fun w1 hr=>?_⟩
  obtain ⟨v,g1,g2,g3⟩:=hw2 w1 hr
  exact ⟨.returned v,⟨rfl,rfl,rfl,fn,hf,g1,g2⟩,g3⟩
 refine h b [] cs Stop (by simp [b]) (fun _=>rfl) fun e a' w' hq=>?_
 cases e with
 | normal=>exact .ctl rfl (fun _ _=>QeK rfl) (ret _ _ _ _ (by simp) hq)
 | ret=>exact fun k'=>.ctl rfl (fun _ _=>Qfy rfl) (ret _ _ _ _ (by simp) hq)
 | panic ch=>exact fun k'=>ret a' k' w' (.panicking ch) (by simp) hq
 | exit id=>exact hq.elim
 | goto l=>exact hq.elim
 | outgrown=>exact hq.elim
end R
theorem Qt2 (a:Option Addr) (h:∀ ad,a=some ad→ad.spot=none):a.map (·.add 0)=a:=by
 cases a with
 | none=>rfl
 | some ad=>
  obtain ⟨b,o,sp⟩:=ad
  have:=h _ rfl
  simp only at this
  subst this
  rfl
theorem Mks.spot {x:Nat→Obj→Prop} {a:Option Addr} {len:Nat} {f:Nat→Int×Int} (h:Mks x a len f) (h0:0 < len):∀ ad,a=some ad→ad.spot=none:=by
 obtain ⟨b,off,_,_,_,h1,_⟩:=h 0 h0
 intro ad e
 rw [h1] at e
 cases e
 rfl
theorem QFH {P:Program} {t e:TypeId} {a:Option Addr} {len cap k:Nat} {K:Value→Prop} (ht:P.underlying t=some (.slice e)) (hi:(P.info? e).isSome=true) (ha:0 < k→∀ ad,a=some ad→ad.spot=none) (hz:k≤cap) (h:K (.slice a k k)) :
  pureW P (Instr.sliceAt t (.slice a len cap) none (some (.int .i64 k)) (some (.int .i64 k))) K:=by
 obtain ⟨i,hi⟩:=Option.isSome_iff_exists.1 hi
 refine ⟨_,fun w=>?_,h⟩
 have h1:((k:Nat):Int)≤(cap:Int):=by omega
 by_cases h0:k=0
 ·constructor <;> simp [Instr.sliceAt,Instr.slice,run_underlying ht,Instr.sliceBounds,Instr.sliceBound,asIntOf,h1,hz,sizeOf,typeInfo,hi,h0]
 ·have e0:=Qt2 a (ha (by omega))
  constructor <;> simp [Instr.sliceAt,Instr.slice,run_underlying ht,Instr.sliceBounds,Instr.sliceBound,asIntOf,h1,hz,sizeOf,typeInfo,hi,h0,e0]
theorem QFI {P:Program} {t e:TypeId} {b off len cap sz:Nat} {z:Int} {K:Value→Prop} (ht:P.underlying t=some (.slice e)) (hi:(P.info? e).map (·.size)=some sz) (hz:0≤z∧z≤len) (hlt:z < cap) (h:K (.slice (some ⟨b,off+z.toNat * sz,none⟩) (len - z.toNat) (cap - z.toNat))) :
  pureW P (Instr.sliceAt t (.slice (some ⟨b,off,none⟩) len cap) (some (.int .i64 z)) none none) K:=by
 obtain ⟨i,hi,hs⟩:=Option.map_eq_some_iff.1 hi
 refine ⟨_,fun w=>?_,h⟩
 have hz1:0≤z∧z≤(len:Int):=hz
 have h0:¬ cap=z.toNat:=by omega
 constructor <;> simp [Instr.sliceAt,Instr.slice,run_underlying ht,Instr.sliceBounds,Instr.sliceBound,asIntOf,hz1,sizeOf,typeInfo,hi,h0,hs,Addr.add]
theorem RMk.mono {len:Nat} {f:Nat→Int×Int} {v:Value} {x x':Nat→Obj→Prop} (h:RMk len f v x) (hx:xsub x x'):RMk len f v x':=by
 obtain ⟨a,c,h1,h2,h3,h4,h5⟩:=h
 exact ⟨a,c,h1,h2,h3,h4,h5.mono hx⟩
theorem QCo {f:Nat→Int×Int} {len:Nat} {win t n err:Int} {u:Value} {x:Nat→Obj→Prop} (h:putErr f len win t=err) (h0:err≠0) (hR:RMk len f u x):PutR f len win t n (.tuple #[u,.int .i64 err]) x:=by
 refine ⟨u,by rw [h],?_⟩
 have h1:¬ putErr f len win t=0:=by rw [h]; exact h0
 unfold putLen putFn
 rw [if_neg h1,if_neg h1]
 exact hR
theorem QCi {f:Nat→Int×Int} {k:Nat} {t n:Int}:mkCells (putG f k t n) (k+1)=mkCells f k ++ [.int .i64 t,.int .i64 n]:=by
 rw [Qi4,QBw (g:=f) (fun i hi=>by unfold putG; rw [if_pos hi])]
 unfold putG
 rw [if_neg (Nat.lt_irrefl _)]
theorem QCh {f:Nat→Int×Int} {len:Nat} {win t n:Int} (hw:0≤win):idxOf (fun i=>decide (t - win≤(putG f (putK f len n) t n i).1)) (putK f len n+1)=(putF f len win t n:Int):=by
 unfold putF idxOf
 cases h:(List.range (putK f len n+1)).find? fun i=>decide (t - win≤(putG f (putK f len n) t n i).1) with
 | none=>
  rw [List.find?_range_eq_none] at h
  have:=h (putK f len n) (by omega)
  unfold putG at this
  rw [if_neg (Nat.lt_irrefl _)] at this
  simp at this
  omega
 | some k=>simp
theorem QxP {k:Nat} {T:TypeId} {row:List RV} (h:∀ v∈row,∃ u,v=.ext u):cloO k (.cells T row)=true:=by
 simp only [cloO,List.all_eq_true]
 intro v hv
 obtain ⟨u,rfl⟩:=h v hv
 rfl
theorem QxR (K:Nat) (f:Nat→Int×Int) (t n:Int) {z:List RV} (hz:∀ v∈z,∃ u,v=.ext u):∀ v∈List.map RV.ext (mkCells f K) ++ [RV.ext (.int .i64 t),RV.ext (.int .i64 n)] ++ z,∃ u,v=.ext u:=by
 intro v hv
 simp only [List.mem_append,List.mem_map,List.mem_cons,List.not_mem_nil,or_false] at hv
 rcases hv with (⟨u,_,rfl⟩ | rfl | rfl) | hv
 ·exact ⟨_,rfl⟩
 ·exact ⟨_,rfl⟩
 ·exact ⟨_,rfl⟩
 ·exact hz v hv
theorem QzR {S:St} {s:Nat→Nat} {a:Option Addr} {len cap:Nat} {f:Nat→Int×Int} {n:Int} (hmax:len≤1000000) (hm:Mks S.x a len f) (hS:S.m[2]? = some (.cells 3 [.ext (.int .i64 n)])) :
  PureC Tryz.prog (xAll S s) 109 [.slice a len cap,.func (.func 240) #[] #[.pointer (some ⟨s 2,0,none⟩)]] (.int .i64 (idxOf (fun i=>decide (n≤(f i).2)) len)):=
 Qh0 (caps:=[.pointer (some ⟨s 2,0,none⟩)]) (by omega) (hm.mono fun b o h=>.inl h) Qy6 fun i hi=>QvA (.inr ⟨2,_,hS,rfl,rfl⟩)
theorem QzT {S:St} {s:Nat→Nat} {cap k:Nat} {f:Nat→Int×Int} {t win n:Int} {T:TypeId} {row:List RV} (hmax:k≤1000000) (hw:in64 (t - win)) (h0:S.m[0]? = some (.cells 3 [.ext (.int .i64 win)])) (h1:S.m[1]? = some (.cells 3 [.ext (.int .i64 t)]))
  (h4:S.m[4]? = some (.cells T row)) (hr:∃ r,row=(mkCells (putG f k t n) (k+1)).map .ext ++ r) :
  PureC Tryz.prog (xAll S s) 109 [.slice (some ⟨s 4,0,none⟩) (k+1) cap,.func (.func 241) #[] #[.pointer (some ⟨s 1,0,none⟩),.pointer (some ⟨s 0,0,none⟩)]] (.int .i64 (idxOf (fun i=>decide (t - win≤(putG f k t n i).1)) (k+1))):=
 Qh0 (caps:=[.pointer (some ⟨s 1,0,none⟩),.pointer (some ⟨s 0,0,none⟩)]) (by omega) (Qht (fun b o h=>.inr h) h4 hr) Qy7 fun i hi=>QvB (.inr ⟨1,_,h1,rfl,rfl⟩) (.inr ⟨0,_,h0,rfl,rfl⟩) hw
theorem Quz {S:St} {t n:Int} {K:RV→St→Prop} (h:K (.sl S.m.length 0 1 1) ⟨S.t,S.m ++ [.cells 93 [.ext (.int .i64 t),.ext (.int .i64 n)]],S.x⟩) :
  bldW Tryz.prog S 39 1 [0] [.ext (.agg #[.int .i64 t,.int .i64 n])] K:=
 QhH (z:=.agg #[.int .i64 0,.int .i64 0]) (n:=2) (b:=16) #[.int .i64 t,.int .i64 n] rfl Tryz.underlying39 (by kernel_rfl) (by decide) (by decide) (by kernel_rfl) h
theorem QCp {c0 c1 c2 c3 c4 c:Code} (hc:Tryz.f191.body=some (.seq c0 (.seq c1 (.seq c2 (.seq c3 (.seq c4 c)))))) {w:WM} {x1 x2:Nat→Obj→Prop} {len K cap':Nat} {f:Nat→Int×Int} {r3:RO} {z:List RV} (win t n:Int) (hmax:K≤1000000)
  (ht:0≤t∧t≤1099511627776) (hw:0≤win∧win≤9223372036854775807) (he:putErr f len win t=0) (hk:putK f len n=K) (hFi:idxOf (fun i=>decide (t - win≤(putG f K t n i).1)) (K+1)=(putF f len win t n:Int)) (hc1:K+1≤cap') (hc2:cap'≤maxLen) (hx:xsub x1 x2) :
  Sd Tryz.prog ⟨[],w,68,[]⟩ c (BackN Tryz.prog Tryz.f191 x1 (PutR f len win t n)) ⟨[(5,.ptr 0 0),(6,.ptr 1 0),(11,.sl 4 0 (K+1) cap')],
   [.cells 3 [.ext (.int .i64 win)],.cells 3 [.ext (.int .i64 t)],.cells 3 [.ext (.int .i64 n)],r3,.cells 93 (List.map .ext (mkCells f K) ++ [.ext (.int .i64 t),.ext (.int .i64 n)] ++ z)],x2⟩:=by
 simp only [Tryz.f191,Option.some.injEq,Code.seq.injEq] at hc
 replace hc:=hc.2.2.2.2.2
 subst hc
 have hF:=Qjq f len win t n
 rw [hk] at hF
 have hrow:∃ r,List.map RV.ext (mkCells f K) ++ [RV.ext (.int .i64 t),RV.ext (.int .i64 n)] ++ z=(mkCells (putG f K t n) (K+1)).map .ext ++ r:=⟨z,by rw [QCi]; simp⟩
 refine Qal (Qaa (by kernel_rfl) ?_)
 repeat' (first|(((with_reducible show callW _ _ _ (some (109,_)) _ _);refine callO QiO (fun s=>QzT hmax (i64k (by omega) (by omega)) rfl rfl rfl hrow) ?_))|((fail_if_success (with_reducible refine stk ?_));simp only [WE,Nat.reduceBEq]))
 rw [hFi]
 refine Qhv rfl fun s hN=>?_
 refine Qaa (by kernel_rfl) ?_
 repeat' (first|(((with_reducible show pureW _ (Instr.sliceAt _ _ _ _ _) _);refine QFI (sz:=2) Tryz.underlying39 (by kernel_rfl) (by omega) (by omega) ?_))|((fail_if_success (with_reducible refine stk ?_));simp only [WE,Nat.reduceBEq,ren]))
 rw [QeO]
 show resL _ _ [.tmp 8,.tmp 9] _
 simp only [Int.toNat_natCast,WE,Nat.reduceLeDiff,segX,Nat.reduceBEq,Nat.reduceAdd,Nat.reduceEqDiff,Int.reduceNeg,Int.reduceEq,Int.reduceBEq,Int.reduceLT,Int.reduceLE,Int.reduceBNe,Int.reduceToNat,Nat.reduceMul,Nat.reduceMod,Int.reducePow,reduceIte,ty_3,Qby,Qbr,Qef,Qbp,Tryz.underlying39,Qfs]
 have hMk:=Qht (x:=xOwn [.cells 3 [.ext (.int .i64 win)],.cells 3 [.ext (.int .i64 t)],.cells 3 [.ext (.int .i64 n)],r3,.cells 93 (List.map .ext (mkCells f K) ++ [.ext (.int .i64 t),.ext (.int .i64 n)] ++ z)] s) (fun b o h=>h) (k:=4) rfl hrow
 refine ⟨_,xOwn _ s,rfl,fun b o h=>.inr h,hN.mono hx,_,by rw [he]; rfl,?_⟩
 have e1:putLen f len win t n=K+1 - putF f len win t n:=by unfold putLen; rw [if_pos he,hk]
 have e2:putFn f len win t n=fun i=>putG f K t n (i+putF f len win t n):=by unfold putFn; rw [if_pos he,hk]
 rw [e1,e2]
 refine ⟨_,_,rfl,by omega,by omega,(fun h=>by cases h),?_⟩
 have:=hMk.drop (n:=putF f len win t n)
 rw [Nat.zero_add] at this
 exact this
theorem QrB {c0 c1 c2 c3 c:Code} (hc:Tryz.f191.body=some (.seq c0 (.seq c1 (.seq c2 (.seq c3 c))))) {w:WM} {x1:Nat→Obj→Prop} {a:Option Addr} {len cap:Nat} {f:Nat→Int×Int} (win t n:Int) (hmax:len≤1000000) (hcap:len≤cap) (hn:a=none→len=0)
  (ht:0≤t∧t≤1099511627776) (hw:0≤win∧win≤9223372036854775807) (hm:Mks x1 a len f) (he:putErr f len win t=0) :
  Sd Tryz.prog ⟨[],w,68,[]⟩ c (BackN Tryz.prog Tryz.f191 x1 (PutR f len win t n)) ⟨[(0,.ext (.slice a len cap)),(5,.ptr 0 0),(6,.ptr 1 0),(7,.ptr 2 0),(10,.ext (.int .i64 (putK f len n)))],[.cells 3 [.ext (.int .i64 win)],.cells 3 [.ext (.int .i64 t)],.cells 3 [.ext (.int .i64 n)]],x1⟩:=by
 simp only [Tryz.f191,Option.some.injEq,Code.seq.injEq] at hc
 replace hc:=hc.2.2.2.2
 subst hc
 have hK:=QeF f len n
 have hF:=Qjq f len win t n
 have hFi:=QCh (f:=f) (len:=len) (t:=t) (n:=n) hw.1
 generalize hk:putK f len n=K at *
 have hml:K+1≤maxLen:=by simp only [maxLen]; omega
 have hown:=Qe1 (x:=x1) (cap:=K) (a:=a) (len:=K) (f:=f) (by omega) (fun h=>by have:=hn h; omega) (hm.take hK)
 have hlen:=QcV f K
 refine Qal (Qaa (by kernel_rfl) ?_)
 repeat' (first|(with_reducible refine And.intro ?_ ?_)|(((with_reducible show xsub _ _); first | exact hx | exact fun _ _ h=>h))|(((with_reducible show callW _ _ _ (some (239,_)) _ _);refine callEN Qfe rfl hown ?_; intro v x' x'' hR hx hx' hN; obtain ⟨b,rfl,hMk⟩:=hR))|(((with_reducible show pureW _ (Instr.sliceAt _ _ _ _ _) _);refine QFH Tryz.underlying39 (by kernel_rfl) (fun h0=>Mks.spot hm (by omega)) (by omega) ?_))|(((with_reducible show bldW _ _ _ _ _ _ _);refine Quz ?_))|((with_reducible show cW _ _ (.region 8 _ true) _ _);refine Qaw QAI (by kernel_rfl) Qaf (by kernel_rfl) ?_ (fun _ _ _ h=>h))|((fail_if_success (with_reducible refine stk ?_));simp only [WE,Nat.reduceLeDiff,Nat.reduceBEq,Nat.reduceAdd,ty_3,Qef]))
 all_goals (refine Qt5 (l:=mkCells f K) QeT hlen (fun i u hi=>((hMk.mono hx').cell i u hi).2) ⟨by omega,by omega⟩ (by omega) (by with_unfolding_all exact rfl) rfl rfl ?_; intro cap' hc1 hc2; simp only [WE,Nat.reduceLeDiff,segX,Nat.reduceBEq,Nat.reduceAdd,Nat.reduceEqDiff,Int.reduceNeg,Int.reduceEq,Int.reduceBEq,Int.reduceLT,Int.reduceLE,Int.reduceBNe,Int.reduceToNat,Nat.reduceMul,Nat.reduceMod,Int.reducePow,reduceIte,ty_3,Qby,Qbr,Qef,Qbp,Tryz.underlying39,Qfs,Qkf,true_and])
 all_goals (try (refine And.intro ?_ ?_))
 all_goals (try (first | exact hx | (intro _ _ h; exact h)))
 all_goals refine QcC rfl ?_ (QCp (x2:=x'') (r3:=.cells 93 [.ext (.int .i64 t),.ext (.int .i64 n)]) (z:=zrow [.int .i64 0,.int .i64 0] (cap' - (K+1))) (len:=len) (cap':=cap') rfl win t n (by omega) ht hw he hk hFi (by omega) hc2 hx)
 all_goals exact Qae ⟨⟨rfl,rfl⟩,⟨rfl,rfl⟩,⟨rfl,rfl⟩,trivial⟩ (Qao _) (by simp only [List.all_cons,List.all_nil,Bool.and_true,QxP (QxR K f t n (QbG [.int .i64 0,.int .i64 0] (cap' - (K+1))))]; rfl)
theorem QrA {c0 c1 c:Code} (hc:Tryz.f191.body=some (.seq c0 (.seq c1 c))) {w:WM} {x1:Nat→Obj→Prop} {a:Option Addr} {len cap:Nat} {f:Nat→Int×Int} (win t n:Int) (hmax:len≤1000000) (hcap:len≤cap) (hn:a=none→len=0)
  (ht:0≤t∧t≤1099511627776) (hw:0≤win∧win≤9223372036854775807) (hm:Mks x1 a len f) (he:putErr f len win t=0) :
  Sd Tryz.prog ⟨[],w,68,[]⟩ c (BackN Tryz.prog Tryz.f191 x1 (PutR f len win t n)) ⟨[(0,.ext (.slice a len cap)),(5,.ptr 0 0),(6,.ptr 1 0),(7,.ptr 2 0)],[.cells 3 [.ext (.int .i64 win)],.cells 3 [.ext (.int .i64 t)],.cells 3 [.ext (.int .i64 n)]],x1⟩:=by
 have hc':=hc
 simp only [Tryz.f191,Option.some.injEq,Code.seq.injEq] at hc
 replace hc:=hc.2.2
 subst hc
 have hK:=QeF f len n
 have hidx:=QCj f len n
 refine Qal (Qaa (by kernel_rfl) ?_)
 repeat' (first|((fail_if_success (with_reducible refine stk ?_));simp only [WE,Nat.reduceBEq]))
 refine callO QiO (fun s=>QzR (S:=⟨_,_,_⟩) hmax hm rfl) ?_
 rw [hidx]
 by_cases hk:putK f len n=len
 ·rw [if_pos hk]
  simp only [WE,Nat.reduceLeDiff,segX,Nat.reduceBEq,Nat.reduceAdd,Nat.reduceEqDiff,Int.reduceNeg,Int.reduceEq,Int.reduceBEq,Int.reduceLT,Int.reduceLE,Int.reduceBNe,Int.reduceToNat,Nat.reduceMul,Nat.reduceMod,Int.reducePow,reduceIte,ty_3,Qby,Qbr,Qef,Qbp,Tryz.underlying39,Qfs]
  refine Qal (Qaa (by kernel_rfl) ?_)
  repeat' (first|((fail_if_success (with_reducible refine stk ?_));simp only [WE,Nat.reduceBEq,Int.reduceNeg,Int.reduceLT,Qbp]))
  refine QcC rfl ?_ (QrB (cap:=cap) hc' win t n hmax hcap hn ht hw hm he)
  rw [hk]
  exact Qae ⟨⟨rfl,rfl⟩,⟨rfl,rfl⟩,⟨rfl,rfl⟩,⟨rfl,rfl⟩,⟨rfl,rfl⟩,trivial⟩ (Qao _) rfl
 ·rw [if_neg hk]
  have hd:decide ((putK f len n:Int) < 0)=false:=decide_eq_false (by omega)
  simp only [WE,Nat.reduceLeDiff,segX,Nat.reduceBEq,Nat.reduceAdd,Nat.reduceEqDiff,Int.reduceNeg,Int.reduceEq,Int.reduceBEq,Int.reduceLT,Int.reduceLE,Int.reduceBNe,Int.reduceToNat,Nat.reduceMul,Nat.reduceMod,Int.reducePow,reduceIte,ty_3,Qby,Qbr,Qef,Qbp,Tryz.underlying39,Qfs]
  refine Qal (Qaa (by kernel_rfl) ?_)
  repeat' (first|((fail_if_success (with_reducible refine stk ?_));simp only [WE,hd]))
  refine QcC rfl ?_ (QrB (cap:=cap) hc' win t n hmax hcap hn ht hw hm he)
  exact Qae ⟨⟨rfl,rfl⟩,⟨rfl,rfl⟩,⟨rfl,rfl⟩,⟨rfl,rfl⟩,⟨rfl,rfl⟩,trivial⟩ (Qao _) rfl
theorem QlT {x:Nat→Obj→Prop} {a:Option Addr} {len cap:Nat} {f:Nat→Int×Int} (win t n:Int) (hmax:len≤1000000) (hcap:len≤cap) (hn:a=none→len=0) (hw:in64 win) (hm:Mks x a len f) :
  RetE Tryz.prog x 191 [.slice a len cap,.int .i64 win,.int .i64 t,.int .i64 n] (PutR f len win t n):=by
 refine Qhe Tryz.func191 rfl rfl fun w x1 hx1=>?_
 have hm1:=hm.mono hx1
 have hC:=QlS (x:=x1) (cap:=cap) (by omega) hm1
 have hml:len≤maxLen:=by simp only [maxLen]; omega
 refine Qal (Qaa (by kernel_rfl) ?_)
 simp only [WE,Nat.reduceLeDiff,segX,Nat.reduceBEq,Nat.reduceAdd,Nat.reduceEqDiff,Int.reduceNeg,Int.reduceEq,Int.reduceBEq,Int.reduceLT,Int.reduceLE,Int.reduceBNe,Int.reduceToNat,Nat.reduceMul,Nat.reduceMod,Int.reducePow,reduceIte,ty_3,Qby,Qbr,Qef,Qbp,Tryz.underlying39,Qfs]
 refine Qal (Qaa (by kernel_rfl) ?_)
 have hI:=QhU (x:=x1) t
 have err:∀ {e:Int} {S:St} {v:Value} {x':Nat→Obj→Prop},putErr f len win t=e→e≠0→lk S.t 8=some (.ext v)→lk S.t 9=some (.ext (.int .i64 e))→ROwn len f v x'→xsub x' S.x→NewIn x1 x'→BackN Tryz.prog Tryz.f191 x1 (PutR f len win t n) .ret S:=by
  intro e S v x' e0 en h8 h9 hR hx' hN
  rw [QeO]
  show resL _ _ [.tmp 8,.tmp 9] _
  simp only [Qhb,Qhc,Qjy,h8,h9,Qc9]
  exact ⟨_,x',rfl,hx',hN,QCo e0 en (hR.mk hml)⟩
 cases h1:mkOk f len with
 | false=>
  have e0:putErr f len win t=51:=if_pos (.inl h1)
  rw [h1] at hC
  repeat' (first|(((with_reducible show callW _ _ _ (some (239,_)) _ _);refine callEN Qfe rfl (Qe1 hmax hn hm1) ?_; intro v x' x'' hR hx hx' hN))|((with_reducible show callW _ _ _ (some (59,_)) _ _);refine callP Qdo rfl (hC) ?_)|((fail_if_success (with_reducible refine stk ?_));simp only [WE,Nat.reduceBEq]))
  all_goals exact err e0 (by decide) rfl rfl hR hx' hN
 | true=>
 rw [h1] at hC
 cases h2:isT t with
 | false=>
  have e0:putErr f len win t=51:=if_pos (.inr (.inl h2))
  rw [h2] at hI
  repeat' (first|(((with_reducible show callW _ _ _ (some (239,_)) _ _);refine callEN Qfe rfl (Qe1 hmax hn hm1) ?_; intro v x' x'' hR hx hx' hN))|((with_reducible show callW _ _ _ (some (59,_)) _ _);refine callP Qdo rfl (hC) ?_)|((with_reducible show callW _ _ _ (some (108,_)) _ _);refine callP Qb7 rfl (hI) ?_)|((fail_if_success (with_reducible refine stk ?_));simp only [WE,Nat.reduceBEq,ty_3]))
  all_goals exact err e0 (by decide) rfl rfl hR hx' hN
 | true=>
 rw [h2] at hI
 have ht:=(QgS t).1 h2
 cases h3:decide (win < 0) with
 | true=>
  have e0:putErr f len win t=51:=if_pos (.inr (.inr (of_decide_eq_true h3)))
  repeat' (first|(((with_reducible show callW _ _ _ (some (239,_)) _ _);refine callEN Qfe rfl (Qe1 hmax hn hm1) ?_; intro v x' x'' hR hx hx' hN))|((with_reducible show callW _ _ _ (some (59,_)) _ _);refine callP Qdo rfl (hC) ?_)|((with_reducible show callW _ _ _ (some (108,_)) _ _);refine callP Qb7 rfl (hI) ?_)|((fail_if_success (with_reducible refine stk ?_));simp only [WE,Nat.reduceBEq,ty_3,h3]))
  all_goals exact err e0 (by decide) rfl rfl hR hx' hN
 | false=>
 have hw0:=of_decide_eq_false h3
 have n51:¬ (mkOk f len=false∨isT t=false∨win < 0):=by rw [h1,h2]; simp; omega
 by_cases h4:0 < len
 ·obtain ⟨b,off,c,T,fr,rfl,hxb,g1,g2,g3⟩:=hm1 (len - 1) (by omega)
  have hd4:decide ((0:Int) < (len:Int))=true:=decide_eq_true (by omega)
  have em:wr .i64 ((len:Int) - 1)=((len - 1:Nat):Int):=by rw [Qag (by omega) (by omega)]; omega
  have et:((len - 1:Nat):Int).toNat=len - 1:=Int.toNat_natCast _
  cases h5:decide (t < (f (len - 1)).1) with
  | true=>
   have e0:putErr f len win t=50:=by
    unfold putErr
    rw [if_neg n51,if_pos ⟨h4,of_decide_eq_true h5⟩]
   repeat' (first|(((with_reducible show callW _ _ _ (some (239,_)) _ _);refine callEN Qfe rfl (Qe1 hmax hn hm1) ?_; intro v x' x'' hR hx hx' hN))|(with_reducible refine Qam ⟨by omega,by omega⟩ ?_)|(with_reducible refine Qad hxb g2 ?_)|((with_reducible show callW _ _ _ (some (59,_)) _ _);refine callP Qdo rfl (hC) ?_)|((with_reducible show callW _ _ _ (some (108,_)) _ _);refine callP Qb7 rfl (hI) ?_)|((with_reducible show cW _ _ (.region 3 _ true) _ _);refine Qas Qi0 (by kernel_rfl) Qaf (by kernel_rfl) ?_)|((fail_if_success (with_reducible refine stk ?_));simp only [WE,Nat.reduceBEq,ty_3,Qby,Qbr,Qbp,h3,hd4,em,et,h5]))
   all_goals exact err e0 (by decide) rfl rfl hR hx' hN
  | false=>
   have e0:putErr f len win t=0:=by
    unfold putErr
    rw [if_neg n51,if_neg (fun h=>absurd h.2 (of_decide_eq_false h5))]
   unfold in64 at hw
   repeat' (first|(with_reducible refine Qam ⟨by omega,by omega⟩ ?_)|(with_reducible refine Qad hxb g2 ?_)|((with_reducible show callW _ _ _ (some (59,_)) _ _);refine callP Qdo rfl (hC) ?_)|((with_reducible show callW _ _ _ (some (108,_)) _ _);refine callP Qb7 rfl (hI) ?_)|((with_reducible show cW _ _ (.region 3 _ true) _ _);refine Qas Qi0 (by kernel_rfl) Qaf (by kernel_rfl) ?_)|((fail_if_success (with_reducible refine stk ?_));simp only [WE,Nat.reduceBEq,ty_3,Qby,Qbr,Qbp,h3,hd4,em,et,h5]))
   refine QcC rfl ?_ (QrA (cap:=cap) rfl win t n hmax hcap hn ht ⟨by omega,hw.2⟩ hm1 e0)
   exact Qae ⟨⟨rfl,rfl⟩,⟨rfl,rfl⟩,⟨rfl,rfl⟩,⟨rfl,rfl⟩,trivial⟩ (Qao _) rfl
 ·have e0:putErr f len win t=0:=by
   unfold putErr
   rw [if_neg n51,if_neg (fun h=>h4 h.1)]
  have hd4:decide ((0:Int) < (len:Int))=false:=decide_eq_false (by omega)
  unfold in64 at hw
  repeat' (first|((with_reducible show callW _ _ _ (some (59,_)) _ _);refine callP Qdo rfl (hC) ?_)|((with_reducible show callW _ _ _ (some (108,_)) _ _);refine callP Qb7 rfl (hI) ?_)|((with_reducible show cW _ _ (.region 3 _ true) _ _);refine Qas Qi0 (by kernel_rfl) Qaf (by kernel_rfl) ?_)|((fail_if_success (with_reducible refine stk ?_));simp only [WE,Nat.reduceBEq,ty_3,Qbp,h3,hd4]))
  refine QcC rfl ?_ (QrA (cap:=cap) rfl win t n hmax hcap hn ht ⟨by omega,hw.2⟩ hm1 e0)
  exact Qae ⟨⟨rfl,rfl⟩,⟨rfl,rfl⟩,⟨rfl,rfl⟩,⟨rfl,rfl⟩,trivial⟩ (Qao _) rfl
#print axioms QlT
theorem ld_0 (s:Es) (u:Value):loadX false 1 0 (s.cells u).toArray=some (.int .i64 s.cf.seg):=rfl
theorem ld_1 (s:Es) (u:Value):loadX false 1 1 (s.cells u).toArray=some (.int .i64 s.cf.max):=rfl
theorem ld_2 (s:Es) (u:Value):loadX false 1 2 (s.cells u).toArray=some (.int .i64 s.cf.first):=rfl
theorem ld_3 (s:Es) (u:Value):loadX false 1 3 (s.cells u).toArray=some (.int .i64 s.cf.grain):=rfl
theorem ld_4 (s:Es) (u:Value):loadX false 1 4 (s.cells u).toArray=some (.int .i64 s.cf.least):=rfl
theorem ld_5 (s:Es) (u:Value):loadX false 1 5 (s.cells u).toArray=some (.int .i64 s.cf.great):=rfl
theorem ld_6 (s:Es) (u:Value):loadX false 1 6 (s.cells u).toArray=some (.int .i64 s.cf.burst):=rfl
theorem ld_7 (s:Es) (u:Value):loadX false 1 7 (s.cells u).toArray=some (.int .i64 s.now):=rfl
theorem ld_8 (s:Es) (u:Value):loadX false 1 8 (s.cells u).toArray=some (.int .i64 s.last):=rfl
theorem ld_9 (s:Es) (u:Value):loadX false 1 9 (s.cells u).toArray=some (.int .i64 s.win):=rfl
theorem Qdr (s:Es) (u:Value):loadX false 1 10 (s.cells u).toArray=some (.int .i64 s.thr):=rfl
theorem Qds (s:Es) (u:Value):loadX false 1 11 (s.cells u).toArray=some (.int .i64 s.high):=rfl
theorem Qdt (s:Es) (u:Value):loadX false 1 12 (s.cells u).toArray=some (.int .i64 s.fl.sent):=rfl
theorem Qdu (s:Es) (u:Value):loadX false 1 13 (s.cells u).toArray=some (.int .i64 s.fl.told):=rfl
theorem Qdv (s:Es) (u:Value):loadX false 1 14 (s.cells u).toArray=some (.int .i64 s.fl.out):=rfl
theorem Qdw (s:Es) (u:Value):loadX false 1 15 (s.cells u).toArray=some (.bool s.rtt.has):=rfl
theorem Qdx (s:Es) (u:Value):loadX false 1 16 (s.cells u).toArray=some (.int .i64 s.rtt.mean):=rfl
theorem Qdy (s:Es) (u:Value):loadX false 1 17 (s.cells u).toArray=some (.int .i64 s.rtt.far):=rfl
theorem Qdz (s:Es) (u:Value):loadX false 1 18 (s.cells u).toArray=some (u):=rfl
theorem QdA (s:Es) (u:Value):loadX false 1 19 (s.cells u).toArray=some (.int .i64 s.rd.id):=rfl
theorem QdB (s:Es) (u:Value):loadX false 1 20 (s.cells u).toArray=some (.int .i64 s.rd.end_):=rfl
theorem QdC (s:Es) (u:Value):loadX false 1 21 (s.cells u).toArray=some (.int .i64 s.hy.last):=rfl
theorem QdD (s:Es) (u:Value):loadX false 1 22 (s.cells u).toArray=some (.int .i64 s.hy.least):=rfl
theorem QdE (s:Es) (u:Value):loadX false 1 23 (s.cells u).toArray=some (.int .i64 s.hy.many):=rfl
theorem QdF (s:Es) (u:Value):loadX false 1 24 (s.cells u).toArray=some (.bool s.hy.gentle):=rfl
theorem QdG (s:Es) (u:Value):loadX false 1 25 (s.cells u).toArray=some (.bool s.hy.done):=rfl
theorem QdH (s:Es) (u:Value):loadX false 1 26 (s.cells u).toArray=some (.int .i64 s.hy.base):=rfl
theorem QdI (s:Es) (u:Value):loadX false 1 27 (s.cells u).toArray=some (.int .i64 s.hy.rounds):=rfl
theorem QdJ (s:Es) (u:Value):loadX false 1 28 (s.cells u).toArray=some (.bool s.ep.on):=rfl
theorem QdK (s:Es) (u:Value):loadX false 1 29 (s.cells u).toArray=some (.int .i64 s.ep.start):=rfl
theorem QdL (s:Es) (u:Value):loadX false 1 30 (s.cells u).toArray=some (.int .i64 s.ep.first):=rfl
theorem QdM (s:Es) (u:Value):loadX false 1 31 (s.cells u).toArray=some (.int .i64 s.ep.max):=rfl
theorem QdN (s:Es) (u:Value):loadX false 1 32 (s.cells u).toArray=some (.int .i64 s.ep.k):=rfl
theorem QdO (s:Es) (u:Value):loadX false 1 33 (s.cells u).toArray=some (.int .i64 s.ep.est):=rfl
theorem QdP (s:Es) (u:Value):loadX false 1 34 (s.cells u).toArray=some (.int .i64 s.rec_):=rfl
theorem QdQ (s:Es) (u:Value):loadX false 1 35 (s.cells u).toArray=some (.int .i64 s.back):=rfl
theorem QdR (s:Es) (u:Value):loadX false 1 36 (s.cells u).toArray=some (.int .i64 s.bk.at_):=rfl
theorem QdS (s:Es) (u:Value):loadX false 1 37 (s.cells u).toArray=some (.int .i64 s.bk.have_):=rfl
theorem QdT (s:Es) (u:Value):loadX false 1 38 (s.cells u).toArray=some (.bool s.lim):=rfl
theorem Qd1 (s:Es) (u:Value):loadX true 7 0 (s.cells u).toArray=some (.agg #[.int .i64 s.cf.seg,.int .i64 s.cf.max,.int .i64 s.cf.first,.int .i64 s.cf.grain,.int .i64 s.cf.least,.int .i64 s.cf.great,.int .i64 s.cf.burst]):=by kernel_rfl
theorem QdY (s:Es) (u:Value):loadX true 3 12 (s.cells u).toArray=some (.agg #[.int .i64 s.fl.sent,.int .i64 s.fl.told,.int .i64 s.fl.out]):=by kernel_rfl
theorem QdZ (s:Es) (u:Value):loadX true 3 15 (s.cells u).toArray=some (.agg #[.bool s.rtt.has,.int .i64 s.rtt.mean,.int .i64 s.rtt.far]):=by kernel_rfl
theorem QdV (s:Es) (u:Value):loadX true 2 19 (s.cells u).toArray=some (.agg #[.int .i64 s.rd.id,.int .i64 s.rd.end_]):=by kernel_rfl
theorem Qd2 (s:Es) (u:Value):loadX true 7 21 (s.cells u).toArray=some (.agg #[.int .i64 s.hy.last,.int .i64 s.hy.least,.int .i64 s.hy.many,.bool s.hy.gentle,.bool s.hy.done,.int .i64 s.hy.base,.int .i64 s.hy.rounds]):=by kernel_rfl
theorem Qd0 (s:Es) (u:Value):loadX true 6 28 (s.cells u).toArray=some (.agg #[.bool s.ep.on,.int .i64 s.ep.start,.int .i64 s.ep.first,.int .i64 s.ep.max,.int .i64 s.ep.k,.int .i64 s.ep.est]):=by kernel_rfl
theorem QdW (s:Es) (u:Value):loadX true 2 36 (s.cells u).toArray=some (.agg #[.int .i64 s.bk.at_,.int .i64 s.bk.have_]):=by kernel_rfl
theorem QdX (s:Es) (u:Value):loadX true 39 0 (s.cells u).toArray=some (.agg #[.int .i64 s.cf.seg,.int .i64 s.cf.max,.int .i64 s.cf.first,.int .i64 s.cf.grain,.int .i64 s.cf.least,.int .i64 s.cf.great,.int .i64 s.cf.burst,.int .i64 s.now,.int .i64 s.last,.int .i64 s.win,.int .i64 s.thr,.int .i64 s.high,.int .i64 s.fl.sent,.int .i64 s.fl.told,.int .i64 s.fl.out,.bool s.rtt.has,.int .i64 s.rtt.mean,.int .i64 s.rtt.far,u,.int .i64 s.rd.id,.int .i64 s.rd.end_,.int .i64 s.hy.last,.int .i64 s.hy.least,.int .i64 s.hy.many,.bool s.hy.gentle,.bool s.hy.done,.int .i64 s.hy.base,.int .i64 s.hy.rounds,.bool s.ep.on,.int .i64 s.ep.start,.int .i64 s.ep.first,.int .i64 s.ep.max,.int .i64 s.ep.k,.int .i64 s.ep.est,.int .i64 s.rec_,.int .i64 s.back,.int .i64 s.bk.at_,.int .i64 s.bk.have_,.bool s.lim]):=by kernel_rfl
section
variable {x:Nat→Obj→Prop} {b:Nat} {T:TypeId} {fr:Nat×Nat} {s:Es} {u:Value}
theorem Qf2 (hx:x b (.cells (s.cells u).toArray T fr)):PureC Tryz.prog x 89 [.pointer (some ⟨b,0,none⟩)] (.int .i64 (esRes s)):=by
 refine Qab Tryz.func89 rfl rfl fun w=>?_
 refine Qaa (by kernel_rfl) ?_
 repeat' (first|(((with_reducible show extW _ _ _ _ _ _);refine Qad hx (by first | with_reducible exact ld_0 _ _ | with_reducible exact ld_1 _ _ | with_reducible exact ld_2 _ _ | with_reducible exact ld_3 _ _ | with_reducible exact ld_4 _ _ | with_reducible exact ld_5 _ _ | with_reducible exact ld_6 _ _ | with_reducible exact ld_7 _ _ | with_reducible exact ld_8 _ _ | with_reducible exact ld_9 _ _ | with_reducible exact Qdr _ _ | with_reducible exact Qds _ _ | with_reducible exact Qdt _ _ | with_reducible exact Qdu _ _ | with_reducible exact Qdv _ _ | with_reducible exact Qdw _ _ | with_reducible exact Qdx _ _ | with_reducible exact Qdy _ _ | with_reducible exact Qdz _ _ | with_reducible exact QdA _ _ | with_reducible exact QdB _ _ | with_reducible exact QdC _ _ | with_reducible exact QdD _ _ | with_reducible exact QdE _ _ | with_reducible exact QdF _ _ | with_reducible exact QdG _ _ | with_reducible exact QdH _ _ | with_reducible exact QdI _ _ | with_reducible exact QdJ _ _ | with_reducible exact QdK _ _ | with_reducible exact QdL _ _ | with_reducible exact QdM _ _ | with_reducible exact QdN _ _ | with_reducible exact QdO _ _ | with_reducible exact QdP _ _ | with_reducible exact QdQ _ _ | with_reducible exact QdR _ _ | with_reducible exact QdS _ _ | with_reducible exact QdT _ _ | with_reducible exact Qd1 _ _ | with_reducible exact QdY _ _ | with_reducible exact QdZ _ _ | with_reducible exact QdV _ _ | with_reducible exact Qd2 _ _ | with_reducible exact Qd0 _ _ | with_reducible exact QdW _ _ | with_reducible exact QdX _ _) ?_))|((with_reducible show cW _ _ (.region 1 _ true) _ _);refine Qas QBr (by kernel_rfl) Qaf (by kernel_rfl) ?_)|((fail_if_success (with_reducible refine stk ?_));simp only [WE,Nat.reduceBEq,Nat.reduceAdd,ty_3,QbS,QbE,QaJ,Qap,QEU, QcD]))
 all_goals rfl
theorem QcI (hx:x b (.cells (s.cells u).toArray T fr)):PureC Tryz.prog x 121 [.pointer (some ⟨b,0,none⟩)] (.bool (esSlow s)):=by
 refine Qab Tryz.func121 rfl rfl fun w=>?_
 refine Qaa (by kernel_rfl) ?_
 repeat' (first|(((with_reducible show extW _ _ _ _ _ _);refine Qad hx (by first | with_reducible exact ld_0 _ _ | with_reducible exact ld_1 _ _ | with_reducible exact ld_2 _ _ | with_reducible exact ld_3 _ _ | with_reducible exact ld_4 _ _ | with_reducible exact ld_5 _ _ | with_reducible exact ld_6 _ _ | with_reducible exact ld_7 _ _ | with_reducible exact ld_8 _ _ | with_reducible exact ld_9 _ _ | with_reducible exact Qdr _ _ | with_reducible exact Qds _ _ | with_reducible exact Qdt _ _ | with_reducible exact Qdu _ _ | with_reducible exact Qdv _ _ | with_reducible exact Qdw _ _ | with_reducible exact Qdx _ _ | with_reducible exact Qdy _ _ | with_reducible exact Qdz _ _ | with_reducible exact QdA _ _ | with_reducible exact QdB _ _ | with_reducible exact QdC _ _ | with_reducible exact QdD _ _ | with_reducible exact QdE _ _ | with_reducible exact QdF _ _ | with_reducible exact QdG _ _ | with_reducible exact QdH _ _ | with_reducible exact QdI _ _ | with_reducible exact QdJ _ _ | with_reducible exact QdK _ _ | with_reducible exact QdL _ _ | with_reducible exact QdM _ _ | with_reducible exact QdN _ _ | with_reducible exact QdO _ _ | with_reducible exact QdP _ _ | with_reducible exact QdQ _ _ | with_reducible exact QdR _ _ | with_reducible exact QdS _ _ | with_reducible exact QdT _ _ | with_reducible exact Qd1 _ _ | with_reducible exact QdY _ _ | with_reducible exact QdZ _ _ | with_reducible exact QdV _ _ | with_reducible exact Qd2 _ _ | with_reducible exact Qd0 _ _ | with_reducible exact QdW _ _ | with_reducible exact QdX _ _) ?_))|((with_reducible show cW _ _ (.region 1 _ true) _ _);refine Qas QAR (by kernel_rfl) Qaf (by kernel_rfl) ?_)|((fail_if_success (with_reducible refine stk ?_));simp only [WE,Nat.reduceBEq,ty_3,QaF,QbT,Qap,QCY, QcD]))
 all_goals rfl
theorem Qde (hx:x b (.cells (s.cells u).toArray T fr)):PureC Tryz.prog x 133 [.pointer (some ⟨b,0,none⟩)] (.bool (esRecs s)):=by
 refine Qab Tryz.func133 rfl rfl fun w=>?_
 refine Qaa (by kernel_rfl) ?_
 repeat' (first|(((with_reducible show extW _ _ _ _ _ _);refine Qad hx (by first | with_reducible exact ld_0 _ _ | with_reducible exact ld_1 _ _ | with_reducible exact ld_2 _ _ | with_reducible exact ld_3 _ _ | with_reducible exact ld_4 _ _ | with_reducible exact ld_5 _ _ | with_reducible exact ld_6 _ _ | with_reducible exact ld_7 _ _ | with_reducible exact ld_8 _ _ | with_reducible exact ld_9 _ _ | with_reducible exact Qdr _ _ | with_reducible exact Qds _ _ | with_reducible exact Qdt _ _ | with_reducible exact Qdu _ _ | with_reducible exact Qdv _ _ | with_reducible exact Qdw _ _ | with_reducible exact Qdx _ _ | with_reducible exact Qdy _ _ | with_reducible exact Qdz _ _ | with_reducible exact QdA _ _ | with_reducible exact QdB _ _ | with_reducible exact QdC _ _ | with_reducible exact QdD _ _ | with_reducible exact QdE _ _ | with_reducible exact QdF _ _ | with_reducible exact QdG _ _ | with_reducible exact QdH _ _ | with_reducible exact QdI _ _ | with_reducible exact QdJ _ _ | with_reducible exact QdK _ _ | with_reducible exact QdL _ _ | with_reducible exact QdM _ _ | with_reducible exact QdN _ _ | with_reducible exact QdO _ _ | with_reducible exact QdP _ _ | with_reducible exact QdQ _ _ | with_reducible exact QdR _ _ | with_reducible exact QdS _ _ | with_reducible exact QdT _ _ | with_reducible exact Qd1 _ _ | with_reducible exact QdY _ _ | with_reducible exact QdZ _ _ | with_reducible exact QdV _ _ | with_reducible exact Qd2 _ _ | with_reducible exact Qd0 _ _ | with_reducible exact QdW _ _ | with_reducible exact QdX _ _) ?_))|((with_reducible show callW _ _ _ (some (89,_)) _ _);refine callP QgA rfl (Qf2 hx) ?_)|((with_reducible show cW _ _ (.region 1 _ true) _ _);refine QeX QAu (by kernel_rfl) Qaf (by kernel_rfl) ?_)|((fail_if_success (with_reducible refine stk ?_));simp only [WE,Nat.reduceBEq,ty_3,Qe8,Qap,QC7, QcD]))
 all_goals rfl
theorem QvD (hx:x b (.cells (s.cells u).toArray T fr)):PureC Tryz.prog x 75 [.pointer (some ⟨b,0,none⟩)] (.int .i64 (wr .i64 (s.cf.burst * s.cf.seg))):=by
 refine Qab Tryz.func75 rfl rfl fun w=>?_
 refine Qaa (by kernel_rfl) ?_
 repeat' (first|(((with_reducible show extW _ _ _ _ _ _);refine Qad hx (by first | with_reducible exact ld_0 _ _ | with_reducible exact ld_1 _ _ | with_reducible exact ld_2 _ _ | with_reducible exact ld_3 _ _ | with_reducible exact ld_4 _ _ | with_reducible exact ld_5 _ _ | with_reducible exact ld_6 _ _ | with_reducible exact ld_7 _ _ | with_reducible exact ld_8 _ _ | with_reducible exact ld_9 _ _ | with_reducible exact Qdr _ _ | with_reducible exact Qds _ _ | with_reducible exact Qdt _ _ | with_reducible exact Qdu _ _ | with_reducible exact Qdv _ _ | with_reducible exact Qdw _ _ | with_reducible exact Qdx _ _ | with_reducible exact Qdy _ _ | with_reducible exact Qdz _ _ | with_reducible exact QdA _ _ | with_reducible exact QdB _ _ | with_reducible exact QdC _ _ | with_reducible exact QdD _ _ | with_reducible exact QdE _ _ | with_reducible exact QdF _ _ | with_reducible exact QdG _ _ | with_reducible exact QdH _ _ | with_reducible exact QdI _ _ | with_reducible exact QdJ _ _ | with_reducible exact QdK _ _ | with_reducible exact QdL _ _ | with_reducible exact QdM _ _ | with_reducible exact QdN _ _ | with_reducible exact QdO _ _ | with_reducible exact QdP _ _ | with_reducible exact QdQ _ _ | with_reducible exact QdR _ _ | with_reducible exact QdS _ _ | with_reducible exact QdT _ _ | with_reducible exact Qd1 _ _ | with_reducible exact QdY _ _ | with_reducible exact QdZ _ _ | with_reducible exact QdV _ _ | with_reducible exact Qd2 _ _ | with_reducible exact Qd0 _ _ | with_reducible exact QdW _ _ | with_reducible exact QdX _ _) ?_))|((with_reducible show cW _ _ (.region 1 _ true) _ _);refine Qas QBm (by kernel_rfl) Qaf (by kernel_rfl) ?_)|((fail_if_success (with_reducible refine stk ?_));simp only [WE,Nat.reduceBEq,ty_3,QaB,QaX,QaY,Qap,QEQ, QcD]))
 all_goals rfl
theorem QlV (hx:x b (.cells (s.cells u).toArray T fr)):PureC Tryz.prog x 74 [.pointer (some ⟨b,0,none⟩)] (.int .i64 (esRate s)):=by
 refine Qab Tryz.func74 rfl rfl fun w=>?_
 refine Qaa (by kernel_rfl) ?_
 repeat' (first|(((with_reducible show extW _ _ _ _ _ _);refine Qad hx (by first | with_reducible exact ld_0 _ _ | with_reducible exact ld_1 _ _ | with_reducible exact ld_2 _ _ | with_reducible exact ld_3 _ _ | with_reducible exact ld_4 _ _ | with_reducible exact ld_5 _ _ | with_reducible exact ld_6 _ _ | with_reducible exact ld_7 _ _ | with_reducible exact ld_8 _ _ | with_reducible exact ld_9 _ _ | with_reducible exact Qdr _ _ | with_reducible exact Qds _ _ | with_reducible exact Qdt _ _ | with_reducible exact Qdu _ _ | with_reducible exact Qdv _ _ | with_reducible exact Qdw _ _ | with_reducible exact Qdx _ _ | with_reducible exact Qdy _ _ | with_reducible exact Qdz _ _ | with_reducible exact QdA _ _ | with_reducible exact QdB _ _ | with_reducible exact QdC _ _ | with_reducible exact QdD _ _ | with_reducible exact QdE _ _ | with_reducible exact QdF _ _ | with_reducible exact QdG _ _ | with_reducible exact QdH _ _ | with_reducible exact QdI _ _ | with_reducible exact QdJ _ _ | with_reducible exact QdK _ _ | with_reducible exact QdL _ _ | with_reducible exact QdM _ _ | with_reducible exact QdN _ _ | with_reducible exact QdO _ _ | with_reducible exact QdP _ _ | with_reducible exact QdQ _ _ | with_reducible exact QdR _ _ | with_reducible exact QdS _ _ | with_reducible exact QdT _ _ | with_reducible exact Qd1 _ _ | with_reducible exact QdY _ _ | with_reducible exact QdZ _ _ | with_reducible exact QdV _ _ | with_reducible exact Qd2 _ _ | with_reducible exact Qd0 _ _ | with_reducible exact QdW _ _ | with_reducible exact QdX _ _) ?_))|((with_reducible show callW _ _ _ (some (120,_)) _ _);refine callP Qza rfl (QvQ s.win s.cf.seg s.rtt (esSlow s)) ?_)|((with_reducible show callW _ _ _ (some (121,_)) _ _);refine callP QcR rfl (QcI hx) ?_)|((with_reducible show cW _ _ (.region 1 _ true) _ _);refine QeX QAw (by kernel_rfl) Qaf (by kernel_rfl) ?_)|((fail_if_success (with_reducible refine stk ?_));simp only [WE,Nat.reduceBEq,ty_3,Qba,QaB,QaY,QaF,Qcm,Qap,QEP, QcD]))
 all_goals rfl
theorem QlW (hx:x b (.cells (s.cells u).toArray T fr)) (hb:s.back≤9223372036854775807):PureC Tryz.prog x 83 [.pointer (some ⟨b,0,none⟩)] (.int .i64 (esRto s)):=by
 refine Qab Tryz.func83 rfl rfl fun w=>?_
 refine Qaa (by kernel_rfl) ?_
 repeat' (first|(((with_reducible show extW _ _ _ _ _ _);refine Qad hx (by first | with_reducible exact ld_0 _ _ | with_reducible exact ld_1 _ _ | with_reducible exact ld_2 _ _ | with_reducible exact ld_3 _ _ | with_reducible exact ld_4 _ _ | with_reducible exact ld_5 _ _ | with_reducible exact ld_6 _ _ | with_reducible exact ld_7 _ _ | with_reducible exact ld_8 _ _ | with_reducible exact ld_9 _ _ | with_reducible exact Qdr _ _ | with_reducible exact Qds _ _ | with_reducible exact Qdt _ _ | with_reducible exact Qdu _ _ | with_reducible exact Qdv _ _ | with_reducible exact Qdw _ _ | with_reducible exact Qdx _ _ | with_reducible exact Qdy _ _ | with_reducible exact Qdz _ _ | with_reducible exact QdA _ _ | with_reducible exact QdB _ _ | with_reducible exact QdC _ _ | with_reducible exact QdD _ _ | with_reducible exact QdE _ _ | with_reducible exact QdF _ _ | with_reducible exact QdG _ _ | with_reducible exact QdH _ _ | with_reducible exact QdI _ _ | with_reducible exact QdJ _ _ | with_reducible exact QdK _ _ | with_reducible exact QdL _ _ | with_reducible exact QdM _ _ | with_reducible exact QdN _ _ | with_reducible exact QdO _ _ | with_reducible exact QdP _ _ | with_reducible exact QdQ _ _ | with_reducible exact QdR _ _ | with_reducible exact QdS _ _ | with_reducible exact QdT _ _ | with_reducible exact Qd1 _ _ | with_reducible exact QdY _ _ | with_reducible exact QdZ _ _ | with_reducible exact QdV _ _ | with_reducible exact Qd2 _ _ | with_reducible exact Qd0 _ _ | with_reducible exact QdW _ _ | with_reducible exact QdX _ _) ?_))|((with_reducible show callW _ _ _ (some (143,_)) _ _);refine callP Qow rfl (Ql3 s.rtt.has s.rtt.mean s.rtt.far s.cf.seg s.cf.max s.cf.first s.cf.grain s.cf.least s.cf.great s.cf.burst s.back hb) ?_)|((with_reducible show cW _ _ (.region 1 _ true) _ _);refine Qas QBq (by kernel_rfl) Qaf (by kernel_rfl) ?_)|((fail_if_success (with_reducible refine stk ?_));simp only [WE,Nat.reduceBEq,ty_3,Qai,Qba,QaY,Qcm,Qdk,Qap,QES, QcD]))
 all_goals rfl
theorem QvJ (hx:x b (.cells (s.cells u).toArray T fr)):PureC Tryz.prog x 84 [.pointer (some ⟨b,0,none⟩)] (.int .i64 (esPhase s)):=by
 refine Qab Tryz.func84 rfl rfl fun w=>?_
 refine Qaa (by kernel_rfl) ?_
 repeat' (first|(((with_reducible show extW _ _ _ _ _ _);refine Qad hx (by first | with_reducible exact ld_0 _ _ | with_reducible exact ld_1 _ _ | with_reducible exact ld_2 _ _ | with_reducible exact ld_3 _ _ | with_reducible exact ld_4 _ _ | with_reducible exact ld_5 _ _ | with_reducible exact ld_6 _ _ | with_reducible exact ld_7 _ _ | with_reducible exact ld_8 _ _ | with_reducible exact ld_9 _ _ | with_reducible exact Qdr _ _ | with_reducible exact Qds _ _ | with_reducible exact Qdt _ _ | with_reducible exact Qdu _ _ | with_reducible exact Qdv _ _ | with_reducible exact Qdw _ _ | with_reducible exact Qdx _ _ | with_reducible exact Qdy _ _ | with_reducible exact Qdz _ _ | with_reducible exact QdA _ _ | with_reducible exact QdB _ _ | with_reducible exact QdC _ _ | with_reducible exact QdD _ _ | with_reducible exact QdE _ _ | with_reducible exact QdF _ _ | with_reducible exact QdG _ _ | with_reducible exact QdH _ _ | with_reducible exact QdI _ _ | with_reducible exact QdJ _ _ | with_reducible exact QdK _ _ | with_reducible exact QdL _ _ | with_reducible exact QdM _ _ | with_reducible exact QdN _ _ | with_reducible exact QdO _ _ | with_reducible exact QdP _ _ | with_reducible exact QdQ _ _ | with_reducible exact QdR _ _ | with_reducible exact QdS _ _ | with_reducible exact QdT _ _ | with_reducible exact Qd1 _ _ | with_reducible exact QdY _ _ | with_reducible exact QdZ _ _ | with_reducible exact QdV _ _ | with_reducible exact Qd2 _ _ | with_reducible exact Qd0 _ _ | with_reducible exact QdW _ _ | with_reducible exact QdX _ _) ?_))|(with_reducible refine Qah (fun _=>?_) (fun _=>?_))|((with_reducible show callW _ _ _ (some (121,_)) _ _);refine callP QcR rfl (QcI hx) ?_)|((with_reducible show callW _ _ _ (some (133,_)) _ _);refine callP Qdn rfl (Qde hx) ?_)|((fail_if_success (with_reducible refine stk ?_));simp only [WE,Nat.reduceBEq,Nat.reduceAdd,ty_4,Qix,Qb5,Qap,QET, QcD]))
 all_goals (simp only [esPhase, *,cond_true,cond_false,Bool.not_true,Bool.not_false])
end
theorem QlD {x:Nat→Obj→Prop} (n l h:Int):PureC Tryz.prog x 55 [.int .i64 n,.int .i64 l,.int .i64 h] (.bool (decide (l≤n∧n≤h))):=by
 refine Qab Tryz.func55 rfl rfl fun w=>?_
 refine Qaa (by kernel_rfl) ?_
 repeat' (first|(with_reducible refine Qah (fun _=>?_) (fun _=>?_))|((fail_if_success (with_reducible refine stk ?_));simp only [WE,Nat.reduceBEq,Nat.reduceAdd,QEC]))
 all_goals simp only [decide_eq_true_eq,decide_eq_false_iff_not,Bool.not_eq_true',Bool.not_eq_false',bne_iff_ne,ne_eq,bne_eq_false_iff_eq,beq_iff_eq,beq_eq_false_iff_ne,Bool.and_eq_true,Bool.and_eq_false_iff,Bool.or_eq_true,Bool.or_eq_false_iff,not_true_eq_false,not_false_eq_true] at *
 ·rename_i h1
  refine congrArg Value.bool ?_
  exact decide_eq_decide.2 ⟨fun h=>⟨h1,h⟩,fun h=>h.2⟩
 ·rename_i h1
  refine congrArg Value.bool ?_
  exact (decide_eq_false (fun h=>h1 h.1)).symm
theorem Qu2 {x:Nat→Obj→Prop} {b:Nat} {T:TypeId} {fr:Nat×Nat} {s:Es} {u:Value} (t n:Int) (hx:x b (.cells (s.cells u).toArray T fr)) :
  PureC Tryz.prog x 54 [.agg #[.int .i64 t,.int .i64 n],.pointer (some ⟨b,0,none⟩)] (.bool (!esMark s.now (t,n))):=by
 refine Qab Tryz.func54 rfl rfl fun w=>?_
 refine Qaa (by kernel_rfl) ?_
 repeat' (first|(((with_reducible show extW _ _ _ _ _ _);refine Qad hx (by with_reducible exact ld_7 _ _) ?_))|(with_reducible refine Qah (fun _=>?_) (fun _=>?_))|((with_reducible show callW _ _ _ (some (55,_)) _ _);refine callP Qn9 rfl (QlD ..) ?_)|((fail_if_success (with_reducible refine stk ?_));simp only [WE,Nat.reduceBEq,Nat.reduceAdd,ty_3,QbJ,Qby,Qgt,QEB, QcD]))
 all_goals simp only [decide_eq_true_eq,decide_eq_false_iff_not,Bool.not_eq_true',Bool.not_eq_false',bne_iff_ne,ne_eq,bne_eq_false_iff_eq,beq_iff_eq,beq_eq_false_iff_ne,Bool.and_eq_true,Bool.and_eq_false_iff,Bool.or_eq_true,Bool.or_eq_false_iff,not_true_eq_false,not_false_eq_true] at *
 all_goals refine congrArg Value.bool ?_
 all_goals unfold esMark
 ·rename_i h
  rw [decide_eq_false (show ¬ (t,n).1≤s.now by dsimp only; omega)]
  rfl
 ·rename_i h
  rw [decide_eq_true (show (t,n).1≤s.now by dsimp only; omega),Bool.true_and]
  by_cases h1:1≤n <;> by_cases h2:n≤1073741824 <;> simp [h1,h2]
abbrev errV (e:Int):Value:=.iface 30 (.int .i64 e)
theorem QbQ {x:Nat→Obj→Prop}:PureC Tryz.prog x 70 [.int .i64 0] (.tuple #[]):=by
 refine Qab Tryz.func70 rfl rfl fun w=>?_
 refine Qaa (by kernel_rfl) ?_
 repeat' (first|((fail_if_success (with_reducible refine stk ?_));simp only [WE,Int.reduceBNe,QEL]))
 all_goals exact ⟨_,rfl,by decide,rfl⟩
theorem mkI {e:Int} {K:Value→Prop} (h:K (.iface 30 (.int .i64 e))):pureW Tryz.prog (Instr.makeInterface 30 (.int .i64 e)) K:=⟨_,fun w=>⟨rfl,rfl⟩,h⟩
theorem QfX {x:Nat→Obj→Prop} {e:Int} (h:e≠0):PanC Tryz.prog x 70 [.int .i64 e] (errV e):=by
 have hd:(e != 0)=true:=by simpa using h
 refine Qg4 Tryz.func70 rfl rfl fun w=>?_
 refine Qaa (by kernel_rfl) ?_
 repeat' (first|(((with_reducible show pureW _ (Instr.makeInterface _ _) _);refine mkI ?_))|((fail_if_success (with_reducible refine stk ?_));simp only [WE,Nat.reduceBEq,hd,QfJ]))
theorem QhP {x:Nat→Obj→Prop} (a:Int):PureC Tryz.prog x 71 [.int .i64 a,.int .i64 0] (.int .i64 a):=by
 refine Qab Tryz.func71 rfl rfl fun w=>?_
 refine Qaa (by kernel_rfl) ?_
 repeat' (first|((with_reducible show callW _ _ _ (some (70,_)) _ _);refine callP Qbu rfl (QbQ) ?_)|((fail_if_success (with_reducible refine stk ?_));simp only [WE,Nat.reduceBEq,Nat.reduceAdd,QEM]))
theorem Qu5 {x:Nat→Obj→Prop} (a:Int) {n:Int} (hn:n≠0):PanC Tryz.prog x 71 [.int .i64 a,.int .i64 n] (errV n):=by
 refine Qg4 Tryz.func71 rfl rfl fun w=>?_
 refine Qaa (by kernel_rfl) ?_
 repeat' (first|(((with_reducible show callW _ _ _ (some (70,_)) _ _);refine callPan Qbu rfl (QfX hn) ?_))|((fail_if_success (with_reducible refine stk ?_));simp only [WE,Nat.reduceBEq,Nat.reduceAdd,QfJ]))
theorem QlE {x:Nat→Obj→Prop} (a b:Int):PureC Tryz.prog x 73 [.agg #[.int .i64 a,.int .i64 b],.int .i64 0] (.agg #[.int .i64 a,.int .i64 b]):=by
 refine Qab Tryz.func73 rfl rfl fun w=>?_
 refine Qaa (by kernel_rfl) ?_
 repeat' (first|((with_reducible show callW _ _ _ (some (70,_)) _ _);refine callP Qbu rfl (QbQ) ?_)|((fail_if_success (with_reducible refine stk ?_));simp only [WE,segX,Nat.reduceBEq,Nat.reduceAdd,Nat.reduceEqDiff,Qa1,Qc4,QEO]))
theorem Qu3 {x:Nat→Obj→Prop} (a b:Int) {n:Int} (hn:n≠0):PanC Tryz.prog x 73 [.agg #[.int .i64 a,.int .i64 b],.int .i64 n] (errV n):=by
 refine Qg4 Tryz.func73 rfl rfl fun w=>?_
 refine Qaa (by kernel_rfl) ?_
 repeat' (first|(((with_reducible show callW _ _ _ (some (70,_)) _ _);refine callPan Qbu rfl (QfX hn) ?_))|((fail_if_success (with_reducible refine stk ?_));simp only [WE,Nat.reduceBEq,Nat.reduceAdd,Qc4,QfJ]))
theorem Qe0 {x:Nat→Obj→Prop} (a b c:Int):PureC Tryz.prog x 124 [.agg #[.int .i64 a,.int .i64 b,.int .i64 c],.int .i64 0] (.agg #[.int .i64 a,.int .i64 b,.int .i64 c]):=by
 refine Qab Tryz.func124 rfl rfl fun w=>?_
 refine Qaa (by kernel_rfl) ?_
 repeat' (first|((with_reducible show callW _ _ _ (some (70,_)) _ _);refine callP Qbu rfl (QbQ) ?_)|((fail_if_success (with_reducible refine stk ?_));simp only [WE,segX,Nat.reduceBEq,Nat.reduceAdd,Nat.reduceEqDiff,Qa0,QeM,QC0]))
theorem QhO {x:Nat→Obj→Prop} (a b c:Int) {n:Int} (hn:n≠0):PanC Tryz.prog x 124 [.agg #[.int .i64 a,.int .i64 b,.int .i64 c],.int .i64 n] (errV n):=by
 refine Qg4 Tryz.func124 rfl rfl fun w=>?_
 refine Qaa (by kernel_rfl) ?_
 repeat' (first|(((with_reducible show callW _ _ _ (some (70,_)) _ _);refine callPan Qbu rfl (QfX hn) ?_))|((fail_if_success (with_reducible refine stk ?_));simp only [WE,Nat.reduceBEq,Nat.reduceAdd,QeM,QfJ]))
theorem QlF {x:Nat→Obj→Prop} (a b c:Int) (g d:Bool) (p r:Int):PureC Tryz.prog x 131 [.agg #[.int .i64 a,.int .i64 b,.int .i64 c,.bool g,.bool d,.int .i64 p,.int .i64 r],.int .i64 0] (.agg #[.int .i64 a,.int .i64 b,.int .i64 c,.bool g,.bool d,.int .i64 p,.int .i64 r]):=by
 refine Qab Tryz.func131 rfl rfl fun w=>?_
 refine Qaa (by kernel_rfl) ?_
 repeat' (first|((with_reducible show callW _ _ _ (some (70,_)) _ _);refine callP Qbu rfl (QbQ) ?_)|((fail_if_success (with_reducible refine stk ?_));simp only [WE,segX,Nat.reduceBEq,Nat.reduceAdd,Nat.reduceEqDiff,QaT,Qc3,QC6]))
theorem QlH {x:Nat→Obj→Prop} (h:Bool) (m f:Int):PureC Tryz.prog x 188 [.agg #[.bool h,.int .i64 m,.int .i64 f],.int .i64 0] (.agg #[.bool h,.int .i64 m,.int .i64 f]):=by
 refine Qab Tryz.func188 rfl rfl fun w=>?_
 refine Qaa (by kernel_rfl) ?_
 repeat' (first|((with_reducible show callW _ _ _ (some (70,_)) _ _);refine callP Qbu rfl (QbQ) ?_)|((fail_if_success (with_reducible refine stk ?_));simp only [WE,segX,Nat.reduceBEq,Nat.reduceAdd,Nat.reduceEqDiff,Qba,Qs3,QDx]))
theorem QlG {x:Nat→Obj→Prop} (a:Option Addr) (l c:Nat):PureC Tryz.prog x 190 [.slice a l c,.int .i64 0] (.slice a l c):=by
 refine Qab Tryz.func190 rfl rfl fun w=>?_
 refine Qaa (by kernel_rfl) ?_
 repeat' (first|((with_reducible show callW _ _ _ (some (70,_)) _ _);refine callP Qbu rfl (QbQ) ?_)|((fail_if_success (with_reducible refine stk ?_));simp only [WE,Nat.reduceBEq,Nat.reduceAdd,QDz]))
theorem Qu4 {x:Nat→Obj→Prop} (o:Bool) (a b c d e:Int):PureC Tryz.prog x 196 [.agg #[.bool o,.int .i64 a,.int .i64 b,.int .i64 c,.int .i64 d,.int .i64 e],.int .i64 0] (.agg #[.bool o,.int .i64 a,.int .i64 b,.int .i64 c,.int .i64 d,.int .i64 e]):=by
 refine Qab Tryz.func196 rfl rfl fun w=>?_
 refine Qaa (by kernel_rfl) ?_
 repeat' (first|((with_reducible show callW _ _ _ (some (70,_)) _ _);refine callP Qbu rfl (QbQ) ?_)|((fail_if_success (with_reducible refine stk ?_));simp only [WE,segX,Nat.reduceBEq,Nat.reduceAdd,Nat.reduceEqDiff,QaH,Qcf,QDC]))
def MsAt (x:Nat→Obj→Prop) (ms:List (Int×Int)) (u:Value):Prop:=RMk ms.length (mkF ms) u x
theorem QAn {S:St} {s:Nat→Nat} {e:Es} {u:Value} {a:Option Addr} {cap:Nat} (hmax:e.ms.length≤1000000) (hm:Mks S.x a e.ms.length (mkF e.ms)) {T:TypeId} (hS:S.m[0]? = some (.cells T ((e.cells u).map .ext))) :
  PureC Tryz.prog (xAll S s) 60 [.slice a e.ms.length cap,.func (.func 54) #[] #[.pointer (some ⟨s 0,0,none⟩)]] (.bool (decide (0≤idxOf (fun i=>!esMark e.now (mkF e.ms i)) e.ms.length))):=
 Qwm (caps:=[.pointer (some ⟨s 0,0,none⟩)]) (by omega) (hm.mono fun b o h=>.inl h) QyD fun i hi=>Qu2 (T:=T) (fr:=(0,0)) (u:=u) _ _ (.inr ⟨0,_,hS,rfl,by simp only [renO,Qax]⟩)
theorem QAo (e:Es):decide (0≤idxOf (fun i=>!esMark e.now (mkF e.ms i)) e.ms.length) = !(e.ms.all (esMark e.now)):=by
 cases h:e.ms.all (esMark e.now) with
 | true=>
  rw [List.all_eq_true] at h
  rw [QoQ fun j hj=>by simpa using h _ (Qi5 hj)]
  rfl
 | false=>
  unfold idxOf
  cases hf:(List.range e.ms.length).find? fun i=>!esMark e.now (mkF e.ms i) with
  | none=>
   rw [List.find?_range_eq_none] at hf
   have:e.ms.all (esMark e.now)=true:=List.all_eq_true.2 fun m hm=>by
    obtain ⟨i,hi,rfl⟩:=List.getElem_of_mem hm
    have:=hf i hi
    unfold mkF at this
    rw [List.getD_eq_getElem?_getD,List.getElem?_eq_getElem hi] at this
    simpa using this
   rw [this] at h; cases h
  | some k=>simp
theorem QhN {x:Nat→Obj→Prop} (hT:TensX x) (s:Es) {u:Value} (hf:FlIn s.fl) (hmax:s.ms.length≤1000000) (hu:MsAt x s.ms u):PureC Tryz.prog x 25 [s.v u] (.bool (esOk s)):=by
 obtain ⟨a,cap,rfl,hc1,hc2,hn,hm⟩:=hu
 unfold Es.v Es.cells
 refine Qab Tryz.func25 rfl rfl fun w=>?_
 refine Qaa (by kernel_rfl) ?_
 repeat' (first|(((with_reducible refine Qah (fun hq=>?_) (fun hq=>?_)) <;> (try rw [hq])))|(((with_reducible show callW _ _ _ (some (60,_)) _ _);refine callO QzA (fun s'=>QAn (S:=⟨_,_,_⟩) (e:=s) hmax hm rfl) ?_; rw [QAo]))|((with_reducible show callW _ _ _ (some (50,_)) _ _);refine callP Qfd rfl (c_guide_Check s.cf) ?_)|((with_reducible show callW _ _ _ (some (55,_)) _ _);refine callP Qn9 rfl (QlD ..) ?_)|((with_reducible show callW _ _ _ (some (56,_)) _ _);refine callP Qgw rfl (QfW s.now) ?_)|((with_reducible show callW _ _ _ (some (57,_)) _ _);refine callP QgE rfl (Qf0 s.fl hf) ?_)|((with_reducible show callW _ _ _ (some (58,_)) _ _);refine callP QgK rfl (Qf5 s.rtt.has s.rtt.mean s.rtt.far) ?_)|((with_reducible show callW _ _ _ (some (59,_)) _ _);refine callP Qdo rfl (QlS (by omega) hm) ?_)|((with_reducible show callW _ _ _ (some (61,_)) _ _);refine callP Qov rfl (Ql2 s.rd) ?_)|((with_reducible show callW _ _ _ (some (62,_)) _ _);refine callP QcT rfl (QcH s.hy.last s.hy.least s.hy.many s.hy.gentle s.hy.done s.hy.base s.hy.rounds) ?_)|((with_reducible show callW _ _ _ (some (63,_)) _ _);refine callP Qoi rfl (QlK hT s.ep) ?_)|((with_reducible show callW _ _ _ (some (64,_)) _ _);refine callP QcP rfl (QeY s.bk) ?_)|((fail_if_success (with_reducible refine stk ?_));simp only [WE,segX,Nat.reduceBEq,ty_3,Qai,Qa0,Qba,QeL,QbY,QaT,QaH,Qa1,QaE,QbS,Qeq,QaY,QbJ,Qe9,QaF,QbT,Qes,QaJ,Qcm,Qet,QcN,Qb5,Qb6,Qe8,Qdk,QbK,QD9]))
 all_goals refine congrArg Value.bool ?_
 rotate_left 15
 ·-- all but the last one
  rename_i q1 q2 q3 q4 q5 q6 q7 q8 q9 q10 q11 q12 q13 q14 q15
  refine Bool.eq_iff_iff.2 (Iff.trans ?_ (Qcj s).symm)
  have c1:s.cf.ok=true:=by
   cases h:s.cf.ok
   ·unfold Cf.err at q1; rw [h] at q1; cases q1
   ·rfl
  have c1:=s.cf.ok_iff.1 c1
  have hw:=c1.max
  simp only [Bool.not_eq_false',decide_eq_true_eq,decide_eq_false_iff_not] at q2 q3 q4 q5 q6 q7 q8 q9 q10 q11 q12 q13 q14 q15 hq ⊢
  rw [Qag (by omega) (by omega)] at q4
  unfold clkCheck at q2
  simp only [Bool.and_eq_true,decide_eq_true_eq] at q2
  exact ⟨fun h=>⟨c1,q2,q3,q4,q5,q6,q7,q8,q9,List.all_eq_true.1 q10,q11,of_decide_eq_true q12,q13,q14,by omega,hq,h⟩,fun h=>h.back⟩
 all_goals refine Eq.symm (Bool.eq_false_iff.2 fun hk=>?_)
 all_goals replace hk:=(Qcj s).1 hk
 all_goals have hcm:=hk.cf.max
 all_goals have f1:(s.cf.err != 0)=false:=by unfold Cf.err; rw [s.cf.ok_iff.2 hk.cf]; rfl
 all_goals have f2:clkCheck s.now=true:=by unfold clkCheck; simp only [Bool.and_eq_true,decide_eq_true_eq]; exact hk.now
 all_goals have f4:131072≤s.win∧s.win≤wr IntKind.i64 (s.cf.max * 65536):=by rw [Qag (by omega) (by omega)]; exact hk.win
 all_goals first
  | (rw [f1] at hq; cases hq; done)
  | (rw [f2] at hq; cases hq; done)
  | (rw [decide_eq_true hk.last] at hq; cases hq; done)
  | (rw [decide_eq_true f4] at hq; cases hq; done)
  | (rw [decide_eq_true hk.thr] at hq; cases hq; done)
  | (rw [decide_eq_true hk.high] at hq; cases hq; done)
  | (rw [decide_eq_true hk.fl] at hq; cases hq; done)
  | (rw [show rttCheck ⟨s.rtt.has,s.rtt.mean,s.rtt.far⟩=true from hk.rtt] at hq; cases hq; done)
  | (rw [hk.mo] at hq; cases hq; done)
  | (rw [List.all_eq_true.2 hk.ms] at hq; cases hq; done)
  | (rw [decide_eq_true hk.rd] at hq; cases hq; done)
  | (rw [show hyCheck ⟨s.hy.last,s.hy.least,s.hy.many,s.hy.gentle,s.hy.done,s.hy.base,s.hy.rounds⟩=true from decide_eq_true hk.hy] at hq; cases hq; done)
  | (rw [decide_eq_true hk.ep] at hq; cases hq; done)
  | (rw [decide_eq_true hk.bk] at hq; cases hq; done)
  | (rw [decide_eq_false (show ¬ s.now < s.bk.at_ by have:=hk.bkAt; omega)] at hq; cases hq; done)
  | (rw [decide_eq_true hk.rec_] at hq; cases hq; done)
theorem MsAt.mono {x x':Nat→Obj→Prop} {ms:List (Int×Int)} {u:Value} (h:MsAt x ms u) (hx:xsub x x'):MsAt x' ms u:=RMk.mono h hx
def OwnR (s:Es) (v:Value) (x:Nat→Obj→Prop):Prop:=∃ u,v=s.v u∧MsAt x s.ms u
theorem QlI {x:Nat→Obj→Prop} (s:Es) {u:Value} (hmax:s.ms.length≤1000000) (hu:MsAt x s.ms u):RetE Tryz.prog x 69 [s.v u] (OwnR s):=by
 obtain ⟨a,cap,rfl,hc1,hc2,hn,hm⟩:=hu
 refine Qhe Tryz.func69 rfl rfl fun w x1 hx1=>?_
 unfold Es.v Es.cells
 refine Qaa (by kernel_rfl) ?_
 repeat' (first|(((with_reducible show callW _ _ _ (some (118,_)) _ _);refine callEN Qzz rfl (Qwl hmax hn (hm.mono hx1)) ?_; intro v x' x'' hR hx hx' hN; obtain ⟨a2,c2,rfl,hR⟩:=hR))|((fail_if_success (with_reducible refine stk ?_));simp only [WE,Nat.reduceLeDiff,segX,Nat.reduceBEq,Nat.reduceAdd,Nat.reduceEqDiff,QeL,Qaj,Qcx,Qet,Qcz,QhE]))
 rw [QeO]
 show resL _ _ [.cell 2 111] _
 simp only [WE,Nat.reduceLeDiff,segX,Nat.reduceBEq,Nat.reduceAdd,Nat.reduceEqDiff,Int.reduceNeg,Int.reduceEq,Int.reduceBEq,Int.reduceLT,Int.reduceLE,Int.reduceBNe,Int.reduceToNat,Nat.reduceMul,Nat.reduceMod,Int.reducePow,reduceIte,QeL,Qaj,Qcx,Qet,Qcz,QhE,QEK]
 exact ⟨_,x',rfl,hx',hN,_,rfl,_,_,rfl,hR⟩
theorem Qeh {x:Nat→Obj→Prop} (c:Cf):PureC Tryz.prog x 22 [c.v] (.tuple #[(esNew c).1.v (.slice none 0 0),.int .i64 (esNew c).2]):=by
 unfold esNew
 have hC:=c_guide_Check (x:=x) c
 have hF:=QlR (x:=x) c
 unfold Cf.err at hC
 unfold Cf.v at hC hF ⊢
 cases h:c.ok with
 | true=>
  rw [h] at hC
  simp only [cond_true] at hC ⊢
  have hin:=c.ok_iff.1 h
  have b1:=hin.burst
  have b2:=hin.seg
  have p1:0≤c.burst * c.seg:=Int.mul_nonneg (by omega) (by omega)
  have p2:c.burst * c.seg≤1000 * 9000:=Int.mul_le_mul b1.2 b2.2 (by omega) (by omega)
  have w1:wr .i64 (c.burst * c.seg)=c.burst * c.seg:=Qag (by omega) (by omega)
  have w2:wr .i64 (c.burst * c.seg * 1000000)=c.burst * c.seg * 1000000:=Qag (by omega) (by omega)
  refine Qab Tryz.func22 rfl rfl fun w=>?_
  refine Qaa (by kernel_rfl) ?_
  repeat' (first|((with_reducible show callW _ _ _ (some (50,_)) _ _);refine callP Qfd rfl (hC) ?_)|((with_reducible show callW _ _ _ (some (51,_)) _ _);refine callP Qop rfl (hF) ?_)|((with_reducible show cW _ _ (.region 4 _ true) _ _);refine QfS 4 QBa (by kernel_rfl) Qaf (by kernel_rfl) ?_; intro l1 l2 e1 e2; simp only [List.take_succ_cons,List.take_zero,List.drop_succ_cons,List.drop_zero] at e1 e2; subst e1; subst e2)|((fail_if_success (with_reducible refine stk ?_));simp only [WE,Nat.reduceLeDiff,segX,Nat.reduceBEq,Nat.reduceAdd,Nat.reduceEqDiff,Int.reduceBNe,ty_3,Qai,Qaj,QaB,QaX,Qer,QbK,Qau,QhF,Qr4,w1,w2]))
  rfl
 | false=>
  rw [h] at hC
  simp only [cond_false] at hC ⊢
  refine Qab Tryz.func22 rfl rfl fun w=>?_
  refine Qaa (by kernel_rfl) ?_
  repeat' (first|((with_reducible show callW _ _ _ (some (50,_)) _ _);refine callP Qfd rfl (hC) ?_)|((fail_if_success (with_reducible refine stk ?_));simp only [WE,segX,Nat.reduceBEq,Nat.reduceAdd,Nat.reduceEqDiff,Int.reduceBNe,Qai,Qaj,Qau,QhF,Qr4]))
  rfl
theorem QaQ {S:St} {k:Nat} {T:TypeId} {s:Nat→Nat} {e:Es} {u:Value} (hS:S.m[k]? = some (.cells T ((e.cells u).map .ext))):xAll S s (s k) (.cells (e.cells u).toArray T (0,0)):=.inr ⟨k,_,hS,rfl,by simp only [renO,Qax]⟩
theorem QeZ {x:Nat→Obj→Prop} (hT:TensX x) (s:Es) {u:Value} (hf:FlIn s.fl) (hb:s.back≤9223372036854775807) (hmax:s.ms.length≤1000000) (hu:MsAt x s.ms u):PureC Tryz.prog x 30 [s.v u] (esLook s).v:=by
 have hC:=QhN hT s hf hmax hu
 obtain ⟨a,cap,rfl,hu⟩:=hu
 unfold Es.v Es.cells at hC
 unfold Es.v Es.cells esLook
 cases h:esOk s with
 | false=>
  rw [h] at hC
  refine Qab Tryz.func30 rfl rfl fun w=>?_
  refine Qaa (by kernel_rfl) ?_
  repeat' (first|((with_reducible show callW _ _ _ (some (25,_)) _ _);refine callP Qev rfl (hC) ?_)|((fail_if_success (with_reducible refine stk ?_));simp only [WE,Nat.reduceLeDiff,segX,Nat.reduceBEq,Nat.reduceAdd,Nat.reduceEqDiff,Qaj,QaN,Qa2,QkF,Qr8]))
  all_goals (try exact ⟨_,rfl,by decide,rfl⟩)
  all_goals (try rfl)
 | true=>
  rw [h] at hC
  refine Qab Tryz.func30 rfl rfl fun w=>?_
  refine Qaa (by kernel_rfl) ?_
  repeat' (first|(with_reducible refine And.intro ?_ ?_)|(((with_reducible show callW _ _ _ (some (74,_)) _ _);refine callO Qoe (fun s'=>QlV (QaQ (S:=⟨_,_,_⟩) (k:=2) (e:=s) (u:=.slice a s.ms.length cap) rfl)) ?_))|(((with_reducible show callW _ _ _ (some (83,_)) _ _);refine callO Qof (fun s'=>QlW (QaQ (S:=⟨_,_,_⟩) (k:=2) (e:=s) (u:=.slice a s.ms.length cap) rfl) hb) ?_))|(((with_reducible show callW _ _ _ (some (84,_)) _ _);refine callO QyH (fun s'=>QvJ (QaQ (S:=⟨_,_,_⟩) (k:=2) (e:=s) (u:=.slice a s.ms.length cap) rfl)) ?_))|((with_reducible show callW _ _ _ (some (25,_)) _ _);refine callP Qev rfl (hC) ?_)|((with_reducible show cW _ _ (.region 4 _ true) _ _);refine Qaw QAK (by kernel_rfl) Qaf (by kernel_rfl) ?_ (fun _ _ _ h=>h))|((fail_if_success (with_reducible refine stk ?_));simp only [WE,Nat.reduceLeDiff,segX,Nat.reduceBEq,Nat.reduceAdd,Nat.reduceEqDiff,ty_3,Qaj,QaN,Qcx,QaF,QbT,Qap,Qa2,Qcz,QkF,QhE,Qr8]))
  all_goals rfl
theorem QbO {P:Program} {G:Ctx} {Q:Exit→St→Prop} {S S1:St} {c:Code} (hbs:G.bs.length≤S1.m.length) (hw:Wk S S1) (h:Sd P G c Q S1):Sd P G c Q S:=fun s a w hr=>h s a w (Wk.rep' hbs hw hr)
def KM (x:Nat→Obj→Prop) (r:Es×Int) (v:Value) (c':List Value) (x':Nat→Obj→Prop):Prop:=v=.tuple #[]∧r.2=0∧∃ u',c'=r.1.cells u'∧MsAt (fun b o=>x b o∨x' b o) r.1.ms u'
def PM (r:Es×Int) (v:Value) (_:List Value) (_:Nat→Obj→Prop):Prop:=v=errV r.2∧r.2≠0
theorem QeU {P:Program} {fn:Func} {T:TypeId} {x1:Nat→Obj→Prop} {K Pn:Value→List Value→(Nat→Obj→Prop)→Prop} {v:Value} {S:St} {l:List RV} {r:List RO} {c':List Value} (hm:S.m=.cells T l :: r) (ht:toExts l=some c') (hp:∀ c' x',Pn v c' x') :
  BackM P fn T x1 K Pn (.panic [{ v,recovered:=false }]) S:=⟨v,c',fun _ _=>False,r,rfl,by rw [hm,Qa9 ht],fun _ _ h=>h.elim,fun _ _ h=>h.elim,hp _ _⟩
theorem Qc7 {P:Program} {fn:Func} {T:TypeId} {x1:Nat→Obj→Prop} {K Pn:Value→List Value→(Nat→Obj→Prop)→Prop} {S:St} {l:List RV} {r:List RO} {c':List Value} {x':Nat→Obj→Prop} (hres:fn.results=#[]) (hm:S.m=.cells T l :: r) (ht:toExts l=some c')
  (hx:xsub x' S.x) (hN:NewIn x1 x') (hk:K (.tuple #[]) c' x'):BackM P fn T x1 K Pn .ret S:=by
 show resL P S fn.results.toList _
 rw [hres]
 exact ⟨[],c',x',r,rfl,by rw [hm,Qa9 ht],hx,hN,hk⟩
theorem QbP {P:Program} {fn:Func} {T:TypeId} {x1:Nat→Obj→Prop} {K Pn:Value→List Value→(Nat→Obj→Prop)→Prop} {S:St} {l:List RV} {r:List RO} {c':List Value} {x':Nat→Obj→Prop} (hres:fn.results=#[]) (hm:S.m=.cells T l :: r) (ht:toExts l=some c')
  (hx:xsub x' S.x) (hN:NewIn x1 x') (hk:K (.tuple #[]) c' x'):BackM P fn T x1 K Pn .normal S:=Qc7 (Pn:=Pn) hres hm ht hx hN hk
def no:Nat→Obj→Prop:=fun _ _=>False
theorem QcW {x:Nat→Obj→Prop}:xsub no x:=fun _ _ h=>h.elim
theorem Qcq {x:Nat→Obj→Prop}:NewIn x no:=fun _ _ h=>h.elim
theorem MsAt.or {x x':Nat→Obj→Prop} {ms:List (Int×Int)} {u:Value} (h:MsAt x ms u):MsAt (fun b o=>x b o∨x' b o) ms u:=h.mono fun _ _ h=>.inl h
theorem QvL {x:Nat→Obj→Prop} (s:Es) {u:Value} (e:Ev) (hu:MsAt x s.ms u):MemC Tryz.prog x 82 111 (s.cells u) [e.v] (KM x (s,0)) (PM (s,0)):=by
 have hu0:=hu
 obtain ⟨a,cap,rfl,hu⟩:=hu
 refine Qbw Tryz.func82 rfl rfl fun b0 w x1 hx1=>?_
 unfold Es.cells Ev.v
 refine Qaa (by kernel_rfl) ?_
 repeat' (first|((fail_if_success (with_reducible refine stk ?_));simp only [WE,Nat.reduceBEq,Nat.reduceAdd]))
 exact QbP rfl rfl rfl QcW Qcq ⟨rfl,rfl,_,rfl,hu0.or⟩
theorem QvG {x:Nat→Obj→Prop} (s:Es) {u:Value} (e:Ev) (hu:MsAt x s.ms u):MemC Tryz.prog x 81 111 (s.cells u) [e.v] (KM x ({ s with lim:=true },0)) (PM ({ s with lim:=true },0)):=by
 have hu0:=hu
 obtain ⟨a,cap,rfl,hu⟩:=hu
 refine Qbw Tryz.func81 rfl rfl fun b0 w x1 hx1=>?_
 unfold Es.cells Ev.v
 refine Qaa (by kernel_rfl) ?_
 repeat' (first|((fail_if_success (with_reducible refine stk ?_));simp only [WE,Nat.reduceBEq,Nat.reduceAdd,Nat.reduceEqDiff,ty_4,Qcl,Qap]))
 exact QbP rfl rfl rfl QcW Qcq ⟨rfl,rfl,_,rfl,hu0.or⟩
theorem QlU {x:Nat→Obj→Prop} (s:Es) {u:Value} (hh:in64 s.high) (hu:MsAt x s.ms u):MemC Tryz.prog x 139 111 (s.cells u) [] (KM x (esCut s,0)) (PM (esCut s,0)):=by
 have hu0:=hu
 obtain ⟨a,cap,rfl,hu⟩:=hu
 cases hr:esRecs s with
 | true=>
  have e0:esCut s=s:=by unfold esCut; rw [hr]; rfl
  rw [e0]
  refine Qbw Tryz.func139 rfl rfl fun b0 w x1 hx1=>?_
  unfold Es.cells
  refine Qaa (by kernel_rfl) ?_
  repeat' (first|(((with_reducible show callW _ _ _ (some (133,_)) _ _);refine callO Qdn (fun s'=>Qde (QaQ (S:=⟨_,_,_⟩) (k:=0) (e:=s) (u:=.slice a s.ms.length cap) rfl)) ?_))|((fail_if_success (with_reducible refine stk ?_));simp only [WE,hr]))
  exact Qc7 rfl rfl rfl QcW Qcq ⟨rfl,rfl,_,rfl,hu0.or⟩
 | false=>
  have e0:esCut s={ s with win:=cutLeast s.win,high:=epFast s.high (cutOf s.win),thr:=cutLeast s.win,rec_:=s.fl.sent,ep:=Ep.zero,hy:=hyDone }:=by unfold esCut; rw [hr]; rfl
  rw [e0]
  refine Qbw Tryz.func139 rfl rfl fun b0 w x1 hx1=>?_
  unfold Es.cells
  refine Qaa (by kernel_rfl) ?_
  repeat' (first|(((with_reducible show callW _ _ _ (some (133,_)) _ _);refine callO Qdn (fun s'=>Qde (QaQ (S:=⟨_,_,_⟩) (k:=0) (e:=s) (u:=.slice a s.ms.length cap) rfl)) ?_))|((with_reducible show callW _ _ _ (some (202,_)) _ _);refine callP Qn7 rfl (QlB _ _ hh) ?_)|((with_reducible show cW _ _ (.region 1 _ true) _ _);refine Qaw QAG (by kernel_rfl) Qaf (by kernel_rfl) ?_ (fun _ _ _ h=>h))|((with_reducible show cW _ _ (.region 2 _ true) _ _);refine Qaw QAH (by kernel_rfl) Qaf (by kernel_rfl) ?_ (fun _ _ _ h=>h))|((fail_if_success (with_reducible refine stk ?_));simp only [WE,Nat.reduceLeDiff,Nat.reduceBEq,Nat.reduceAdd,Nat.reduceEqDiff,ty_3,QaT,QaH,QbS,QaF,QbT,Qes,QaJ,Qb5,Qb6,Qe8,Qap,QkE,Qc8,hr]))
  exact QbP rfl rfl rfl QcW Qcq ⟨rfl,rfl,_,rfl,hu0.or⟩
theorem QjU (l:List Value):toExts (l.map .ext)=some l:=by
 induction l with
 | nil=>rfl
 | cons v l ih=>simp only [List.map_cons,toExts,ih]
theorem MemC.mono {P:Program} {x x1:Nat→Obj→Prop} {g:FuncId} {T:TypeId} {c es:List Value} {K Pn:Value→List Value→(Nat→Obj→Prop)→Prop} (h:MemC P x g T c es K Pn) (hx:xsub x x1):MemC P x1 g T c es K Pn:=
 ⟨fun b w h1 h2 h3 h4=>h.out b w h1 h2 (fun b' o hb=>h3 b' o (hx b' o hb)) h4⟩
theorem callL {S:St} {g:FuncId} {s:Es} {u:Value} {T:TypeId} {es:List Value} {ars:List RV} {r:Es×Int} {x xm:Nat→Obj→Prop} {K:RV→St→Prop} {Pn:Value→St→Prop} {rest:List RO} (hg:goes Tryz.prog g) (hk:S.m=.cells T ((s.cells u).map .ext) :: rest) (he:toExts ars=some es) (hxs:xsub x S.x) (hms:xsub xm S.x)
  (hm:MemC Tryz.prog x g T (s.cells u) es (KM xm r) (PM r))
  (h:r.2=0→∀ u' x' x'',MsAt x'' r.1.ms u'→xsub S.x x''→xsub x' x''→NewIn S.x x'→MsAt (fun b o=>xm b o∨x' b o) r.1.ms u'→K (.ext (.tuple #[])) ⟨S.t,.cells T ((r.1.cells u').map .ext) :: rest,x''⟩)
  (hp:r.2≠0→∀ (c':List Value) x'',Pn (errV r.2) ⟨S.t,.cells T (c'.map .ext) :: rest,x''⟩):callW Tryz.prog false S (some (g,.ptr 0 0 :: ars)) K Pn:=by
 refine callM hg (by rw [hk]; rfl) he (MemC.mono hm hxs) ?_ ?_
 ·rintro v c' x' x'' ⟨rfl,h0,u',rfl,hu⟩ h1 h2 h3
  have:=h h0 u' x' x'' (hu.mono fun b o hb=>hb.elim (fun hb=>h1 b o (hms b o hb)) (h2 b o)) h1 h2 h3 hu
  rw [hk]
  exact this
 ·rintro v c' x' x'' ⟨rfl,h0⟩ h1 h2 h3
  have:=hp h0 c' x''
  rw [hk]
  exact this
theorem QvF {x:Nat→Obj→Prop} (s:Es) {u:Value} (e:Ev) (hh:in64 s.high) (hu:MsAt x s.ms u):MemC Tryz.prog x 79 111 (s.cells u) [e.v] (KM x (esCut s,0)) (PM (esCut s,0)):=by
 refine Qbw Tryz.func79 rfl rfl fun b0 w x1 hx1=>?_
 unfold Ev.v
 refine Qaa (by kernel_rfl) ?_
 repeat' (first|((fail_if_success (with_reducible refine stk ?_));simp only [WE,Nat.reduceBEq,Nat.reduceAdd]))
 refine callL Qod rfl rfl hx1 hx1 (QlU s hh hu) ?_ (fun h=>absurd rfl h)
 intro _ u' x' x'' h1 h2 h3 h4 h5
 repeat' (first|((fail_if_success (with_reducible refine stk ?_));simp only [WE]))
 refine QbP rfl rfl (QjU _) h3 h4 ⟨rfl,rfl,_,rfl,h5⟩
theorem QvI {x:Nat→Obj→Prop} (s:Es) {u:Value} (e:Ev) (hf:FlIn s.fl) (hb:in64 e.bytes) (hh:in64 s.high) (hu:MsAt x s.ms u):MemC Tryz.prog x 78 111 (s.cells u) [e.v] (KM x (esLose s e)) (PM (esLose s e)):=by
 have hu0:=hu
 obtain ⟨a,cap,rfl,hu⟩:=hu
 have hA:=Qf1 (x:=x) s.fl e.bytes hf hb
 by_cases h0:(flBack s.fl e.bytes 0).2=0
 ·have e0:esLose s e=(esCut { s with fl:=(flBack s.fl e.bytes 0).1 },0):=by unfold esLose; rw [if_neg (fun h=>h h0)]
  rw [e0]
  refine Qbw Tryz.func78 rfl rfl fun b0 w x1 hx1=>?_
  have hA:=Qf1 (x:=x1) s.fl e.bytes hf hb
  rw [h0] at hA
  unfold Es.cells Ev.v
  refine Qaa (by kernel_rfl) ?_
  repeat' (first|(with_reducible refine And.intro ?_ ?_)|(((with_reducible show callW _ _ _ (some (139,_)) _ _);refine callL (s:={ s with fl:=(flBack s.fl e.bytes 0).1 }) (u:=.slice a s.ms.length cap) Qod rfl rfl hx1 hx1 (QlU _ hh hu0) ?_ (fun h=>absurd rfl h); intro _ u' x' x'' h1 h2 h3 h4 h5))|((with_reducible show callW _ _ _ (some (124,_)) _ _);refine callP QcQ rfl (Qe0 _ _ _) ?_)|((with_reducible show callW _ _ _ (some (138,_)) _ _);refine callP QiG rfl (hA) ?_)|((with_reducible show cW _ _ (.region 1 _ true) _ _);refine Qaw QpC (by kernel_rfl) Qaf (by kernel_rfl) ?_ (fun _ _ _ h=>h))|((fail_if_success (with_reducible refine stk ?_));simp only [WE,segX,Nat.reduceBEq,Nat.reduceAdd,Nat.reduceEqDiff,ty_3,Qa0,QaJ,QbL,Qap]))
  exact QbP rfl rfl (QjU _) h3 h4 ⟨rfl,rfl,_,rfl,h5⟩
 ·have e0:esLose s e=(s,(flBack s.fl e.bytes 0).2):=by unfold esLose; rw [if_pos h0]
  rw [e0]
  refine Qbw Tryz.func78 rfl rfl fun b0 w x1 hx1=>?_
  have hA:=Qf1 (x:=x1) s.fl e.bytes hf hb
  unfold Es.cells Ev.v
  refine Qaa (by kernel_rfl) ?_
  repeat' (first|(((with_reducible show callW _ _ _ (some (124,_)) _ _);refine callPan QcQ rfl (QhO _ _ _ h0) ?_))|((with_reducible show callW _ _ _ (some (138,_)) _ _);refine callP QiG rfl (hA) ?_)|((with_reducible show cW _ _ (.region 1 _ true) _ _);refine Qaw QpC (by kernel_rfl) Qaf (by kernel_rfl) ?_ (fun _ _ _ h=>h))|((fail_if_success (with_reducible refine stk ?_));simp only [WE,segX,Nat.reduceBEq,Nat.reduceAdd,ty_3,Qa0,QaJ,QbL,Qap]))
  exact QeU rfl rfl (fun _ _=>⟨rfl,h0⟩)
theorem QvH {x:Nat→Obj→Prop} (s:Es) {u:Value} (e:Ev) (hf:FlIn s.fl) (ho:flOk s.fl) (hb:s.back≤9223372036854775807) (hh:in64 s.high) (hu:MsAt x s.ms u):MemC Tryz.prog x 80 111 (s.cells u) [e.v] (KM x (esLate s)) (PM (esLate s)):=by
 have hu0:=hu
 obtain ⟨a,cap,rfl,hu⟩:=hu
 by_cases h0:s.fl.out=0
 ·have e0:esLate s=(s,202):=if_pos h0
  have d0:(s.fl.out == 0)=true:=by simpa using h0
  rw [e0]
  refine Qbw Tryz.func80 rfl rfl fun b0 w x1 hx1=>?_
  unfold Es.cells Ev.v
  refine Qaa (by kernel_rfl) ?_
  repeat' (first|(((with_reducible show pureW _ (Instr.makeInterface _ _) _);refine mkI ?_))|((fail_if_success (with_reducible refine stk ?_));simp only [WE,Nat.reduceBEq,Nat.reduceAdd,ty_3,QbE,QaJ,Qap,d0]))
  exact QeU rfl rfl (fun _ _=>⟨rfl,show (202:Int)≠0 by decide⟩)
 ·have d0:(s.fl.out == 0)=false:=by simpa using h0
  have ho1:=ho
  unfold flOk at ho1
  have hB:=Qx4 (t:=0) ho (show 1≤s.fl.out by omega) (Int.le_refl _)
  have e0:esLate s=({ s with back:=rtoBack s.rtt s.cf.g s.back,win:=131072,thr:=cutLeast s.win,high:=epFast s.high (cutOf s.win),fl:=⟨s.fl.sent,s.fl.told+0,s.fl.out - s.fl.out⟩,rec_:=s.fl.sent,ep:=Ep.zero,hy:=hyZ,rd:=rdBegin s.fl.sent },0):=by
   unfold esLate
   rw [if_neg h0,hB]
   rfl
  rw [e0]
  refine Qbw Tryz.func80 rfl rfl fun b0 w x1 hx1=>?_
  have hA:=Qf1 (x:=x1) s.fl s.fl.out hf hf.out
  rw [hB] at hA
  have hR:PureC Tryz.prog x1 142 [.int .i64 s.fl.sent] (.agg #[.int .i64 (rdBegin s.fl.sent).id,.int .i64 (rdBegin s.fl.sent).end_]):=Qv5 _
  unfold Es.cells Ev.v
  refine Qaa (by kernel_rfl) ?_
  repeat' (first|(with_reducible refine And.intro ?_ ?_)|((with_reducible show callW _ _ _ (some (124,_)) _ _);refine callP QcQ rfl (Qe0 _ _ _) ?_)|((with_reducible show callW _ _ _ (some (138,_)) _ _);refine callP QiG rfl (hA) ?_)|((with_reducible show callW _ _ _ (some (140,_)) _ _);refine callP Qzo rfl (Qv6 s.rtt.has s.rtt.mean s.rtt.far s.cf.seg s.cf.max s.cf.first s.cf.grain s.cf.least s.cf.great s.cf.burst s.back hb) ?_)|((with_reducible show callW _ _ _ (some (141,_)) _ _);refine callP QyA rfl (QuZ _ _ hh) ?_)|((with_reducible show callW _ _ _ (some (142,_)) _ _);refine callP Qzn rfl (hR) ?_)|((with_reducible show cW _ _ (.region 4 _ true) _ _);refine Qaw QAO (by kernel_rfl) Qaf (by kernel_rfl) ?_ (fun _ _ _ h=>h))|((with_reducible show cW _ _ (.region 5 _ true) _ _);refine Qaw QAP (by kernel_rfl) Qaf (by kernel_rfl) ?_ (fun _ _ _ h=>h))|((with_reducible show cW _ _ (.region 3 _ true) _ _);refine QbI 20 QBp (by kernel_rfl) Qaf (by kernel_rfl) ?_; intro l1 l2 e1 e2; simp only [List.take_succ_cons,List.take_zero,List.drop_succ_cons,List.drop_zero] at e1 e2; subst e1; subst e2)|((fail_if_success (with_reducible refine stk ?_));simp only [WE,segX,Nat.reduceBEq,Nat.reduceAdd,Nat.reduceEqDiff,ty_3,Qai,Qa0,Qba,QbY,QaT,QaH,QbS,QbE,QaY,QaF,QbT,Qes,QaJ,Qcm,QcN,Qb5,Qb6,Qe8,Qdk,Qap,QkE,Qc8,d0]))
  exact QbP rfl rfl rfl QcW Qcq ⟨rfl,rfl,_,rfl,hu0.or⟩
theorem Qst {c0 c1 c:Code} (hc:Tryz.f76.body=some (.seq c0 (.seq c1 c))) {x x1:Nat→Obj→Prop} {w:WM} {b0:Nat} (s:Es) {a:Option Addr} {cap:Nat} (e:Ev) (h:EsOk s) (hf:FlIn s.fl) (hb:in64 e.bytes) (hx1:xsub x x1) (hu:MsAt x s.ms (.slice a s.ms.length cap)) :
  Sd Tryz.prog ⟨[b0],w,131,[]⟩ c (BackM Tryz.prog Tryz.f76 111 x1 (KM x (esSend0 s e)) (PM (esSend0 s e)))
   ⟨[(0,.ptr 0 0),(3,.ptr 1 0)],[.cells 111 ((s.cells (.slice a s.ms.length cap)).map .ext),.cells 64 [.ext (.int .i64 e.kind),.ext (.int .i64 e.time),.ext (.int .i64 e.bytes),.ext (.int .i64 e.rtt)]],x1⟩:=by
 simp only [Tryz.f76,Option.some.injEq,Code.seq.injEq] at hc
 replace hc:=hc.2.2
 subst hc
 have hw:=h.winM
 have hs:=h.cf.seg
 have p0:0≤s.win * s.cf.seg:=Int.mul_nonneg (by omega) (by omega)
 have p1:s.win * s.cf.seg≤68719476736 * 9000:=Int.mul_le_mul hw.2 hs.2 (by omega) (by omega)
 have p2:=Qh6 p0 (by omega) (show (1:Int)≤65536 by decide)
 have hE:floE s.win s.cf.seg 65536=0:=Qgk (by decide) p2.2.2
 have iw:in64 s.win:=i64k (by omega) (by omega)
 have is_:in64 s.cf.seg:=i64k (by omega) (by omega)
 have hB:=QlP (x:=x1) s.win s.cf.seg iw is_
 rw [hE] at hB
 generalize hR:floN s.win s.cf.seg 65536=room at hB
 have ir:in64 room:=by rw [←hR]; exact Qx7 _ _ _
 have hS:=Qve (x:=x1) s.fl e.bytes room hf hb ir
 have hT:=QuO (x:=x1) s.bk e.bytes
 unfold Es.cells
 by_cases k1:(flSend s.fl e.bytes room).2=0
 ·rw [k1] at hS
  have hs4:=Qir k1
  have io:in64 (flSend s.fl e.bytes room).1.out:=by rw [hs4.2.2.2.1]; unfold in64 at ir ⊢; dsimp only; have:=hs4.1; unfold flOk at this; omega
  by_cases k2:(bkTake s.bk e.bytes).2=0
  ·rw [k2] at hT
   have e0:esSend0 s e=({ s with fl:=(flSend s.fl e.bytes room).1,bk:=(bkTake s.bk e.bytes).1,last:=e.time,lim:=!used s.win (flSend s.fl e.bytes room).1.out s.cf.seg },0):=by
    unfold esSend0
    rw [hR,if_neg (fun h=>h hE),if_neg (fun h=>h k1),if_neg (fun h=>h k2)]
   rw [e0]
   refine Qaa (by kernel_rfl) ?_
   repeat' (first|(with_reducible refine And.intro ?_ ?_)|((with_reducible show callW _ _ _ (some (37,_)) _ _);refine callP QgF rfl (hB) ?_)|((with_reducible show callW _ _ _ (some (70,_)) _ _);refine callP Qbu rfl (QbQ) ?_)|((with_reducible show callW _ _ _ (some (73,_)) _ _);refine callP QiE rfl (QlE _ _) ?_)|((with_reducible show callW _ _ _ (some (124,_)) _ _);refine callP QcQ rfl (Qe0 _ _ _) ?_)|((with_reducible show callW _ _ _ (some (125,_)) _ _);refine callP QiH rfl (hS) ?_)|((with_reducible show callW _ _ _ (some (126,_)) _ _);refine callP Qn5 rfl (hT) ?_)|((with_reducible show callW _ _ _ (some (127,_)) _ _);refine callP QyW rfl (Qvq _ _ _ iw io is_) ?_)|((with_reducible show cW _ _ (.region 6 _ true) _ _);refine Qaw QiY (by kernel_rfl) Qaf (by kernel_rfl) ?_ (fun _ _ _ h=>h))|((with_reducible show cW _ _ (.region 7 _ true) _ _);refine Qaw Qpz (by kernel_rfl) Qaf (by kernel_rfl) ?_ (fun _ _ _ h=>h))|((with_reducible show cW _ _ (.region 8 _ true) _ _);refine Qaw QAN (by kernel_rfl) Qaf (by kernel_rfl) ?_ (fun _ _ _ h=>h))|((with_reducible show cW _ _ (.region 4 _ true) _ _);refine Qas Qi2 (by kernel_rfl) Qaf (by kernel_rfl) ?_)|((fail_if_success (with_reducible refine stk ?_));simp only [WE,segX,Nat.reduceBEq,Nat.reduceAdd,Nat.reduceEqDiff,ty_3,ty_4,Qa0,Qa1,QaB,QbE,QaY,Qe9,QaF,QaJ,QbK,Qcl,Qbi,QbL,Qap]))
   exact QbP rfl rfl rfl QcW Qcq ⟨rfl,rfl,_,rfl,hu.or⟩
  ·have e0:esSend0 s e=(s,(bkTake s.bk e.bytes).2):=by
    unfold esSend0
    rw [hR,if_neg (fun h=>h hE),if_neg (fun h=>h k1),if_pos k2]
   rw [e0]
   refine Qaa (by kernel_rfl) ?_
   repeat' (first|(with_reducible refine And.intro ?_ ?_)|(((with_reducible show callW _ _ _ (some (73,_)) _ _);refine callPan QiE rfl (Qu3 _ _ k2) ?_))|((with_reducible show callW _ _ _ (some (37,_)) _ _);refine callP QgF rfl (hB) ?_)|((with_reducible show callW _ _ _ (some (70,_)) _ _);refine callP Qbu rfl (QbQ) ?_)|((with_reducible show callW _ _ _ (some (124,_)) _ _);refine callP QcQ rfl (Qe0 _ _ _) ?_)|((with_reducible show callW _ _ _ (some (125,_)) _ _);refine callP QiH rfl (hS) ?_)|((with_reducible show callW _ _ _ (some (126,_)) _ _);refine callP Qn5 rfl (hT) ?_)|((with_reducible show cW _ _ (.region 6 _ true) _ _);refine Qaw QiY (by kernel_rfl) Qaf (by kernel_rfl) ?_ (fun _ _ _ h=>h))|((with_reducible show cW _ _ (.region 7 _ true) _ _);refine Qaw Qpz (by kernel_rfl) Qaf (by kernel_rfl) ?_ (fun _ _ _ h=>h))|((with_reducible show cW _ _ (.region 4 _ true) _ _);refine Qas Qi2 (by kernel_rfl) Qaf (by kernel_rfl) ?_)|((fail_if_success (with_reducible refine stk ?_));simp only [WE,segX,Nat.reduceBEq,Nat.reduceAdd,Nat.reduceEqDiff,ty_3,Qa0,Qa1,QaB,QaY,QaF,QaJ,QbK,QbL,Qap]))
   exact QeU rfl rfl (fun _ _=>⟨rfl,k2⟩)
 ·have e0:esSend0 s e=(s,(flSend s.fl e.bytes room).2):=by
   unfold esSend0
   rw [hR,if_neg (fun h=>h hE),if_pos k1]
  rw [e0]
  refine Qaa (by kernel_rfl) ?_
  repeat' (first|(((with_reducible show callW _ _ _ (some (124,_)) _ _);refine callPan QcQ rfl (QhO _ _ _ k1) ?_))|((with_reducible show callW _ _ _ (some (37,_)) _ _);refine callP QgF rfl (hB) ?_)|((with_reducible show callW _ _ _ (some (70,_)) _ _);refine callP Qbu rfl (QbQ) ?_)|((with_reducible show callW _ _ _ (some (125,_)) _ _);refine callP QiH rfl (hS) ?_)|((with_reducible show cW _ _ (.region 6 _ true) _ _);refine Qaw QiY (by kernel_rfl) Qaf (by kernel_rfl) ?_ (fun _ _ _ h=>h))|((with_reducible show cW _ _ (.region 4 _ true) _ _);refine Qas Qi2 (by kernel_rfl) Qaf (by kernel_rfl) ?_)|((fail_if_success (with_reducible refine stk ?_));simp only [WE,segX,Nat.reduceBEq,ty_3,Qa0,QaB,QaY,QaF,QaJ,QbL,Qap]))
  exact QeU rfl rfl (fun _ _=>⟨rfl,k1⟩)
theorem QvK {x:Nat→Obj→Prop} (s:Es) {u:Value} (e:Ev) (h:EsOk s) (hf:FlIn s.fl) (hb:in64 e.bytes) (ht:in64 e.time) (hu:MsAt x s.ms u):MemC Tryz.prog x 76 111 (s.cells u) [e.v] (KM x (esSend s e)) (PM (esSend s e)):=by
 have hu0:=hu
 obtain ⟨a,cap,rfl,hu⟩:=hu
 have hn:=h.now
 have hl:=h.last
 have hbk:=h.back
 have il:in64 s.last:=i64k (by omega) (by omega)
 rw [show esSend s e=esSend0 (esWake s e) e from rfl]
 refine Qbw Tryz.func76 rfl rfl fun b0 w x1 hx1=>?_
 refine Qal (Qaa (by kernel_rfl) ?_)
 unfold Ev.v
 simp only [WE,Nat.reduceLeDiff,segX,Nat.reduceBEq,Nat.reduceAdd,Nat.reduceEqDiff,Int.reduceNeg,Int.reduceEq,Int.reduceBEq,Int.reduceLT,Int.reduceLE,Int.reduceBNe,Int.reduceToNat,Nat.reduceMul,Nat.reduceMod,Int.reducePow,reduceIte,ty_3,ty_4,Qai,Qa0,QaH,Qa1,QaB,QbE,QaY,Qe9,QaF,QaJ,Qb6,QbK,Qcl,Qbi,QbL,Qap,Tryz.underlying3,QER]
 by_cases k0:s.fl.out=0
 ·have d0:(s.fl.out == 0)=true:=by simpa using k0
  have hok:=Qna (e:=e) h
  have e1:esWake s e={ s with win:=idleOf s.win s.last e.time (esRto s) s.cf,ep:=epShift s.ep (sat (e.time - s.last)) }:=by unfold esWake; rw [if_pos k0]
  have is2:in64 s.ep.start:=by
   have:=h.ep
   unfold epOk at this
   cases ho:s.ep.on
   ·rw [if_neg (by rw [ho]; simp)] at this
    rw [this]; exact i64k (by decide) (by decide)
   ·rw [if_pos ho] at this
    have:=this.1
    unfold epTime at this
    exact i64k (by omega) (by omega)
  have hP:PureC Tryz.prog x1 123 [s.ep.v,.int .i64 s.last,.int .i64 e.time] (.agg #[.bool (epShift s.ep (sat (e.time - s.last))).on,.int .i64 (epShift s.ep (sat (e.time - s.last))).start,.int .i64 (epShift s.ep (sat (e.time - s.last))).first,.int .i64 (epShift s.ep (sat (e.time - s.last))).max,.int .i64 (epShift s.ep (sat (e.time - s.last))).k,.int .i64 (epShift s.ep (sat (e.time - s.last))).est]):=Qvp s.ep s.last e.time is2 il ht
  unfold Es.cells
  refine Qal (Qaa (by kernel_rfl) ?_)
  repeat' (first|(with_reducible refine And.intro ?_ ?_)|(((with_reducible show callW _ _ _ (some (83,_)) _ _);refine callO Qof (fun s'=>QlW (QaQ (S:=⟨_,_,_⟩) (k:=0) (e:=s) (u:=.slice a s.ms.length cap) rfl) (by omega)) ?_))|((with_reducible show callW _ _ _ (some (122,_)) _ _);refine callP QyU rfl (Qvo s.win s.last e.time (esRto s) s.cf il ht) ?_)|((with_reducible show callW _ _ _ (some (123,_)) _ _);refine callP QyV rfl (hP) ?_)|((with_reducible show cW _ _ (.region 2 _ true) _ _);refine Qaw QAM (by kernel_rfl) Qaf (by kernel_rfl) ?_ (fun _ _ _ h=>h))|((with_reducible show cW _ _ (.region 3 _ true) _ _);refine QbI 17 QBn (by kernel_rfl) Qaf (by kernel_rfl) ?_; intro l1 l2 e1 e2; simp only [List.take_succ_cons,List.take_zero,List.drop_succ_cons,List.drop_zero] at e1 e2; subst e1; subst e2)|((fail_if_success (with_reducible refine stk ?_));simp only [WE,segX,Nat.reduceBEq,Nat.reduceAdd,Nat.reduceEqDiff,ty_3,Qai,QaH,QbE,QaY,Qe9,QaF,QaJ,Qb6,Qbi,Qap,d0]))
  rw [e1] at hok ⊢
  refine QbO (Nat.le_of_ble_eq_true rfl) ?_ (Qst (cap:=cap) (a:=a) rfl _ e hok hf hb hx1 hu0)
  exact Qae ⟨⟨rfl,rfl⟩,⟨rfl,rfl⟩,trivial⟩ ⟨rfl,rfl,trivial⟩ rfl
 ·have d0:(s.fl.out == 0)=false:=by simpa using k0
  have e1:esWake s e=s:=by unfold esWake; rw [if_neg k0]
  unfold Es.cells
  refine Qal (Qaa (by kernel_rfl) ?_)
  repeat' (first|((fail_if_success (with_reducible refine stk ?_));simp only [WE,Nat.reduceBEq,Nat.reduceAdd,ty_3,QbE,QaJ,Qap,d0]))
  rw [e1]
  refine QbO (Nat.le_of_ble_eq_true rfl) ?_ (Qst (cap:=cap) (a:=a) rfl s e h hf hb hx1 hu0)
  exact Qae ⟨⟨rfl,rfl⟩,⟨rfl,rfl⟩,trivial⟩ ⟨rfl,rfl,trivial⟩ rfl
end Go.Proofs.YtkokohkbhlnjkaaGreatDoor
