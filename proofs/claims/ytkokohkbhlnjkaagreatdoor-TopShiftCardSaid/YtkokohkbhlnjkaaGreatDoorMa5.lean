/- The framework and the contracts of the program's functions, part 5: what each answers. Conditions: those that each names. -/
import Derived.Test.YtkokohkbhlnjkaaGreatDoorMa4
import Derived.Conc.CrowdSel
import Derived.Conc.Know
namespace Go.Proofs.YtkokohkbhlnjkaaGreatDoor
set_option linter.unusedVariables false
set_option linter.unusedSimpArgs false
open Go Go.RowKit Go.Proofs.YtkokohkbhlnjkaaGreatDoor.R
set_option maxRecDepth 50000
set_option maxHeartbeats 4000000
structure EvIn (s:Es) (e:Ev):Prop where
 time:e.time=s.now
 bytes:0≤e.bytes∧e.bytes≤1073741824
 rtt:0≤e.rtt∧e.rtt≤1073741824
theorem Qtr {x:Nat→Obj→Prop} {a:Option Addr} {len:Nat} {f g:Nat→Int×Int} (h:Mks x a len f) (hg:∀ i,i < len→f i=g i):Mks x a len g:=fun i hi=>by
 obtain ⟨b,off,c,T,fr,h1,h2,h3,h4,h5⟩:=h i hi
 rw [hg i hi] at h3 h4 h5
 exact ⟨b,off,c,T,fr,h1,h2,h3,h4,h5⟩
theorem Qkp {x:Nat→Obj→Prop} {l:List (Int×Int)} {win t n:Int} {u:Value} (h:RMk (putLen (mkF l) l.length win t n) (putFn (mkF l) l.length win t n) u x):MsAt x (putL l win t n) u:=by
 obtain ⟨a,c,h1,h2,h3,h4,h5⟩:=h
 unfold MsAt
 rw [Qjs]
 exact ⟨a,c,h1,h2,h3,h4,Qtr h5 fun i hi=>by unfold putL; exact (QpL _ hi).symm⟩
theorem Qrs {s:Es} {e:Ev} (h:EsOk s) (hv:EvIn s e):putErr (mkF s.ms) s.ms.length 10000000 e.time=0:=by
 have hn:=h.now
 have ht:=hv.time
 unfold putErr
 rw [if_neg,if_neg]
 ·rintro ⟨h1,h2⟩
  have:=h.ms _ (Qi5 (l:=s.ms) (i:=s.ms.length - 1) (by omega))
  unfold esMark at this
  simp only [Bool.and_eq_true,decide_eq_true_eq] at this
  omega
 ·rw [h.mo,(QgS e.time).2 (by omega)]
  simp
theorem Qso {s:Es} {e:Ev} (h:EsOk s) (hv:EvIn s e) (h0:e.rtt≠0):(rttSample s.rtt e.rtt).2=0:=by
 have hr:=hv.rtt
 unfold rttSample
 rw [h.rtt,decide_eq_false (show ¬ e.rtt < 1 by omega),decide_eq_false (show ¬ 1073741824 < e.rtt by omega)]
 cases s.rtt.has <;> rfl
theorem QoO {s:Es} {e:Ev} (h:EsOk s) (hv:EvIn s e) (h0:e.rtt≠0):(hySample s.hy e.rtt).2=0:=by
 have hr:=hv.rtt
 rw [QoP _ _ ⟨h.hy,by omega,hr.2⟩]
theorem QxC {s:Es} {e:Ev} (h:EsOk s) (hv:EvIn s e):(esTimes s e).2=0:=by
 unfold esTimes
 by_cases h0:e.rtt=0
 ·rw [if_pos h0]
 ·rw [if_neg h0,if_neg (fun h'=>h' (Qso h hv h0)),if_neg (fun h'=>h' (Qrs h hv))]
  cases esSlow s
  ·rfl
  ·simp only [cond_true]
   rw [if_neg (fun h'=>h' (QoO h hv h0))]
theorem QvM {x:Nat→Obj→Prop} (s:Es) {u:Value} (e:Ev) (h:EsOk s) (hv:EvIn s e) (hmax:s.ms.length≤100000) (hu:MsAt x s.ms u):MemC Tryz.prog x 129 111 (s.cells u) [e.v] (KM x (esTimes s e)) (PM (esTimes s e)):=by
 have hu0:=hu
 obtain ⟨a,cap,rfl,hc1,hc2,hn,hm⟩:=hu
 by_cases k0:e.rtt=0
 ·have d0:(e.rtt == 0)=true:=by simpa using k0
  have e0:esTimes s e=(s,0):=if_pos k0
  rw [e0]
  refine Qbw Tryz.func129 rfl rfl fun b0 w x1 hx1=>?_
  unfold Es.cells Ev.v
  refine Qaa (by kernel_rfl) ?_
  repeat' (first|((fail_if_success (with_reducible refine stk ?_));simp only [WE,Nat.reduceBEq,Nat.reduceAdd,ty_3,QiA,d0]))
  exact Qc7 rfl rfl rfl QcW Qcq ⟨rfl,rfl,_,rfl,hu0.or⟩
 ·have d0:(e.rtt == 0)=false:=by simpa using k0
  have q1:=Qso h hv k0
  have q2:=Qrs h hv
  have q3:=QoO h hv k0
  have iw:in64 10000000:=i64k (by decide) (by decide)
  refine Qbw Tryz.func129 rfl rfl fun b0 w x1 hx1=>?_
  have hS:=Qv9 (x:=x1) s.rtt.has s.rtt.mean s.rtt.far e.rtt
  have hP:=QlT (x:=x1) 10000000 e.time e.rtt (by omega) hc1 hn iw (hm.mono hx1)
  have hH:=fun x2=>Qvv (x:=x2) s.hy.last s.hy.least s.hy.many s.hy.gentle s.hy.done s.hy.base s.hy.rounds e.rtt
  rw [show (rttSample ⟨s.rtt.has,s.rtt.mean,s.rtt.far⟩ e.rtt).2=0 from q1] at hS
  simp only [show (hySample ⟨s.hy.last,s.hy.least,s.hy.many,s.hy.gentle,s.hy.done,s.hy.base,s.hy.rounds⟩ e.rtt).2=0 from q3] at hH
  cases ks:esSlow s with
  | true=>
   have e0:esTimes s e=({ s with rtt:=(rttSample s.rtt e.rtt).1,ms:=putL s.ms 10000000 e.time e.rtt,hy:=(hySample s.hy e.rtt).1 },0):=by
    unfold esTimes
    rw [if_neg k0,if_neg (fun h=>h q1),if_neg (fun h=>h q2),ks]
    simp only [cond_true]
    rw [if_neg (fun h=>h q3)]
   rw [e0]
   unfold Es.cells Ev.v
   refine Qaa (by kernel_rfl) ?_
   repeat' (first|(with_reducible refine And.intro ?_ ?_)|(((with_reducible show xsub _ _); first | exact hx | exact fun _ _ h=>h))|(((with_reducible show callW _ _ _ (some (191,_)) _ _);refine callEN Qoq rfl hP ?_; intro v x' x'' hR hx hx' hN; obtain ⟨u2,rfl,a2,c2,rfl,hR⟩:=hR))|(((with_reducible show callW _ _ _ (some (121,_)) _ _);refine callO QcR (fun s'=>QcI (QaQ (S:=⟨_,_,_⟩) (k:=0) (e:={ s with rtt:=(rttSample s.rtt e.rtt).1,ms:=putL s.ms 10000000 e.time e.rtt }) (u:=.slice a2 (putLen (mkF s.ms) s.ms.length 10000000 e.time e.rtt) c2) rfl)) ?_; rw [show esSlow { s with rtt:=(rttSample s.rtt e.rtt).1,ms:=putL s.ms 10000000 e.time e.rtt }=true from ks]))|((with_reducible show callW _ _ _ (some (131,_)) _ _);refine callP Qoa rfl (QlF _ _ _ _ _ _ _) ?_)|((with_reducible show callW _ _ _ (some (188,_)) _ _);refine callP Qoc rfl (QlH _ _ _) ?_)|((with_reducible show callW _ _ _ (some (189,_)) _ _);refine callP Qox rfl (hS) ?_)|((with_reducible show callW _ _ _ (some (190,_)) _ _);refine callP Qob rfl (QlG _ _ _) ?_)|((with_reducible show callW _ _ _ (some (192,_)) _ _);refine callP Qy1 rfl (hH _) ?_)|((with_reducible show cW _ _ (.region 2 _ true) _ _);refine Qaw Qpx (by kernel_rfl) Qaf (by kernel_rfl) ?_ (fun _ _ _ h=>h))|((with_reducible show cW _ _ (.region 3 _ true) _ _);refine Qaw Qpy (by kernel_rfl) Qaf (by kernel_rfl) ?_ (fun _ _ _ h=>h))|((with_reducible show cW _ _ (.region 5 _ true) _ _);refine Qaw QAE (by kernel_rfl) Qaf (by kernel_rfl) ?_ (fun _ _ _ h=>h))|((fail_if_success (with_reducible refine stk ?_));simp only [WE,segX,Nat.reduceBEq,Nat.reduceAdd,Nat.reduceEqDiff,ty_3,Qba,QeL,QaT,Qcm,Qet,Qb5,Qbi,QiA,Qap,d0,q2]))
   exact QbP rfl rfl rfl hx' hN ⟨rfl,rfl,_,rfl,(Qkp ⟨_,_,rfl,hR⟩).mono fun b o h=>.inr h⟩
  | false=>
   have e0:esTimes s e=({ s with rtt:=(rttSample s.rtt e.rtt).1,ms:=putL s.ms 10000000 e.time e.rtt },0):=by
    unfold esTimes
    rw [if_neg k0,if_neg (fun h=>h q1),if_neg (fun h=>h q2),ks]
    rfl
   rw [e0]
   unfold Es.cells Ev.v
   refine Qaa (by kernel_rfl) ?_
   repeat' (first|(with_reducible refine And.intro ?_ ?_)|(((with_reducible show xsub _ _); first | exact hx | exact fun _ _ h=>h))|(((with_reducible show callW _ _ _ (some (191,_)) _ _);refine callEN Qoq rfl hP ?_; intro v x' x'' hR hx hx' hN; obtain ⟨u2,rfl,a2,c2,rfl,hR⟩:=hR))|(((with_reducible show callW _ _ _ (some (121,_)) _ _);refine callO QcR (fun s'=>QcI (QaQ (S:=⟨_,_,_⟩) (k:=0) (e:={ s with rtt:=(rttSample s.rtt e.rtt).1,ms:=putL s.ms 10000000 e.time e.rtt }) (u:=.slice a2 (putLen (mkF s.ms) s.ms.length 10000000 e.time e.rtt) c2) rfl)) ?_; rw [show esSlow { s with rtt:=(rttSample s.rtt e.rtt).1,ms:=putL s.ms 10000000 e.time e.rtt }=false from ks]))|((with_reducible show callW _ _ _ (some (188,_)) _ _);refine callP Qoc rfl (QlH _ _ _) ?_)|((with_reducible show callW _ _ _ (some (189,_)) _ _);refine callP Qox rfl (hS) ?_)|((with_reducible show callW _ _ _ (some (190,_)) _ _);refine callP Qob rfl (QlG _ _ _) ?_)|((with_reducible show cW _ _ (.region 2 _ true) _ _);refine Qaw Qpx (by kernel_rfl) Qaf (by kernel_rfl) ?_ (fun _ _ _ h=>h))|((with_reducible show cW _ _ (.region 3 _ true) _ _);refine Qaw Qpy (by kernel_rfl) Qaf (by kernel_rfl) ?_ (fun _ _ _ h=>h))|((fail_if_success (with_reducible refine stk ?_));simp only [WE,segX,Nat.reduceBEq,Nat.reduceAdd,Nat.reduceEqDiff,ty_3,Qba,QeL,Qcm,Qet,Qbi,QiA,Qap,d0,q2]))
   exact QbP rfl rfl rfl hx' hN ⟨rfl,rfl,_,rfl,(Qkp ⟨_,_,rfl,hR⟩).mono fun b o h=>.inr h⟩
set_option linter.unusedVariables false
set_option linter.unusedSimpArgs false
open Go Go.RowKit Go.Proofs.YtkokohkbhlnjkaaGreatDoor.R
set_option maxRecDepth 50000
set_option maxHeartbeats 4000000
theorem QwW {e:Ep} (h:epOk e):EpIn e:=by
 unfold epOk at h
 cases ho:e.on with
 | false=>
  rw [if_neg (by rw [ho]; simp)] at h
  rw [h]
  exact ⟨i64k (by decide) (by decide),i64k (by decide) (by decide),i64k (by decide) (by decide),i64k (by decide) (by decide),i64k (by decide) (by decide)⟩
 | true=>
  rw [if_pos ho] at h
  obtain ⟨h1,h2,h3,h4,h5,h6⟩:=h
  have h7:=QmE (e.max - e.first)
  unfold epTime at h1
  unfold epWin at h2 h3 h4
  exact ⟨i64k (by omega) (by omega),i64k (by omega) (by omega),i64k (by omega) (by omega),i64k (by omega) (by omega),i64k (by omega) (by omega)⟩
theorem QE3 {r:Rtt} (h:rttCheck r=true):in64 (rttMean r):=by
 have:=(Qcw r).1 h
 rw [QeH r (by omega) (by omega)]
 exact i64k (by omega) (by omega)
theorem Ql4 {c0 c1 c:Code} (hc:Tryz.f137.body=some (.seq c0 (.seq c1 c))) {x x1 xm:Nat→Obj→Prop} (hT:TensX x) {w:WM} {b0:Nat} (s:Es) {a:Option Addr} {cap:Nat} (e:Ev) (told:Int) (h:EsOk s) (ho:s.ep.on=true) (hv:EvIn s e) (hx1:xsub x x1) (hu:MsAt xm s.ms (.slice a s.ms.length cap)) :
  Sd Tryz.prog ⟨[b0],w,104,[]⟩ c (BackM Tryz.prog Tryz.f137 111 x1 (KM xm (esCalm1 s e told,0)) (PM (esCalm1 s e told,0)))
   ⟨[(0,.ptr 0 0),(2,.ext (.int .i64 told)),(4,.ptr 1 0)],[.cells 111 ((s.cells (.slice a s.ms.length cap)).map .ext),.cells 64 [.ext (.int .i64 e.kind),.ext (.int .i64 e.time),.ext (.int .i64 e.bytes),.ext (.int .i64 e.rtt)]],x1⟩:=by
 simp only [Tryz.f137,Option.some.injEq,Code.seq.injEq] at hc
 replace hc:=hc.2.2
 subst hc
 have hn:=h.now
 have hvt:=hv.time
 have hw:=h.winM
 have hm:=h.cf.max
 have hrm:=QE3 h.rtt
 have it:in64 e.time:=i64k (by omega) (by omega)
 have iw:in64 s.win:=i64k (by omega) (by omega)
 have ict:∀ n,in64 (clkAfter e.time n):=fun n=>by unfold clkAfter mx mn; (repeat' split) <;> exact i64k (by omega) (by omega)
 have hr:=Qjw s.ep.est s.ep.max s.win told
 generalize hest:renoStep s.ep.est s.ep.max s.win told=est at hr
 have hep:epOk (epEst s.ep est):=Qh8 h.ep ho hr
 have hTx:TensX x1:=by obtain ⟨T,f,h⟩:=hT; exact ⟨T,f,hx1 _ _ h⟩
 have hA:=QuP (x:=x1) e.time (rttMean ⟨s.rtt.has,s.rtt.mean,s.rtt.far⟩) it hrm
 have hC:=QuW (x:=x1) hTx (epEst s.ep est) (clkAfter e.time (rttMean s.rtt)) s.win (QwW hep) (ict _) iw
 have hRS:=QvU (x:=x1) s.ep.est s.ep.max s.win told
 rw [hest] at hRS
 have itg:in64 (cubTarget (epEst s.ep est) (clkAfter e.time (rttMean s.rtt)) s.win):=by
  unfold cubTarget
  split
  ·generalize cubAt _ _=A
   unfold clampI mn sat
   (repeat' split) <;> exact i64k (by omega) (by omega)
  ·exact iw
 have hwm:wr .i64 (s.cf.max * 65536)=s.cf.max * 65536:=Qag (by omega) (by omega)
 have e1:esCalm1 s e told={ s with ep:=epEst s.ep est,win:=mn (cutOf (growBoth s.win (cubTarget (epEst s.ep est) (clkAfter e.time (rttMean s.rtt)) s.win) est told)) (cutOf (s.cf.max * 65536)) }:=by
  unfold esCalm1
  rw [hest]
  rfl
 rw [e1]
 unfold Es.cells
 refine Qaa (by kernel_rfl) ?_
 repeat' (first|((with_reducible show callW _ _ _ (some (135,_)) _ _);refine callP Qon rfl (QlQ _ _) ?_)|((with_reducible show callW _ _ _ (some (197,_)) _ _);refine callP Qze rfl (hRS) ?_)|((with_reducible show callW _ _ _ (some (198,_)) _ _);refine callP Qyx rfl (hC) ?_)|((with_reducible show callW _ _ _ (some (199,_)) _ _);refine callP Qyq rfl (hA) ?_)|((with_reducible show callW _ _ _ (some (200,_)) _ _);refine callP QgL rfl (Qf6 s.rtt.has s.rtt.mean s.rtt.far) ?_)|((with_reducible show callW _ _ _ (some (201,_)) _ _);refine callP QyS rfl (Qvi s.win _ est told itg) ?_)|((with_reducible show cW _ _ (.region 3 _ true) _ _);refine QbI 24 QAT (by kernel_rfl) Qaf (by kernel_rfl) ?_; intro l1 l2 e1 e2; simp only [List.take_succ_cons,List.take_zero,List.drop_succ_cons,List.drop_zero] at e1 e2; subst e1; subst e2)|((with_reducible show cW _ _ (.region 4 _ true) _ _);refine Qas QAU (by kernel_rfl) Qaf (by kernel_rfl) ?_)|((with_reducible show cW _ _ (.region 5 _ true) _ _);refine QbI 26 QAV (by kernel_rfl) Qaf (by kernel_rfl) ?_; intro l1 l2 e1 e2; simp only [List.take_succ_cons,List.take_zero,List.drop_succ_cons,List.drop_zero] at e1 e2; subst e1; subst e2)|((fail_if_success (with_reducible refine stk ?_));simp only [WE,segX,Nat.reduceBEq,Nat.reduceAdd,Nat.reduceEqDiff,ty_3,Qba,QaH,QaE,Qgs,Qiz,QaY,QaF,Qcm,Qb6,Qbi,Qap,hwm]))
 exact QbP rfl rfl rfl QcW Qcq ⟨rfl,rfl,_,rfl,hu.or⟩
theorem Qxi {s:Es} {e:Ev} (h:EsOk s) (hv:EvIn s e) (told:Int):esCalm s e told=(esCalm1 (esCalm0 s e).1 e told,0):=by
 have h1:=(Qgd h hv.time).1
 unfold esCalm
 rw [if_neg (fun h'=>h' h1)]
theorem QvE {x xm:Nat→Obj→Prop} (hT:TensX x) (s:Es) {u:Value} (e:Ev) (told:Int) (h:EsOk s) (hv:EvIn s e) (hu:MsAt xm s.ms u):MemC Tryz.prog x 137 111 (s.cells u) [e.v,.int .i64 told] (KM xm (esCalm s e told)) (PM (esCalm s e told)):=by
 have hu0:=hu
 obtain ⟨a,cap,rfl,hu⟩:=hu
 rw [Qxi h hv]
 have hok:=Qgd (e:=e) h hv.time
 refine Qbw Tryz.func137 rfl rfl fun b0 w x1 hx1=>?_
 have hTx:TensX x1:=by obtain ⟨T,f,h⟩:=hT; exact ⟨T,f,hx1 _ _ h⟩
 refine Qal (Qaa (by kernel_rfl) ?_)
 unfold Ev.v
 simp only [WE,Nat.reduceLeDiff,segX,Nat.reduceBEq,Nat.reduceAdd,Nat.reduceEqDiff,Int.reduceNeg,Int.reduceEq,Int.reduceBEq,Int.reduceLT,Int.reduceLE,Int.reduceBNe,Int.reduceToNat,Nat.reduceMul,Nat.reduceMod,Int.reducePow,reduceIte,ty_3,ty_4,Qba,QaH,QaE,Qb4,Qgs,Qiz,QaY,QaF,Qes,Qcm,Qb6,Qbi,Qap,QDb]
 cases ho:s.ep.on with
 | true=>
  have e1:esCalm0 s e=(s,0):=by unfold esCalm0; rw [ho]; rfl
  rw [e1]
  unfold Es.cells
  refine Qal (Qaa (by kernel_rfl) ?_)
  repeat' (first|((fail_if_success (with_reducible refine stk ?_));simp only [WE,Nat.reduceBEq,ty_4,Qb4,Qb6,Qap,ho]))
  refine QbO (Nat.le_of_ble_eq_true rfl) ?_ (Ql4 (cap:=cap) (a:=a) rfl hT s e told h ho hv hx1 hu0)
  exact Qae ⟨⟨rfl,rfl⟩,⟨rfl,rfl⟩,⟨rfl,rfl⟩,trivial⟩ ⟨by simp only [Es.cells,ho,List.map_cons,List.map_nil],rfl,trivial⟩ rfl
 | false=>
  have h1:=QmB (t:=e.time) (n:=s.win) (h:=s.high) (by rw [hv.time]; exact h.now) ⟨by have:=h.winM; omega,h.winM.2⟩ h.high
  have e1:esCalm0 s e=({ s with ep:=(epBegin e.time s.win s.high).1 },0):=by unfold esCalm0; rw [ho]; simp only [cond_false]; rw [if_neg (fun h'=>h' h1)]
  rw [e1] at hok ⊢
  have hB:PureC Tryz.prog x1 112 [.int .i64 e.time,.int .i64 s.win,.int .i64 s.high] (.tuple #[.agg #[.bool (epBegin e.time s.win s.high).1.on,.int .i64 (epBegin e.time s.win s.high).1.start,.int .i64 (epBegin e.time s.win s.high).1.first,.int .i64 (epBegin e.time s.win s.high).1.max,.int .i64 (epBegin e.time s.win s.high).1.k,.int .i64 (epBegin e.time s.win s.high).1.est],.int .i64 (epBegin e.time s.win s.high).2]):=QlJ hTx e.time s.win s.high
  rw [h1] at hB
  unfold Es.cells
  refine Qal (Qaa (by kernel_rfl) ?_)
  repeat' (first|(with_reducible refine And.intro ?_ ?_)|((with_reducible show callW _ _ _ (some (112,_)) _ _);refine callP Qoh rfl (hB) ?_)|((with_reducible show callW _ _ _ (some (196,_)) _ _);refine callP QyE rfl (Qu4 _ _ _ _ _ _) ?_)|((with_reducible show cW _ _ (.region 2 _ true) _ _);refine Qaw QAF (by kernel_rfl) Qaf (by kernel_rfl) ?_ (fun _ _ _ h=>h))|((fail_if_success (with_reducible refine stk ?_));simp only [WE,Nat.reduceBEq,Nat.reduceAdd,Nat.reduceEqDiff,ty_3,ty_4,QaH,Qb4,QaF,Qes,Qb6,Qbi,Qap,ho]))
  refine QbO (Nat.le_of_ble_eq_true rfl) ?_ (Ql4 (cap:=cap) (a:=a) rfl hT _ e told hok.2.1 hok.2.2 ⟨hv.time,hv.bytes,hv.rtt⟩ hx1 hu0)
  exact Qae ⟨⟨rfl,rfl⟩,⟨rfl,rfl⟩,⟨rfl,rfl⟩,trivial⟩ ⟨rfl,rfl,trivial⟩ rfl
structure Way (x xm x1 x2 x':Nat→Obj→Prop) (ms:List (Int×Int)) (u:Value):Prop where
 sub:xsub x x1
 subm:xsub xm x1
 up:xsub x1 x2
 new:NewIn x1 x'
 know:xsub x' x2
 at_:MsAt (fun b o=>xm b o∨x' b o) ms u
theorem QFe {s:Es} {e:Ev} (h:EsOk s) (hv:EvIn s e):floE e.bytes 65536 s.cf.seg=0:=by
 have hb:=hv.bytes
 have hs:=h.cf.seg
 exact Qgk (by omega) (Qh6 (by omega) (by omega) (by omega)).2.2
theorem Qhy {c0 c1 c2 c3 c4 c5 c6 c:Code} (hc:Tryz.f77.body=some (.seq c0 (.seq c1 (.seq c2 (.seq c3 (.seq c4 (.seq c5 (.seq c6 c)))))))) {x xm x1 x2 x':Nat→Obj→Prop} (hT:TensX x) {w:WM} {b0:Nat} (s:Es) {a:Option Addr} {cap:Nat} (e:Ev) (h:EsOk s) (hv:EvIn s e) (hw:Way x xm x1 x2 x' s.ms (.slice a s.ms.length cap)) :
  Sd Tryz.prog ⟨[b0],w,134,[]⟩ c (BackM Tryz.prog Tryz.f77 111 x1 (KM xm (esGrow s e)) (PM (esGrow s e)))
   ⟨[(0,.ptr 0 0),(3,.ptr 1 0)],[.cells 111 ((s.cells (.slice a s.ms.length cap)).map .ext),.cells 64 [.ext (.int .i64 e.kind),.ext (.int .i64 e.time),.ext (.int .i64 e.bytes),.ext (.int .i64 e.rtt)]],x2⟩:=by
 simp only [Tryz.f77,Option.some.injEq,Code.seq.injEq] at hc
 replace hc:=hc.2.2.2.2.2.2.2
 subst hc
 have hseg:=QFe h hv
 have hb:=hv.bytes
 have hs:=h.cf.seg
 have hm:=h.cf.max
 have hwm:wr .i64 (s.cf.max * 65536)=s.cf.max * 65536:=Qag (by omega) (by omega)
 have hSg:=fun y=>Qvg (x:=y) e.bytes s.cf.seg (i64k (by omega) (by omega)) (i64k (by omega) (by omega))
 simp only [hseg] at hSg
 cases hr:esRecs s with
 | true=>
  have e0:esGrow s e=(s,0):=by unfold esGrow; rw [hr]; rfl
  rw [e0]
  unfold Es.cells
  refine Qaa (by kernel_rfl) ?_
  repeat' (first|(((with_reducible show callW _ _ _ (some (133,_)) _ _);refine callO Qdn (fun s'=>Qde (QaQ (S:=⟨_,_,_⟩) (k:=0) (e:=s) (u:=.slice a s.ms.length cap) rfl)) ?_))|((fail_if_success (with_reducible refine stk ?_));simp only [WE,Nat.reduceBEq,hr]))
  exact Qc7 rfl rfl rfl hw.know hw.new ⟨rfl,rfl,_,rfl,hw.at_⟩
 | false=>
 cases hl:s.lim with
 | true=>
  have e0:esGrow s e=(s,0):=by unfold esGrow; rw [hr,hl]; rfl
  rw [e0]
  unfold Es.cells
  refine Qaa (by kernel_rfl) ?_
  repeat' (first|(((with_reducible show callW _ _ _ (some (133,_)) _ _);refine callO Qdn (fun s'=>Qde (QaQ (S:=⟨_,_,_⟩) (k:=0) (e:=s) (u:=.slice a s.ms.length cap) (by simp only [Es.cells,hl]; rfl))) ?_))|((fail_if_success (with_reducible refine stk ?_));simp only [WE,Nat.reduceBEq,ty_4,Qcl,Qap,hr,hl]))
  exact Qc7 rfl rfl rfl hw.know hw.new ⟨rfl,rfl,_,by simp only [Es.cells,hl],hw.at_⟩
 | false=>
 cases hsl:esSlow s with
 | true=>
  have e0:esGrow s e=(esFast s (floN e.bytes 65536 s.cf.seg),0):=by
   unfold esGrow
   rw [hr,hl]
   simp only [Bool.or_self,cond_false]
   rw [if_neg (fun h'=>h' hseg),hsl]
   rfl
  rw [e0]
  unfold Es.cells
  refine Qaa (by kernel_rfl) ?_
  repeat' (first|(with_reducible refine And.intro ?_ ?_)|(((with_reducible show callW _ _ _ (some (133,_)) _ _);refine callO Qdn (fun s'=>Qde (QaQ (S:=⟨_,_,_⟩) (k:=0) (e:=s) (u:=.slice a s.ms.length cap) (by simp only [Es.cells,hl]; rfl))) ?_))|(((with_reducible show callW _ _ _ (some (121,_)) _ _);refine callO QcR (fun s'=>QcI (QaQ (S:=⟨_,_,_⟩) (k:=0) (e:=s) (u:=.slice a s.ms.length cap) (by simp only [Es.cells,hl]; rfl))) ?_))|(with_reducible refine Qah (fun _=>?_) (fun _=>?_))|((with_reducible show callW _ _ _ (some (71,_)) _ _);refine callP Qgz rfl (QhP _) ?_)|((with_reducible show callW _ _ _ (some (134,_)) _ _);refine callP Qom rfl (hSg _) ?_)|((with_reducible show callW _ _ _ (some (135,_)) _ _);refine callP Qon rfl (QlQ _ _) ?_)|((with_reducible show callW _ _ _ (some (136,_)) _ _);refine callP QyT rfl (Qvj _ _ s.hy) ?_)|((with_reducible show cW _ _ (.region 9 _ true) _ _);refine Qaw QpB (by kernel_rfl) Qaf (by kernel_rfl) ?_ (fun _ _ _ h=>h))|((with_reducible show cW _ _ (.region 11 _ true) _ _);refine QbI 24 QBo (by kernel_rfl) Qaf (by kernel_rfl) ?_; intro l1 l2 e1 e2; simp only [List.take_succ_cons,List.take_zero,List.drop_succ_cons,List.drop_zero] at e1 e2; subst e1; subst e2)|((fail_if_success (with_reducible refine stk ?_));simp only [WE,segX,Nat.reduceBEq,Nat.reduceAdd,Nat.reduceEqDiff,ty_3,ty_4,QaT,QaB,QaE,Qgr,QaY,QaF,QbT,Qb5,Qcl,QbL,Qap,hr,hl,hsl,hwm]))
  ·rename_i hd
   have e1:esFast s (floN e.bytes 65536 s.cf.seg)={ s with win:=mn (cutOf (growSlow s.win (floN e.bytes 65536 s.cf.seg) s.hy)) (cutOf (s.cf.max * 65536)),thr:=mn (cutOf (growSlow s.win (floN e.bytes 65536 s.cf.seg) s.hy)) (cutOf (s.cf.max * 65536)) }:=by
    unfold esFast
    rw [hd]
    rfl
   rw [e1]
   exact Qc7 rfl rfl rfl hw.know hw.new ⟨rfl,rfl,_,by simp only [Es.cells,hl],hw.at_⟩
  ·rename_i hd
   have e1:esFast s (floN e.bytes 65536 s.cf.seg)={ s with win:=mn (cutOf (growSlow s.win (floN e.bytes 65536 s.cf.seg) s.hy)) (cutOf (s.cf.max * 65536)) }:=by
    unfold esFast
    rw [hd]
    rfl
   rw [e1]
   exact Qc7 rfl rfl rfl hw.know hw.new ⟨rfl,rfl,_,by simp only [Es.cells,hl],hw.at_⟩
 | false=>
  have e0:esGrow s e=esCalm s e (floN e.bytes 65536 s.cf.seg):=by
   unfold esGrow
   rw [hr,hl]
   simp only [Bool.or_self,cond_false]
   rw [if_neg (fun h'=>h' hseg),hsl]
   rfl
  rw [e0]
  unfold Es.cells
  refine Qaa (by kernel_rfl) ?_
  repeat' (first|(with_reducible refine And.intro ?_ ?_)|(((with_reducible show callW _ _ _ (some (133,_)) _ _);refine callO Qdn (fun s'=>Qde (QaQ (S:=⟨_,_,_⟩) (k:=0) (e:=s) (u:=.slice a s.ms.length cap) (by simp only [Es.cells,hl]; rfl))) ?_))|(((with_reducible show callW _ _ _ (some (121,_)) _ _);refine callO QcR (fun s'=>QcI (QaQ (S:=⟨_,_,_⟩) (k:=0) (e:=s) (u:=.slice a s.ms.length cap) (by simp only [Es.cells,hl]; rfl))) ?_))|((with_reducible show callW _ _ _ (some (71,_)) _ _);refine callP Qgz rfl (QhP _) ?_)|((with_reducible show callW _ _ _ (some (134,_)) _ _);refine callP Qom rfl (hSg _) ?_)|((with_reducible show cW _ _ (.region 9 _ true) _ _);refine Qaw QpB (by kernel_rfl) Qaf (by kernel_rfl) ?_ (fun _ _ _ h=>h))|((fail_if_success (with_reducible refine stk ?_));simp only [WE,segX,Nat.reduceBEq,ty_3,ty_4,QaU,QaB,QaY,Qcl,QbL,Qap,hr,hl,hsl]))
  have hz:(esCalm s e (floN e.bytes 65536 s.cf.seg)).2=0:=(QmM h hv.time _).1
  refine callL (x:=x) (xm:=fun b o=>xm b o∨x' b o) (s:=s) (u:=.slice a s.ms.length cap) QyG (by simp only [Es.cells,hl]; rfl) rfl (fun b o hb=>hw.up b o (hw.sub b o hb)) (fun b o hb=>hb.elim (fun hb=>hw.up b o (hw.subm b o hb)) (hw.know b o)) (QvE hT s e _ h hv hw.at_) ?_ (fun hne=>absurd hz hne)
  intro _ u' y' y'' h1 h2 h3 h4 h5
  repeat' (first|((fail_if_success (with_reducible refine stk ?_));simp only [WE]))
  refine QbP (x':=fun b o=>x' b o∨y' b o) rfl rfl (QjU _) (fun b o hb=>hb.elim (fun hb=>h2 b o (hw.know b o hb)) (h3 b o)) (fun b o hb=>hb.elim (fun hb=>hw.new b o hb) (fun hb=>h4.mono hw.up b o hb)) ⟨rfl,hz,_,rfl,h5.mono ?_⟩
  rintro b o ((hb | hb) | hb)
  ·exact .inl hb
  ·exact .inr (.inl hb)
  ·exact .inr (.inr hb)
theorem QmY {s:Es} (h:EsOk s):(esRound s).2=0:=by
 unfold esRound
 dsimp only
 cases (rdAck s.rd (esRes s) s.fl.sent).2.1 && esSlow s
 ·rfl
 ·simp only [cond_true]
  rw [if_neg (fun h'=>h' (QgP _ h.hy).1)]
theorem EvIn.at_ {s s':Es} {e:Ev} (h:EvIn s e) (hn:s'.now=s.now):EvIn s' e:=⟨by rw [hn]; exact h.time,h.bytes,h.rtt⟩
theorem Qt0 {c0 c1 c2 c3 c4 c:Code} (hc:Tryz.f77.body=some (.seq c0 (.seq c1 (.seq c2 (.seq c3 (.seq c4 c)))))) {x xm x1 x2 x':Nat→Obj→Prop} (hT:TensX x) {w:WM} {b0:Nat} (s:Es) {a:Option Addr} {cap:Nat} (e:Ev) (h:EsOk s) (hid:in64 s.rd.id) (hv:EvIn s e) (hw:Way x xm x1 x2 x' s.ms (.slice a s.ms.length cap)) :
  Sd Tryz.prog ⟨[b0],w,134,[]⟩ c (BackM Tryz.prog Tryz.f77 111 x1 (KM xm (esGrow (esRound s).1 e)) (PM (esGrow (esRound s).1 e)))
   ⟨[(0,.ptr 0 0),(3,.ptr 1 0)],[.cells 111 ((s.cells (.slice a s.ms.length cap)).map .ext),.cells 64 [.ext (.int .i64 e.kind),.ext (.int .i64 e.time),.ext (.int .i64 e.bytes),.ext (.int .i64 e.rtt)]],x2⟩:=by
 have hc':=hc
 simp only [Tryz.f77,Option.some.injEq,Code.seq.injEq] at hc
 replace hc:=hc.2.2.2.2.2
 subst hc
 have hok:=Qib h (QmY h)
 have hA:PureC Tryz.prog x2 130 [.agg #[.int .i64 s.rd.id,.int .i64 s.rd.end_],.int .i64 (esRes s),.int .i64 s.fl.sent] (.tuple #[.agg #[.int .i64 (rdAck s.rd (esRes s) s.fl.sent).1.id,.int .i64 (rdAck s.rd (esRes s) s.fl.sent).1.end_],.bool (rdAck s.rd (esRes s) s.fl.sent).2.1,.int .i64 (rdAck s.rd (esRes s) s.fl.sent).2.2]):=Qv3 s.rd (esRes s) s.fl.sent hid
 have hH:=Qvu (x:=x2) s.hy.last s.hy.least s.hy.many s.hy.gentle s.hy.done s.hy.base s.hy.rounds
 rw [show (hyRound ⟨s.hy.last,s.hy.least,s.hy.many,s.hy.gentle,s.hy.done,s.hy.base,s.hy.rounds⟩).2=0 from (QgP _ h.hy).1] at hH
 refine Qal (Qaa (by kernel_rfl) ?_)
 cases ho:(rdAck s.rd (esRes s) s.fl.sent).2.1 with
 | false=>
  have e1:esRound s=({ s with rd:=(rdAck s.rd (esRes s) s.fl.sent).1 },0):=by unfold esRound; dsimp only; rw [ho]; rfl
  rw [e1] at hok ⊢
  rw [ho] at hA
  unfold Es.cells
  repeat' (first|(with_reducible refine And.intro ?_ ?_)|(((with_reducible show callW _ _ _ (some (89,_)) _ _);refine callO QgA (fun s'=>Qf2 (QaQ (S:=⟨_,_,_⟩) (k:=0) (e:=s) (u:=.slice a s.ms.length cap) rfl)) ?_))|((with_reducible show callW _ _ _ (some (130,_)) _ _);refine callP QiM rfl (hA) ?_)|((with_reducible show cW _ _ (.region 5 _ true) _ _);refine Qaw QiZ (by kernel_rfl) Qaf (by kernel_rfl) ?_ (fun _ _ _ h=>h))|((fail_if_success (with_reducible refine stk ?_));simp only [WE,segX,Nat.reduceBEq,Nat.reduceAdd,Nat.reduceEqDiff,ty_3,QbY,QbS,QaJ,QcN,Qap]))
  refine Qal (Qaa (by kernel_rfl) ?_)
  repeat' (first|((fail_if_success (with_reducible refine stk ?_));simp only [WE,Nat.reduceBEq]))
  refine QbO (Nat.le_of_ble_eq_true rfl) ?_ (Qhy (cap:=cap) (a:=a) hc' hT _ e hok (hv.at_ rfl) hw)
  exact Qae ⟨⟨rfl,rfl⟩,⟨rfl,rfl⟩,trivial⟩ ⟨rfl,rfl,trivial⟩ rfl
 | true=>
 rw [ho] at hA
 cases hs:esSlow s with
 | false=>
  have e1:esRound s=({ s with rd:=(rdAck s.rd (esRes s) s.fl.sent).1 },0):=by unfold esRound; dsimp only; rw [ho,hs]; rfl
  rw [e1] at hok ⊢
  unfold Es.cells
  repeat' (first|(with_reducible refine And.intro ?_ ?_)|(((with_reducible show callW _ _ _ (some (89,_)) _ _);refine callO QgA (fun s'=>Qf2 (QaQ (S:=⟨_,_,_⟩) (k:=0) (e:=s) (u:=.slice a s.ms.length cap) rfl)) ?_))|((with_reducible show callW _ _ _ (some (130,_)) _ _);refine callP QiM rfl (hA) ?_)|((with_reducible show cW _ _ (.region 5 _ true) _ _);refine Qaw QiZ (by kernel_rfl) Qaf (by kernel_rfl) ?_ (fun _ _ _ h=>h))|((fail_if_success (with_reducible refine stk ?_));simp only [WE,segX,Nat.reduceBEq,Nat.reduceAdd,Nat.reduceEqDiff,ty_3,QbY,QbS,QaJ,QcN,Qap]))
  refine Qal (Qaa (by kernel_rfl) ?_)
  repeat' (first|(((with_reducible show callW _ _ _ (some (121,_)) _ _);refine callO QcR (fun s'=>QcI (QaQ (S:=⟨_,_,_⟩) (k:=0) (e:={ s with rd:=(rdAck s.rd (esRes s) s.fl.sent).1 }) (u:=.slice a s.ms.length cap) rfl)) ?_; rw [show esSlow { s with rd:=(rdAck s.rd (esRes s) s.fl.sent).1 }=false from hs]))|((fail_if_success (with_reducible refine stk ?_));simp only [WE,Nat.reduceBEq]))
  refine QbO (Nat.le_of_ble_eq_true rfl) ?_ (Qhy (cap:=cap) (a:=a) hc' hT _ e hok (hv.at_ rfl) hw)
  exact Qae ⟨⟨rfl,rfl⟩,⟨rfl,rfl⟩,trivial⟩ ⟨rfl,rfl,trivial⟩ rfl
 | true=>
  have e1:esRound s=({ s with rd:=(rdAck s.rd (esRes s) s.fl.sent).1,hy:=(hyRound s.hy).1 },0):=by unfold esRound; dsimp only; rw [ho,hs]; simp only [Bool.and_self,cond_true]; rw [if_neg (fun h'=>h' (QgP _ h.hy).1)]
  rw [e1] at hok ⊢
  unfold Es.cells
  repeat' (first|(with_reducible refine And.intro ?_ ?_)|(((with_reducible show callW _ _ _ (some (89,_)) _ _);refine callO QgA (fun s'=>Qf2 (QaQ (S:=⟨_,_,_⟩) (k:=0) (e:=s) (u:=.slice a s.ms.length cap) rfl)) ?_))|((with_reducible show callW _ _ _ (some (130,_)) _ _);refine callP QiM rfl (hA) ?_)|((with_reducible show cW _ _ (.region 5 _ true) _ _);refine Qaw QiZ (by kernel_rfl) Qaf (by kernel_rfl) ?_ (fun _ _ _ h=>h))|((fail_if_success (with_reducible refine stk ?_));simp only [WE,segX,Nat.reduceBEq,Nat.reduceAdd,Nat.reduceEqDiff,ty_3,QbY,QbS,QaJ,QcN,Qap]))
  refine Qal (Qaa (by kernel_rfl) ?_)
  repeat' (first|(((with_reducible show callW _ _ _ (some (121,_)) _ _);refine callO QcR (fun s'=>QcI (QaQ (S:=⟨_,_,_⟩) (k:=0) (e:={ s with rd:=(rdAck s.rd (esRes s) s.fl.sent).1 }) (u:=.slice a s.ms.length cap) rfl)) ?_; rw [show esSlow { s with rd:=(rdAck s.rd (esRes s) s.fl.sent).1 }=true from hs]))|((with_reducible show callW _ _ _ (some (131,_)) _ _);refine callP Qoa rfl (QlF _ _ _ _ _ _ _) ?_)|((with_reducible show callW _ _ _ (some (132,_)) _ _);refine callP Qy0 rfl (hH) ?_)|((fail_if_success (with_reducible refine stk ?_));simp only [WE,segX,Nat.reduceBEq,Nat.reduceAdd,Nat.reduceEqDiff,QaT,Qb5,Qap]))
  refine QbO (Nat.le_of_ble_eq_true rfl) ?_ (Qhy (cap:=cap) (a:=a) hc' hT _ e hok (hv.at_ rfl) hw)
  exact Qae ⟨⟨rfl,rfl⟩,⟨rfl,rfl⟩,trivial⟩ ⟨rfl,rfl,trivial⟩ rfl
theorem QvC {x xm:Nat→Obj→Prop} (hT:TensX x) (hms:xsub xm x) (s:Es) {u:Value} (e:Ev) (h:EsOk s) (hf:FlIn s.fl) (hid:in64 s.rd.id) (hv:EvIn s e) (hmax:s.ms.length≤100000) (hu:MsAt xm s.ms u):MemC Tryz.prog x 77 111 (s.cells u) [e.v] (KM xm (esAck s e)) (PM (esAck s e)):=by
 have hu0:=hu
 obtain ⟨a,cap,rfl,hu⟩:=hu
 have hb:=hv.bytes
 by_cases k1:(flBack s.fl e.bytes e.bytes).2=0
 ·have hok:=Qie (e:=e) h k1
  have hv2:EvIn (esTold s e) e:=hv.at_ rfl
  have hti:=QxC hok hv2
  have hok2:=Qid hok hv2.time hti
  have hv3:EvIn (esTimes (esTold s e) e).1 e:=hv2.at_ (Qic _ _)
  have e0:esAck s e=esGrow (esRound (esTimes (esTold s e) e).1).1 e:=by
   unfold esAck
   rw [if_neg (fun h'=>h' k1),if_neg (fun h'=>h' hti),if_neg (fun h'=>h' (QmY hok2))]
  have hrd:(esTimes (esTold s e) e).1.rd=s.rd:=by
   unfold esTimes
   (repeat' split) <;> (try (cases esSlow (esTold s e) <;> simp only [cond_true,cond_false])) <;> (try split) <;> rfl
  rw [e0]
  refine Qbw Tryz.func77 rfl rfl fun b0 w x1 hx1=>?_
  have hA:=QlN (x:=x1) s.fl e.bytes hf (i64k (by omega) (by omega))
  rw [k1] at hA
  refine Qal (Qaa (by kernel_rfl) ?_)
  unfold Ev.v Es.cells
  simp only [WE,Nat.reduceLeDiff,segX,Nat.reduceBEq,Nat.reduceAdd,Nat.reduceEqDiff,Int.reduceNeg,Int.reduceEq,Int.reduceBEq,Int.reduceLT,Int.reduceLE,Int.reduceBNe,Int.reduceToNat,Nat.reduceMul,Nat.reduceMod,Int.reducePow,reduceIte,ty_3,ty_4,Qa0,QbY,QaT,QaU,QaB,QaE,QbS,Qgr,QaY,QaF,QbT,QaJ,QcN,Qb5,Qdk,Qcl,QbL,Qap,Qse]
  refine Qal (Qaa (by kernel_rfl) ?_)
  repeat' (first|(with_reducible refine And.intro ?_ ?_)|((with_reducible show callW _ _ _ (some (124,_)) _ _);refine callP QcQ rfl (Qe0 _ _ _) ?_)|((with_reducible show callW _ _ _ (some (128,_)) _ _);refine callP Qok rfl (hA) ?_)|((with_reducible show cW _ _ (.region 1 _ true) _ _);refine Qaw QpA (by kernel_rfl) Qaf (by kernel_rfl) ?_ (fun _ _ _ h=>h))|((fail_if_success (with_reducible refine stk ?_));simp only [WE,segX,Nat.reduceBEq,Nat.reduceAdd,Nat.reduceEqDiff,ty_3,Qa0,QaJ,QbL,Qap]))
  refine Qal (Qaa (by kernel_rfl) ?_)
  repeat' (first|((fail_if_success (with_reducible refine stk ?_));simp only [WE,Nat.reduceBEq,Nat.reduceEqDiff,ty_3,Qdk,Qap]))
  refine Qal (Qaa (by kernel_rfl) ?_)
  repeat' (first|((fail_if_success (with_reducible refine stk ?_));simp only [WE,segX,Nat.reduceBEq,QaU]))
  refine callL (x:=xm) (xm:=xm) (s:=esTold s e) (u:=.slice a s.ms.length cap) QyI rfl rfl (fun b o h=>hx1 b o (hms b o h)) (fun b o h=>hx1 b o (hms b o h)) (QvM (esTold s e) e hok hv2 hmax hu0) ?_ (fun hne=>absurd hti hne)
  intro _ u' y' y'' h1 h2 h3 h4 h5
  obtain ⟨a2,c2,rfl,h5'⟩:=h5
  simp only [WE,Nat.reduceLeDiff,segX,Nat.reduceBEq,Nat.reduceAdd,Nat.reduceEqDiff,Int.reduceNeg,Int.reduceEq,Int.reduceBEq,Int.reduceLT,Int.reduceLE,Int.reduceBNe,Int.reduceToNat,Nat.reduceMul,Nat.reduceMod,Int.reducePow,reduceIte,ty_3,ty_4,Qa0,QbY,QaT,QaU,QaB,QaE,QbS,Qgr,QaY,QaF,QbT,QaJ,QcN,Qb5,Qdk,Qcl,QbL,Qap,Qse]
  refine Qal (Qaa (by kernel_rfl) ?_)
  repeat' (first|((fail_if_success (with_reducible refine stk ?_));simp only [WE]))
  refine QbO (Nat.le_of_ble_eq_true rfl) ?_ (Qt0 (x':=y') rfl hT (esTimes (esTold s e) e).1 e hok2 (by rw [hrd]; exact hid) hv3 ⟨hx1,(fun b o h=>hx1 b o (hms b o h)),h2,h4,h3,⟨a2,c2,rfl,h5'⟩⟩)
  exact Qae ⟨⟨rfl,rfl⟩,⟨rfl,rfl⟩,trivial⟩ (Qao _) rfl
 ·have e0:esAck s e=(s,(flBack s.fl e.bytes e.bytes).2):=by
   unfold esAck
   rw [if_pos k1]
  rw [e0]
  refine Qbw Tryz.func77 rfl rfl fun b0 w x1 hx1=>?_
  have hA:=QlN (x:=x1) s.fl e.bytes hf (i64k (by omega) (by omega))
  unfold Ev.v Es.cells
  refine Qaa (by kernel_rfl) ?_
  repeat' (first|(((with_reducible show callW _ _ _ (some (124,_)) _ _);refine callPan QcQ rfl (QhO _ _ _ k1) ?_))|((with_reducible show callW _ _ _ (some (128,_)) _ _);refine callP Qok rfl (hA) ?_)|((with_reducible show cW _ _ (.region 1 _ true) _ _);refine Qaw QpA (by kernel_rfl) Qaf (by kernel_rfl) ?_ (fun _ _ _ h=>h))|((fail_if_success (with_reducible refine stk ?_));simp only [WE,segX,Nat.reduceBEq,Nat.reduceAdd,ty_3,Qa0,QaJ,QbL,Qap]))
  exact QeU rfl rfl (fun _ _=>⟨rfl,k1⟩)
open Go Go.RowKit
open Go.Conc (G)
namespace R
section
variable {P:Program}
theorem QbD {rn:Bool} {id:Nat} {ops:Array Oper} {Q:Exit→Act→WM→Prop} {a:Act} {w:WM} (h:OpsR P rn ops (List.range ops.size) Q a w):Wp P rn (.region id ops false) Q a w:=fun b k cs Stop hb hn hc=>
 .ctl rfl (fun _ _=>QjQ) (h b k cs Stop hb hn hc)
theorem QeD {rn:Bool} {ops:Array Oper} {i:Nat} {rest:List Nat} {Q:Exit→Act→WM→Prop} {a:Act} {w:WM} {o:Oper} (ho:ops[i]? = some o) (hg:o.guard=none) (h:owp P o a w (fun a' w'=>OpsR P rn ops rest Q a' w') Q):OpsR P rn ops (i :: rest) Q a w:=
 Qji (by unfold wpOp; simp only [ho,Region.wanted,hg,if_true]; exact h)
theorem pinnedL {rn:Bool} {w0:WM} {n:Nat} {ds:List Deferred} {s:Nat→Nat} {S:St} {a:Act} {w:WM} {code:Code} {QS:Exit→St→Prop} {Q:Exit→Act→WM→Prop} (hr:Rep [] w0 n ds s S a w)
  (h:Sd P ⟨(List.range S.m.length).map s,w,n,ds⟩ code QS S)
  (hk:∀ e s' S' a' w',Rep [] w0 n ds s' S' a' w'→(∀ k,k < S.m.length→s' k=s k)→S.m.length≤S'.m.length→QS e S'→Q e a' w'):Wp P rn code Q a w:=by
 have hrep:Rep ((List.range S.m.length).map s) w n ds s S a w:=
  ⟨hr.mr,⟨by simp,fun k hk=>.inl ⟨s k,by rw [List.getElem?_map,List.getElem?_range hk]; rfl,rfl⟩⟩,Fr.refl _ _,hr.size,hr.slot,hr.df⟩
 refine Wp.mono (h s a w hrep).any ?_
 rintro e a' w' ⟨s',S',h1,h2⟩
 have hlen:S.m.length≤S'.m.length:=by simpa using h1.own.pin
 have pin:∀ k,k < S.m.length→s' k=s k:=fun k hk=>by
  rcases h1.own.at_ k (by omega) with ⟨b,g1,g2⟩ | ⟨g1,_⟩
  ·simp [hk] at g1
   rw [g2,←g1]
  ·simp at g1; omega
 have old:∀ k,k < S.m.length→w0.heap.size≤s k:=fun k hk=>(hr.own.mem hk).resolve_left (by simp)
 have hf:Fr [] w0 w':=by
  have h3:=h1.fr
  refine ⟨h3.os.trans hr.fr.os,h3.tape.trans hr.fr.tape,h3.output.trans hr.fr.output,h3.gh.trans hr.fr.gh,h3.X.trans hr.fr.X,fun b hb=>h3.M b (hr.fr.M b hb),
   fun b hb=>(h3.new b hb).elim (fun h1=>hr.fr.new b h1) (fun h1=>.inr (Nat.le_trans hr.fr.size h1)),Nat.le_trans hr.fr.size h3.size,fun k ho hk hn=>?_⟩
  rw [h3.block k (hr.fr.O ho) (Nat.lt_of_lt_of_le hk hr.fr.size) ?_]
  ·exact hr.fr.block k ho hk hn
  ·intro hin
   obtain ⟨j,hj,rfl⟩:=List.mem_map.1 hin
   have:=old j (by simpa using hj)
   omega
 refine hk e s' S' a' w' ⟨h1.mr,.none fun k hk=>?_,hf,h1.size,h1.slot,h1.df⟩ pin hlen h2
 rcases h1.own.at_ k hk with ⟨b,g1,g2⟩ | ⟨_,g2⟩
 ·have hkl:k < S.m.length:=by have:=(List.getElem?_eq_some_iff.1 g1).1; simpa using this
  rw [pin k hkl]; exact old k hkl
 ·exact Nat.le_trans hr.fr.size g2
theorem Qmv {g:FuncId} {fn:Func} {id d0:Nat} {ops:Array Oper} {y:Code} {o:Oper} {u:FrameMode} {w:WM} {s:Nat→Nat} {S:St} {args:List RV} {QS:Exit→St→Prop} (hm:Mem s S.m S.x w) (hc:∀ v∈args,clo S.m.length v=true) (hu:settle (recMode u)=.returning)
  (hf:P.funcs[g]? = some fn) (hb:fn.body=some (.seq (.region id ops false) y)) (hres:fn.results=#[]) (hn:args.length≤fn.ntmps) (ho:ops[0]? = some o) (hg:o.guard=none) (hdst:o.dst=some d0) (hd0:d0 < fn.ntmps)
  (hd:∀ (a:Act) v,(execOp a.eval o).run P v=.ok .recover v∧(execOp a.eval o).events P v #[]=#[]) (hnd:∀ c,o.op≠.defer c) (hdo:dOk fn.ntmps ops.toList=true)
  (h:opsW P ops (ops.toList.drop 1) { t:=(d0,.ext (recVal u)) :: mkT 0 args,m:=S.m,x:=S.x } (fun S1=>Sd P ⟨(List.range S.m.length).map s,w,fn.ntmps,[]⟩ y QS S1) (fun _ _=>False))
  (hQ:∀ e S',QS e S'→(e=.normal∨e=.ret)∧S'.m.length=S.m.length) :
  DCall P g (args.map (ren s)).toArray u w (fun w'=>∃ e S',QS e S'∧Mem s S'.m S'.x w'∧Fr ((List.range S.m.length).map s) w w'):=by
 have hrep:=Qcv (w:=w) (n:=fn.ntmps) (args:=args) (s:=s) (m:=S.m) (x:=S.x) (bs:=(List.range S.m.length).map s) hn hm
  ⟨by simp,fun k hk=>.inl ⟨s k,by rw [List.getElem?_map,List.getElem?_range hk]; rfl,rfl⟩⟩ hc
 have hrep2:=hrep.put (d:=some d0) (v:=.ext (recVal u)) (fun i hi=>by cases hi; exact hd0) rfl
 let Q:Exit→Act→WM→Prop:=fun e a' w'=>∃ s' S',Rep ((List.range S.m.length).map s) w fn.ntmps [] s' S' a' w'∧QS e S'
 have hlt:0 < ops.size:=(Array.getElem?_eq_some_iff.1 ho).1
 refine QwN (Q:=Q) hu hf hb hres ho hg hlt hd hnd ?_ ?_
 ·rw [hdst]
  have hw:=Qcu (Q:=thenA (fun a w=>Wp P true y Q a w) Q) (K:=fun S1=>Sd P ⟨(List.range S.m.length).map s,w,fn.ntmps,[]⟩ y QS S1) (Pn:=fun _ _=>False) hdo (fun s' S' a' w' hr' hk=>?_) (fun _ _ _ _ _ _ hp=>hp.elim) (ops.toList.drop 1) s _ _ w
   (List.all_eq_true.2 fun o ho=>List.all_eq_true.1 hdo o (List.mem_of_mem_drop ho)) hrep2 h
  ·have:=Qg2 (rn:=true) (ops.toList.drop 1) 1 _ w (fun j=>by simp [List.getElem?_drop,Nat.add_comm]) hw
   rw [show (ops.toList.drop 1).length=ops.size - 1 by simp] at this
   exact this
  ·exact (hk s' a' w' hr').any.mono fun e a'' w'' ⟨s2,S2,h1,h2⟩=>⟨s2,S2,h1,h2⟩
 ·rintro e a' w' ⟨s',S',h1,h2⟩
  obtain ⟨he,hlen⟩:=hQ e S' h2
  refine ⟨he,h1.df,e,S',h2,?_,h1.fr⟩
  have pin:∀ k,k < S.m.length→s' k=s k:=fun k hk=>by
   rcases h1.own.at_ k (by omega) with ⟨b,g1,g2⟩ | ⟨g1,_⟩
   ·simp [hk] at g1
    rw [g2,←g1]
   ·simp at g1; omega
  have:=h1.mr.take (s':=s) (n:=S.m.length) (by omega) (by
   rw [List.take_of_length_le (by omega)]
   exact List.all_eq_true.2 fun o ho=>by
    obtain ⟨k,hk⟩:=List.getElem?_of_mem ho
    have:=h1.mr.cm k o hk
    rwa [hlen] at this) fun k hk=>(pin k hk).symm
  rwa [List.take_of_length_le (by omega)] at this
end
end R
structure EsIn (s:Es):Prop where
 fl:FlIn s.fl
 id:in64 s.rd.id
 back:in64 s.back
 ms:s.ms.length≤90000
def DoR (s:Es) (e:Ev) (v:Value) (x:Nat→Obj→Prop):Prop:=∃ u,v=.tuple #[(esDo s e).1.v u,.int .i64 (esDo s e).2]∧MsAt x (esDo s e).1.ms u
def esZ:Es:=⟨⟨0,0,0,0,0,0,0⟩,0,0,0,0,0,⟨0,0,0⟩,⟨false,0,0⟩,[],⟨0,0⟩,⟨0,0,0,false,false,0,0⟩,Ep.zero,0,0,⟨0,0⟩,false⟩
theorem QrG {a:Act} {p:String} {ats:Array TypeId} {t:TypeId} {d:Option Nat} {af:Array Edge} (v:World):(execOp a.eval ⟨d,.call ⟨.builtin .recover,#[],ats⟩,t,p,af,none⟩).run Tryz.prog v=.ok .recover v∧(execOp a.eval ⟨d,.call ⟨.builtin .recover,#[],ats⟩,t,p,af,none⟩).events Tryz.prog v #[]=#[]:=⟨rfl,rfl⟩
theorem QFQ {K:Value→Prop} (h:K (.tuple #[.int .i64 0,.bool false])):pureW Tryz.prog (Instr.typeAssert .nilIface 20 30 true) K:=⟨_,fun w=>⟨by rfl,by rfl⟩,h⟩
theorem QFP {K:Value→Prop} {n:Int} (h:K (.tuple #[.int .i64 n,.bool true])):pureW Tryz.prog (Instr.typeAssert (errV n) 20 30 true) K:=⟨_,fun w=>⟨by rfl,by rfl⟩,h⟩
theorem Qx6 {K:Value→Prop} (e:Es) (u:Value) (h:K (.agg (e.cells u).toArray)):pureW Tryz.prog (Instr.field 111 (.agg (e.cells u).toArray) 0) K:=⟨_,fun w=>⟨by kernel_rfl,by kernel_rfl⟩,h⟩
theorem QwU {w:WM} {s:Nat→Nat} {S:St} {l0 l2 l3:List RV} {o1:RO} {r:List RO} (hm:Mem s S.m S.x w) (hS:S.m=.cells 49 l0 :: o1 :: .cells 49 l2 :: .cells 30 l3 :: r) :
  DCall Tryz.prog 68 #[.pointer (some ⟨s 0,0,none⟩),.pointer (some ⟨s 2,0,none⟩),.pointer (some ⟨s 3,0,none⟩)] .returning w (fun w'=>∃ e S',(fun (e:Exit) (S':St)=>(e=.normal∨e=.ret)∧S'.m=S.m∧S'.x=S.x) e S'∧Mem s S'.m S'.x w'∧Fr ((List.range S.m.length).map s) w w'):=by
 refine Qmv (args:=[.ptr 0 0,.ptr 2 0,.ptr 3 0]) hm ?_ rfl Tryz.func68 rfl rfl (by decide) rfl rfl rfl (by decide) (fun a v=>QrG v) (fun c h=>by cases h) (by kernel_rfl) ?_ ?_
 ·rw [hS]; intro v hv
  simp only [List.mem_cons,List.not_mem_nil,or_false] at hv
  rcases hv with rfl | rfl | rfl <;> simp [clo]
 ·obtain ⟨t,m,x⟩:=S
  simp only at hS
  subst hS
  simp only [recVal,List.drop_succ_cons,List.drop_zero,WE,Nat.reduceLeDiff,segX,Nat.reduceBEq,Nat.reduceAdd,Nat.reduceEqDiff,Int.reduceNeg,Int.reduceEq,Int.reduceBEq,Int.reduceLT,Int.reduceLE,Int.reduceBNe,Int.reduceToNat,Nat.reduceMul,Nat.reduceMod,Int.reducePow,reduceIte,Qaq,Qaj,Qfw]
  refine QFQ ?_
  simp only [WE,Nat.reduceLeDiff,segX,Nat.reduceBEq,Nat.reduceAdd,Nat.reduceEqDiff,Int.reduceNeg,Int.reduceEq,Int.reduceBEq,Int.reduceLT,Int.reduceLE,Int.reduceBNe,Int.reduceToNat,Nat.reduceMul,Nat.reduceMod,Int.reducePow,reduceIte,Qaq,Qaj,Qfw]
  refine Qaa (by kernel_rfl) ?_
  repeat' (first|((fail_if_success (with_reducible refine stk ?_));simp only [WE]))
  exact .inl trivial
 ·rintro e S' ⟨h1,h2,h3⟩
  exact ⟨h1,by rw [h2]⟩
theorem QwP {w:WM} {s:Nat→Nat} {S:St} {st:Es} {u:Value} {o1:RO} {r:List RO} {n:Int} (hm:Mem s S.m S.x w) (hmax:st.ms.length≤1000000) (hu:MsAt S.x st.ms u) (hS:S.m=.cells 49 ((st.cells u).map .ext) :: o1 :: .cells 49 ((esZ.cells (.slice none 0 0)).map .ext) :: .cells 30 [.ext (.int .i64 0)] :: r) :
  DCall Tryz.prog 68 #[.pointer (some ⟨s 0,0,none⟩),.pointer (some ⟨s 2,0,none⟩),.pointer (some ⟨s 3,0,none⟩)] (.panicking [{ v:=errV n,recovered:=false }]) w (fun w'=>∃ e S',(fun (e:Exit) (S':St)=>(e=.normal∨e=.ret)∧∃ u' x',S'.m=.cells 49 ((st.cells u).map .ext) :: o1 :: .cells 49 ((st.cells u').map .ext) :: .cells 30 [.ext (.int .i64 n)] :: r∧xsub S.x S'.x∧xsub x' S'.x∧NewIn S.x x'∧MsAt x' st.ms u') e S'∧Mem s S'.m S'.x w'∧Fr ((List.range S.m.length).map s) w w'):=by
 refine Qmv (args:=[.ptr 0 0,.ptr 2 0,.ptr 3 0]) hm ?_ rfl Tryz.func68 rfl rfl (by decide) rfl rfl rfl (by decide) (fun a v=>QrG v) (fun c h=>by cases h) (by kernel_rfl) ?_ ?_
 ·rw [hS]; intro v hv
  simp only [List.mem_cons,List.not_mem_nil,or_false] at hv
  rcases hv with rfl | rfl | rfl <;> simp [clo]
 ·obtain ⟨t,m,x⟩:=S
  simp only at hS hu
  subst hS
  obtain ⟨a,cap,rfl,hu'⟩:=hu
  have hO:=QlI (x:=x) st hmax ⟨a,cap,rfl,hu'⟩
  unfold Es.v at hO
  unfold Es.cells at hO ⊢
  dsimp only [esZ,Ep.zero]
  simp only [recVal,List.drop_succ_cons,List.drop_zero,WE,Nat.reduceLeDiff,segX,Nat.reduceBEq,Nat.reduceAdd,Nat.reduceEqDiff,Int.reduceNeg,Int.reduceEq,Int.reduceBEq,Int.reduceLT,Int.reduceLE,Int.reduceBNe,Int.reduceToNat,Nat.reduceMul,Nat.reduceMod,Int.reducePow,reduceIte,Qaq,Qaj,Qfw]
  refine QFP ?_
  simp only [WE,Nat.reduceLeDiff,segX,Nat.reduceBEq,Nat.reduceAdd,Nat.reduceEqDiff,Int.reduceNeg,Int.reduceEq,Int.reduceBEq,Int.reduceLT,Int.reduceLE,Int.reduceBNe,Int.reduceToNat,Nat.reduceMul,Nat.reduceMod,Int.reducePow,reduceIte,Qaq,Qaj,Qfw]
  refine Qaa (by kernel_rfl) ?_
  repeat' (first|(((with_reducible show callW _ _ _ (some (69,_)) _ _);refine callEN Qog rfl hO ?_; intro v x' x'' hR hx hx' hN; obtain ⟨u',rfl,a2,c2,rfl,hR⟩:=hR; unfold Es.v Es.cells))|((fail_if_success (with_reducible refine stk ?_));simp only [WE,segX,Nat.reduceBEq,Qaj]))
  refine Qx6 st (.slice a2 st.ms.length c2) ?_
  unfold Es.cells
  simp only [WE,Nat.reduceLeDiff,segX,Nat.reduceBEq,Nat.reduceAdd,Nat.reduceEqDiff,Int.reduceNeg,Int.reduceEq,Int.reduceBEq,Int.reduceLT,Int.reduceLE,Int.reduceBNe,Int.reduceToNat,Nat.reduceMul,Nat.reduceMod,Int.reducePow,reduceIte,Qaq,Qaj,Qfw]
  exact ⟨.inl trivial,_,x',rfl,hx,hx',hN,_,_,rfl,hR⟩
 ·rintro e S' ⟨h1,u',x',h2,h3⟩
  exact ⟨h1,by rw [h2,hS]; simp⟩
def byKinds:Array MapEntry:=#[⟨.int .i64 6,.func (.func 76) #[] #[],0⟩,⟨.int .i64 1,.func (.func 77) #[] #[],1⟩,⟨.int .i64 2,.func (.func 78) #[] #[],2⟩,⟨.int .i64 3,.func (.func 79) #[] #[],3⟩,
 ⟨.int .i64 4,.func (.func 80) #[] #[],4⟩,⟨.int .i64 5,.func (.func 81) #[] #[],5⟩,⟨.int .i64 7,.func (.func 82) #[] #[],6⟩]
theorem Qdb (g:FuncId) (h:g=76∨g=77∨g=78∨g=79∨g=80∨g=81∨g=82):goes Tryz.prog g:=by
 rcases h with rfl | rfl | rfl | rfl | rfl | rfl | rfl
 ·exact Qac Tryz.func76 rfl rfl
 ·exact Qac Tryz.func77 rfl rfl
 ·exact Qac Tryz.func78 rfl rfl
 ·exact Qac Tryz.func79 rfl rfl
 ·exact Qac Tryz.func80 rfl rfl
 ·exact Qac Tryz.func81 rfl rfl
 ·exact Qac Tryz.func82 rfl rfl
theorem QuE {x xm:Nat→Obj→Prop} (hT:TensX x) (hms:xsub xm x) (s:Es) {u:Value} (e:Ev) (h:EsOk s) (hf:FlIn s.fl) (hid:in64 s.rd.id) (hv:EvIn s e) (hmax:s.ms.length≤100000) (hu:MsAt xm s.ms u) (hk:1≤e.kind∧e.kind≤7) :
  ∃ g i,Instr.findNow (.int .i64) (.int .i64 e.kind) byKinds.toList 0=some (some (i,.func (.func g) #[] #[]))∧goes Tryz.prog g∧MemC Tryz.prog x g 111 (s.cells u) [e.v] (KM xm (esBy s e)) (PM (esBy s e)):=by
 have hn:=h.now
 have hvt:=hv.time
 have hb:=hv.bytes
 have hh:=h.high
 have hbk:=h.back
 have it:in64 e.time:=i64k (by omega) (by omega)
 have ib:in64 e.bytes:=i64k (by omega) (by omega)
 have ih:in64 s.high:=i64k (by omega) (by omega)
 have hcase:e.kind=1∨e.kind=2∨e.kind=3∨e.kind=4∨e.kind=5∨e.kind=6∨e.kind=7:=by omega
 unfold esBy byKinds
 rcases hcase with k | k | k | k | k | k | k
 ·refine ⟨77,1,by rw [k]; rfl,Qdb _ (by simp),?_⟩
  rw [if_neg (by omega),if_pos k]
  exact QvC hT hms s e h hf hid hv hmax hu
 ·refine ⟨78,2,by rw [k]; rfl,Qdb _ (by simp),?_⟩
  rw [if_neg (by omega),if_neg (by omega),if_pos k]
  exact MemC.mono (QvI s e hf ib ih hu) hms
 ·refine ⟨79,3,by rw [k]; rfl,Qdb _ (by simp),?_⟩
  rw [if_neg (by omega),if_neg (by omega),if_neg (by omega),if_pos k]
  exact MemC.mono (QvF s e ih hu) hms
 ·refine ⟨80,4,by rw [k]; rfl,Qdb _ (by simp),?_⟩
  rw [if_neg (by omega),if_neg (by omega),if_neg (by omega),if_neg (by omega),if_pos k]
  exact MemC.mono (QvH s e hf h.fl (by omega) ih hu) hms
 ·refine ⟨81,5,by rw [k]; rfl,Qdb _ (by simp),?_⟩
  rw [if_neg (by omega),if_neg (by omega),if_neg (by omega),if_neg (by omega),if_neg (by omega),if_pos k]
  exact MemC.mono (QvG s e hu) hms
 ·refine ⟨76,0,by rw [k]; rfl,Qdb _ (by simp),?_⟩
  rw [if_pos k]
  exact MemC.mono (QvK s e h hf ib it hu) hms
 ·refine ⟨82,6,by rw [k]; rfl,Qdb _ (by simp),?_⟩
  rw [if_neg (by omega),if_neg (by omega),if_neg (by omega),if_neg (by omega),if_neg (by omega),if_neg (by omega)]
  exact MemC.mono (QvL s e hu) hms
def DoQ (s:Es) (e:Ev) (x1:Nat→Obj→Prop) (u:Value):Exit→St→Prop
 | .ret,S'=>(lk S'.t 4=some (.ptr 2 0)∧lk S'.t 5=some (.ptr 3 0))∧(esDo s e).2=0∧∃ u' x' o1 r,S'.m=.cells 49 ((s.cells u).map .ext) :: o1 :: .cells 49 (((esDo s e).1.cells u').map .ext) :: .cells 30 [.ext (.int .i64 0)] :: r ∧
   xsub x1 S'.x∧xsub x' S'.x∧NewIn x1 x'∧MsAt x' (esDo s e).1.ms u'
 | .panic ch,S'=>(lk S'.t 4=some (.ptr 2 0)∧lk S'.t 5=some (.ptr 3 0))∧∃ n,ch=[{ v:=errV n,recovered:=false }]∧esDo s e=(s,n)∧∃ o1 r,S'.m=.cells 49 ((s.cells u).map .ext) :: o1 :: .cells 49 ((esZ.cells (.slice none 0 0)).map .ext) :: .cells 30 [.ext (.int .i64 0)] :: r∧xsub x1 S'.x
 | _,_=>False
theorem Qkn {s:Es} {e:Ev} {x1:Nat→Obj→Prop} {u:Value} {S':St}:DoQ s e x1 u .ret S'=((lk S'.t 4=some (.ptr 2 0)∧lk S'.t 5=some (.ptr 3 0))∧(esDo s e).2=0∧∃ u' x' o1 r,S'.m=.cells 49 ((s.cells u).map .ext) :: o1 :: .cells 49 (((esDo s e).1.cells u').map .ext) :: .cells 30 [.ext (.int .i64 0)] :: r ∧
   xsub x1 S'.x∧xsub x' S'.x∧NewIn x1 x'∧MsAt x' (esDo s e).1.ms u'):=rfl
theorem QeP {s:Es} {e:Ev} {x1:Nat→Obj→Prop} {u:Value} {ch:List PanicEntry} {S':St}:DoQ s e x1 u (.panic ch) S'=((lk S'.t 4=some (.ptr 2 0)∧lk S'.t 5=some (.ptr 3 0))∧∃ n,ch=[{ v:=errV n,recovered:=false }]∧esDo s e=(s,n)∧∃ o1 r,S'.m=.cells 49 ((s.cells u).map .ext) :: o1 :: .cells 49 ((esZ.cells (.slice none 0 0)).map .ext) :: .cells 30 [.ext (.int .i64 0)] :: r∧xsub x1 S'.x):=rfl
theorem QwT {c0 c1 c2 c3 c4 c5 c6 c7 c8 c:Code} (hc:Tryz.f29.body=some (.seq c0 (.seq c1 (.seq c2 (.seq c3 (.seq c4 (.seq c5 (.seq c6 (.seq c7 (.seq c8 c)))))))))) {x xm x1 x2:Nat→Obj→Prop} (hT:TensX x) {bs:List Nat} {w:WM} {d:Deferred} (s s1:Es) {u:Value} {a:Option Addr} {cap:Nat} (e:Ev) (h:EsOk s1) (hf:FlIn s1.fl) (hid:in64 s1.rd.id) (hv:EvIn s1 e) (hmax:s1.ms.length≤100000)
  (hk:1≤e.kind∧e.kind≤7) (hx:xsub x x1) (hx2:xsub x1 x2) (hxm:xsub xm x2) (hnm:NewIn x1 xm) (hu:MsAt xm s1.ms (.slice a s1.ms.length cap)) (hdo:esDo s e=if (esBy s1 e).2≠0 then (s,(esBy s1 e).2) else esBy s1 e) :
  Sd Tryz.prog ⟨bs,w,52,[d]⟩ c (DoQ s e x1 u)
   ⟨[(3,.ptr 1 0),(4,.ptr 2 0),(5,.ptr 3 0),(6,.ptr 4 0),(8,.mp 5)],[.cells 49 ((s.cells u).map .ext),.cells 64 [.ext (.int .i64 e.kind),.ext (.int .i64 e.time),.ext (.int .i64 e.bytes),.ext (.int .i64 e.rtt)],.cells 49 ((esZ.cells (.slice none 0 0)).map .ext),.cells 30 [.ext (.int .i64 0)],
    .cells 111 ((s1.cells (.slice a s1.ms.length cap)).map .ext),.obj (.map byKinds 7)],x2⟩:=by
 simp only [Tryz.f29,Option.some.injEq,Code.seq.injEq] at hc
 replace hc:=hc.2.2.2.2.2.2.2.2.2
 subst hc
 obtain ⟨g,i,hfind,hg,hM⟩:=QuE (x:=fun b o=>x b o∨xm b o) (xm:=xm) (hT.mono fun b o h=>.inl h) (fun b o h=>.inr h) s1 e h hf hid hv hmax hu hk
 refine Qal (Qaa (by kernel_rfl) ?_)
 repeat' (first|(with_reducible refine Qpu Tryz.underlying120 Tryz.underlying3 hfind (by with_unfolding_all exact rfl) ?_)|((fail_if_success (with_reducible refine stk ?_));simp only [WE,segX,Nat.reduceBEq,ty_3,QaU,Qdl]))
 refine callM hg rfl rfl (MemC.mono hM fun b o hb=>hb.elim (fun hb=>hx2 b o (hx b o hb)) (hxm b o)) ?_ ?_
 ·rintro v c' x' x'' ⟨rfl,h0,u',rfl,hu'⟩ h1 h2 h3
  obtain ⟨a2,c2,rfl,hR⟩:=hu'
  have hdo':esDo s e=esBy s1 e:=by rw [hdo,if_neg (fun h'=>h' h0)]
  simp only [WE,Nat.reduceLeDiff,segX,Nat.reduceBEq,Nat.reduceAdd,Nat.reduceEqDiff,Int.reduceNeg,Int.reduceEq,Int.reduceBEq,Int.reduceLT,Int.reduceLE,Int.reduceBNe,Int.reduceToNat,Nat.reduceMul,Nat.reduceMod,Int.reducePow,reduceIte,ty_3,Qaq,Qa1,Qaj,QaU,Qcx,QbJ,QbK,Qdl,Qbi,Qap,Qce,Qau,Qcz,Qft]
  refine Qaa (by kernel_rfl) ?_
  unfold Es.cells
  dsimp only [esZ,Ep.zero]
  repeat' (first|((fail_if_success (with_reducible refine stk ?_));simp only [WE,segX,Nat.reduceBEq,Nat.reduceAdd,Nat.reduceEqDiff,Qaq,Qaj,Qap,Qkn]))
  rw [hdo']
  exact ⟨h0,.slice a2 _ c2,fun b o=>xm b o∨x' b o,_,_,rfl,fun b o hb=>h1 b o (hx2 b o hb),fun b o hb=>hb.elim (fun hb=>h1 b o (hxm b o hb)) (h2 b o),fun b o hb=>hb.elim (hnm b o) (h3.mono hx2 b o),⟨_,_,rfl,hR⟩⟩
 ·rintro v c' x' x'' ⟨rfl,h0⟩ h1 h2 h3
  have hdo':esDo s e=(s,(esBy s1 e).2):=by rw [hdo,if_pos h0]
  simp only [WE,Nat.reduceLeDiff,segX,Nat.reduceBEq,Nat.reduceAdd,Nat.reduceEqDiff,Int.reduceNeg,Int.reduceEq,Int.reduceBEq,Int.reduceLT,Int.reduceLE,Int.reduceBNe,Int.reduceToNat,Nat.reduceMul,Nat.reduceMod,Int.reducePow,reduceIte,ty_3,Qaq,Qa1,Qaj,QaU,Qcx,QbJ,QbK,Qdl,Qbi,Qap,Qce,Qau,Qcz,Qft,QeP]
  exact ⟨_,rfl,hdo',_,_,rfl,fun b o hb=>h1 b o (hx2 b o hb)⟩
theorem QxH {e:Ev} (h:evCheck e.kind e.time e.bytes e.rtt=0):(1≤e.kind∧e.kind≤7)∧(0≤e.time∧e.time≤1099511627776)∧(0≤e.bytes∧e.bytes≤1073741824)∧(0≤e.rtt∧e.rtt≤1073741824):=by
 unfold evCheck at h
 by_cases hk:1≤e.kind∧e.kind≤7
 ·rw [if_pos hk] at h
  refine ⟨hk,?_⟩
  cases hc:clkCheck e.time
  ·rw [hc] at h; cases h
  ·rw [hc] at h
   unfold clkCheck at hc
   simp only [Bool.and_eq_true,decide_eq_true_eq] at hc
   refine ⟨hc,?_⟩
   cases hr:evRight e.kind e.bytes e.rtt
   ·rw [hr] at h; cases h
   ·unfold evRight evFull evBytes evBare evSome at hr
    (repeat' split at hr) <;> simp only [Bool.and_eq_true,decide_eq_true_eq,beq_iff_eq] at hr <;> omega
 ·rw [if_neg hk] at h; cases h
theorem Qwv {n t:Int} (ht:0≤t∧t≤1099511627776):clkStep n t=if t < n then (n,50) else (t,0):=by
 unfold clkStep clkCheck
 rw [decide_eq_true ht.1,decide_eq_true ht.2]
 by_cases h:t < n
 ·rw [if_pos h,decide_eq_true h]; rfl
 ·rw [if_neg h,decide_eq_false h]; rfl
theorem QwS {c0 c1 c2 c3 c4 c5 c6 c:Code} (hc:Tryz.f29.body=some (.seq c0 (.seq c1 (.seq c2 (.seq c3 (.seq c4 (.seq c5 (.seq c6 c)))))))) {x xm x1 x2:Nat→Obj→Prop} (hT:TensX x) {bs:List Nat} {w:WM} {d:Deferred} (s s0:Es) {u:Value} {a:Option Addr} {cap:Nat} (e:Ev) (h:EsOk { s0 with now:=e.time }) (hf:FlIn s0.fl) (hid:in64 s0.rd.id) (hv:EvIn { s0 with now:=e.time } e) (hmax:s0.ms.length≤100000)
  (hk:1≤e.kind∧e.kind≤7) (hx:xsub x x1) (hx2:xsub x1 x2) (hxm:xsub xm x2) (hnm:NewIn x1 xm) (hu:MsAt xm s0.ms (.slice a s0.ms.length cap)) (hbs:bs.length≤4) (hdo:esDo s e=if (esBy { s0 with now:=e.time } e).2≠0 then (s,(esBy { s0 with now:=e.time } e).2) else esBy { s0 with now:=e.time } e) :
  Sd Tryz.prog ⟨bs,w,52,[d]⟩ c (DoQ s e x1 u)
   ⟨[(3,.ptr 1 0),(4,.ptr 2 0),(5,.ptr 3 0),(6,.ptr 4 0),(7,.ext (.int .i64 e.time))],[.cells 49 ((s.cells u).map .ext),.cells 64 [.ext (.int .i64 e.kind),.ext (.int .i64 e.time),.ext (.int .i64 e.bytes),.ext (.int .i64 e.rtt)],.cells 49 ((esZ.cells (.slice none 0 0)).map .ext),.cells 30 [.ext (.int .i64 0)],
    .cells 111 ((s0.cells (.slice a s0.ms.length cap)).map .ext)],x2⟩:=by
 have hc':=hc
 simp only [Tryz.f29,Option.some.injEq,Code.seq.injEq] at hc
 replace hc:=hc.2.2.2.2.2.2.2
 subst hc
 refine Qal (Qaa (by kernel_rfl) ?_)
 have hcell:(List.map RV.ext (s0.cells (.slice a s0.ms.length cap)))=[.ext (.int .i64 s0.cf.seg),.ext (.int .i64 s0.cf.max),.ext (.int .i64 s0.cf.first),.ext (.int .i64 s0.cf.grain),.ext (.int .i64 s0.cf.least),.ext (.int .i64 s0.cf.great),.ext (.int .i64 s0.cf.burst),.ext (.int .i64 s0.now)] ++ (List.map RV.ext ((s0.cells (.slice a s0.ms.length cap)).drop 8)):=rfl
 generalize hrest:List.map RV.ext ((s0.cells (.slice a s0.ms.length cap)).drop 8)=lrest at hcell
 rw [hcell]
 repeat' (first|((fail_if_success (with_reducible refine stk ?_));simp only [WE,Nat.reduceBEq,Nat.reduceEqDiff,ty_3,QbJ,Qap]))
 refine Qal (Qaa (by kernel_rfl) ?_)
 repeat' (first|(with_reducible refine Qj4 Tryz.underlying120 Tryz.underlying3 (by with_unfolding_all exact rfl) (by with_unfolding_all exact rfl) ?_)|((fail_if_success (with_reducible refine stk ?_));simp only [WE,Nat.reduceAdd,Qjp]))
 subst hrest
 refine QbO ?_ ?_ (QwT (u:=u) (cap:=cap) (a:=a) hc' hT s { s0 with now:=e.time } e h hf hid hv hmax hk hx hx2 hxm hnm hu hdo)
 ·show bs.length≤6
  omega
 exact Qae ⟨⟨rfl,rfl⟩,⟨rfl,rfl⟩,⟨rfl,rfl⟩,⟨rfl,rfl⟩,⟨rfl,rfl⟩,trivial⟩ ⟨rfl,rfl,rfl,rfl,rfl,rfl,trivial⟩ rfl
theorem thenNo {K:St→Prop} {Q:Exit→St→Prop}:∀ e S,thenW K (fun _ _=>False) e S→thenW K Q e S:=fun e S h=>by
 cases e <;> first | exact h | exact h.elim
theorem QwR {c0 c1 c2 c3 c:Code} (hc:Tryz.f29.body=some (.seq c0 (.seq c1 (.seq c2 (.seq c3 c))))) {x x1:Nat→Obj→Prop} (hT:TensX x) {bs:List Nat} {w:WM} {d:Deferred} (s:Es) {a:Option Addr} {cap:Nat} (e:Ev) (h:EsOk s) (hi:EsIn s) (he:evCheck e.kind e.time e.bytes e.rtt=0)
  (hx:xsub x x1) (hu:MsAt x1 s.ms (.slice a s.ms.length cap)) (hbs:bs.length≤4) :
  Sd Tryz.prog ⟨bs,w,52,[d]⟩ c (DoQ s e x1 (.slice a s.ms.length cap))
   ⟨[(2,.ptr 0 0),(3,.ptr 1 0),(4,.ptr 2 0),(5,.ptr 3 0)],[.cells 49 ((s.cells (.slice a s.ms.length cap)).map .ext),.cells 64 [.ext (.int .i64 e.kind),.ext (.int .i64 e.time),.ext (.int .i64 e.bytes),.ext (.int .i64 e.rtt)],.cells 49 ((esZ.cells (.slice none 0 0)).map .ext),.cells 30 [.ext (.int .i64 0)]],x1⟩:=by
 have hc':=hc
 simp only [Tryz.f29,Option.some.injEq,Code.seq.injEq] at hc
 replace hc:=hc.2.2.2.2
 subst hc
 obtain ⟨hk,het,heb,her⟩:=QxH he
 have hno:esOk s=true:=(Qcj s).2 h
 have hn:=h.now
 have hb:=h.cf.burst
 have hsg:=h.cf.seg
 have p1:0≤s.cf.burst * s.cf.seg:=Int.mul_nonneg (by omega) (by omega)
 have p2:s.cf.burst * s.cf.seg≤1000 * 9000:=Int.mul_le_mul hb.2 hsg.2 (by omega) (by omega)
 have hwb:wr .i64 (s.cf.burst * s.cf.seg)=s.cf.burst * s.cf.seg:=Qag (by omega) (by omega)
 have hO:=QlI (x:=x1) s (by have:=hi.ms; omega) hu
 have hst:=Qwv (n:=s.now) het
 unfold Es.v at hO
 refine Qal (Qaa (by kernel_rfl) ?_)
 unfold Es.cells at hO ⊢
 repeat' (first|(((with_reducible show callW _ _ _ (some (69,_)) _ _);refine callEN Qog rfl hO ?_; intro v xm x2 hR hx2 hxm hnm; obtain ⟨u',rfl,a2,c2,rfl,hR⟩:=hR; unfold Es.v Es.cells))|((fail_if_success (with_reducible refine stk ?_));simp only [WE,segX,Nat.reduceBEq,Nat.reduceAdd,Nat.reduceEqDiff,Qaj,Qcx,Qcz]))
 have hSt:=fun y=>Qlz (x:=y) s.now e.time
 by_cases hlt:e.time < s.now
 ·rw [if_pos hlt] at hst
  simp only [hst] at hSt
  have hdo:esDo s e=(s,50):=by
   unfold esDo
   rw [hno,hst,if_neg (fun h=>h he)]
   rfl
  refine Qal (Qaa (by kernel_rfl) ?_)
  repeat' (first|(((with_reducible show callW _ _ _ (some (71,_)) _ _);refine callPan Qgz rfl (Qu5 _ (by decide)) ?_))|((with_reducible show callW _ _ _ (some (72,_)) _ _);refine callP Qeu rfl (hSt _) ?_)|((fail_if_success (with_reducible refine stk ?_));simp only [WE,Nat.reduceBEq,ty_3,QbJ,Qbi,QeP]))
  exact ⟨_,rfl,hdo,_,_,rfl,hx2⟩
 ·rw [if_neg hlt] at hst
  simp only [hst] at hSt
  have hat:=Qe4 h (show s.now≤e.time by omega) het.2
  have hdo:esDo s e=if (esBy (esAt s e.time) e).2≠0 then (s,(esBy (esAt s e.time) e).2) else esBy (esAt s e.time) e:=by
   unfold esDo
   rw [hno,hst]
   simp only [Bool.not_true,cond_false]
   rw [if_neg (fun h=>h he),if_neg (fun h=>h rfl),if_neg (fun h=>h hat.1)]
  have hF:PureC Tryz.prog x2 38 [.agg #[.int .i64 s.bk.at_,.int .i64 s.bk.have_],.int .i64 e.time,.int .i64 (esRate s),.int .i64 (s.cf.burst * s.cf.seg)] (.tuple #[.agg #[.int .i64 (esFill s e.time).1.at_,.int .i64 (esFill s e.time).1.have_],.int .i64 (esFill s e.time).2]):=QuN s.bk e.time (esRate s) (s.cf.burst * s.cf.seg) (i64k (by omega) (by omega))
  rw [hat.1] at hF
  refine Qal (Qaa (by kernel_rfl) ?_)
  repeat' (first|((with_reducible show callW _ _ _ (some (71,_)) _ _);refine callP Qgz rfl (QhP _) ?_)|((with_reducible show callW _ _ _ (some (72,_)) _ _);refine callP Qeu rfl (hSt _) ?_)|((fail_if_success (with_reducible refine stk ?_));simp only [WE,Nat.reduceBEq,ty_3,QbJ,Qbi]))
  refine Qal (QfK (Q:=thenW _ (fun _ _=>False)) (Qaa (by kernel_rfl) ?_) thenNo)
  repeat' (first|(with_reducible refine And.intro ?_ ?_)|(((with_reducible show callW _ _ _ (some (74,_)) _ _);refine callO Qoe (fun s'=>QlV (QaQ (S:=⟨_,_,_⟩) (k:=4) (e:=s) (u:=.slice a2 s.ms.length c2) rfl)) ?_))|(((with_reducible show callW _ _ _ (some (75,_)) _ _);refine callO QyF (fun s'=>QvD (QaQ (S:=⟨_,_,_⟩) (k:=4) (e:=s) (u:=.slice a2 s.ms.length c2) rfl)) ?_))|((with_reducible show callW _ _ _ (some (38,_)) _ _);refine callP Qyp rfl (hF) ?_)|((with_reducible show callW _ _ _ (some (73,_)) _ _);refine callP QiE rfl (QlE _ _) ?_)|((with_reducible show cW _ _ (.region 7 _ true) _ _);refine Qaw QAJ (by kernel_rfl) Qaf (by kernel_rfl) ?_ (fun _ _ _ h=>h))|((fail_if_success (with_reducible refine stk ?_));simp only [WE,segX,Nat.reduceBEq,Nat.reduceAdd,Nat.reduceEqDiff,Qa1,QbK,Qap,hwb]))
  refine QbO ?_ ?_ (QwS (x:=x) (xm:=xm) (u:=.slice a s.ms.length cap) (cap:=c2) (a:=a2) hc' hT s { s with bk:=(esFill s e.time).1 } e hat.2 hi.fl hi.id ⟨rfl,heb,her⟩ (by have:=hi.ms; dsimp only; omega) hk hx hx2 hxm hnm ⟨a2,c2,rfl,hR⟩ hbs hdo)
  ·show bs.length≤5
   omega
  exact Qae ⟨⟨rfl,rfl⟩,⟨rfl,rfl⟩,⟨rfl,rfl⟩,⟨rfl,rfl⟩,⟨rfl,rfl⟩,trivial⟩ ⟨rfl,rfl,rfl,rfl,rfl,trivial⟩ rfl
theorem QwQ {c0 c1 c:Code} (hc:Tryz.f29.body=some (.seq c0 (.seq c1 c))) {x x1:Nat→Obj→Prop} (hT:TensX x) {bs:List Nat} {w:WM} {d:Deferred} (s:Es) {a:Option Addr} {cap:Nat} (e:Ev) (hi:EsIn s)
  (hx:xsub x x1) (hu:MsAt x1 s.ms (.slice a s.ms.length cap)) (hbs:bs.length≤4) :
  Sd Tryz.prog ⟨bs,w,52,[d]⟩ c (DoQ s e x1 (.slice a s.ms.length cap))
   ⟨[(2,.ptr 0 0),(3,.ptr 1 0),(4,.ptr 2 0),(5,.ptr 3 0)],[.cells 49 ((s.cells (.slice a s.ms.length cap)).map .ext),.cells 64 [.ext (.int .i64 e.kind),.ext (.int .i64 e.time),.ext (.int .i64 e.bytes),.ext (.int .i64 e.rtt)],.cells 49 ((esZ.cells (.slice none 0 0)).map .ext),.cells 30 [.ext (.int .i64 0)]],x1⟩:=by
 have hc':=hc
 simp only [Tryz.f29,Option.some.injEq,Code.seq.injEq] at hc
 replace hc:=hc.2.2
 subst hc
 have hC:=QhN (x:=x1) (hT.mono hx) s hi.fl (by have:=hi.ms; omega) hu
 have hE:=QhQ (x:=x1) e.kind e.time e.bytes e.rtt
 unfold Es.v at hC
 refine Qal (Qaa (by kernel_rfl) ?_)
 unfold Es.cells at hC ⊢
 cases k0:esOk s with
 | false=>
  rw [k0] at hC
  have hdo:esDo s e=(s,201):=by unfold esDo; rw [k0]; rfl
  repeat' (first|(((with_reducible show pureW _ (Instr.makeInterface _ _) _);refine mkI ?_))|((with_reducible show callW _ _ _ (some (25,_)) _ _);refine callP Qev rfl (hC) ?_)|((fail_if_success (with_reducible refine stk ?_));simp only [WE,segX,Nat.reduceBEq,Qaj,QeP]))
  exact ⟨_,rfl,hdo,_,_,rfl⟩
 | true=>
  have h:=(Qcj s).1 k0
  rw [k0] at hC
  repeat' (first|((with_reducible show callW _ _ _ (some (25,_)) _ _);refine callP Qev rfl (hC) ?_)|((fail_if_success (with_reducible refine stk ?_));simp only [WE,segX,Qaj]))
  refine Qal (Qaa (by kernel_rfl) ?_)
  by_cases k1:evCheck e.kind e.time e.bytes e.rtt=0
  ·rw [k1] at hE
   repeat' (first|((with_reducible show callW _ _ _ (some (67,_)) _ _);refine callP QgD rfl (hE) ?_)|((with_reducible show callW _ _ _ (some (70,_)) _ _);refine callP Qbu rfl (QbQ) ?_)|((fail_if_success (with_reducible refine stk ?_));simp only [WE,segX,Nat.reduceBEq,QaU]))
   refine QbO ?_ ?_ (QwR (cap:=cap) (a:=a) hc' hT s e h hi k1 hx hu hbs)
   ·show bs.length≤4
    omega
   exact Qae ⟨⟨rfl,rfl⟩,⟨rfl,rfl⟩,⟨rfl,rfl⟩,⟨rfl,rfl⟩,trivial⟩ ⟨rfl,rfl,rfl,rfl,trivial⟩ rfl
  ·have hdo:esDo s e=(s,evCheck e.kind e.time e.bytes e.rtt):=by
    unfold esDo
    rw [k0]
    simp only [Bool.not_true,cond_false]
    rw [if_pos k1]
   repeat' (first|(((with_reducible show callW _ _ _ (some (70,_)) _ _);refine callPan Qbu rfl (QfX k1) ?_))|((with_reducible show callW _ _ _ (some (67,_)) _ _);refine callP QgD rfl (hE) ?_)|((fail_if_success (with_reducible refine stk ?_));simp only [WE,segX,Nat.reduceBEq,QaU,QeP]))
   exact ⟨_,rfl,hdo,_,_,rfl⟩
theorem QwV {c0 c1 c:Code} (hc:Tryz.f29.body=some (.seq c0 (.seq c1 c))) {w:WM} (s:Es) {a:Option Addr} {cap:Nat} (e:Ev) {x:Nat→Obj→Prop} {Q:Exit→Act→WM→Prop} {s0:Nat→Nat} {a0:Act} {w1:WM}
  (hr:Rep [] w 52 [] s0 ⟨[(0,.ext (s.v (.slice a s.ms.length cap))),(1,.ext e.v)],[],x⟩ a0 w1)
  (hk:∀ s1 a1 w2,Rep [] w 52 [⟨.fn (.func 68) #[.pointer (some ⟨s1 0,0,none⟩),.pointer (some ⟨s1 2,0,none⟩),.pointer (some ⟨s1 3,0,none⟩)],#[]⟩] s1
   ⟨[(2,.ptr 0 0),(3,.ptr 1 0),(4,.ptr 2 0),(5,.ptr 3 0)],[.cells 49 ((s.cells (.slice a s.ms.length cap)).map .ext),.cells 64 [.ext (.int .i64 e.kind),.ext (.int .i64 e.time),.ext (.int .i64 e.bytes),.ext (.int .i64 e.rtt)],.cells 49 ((esZ.cells (.slice none 0 0)).map .ext),.cells 30 [.ext (.int .i64 0)]],x⟩ a1 w2→Wp Tryz.prog true c Q a1 w2) :
  Wp Tryz.prog true (.seq c0 (.seq c1 c)) Q a0 w1:=by
 simp only [Tryz.f29,Option.some.injEq,Code.seq.injEq] at hc
 obtain ⟨rfl,rfl,hc⟩:=hc
 refine Qbe (G:=⟨[],w,52,[]⟩) (QS:=fun e' S'=>e'=.normal∧S'.m=[.cells 49 ((s.cells (.slice a s.ms.length cap)).map .ext),.cells 64 [.ext (.int .i64 e.kind),.ext (.int .i64 e.time),.ext (.int .i64 e.bytes),.ext (.int .i64 e.rtt)],.cells 49 ((esZ.cells (.slice none 0 0)).map .ext),.cells 30 [.ext (.int .i64 0)]]∧S'.x=x ∧
  lk S'.t 2=some (.ptr 0 0)∧lk S'.t 3=some (.ptr 1 0)∧lk S'.t 4=some (.ptr 2 0)∧lk S'.t 5=some (.ptr 3 0)) hr ?_ ?_
 ·refine Qaa (by kernel_rfl) ?_
  unfold Es.v Es.cells Ev.v
  simp only [WE,Nat.reduceLeDiff,segX,Nat.reduceBEq,Nat.reduceAdd,Nat.reduceEqDiff,Int.reduceNeg,Int.reduceEq,Int.reduceBEq,Int.reduceLT,Int.reduceLE,Int.reduceBNe,Int.reduceToNat,Nat.reduceMul,Nat.reduceMod,Int.reducePow,reduceIte,ty_3,Qaq,Qa1,Qaj,QaU,Qcx,QbJ,QbK,Qdl,Qbi,Qap,Qce,Qau,Qcz,Qft]
  rfl
 rintro e' s1 ⟨t1,m1,x1⟩ a1 w2 hr1 ⟨rfl,hm,hxx,ht2,ht3,ht4,ht5⟩
 refine ⟨rfl,?_⟩
 simp only at hm hxx ht2 ht3 ht4 ht5
 subst hm; subst hxx
 refine QaO (QbD ?_)
 show OpsR _ _ _ [0,1] _ _ _
 have hr2:Rep [] w 52 [] s1 ⟨[(2,.ptr 0 0),(3,.ptr 1 0),(4,.ptr 2 0),(5,.ptr 3 0)],_,x1⟩ a1 w2:=Wk.rep' (Nat.zero_le _) (Qae ⟨⟨ht2,rfl⟩,⟨ht3,rfl⟩,⟨ht4,rfl⟩,⟨ht5,rfl⟩,trivial⟩ (Qao _) rfl) hr1
 refine QeD rfl rfl (Qcs hr2 (K:=fun v S'=>v=.clos 68 [(0,0),(2,0),(3,0)]∧S'.t=[(2,.ptr 0 0),(3,.ptr 1 0),(4,.ptr 2 0),(5,.ptr 3 0)]∧S'.m=[.cells 49 ((s.cells (.slice a s.ms.length cap)).map .ext),.cells 64 [.ext (.int .i64 e.kind),.ext (.int .i64 e.time),.ext (.int .i64 e.bytes),.ext (.int .i64 e.rtt)],.cells 49 ((esZ.cells (.slice none 0 0)).map .ext),.cells 30 [.ext (.int .i64 0)]]∧S'.x=x1) (Pn:=fun _ _=>False) ?_ ?_ (fun _ _ _ _ _ h=>h.elim))
 ·show opW _ _ _ (⟨some 9,.makeFunc (.func 68) #[] #[.tmp 2,.tmp 4,.tmp 5],_,_,_,none⟩:Oper) _ _
  simp only [WE,Nat.reduceLeDiff,segX,Nat.reduceBEq,Nat.reduceAdd,Nat.reduceEqDiff,Int.reduceNeg,Int.reduceEq,Int.reduceBEq,Int.reduceLT,Int.reduceLE,Int.reduceBNe,Int.reduceToNat,Nat.reduceMul,Nat.reduceMod,Int.reducePow,reduceIte,ty_3,Qaq,Qa1,Qaj,QaU,Qcx,QbJ,QbK,Qdl,Qbi,Qap,Qce,Qau,Qcz,Qft]
 ·rintro s2 v ⟨t2,m2,x2⟩ w3 _ hcl hr3 ⟨rfl,ht,hm,hx⟩
  simp only at ht hm hx
  subst ht; subst hm; subst hx
  have hr4:=hr3.put (d:=some 9) (fun i hi=>by cases hi; exact Nat.le_of_ble_eq_true rfl) hcl
  have he:=(hr4.slot 9 _ rfl).1
  refine Qjj (d:=⟨.fn (.func 68) #[.pointer (some ⟨s2 0,0,none⟩),.pointer (some ⟨s2 2,0,none⟩),.pointer (some ⟨s2 3,0,none⟩)],#[]⟩) rfl (by simp [Region.wanted]) (fun v=>?_) (Qct ?_)
  ·simp only [Act.put] at he
   constructor <;> simp [execOp,resolve,Act.eval,Act.put,ren,Deferred.ofValue,show a1.tmps.size=52 from hr3.size]
  ·refine hk s2 _ w3 (Wk.rep' (Nat.zero_le _) (Qae ⟨⟨rfl,rfl⟩,⟨rfl,rfl⟩,⟨rfl,rfl⟩,⟨rfl,rfl⟩,trivial⟩ (Qao _) rfl) (S:=⟨_,_,_⟩) ⟨hr4.mr,hr4.own,hr4.fr,hr4.size,hr4.slot,?_⟩)
   exact congrArg (List.cons _) hr4.df
theorem DCall.mono {P:Program} {g:FuncId} {args:Array Value} {u:FrameMode} {w:WM} {K K':WM→Prop} (h:DCall P g args u w K) (hk:∀ w',K w'→K' w'):DCall P g args u w K':=fun c cs Stop hc hK=>h c cs Stop hc fun w' hw=>hK w' (hk w' hw)
theorem Qmw {w:WM} (hwf:∀ b,w.O b→b < w.heap.size) {s:Es} {e:Ev} {r:Es} {n:Int} (hdo:esDo s e=(r,n)) {d:Deferred} {s':Nat→Nat} {t:List (Nat×RV)} {m:List RO} {x x':Nat→Obj→Prop} {a':Act} {w2:WM} {o0 o1:RO} {rest:List RO} {u':Value}
  (hr:Rep [] w 52 [d] s' ⟨t,m,x⟩ a' w2) (h4:lk t 4=some (.ptr 2 0)) (h5:lk t 5=some (.ptr 3 0)) (hm:m=o0 :: o1 :: .cells 49 ((r.cells u').map .ext) :: .cells 30 [.ext (.int .i64 n)] :: rest) (hx:xsub x' x) (hN:NewIn (xWM w) x') (hMs:MsAt x' r.ms u') :
  ∀ w1,Rely w2 w1→∃ v,(results Tryz.f29 a'.tmps).run Tryz.prog w1.w=.ok v w1.w∧R.EvIn w1 ((results Tryz.f29 a'.tmps).events Tryz.prog w1.w #[])∧∃ v' x',Ending.returned v=.returned v'∧DoR s e v' x'∧(∀ b o,x' b o→w1.heap[b]? = some o∧¬ w.O b∧w1.O b)∧Fr [] w w1∧NewOk w1:=by
 intro w1 hrel
 subst hm
 have hr1:=hr.rely hrel
 obtain ⟨vs,g1,g2,g3⟩:=Qc0 (P:=Tryz.prog) (fn:=Tryz.f29) (K:=fun vs=>vs=[.ext (r.v u'),.ext (.int .i64 n)]) hr1.sl hr1.mr (by
  show resL _ _ [.cell 4 49,.cell 5 30] _
  unfold Es.v Es.cells
  simp only [h4,h5,WE,Nat.reduceLeDiff,segX,Nat.reduceBEq,Nat.reduceAdd,Nat.reduceEqDiff,Int.reduceNeg,Int.reduceEq,Int.reduceBEq,Int.reduceLT,Int.reduceLE,Int.reduceBNe,Int.reduceToNat,Nat.reduceMul,Nat.reduceMod,Int.reducePow,reduceIte,ty_3,Qaq,Qa1,Qaj,QaU,Qcx,QbJ,QbK,Qdl,Qbi,Qap,Qce,Qau,Qcz,Qft])
 subst g3
 exact ⟨_,g1.1,g1.2,_,x',rfl,⟨u',by rw [hdo]; rfl,by rw [hdo]; exact hMs⟩,QpU (P:=Tryz.prog) hwf hr1.mr hx hN,hr1.fr,hr1.mr.new⟩
theorem QlC {x:Nat→Obj→Prop} (hT:TensX x) (s:Es) {u:Value} (e:Ev) (hi:EsIn s) (hu:MsAt x s.ms u):RetE Tryz.prog x 29 [s.v u,e.v] (DoR s e):=by
 obtain ⟨a,cap,rfl,hu⟩:=hu
 refine ⟨fun w hx hwf=>?_⟩
 have hsub:xsub x (xWM w):=fun b o hb=>hx b o hb
 have hu1:MsAt (xWM w) s.ms (.slice a s.ms.length cap):=MsAt.mono ⟨a,cap,rfl,hu⟩ hsub
 refine Qwr Tryz.func29 rfl ?_
 have hr0:=Qcv (w:=w) (n:=52) (args:=[.ext (s.v (.slice a s.ms.length cap)),.ext e.v]) (s:=fun _=>0) (m:=[]) (x:=xWM w) (bs:=[]) (by simp)
  ⟨fun k o hk=>by simp at hk,fun j k hj=>by simp at hj,fun k o hk=>by simp at hk,fun b o hb=>hb.1,fun b o _ k hk=>by simp at hk,fun k hk=>by simp at hk,fun b o hb=>hb.2,hwf⟩ (.none fun k hk=>by simp at hk) (by simp [clo])
 refine QwV rfl s (cap:=cap) (a:=a) e hr0 ?_
 intro s1 a1 w2 hr1
 refine pinnedL hr1 (QwQ rfl hT s e hi hsub hu1 (by simp)) ?_
 intro e' s' S' a' w' hr hpin hlen hq
 have p0:=hpin 0 (by simp)
 have p2:=hpin 2 (by simp)
 have p3:=hpin 3 (by simp)
 rw [←p0,←p2,←p3] at hr
 cases e' with
 | ret=>
  rw [Qkn] at hq
  obtain ⟨⟨h4,h5⟩,h0,u',x',o1,r,hm,hx1,hx',hN,hMs⟩:=hq
  refine ⟨_,_,_,_,_,hr.df,rfl,fun v=>Qn8 _ v,?_⟩
  refine DCall.mono (QwU hr.mr hm) ?_
  rintro w3 ⟨e2,S2,⟨_,hm2,hx2⟩,hMem,hFr⟩
  have hr3:=hr.call (S':=⟨S'.t,S2.m,S2.x⟩) rfl (by show S2.m.length=_; rw [hm2]) hMem hFr
  exact Qmw hwf (show esDo s e=((esDo s e).1,0) by rw [←h0]) hr3 h4 h5 (hm2.trans hm) (by rw [hx2]; exact hx') hN hMs
 | panic ch=>
  rw [QeP] at hq
  obtain ⟨⟨h4,h5⟩,n,rfl,hdo,o1,r,hm,hx1⟩:=hq
  refine ⟨_,_,_,_,_,hr.df,rfl,fun v=>Qn8 _ v,?_⟩
  refine DCall.mono (QwP hr.mr (by have:=hi.ms; omega) (hu1.mono hx1) hm) ?_
  rintro w3 ⟨e2,S2,⟨_,u',x',hm2,hx2,hx',hN,hMs⟩,hMem,hFr⟩
  have hr3:=hr.call (S':=⟨S'.t,S2.m,S2.x⟩) rfl (by show S2.m.length=_; rw [hm2,hm]; simp) hMem hFr
  exact Qmw hwf hdo hr3 h4 h5 hm2 hx' (hN.mono hx1) hMs
 | _=>exact hq.elim
#print axioms QlC
theorem Qei {x:Nat→Obj→Prop} (s:Es) {u u':Value} (hmax:s.ms.length≤1152921504606846976) (hu:MsAt x s.ms u) (hu':MsAt x s.ms u'):PureC Tryz.prog x 24 [s.v u,s.v u'] (.bool true):=by
 obtain ⟨a,cap,rfl,h1,h2,h3,h4⟩:=hu
 obtain ⟨a',cap',rfl,h1',h2',h3',h4'⟩:=hu'
 have hc:∀ y,xsub x y→PureC Tryz.prog y 53 [.slice a s.ms.length cap,.slice a' s.ms.length cap'] (.bool true):=fun y hy=>QvS hmax (h4.mono hy) (h4'.mono hy)
 unfold Es.v Es.cells
 refine Qab Tryz.func24 rfl rfl fun w=>?_
 refine Qaa (by kernel_rfl) ?_
 repeat' (first|((with_reducible show callW _ _ _ (some (53,_)) _ _);refine callP Qzc rfl (hc _ (fun _ _ h=>h)) ?_)|((fail_if_success (with_reducible refine stk ?_));simp only [WE,segX,Nat.reduceBEq,Nat.reduceAdd,ty_3,ty_4,Qai,Qa0,Qba,QeL,QbY,QaT,QaH,Qa1,QaY,QbJ,Qe9,QaF,QbT,Qes,QaJ,Qcm,Qet,QcN,Qb5,Qb6,Qe8,Qdk,QbK,Qcl,QxZ,Qx0,QnB,Qx1,Qx2,Qip,QnC,Tryz.underlying4,QD0]))
def awC:Cf:=⟨1000,100,10,1000,200000,60000000,20⟩
open Go
open Go.Conc (Knows Before touchAt Wordless)
namespace R
def Conn.bare (k:Conn):Conn:={ k with vs:=[] }
def Gh.bare (h:Gh):Gh:={ h with conn:=h.conn.map Conn.bare,feed:=h.feed.map fun f=>{ f with vs:=[] } }
structure Vw where
 M:Nat→Prop
 X:Nat→Prop
 gh:Gh
def Vw.O (u:Vw) (b:Nat):Prop:=u.M b∨u.X b
def vw (w:WM):Vw:=⟨w.M,w.X,w.gh.bare⟩
def Terr (u:Vw) (b:Nat):Prop:=u.M b∨∃ k∈u.gh.conn,k.F b∨b=k.c∨b=k.q
def StackOk:(Nat→Prop)→(Nat→Prop)→List Conn→Prop
 | M,X,[]=>∀ b,M b→¬ X b
 | M,X,k :: r=>(∀ b,M b→¬ X b)∧(∀ b,X b↔k.X0 b∨k.F b)∧(∀ b,k.F b→¬ k.X0 b∧¬ M b∧b≠k.c∧b≠k.q)∧(¬ M k.c∧¬ M k.q∧¬ X k.c∧¬ X k.q∧k.c≠k.q) ∧
   StackOk (fun b=>M b∨k.F b∨b=k.c∨b=k.q) k.X0 r
theorem StackOk.mx:∀ {l:List Conn} {M X:Nat→Prop},StackOk M X l→∀ b,M b→¬ X b
 | [],_,_,h=>h
 | _ :: _,_,_,h=>h.1
theorem StackOk.sub:∀ {l:List Conn} {M X:Nat→Prop},StackOk M X l→∀ k∈l,∀ b,k.X0 b∨k.F b→X b
 | [],_,_,_,k,hk,_,_=>by simp at hk
 | k0 :: r,_,_,h,k,hk,b,hb=>by
  rcases List.mem_cons.1 hk with rfl | hk
  ·exact (h.2.1 b).2 hb
  ·exact (h.2.1 b).2 (.inl (StackOk.sub h.2.2.2.2 k hk b hb))
theorem StackOk.chan:∀ {l:List Conn} {M X:Nat→Prop},StackOk M X l→∀ k∈l,(¬ M k.c∧¬ X k.c)∧(¬ M k.q∧¬ X k.q)∧k.c≠k.q
 | [],_,_,_,k,hk=>by simp at hk
 | k0 :: r,_,_,h,k,hk=>by
  rcases List.mem_cons.1 hk with rfl | hk
  ·exact ⟨⟨h.2.2.2.1.1,h.2.2.2.1.2.2.1⟩,⟨h.2.2.2.1.2.1,h.2.2.2.1.2.2.2.1⟩,h.2.2.2.1.2.2.2.2⟩
  ·obtain ⟨⟨h1,h2⟩,⟨h3,h4⟩,h5⟩:=StackOk.chan h.2.2.2.2 k hk
   refine ⟨⟨fun hm=>h1 (.inl hm),fun hx=>?_⟩,⟨fun hm=>h3 (.inl hm),fun hx=>?_⟩,h5⟩
   ·rcases (h.2.1 _).1 hx with hx | hx
    ·exact h2 hx
    ·exact h1 (.inr (.inl hx))
   ·rcases (h.2.1 _).1 hx with hx | hx
    ·exact h4 hx
    ·exact h3 (.inr (.inl hx))
theorem StackOk.chanF:∀ {l:List Conn} {M X:Nat→Prop},StackOk M X l→l.Pairwise (fun a b=>b.kid < a.kid)→∀ k∈l,∀ k'∈l,k.kid≠k'.kid→k.c≠k'.c∧k.c≠k'.q∧k.q≠k'.q
 | [],_,_,_,_,k,hk,_,_,_=>by simp at hk
 | k0 :: r,_,_,h,hp,k,hk,k',hk',hne=>by
  have one:∀ k∈r,k.c≠k0.c∧k.c≠k0.q∧k.q≠k0.c∧k.q≠k0.q:=fun k hk=>by
   obtain ⟨⟨h1,_⟩,⟨h3,_⟩,_⟩:=StackOk.chan h.2.2.2.2 k hk
   exact ⟨fun e=>h1 (.inr (.inr (.inl e))),fun e=>h1 (.inr (.inr (.inr e))),fun e=>h3 (.inr (.inr (.inl e))),fun e=>h3 (.inr (.inr (.inr e)))⟩
  rcases List.mem_cons.1 hk with rfl | hk1 <;> rcases List.mem_cons.1 hk' with rfl | hk2
  ·exact absurd rfl hne
  ·obtain ⟨h1,h2,h3,h4⟩:=one k' hk2
   exact ⟨fun e=>h1 e.symm,fun e=>h3 e.symm,fun e=>h4 e.symm⟩
  ·obtain ⟨h1,h2,h3,h4⟩:=one k hk1
   exact ⟨h1,h2,h4⟩
  ·exact StackOk.chanF h.2.2.2.2 (List.pairwise_cons.1 hp).2 k hk1 k' hk2 hne
theorem StackOk.later:∀ {l:List Conn} {M X:Nat→Prop},StackOk M X l→l.Pairwise (fun a b=>b.kid < a.kid)→∀ k∈l,∀ k'∈l,k'.kid < k.kid→∀ b,k'.X0 b∨k'.F b→¬ k.F b
 | [],_,_,_,_,k,hk,_,_,_,_,_=>by simp at hk
 | k0 :: r,_,_,h,hp,k,hk,k',hk',hlt,b,hb=>by
  rcases List.mem_cons.1 hk with rfl | hk1 <;> rcases List.mem_cons.1 hk' with rfl | hk2
  ·omega
  ·exact fun hF=>(h.2.2.1 b hF).1 (StackOk.sub h.2.2.2.2 k' hk2 b hb)
  ·have:=(List.pairwise_cons.1 hp).1 k hk1
   omega
  ·exact StackOk.later h.2.2.2.2 (List.pairwise_cons.1 hp).2 k hk1 k' hk2 hlt b hb
theorem StackOk.grow {n:Nat}:∀ {l:List Conn} {M M' X:Nat→Prop},StackOk M X l→(∀ b,M' b→M b∨n≤b)→(∀ b,X b→b < n)→(∀ k∈l,∀ b,k.F b∨b=k.c∨b=k.q→b < n)→StackOk M' X l
 | [],_,_,_,h,hm,hx,_=>fun b hb hX=>(hm b hb).elim (fun h1=>h b h1 hX) fun h1=>by have:=hx b hX; omega
 | k0 :: r,M,M',X,h,hm,hx,hk=>by
  have low:∀ b,b < n→M' b→M b:=fun b hb h1=>(hm b h1).elim id fun h2=>by omega
  refine ⟨fun b hb hX=>h.1 b (low b (hx b hX) hb) hX,h.2.1,fun b hF=>?_,?_,?_⟩
  ·obtain ⟨h1,h2,h3⟩:=h.2.2.1 b hF
   exact ⟨h1,fun h4=>h2 (low b (hk k0 (by simp) b (.inl hF)) h4),h3⟩
  ·obtain ⟨h1,h2,h3⟩:=h.2.2.2.1
   exact ⟨fun h4=>h1 (low _ (hk k0 (by simp) _ (.inr (.inl rfl))) h4),fun h4=>h2 (low _ (hk k0 (by simp) _ (.inr (.inr rfl))) h4),h3⟩
  ·refine StackOk.grow (M:=fun b=>M b∨k0.F b∨b=k0.c∨b=k0.q) h.2.2.2.2 ?_ (fun b hX=>hx b ((h.2.1 b).2 (.inl hX))) (fun k hk'=>hk k (by simp [hk']))
   rintro b (h1 | h1)
   ·exact (hm b h1).elim (fun h2=>.inl (.inl h2)) .inr
   ·exact .inl (.inr h1)
theorem StackOk.less:∀ {l:List Conn} {M M' X:Nat→Prop},StackOk M X l→(∀ b,M' b→M b)→StackOk M' X l
 | [],_,_,_,h,hm=>fun b hb=>h b (hm b hb)
 | k :: r,_,_,_,h,hm=>⟨fun b hb=>h.1 b (hm b hb),h.2.1,fun b hb=>⟨(h.2.2.1 b hb).1,fun h1=>(h.2.2.1 b hb).2.1 (hm b h1),(h.2.2.1 b hb).2.2⟩,
   ⟨fun h1=>h.2.2.2.1.1 (hm _ h1),fun h1=>h.2.2.2.1.2.1 (hm _ h1),h.2.2.2.1.2.2⟩,StackOk.less h.2.2.2.2 fun b hb=>hb.imp (hm b) id⟩
theorem StackOk.notF:∀ {l:List Conn} {M X:Nat→Prop},StackOk M X l→∀ k∈l,∀ k'∈l,¬ k'.F k.c
 | [],_,_,_,k,hk,_,_=>by simp at hk
 | k0 :: r,_,_,h,k,hk,k',hk'=>by
  rcases List.mem_cons.1 hk with rfl | hk1 <;> rcases List.mem_cons.1 hk' with rfl | hk2
  ·exact fun hF=>(h.2.2.1 _ hF).2.2.1 rfl
  ·exact fun hF=>h.2.2.2.1.2.2.1 ((h.2.1 _).2 (.inl (StackOk.sub h.2.2.2.2 k' hk2 _ (.inr hF))))
  ·exact fun hF=>(StackOk.chan h.2.2.2.2 k hk1).1.1 (.inr (.inl hF))
  ·exact StackOk.notF h.2.2.2.2 k hk1 k' hk2
structure OwnOk (L:Vw→Prop) (n:Nat):Prop where
 uniq:∀ u v,L u→L v→u.gh.id=v.gh.id→u=v
 bound:∀ u,L u→∀ b,Terr u b∨u.X b→b < n
 disj:∀ u v,L u→L v→u.gh.id≠v.gh.id→∀ b,Terr u b→¬ Terr v b
 tx:∀ u v,L u→L v→u.gh.id≠v.gh.id→∀ b,Terr u b→v.X b→∃ k∈u.gh.conn,k.kid=v.gh.id
 kx:∀ u v,L u→L v→∀ k∈u.gh.conn,k.kid=v.gh.id→∀ b,v.X b→k.X0 b∨k.F b
 stack:∀ u,L u→StackOk u.M u.X u.gh.conn
 srt:∀ u,L u→u.gh.conn.Pairwise (fun a b=>b.kid < a.kid)
 up:∀ u,L u→∀ k∈u.gh.conn,u.gh.id < k.kid
 ku:∀ u v,L u→L v→∀ k∈u.gh.conn,∀ k'∈v.gh.conn,k.kid=k'.kid→u=v
 quit:∀ u,L u→u.gh.quits=true→u.gh.id≠0∧u.gh.conn=[]∧u.gh.feed=none∧∀ b,¬ u.O b
 kid:∀ u,L u→u.gh.quits=false→u.gh.id≠0→star < n∧¬ u.O star∧u.gh.conn=[]∧u.gh.feed≠none
 main:∀ u,L u→u.gh.id=0→u.gh.feed=none
 fd:∀ u,L u→∀ d,u.gh.feed=some d→∃ v,L v∧∃ k∈v.gh.conn,k.kid=u.gh.id∧k.c=d.c
section
variable {L:Vw→Prop} {n:Nat} {u v:Vw}
theorem OwnOk.apart (h:OwnOk L n) (hu:L u) (hv:L v) (hne:u.gh.id≠v.gh.id) {b:Nat} (hM:u.M b):¬ v.O b:=by
 rintro (h1 | h1)
 ·exact h.disj u v hu hv hne b (.inl hM) (.inl h1)
 ·obtain ⟨k,hk,e⟩:=h.tx u v hu hv hne b (.inl hM) h1
  exact (h.stack u hu).mx b hM ((h.stack u hu).sub k hk b (h.kx u v hu hv k hk e b h1))
theorem OwnOk.chan (h:OwnOk L n) (hu:L u) (hv:L v) {k:Conn} (hk:k∈u.gh.conn):¬ v.O k.c∧¬ v.O k.q:=by
 obtain ⟨⟨h1,h2⟩,⟨h3,h4⟩,_⟩:=(h.stack u hu).chan k hk
 by_cases hne:u.gh.id=v.gh.id
 ·obtain rfl:=h.uniq u v hu hv hne
  exact ⟨fun x=>x.elim h1 h2,fun x=>x.elim h3 h4⟩
 ·have hx:∀ b,Terr u b→¬ u.X b→¬ v.O b:=fun b ht hX=>by
   rintro (h5 | h5)
   ·exact h.disj u v hu hv hne b ht (.inl h5)
   ·obtain ⟨k',hk',e⟩:=h.tx u v hu hv hne b ht h5
    exact hX ((h.stack u hu).sub k' hk' b (h.kx u v hu hv k' hk' e b h5))
  exact ⟨hx _ (.inr ⟨k,hk,.inr (.inl rfl)⟩) h2,hx _ (.inr ⟨k,hk,.inr (.inr rfl)⟩) h4⟩
theorem OwnOk.chanD (h:OwnOk L n) (hu:L u) (hv:L v) {k k':Conn} (hk:k∈u.gh.conn) (hk':k'∈v.gh.conn) (hne:k.kid≠k'.kid):k.c≠k'.c∧k.c≠k'.q∧k.q≠k'.q:=by
 by_cases e:u.gh.id=v.gh.id
 ·obtain rfl:=h.uniq u v hu hv e
  exact (h.stack u hu).chanF (h.srt u hu) k hk k' hk' hne
 ·have key:∀ b b',(b=k.c∨b=k.q)→(b'=k'.c∨b'=k'.q)→b≠b':=fun b b' h1 h2 e'=>by
   subst e'
   exact h.disj u v hu hv e b (.inr ⟨k,hk,.inr h1⟩) (.inr ⟨k',hk',.inr h2⟩)
  exact ⟨key _ _ (.inl rfl) (.inl rfl),key _ _ (.inl rfl) (.inr rfl),key _ _ (.inr rfl) (.inr rfl)⟩
theorem Qjk {l:List Conn} (h:l.Pairwise (fun a b=>b.kid < a.kid)) {k k':Conn} (hk:k∈l) (hk':k'∈l) (e:k.kid=k'.kid):k=k':=by
 induction l with
 | nil=>simp at hk
 | cons a r ih=>
  obtain ⟨h1,h2⟩:=List.pairwise_cons.1 h
  rcases List.mem_cons.1 hk with rfl | hk1 <;> rcases List.mem_cons.1 hk' with rfl | hk2
  ·rfl
  ·have:=h1 k' hk2; omega
  ·have:=h1 k hk1; omega
  ·exact ih h2 hk1 hk2
def upd (L:Vw→Prop) (u u':Vw):Vw→Prop:=fun v=>v=u'∨(L v∧v.gh.id≠u.gh.id)
theorem OwnOk.own (h:OwnOk L n) (hu:L u) {n':Nat} (hn:n≤n') {u':Vw} (hM:∀ b,u'.M b↔u.M b∨(n≤b∧b < n')) (hX:u'.X=u.X) (hg:u'.gh=u.gh) (hq:u.gh.quits=true→n'=n):OwnOk (upd L u u') n':=by
 have terr:∀ b,Terr u' b→Terr u b∨(n≤b∧b < n'):=fun b hb=>by
  rcases hb with hb | ⟨k,hk,hb⟩
  ·exact ((hM b).1 hb).imp .inl id
  ·rw [hg] at hk; exact .inl (.inr ⟨k,hk,hb⟩)
 have hb0:=h.bound
 refine ⟨?_,?_,?_,?_,?_,?_,?_,?_,?_,?_,?_,?_,?_⟩
 ·rintro x y (rfl | ⟨hx,hxn⟩) (rfl | ⟨hy,hyn⟩) e
  ·rfl
  ·rw [hg] at e; exact absurd e.symm hyn
  ·rw [hg] at e; exact absurd e hxn
  ·exact h.uniq x y hx hy e
 ·rintro x (rfl | ⟨hx,_⟩) b hb
  ·rcases hb with hb | hb
   ·rcases terr b hb with h1 | h1
    ·exact Nat.lt_of_lt_of_le (hb0 u hu b (.inl h1)) hn
    ·exact h1.2
   ·rw [hX] at hb; exact Nat.lt_of_lt_of_le (hb0 u hu b (.inr hb)) hn
  ·exact Nat.lt_of_lt_of_le (hb0 x hx b hb) hn
 ·rintro x y (rfl | ⟨hx,hxn⟩) (rfl | ⟨hy,hyn⟩) hne b h1 h2
  ·exact hne rfl
  ·rw [hg] at hne
   rcases terr b h1 with h3 | h3
   ·exact h.disj u y hu hy hne b h3 h2
   ·have:=hb0 y hy b (.inl h2); omega
  ·rw [hg] at hne
   rcases terr b h2 with h3 | h3
   ·exact h.disj x u hx hu hne b h1 h3
   ·have:=hb0 x hx b (.inl h1); omega
  ·exact h.disj x y hx hy hne b h1 h2
 ·rintro x y (rfl | ⟨hx,hxn⟩) (rfl | ⟨hy,hyn⟩) hne b h1 h2
  ·exact absurd rfl hne
  ·rw [hg] at hne ⊢
   rcases terr b h1 with h3 | h3
   ·exact h.tx u y hu hy hne b h3 h2
   ·have:=hb0 y hy b (.inr h2); omega
  ·rw [hg] at hne ⊢; rw [hX] at h2
   exact h.tx x u hx hu hne b h1 h2
  ·exact h.tx x y hx hy hne b h1 h2
 ·rintro x y (rfl | ⟨hx,hxn⟩) (rfl | ⟨hy,hyn⟩) k hk e b hb
  ·rw [hg] at hk e; rw [hX] at hb; exact h.kx u u hu hu k hk e b hb
  ·rw [hg] at hk; exact h.kx u y hu hy k hk e b hb
  ·rw [hg] at e; rw [hX] at hb; exact h.kx x u hx hu k hk e b hb
  ·exact h.kx x y hx hy k hk e b hb
 ·rintro x (rfl | ⟨hx,_⟩)
  ·rw [hX,hg]
   exact (h.stack u hu).grow (n:=n) (fun b hb=>((hM b).1 hb).imp id (·.1)) (fun b hb=>hb0 u hu b (.inr hb)) (fun k hk b hb=>hb0 u hu b (.inl (.inr ⟨k,hk,hb⟩)))
  ·exact h.stack x hx
 ·rintro x (rfl | ⟨hx,_⟩)
  ·rw [hg]; exact h.srt u hu
  ·exact h.srt x hx
 ·rintro x (rfl | ⟨hx,_⟩)
  ·rw [hg]; exact h.up u hu
  ·exact h.up x hx
 ·rintro x y (rfl | ⟨hx,hxn⟩) (rfl | ⟨hy,hyn⟩) k hk k' hk' e
  ·rfl
  ·rw [hg] at hk
   obtain rfl:=h.ku u y hu hy k hk k' hk' e
   exact absurd rfl hyn
  ·rw [hg] at hk'
   obtain rfl:=h.ku x u hx hu k hk k' hk' e
   exact absurd rfl hxn
  ·exact h.ku x y hx hy k hk k' hk' e
 ·rintro x (rfl | ⟨hx,_⟩) hx'
  ·rw [hg] at hx' ⊢
   obtain ⟨h0,h1,h2,h3⟩:=h.quit u hu hx'
   refine ⟨h0,h1,h2,fun b hb=>?_⟩
   rcases hb with hb | hb
   ·rcases (hM b).1 hb with h4 | h4
    ·exact h3 b (.inl h4)
    ·have:=hq hx'; omega
   ·rw [hX] at hb; exact h3 b (.inr hb)
  ·exact h.quit x hx hx'
 ·rintro x (rfl | ⟨hx,_⟩) h1 h2
  ·rw [hg] at h1 h2 ⊢
   obtain ⟨h0,h3,h4,h5⟩:=h.kid u hu h1 h2
   refine ⟨by omega,fun hO=>?_,h4,h5⟩
   rcases hO with hO | hO
   ·rcases (hM _).1 hO with h6 | h6
    ·exact h3 (.inl h6)
    ·omega
   ·rw [hX] at hO; exact h3 (.inr hO)
  ·obtain ⟨h0,h3⟩:=h.kid x hx h1 h2
   exact ⟨by omega,h3⟩
 ·rintro x (rfl | ⟨hx,_⟩) h1
  ·rw [hg] at h1 ⊢; exact h.main u hu h1
  ·exact h.main x hx h1
 ·have key:∀ x,L x→∀ d,x.gh.feed=some d→∃ v,upd L u u' v∧∃ k∈v.gh.conn,k.kid=x.gh.id∧k.c=d.c:=fun x hx d hd=>by
   obtain ⟨v,hv,k,hk,h1,h2⟩:=h.fd x hx d hd
   by_cases e:v.gh.id=u.gh.id
   ·obtain rfl:=h.uniq v u hv hu e
    exact ⟨u',.inl rfl,k,by rw [hg]; exact hk,h1,h2⟩
   ·exact ⟨v,.inr ⟨hv,e⟩,k,hk,h1,h2⟩
  rintro x (rfl | ⟨hx,_⟩) d hd
  ·rw [hg] at hd ⊢; exact key u hu d hd
  ·exact key x hx d hd
theorem OwnOk.fork (h:OwnOk L n) (hu:L u) {c q i:Nat} {F:Nat→Prop} (hO:u.O star) (hc:u.M c) (hq:u.M q) (hcq:c≠q) (hF:∀ b,F b→u.M b∧b≠c∧b≠q) (hi:∀ v,L v→v.gh.id < i∧∀ k∈v.gh.conn,k.kid < i)
  {u1 u2:Vw} (h1:u1=⟨fun b=>u.M b∧¬ F b∧b≠c∧b≠q,fun b=>u.X b∨F b,{ u.gh with conn:=⟨c,q,[],i,u.X,F⟩ :: u.gh.conn }⟩)
  (h2:u2=⟨fun _=>False,fun b=>(u.X b∨F b)∧b≠star,⟨i,[],some ⟨c,q,[]⟩,false⟩⟩):OwnOk (fun v=>v=u2∨upd L u u1 v) n:=by
 have hb0:=h.bound
 have hui:=hi u hu
 have id1:u1.gh.id=u.gh.id:=by rw [h1]
 have id2:u2.gh.id=i:=by rw [h2]
 have cn1:u1.gh.conn=⟨c,q,[],i,u.X,F⟩ :: u.gh.conn:=by rw [h1]
 have cn2:u2.gh.conn=[]:=by rw [h2]
 have X1:∀ b,u1.X b↔u.X b∨F b:=fun b=>by rw [h1]
 have X2:∀ b,u2.X b↔(u.X b∨F b)∧b≠star:=fun b=>by rw [h2]
 have M1:∀ b,u1.M b↔u.M b∧¬ F b∧b≠c∧b≠q:=fun b=>by rw [h1]
 have M2:∀ b,¬ u2.M b:=fun b=>by rw [h2]; exact id
 have t1:∀ b,Terr u1 b→Terr u b:=fun b hb=>by
  rcases hb with hb | ⟨k,hk,hb⟩
  ·exact .inl ((M1 b).1 hb).1
  ·rw [cn1] at hk
   rcases List.mem_cons.1 hk with rfl | hk
   ·rcases hb with hb | hb | hb
    ·exact .inl (hF b hb).1
    ·exact .inl (hb▸hc)
    ·exact .inl (hb▸hq)
   ·exact .inr ⟨k,hk,hb⟩
 have t2:∀ b,¬ Terr u2 b:=fun b hb=>by
  rcases hb with hb | ⟨k,hk,hb⟩
  ·exact M2 b hb
  ·rw [cn2] at hk; simp at hk
 have x1:∀ b,u1.X b→u.O b:=fun b hb=>((X1 b).1 hb).elim .inr fun h3=>.inl (hF b h3).1
 have hq0:u.gh.quits=false:=by
  cases hqu:u.gh.quits with
  | false=>rfl
  | true=>exact absurd hO ((h.quit u hu hqu).2.2.2 _)
 have hid0:u.gh.id=0:=by
  by_cases h0:u.gh.id=0
  ·exact h0
  ·exact absurd hO (h.kid u hu hq0 h0).2.1
 have hst:star < n:=by
  rcases hO with h3 | h3
  ·exact hb0 u hu _ (.inl (.inl h3))
  ·exact hb0 u hu _ (.inr h3)
 have mx:=(h.stack u hu).mx
 refine ⟨?_,?_,?_,?_,?_,?_,?_,?_,?_,?_,?_,?_,?_⟩
 ·rintro x y (rfl | rfl | ⟨hx,hxn⟩) (rfl | rfl | ⟨hy,hyn⟩) e
  ·rfl
  ·rw [id1,id2] at e; omega
  ·rw [id2] at e; have:=(hi y hy).1; omega
  ·rw [id1,id2] at e; omega
  ·rfl
  ·rw [id1] at e; exact absurd e.symm hyn
  ·rw [id2] at e; have:=(hi x hx).1; omega
  ·rw [id1] at e; exact absurd e hxn
  ·exact h.uniq x y hx hy e
 ·rintro x (rfl | rfl | ⟨hx,_⟩) b hb
  ·rcases hb with hb | hb
   ·exact absurd hb (t2 b)
   ·rcases ((X2 b).1 hb).1 with h3 | h3
    ·exact hb0 u hu b (.inr h3)
    ·exact hb0 u hu b (.inl (.inl (hF b h3).1))
  ·rcases hb with hb | hb
   ·exact hb0 u hu b (.inl (t1 b hb))
   ·rcases x1 b hb with h3 | h3
    ·exact hb0 u hu b (.inl (.inl h3))
    ·exact hb0 u hu b (.inr h3)
  ·exact hb0 x hx b hb
 ·rintro x y (rfl | rfl | ⟨hx,hxn⟩) (rfl | rfl | ⟨hy,hyn⟩) hne b hb1 hb2
  ·exact hne rfl
  ·exact t2 b hb1
  ·exact t2 b hb1
  ·exact t2 b hb2
  ·exact hne rfl
  ·rw [id1] at hne; exact h.disj u y hu hy hne b (t1 b hb1) hb2
  ·exact t2 b hb2
  ·rw [id1] at hne; exact h.disj x u hx hu hne b hb1 (t1 b hb2)
  ·exact h.disj x y hx hy hne b hb1 hb2
 ·rintro x y (rfl | rfl | ⟨hx,hxn⟩) (rfl | rfl | ⟨hy,hyn⟩) hne b hb1 hb2
  ·exact absurd rfl hne
  ·exact absurd hb1 (t2 b)
  ·exact absurd hb1 (t2 b)
  ·exact ⟨_,by rw [cn1]; exact List.mem_cons_self ..,id2.symm⟩
  ·exact absurd rfl hne
  ·rw [id1] at hne
   obtain ⟨k,hk,e⟩:=h.tx u y hu hy hne b (t1 b hb1) hb2
   exact ⟨k,by rw [cn1]; exact List.mem_cons_of_mem _ hk,e⟩
  ·-- y=u2
   rcases ((X2 b).1 hb2).1 with h3 | h3
   ·obtain ⟨k,hk,e⟩:=h.tx x u hx hu hxn b hb1 h3
    exact absurd (h.up x hx k hk) (by rw [e,hid0]; omega)
   ·exact absurd (.inl (hF b h3).1) (h.disj x u hx hu hxn b hb1)
  ·rw [id1] at hne ⊢
   rcases (X1 b).1 hb2 with h3 | h3
   ·exact h.tx x u hx hu hne b hb1 h3
   ·exact absurd (.inl (hF b h3).1) (h.disj x u hx hu hne b hb1)
  ·exact h.tx x y hx hy hne b hb1 hb2
 ·rintro x y (rfl | rfl | ⟨hx,hxn⟩) (rfl | rfl | ⟨hy,hyn⟩) k hk e b hb
  ·rw [cn2] at hk; simp at hk
  ·rw [cn2] at hk; simp at hk
  ·rw [cn2] at hk; simp at hk
  ·rw [cn1] at hk
   rcases List.mem_cons.1 hk with rfl | hk
   ·exact ((X2 b).1 hb).1
   ·rw [id2] at e; have:=hui.2 k hk; omega
  ·rw [cn1] at hk
   rw [id1] at e
   rcases List.mem_cons.1 hk with rfl | hk
   ·have:=hui.1; simp only at e; omega
   ·have:=h.up u hu k hk; omega
  ·rw [cn1] at hk
   rcases List.mem_cons.1 hk with rfl | hk
   ·have:=(hi y hy).1; simp only at e; omega
   ·exact h.kx u y hu hy k hk e b hb
  ·rw [id2] at e; have:=(hi x hx).2 k hk; omega
  ·rw [id1] at e
   have:=h.up x hx k hk
   rw [e,hid0] at this; omega
  ·exact h.kx x y hx hy k hk e b hb
 ·rintro x (rfl | rfl | ⟨hx,_⟩)
  ·rw [cn2]; exact fun b hb=>absurd hb (M2 b)
  ·rw [cn1]
   refine ⟨fun b hb hX=>?_,X1,fun b hb=>⟨fun h3=>mx b (hF b hb).1 h3,fun h3=>((M1 b).1 h3).2.1 hb,(hF b hb).2⟩,⟨fun h3=>((M1 _).1 h3).2.2.1 rfl,fun h3=>((M1 _).1 h3).2.2.2 rfl,?_,?_,hcq⟩,?_⟩
   ·rcases (X1 b).1 hX with h3 | h3
    ·exact mx b ((M1 b).1 hb).1 h3
    ·exact ((M1 b).1 hb).2.1 h3
   ·intro h3
    rcases (X1 _).1 h3 with h4 | h4
    ·exact mx _ hc h4
    ·exact (hF _ h4).2.1 rfl
   ·intro h3
    rcases (X1 _).1 h3 with h4 | h4
    ·exact mx _ hq h4
    ·exact (hF _ h4).2.2 rfl
   ·have e:(fun b=>x.M b∨F b∨b=c∨b=q)=u.M:=by
     funext b
     refine propext ⟨fun h3=>?_,fun h3=>?_⟩
     ·rcases h3 with h3 | h3 | h3 | h3
      ·exact ((M1 b).1 h3).1
      ·exact (hF b h3).1
      ·exact h3▸hc
      ·exact h3▸hq
     ·by_cases f1:F b
      ·exact .inr (.inl f1)
      ·by_cases f2:b=c
       ·exact .inr (.inr (.inl f2))
       ·by_cases f3:b=q
        ·exact .inr (.inr (.inr f3))
        ·exact .inl ((M1 b).2 ⟨h3,f1,f2,f3⟩)
    show StackOk (fun b=>x.M b∨F b∨b=c∨b=q) u.X u.gh.conn
    rw [e]
    exact h.stack u hu
  ·exact h.stack x hx
 ·rintro x (rfl | rfl | ⟨hx,_⟩)
  ·rw [cn2]; exact .nil
  ·rw [cn1]; exact List.pairwise_cons.2 ⟨fun k hk=>hui.2 k hk,h.srt u hu⟩
  ·exact h.srt x hx
 ·rintro x (rfl | rfl | ⟨hx,_⟩) k hk
  ·rw [cn2] at hk; simp at hk
  ·rw [cn1] at hk
   rw [id1]
   rcases List.mem_cons.1 hk with rfl | hk
   ·exact hui.1
   ·exact h.up u hu k hk
  ·exact h.up x hx k hk
 ·rintro x y (rfl | rfl | ⟨hx,hxn⟩) (rfl | rfl | ⟨hy,hyn⟩) k hk k' hk' e
  ·rfl
  ·rw [cn2] at hk; simp at hk
  ·rw [cn2] at hk; simp at hk
  ·rw [cn2] at hk'; simp at hk'
  ·rfl
  ·rw [cn1] at hk
   rcases List.mem_cons.1 hk with rfl | hk
   ·have:=(hi y hy).2 k' hk'; simp only at e; omega
   ·obtain rfl:=h.ku u y hu hy k hk k' hk' e
    exact absurd rfl hyn
  ·rw [cn2] at hk'; simp at hk'
  ·rw [cn1] at hk'
   rcases List.mem_cons.1 hk' with rfl | hk'
   ·have:=(hi x hx).2 k hk; simp only at e; omega
   ·obtain rfl:=h.ku x u hx hu k hk k' hk' e
    exact absurd rfl hxn
  ·exact h.ku x y hx hy k hk k' hk' e
 ·rintro x (rfl | rfl | ⟨hx,_⟩) hx'
  ·rw [h2] at hx'; cases hx'
  ·rw [h1] at hx'; exact absurd (hx'.symm.trans hq0) (by simp)
  ·exact h.quit x hx hx'
 ·rintro x (rfl | rfl | ⟨hx,_⟩) h3 h4
  ·refine ⟨hst,fun hs=>?_,cn2,by rw [h2]; simp⟩
   rcases hs with hs | hs
   ·exact M2 _ hs
   ·exact ((X2 _).1 hs).2 rfl
  ·rw [id1] at h4; exact absurd hid0 h4
  ·exact h.kid x hx h3 h4
 ·rintro x (rfl | rfl | ⟨hx,_⟩) h3
  ·rw [id2] at h3; have:=hui.1; omega
  ·rw [h1]; exact h.main u hu hid0
  ·exact h.main x hx h3
 ·have key:∀ x,L x→∀ d,x.gh.feed=some d→∃ v,(v=u2∨upd L u u1 v)∧∃ k∈v.gh.conn,k.kid=x.gh.id∧k.c=d.c:=fun x hx d hd=>by
   obtain ⟨v,hv,k,hk,h3,h4⟩:=h.fd x hx d hd
   by_cases e:v.gh.id=u.gh.id
   ·obtain rfl:=h.uniq v u hv hu e
    exact ⟨u1,.inr (.inl rfl),k,by rw [cn1]; exact List.mem_cons_of_mem _ hk,h3,h4⟩
   ·exact ⟨v,.inr (.inr ⟨hv,e⟩),k,hk,h3,h4⟩
  rintro x (rfl | rfl | ⟨hx,_⟩) d hd
  ·rw [h2] at hd
   obtain rfl:=Option.some.inj hd
   exact ⟨u1,.inr (.inl rfl),_,by rw [cn1]; exact List.mem_cons_self ..,id2.symm,rfl⟩
  ·have hd':u.gh.feed=some d:=by rw [h1] at hd; exact hd
   rw [id1]; exact key u hu d hd'
  ·exact key x hx d hd
theorem OwnOk.pop (h:OwnOk L n) (hu:L u) {k:Conn} {rest:List Conn} (hk:u.gh.conn=k :: rest) (hkid:∀ v,L v→v.gh.id=k.kid→v.gh.feed=none∧∀ b,¬ v.O b)
  {u1:Vw} (h1:u1=⟨fun b=>u.M b∨k.F b∨b=k.q,k.X0,{ u.gh with conn:=rest }⟩):OwnOk (upd L u u1) n:=by
 have hb0:=h.bound
 have hst:=h.stack u hu
 have hsr:=h.srt u hu
 rw [hk] at hst hsr
 have id1:u1.gh.id=u.gh.id:=by rw [h1]
 have cn1:u1.gh.conn=rest:=by rw [h1]
 have X1:u1.X=k.X0:=by rw [h1]
 have M1:u1.M=fun b=>u.M b∨k.F b∨b=k.q:=by rw [h1]
 have t1:∀ b,Terr u1 b→Terr u b:=fun b hb=>by
  rcases hb with hb | ⟨k',hk',hb⟩
  ·rw [M1] at hb
   rcases hb with hb | hb
   ·exact .inl hb
   ·exact .inr ⟨k,by rw [hk]; simp,hb.imp id .inr⟩
  ·rw [cn1] at hk'
   exact .inr ⟨k',by rw [hk]; simp [hk'],hb⟩
 have x1:∀ b,u1.X b→u.X b:=fun b hb=>(hst.2.1 b).2 (.inl (by rw [←X1]; exact hb))
 have up1:∀ k'∈u1.gh.conn,k'∈u.gh.conn:=fun k' hk'=>by rw [cn1] at hk'; rw [hk]; simp [hk']
 refine ⟨?_,?_,?_,?_,?_,?_,?_,?_,?_,?_,?_,?_,?_⟩
 ·rintro x y (rfl | ⟨hx,hxn⟩) (rfl | ⟨hy,hyn⟩) e
  ·rfl
  ·rw [id1] at e; exact absurd e.symm hyn
  ·rw [id1] at e; exact absurd e hxn
  ·exact h.uniq x y hx hy e
 ·rintro x (rfl | ⟨hx,_⟩) b hb
  ·exact hb0 u hu b (hb.imp (t1 b) (x1 b))
  ·exact hb0 x hx b hb
 ·rintro x y (rfl | ⟨hx,hxn⟩) (rfl | ⟨hy,hyn⟩) hne b hb1 hb2
  ·exact hne rfl
  ·rw [id1] at hne; exact h.disj u y hu hy hne b (t1 b hb1) hb2
  ·rw [id1] at hne; exact h.disj x u hx hu hne b hb1 (t1 b hb2)
  ·exact h.disj x y hx hy hne b hb1 hb2
 ·rintro x y (rfl | ⟨hx,hxn⟩) (rfl | ⟨hy,hyn⟩) hne b hb1 hb2
  ·exact absurd rfl hne
  ·rw [id1] at hne
   obtain ⟨k',hk',e⟩:=h.tx u y hu hy hne b (t1 b hb1) hb2
   rw [hk] at hk'
   rcases List.mem_cons.1 hk' with rfl | hk'
   ·exact absurd (.inr hb2) ((hkid y hy e.symm).2 b)
   ·exact ⟨k',by rw [cn1]; exact hk',e⟩
  ·rw [id1] at hne ⊢; exact h.tx x u hx hu hne b hb1 (x1 b hb2)
  ·exact h.tx x y hx hy hne b hb1 hb2
 ·rintro x y (rfl | ⟨hx,hxn⟩) (rfl | ⟨hy,hyn⟩) k' hk' e b hb
  ·rw [id1] at e; have:=h.up u hu k' (up1 k' hk'); omega
  ·exact h.kx u y hu hy k' (up1 k' hk') e b hb
  ·rw [id1] at e; exact h.kx x u hx hu k' hk' e b (x1 b hb)
  ·exact h.kx x y hx hy k' hk' e b hb
 ·rintro x (rfl | ⟨hx,_⟩)
  ·rw [M1,X1,cn1]; exact hst.2.2.2.2.less fun b hb=>hb.imp id fun hb=>hb.imp id .inr
  ·exact h.stack x hx
 ·rintro x (rfl | ⟨hx,_⟩)
  ·rw [cn1]; exact (List.pairwise_cons.1 hsr).2
  ·exact h.srt x hx
 ·rintro x (rfl | ⟨hx,_⟩) k' hk'
  ·rw [id1]; exact h.up u hu k' (up1 k' hk')
  ·exact h.up x hx k' hk'
 ·rintro x y (rfl | ⟨hx,hxn⟩) (rfl | ⟨hy,hyn⟩) k1 hk1 k2 hk2 e
  ·rfl
  ·obtain rfl:=h.ku u y hu hy k1 (up1 k1 hk1) k2 hk2 e
   exact absurd rfl hyn
  ·obtain rfl:=h.ku x u hx hu k1 hk1 k2 (up1 k2 hk2) e
   exact absurd rfl hxn
  ·exact h.ku x y hx hy k1 hk1 k2 hk2 e
 ·rintro x (rfl | ⟨hx,_⟩) hx'
  ·rw [h1] at hx'
   have:=(h.quit u hu hx').2.1
   rw [hk] at this; cases this
  ·exact h.quit x hx hx'
 ·rintro x (rfl | ⟨hx,_⟩) h3 h4
  ·have e1:u.gh.quits=false:=by rw [h1] at h3; exact h3
   rw [id1] at h4
   have:=(h.kid u hu e1 h4).2.2.1
   rw [hk] at this; cases this
  ·exact h.kid x hx h3 h4
 ·rintro x (rfl | ⟨hx,_⟩) h3
  ·rw [id1] at h3
   rw [h1]; exact h.main u hu h3
  ·exact h.main x hx h3
 ·have key:∀ x,L x→∀ d,x.gh.feed=some d→∃ v,upd L u u1 v∧∃ k∈v.gh.conn,k.kid=x.gh.id∧k.c=d.c:=fun x hx d hd=>by
   obtain ⟨v,hv,k',hk',h3,h4⟩:=h.fd x hx d hd
   by_cases e:v.gh.id=u.gh.id
   ·obtain rfl:=h.uniq v u hv hu e
    rw [hk] at hk'
    rcases List.mem_cons.1 hk' with rfl | hk'
    ·rw [(hkid x hx h3.symm).1] at hd; cases hd
    ·exact ⟨u1,.inl rfl,k',by rw [cn1]; exact hk',h3,h4⟩
   ·exact ⟨v,.inr ⟨hv,e⟩,k',hk',h3,h4⟩
  rintro x (rfl | ⟨hx,_⟩) d hd
  ·have hd':u.gh.feed=some d:=by rw [h1] at hd; exact hd
   rw [id1]; exact key u hu d hd'
  ·exact key x hx d hd
theorem OwnOk.close (h:OwnOk L n) (hu:L u) (hc:u.gh.conn=[]) (hid:u.gh.id≠0) {u1:Vw} (h1:u1=⟨fun _=>False,fun _=>False,{ u.gh with feed:=none,quits:=true }⟩):OwnOk (upd L u u1) n:=by
 have hb0:=h.bound
 have id1:u1.gh.id=u.gh.id:=by rw [h1]
 have cn1:u1.gh.conn=[]:=by rw [h1]; exact hc
 have X1:∀ b,¬ u1.X b:=fun b=>by rw [h1]; exact id
 have M1:∀ b,¬ u1.M b:=fun b=>by rw [h1]; exact id
 have t1:∀ b,¬ Terr u1 b:=fun b hb=>by
  rcases hb with hb | ⟨k',hk',hb⟩
  ·exact M1 b hb
  ·rw [cn1] at hk'; simp at hk'
 refine ⟨?_,?_,?_,?_,?_,?_,?_,?_,?_,?_,?_,?_,?_⟩
 ·rintro x y (rfl | ⟨hx,hxn⟩) (rfl | ⟨hy,hyn⟩) e
  ·rfl
  ·rw [id1] at e; exact absurd e.symm hyn
  ·rw [id1] at e; exact absurd e hxn
  ·exact h.uniq x y hx hy e
 ·rintro x (rfl | ⟨hx,_⟩) b hb
  ·exact absurd hb (not_or.2 ⟨t1 b,X1 b⟩)
  ·exact hb0 x hx b hb
 ·rintro x y (rfl | ⟨hx,hxn⟩) (rfl | ⟨hy,hyn⟩) hne b hb1 hb2
  ·exact hne rfl
  ·exact t1 b hb1
  ·exact t1 b hb2
  ·exact h.disj x y hx hy hne b hb1 hb2
 ·rintro x y (rfl | ⟨hx,hxn⟩) (rfl | ⟨hy,hyn⟩) hne b hb1 hb2
  ·exact absurd rfl hne
  ·exact absurd hb1 (t1 b)
  ·exact absurd hb2 (X1 b)
  ·exact h.tx x y hx hy hne b hb1 hb2
 ·rintro x y (rfl | ⟨hx,hxn⟩) (rfl | ⟨hy,hyn⟩) k' hk' e b hb
  ·exact absurd hb (X1 b)
  ·rw [cn1] at hk'; simp at hk'
  ·exact absurd hb (X1 b)
  ·exact h.kx x y hx hy k' hk' e b hb
 ·rintro x (rfl | ⟨hx,_⟩)
  ·rw [cn1]; exact fun b hb=>absurd hb (M1 b)
  ·exact h.stack x hx
 ·rintro x (rfl | ⟨hx,_⟩)
  ·rw [cn1]; exact .nil
  ·exact h.srt x hx
 ·rintro x (rfl | ⟨hx,_⟩) k' hk'
  ·rw [cn1] at hk'; simp at hk'
  ·exact h.up x hx k' hk'
 ·rintro x y (rfl | ⟨hx,hxn⟩) (rfl | ⟨hy,hyn⟩) k1 hk1 k2 hk2 e
  ·rfl
  ·rw [cn1] at hk1; simp at hk1
  ·rw [cn1] at hk2; simp at hk2
  ·exact h.ku x y hx hy k1 hk1 k2 hk2 e
 ·rintro x (rfl | ⟨hx,_⟩) hx'
  ·exact ⟨by rw [id1]; exact hid,cn1,by rw [h1],fun b hb=>hb.elim (M1 b) (X1 b)⟩
  ·exact h.quit x hx hx'
 ·rintro x (rfl | ⟨hx,_⟩) h3 h4
  ·rw [h1] at h3; cases h3
  ·exact h.kid x hx h3 h4
 ·rintro x (rfl | ⟨hx,_⟩) h3
  ·rw [h1]
  ·exact h.main x hx h3
 ·rintro x (rfl | ⟨hx,_⟩) d hd
  ·rw [h1] at hd; cases hd
  ·obtain ⟨v,hv,k',hk',h3,h4⟩:=h.fd x hx d hd
   by_cases e:v.gh.id=u.gh.id
   ·obtain rfl:=h.uniq v u hv hu e
    rw [hc] at hk'; simp at hk'
   ·exact ⟨v,.inr ⟨hv,e⟩,k',hk',h3,h4⟩
end
end R
open Go.Conc
namespace R
def blk:Loc→Option Nat
 | .cell a=>some a.block
 | .obj r=>some r
 | _=>none
theorem QuA {l:Loc} (h:l.isMemory=true):∃ b,blk l=some b:=by
 cases l <;> first | exact ⟨_,rfl⟩ | cases h
structure TrOk (L:Vw→Prop) (n:Nat) (t:Trace):Prop where
 wl:Wordless t
 nr:∀ said,¬ Race said t
 tb:∀ i a b,touchAt t i=some a→blk a.loc=some b→b < n
 tm:∀ u,L u→∀ i a b,touchAt t i=some a→blk a.loc=some b→u.M b→Knows t u.gh.id i
 tc:∀ u,L u→∀ k∈u.gh.conn,∀ i a b,touchAt t i=some a→blk a.loc=some b→b=k.q→Knows t u.gh.id i
 td:∀ u,L u→∀ d,u.gh.feed=some d→∀ i a b,touchAt t i=some a→blk a.loc=some b→b=d.c→Knows t u.gh.id i
 tx:∀ u,L u→∀ i a b,touchAt t i=some a→blk a.loc=some b→a.write=true→u.X b→Knows t u.gh.id i
 tf:∀ u,L u→∀ k∈u.gh.conn,∀ i a b,touchAt t i=some a→blk a.loc=some b→k.F b→Knows t u.gh.id i∨∃ k'∈u.gh.conn,k.kid≤k'.kid∧Knows t k'.kid i
 ta:∀ i op,t[i]? = some op→∃ u,L u∧u.gh.quits=false∧(Knows t u.gh.id i∨∃ k∈u.gh.conn,Knows t k.kid i)
section
variable {L:Vw→Prop} {n:Nat} {t:Trace} {u v:Vw}
theorem Qbm {t s:Trace} {i:Nat} {a:Touch} (h:touchAt (t ++ s) i=some a):touchAt t i=some a∨∃ op∈s,(t ++ s)[i]? = some op∧op.act.touch? = some a:=by
 obtain ⟨x,hx,hxa⟩:=touch_of h
 rcases getElem?_append_cases hx with ⟨hi,hx'⟩ | ⟨_,hxu⟩
 ·exact .inl (by rw [touchAt_of hx']; exact hxa)
 ·exact .inr ⟨x,hxu,hx,hxa⟩
theorem TrOk.own (o:OwnOk L n) (h:TrOk L n t) (hu:L u) (hqu:u.gh.quits=false) {n':Nat} (hn:n≤n') {u':Vw} (hM:∀ b,u'.M b↔u.M b∨(n≤b∧b < n')) (hX:u'.X=u.X) (hg:u'.gh=u.gh)
  {s:Trace} (hsg:∀ op∈s,op.g=u.gh.id) (hsw:Wordless s) (hst:∀ op∈s,∀ a,op.act.touch? = some a→∃ b,blk a.loc=some b∧if a.write=true then u.M b else u.O b):TrOk (upd L u u') n' (t ++ s):=by
 have hO:∀ op∈s,∀ a b,op.act.touch? = some a→blk a.loc=some b→u.O b∧(a.write=true→u.M b):=fun op hop a b ha hb=>by
  obtain ⟨b',h1,h2⟩:=hst op hop a ha
  rw [hb] at h1
  obtain rfl:=Option.some.inj h1
  by_cases hw:a.write=true
  ·rw [if_pos hw] at h2; exact ⟨.inl h2,fun _=>h2⟩
  ·rw [if_neg hw] at h2; exact ⟨h2,fun h3=>absurd h3 hw⟩
 have ownk:∀ i op,op∈s→(t ++ s)[i]? = some op→Knows (t ++ s) u.gh.id i:=fun i op hop hi=>by
  have:=knows_own hi
  rwa [hsg op hop] at this
 refine ⟨h.wl.append hsw,fun said=>?_,?_,?_,?_,?_,?_,?_,?_⟩
 ·refine noRace_append (h.nr said) hsg fun i a ha op hop b hb hc=>?_
  obtain ⟨c1,c2,c3,_⟩:=hc
  obtain ⟨bl,hbl⟩:=QuA c2
  obtain ⟨g1,g2⟩:=hO op hop b bl hb (by rw [←c1]; exact hbl)
  by_cases hw:b.write=true
  ·exact h.tm u hu i a bl ha hbl (g2 hw)
  ·rcases g1 with g1 | g1
   ·exact h.tm u hu i a bl ha hbl g1
   ·exact h.tx u hu i a bl ha hbl (c3.resolve_right hw) g1
 ·intro i a b ha hb
  rcases Qbm ha with h1 | ⟨op,hop,_,h1⟩
  ·exact Nat.lt_of_lt_of_le (h.tb i a b h1 hb) hn
  ·have:=o.bound u hu b
   obtain ⟨g1,_⟩:=hO op hop a b h1 hb
   exact Nat.lt_of_lt_of_le (this (g1.imp .inl id)) hn
 ·rintro x (rfl | ⟨hx,hxn⟩) i a b ha hb hMb
  ·rw [hg]
   rcases Qbm ha with h1 | ⟨op,hop,hi,h1⟩
   ·rcases (hM b).1 hMb with h2 | h2
    ·exact (h.tm u hu i a b h1 hb h2).app s
    ·have:=h.tb i a b h1 hb; omega
   ·exact ownk i op hop hi
  ·rcases Qbm ha with h1 | ⟨op,hop,hi,h1⟩
   ·exact (h.tm x hx i a b h1 hb hMb).app s
   ·exact absurd (hO op hop a b h1 hb).1 (o.apart hx hu hxn hMb)
 ·rintro x (rfl | ⟨hx,hxn⟩) k hk i a b ha hb hbk
  ·rw [hg] at hk ⊢
   rcases Qbm ha with h1 | ⟨op,hop,hi,h1⟩
   ·exact (h.tc u hu k hk i a b h1 hb hbk).app s
   ·exact ownk i op hop hi
  ·rcases Qbm ha with h1 | ⟨op,hop,hi,h1⟩
   ·exact (h.tc x hx k hk i a b h1 hb hbk).app s
   ·have g1:=(hO op hop a b h1 hb).1
    obtain ⟨g2,g3⟩:=o.chan hx hu hk
    subst hbk
    exact absurd g1 g3
 ·rintro x (rfl | ⟨hx,hxn⟩) d hd i a b ha hb hbk
  ·rw [hg] at hd ⊢
   rcases Qbm ha with h1 | ⟨op,hop,hi,h1⟩
   ·exact (h.td u hu d hd i a b h1 hb hbk).app s
   ·exact ownk i op hop hi
  ·rcases Qbm ha with h1 | ⟨op,hop,hi,h1⟩
   ·exact (h.td x hx d hd i a b h1 hb hbk).app s
   ·have g1:=(hO op hop a b h1 hb).1
    obtain ⟨v,hv,k,hk,_,h3⟩:=o.fd x hx d hd
    subst hbk
    rw [←h3] at g1
    exact absurd g1 (o.chan hv hu hk).1
 ·rintro x (rfl | ⟨hx,hxn⟩) i a b ha hb hw hXb
  ·rw [hg]
   rw [hX] at hXb
   rcases Qbm ha with h1 | ⟨op,hop,hi,h1⟩
   ·exact (h.tx u hu i a b h1 hb hw hXb).app s
   ·exact ownk i op hop hi
  ·rcases Qbm ha with h1 | ⟨op,hop,hi,h1⟩
   ·exact (h.tx x hx i a b h1 hb hw hXb).app s
   ·exact absurd (.inr hXb) (o.apart hu hx (fun e=>hxn e.symm) ((hO op hop a b h1 hb).2 hw))
 ·rintro x (rfl | ⟨hx,hxn⟩) k hk i a b ha hb hF
  ·rw [hg] at hk ⊢
   rcases Qbm ha with h1 | ⟨op,hop,hi,h1⟩
   ·exact (h.tf u hu k hk i a b h1 hb hF).imp (·.app s) fun ⟨k',h2,h3,h4⟩=>⟨k',h2,h3,h4.app s⟩
   ·exact .inl (ownk i op hop hi)
  ·rcases Qbm ha with h1 | ⟨op,hop,hi,h1⟩
   ·exact (h.tf x hx k hk i a b h1 hb hF).imp (·.app s) fun ⟨k',h2,h3,h4⟩=>⟨k',h2,h3,h4.app s⟩
   ·have ht:Terr x b:=.inr ⟨k,hk,.inl hF⟩
    rcases (hO op hop a b h1 hb).1 with g1 | g1
    ·exact absurd (.inl g1) (o.disj x u hx hu hxn b ht)
    ·obtain ⟨k',hk',e⟩:=o.tx x u hx hu hxn b ht g1
     refine .inr ⟨k',hk',?_,by rw [e]; exact ownk i op hop hi⟩
     rcases Nat.lt_or_ge k'.kid k.kid with hlt | hge
     ·exact absurd hF ((o.stack x hx).later (o.srt x hx) k hk k' hk' hlt b (o.kx x u hx hu k' hk' e b g1))
     ·exact hge
 ·intro i op hi
  rcases getElem?_append_cases hi with ⟨hlt,hi'⟩ | ⟨_,hop⟩
  ·obtain ⟨x,hx,hxq,hk⟩:=h.ta i op hi'
   have hk':Knows (t ++ s) x.gh.id i∨∃ k∈x.gh.conn,Knows (t ++ s) k.kid i:=hk.imp (·.app s) fun ⟨k,h2,h3⟩=>⟨k,h2,h3.app s⟩
   by_cases e:x.gh.id=u.gh.id
   ·obtain rfl:=o.uniq x u hx hu e
    exact ⟨u',.inl rfl,by rw [hg]; exact hxq,by rw [hg]; exact hk'⟩
   ·exact ⟨x,.inr ⟨hx,e⟩,hxq,hk'⟩
  ·exact ⟨u',.inl rfl,by rw [hg]; exact hqu,.inl (by rw [hg]; exact ownk i op hop hi)⟩
theorem TrOk.mute (h:TrOk L n t) (hu:L u) (hqu:u.gh.quits=false) {y:MemOp} (hg:y.g=u.gh.id) (hy:y.act.touch? = none) (hm:∀ m,y.act≠.mark m):TrOk L n (t ++ #[y]):=by
 have old:∀ {i a},touchAt (t ++ #[y]) i=some a→touchAt t i=some a:=fun {i a} ha=>by
  rcases Qbm ha with h1 | ⟨op,hop,_,h1⟩
  ·exact h1
  ·have:op=y:=by simpa using hop
   rw [this,hy] at h1; cases h1
 refine ⟨h.wl.append fun op hop m e=>?_,fun said=>?_,?_,?_,?_,?_,?_,?_,?_⟩
 ·have:op=y:=by simpa using hop
  exact absurd (this▸e) (hm m)
 ·have hs:∀ op∈#[y],op.g=u.gh.id:=fun op hop=>by
   have:op=y:=by simpa using hop
   rw [this,hg]
  refine noRace_append (g:=u.gh.id) (h.nr said) hs fun i a ha op hop b hb hc=>?_
  have:op=y:=by simpa using hop
  rw [this,hy] at hb; cases hb
 ·exact fun i a b ha hb=>h.tb i a b (old ha) hb
 ·exact fun x hx i a b ha hb hM=>(h.tm x hx i a b (old ha) hb hM).app _
 ·exact fun x hx k hk i a b ha hb hM=>(h.tc x hx k hk i a b (old ha) hb hM).app _
 ·exact fun x hx d hd i a b ha hb hM=>(h.td x hx d hd i a b (old ha) hb hM).app _
 ·exact fun x hx i a b ha hb hw hM=>(h.tx x hx i a b (old ha) hb hw hM).app _
 ·exact fun x hx k hk i a b ha hb hF=>(h.tf x hx k hk i a b (old ha) hb hF).imp (·.app _) fun ⟨k',h2,h3,h4⟩=>⟨k',h2,h3,h4.app _⟩
 ·intro i op hi
  rcases getElem?_append_cases hi with ⟨hlt,hi'⟩ | ⟨_,hop⟩
  ·obtain ⟨x,hx,hxq,hk⟩:=h.ta i op hi'
   exact ⟨x,hx,hxq,hk.imp (·.app _) fun ⟨k,h2,h3⟩=>⟨k,h2,h3.app _⟩⟩
  ·have:op=y:=by simpa using hop
   have k:=knows_own hi
   rw [this,hg] at k
   exact ⟨u,hu,hqu,.inl k⟩
theorem TrOk.look (o:OwnOk L n) (h:TrOk L n t) (hu:L u) (hqu:u.gh.quits=false) {d:Feed} (hd:u.gh.feed=some d) {y:MemOp} (hg:y.g=u.gh.id) (hy:y.act=.access ⟨.obj d.c,false,true⟩):TrOk L n (t ++ #[y]):=by
 obtain ⟨v,hv,k,hk,hkid,hkc⟩:=o.fd u hu d hd
 have new:∀ {i a},touchAt (t ++ #[y]) i=some a→touchAt t i=some a∨(a.loc=.obj d.c∧Knows (t ++ #[y]) u.gh.id i∧a.write=false):=fun {i a} ha=>by
  rcases Qbm ha with h1 | ⟨op,hop,hi,h1⟩
  ·exact .inl h1
  ·have:op=y:=by simpa using hop
   subst this
   have hk:=knows_own hi
   rw [hg] at hk
   rw [hy] at h1
   have h2:a=⟨.obj d.c,false,.atomic⟩:=by
    have:some (⟨.obj d.c,false,.atomic⟩:Touch)=some a:=h1
    exact (Option.some.inj this).symm
   subst h2
   exact .inr ⟨rfl,hk,rfl⟩
 have bl:∀ {a:Touch} {b},a.loc=.obj d.c→blk a.loc=some b→b=k.c:=fun {a b} h1 h2=>by
  rw [h1] at h2
  have:some d.c=some b:=h2
  rw [hkc]; exact (Option.some.inj this).symm
 refine ⟨h.wl.append fun op hop m e=>?_,fun said=>?_,?_,?_,?_,?_,?_,?_,?_⟩
 ·have:op=y:=by simpa using hop
  rw [this,hy] at e; cases e
 ·have hs:∀ op∈#[y],op.g=u.gh.id:=fun op hop=>by
   have:op=y:=by simpa using hop
   rw [this,hg]
  refine noRace_append (g:=u.gh.id) (h.nr said) hs fun i a ha op hop b hb hc=>?_
  have:op=y:=by simpa using hop
  rw [this,hy] at hb
  have h2:b=⟨.obj d.c,false,.atomic⟩:=by
   have:some (⟨.obj d.c,false,.atomic⟩:Touch)=some b:=hb
   exact (Option.some.inj this).symm
  subst h2
  exact h.td u hu d hd i a d.c ha (by rw [hc.1]; rfl) rfl
 ·intro i a b ha hb
  rcases new ha with h1 | ⟨h1,_⟩
  ·exact h.tb i a b h1 hb
  ·rw [bl h1 hb]; exact o.bound v hv _ (.inl (.inr ⟨k,hk,.inr (.inl rfl)⟩))
 ·intro x hx i a b ha hb hM
  rcases new ha with h1 | ⟨h1,_⟩
  ·exact (h.tm x hx i a b h1 hb hM).app _
  ·rw [bl h1 hb] at hM; exact absurd (.inl hM) (o.chan hv hx hk).1
 ·intro x hx k' hk' i a b ha hb hbk
  rcases new ha with h1 | ⟨h1,_⟩
  ·exact (h.tc x hx k' hk' i a b h1 hb hbk).app _
  ·exfalso
   have e:=bl h1 hb
   rw [hbk] at e
   by_cases hkk:k.kid=k'.kid
   ·obtain rfl:=o.ku v x hv hx k hk k' hk' hkk
    obtain rfl:=Qjk (o.srt v hv) hk hk' hkk
    exact ((o.stack v hv).chan k hk).2.2 e.symm
   ·exact (o.chanD hv hx hk hk' hkk).2.1 e.symm
 ·intro x hx d' hd' i a b ha hb hbk
  rcases new ha with h1 | ⟨h1,h2,_⟩
  ·exact (h.td x hx d' hd' i a b h1 hb hbk).app _
  ·obtain ⟨v',hv',k',hk',hkid',hkc'⟩:=o.fd x hx d' hd'
   have e:=bl h1 hb
   rw [hbk,←hkc'] at e
   have hkk:k'.kid=k.kid:=by
    apply Classical.byContradiction
    intro hne
    exact (o.chanD hv' hv hk' hk hne).1 e
   have:x=u:=o.uniq x u hx hu (by rw [←hkid',hkk,hkid])
   rw [this]; exact h2
 ·intro x hx i a b ha hb hw hX
  rcases new ha with h1 | ⟨_,_,h1⟩
  ·exact (h.tx x hx i a b h1 hb hw hX).app _
  ·rw [h1] at hw; cases hw
 ·intro x hx k' hk' i a b ha hb hF
  rcases new ha with h1 | ⟨h1,_⟩
  ·exact (h.tf x hx k' hk' i a b h1 hb hF).imp (·.app _) fun ⟨k2,h2,h3,h4⟩=>⟨k2,h2,h3,h4.app _⟩
  ·exfalso
   have e:=bl h1 hb
   subst e
   by_cases hxv:x.gh.id=v.gh.id
   ·obtain rfl:=o.uniq x v hx hv hxv
    exact (o.stack x hx).notF k hk k' hk' hF
   ·exact o.disj x v hx hv hxv _ (.inr ⟨k',hk',.inl hF⟩) (.inr ⟨k,hk,.inr (.inl rfl)⟩)
 ·intro i op hi
  rcases getElem?_append_cases hi with ⟨hlt,hi'⟩ | ⟨_,hop⟩
  ·obtain ⟨x,hx,hxq,hk⟩:=h.ta i op hi'
   exact ⟨x,hx,hxq,hk.imp (·.app _) fun ⟨k,h2,h3⟩=>⟨k,h2,h3.app _⟩⟩
  ·have:op=y:=by simpa using hop
   have k:=knows_own hi
   rw [this,hg] at k
   exact ⟨u,hu,hqu,.inl k⟩
theorem QnX {t:Trace} {g k:Nat} {x y:MemOp} (hw:Wordless (t ++ #[x] ++ #[y])) (hx:x.g=g∧x.act=.go k) (hy:y.g=k∧y.act=.start) {i:Nat} (h:Knows t g i):Knows (t ++ #[x] ++ #[y]) k i:=by
 have e1:(t ++ #[x] ++ #[y])[t.size]? = some x:=by
  rw [getElem?_append_old (by simp),Array.getElem?_append_right (Nat.le_refl _)]; simp
 have e2:(t ++ #[x] ++ #[y])[t.size+1]? = some y:=by
  rw [Array.getElem?_append_right (by simp)]; simp
 refine ⟨t.size+1,y,e2,hy.1,.inr ?_⟩
 have h1:HappensBefore (t ++ #[x] ++ #[y]) i t.size:=by
  have:=(h.hb_new (u:=#[x] ++ #[y]) (j:=t.size) (y:=x) (Nat.le_refl _) (by rw [←Array.append_assoc]; exact e1) hx.1)
  rwa [←Array.append_assoc] at this
 refine h1.trans (.single (.inr ⟨.spawn (child:=k) (by rw [act?_of e1,hx.2]) (by rw [act?_of e2,hy.2]) (by show ((t ++ #[x] ++ #[y])[t.size+1]?).map (·.g)=some k; rw [e2]; simp [hy.1]),hw.heard e1,hw.heard e2⟩))
theorem TrOk.fork (o:OwnOk L n) (h:TrOk L n t) (hu:L u) (hqu:u.gh.quits=false) {c q i:Nat} {F:Nat→Prop} (hc:u.M c) (hq:u.M q) (hF:∀ b,F b→u.M b)
  {u1 u2:Vw} (h1:u1=⟨fun b=>u.M b∧¬ F b∧b≠c∧b≠q,fun b=>u.X b∨F b,{ u.gh with conn:=⟨c,q,[],i,u.X,F⟩ :: u.gh.conn }⟩)
  (h2:u2=⟨fun _=>False,fun b=>(u.X b∨F b)∧b≠star,⟨i,[],some ⟨c,q,[]⟩,false⟩⟩)
  {x y:MemOp} (hx:x.g=u.gh.id∧x.act=.go i) (hy:y.g=i∧y.act=.start):TrOk (fun v=>v=u2∨upd L u u1 v) n (t ++ #[x] ++ #[y]):=by
 have hx0:x.act.touch? = none:=by rw [hx.2]; rfl
 have hy0:y.act.touch? = none:=by rw [hy.2]; rfl
 have hw:Wordless (t ++ #[x] ++ #[y]):=(h.wl.append fun op hop m e=>by
  have:op=x:=by simpa using hop
  rw [this,hx.2] at e; cases e).append fun op hop m e=>by
   have:op=y:=by simpa using hop
   rw [this,hy.2] at e; cases e
 have old:∀ {i a},touchAt (t ++ #[x] ++ #[y]) i=some a→touchAt t i=some a:=fun {i a} ha=>by
  rcases Qbm ha with h3 | ⟨op,hop,_,h3⟩
  ·rcases Qbm h3 with h4 | ⟨op,hop,_,h4⟩
   ·exact h4
   ·have:op=x:=by simpa using hop
    rw [this,hx0] at h4; cases h4
  ·have:op=y:=by simpa using hop
   rw [this,hy0] at h3; cases h3
 have app:∀ {g i},Knows t g i→Knows (t ++ #[x] ++ #[y]) g i:=fun hk=>(hk.app _).app _
 have id1:u1.gh.id=u.gh.id:=by rw [h1]
 have id2:u2.gh.id=i:=by rw [h2]
 have cn1:u1.gh.conn=⟨c,q,[],i,u.X,F⟩ :: u.gh.conn:=by rw [h1]
 have cn2:u2.gh.conn=[]:=by rw [h2]
 refine ⟨hw,fun said=>?_,fun i a b ha hb=>h.tb i a b (old ha) hb,?_,?_,?_,?_,?_,?_⟩
 ·have s1:∀ op∈#[x],op.g=u.gh.id:=fun op hop=>by
   have:op=x:=by simpa using hop
   rw [this,hx.1]
  have s2:∀ op∈#[y],op.g=i:=fun op hop=>by
   have:op=y:=by simpa using hop
   rw [this,hy.1]
  refine noRace_append (g:=i) (noRace_append (g:=u.gh.id) (h.nr said) s1 fun i a ha op hop b hb hc=>?_) s2 fun i a ha op hop b hb hc=>?_
  ·have:op=x:=by simpa using hop
   rw [this,hx0] at hb; cases hb
  ·have:op=y:=by simpa using hop
   rw [this,hy0] at hb; cases hb
 ·rintro z (rfl | rfl | ⟨hz,hzn⟩) j a b ha hb hM
  ·rw [h2] at hM; exact hM.elim
  ·rw [id1]; rw [h1] at hM; exact app (h.tm u hu j a b (old ha) hb hM.1)
  ·exact app (h.tm z hz j a b (old ha) hb hM)
 ·rintro z (rfl | rfl | ⟨hz,hzn⟩) k hk j a b ha hb hbk
  ·rw [cn2] at hk; simp at hk
  ·rw [id1]; rw [cn1] at hk
   rcases List.mem_cons.1 hk with rfl | hk
   ·subst hbk
    exact app (h.tm u hu j a _ (old ha) hb hq)
   ·exact app (h.tc u hu k hk j a b (old ha) hb hbk)
  ·exact app (h.tc z hz k hk j a b (old ha) hb hbk)
 ·rintro z (rfl | rfl | ⟨hz,hzn⟩) d hd j a b ha hb hbk
  ·rw [id2]; rw [h2] at hd
   obtain rfl:=Option.some.inj hd
   subst hbk
   exact QnX hw hx hy (h.tm u hu j a _ (old ha) hb hc)
  ·rw [id1]
   have hd':u.gh.feed=some d:=by rw [h1] at hd; exact hd
   exact app (h.td u hu d hd' j a b (old ha) hb hbk)
  ·exact app (h.td z hz d hd j a b (old ha) hb hbk)
 ·rintro z (rfl | rfl | ⟨hz,hzn⟩) j a b ha hb hwr hX
  ·rw [id2]; rw [h2] at hX
   refine QnX hw hx hy ?_
   rcases hX.1 with hX | hX
   ·exact h.tx u hu j a b (old ha) hb hwr hX
   ·exact h.tm u hu j a b (old ha) hb (hF b hX)
  ·rw [id1]; rw [h1] at hX
   rcases hX with hX | hX
   ·exact app (h.tx u hu j a b (old ha) hb hwr hX)
   ·exact app (h.tm u hu j a b (old ha) hb (hF b hX))
  ·exact app (h.tx z hz j a b (old ha) hb hwr hX)
 ·rintro z (rfl | rfl | ⟨hz,hzn⟩) k hk j a b ha hb hFb
  ·rw [cn2] at hk; simp at hk
  ·rw [id1]; rw [cn1] at hk ⊢
   rcases List.mem_cons.1 hk with rfl | hk
   ·exact .inl (app (h.tm u hu j a b (old ha) hb (hF b hFb)))
   ·exact (h.tf u hu k hk j a b (old ha) hb hFb).imp app fun ⟨k',h3,h4,h5⟩=>⟨k',List.mem_cons_of_mem _ h3,h4,app h5⟩
  ·exact (h.tf z hz k hk j a b (old ha) hb hFb).imp app fun ⟨k',h3,h4,h5⟩=>⟨k',h3,h4,app h5⟩
 ·intro j op hj
  rcases getElem?_append_cases hj with ⟨hlt,hj'⟩ | ⟨_,hop⟩
  ·rcases getElem?_append_cases hj' with ⟨hlt,hj''⟩ | ⟨_,hop⟩
   ·obtain ⟨z,hz,hzq,hk⟩:=h.ta j op hj''
    by_cases e:z.gh.id=u.gh.id
    ·obtain rfl:=o.uniq z u hz hu e
     refine ⟨u1,.inr (.inl rfl),by rw [h1]; exact hzq,?_⟩
     rw [id1,cn1]
     exact hk.imp app fun ⟨k,h3,h4⟩=>⟨k,List.mem_cons_of_mem _ h3,app h4⟩
    ·exact ⟨z,.inr (.inr ⟨hz,e⟩),hzq,hk.imp app fun ⟨k,h3,h4⟩=>⟨k,h3,app h4⟩⟩
   ·have e:op=x:=by simpa using hop
    refine ⟨u1,.inr (.inl rfl),by rw [h1]; exact hqu,.inl ?_⟩
    have:=knows_own hj
    rwa [e,hx.1,←id1] at this
  ·have e:op=y:=by simpa using hop
   refine ⟨u2,.inl rfl,by rw [h2],.inl ?_⟩
   have:=knows_own hj
   rwa [e,hy.1,←id2] at this
def Shut (t:Trace) (c j:Nat):Prop:=∃ (pc:Nat) (op:MemOp),t[pc]? = some op∧op.g=j∧op.act=.close c∧∀ (i:Nat) (op':MemOp),t[i]? = some op'→op'.g=j→i≤pc
theorem Shut.knows {t:Trace} {c j g i:Nat} {y:MemOp} (h:Shut t c j) (hw:Wordless (t ++ #[y])) (hy:y.g=g∧y.act=.recvClosed c) (hk:Knows t j i):Knows (t ++ #[y]) g i:=by
 obtain ⟨pc,op,h1,h2,h3,h4⟩:=h
 obtain ⟨qi,z,k1,k2,k3⟩:=hk
 have e1:(t ++ #[y])[pc]? = some op:=by rw [getElem?_append_old (lt_size_of_getElem? h1)]; exact h1
 have e2:(t ++ #[y])[t.size]? = some y:=by rw [Array.getElem?_append_right (Nat.le_refl _)]; simp
 have b1:Before t i pc:=by
  refine k3.trans ?_
  rcases Nat.lt_or_ge qi pc with hlt | hge
  ·exact .inr (hb_po hlt k1 h1 (k2.trans h2.symm))
  ·exact .inl (Nat.le_antisymm (h4 qi z k1 k2) hge)
 refine ⟨t.size,y,e2,hy.1,.inr ((b1.app _).hb (.single (.inr ⟨.closed (c:=c) (by rw [act?_of e1,h3]) (by rw [act?_of e2,hy.2]),hw.heard e1,hw.heard e2⟩)))⟩
theorem Shut.app {t s:Trace} {c j:Nat} (h:Shut t c j) (hs:∀ op∈s,op.g≠j):Shut (t ++ s) c j:=by
 obtain ⟨pc,op,h1,h2,h3,h4⟩:=h
 refine ⟨pc,op,by rw [getElem?_append_old (lt_size_of_getElem? h1)]; exact h1,h2,h3,fun i op' hi hg=>?_⟩
 rcases getElem?_append_cases hi with ⟨_,hi'⟩ | ⟨_,hop⟩
 ·exact h4 i op' hi' hg
 ·exact absurd hg (hs op' hop)
theorem TrOk.pop (o:OwnOk L n) (h:TrOk L n t) (hu:L u) (hqu:u.gh.quits=false) {k:Conn} {rest:List Conn} (hk:u.gh.conn=k :: rest) (hs:Shut t k.c k.kid)
  {u1:Vw} (h1:u1=⟨fun b=>u.M b∨k.F b∨b=k.q,k.X0,{ u.gh with conn:=rest }⟩) {y:MemOp} (hy:y.g=u.gh.id∧y.act=.recvClosed k.c):TrOk (upd L u u1) n (t ++ #[y]):=by
 have h':=h.mute hu hqu hy.1 (by rw [hy.2]; rfl) (by rw [hy.2]; simp)
 have kn:∀ {i},Knows t k.kid i→Knows (t ++ #[y]) u.gh.id i:=fun hki=>hs.knows h'.wl hy hki
 have id1:u1.gh.id=u.gh.id:=by rw [h1]
 have cn1:u1.gh.conn=rest:=by rw [h1]
 have up1:∀ k'∈u1.gh.conn,k'∈u.gh.conn:=fun k' hk'=>by rw [cn1] at hk'; rw [hk]; simp [hk']
 have hst:=o.stack u hu
 have hsr:=o.srt u hu
 rw [hk] at hst hsr
 have hkm:k∈u.gh.conn:=by rw [hk]; simp
 have old:∀ {i a},touchAt (t ++ #[y]) i=some a→touchAt t i=some a:=fun {i a} ha=>by
  rcases Qbm ha with h3 | ⟨op,hop,_,h3⟩
  ·exact h3
  ·have:op=y:=by simpa using hop
   rw [this,hy.2] at h3; cases h3
 refine ⟨h'.wl,h'.nr,h'.tb,?_,?_,?_,?_,?_,?_⟩
 ·rintro z (rfl | ⟨hz,hzn⟩) j a b ha hb hM
  ·rw [id1]; rw [h1] at hM
   rcases hM with hM | hM | hM
   ·exact h'.tm u hu j a b ha hb hM
   ·rcases h.tf u hu k hkm j a b (old ha) hb hM with h3 | ⟨k',h3,h4,h5⟩
    ·exact h3.app _
    ·rw [hk] at h3
     rcases List.mem_cons.1 h3 with rfl | h3
     ·exact kn h5
     ·have:=(List.pairwise_cons.1 hsr).1 k' h3; omega
   ·exact h'.tc u hu k hkm j a b ha hb hM
  ·exact h'.tm z hz j a b ha hb hM
 ·rintro z (rfl | ⟨hz,hzn⟩) k' hk' j a b ha hb hbk
  ·rw [id1]; exact h'.tc u hu k' (up1 k' hk') j a b ha hb hbk
  ·exact h'.tc z hz k' hk' j a b ha hb hbk
 ·rintro z (rfl | ⟨hz,hzn⟩) d hd j a b ha hb hbk
  ·have hd':u.gh.feed=some d:=by rw [h1] at hd; exact hd
   rw [id1]; exact h'.td u hu d hd' j a b ha hb hbk
  ·exact h'.td z hz d hd j a b ha hb hbk
 ·rintro z (rfl | ⟨hz,hzn⟩) j a b ha hb hw hX
  ·rw [id1]; rw [h1] at hX
   exact h'.tx u hu j a b ha hb hw ((hst.2.1 b).2 (.inl hX))
  ·exact h'.tx z hz j a b ha hb hw hX
 ·rintro z (rfl | ⟨hz,hzn⟩) k' hk' j a b ha hb hF
  ·rw [id1]
   rcases h.tf u hu k' (up1 k' hk') j a b (old ha) hb hF with h3 | ⟨k2,h3,h4,h5⟩
   ·exact .inl (h3.app _)
   ·rw [hk] at h3
    rcases List.mem_cons.1 h3 with rfl | h3
    ·exact .inl (kn h5)
    ·exact .inr ⟨k2,by rw [cn1]; exact h3,h4,h5.app _⟩
  ·exact h'.tf z hz k' hk' j a b ha hb hF
 ·intro j op hj
  have main:∀ z,L z→z.gh.quits=false→(Knows (t ++ #[y]) z.gh.id j∨∃ k'∈z.gh.conn,k'≠k∧Knows (t ++ #[y]) k'.kid j)→∃ z,upd L u u1 z∧z.gh.quits=false∧(Knows (t ++ #[y]) z.gh.id j∨∃ k∈z.gh.conn,Knows (t ++ #[y]) k.kid j):=fun z hz hzq hkz=>by
   by_cases e:z.gh.id=u.gh.id
   ·obtain rfl:=o.uniq z u hz hu e
    refine ⟨u1,.inl rfl,by rw [h1]; exact hzq,?_⟩
    rw [id1,cn1]
    refine hkz.imp id fun ⟨k',h3,h4,h5⟩=>⟨k',?_,h5⟩
    rw [hk] at h3
    exact (List.mem_cons.1 h3).resolve_left h4
   ·exact ⟨z,.inr ⟨hz,e⟩,hzq,hkz.imp id fun ⟨k',h3,_,h5⟩=>⟨k',h3,h5⟩⟩
  rcases getElem?_append_cases hj with ⟨hlt,hj'⟩ | ⟨_,hop⟩
  ·obtain ⟨z,hz,hzq,hkz⟩:=h.ta j op hj'
   rcases hkz with h3 | ⟨k',h3,h4⟩
   ·exact main z hz hzq (.inl (h3.app _))
   ·by_cases e:k'=k
    ·subst e
     have:z=u:=by
      refine o.ku z u hz hu k' h3 k' hkm rfl
     subst this
     exact main z hz hzq (.inl (kn h4))
    ·exact main z hz hzq (.inr ⟨k',h3,e,h4.app _⟩)
  ·have e:op=y:=by simpa using hop
   refine main u hu hqu (.inl ?_)
   have:=knows_own hj
   rwa [e,hy.1] at this
theorem TrOk.close (o:OwnOk L n) (h:TrOk L n t) (hu:L u) (hc:u.gh.conn=[]) (hp:∃ v,L v∧v.gh.quits=false∧v.gh.id≠u.gh.id∧∃ k∈v.gh.conn,k.kid=u.gh.id)
  {u1:Vw} (h1:u1=⟨fun _=>False,fun _=>False,{ u.gh with feed:=none,quits:=true }⟩):TrOk (upd L u u1) n t:=by
 have cn1:u1.gh.conn=[]:=by rw [h1]; exact hc
 refine ⟨h.wl,h.nr,h.tb,?_,?_,?_,?_,?_,?_⟩
 ·rintro z (rfl | ⟨hz,hzn⟩) j a b ha hb hM
  ·rw [h1] at hM; exact hM.elim
  ·exact h.tm z hz j a b ha hb hM
 ·rintro z (rfl | ⟨hz,hzn⟩) k' hk' j a b ha hb hbk
  ·rw [cn1] at hk'; simp at hk'
  ·exact h.tc z hz k' hk' j a b ha hb hbk
 ·rintro z (rfl | ⟨hz,hzn⟩) d hd j a b ha hb hbk
  ·rw [h1] at hd; cases hd
  ·exact h.td z hz d hd j a b ha hb hbk
 ·rintro z (rfl | ⟨hz,hzn⟩) j a b ha hb hw hX
  ·rw [h1] at hX; exact hX.elim
  ·exact h.tx z hz j a b ha hb hw hX
 ·rintro z (rfl | ⟨hz,hzn⟩) k' hk' j a b ha hb hF
  ·rw [cn1] at hk'; simp at hk'
  ·exact h.tf z hz k' hk' j a b ha hb hF
 ·intro j op hj
  obtain ⟨z,hz,hzq,hk⟩:=h.ta j op hj
  by_cases e:z.gh.id=u.gh.id
  ·obtain rfl:=o.uniq z u hz hu e
   obtain ⟨v,hv,hvq,hvn,k,hkv,e2⟩:=hp
   rcases hk with hk | ⟨k',hk',_⟩
   ·exact ⟨v,.inr ⟨hv,hvn⟩,hvq,.inr ⟨k,hkv,by rw [e2]; exact hk⟩⟩
   ·rw [hc] at hk'; simp at hk'
  ·exact ⟨z,.inr ⟨hz,e⟩,hzq,hk⟩
end
end R
namespace R
def WM.now (v:WM) (w:World):WM:=⟨w,v.M,v.X,v.gh⟩
def Same (g h:Goroutine):Prop:=g.frame=h.frame∧g.callers=h.callers∧g.dying=h.dying
abbrev eid (e:Elem):Nat:=e.2.gh.id
inductive Parked (P:Program) (e:Elem) (w:World):Goroutine→Prop
 | recv (k:Conn) (rest:List Conn) (z:Value) (sh:CommShape) (hk:e.2.gh.conn=k :: rest) (ho:openCh w k.c)
   (h:∀ w1,Rely e.2 w1→stepG P w1.main e.1 w1.w=.comm (core e.1) #[rcase k.c z] true sh w1.w #[]):Parked P e w (parked (core e.1) #[rcase k.c z] sh)
 | send (f:Feed) (v:Value) (vs:List Value) (z z':Value) (sh:CommShape) (hf:e.2.gh.feed=some f) (hv:f.vs=v :: vs)
   (h:∀ w1,Rely e.2 w1→stepG P w1.main e.1 w1.w=.comm (core e.1) #[scase f.c v z,rcase f.q z'] true sh w1.w #[]):Parked P e w (parked (core e.1) #[scase f.c v z,rcase f.q z'] sh)
def Sit (P:Program) (e:Elem) (w:World) (g:Goroutine):Prop:=
 (Same g e.1∧g.status=e.1.status∧(g.status=.running∨g.status=.finished))∨(e.1.status=.running∧Parked P e w g)
structure Dyn (P:Program) (l:List Elem) (gs:Array Goroutine) (w:World) (t:Trace):Prop where
 tot:∀ i,i < gs.size→∃ e∈l,eid e=i
 lt:∀ e∈l,eid e < gs.size
 klt:∀ e∈l,∀ k∈e.2.gh.conn,k.kid < gs.size
 nd:(l.map eid).Nodup
 sit:∀ e∈l,∃ g,gs[eid e]? = some g∧Sit P e w g
 rely:∀ e∈l,Rely e.2 (e.2.now w)
 quitn:∀ e∈l,e.2.gh.quits=true→∃ n,QuitsIn P n e.1
 sess:∀ e∈l,∀ k∈e.2.gh.conn,openCh w k.q∧∃ f∈l,eid f=k.kid ∧
  ((f.2.gh.quits=false∧f.2.gh.feed=some ⟨k.c,k.q,k.vs⟩∧openCh w k.c)∨(f.2.gh.quits=true∧k.vs=[]∧shutCh w k.c∧Shut t k.c k.kid))
 feed:∀ f∈l,∀ d,f.2.gh.feed=some d→∃ e∈l,∃ k∈e.2.gh.conn,k.kid=eid f
 both:∀ e∈l,∀ f∈l,∀ k rest,e.2.gh.conn=k :: rest→k.kid=eid f→∀ g g',gs[eid e]? = some g→gs[eid f]? = some g'→g.status=.blocked→g'.status=.blocked→False
 main:∃ e∈l,eid e=0
def LV (l:List Elem):Vw→Prop:=fun u=>∃ e∈l,vw e.2=u
structure Inv (P:Program) (l:List Elem) (gs:Array Goroutine) (w:World) (t:Trace):Prop where
 own:OwnOk (LV l) w.heap.size
 tr:TrOk (LV l) w.heap.size t
 dyn:Dyn P l gs w t
section
variable {P:Program} {l l1 l2 es:List Elem} {e f:Elem} {gs:Array Goroutine} {w w':World} {t:Trace}
theorem Qfk (hl:l=l1 ++ e :: l2):e∈l:=by rw [hl]; simp
theorem QaA (hnd:(l.map eid).Nodup) (he:e∈l) (hf:f∈l) (h:eid e=eid f):e=f:=by
 induction l with
 | nil=>simp at he
 | cons a r ih=>
  simp only [List.map_cons,List.nodup_cons,List.mem_map,not_exists,not_and] at hnd
  rcases List.mem_cons.1 he with rfl | he1 <;> rcases List.mem_cons.1 hf with rfl | hf1
  ·rfl
  ·exact absurd h.symm (hnd.1 f hf1)
  ·exact absurd h (hnd.1 e he1)
  ·exact ih hnd.2 he1 hf1
theorem QbB (hnd:(l.map eid).Nodup) (hl:l=l1 ++ e :: l2):∀ f,f∈l1 ++ es ++ l2↔f∈es∨(f∈l∧eid f≠eid e):=by
 intro f
 subst hl
 have h1:∀ x∈l1,eid x≠eid e:=fun x hx h=>by
  rw [List.map_append,List.nodup_append] at hnd
  exact hnd.2.2 _ (List.mem_map.2 ⟨x,hx,rfl⟩) _ (by simp) h
 have h2:∀ x∈l2,eid x≠eid e:=fun x hx h=>by
  rw [List.map_append,List.nodup_append] at hnd
  have:=hnd.2.1
  simp only [List.map_cons,List.nodup_cons,List.mem_map,not_exists,not_and] at this
  exact this.1 x hx h
 simp only [List.mem_append,List.mem_cons]
 constructor
 ·rintro ((h | h) | h)
  ·exact .inr ⟨.inl h,h1 f h⟩
  ·exact .inl h
  ·exact .inr ⟨.inr (.inr h),h2 f h⟩
 ·rintro (h | ⟨h | rfl | h,hn⟩)
  ·exact .inl (.inr h)
  ·exact .inl (.inl h)
  ·exact absurd rfl hn
  ·exact .inr h
theorem QeC (hnd:(l.map eid).Nodup) (hl:l=l1 ++ e :: l2) (hes:(es.map eid).Nodup) (hne:∀ x∈es,eid x=eid e∨∀ y∈l,eid y≠eid x):((l1 ++ es ++ l2).map eid).Nodup:=by
 subst hl
 have hy1:∀ y∈l1,y∈l1 ++ e :: l2:=fun y hy=>by simp [hy]
 have hy2:∀ y∈l2,y∈l1 ++ e :: l2:=fun y hy=>by simp [hy]
 rw [List.map_append,List.nodup_append] at hnd
 obtain ⟨n1,n2,n3⟩:=hnd
 simp only [List.map_cons,List.nodup_cons] at n2
 rw [List.map_append,List.map_append,List.nodup_append,List.nodup_append]
 refine ⟨⟨n1,hes,?_⟩,n2.2,?_⟩
 ·intro a ha b hb hab
  subst hab
  obtain ⟨x,hx,rfl⟩:=List.mem_map.1 hb
  obtain ⟨y,hy,e1⟩:=List.mem_map.1 ha
  rcases hne x hx with h | h
  ·exact n3 _ ha (eid e) (by simp) h
  ·exact h y (hy1 y hy) e1
 ·intro a ha b hb hab
  subst hab
  rcases List.mem_append.1 ha with ha | ha
  ·exact n3 a ha a (by simp only [List.map_cons,List.mem_cons]; exact .inr hb) rfl
  ·obtain ⟨x,hx,rfl⟩:=List.mem_map.1 ha
   obtain ⟨y,hy,e1⟩:=List.mem_map.1 hb
   rcases hne x hx with h | h
   ·exact n2.1 (h▸hb)
   ·exact h y (hy2 y hy) e1
theorem Qhs (hnd:(l.map eid).Nodup) (hl:l=l1 ++ e :: l2) {e':Elem}:LV (l1 ++ [e'] ++ l2)=upd (LV l) (vw e.2) (vw e'.2):=by
 funext u
 apply propext
 constructor
 ·rintro ⟨f,hf,rfl⟩
  rcases (QbB hnd hl f).1 hf with h | ⟨h,hn⟩
  ·obtain rfl:=List.mem_singleton.1 h; exact .inl rfl
  ·exact .inr ⟨⟨f,h,rfl⟩,hn⟩
 ·rintro (rfl | ⟨⟨f,hf,rfl⟩,hn⟩)
  ·exact ⟨e',(QbB hnd hl e').2 (.inl (by simp)),rfl⟩
  ·exact ⟨f,(QbB hnd hl f).2 (.inr ⟨hf,hn⟩),rfl⟩
theorem Qtq (hnd:(l.map eid).Nodup) (hl:l=l1 ++ e :: l2) {e1 e2:Elem}:LV (l1 ++ [e1,e2] ++ l2)=fun v=>v=vw e2.2∨upd (LV l) (vw e.2) (vw e1.2) v:=by
 funext u
 apply propext
 constructor
 ·rintro ⟨f,hf,rfl⟩
  rcases (QbB hnd hl f).1 hf with h | ⟨h,hn⟩
  ·simp only [List.mem_cons,List.not_mem_nil,or_false] at h
   rcases h with rfl | rfl
   ·exact .inr (.inl rfl)
   ·exact .inl rfl
  ·exact .inr (.inr ⟨⟨f,h,rfl⟩,hn⟩)
 ·rintro (rfl | rfl | ⟨⟨f,hf,rfl⟩,hn⟩)
  ·exact ⟨e2,(QbB hnd hl e2).2 (.inl (by simp)),rfl⟩
  ·exact ⟨e1,(QbB hnd hl e1).2 (.inl (by simp)),rfl⟩
  ·exact ⟨f,(QbB hnd hl f).2 (.inr ⟨hf,hn⟩),rfl⟩
theorem QaC {k:Conn} {v:WM} (hk:k∈v.gh.conn):k.bare∈(vw v).gh.conn:=List.mem_map.2 ⟨k,hk,rfl⟩
theorem Qkr {g:Goroutine} {cs:Array CommCase} {sh:CommShape} (h:∀ cc∈cs,∃ c,cc.chan=.chan (some c)∧openCh w c):(parked g cs sh).again w=parked g cs sh:=by
 simp [Goroutine.again,parked]
 intro x hx
 obtain ⟨c,e,s,r,tm,hc⟩:=h cs[x] (Array.getElem_mem hx)
 rw [e]
 simp [hc]
theorem Inv.feedOf (h:Inv P l gs w t) (hf:f∈l) {d:Feed} (hd:f.2.gh.feed=some d):∃ e∈l,∃ k∈e.2.gh.conn,k.kid=eid f∧d=⟨k.c,k.q,k.vs⟩∧openCh w d.c∧openCh w d.q∧eid e≠eid f∧e.2.gh.quits=false:=by
 obtain ⟨e,he,k,hk,hkid⟩:=h.dyn.feed f hf d hd
 obtain ⟨h1,f',hf',h2,h3⟩:=h.dyn.sess e he k hk
 have:f'=f:=QaA h.dyn.nd hf' hf (h2.trans hkid)
 subst this
 have hup:=h.own.up _ ⟨e,he,rfl⟩ _ (QaC hk)
 have hup':eid e < k.kid:=hup
 refine ⟨e,he,k,hk,hkid,?_⟩
 rcases h3 with ⟨h3,h4,h5⟩ | ⟨h3,_⟩
 ·rw [hd] at h4
  obtain rfl:=Option.some.inj h4
  refine ⟨rfl,h5,h1,by rw [←hkid]; omega,?_⟩
  cases hq:e.2.gh.quits with
  | false=>rfl
  | true=>
   have h6:=(h.own.quit (vw e.2) ⟨e,he,rfl⟩ hq).2.1
   have h7:=QaC hk
   rw [h6] at h7; simp at h7
 ·have h6:=(h.own.quit (vw f'.2) ⟨f',hf,rfl⟩ h3).2.2.1
  have h7:(vw f'.2).gh.feed=(f'.2.gh.feed).map fun f=>{ f with vs:=[] }:=rfl
  rw [h7,hd] at h6; simp at h6
theorem Inv.feedOf' (h:Inv P l gs w t) (hf:f∈l) {d:Feed} (hd:f.2.gh.feed=some d) {e:Elem} (he:e∈l) {k:Conn} (hk:k∈e.2.gh.conn) (hkid:k.kid=eid f):d=⟨k.c,k.q,k.vs⟩∧openCh w k.c:=by
 obtain ⟨h1,f',hf',h2,h3⟩:=h.dyn.sess e he k hk
 have:f'=f:=QaA h.dyn.nd hf' hf (h2.trans hkid)
 subst this
 rcases h3 with ⟨h3,h4,h5⟩ | ⟨h3,_⟩
 ·rw [hd] at h4
  exact ⟨Option.some.inj h4,h5⟩
 ·have h6:=(h.own.quit (vw f'.2) ⟨f',hf,rfl⟩ h3).2.2.1
  have h7:(vw f'.2).gh.feed=(f'.2.gh.feed).map fun f=>{ f with vs:=[] }:=rfl
  rw [h7,hd] at h6; simp at h6
theorem Inv.chanD (h:Inv P l gs w t) {e e':Elem} (he:e∈l) (he':e'∈l) {k k':Conn} (hk:k∈e.2.gh.conn) (hk':k'∈e'.2.gh.conn) (hne:k.kid≠k'.kid):k.c≠k'.c∧k.c≠k'.q∧k.q≠k'.q:=
 h.own.chanD (u:=vw e.2) (v:=vw e'.2) (k:=k.bare) (k':=k'.bare) ⟨e,he,rfl⟩ ⟨e',he',rfl⟩ (QaC hk) (QaC hk') hne
theorem Inv.cq (h:Inv P l gs w t) (he:e∈l) {k:Conn} (hk:k∈e.2.gh.conn):k.c≠k.q:=((h.own.stack (vw e.2) ⟨e,he,rfl⟩).chan _ (QaC hk)).2.2
theorem Qg0 (g:Goroutine) (c q:Nat) (v z z':Value) (sh:CommShape) (r:Nat) :
  offersAt (parked g #[scase c v z,rcase q z'] sh) r true=(if c=r then [0] else [])∧offersAt (parked g #[scase c v z,rcase q z'] sh) r false=(if q=r then [1] else []):=by
 constructor
 ·by_cases h:c=r <;> simp [offersAt,parked,scase,rcase,h]
 ·by_cases h:q=r <;> simp [offersAt,parked,scase,rcase,h]
theorem Inv.sender (h:Inv P l gs w t) {j:Nat} {g:Goroutine} (hj:gs[j]? = some g) {c:Nat} (ho:offersAt g c true≠[]) :
  ∃ f∈l,eid f=j∧∃ d v vs z z' sh,f.2.gh.feed=some d∧d.vs=v :: vs∧d.c=c∧f.1.status=.running∧g=parked (core f.1) #[scase d.c v z,rcase d.q z'] sh∧(∀ w1,Rely f.2 w1→stepG P w1.main f.1 w1.w=.comm (core f.1) #[scase d.c v z,rcase d.q z'] true sh w1.w #[]):=by
 obtain ⟨hlt,_⟩:=Array.getElem?_eq_some_iff.1 hj
 obtain ⟨f,hf,rfl⟩:=h.dyn.tot j hlt
 obtain ⟨g',hg',hs⟩:=h.dyn.sit f hf
 rw [hj] at hg'
 obtain rfl:=Option.some.inj hg'
 rcases hs with ⟨_,_,h3⟩ | ⟨hrun,hp⟩
 ·exact absurd (offersAt_of_not_blocked (by rcases h3 with h3 | h3 <;> rw [h3] <;> simp) c true) ho
 ·cases hp with
  | recv k rest z sh hk _ _=>exact absurd (offersAt_parked_recv' ..) ho
  | send d v vs z z' sh hd hv hst=>
   rw [(Qg0 ..).1] at ho
   by_cases e:d.c=c
   ·exact ⟨f,hf,rfl,d,v,vs,z,z',sh,hd,hv,e,hrun,rfl,hst⟩
   ·rw [if_neg e] at ho; exact absurd rfl ho
theorem Inv.receiver (h:Inv P l gs w t) {j:Nat} {g:Goroutine} (hj:gs[j]? = some g) {c:Nat} (ho:offersAt g c false≠[]) :
  (∃ e∈l,eid e=j∧∃ k rest z sh,e.2.gh.conn=k :: rest∧k.c=c∧e.1.status=.running∧g=parked (core e.1) #[rcase k.c z] sh∧(∀ w1,Rely e.2 w1→stepG P w1.main e.1 w1.w=.comm (core e.1) #[rcase k.c z] true sh w1.w #[])) ∨
   ∃ f∈l,eid f=j∧∃ d,f.2.gh.feed=some d∧d.q=c:=by
 obtain ⟨hlt,_⟩:=Array.getElem?_eq_some_iff.1 hj
 obtain ⟨f,hf,rfl⟩:=h.dyn.tot j hlt
 obtain ⟨g',hg',hs⟩:=h.dyn.sit f hf
 rw [hj] at hg'
 obtain rfl:=Option.some.inj hg'
 rcases hs with ⟨_,_,h3⟩ | ⟨hrun,hp⟩
 ·exact absurd (offersAt_of_not_blocked (by rcases h3 with h3 | h3 <;> rw [h3] <;> simp) c false) ho
 ·cases hp with
  | recv k rest z sh hk _ hst=>
   rw [offersAt_parked_recv] at ho
   by_cases e:k.c=c
   ·exact .inl ⟨f,hf,rfl,k,rest,z,sh,hk,e,hrun,rfl,hst⟩
   ·rw [if_neg e] at ho; exact absurd rfl ho
  | send d v vs z z' sh hd hv hst=>
   rw [(Qg0 ..).2] at ho
   by_cases e:d.q=c
   ·exact .inr ⟨f,hf,rfl,d,hd,e⟩
   ·rw [if_neg e] at ho; exact absurd rfl ho
theorem Inv.at (h:Inv P l gs w t) (d:Nat):Inv P l gs (w.at d) t:=by
 refine ⟨h.own,h.tr,⟨h.dyn.tot,h.dyn.lt,h.dyn.klt,h.dyn.nd,fun e he=>?_,fun e he=>?_,h.dyn.quitn,h.dyn.sess,h.dyn.feed,h.dyn.both,h.dyn.main⟩⟩
 ·obtain ⟨g,hg,hs⟩:=h.dyn.sit e he
  refine ⟨g,hg,hs.imp id fun ⟨h1,h2⟩=>⟨h1,?_⟩⟩
  cases h2 with
  | recv k rest z sh hk ho h=>exact .recv k rest z sh hk ho h
  | send f v vs z z' sh hf hv h=>exact .send f v vs z z' sh hf hv h
 ·obtain ⟨h1,h2,h3,h4,h5,h6,h7,h8⟩:=h.dyn.rely e he
  exact ⟨h1,h2,h3,h4,h5,h6,h7,h8⟩
theorem Inv.stays (h:Inv P l gs w t) (hf:f∈l) {g:Goroutine} (hg:gs[eid f]? = some g) (hs:Sit P f w g)
  (ho1:g.status=.blocked→∀ k rest,f.2.gh.conn=k :: rest→openCh w k.c→openCh w' k.c) (ho2:∀ e∈l,∀ k∈e.2.gh.conn,k.kid=eid f→(openCh w k.c→openCh w' k.c)∧(openCh w k.q→openCh w' k.q)) (a a':Goroutine) :
  woken P a a' w' g=g∧Sit P f w' g:=by
 rcases hs with ⟨h1,h2,h3⟩ | ⟨hrun,hp⟩
 ·refine ⟨?_,.inl ⟨h1,h2,h3⟩⟩
  unfold woken
  split
  ·exact again_running _ h3
  ·rfl
 ·cases hp with
  | recv k rest z sh hk ho hst=>
   have ho':=ho1 rfl k rest hk ho
   refine ⟨?_,.inr ⟨hrun,.recv k rest z sh hk ho' hst⟩⟩
   unfold woken
   split
   ·exact Qkr fun cc hcc=>by
     obtain rfl:cc=rcase k.c z:=by simpa using hcc
     exact ⟨k.c,rfl,ho'⟩
   ·rfl
  | send d v vs z z' sh hd hv hst=>
   obtain ⟨e,he,k,hk,hkid,hd2,ho,hq,_⟩:=h.feedOf hf hd
   subst hd2
   refine ⟨?_,.inr ⟨hrun,.send _ v vs z z' sh hd hv hst⟩⟩
   unfold woken
   split
   ·exact Qkr fun cc hcc=>by
     have:cc=scase k.c v z∨cc=rcase k.q z':=by simpa using hcc
     rcases this with rfl | rfl
     ·exact ⟨k.c,rfl,(ho2 e he k hk hkid).1 ho⟩
     ·exact ⟨k.q,rfl,(ho2 e he k hk hkid).2 hq⟩
   ·rfl
end
end R
namespace R
section
variable {P:Program} {l l1 l2 es:List Elem} {e f:Elem} {gs gs':Array Goroutine} {w w':World} {t:Trace} {g g':Goroutine}
theorem Qs5 {L:Vw→Prop} {u:Vw} (hu:L u) (huq:∀ v,L v→v.gh.id=u.gh.id→v=u):upd L u u=L:=by
 funext v
 refine propext ⟨fun h=>?_,fun h=>?_⟩
 ·rcases h with rfl | h
  ·exact hu
  ·exact h.1
 ·by_cases e:v.gh.id=u.gh.id
  ·exact .inl (huq v h e)
  ·exact .inr ⟨h,e⟩
theorem Qbj {α:Type} {a:Array α} {i:Nat} {x:α} (h:a[i]? = some x):i < a.size:=(Array.getElem?_eq_some_iff.1 h).1
theorem Qbv {a:Array Goroutine} {i j:Nat} {x:Goroutine} (hi:i < a.size):(a.setIfInBounds i x)[j]? = if j=i then some x else a[j]?:=by
 rw [Array.getElem?_setIfInBounds]
 by_cases h:i=j
 ·subst h; simp [hi]
 ·rw [if_neg h,if_neg (fun e=>h e.symm)]
theorem Qjv {v:WM} (h:Rely v (v.now w)) {w':World} (hos:w'.os=w.os) (htp:w'.tape=w.tape) (hout:w'.output=w.output) (hsz:w.heap.size≤w'.heap.size) (hb:∀ b,v.O b→b < w.heap.size→w'.heap[b]? = w.heap[b]?):Rely v (v.now w'):=
 ⟨rfl,rfl,rfl,hos.trans h.os,htp.trans h.tape,hout.trans h.output,Nat.le_trans h.size hsz,fun b ho hs=>(hb b ho (Nat.lt_of_lt_of_le hs h.size)).trans (h.block b ho hs)⟩
theorem Qjg {c:Nat} (h:openCh w c):c < w.heap.size:=by obtain ⟨s,r,tm,h⟩:=h; exact (Array.getElem?_eq_some_iff.1 h).1
theorem QFD {c:Nat} (h:shutCh w c):c < w.heap.size:=by obtain ⟨s,r,tm,h⟩:=h; exact (Array.getElem?_eq_some_iff.1 h).1
theorem Qq2 {v:WM} {s:Array Event} {fn:FuncId} {pos:String} {i:Nat} (he:EvIn v s) (hx:NoX s) :
  Wordless (MemOp.ofEvents i fn pos s)∧(∀ op∈MemOp.ofEvents i fn pos s,op.g=i)∧∀ op∈MemOp.ofEvents i fn pos s,∀ a,op.act.touch? = some a→∃ b,blk a.loc=some b∧if a.write=true then v.M b else v.O b:=by
 have hn:∀ e∈s,∀ m,e.loc=.mark m→Neutral m:=fun e hes m hm=>by
  have h1:=he e hes
  unfold okEv at h1
  rw [hm] at h1
  cases m <;> first | exact h1.elim | rfl | exact absurd hm (hx e hes _)
 rw [ofEvents_eq]
 refine ⟨fun op hop=>?_,fun op hop=>?_,fun op hop a ha=>?_⟩ <;> obtain ⟨e,hes,rfl⟩:=Array.mem_map.1 hop
 ·exact ofEvent_noMark (hn e hes)
 ·rfl
 ·obtain ⟨h1,h2⟩:=ofEvent_touch (hn e hes) ha
  have h3:=he e hes
  unfold okEv at h3
  cases hl:e.loc with
  | cell ad=>
   rw [hl] at h3
   refine ⟨ad.block,by rw [h1,hl]; rfl,?_⟩
   rw [h2]
   exact h3.resolve_left id
  | obj r=>
   rw [hl] at h3
   refine ⟨r,by rw [h1,hl]; rfl,?_⟩
   rw [h2]
   exact h3.2.resolve_left id
  | mark m=>
   have h4:=hn e hes m hl
   obtain ⟨loc,wr,sy⟩:=e
   simp only at hl
   subst hl
   have e1:MemAct.ofEvent ⟨.mark m,wr,sy⟩=.mark m:=by cases wr <;> cases sy <;> rfl
   rw [e1,h4.touch] at ha
   cases ha
  | _=>rw [hl] at h3; exact h3.elim
theorem Inv.goes (h:Inv P l gs w t) (hl:l=l1 ++ e :: l2) (hg:gs[eid e]? = some g) {s:Array Event} (hG:GuarT (e.2.now w) w' s) (hs':g'.status=.running∨g'.status=.finished)
  (hq:e.2.gh.quits=true→(∃ n,QuitsIn P n g')∧w'=w∧s=#[]) :
  Inv P (l1 ++ [(g',(e.2.now w).to w')] ++ l2) ((gs.map (woken P g g' w')).setIfInBounds (eid e) g') w' (t ++ MemOp.ofEvents (eid e) g.frame.fn g.frame.place s):=by
 obtain ⟨hG,hX⟩:=hG
 have he:e∈l:=Qfk hl
 have hL:LV l (vw e.2):=⟨e,he,rfl⟩
 have hM:∀ b,(vw ((e.2.now w).to w')).M b↔(vw e.2).M b∨(w.heap.size≤b∧b < w'.heap.size):=fun b=>Iff.rfl
 have hmem:=fun f=>QbB (es:=[(g',(e.2.now w).to w')]) h.dyn.nd hl f
 have hLV:=Qhs h.dyn.nd hl (e':=(g',(e.2.now w).to w'))
 obtain ⟨o1,o2,o3⟩:=Qq2 (fn:=g.frame.fn) (pos:=g.frame.place) (i:=eid e) hG.ev hX
 have sz:w.heap.size≤w'.heap.size:=hG.size
 have chan:∀ e0∈l,∀ k∈e0.2.gh.conn,∀ c,(c=k.c∨c=k.q)→c < w.heap.size→w'.heap[c]? = w.heap[c]?:=fun e0 he0 k hk c hc hlt=>by
  refine hG.block c hlt fun hM'=>?_
  obtain ⟨h1,h2⟩:=h.own.chan (u:=vw e0.2) (v:=vw e.2) ⟨e0,he0,rfl⟩ hL (QaC hk)
  rcases hc with rfl | rfl
  ·exact h1 (.inl hM')
  ·exact h2 (.inl hM')
 have op:∀ e0∈l,∀ k∈e0.2.gh.conn,∀ c,(c=k.c∨c=k.q)→openCh w c→openCh w' c:=fun e0 he0 k hk c hc ho=>by
  have:=chan e0 he0 k hk c hc (Qjg ho)
  obtain ⟨s,r,tm,h1⟩:=ho
  exact ⟨s,r,tm,this.trans h1⟩
 have sh:∀ e0∈l,∀ k∈e0.2.gh.conn,shutCh w k.c→shutCh w' k.c:=fun e0 he0 k hk ho=>by
  have:=chan e0 he0 k hk k.c (.inl rfl) (QFD ho)
  obtain ⟨s,r,tm,h1⟩:=ho
  exact ⟨s,r,tm,this.trans h1⟩
 have hlt:=Qbj hg
 have sz':((gs.map (woken P g g' w')).setIfInBounds (eid e) g').size=gs.size:=by simp
 have hget:∀ j,((gs.map (woken P g g' w')).setIfInBounds (eid e) g')[j]? = if j=eid e then some g' else (gs[j]?).map (woken P g g' w'):=fun j=>by
  rw [Qbv (by simpa using hlt),Array.getElem?_map]
 have gete:((gs.map (woken P g g' w')).setIfInBounds (eid e) g')[eid e]? = some g':=by rw [hget,if_pos rfl]
 have hget2:∀ f∈l,eid f≠eid e→∀ gf,gs[eid f]? = some gf→((gs.map (woken P g g' w')).setIfInBounds (eid e) g')[eid f]? = some gf∧(Sit P f w gf→Sit P f w' gf):=fun f hf hne gf hgf=>by
  obtain ⟨gf',h1,h2⟩:=h.dyn.sit f hf
  rw [hgf] at h1
  obtain rfl:=Option.some.inj h1
  obtain ⟨h3,h4⟩:=h.stays hf hgf h2 (fun _ k rest hk=>op f hf k (by rw [hk]; simp) k.c (.inl rfl)) (fun e0 he0 k hk _=>⟨op e0 he0 k hk k.c (.inl rfl),op e0 he0 k hk k.q (.inr rfl)⟩) g g'
  rw [hget,if_neg hne,hgf,Option.map_some,h3]
  exact ⟨rfl,fun _=>h4⟩
 have noop:∀ j,(j=eid e→e.2.gh.quits=true)→∀ op∈MemOp.ofEvents (eid e) g.frame.fn g.frame.place s,op.g≠j:=fun j hj op hop=>by
  intro hg'
  have h1:=o2 op hop
  have h2:=hj (hg'.symm.trans h1)
  rw [(hq h2).2.2] at hop
  simp [MemOp.ofEvents] at hop
 refine ⟨?_,?_,⟨?_,?_,?_,?_,?_,?_,?_,?_,?_,?_,?_⟩⟩
 ·rw [hLV]
  exact h.own.own hL sz hM rfl rfl fun hqu=>by rw [(hq hqu).2.1]
 ·rw [hLV]
  cases hqu:e.2.gh.quits with
  | false=>exact h.tr.own h.own hL hqu sz hM rfl rfl o2 o1 o3
  | true=>
   obtain ⟨_,rfl,rfl⟩:=hq hqu
   have:vw ((e.2.now w').to w')=vw e.2:=by rw [show (e.2.now w').to w'=e.2.now w' from WM.to_self _]; rfl
   rw [this,Qs5 hL fun v hv hid=>h.own.uniq _ _ hv hL hid]
   simpa [MemOp.ofEvents] using h.tr
 ·intro j hj
  rw [sz'] at hj
  obtain ⟨f,hf,rfl⟩:=h.dyn.tot j hj
  by_cases hne:eid f=eid e
  ·exact ⟨_,(hmem _).2 (.inl (List.mem_singleton_self _)),hne.symm⟩
  ·exact ⟨f,(hmem f).2 (.inr ⟨hf,hne⟩),rfl⟩
 ·intro f hf
  rw [sz']
  rcases (hmem f).1 hf with hf | ⟨hf,_⟩
  ·obtain rfl:=List.mem_singleton.1 hf; exact hlt
  ·exact h.dyn.lt f hf
 ·intro f hf k hk
  rw [sz']
  rcases (hmem f).1 hf with hf | ⟨hf,_⟩
  ·obtain rfl:=List.mem_singleton.1 hf; exact h.dyn.klt e he k hk
  ·exact h.dyn.klt f hf k hk
 ·exact QeC h.dyn.nd hl (by simp) fun x hx=>.inl (by obtain rfl:=List.mem_singleton.1 hx; rfl)
 ·intro f hf
  rcases (hmem f).1 hf with hf | ⟨hf,hne⟩
  ·obtain rfl:=List.mem_singleton.1 hf
   exact ⟨g',gete,.inl ⟨⟨rfl,rfl,rfl⟩,rfl,hs'⟩⟩
  ·obtain ⟨gf,h1,h2⟩:=h.dyn.sit f hf
   obtain ⟨h3,h4⟩:=hget2 f hf hne gf h1
   exact ⟨gf,h3,h4 h2⟩
 ·intro f hf
  rcases (hmem f).1 hf with hf | ⟨hf,hne⟩
  ·obtain rfl:=List.mem_singleton.1 hf
   exact Rely.refl _
  ·exact Qjv (h.dyn.rely f hf) hG.os hG.tape hG.output sz fun b hb hs=>hG.block b hs fun hM'=>h.own.apart (u:=vw e.2) (v:=vw f.2) hL ⟨f,hf,rfl⟩ (fun x=>hne x.symm) hM' hb
 ·intro f hf hqf
  rcases (hmem f).1 hf with hf | ⟨hf,hne⟩
  ·obtain rfl:=List.mem_singleton.1 hf; exact (hq hqf).1
  ·exact h.dyn.quitn f hf hqf
 ·have main:∀ e0∈l,∀ k∈e0.2.gh.conn,openCh w' k.q∧∃ f∈(l1 ++ [(g',(e.2.now w).to w')] ++ l2),eid f=k.kid ∧
    ((f.2.gh.quits=false∧f.2.gh.feed=some ⟨k.c,k.q,k.vs⟩∧openCh w' k.c)∨(f.2.gh.quits=true∧k.vs=[]∧shutCh w' k.c∧Shut (t ++ MemOp.ofEvents (eid e) g.frame.fn g.frame.place s) k.c k.kid)):=by
   intro e0 he0 k hk
   obtain ⟨h1,f,hf,h2,h3⟩:=h.dyn.sess e0 he0 k hk
   refine ⟨op e0 he0 k hk _ (.inr rfl) h1,?_⟩
   have h3':(f.2.gh.quits=false∧f.2.gh.feed=some ⟨k.c,k.q,k.vs⟩∧openCh w' k.c)∨(f.2.gh.quits=true∧k.vs=[]∧shutCh w' k.c∧Shut (t ++ MemOp.ofEvents (eid e) g.frame.fn g.frame.place s) k.c k.kid):=by
    rcases h3 with ⟨h4,h5,h6⟩ | ⟨h4,h5,h6,h7⟩
    ·exact .inl ⟨h4,h5,op e0 he0 k hk _ (.inl rfl) h6⟩
    ·refine .inr ⟨h4,h5,sh e0 he0 k hk h6,h7.app (noop _ fun e1=>?_)⟩
     obtain rfl:=QaA h.dyn.nd hf he (h2.trans e1)
     exact h4
   by_cases hne:eid f=eid e
   ·obtain rfl:=QaA h.dyn.nd hf he hne
    exact ⟨_,(hmem _).2 (.inl (List.mem_singleton_self _)),h2,h3'⟩
   ·exact ⟨f,(hmem f).2 (.inr ⟨hf,hne⟩),h2,h3'⟩
  intro e0 he0 k hk
  rcases (hmem e0).1 he0 with he0 | ⟨he0,_⟩
  ·obtain rfl:=List.mem_singleton.1 he0
   exact main e he k hk
  ·exact main e0 he0 k hk
 ·have main:∀ f∈l,∀ d,f.2.gh.feed=some d→∃ e0∈(l1 ++ [(g',(e.2.now w).to w')] ++ l2),∃ k∈e0.2.gh.conn,k.kid=eid f:=by
   intro f hf d hd
   obtain ⟨e0,he0,k,hk,h1⟩:=h.dyn.feed f hf d hd
   by_cases hne:eid e0=eid e
   ·obtain rfl:=QaA h.dyn.nd he0 he hne
    exact ⟨_,(hmem _).2 (.inl (List.mem_singleton_self _)),k,hk,h1⟩
   ·exact ⟨e0,(hmem e0).2 (.inr ⟨he0,hne⟩),k,hk,h1⟩
  intro f hf d hd
  rcases (hmem f).1 hf with hf | ⟨hf,_⟩
  ·obtain rfl:=List.mem_singleton.1 hf
   exact main e he d hd
  ·exact main f hf d hd
 ·intro e0 he0 f hf k rest hk hkid g1 g2 hg1 hg2 b1 b2
  have nb:¬ g'.status=.blocked:=by rcases hs' with h1 | h1 <;> rw [h1] <;> simp
  rcases (hmem e0).1 he0 with he0 | ⟨he0,hn0⟩
  ·obtain rfl:=List.mem_singleton.1 he0
   have hx:some g'=some g1:=gete.symm.trans hg1
   obtain rfl:=Option.some.inj hx
   exact nb b1
  ·rcases (hmem f).1 hf with hf | ⟨hf,hnf⟩
   ·obtain rfl:=List.mem_singleton.1 hf
    have hx:some g'=some g2:=gete.symm.trans hg2
    obtain rfl:=Option.some.inj hx
    exact nb b2
   ·obtain ⟨x1,y1,_⟩:=h.dyn.sit e0 he0
    obtain ⟨x2,y2,_⟩:=h.dyn.sit f hf
    have z1:=(hget2 e0 he0 hn0 x1 y1).1
    have z2:=(hget2 f hf hnf x2 y2).1
    rw [hg1] at z1
    rw [hg2] at z2
    obtain rfl:=Option.some.inj z1
    obtain rfl:=Option.some.inj z2
    exact h.dyn.both e0 he0 f hf k rest hk hkid _ _ y1 y2 b1 b2
 ·obtain ⟨e0,he0,h0⟩:=h.dyn.main
  by_cases hne:eid e0=eid e
  ·exact ⟨_,(hmem _).2 (.inl (List.mem_singleton_self _)),hne.symm.trans h0⟩
  ·exact ⟨e0,(hmem e0).2 (.inr ⟨he0,hne⟩),h0⟩
theorem Inv.parks (h:Inv P l gs w t) (he:e∈l) (hrun:e.1.status=.running) (hp:Parked P e w g')
  (hb1:∀ k rest,e.2.gh.conn=k :: rest→∀ f∈l,k.kid=eid f→∀ gf,gs[eid f]? = some gf→gf.status≠.blocked)
  (hb2:∀ e0∈l,∀ k rest,e0.2.gh.conn=k :: rest→k.kid=eid e→∀ gf,gs[eid e0]? = some gf→gf.status≠.blocked):Inv P l (gs.setIfInBounds (eid e) g') w t:=by
 have hlt:=h.dyn.lt e he
 have hget:∀ j,(gs.setIfInBounds (eid e) g')[j]? = if j=eid e then some g' else gs[j]?:=fun j=>Qbv hlt
 refine ⟨h.own,h.tr,⟨fun i hi=>h.dyn.tot i (by simpa using hi),fun f hf=>by simpa using h.dyn.lt f hf,fun f hf k hk=>by simpa using h.dyn.klt f hf k hk,h.dyn.nd,fun f hf=>?_,h.dyn.rely,h.dyn.quitn,h.dyn.sess,h.dyn.feed,?_,h.dyn.main⟩⟩
 ·rw [hget]
  by_cases hne:eid f=eid e
  ·obtain rfl:=QaA h.dyn.nd hf he hne
   rw [if_pos rfl]
   exact ⟨g',rfl,.inr ⟨hrun,hp⟩⟩
  ·rw [if_neg hne]; exact h.dyn.sit f hf
 ·intro e0 he0 f hf k rest hk hkid g1 g2 hg1 hg2 b1 b2
  rw [hget] at hg1 hg2
  by_cases n1:eid e0=eid e
  ·obtain rfl:=QaA h.dyn.nd he0 he n1
   have hup:=h.own.up _ ⟨e0,he0,rfl⟩ _ (QaC (v:=e0.2) (k:=k) (by rw [hk]; simp))
   have hup':eid e0 < k.kid:=hup
   rw [if_neg (by rw [←hkid]; omega)] at hg2
   exact hb1 k rest hk f hf hkid g2 hg2 b2
  ·rw [if_neg n1] at hg1
   by_cases n2:eid f=eid e
   ·obtain rfl:=QaA h.dyn.nd hf he n2
    exact hb2 e0 he0 k rest hk hkid g1 hg1 b1
   ·rw [if_neg n2] at hg2
    exact h.dyn.both e0 he0 f hf k rest hk hkid g1 g2 hg1 hg2 b1 b2
end
end R
namespace R
section
variable {P:Program} {l l1 l2 m1 m2 es:List Elem} {e f:Elem} {gs gs':Array Goroutine} {w w':World} {t:Trace} {g g' ge gf child:Goroutine}
theorem QFF {x:Elem} (h:Sit P x w g) (ho:∀ k∈x.2.gh.conn,openCh w k.c→openCh w' k.c):Sit P x w' g:=by
 refine h.imp id fun ⟨h1,h2⟩=>⟨h1,?_⟩
 cases h2 with
 | recv k rest z sh hk hop hst=>exact .recv k rest z sh hk (ho k (by rw [hk]; simp) hop) hst
 | send d v vs z z' sh hd hv hst=>exact .send d v vs z z' sh hd hv hst
theorem Inv.forks (h:Inv P l gs w t) (hl:l=l1 ++ e :: l2) (hg:gs[eid e]? = some g) {c q:Nat} {vs:List Value} {F:Nat→Prop} (hc:e.2.M c) (hq:e.2.M q) (hcq:c≠q) (hF:∀ b,F b→e.2.M b∧b≠c∧b≠q) (hO:e.2.O star)
  (hoc:openCh w c) (hoq:openCh w q) (hs1:g'.status=.running∨g'.status=.finished) (hs2:child.status=.running∨child.status=.finished) :
  Inv P (l1 ++ [(g',(e.2.now w).lend c q vs F gs.size),(child,(e.2.now w).kid c q vs F gs.size)] ++ l2) ((gs.setIfInBounds (eid e) g').push child) w
   (t ++ #[{ g:=eid e,fn:=g.frame.fn,pos:=g.frame.place,act:=.go gs.size }] ++ #[{ g:=gs.size,fn:=child.frame.fn,pos:=g.frame.place,act:=.start }]):=by
 have he:e∈l:=Qfk hl
 have hL:LV l (vw e.2):=⟨e,he,rfl⟩
 have hmem:=fun f=>QbB (es:=[(g',(e.2.now w).lend c q vs F gs.size),(child,(e.2.now w).kid c q vs F gs.size)]) h.dyn.nd hl f
 have hLV:=Qtq h.dyn.nd hl (e1:=(g',(e.2.now w).lend c q vs F gs.size)) (e2:=(child,(e.2.now w).kid c q vs F gs.size))
 have hlt:=Qbj hg
 have hqu:e.2.gh.quits=false:=by
  cases hqu:e.2.gh.quits with
  | false=>rfl
  | true=>exact absurd hO ((h.own.quit _ hL hqu).2.2.2 _)
 have hi:∀ v,LV l v→v.gh.id < gs.size∧∀ k∈v.gh.conn,k.kid < gs.size:=by
  rintro v ⟨f,hf,rfl⟩
  refine ⟨h.dyn.lt f hf,fun k hk=>?_⟩
  obtain ⟨k',hk',rfl⟩:=List.mem_map.1 hk
  exact h.dyn.klt f hf k' hk'
 have hpos:gs.size≠0:=by omega
 have e1:vw ((e.2.now w).lend c q vs F gs.size)=⟨fun b=>(vw e.2).M b∧¬ F b∧b≠c∧b≠q,fun b=>(vw e.2).X b∨F b,{ (vw e.2).gh with conn:=⟨c,q,[],gs.size,(vw e.2).X,F⟩ :: (vw e.2).gh.conn }⟩:=rfl
 have e2:vw ((e.2.now w).kid c q vs F gs.size)=⟨fun _=>False,fun b=>((vw e.2).X b∨F b)∧b≠star,⟨gs.size,[],some ⟨c,q,[]⟩,false⟩⟩:=rfl
 have hsz:(gs.setIfInBounds (eid e) g').size=gs.size:=by simp
 have hget:∀ j,((gs.setIfInBounds (eid e) g').push child)[j]? = if j=gs.size then some child else if j=eid e then some g' else gs[j]?:=fun j=>by
  rw [Array.getElem?_push,hsz]
  by_cases hj:j=gs.size
  ·rw [if_pos hj,if_pos hj]
  ·rw [if_neg hj,if_neg hj,Qbv hlt]
 have g1:∀ f∈l,eid f≠eid e→((gs.setIfInBounds (eid e) g').push child)[eid f]? = gs[eid f]?:=fun f hf hne=>by
  have:=h.dyn.lt f hf
  rw [hget,if_neg (by omega),if_neg hne]
 have noop:∀ f∈l,f.2.gh.quits=true→∀ c',Shut t c' (eid f)→Shut (t ++ #[{ g:=eid e,fn:=g.frame.fn,pos:=g.frame.place,act:=.go gs.size }] ++ #[{ g:=gs.size,fn:=child.frame.fn,pos:=g.frame.place,act:=.start }]) c' (eid f):=fun f hf hqf c' hsh=>by
  refine (hsh.app fun op hop=>?_).app fun op hop=>?_
  ·obtain rfl:op=_:=by simpa using hop
   show eid e≠eid f
   intro hx
   obtain rfl:=QaA h.dyn.nd he hf hx
   rw [hqu] at hqf; cases hqf
  ·obtain rfl:op=_:=by simpa using hop
   show gs.size≠eid f
   have:=h.dyn.lt f hf; omega
 have m1:(g',(e.2.now w).lend c q vs F gs.size)∈l1 ++ [(g',(e.2.now w).lend c q vs F gs.size),(child,(e.2.now w).kid c q vs F gs.size)] ++ l2:=(hmem _).2 (.inl (by simp))
 have m2:(child,(e.2.now w).kid c q vs F gs.size)∈l1 ++ [(g',(e.2.now w).lend c q vs F gs.size),(child,(e.2.now w).kid c q vs F gs.size)] ++ l2:=(hmem _).2 (.inl (by simp))
 refine ⟨?_,?_,⟨?_,?_,?_,?_,?_,?_,?_,?_,?_,?_,?_⟩⟩
 ·rw [hLV]
  exact h.own.fork hL (i:=gs.size) hO hc hq hcq hF hi e1 e2
 ·rw [hLV]
  exact h.tr.fork h.own hL hqu (i:=gs.size) hc hq (fun b hb=>(hF b hb).1) e1 e2 ⟨rfl,rfl⟩ ⟨rfl,rfl⟩
 ·intro j hj
  simp only [Array.size_push,hsz] at hj
  by_cases hj2:j=gs.size
  ·exact ⟨_,m2,hj2.symm⟩
  ·obtain ⟨f,hf,rfl⟩:=h.dyn.tot j (by omega)
   by_cases hne:eid f=eid e
   ·exact ⟨_,m1,hne.symm⟩
   ·exact ⟨f,(hmem f).2 (.inr ⟨hf,hne⟩),rfl⟩
 ·intro f hf
  simp only [Array.size_push,hsz]
  rcases (hmem f).1 hf with hf | ⟨hf,_⟩
  ·simp only [List.mem_cons,List.not_mem_nil,or_false] at hf
   rcases hf with rfl | rfl
   ·show eid e < gs.size+1; omega
   ·show gs.size < gs.size+1; omega
  ·have:=h.dyn.lt f hf; omega
 ·intro f hf k hk
  simp only [Array.size_push,hsz]
  rcases (hmem f).1 hf with hf | ⟨hf,_⟩
  ·simp only [List.mem_cons,List.not_mem_nil,or_false] at hf
   rcases hf with rfl | rfl
   ·rcases List.mem_cons.1 hk with rfl | hk
    ·show gs.size < gs.size+1; omega
    ·have:=h.dyn.klt e he k hk; omega
   ·simp [WM.kid] at hk
  ·have:=h.dyn.klt f hf k hk; omega
 ·refine QeC h.dyn.nd hl ?_ fun x hx=>?_
  ·show [eid e,gs.size].Nodup
   simp only [List.nodup_cons,List.mem_singleton,List.not_mem_nil,not_false_eq_true,List.nodup_nil,and_true]
   omega
  ·simp only [List.mem_cons,List.not_mem_nil,or_false] at hx
   rcases hx with rfl | rfl
   ·exact .inl rfl
   ·refine .inr fun y hy=>?_
    have:=h.dyn.lt y hy
    show eid y≠gs.size
    omega
 ·intro f hf
  rcases (hmem f).1 hf with hf | ⟨hf,hne⟩
  ·simp only [List.mem_cons,List.not_mem_nil,or_false] at hf
   rcases hf with rfl | rfl
   ·refine ⟨g',?_,.inl ⟨⟨rfl,rfl,rfl⟩,rfl,hs1⟩⟩
    show ((gs.setIfInBounds (eid e) g').push child)[eid e]? = _
    rw [hget,if_neg (by omega),if_pos rfl]
   ·refine ⟨child,?_,.inl ⟨⟨rfl,rfl,rfl⟩,rfl,hs2⟩⟩
    show ((gs.setIfInBounds (eid e) g').push child)[gs.size]? = _
    rw [hget,if_pos rfl]
  ·rw [g1 f hf hne]; exact h.dyn.sit f hf
 ·intro f hf
  rcases (hmem f).1 hf with hf | ⟨hf,hne⟩
  ·simp only [List.mem_cons,List.not_mem_nil,or_false] at hf
   rcases hf with rfl | rfl
   ·exact Rely.refl _
   ·exact Rely.refl _
  ·exact h.dyn.rely f hf
 ·intro f hf hqf
  rcases (hmem f).1 hf with hf | ⟨hf,hne⟩
  ·simp only [List.mem_cons,List.not_mem_nil,or_false] at hf
   rcases hf with rfl | rfl
   ·exact absurd (hqf.symm.trans hqu) (by simp)
   ·cases hqf
  ·exact h.dyn.quitn f hf hqf
 ·have main:∀ e0∈l,∀ k∈e0.2.gh.conn,openCh w k.q∧∃ f∈(l1 ++ [(g',(e.2.now w).lend c q vs F gs.size),(child,(e.2.now w).kid c q vs F gs.size)] ++ l2),eid f=k.kid ∧
    ((f.2.gh.quits=false∧f.2.gh.feed=some ⟨k.c,k.q,k.vs⟩∧openCh w k.c)∨(f.2.gh.quits=true∧k.vs=[]∧shutCh w k.c∧Shut (t ++ #[{ g:=eid e,fn:=g.frame.fn,pos:=g.frame.place,act:=.go gs.size }] ++ #[{ g:=gs.size,fn:=child.frame.fn,pos:=g.frame.place,act:=.start }]) k.c k.kid)):=by
   intro e0 he0 k hk
   obtain ⟨h1,f,hf,h2,h3⟩:=h.dyn.sess e0 he0 k hk
   refine ⟨h1,?_⟩
   have h3':(f.2.gh.quits=false∧f.2.gh.feed=some ⟨k.c,k.q,k.vs⟩∧openCh w k.c)∨(f.2.gh.quits=true∧k.vs=[]∧shutCh w k.c∧Shut (t ++ #[({ g:=eid e,fn:=g.frame.fn,pos:=g.frame.place,act:=.go gs.size }:MemOp)] ++ #[({ g:=gs.size,fn:=child.frame.fn,pos:=g.frame.place,act:=.start }:MemOp)]) k.c k.kid):=by
    rcases h3 with h3 | ⟨h4,h5,h6,h7⟩
    ·exact .inl h3
    ·exact .inr ⟨h4,h5,h6,by rw [←h2] at h7 ⊢; exact noop f hf h4 _ h7⟩
   by_cases hne:eid f=eid e
   ·obtain rfl:=QaA h.dyn.nd hf he hne
    exact ⟨_,m1,h2,h3'⟩
   ·exact ⟨f,(hmem f).2 (.inr ⟨hf,hne⟩),h2,h3'⟩
  intro e0 he0 k hk
  rcases (hmem e0).1 he0 with he0 | ⟨he0,_⟩
  ·simp only [List.mem_cons,List.not_mem_nil,or_false] at he0
   rcases he0 with rfl | rfl
   ·rcases List.mem_cons.1 hk with rfl | hk
    ·exact ⟨hoq,_,m2,rfl,.inl ⟨rfl,rfl,hoc⟩⟩
    ·exact main e he k hk
   ·simp [WM.kid] at hk
  ·exact main e0 he0 k hk
 ·intro f hf d hd
  rcases (hmem f).1 hf with hf | ⟨hf,hne⟩
  ·simp only [List.mem_cons,List.not_mem_nil,or_false] at hf
   rcases hf with rfl | rfl
   ·obtain ⟨e0,he0,k,hk,h1⟩:=h.dyn.feed e he d hd
    by_cases hne:eid e0=eid e
    ·have:=h.own.up _ ⟨e0,he0,rfl⟩ _ (QaC hk)
     have h2:eid e0 < k.kid:=this
     omega
    ·exact ⟨e0,(hmem e0).2 (.inr ⟨he0,hne⟩),k,hk,h1⟩
   ·exact ⟨_,m1,_,List.mem_cons_self ..,rfl⟩
  ·obtain ⟨e0,he0,k,hk,h1⟩:=h.dyn.feed f hf d hd
   by_cases hne:eid e0=eid e
   ·obtain rfl:=QaA h.dyn.nd he0 he hne
    exact ⟨_,m1,k,List.mem_cons_of_mem _ hk,h1⟩
   ·exact ⟨e0,(hmem e0).2 (.inr ⟨he0,hne⟩),k,hk,h1⟩
 ·intro e0 he0 f hf k rest hk hkid ga gb hga hgb b1 b2
  have nb1:¬ g'.status=.blocked:=by rcases hs1 with h1 | h1 <;> rw [h1] <;> simp
  have nb2:¬ child.status=.blocked:=by rcases hs2 with h1 | h1 <;> rw [h1] <;> simp
  have x1:((gs.setIfInBounds (eid e) g').push child)[eid e]? = some g':=by rw [hget,if_neg (by omega),if_pos rfl]
  have x2:((gs.setIfInBounds (eid e) g').push child)[gs.size]? = some child:=by rw [hget,if_pos rfl]
  have bl:∀ f∈(l1 ++ [(g',(e.2.now w).lend c q vs F gs.size),(child,(e.2.now w).kid c q vs F gs.size)] ++ l2),∀ ga,((gs.setIfInBounds (eid e) g').push child)[eid f]? = some ga→ga.status=.blocked→f∈l∧gs[eid f]? = some ga:=fun f hf ga hga b=>by
   rcases (hmem f).1 hf with hf | ⟨hf,hne⟩
   ·simp only [List.mem_cons,List.not_mem_nil,or_false] at hf
    rcases hf with rfl | rfl
    ·have:some g'=some ga:=x1.symm.trans hga
     obtain rfl:=Option.some.inj this
     exact absurd b nb1
    ·have:some child=some ga:=x2.symm.trans hga
     obtain rfl:=Option.some.inj this
     exact absurd b nb2
   ·rw [g1 f hf hne] at hga
    exact ⟨hf,hga⟩
  obtain ⟨y1,y2⟩:=bl e0 he0 ga hga b1
  obtain ⟨y3,y4⟩:=bl f hf gb hgb b2
  exact h.dyn.both e0 y1 f y3 k rest hk hkid ga gb y2 y4 b1 b2
 ·obtain ⟨e0,he0,h0⟩:=h.dyn.main
  by_cases hne:eid e0=eid e
  ·exact ⟨_,m1,hne.symm.trans h0⟩
  ·exact ⟨e0,(hmem e0).2 (.inr ⟨he0,hne⟩),h0⟩
theorem Inv.passes (h:Inv P l gs w t) (hl:l=l1 ++ e :: l2) {k:Conn} {rest:List Conn} (hk:e.2.gh.conn=k :: rest) {v:Value} {vs:List Value} (hv:k.vs=v :: vs)
  (hf:f∈l) {d:Feed} (hd:f.2.gh.feed=some d) (hkid:k.kid=eid f) {w0 w1:World}
  (hw0:∀ b:Nat,w0.heap[b]? = w.heap[b]?) (hw0':w0.os=w.os∧w0.tape=w.tape∧w0.output=w.output) (hw1:∀ b:Nat,w1.heap[b]? = w.heap[b]?) (hw1':w1.os=w.os∧w1.tape=w.tape∧w1.output=w.output)
  {s r:Nat} {tm:Bool} (hw':w'={ w with heap:=w.heap.setIfInBounds k.c (.chan 0 #[] false s r tm) })
  (hm:l1 ++ [(ge,(e.2.now w0).got k vs rest)] ++ l2=m1 ++ f :: m2)
  (hse:ge.status=.running∨ge.status=.finished) (hsf:gf.status=.running∨gf.status=.finished)
  (hsz:gs'.size=gs.size) (hge:gs'[eid e]? = some ge) (hgf:gs'[eid f]? = some gf) (hgo:∀ j,j≠eid e→j≠eid f→gs'[j]? = gs[j]?)
  {a b c d':MemOp} (hops:∀ op∈[a,b,c,d'],(op.g=eid e∨op.g=eid f)∧op.act.touch? = none∧∀ m,op.act≠.mark m) :
  Inv P (m1 ++ [(gf,(f.2.now w1).sent d vs)] ++ m2) gs' w' (t ++ #[a,b,c,d']):=by
 have he:e∈l:=Qfk hl
 have hkm:k∈e.2.gh.conn:=by rw [hk]; simp
 obtain ⟨hd2,hoc⟩:=h.feedOf' hf hd he hkm hkid
 subst hd2
 have hup:eid e < k.bare.kid:=h.own.up _ ⟨e,he,rfl⟩ _ (QaC hkm)
 have hup:eid e < k.kid:=hup
 have hne:eid e≠eid f:=by rw [←hkid]; omega
 have hqe:e.2.gh.quits=false:=by
  cases hq:e.2.gh.quits with
  | false=>rfl
  | true=>
   have h6:=(h.own.quit (vw e.2) ⟨e,he,rfl⟩ hq).2.1
   have h7:=QaC hkm
   rw [h6] at h7; simp at h7
 have hqf:f.2.gh.quits=false:=by
  cases hq:f.2.gh.quits with
  | false=>rfl
  | true=>
   have h6:=(h.own.quit (vw f.2) ⟨f,hf,rfl⟩ hq).2.2.1
   have h7:(vw f.2).gh.feed=(f.2.gh.feed).map fun f=>{ f with vs:=[] }:=rfl
   rw [h7,hd] at h6; simp at h6
 have nd1:((l1 ++ [(ge,(e.2.now w0).got k vs rest)] ++ l2).map eid).Nodup:=QeC h.dyn.nd hl (by simp) fun x hx=>.inl (by obtain rfl:=List.mem_singleton.1 hx; rfl)
 have nd1':=nd1
 have mem1:=fun x=>QbB (es:=[(ge,(e.2.now w0).got k vs rest)]) h.dyn.nd hl x
 have mem2:=fun x=>QbB (es:=[(gf,(f.2.now w1).sent ⟨k.c,k.q,k.vs⟩ vs)]) nd1 hm x
 have hmem:∀ x,x∈m1 ++ [(gf,(f.2.now w1).sent ⟨k.c,k.q,k.vs⟩ vs)] ++ m2↔x=(gf,(f.2.now w1).sent ⟨k.c,k.q,k.vs⟩ vs)∨x=(ge,(e.2.now w0).got k vs rest)∨(x∈l∧eid x≠eid e∧eid x≠eid f):=fun x=>by
  rw [mem2,mem1]
  simp only [List.mem_singleton]
  constructor
  ·rintro (h1 | ⟨h1 | ⟨h1,h2⟩,h3⟩)
   ·exact .inl h1
   ·exact .inr (.inl h1)
   ·exact .inr (.inr ⟨h1,h2,h3⟩)
  ·rintro (h1 | h1 | ⟨h1,h2,h3⟩)
   ·exact .inl h1
   ·exact .inr ⟨.inl h1,by subst h1; exact hne⟩
   ·exact .inr ⟨.inr ⟨h1,h2⟩,h3⟩
 have vwe:vw ((e.2.now w0).got k vs rest)=vw e.2:=by
  show (⟨e.2.M,e.2.X,_⟩:Vw)=⟨e.2.M,e.2.X,_⟩
  congr 1
  show Gh.bare { e.2.gh with conn:={ k with vs } :: rest }=Gh.bare e.2.gh
  unfold Gh.bare
  rw [hk]
  rfl
 have vwf:vw ((f.2.now w1).sent ⟨k.c,k.q,k.vs⟩ vs)=vw f.2:=by
  show (⟨f.2.M,f.2.X,_⟩:Vw)=⟨f.2.M,f.2.X,_⟩
  congr 1
  show Gh.bare { f.2.gh with feed:=some ⟨k.c,k.q,vs⟩ }=Gh.bare f.2.gh
  unfold Gh.bare
  rw [hd]
  rfl
 have hLV:LV (m1 ++ [(gf,(f.2.now w1).sent ⟨k.c,k.q,k.vs⟩ vs)] ++ m2)=LV l:=by
  funext u
  refine propext ⟨?_,?_⟩
  ·rintro ⟨x,hx,rfl⟩
   rcases (hmem x).1 hx with rfl | rfl | ⟨h1,_⟩
   ·exact ⟨f,hf,vwf.symm⟩
   ·exact ⟨e,he,vwe.symm⟩
   ·exact ⟨x,h1,rfl⟩
  ·rintro ⟨x,hx,rfl⟩
   by_cases h1:eid x=eid e
   ·obtain rfl:=QaA h.dyn.nd hx he h1
    exact ⟨_,(hmem _).2 (.inr (.inl rfl)),vwe⟩
   ·by_cases h2:eid x=eid f
    ·obtain rfl:=QaA h.dyn.nd hx hf h2
     exact ⟨_,(hmem _).2 (.inl rfl),vwf⟩
    ·exact ⟨x,(hmem x).2 (.inr (.inr ⟨hx,h1,h2⟩)),rfl⟩
 have hsize:w'.heap.size=w.heap.size:=by rw [hw']; simp
 have hcl:=Qjg hoc
 have hheap:∀ b,b≠k.c→w'.heap[b]? = w.heap[b]?:=fun b hb=>by
  rw [hw']
  show (w.heap.setIfInBounds k.c _)[b]? = _
  rw [Array.getElem?_setIfInBounds,if_neg (fun e=>hb e.symm)]
 have hcc:openCh w' k.c:=⟨s,r,tm,by rw [hw']; show (w.heap.setIfInBounds k.c _)[k.c]? = _; rw [Array.getElem?_setIfInBounds,if_pos rfl,if_pos hcl]⟩
 have op:∀ c,openCh w c→openCh w' c:=fun c ho=>by
  by_cases h1:c=k.c
  ·rw [h1]; exact hcc
  ·obtain ⟨s,r,tm,h2⟩:=ho
   exact ⟨s,r,tm,(hheap c h1).trans h2⟩
 have shn:∀ c,shutCh w c→c≠k.c:=fun c hs=>by
  rintro rfl
  obtain ⟨s,r,tm,h1⟩:=hs
  obtain ⟨s',r',tm',h2⟩:=hoc
  rw [h1] at h2; cases h2
 have sh:∀ c,shutCh w c→shutCh w' c:=fun c hs=>by
  have h1:=shn c hs
  obtain ⟨s,r,tm,h2⟩:=hs
  exact ⟨s,r,tm,(hheap c h1).trans h2⟩
 have relyO:∀ x∈l,∀ b,x.2.O b→b≠k.c:=fun x hx b hb=>by
  rintro rfl
  exact (h.own.chan (u:=vw e.2) (v:=vw x.2) ⟨e,he,rfl⟩ ⟨x,hx,rfl⟩ (QaC hkm)).1 hb
 have rl:∀ x∈l,Rely x.2 (x.2.now w'):=fun x hx=>by
  refine Qjv (h.dyn.rely x hx) ?_ ?_ ?_ (by rw [hsize]; exact Nat.le_refl _) fun b hb _=>hheap b (relyO x hx b hb)
  ·rw [hw']
  ·rw [hw']
  ·rw [hw']
 have tr:TrOk (LV l) w.heap.size (t ++ #[a,b,c,d']):=by
  have one:∀ (t:Trace) (op:MemOp),TrOk (LV l) w.heap.size t→op∈[a,b,c,d']→TrOk (LV l) w.heap.size (t ++ #[op]):=fun t op ht hop=>by
   obtain ⟨h1,h2,h3⟩:=hops op hop
   rcases h1 with h1 | h1
   ·exact ht.mute (u:=vw e.2) ⟨e,he,rfl⟩ hqe h1 h2 h3
   ·exact ht.mute (u:=vw f.2) ⟨f,hf,rfl⟩ hqf h1 h2 h3
  have:=one _ d' (one _ c (one _ b (one _ a h.tr (by simp)) (by simp)) (by simp)) (by simp)
  have e1:t ++ #[a] ++ #[b] ++ #[c] ++ #[d']=t ++ #[a,b,c,d']:=by apply Array.ext'; simp
  rwa [e1] at this
 have hget:∀ x∈l,eid x≠eid e→eid x≠eid f→gs'[eid x]? = gs[eid x]?:=fun x hx h1 h2=>hgo _ h1 h2
 refine ⟨?_,?_,⟨?_,?_,?_,?_,?_,?_,?_,?_,?_,?_,?_⟩⟩
 ·rw [hLV,hsize]; exact h.own
 ·rw [hLV,hsize]; exact tr
 ·intro j hj
  rw [hsz] at hj
  obtain ⟨x,hx,rfl⟩:=h.dyn.tot j hj
  by_cases h1:eid x=eid e
  ·exact ⟨_,(hmem _).2 (.inr (.inl rfl)),h1.symm⟩
  ·by_cases h2:eid x=eid f
   ·exact ⟨_,(hmem _).2 (.inl rfl),h2.symm⟩
   ·exact ⟨x,(hmem x).2 (.inr (.inr ⟨hx,h1,h2⟩)),rfl⟩
 ·intro x hx
  rw [hsz]
  rcases (hmem x).1 hx with rfl | rfl | ⟨h1,_⟩
  ·exact h.dyn.lt f hf
  ·exact h.dyn.lt e he
  ·exact h.dyn.lt x h1
 ·intro x hx k' hk'
  rw [hsz]
  rcases (hmem x).1 hx with rfl | rfl | ⟨h1,_⟩
  ·exact h.dyn.klt f hf k' hk'
  ·have hk2:k'∈{ k with vs } :: rest:=hk'
   rcases List.mem_cons.1 hk2 with rfl | hk2
   ·exact h.dyn.klt e he k hkm
   ·exact h.dyn.klt e he k' (by rw [hk]; simp [hk2])
  ·exact h.dyn.klt x h1 k' hk'
 ·exact QeC nd1' hm (by simp) fun x hx=>.inl (by obtain rfl:=List.mem_singleton.1 hx; rfl)
 ·intro x hx
  rcases (hmem x).1 hx with rfl | rfl | ⟨h1,h2,h3⟩
  ·exact ⟨gf,hgf,.inl ⟨⟨rfl,rfl,rfl⟩,rfl,hsf⟩⟩
  ·exact ⟨ge,hge,.inl ⟨⟨rfl,rfl,rfl⟩,rfl,hse⟩⟩
  ·obtain ⟨g0,h4,h5⟩:=h.dyn.sit x h1
   exact ⟨g0,by rw [hget x h1 h2 h3]; exact h4,QFF h5 fun k' _ ho=>op _ ho⟩
 ·intro x hx
  rcases (hmem x).1 hx with rfl | rfl | ⟨h1,_⟩
  ·have h2:=rl f hf
   refine ⟨rfl,rfl,rfl,by rw [hw']; exact hw1'.1.symm,by rw [hw']; exact hw1'.2.1.symm,by rw [hw']; exact hw1'.2.2.symm,?_,fun b hb hs=>?_⟩
   ·show w1.heap.size≤w'.heap.size
    rw [hsize]
    exact Nat.le_of_not_lt fun hlt=>by
     have h3:=hw1 w.heap.size
     rw [Array.getElem?_eq_none (Nat.le_refl _),Array.getElem?_eq_getElem hlt] at h3; cases h3
   ·show w'.heap[b]? = w1.heap[b]?
    rw [hw1,hheap b (relyO f hf b hb)]
  ·refine ⟨rfl,rfl,rfl,by rw [hw']; exact hw0'.1.symm,by rw [hw']; exact hw0'.2.1.symm,by rw [hw']; exact hw0'.2.2.symm,?_,fun b hb hs=>?_⟩
   ·show w0.heap.size≤w'.heap.size
    rw [hsize]
    exact Nat.le_of_not_lt fun hlt=>by
     have h3:=hw0 w.heap.size
     rw [Array.getElem?_eq_none (Nat.le_refl _),Array.getElem?_eq_getElem hlt] at h3; cases h3
   ·show w'.heap[b]? = w0.heap[b]?
    rw [hw0,hheap b (relyO e he b hb)]
  ·exact rl x h1
 ·intro x hx hqx
  rcases (hmem x).1 hx with rfl | rfl | ⟨h1,_⟩
  ·exact absurd (hqx.symm.trans hqf) (by simp)
  ·exact absurd (hqx.symm.trans hqe) (by simp)
  ·exact h.dyn.quitn x h1 hqx
 ·have main:∀ e0∈l,∀ k'∈e0.2.gh.conn,k'.kid≠k.kid→openCh w' k'.q∧∃ y∈(m1 ++ [(gf,(f.2.now w1).sent ⟨k.c,k.q,k.vs⟩ vs)] ++ m2),eid y=k'.kid ∧
    ((y.2.gh.quits=false∧y.2.gh.feed=some ⟨k'.c,k'.q,k'.vs⟩∧openCh w' k'.c)∨(y.2.gh.quits=true∧k'.vs=[]∧shutCh w' k'.c∧Shut (t ++ #[a,b,c,d']) k'.c k'.kid)):=by
   intro e0 he0 k' hk' hkn
   obtain ⟨h1,y,hy,h2,h3⟩:=h.dyn.sess e0 he0 k' hk'
   refine ⟨op _ h1,?_⟩
   have hyf:eid y≠eid f:=by rw [h2,←hkid]; exact hkn
   have h3':(y.2.gh.quits=false∧y.2.gh.feed=some ⟨k'.c,k'.q,k'.vs⟩∧openCh w' k'.c)∨(y.2.gh.quits=true∧k'.vs=[]∧shutCh w' k'.c∧Shut (t ++ #[a,b,c,d']) k'.c k'.kid):=by
    rcases h3 with ⟨h4,h5,h6⟩ | ⟨h4,h5,h6,h7⟩
    ·exact .inl ⟨h4,h5,op _ h6⟩
    ·refine .inr ⟨h4,h5,sh _ h6,h7.app fun o ho=>?_⟩
     have h8:=(hops o (by simpa using ho)).1
     rw [←h2]
     rcases h8 with h8 | h8
     ·rw [h8]
      intro hx
      obtain rfl:=QaA h.dyn.nd he hy hx
      rw [hqe] at h4; cases h4
     ·rw [h8]; exact fun hx=>hyf hx.symm
   by_cases hye:eid y=eid e
   ·obtain rfl:=QaA h.dyn.nd hy he hye
    exact ⟨_,(hmem _).2 (.inr (.inl rfl)),h2,h3'⟩
   ·exact ⟨y,(hmem y).2 (.inr (.inr ⟨hy,hye,hyf⟩)),h2,h3'⟩
  have nkid:∀ e0∈l,∀ k'∈e0.2.gh.conn,k'.kid=k.kid→eid e0=eid e:=fun e0 he0 k' hk' hx=>by
   have:=h.own.ku (vw e0.2) (vw e.2) ⟨e0,he0,rfl⟩ ⟨e,he,rfl⟩ _ (QaC hk') _ (QaC hkm) hx
   have h2:(vw e0.2).gh.id=(vw e.2).gh.id:=by rw [this]
   exact h2
  intro e0 he0 k' hk'
  rcases (hmem e0).1 he0 with rfl | rfl | ⟨h1,h2,h3⟩
  ·refine main f hf k' hk' fun hx=>?_
   exact hne (nkid f hf k' hk' hx).symm
  ·have hk2:k'∈{ k with vs } :: rest:=hk'
   rcases List.mem_cons.1 hk2 with rfl | hk2
   ·obtain ⟨h4,_⟩:=h.dyn.sess e he k hkm
    exact ⟨op _ h4,_,(hmem _).2 (.inl rfl),hkid.symm,.inl ⟨hqf,rfl,hcc⟩⟩
   ·refine main e he k' (by rw [hk]; simp [hk2]) fun hx=>?_
    have h4:=h.own.srt (vw e.2) ⟨e,he,rfl⟩
    have h5:(vw e.2).gh.conn=k.bare :: rest.map Conn.bare:=by show e.2.gh.conn.map Conn.bare=_; rw [hk]; rfl
    rw [h5] at h4
    have h6:=(List.pairwise_cons.1 h4).1 k'.bare (List.mem_map.2 ⟨k',hk2,rfl⟩)
    have h7:k'.kid < k.kid:=h6
    omega
  ·refine main e0 h1 k' hk' fun hx=>h2 (nkid e0 h1 k' hk' hx)
 ·have main:∀ x∈l,∀ d,x.2.gh.feed=some d→∃ e0∈(m1 ++ [(gf,(f.2.now w1).sent ⟨k.c,k.q,k.vs⟩ vs)] ++ m2),∃ k'∈e0.2.gh.conn,k'.kid=eid x:=by
   intro x hx d0 hd0
   obtain ⟨e0,he0,k',hk',h1⟩:=h.dyn.feed x hx d0 hd0
   by_cases h2:eid e0=eid e
   ·obtain rfl:=QaA h.dyn.nd he0 he h2
    refine ⟨_,(hmem _).2 (.inr (.inl rfl)),?_⟩
    rw [hk] at hk'
    rcases List.mem_cons.1 hk' with rfl | hk'
    ·exact ⟨_,List.mem_cons_self ..,h1⟩
    ·exact ⟨k',List.mem_cons_of_mem _ hk',h1⟩
   ·by_cases h3:eid e0=eid f
    ·obtain rfl:=QaA h.dyn.nd he0 hf h3
     exact ⟨_,(hmem _).2 (.inl rfl),k',hk',h1⟩
    ·exact ⟨e0,(hmem e0).2 (.inr (.inr ⟨he0,h2,h3⟩)),k',hk',h1⟩
  intro x hx d0 hd0
  rcases (hmem x).1 hx with rfl | rfl | ⟨h1,_⟩
  ·exact main f hf _ hd
  ·exact main e he d0 hd0
  ·exact main x h1 d0 hd0
 ·intro e0 he0 x hx k' rest' hk' hkx g1 g2 hg1 hg2 b1 b2
  have nbe:¬ ge.status=.blocked:=by rcases hse with h1 | h1 <;> rw [h1] <;> simp
  have nbf:¬ gf.status=.blocked:=by rcases hsf with h1 | h1 <;> rw [h1] <;> simp
  have bl:∀ x∈(m1 ++ [(gf,(f.2.now w1).sent ⟨k.c,k.q,k.vs⟩ vs)] ++ m2),∀ ga,gs'[eid x]? = some ga→ga.status=.blocked→x∈l∧gs[eid x]? = some ga:=fun x hx ga hga b=>by
   rcases (hmem x).1 hx with rfl | rfl | ⟨h1,h2,h3⟩
   ·have:some gf=some ga:=hgf.symm.trans hga
    obtain rfl:=Option.some.inj this
    exact absurd b nbf
   ·have:some ge=some ga:=hge.symm.trans hga
    obtain rfl:=Option.some.inj this
    exact absurd b nbe
   ·exact ⟨h1,by rw [←hget x h1 h2 h3]; exact hga⟩
  obtain ⟨y1,y2⟩:=bl e0 he0 g1 hg1 b1
  obtain ⟨y3,y4⟩:=bl x hx g2 hg2 b2
  exact h.dyn.both e0 y1 x y3 k' rest' hk' hkx g1 g2 y2 y4 b1 b2
 ·obtain ⟨e0,he0,h0⟩:=h.dyn.main
  by_cases h2:eid e0=eid e
  ·exact ⟨_,(hmem _).2 (.inr (.inl rfl)),h2.symm.trans h0⟩
  ·by_cases h3:eid e0=eid f
   ·exact ⟨_,(hmem _).2 (.inl rfl),h3.symm.trans h0⟩
   ·exact ⟨e0,(hmem e0).2 (.inr (.inr ⟨he0,h2,h3⟩)),h0⟩
end
end R
namespace R
section
variable {P:Program} {l l1 l2 m1 m2 es:List Elem} {e f:Elem} {gs gs':Array Goroutine} {w w':World} {t:Trace} {g g' ge gf child:Goroutine}
theorem Inv.pops (h:Inv P l gs w t) (hl:l=l1 ++ e :: l2) {k:Conn} {rest:List Conn} (hk:e.2.gh.conn=k :: rest) (hsh:shutCh w k.c)
  (hse:ge.status=.running∨ge.status=.finished) {y:MemOp} (hy:y.g=eid e∧y.act=.recvClosed k.c) :
  Inv P (l1 ++ [(ge,(e.2.now w).pop k rest)] ++ l2) (gs.setIfInBounds (eid e) ge) w (t ++ #[y]):=by
 have he:e∈l:=Qfk hl
 have hkm:k∈e.2.gh.conn:=by rw [hk]; simp
 have hL:LV l (vw e.2):=⟨e,he,rfl⟩
 have hqe:e.2.gh.quits=false:=by
  cases hq:e.2.gh.quits with
  | false=>rfl
  | true=>
   have h6:=(h.own.quit (vw e.2) hL hq).2.1
   have h7:=QaC hkm
   rw [h6] at h7; simp at h7
 have hup:eid e < k.bare.kid:=h.own.up _ hL _ (QaC hkm)
 have hup:eid e < k.kid:=hup
 obtain ⟨hoq,f,hf,hfk,hs⟩:=h.dyn.sess e he k hkm
 have hs':f.2.gh.quits=true∧k.vs=[]∧Shut t k.c k.kid:=by
  rcases hs with ⟨_,_,h3⟩ | ⟨h1,h2,_,h3⟩
  ·obtain ⟨s,r,tm,h1⟩:=hsh
   obtain ⟨s',r',tm',h2⟩:=h3
   rw [h1] at h2; cases h2
  ·exact ⟨h1,h2,h3⟩
 obtain ⟨hqf,hvs,hsh2⟩:=hs'
 have hnef:eid f≠eid e:=by rw [hfk]; omega
 have hmem:=fun x=>QbB (es:=[(ge,(e.2.now w).pop k rest)]) h.dyn.nd hl x
 have hLV:=Qhs h.dyn.nd hl (e':=(ge,(e.2.now w).pop k rest))
 have hcb:(vw e.2).gh.conn=k.bare :: rest.map Conn.bare:=by show e.2.gh.conn.map Conn.bare=_; rw [hk]; rfl
 have e1:vw ((e.2.now w).pop k rest)=⟨fun b=>(vw e.2).M b∨k.bare.F b∨b=k.bare.q,k.bare.X0,{ (vw e.2).gh with conn:=rest.map Conn.bare }⟩:=rfl
 have hkid:∀ v,LV l v→v.gh.id=k.bare.kid→v.gh.feed=none∧∀ b,¬ v.O b:=by
  rintro v ⟨x,hx,rfl⟩ hid
  obtain rfl:=QaA h.dyn.nd hx hf (hid.trans hfk.symm)
  exact ⟨(h.own.quit _ ⟨x,hx,rfl⟩ hqf).2.2.1,(h.own.quit _ ⟨x,hx,rfl⟩ hqf).2.2.2⟩
 have hlt:=h.dyn.lt e he
 have hget:∀ j,(gs.setIfInBounds (eid e) ge)[j]? = if j=eid e then some ge else gs[j]?:=fun j=>Qbv hlt
 have m1:(ge,(e.2.now w).pop k rest)∈l1 ++ [(ge,(e.2.now w).pop k rest)] ++ l2:=(hmem _).2 (.inl (by simp))
 refine ⟨?_,?_,⟨?_,?_,?_,?_,?_,?_,?_,?_,?_,?_,?_⟩⟩
 ·rw [hLV]; exact h.own.pop hL hcb hkid e1
 ·rw [hLV]; exact h.tr.pop h.own hL hqe hcb hsh2 e1 hy
 ·intro j hj
  obtain ⟨x,hx,rfl⟩:=h.dyn.tot j (by simpa using hj)
  by_cases h1:eid x=eid e
  ·exact ⟨_,m1,h1.symm⟩
  ·exact ⟨x,(hmem x).2 (.inr ⟨hx,h1⟩),rfl⟩
 ·intro x hx
  rw [Array.size_setIfInBounds]
  rcases (hmem x).1 hx with hx | ⟨hx,_⟩
  ·obtain rfl:=List.mem_singleton.1 hx; exact hlt
  ·exact h.dyn.lt x hx
 ·intro x hx k' hk'
  rw [Array.size_setIfInBounds]
  rcases (hmem x).1 hx with hx | ⟨hx,_⟩
  ·obtain rfl:=List.mem_singleton.1 hx
   exact h.dyn.klt e he k' (by rw [hk]; exact List.mem_cons_of_mem _ hk')
  ·exact h.dyn.klt x hx k' hk'
 ·exact QeC h.dyn.nd hl (by simp) fun x hx=>.inl (by obtain rfl:=List.mem_singleton.1 hx; rfl)
 ·intro x hx
  rw [hget]
  rcases (hmem x).1 hx with hx | ⟨hx,hn⟩
  ·obtain rfl:=List.mem_singleton.1 hx
   exact ⟨ge,if_pos (show eid e=eid e from rfl),.inl ⟨⟨rfl,rfl,rfl⟩,rfl,hse⟩⟩
  ·rw [if_neg hn]; exact h.dyn.sit x hx
 ·intro x hx
  rcases (hmem x).1 hx with hx | ⟨hx,hn⟩
  ·obtain rfl:=List.mem_singleton.1 hx; exact Rely.refl _
  ·exact h.dyn.rely x hx
 ·intro x hx hqx
  rcases (hmem x).1 hx with hx | ⟨hx,hn⟩
  ·obtain rfl:=List.mem_singleton.1 hx; exact absurd (hqx.symm.trans hqe) (by simp)
  ·exact h.dyn.quitn x hx hqx
 ·have main:∀ e0∈l,∀ k'∈e0.2.gh.conn,openCh w k'.q∧∃ y'∈(l1 ++ [(ge,(e.2.now w).pop k rest)] ++ l2),eid y'=k'.kid ∧
    ((y'.2.gh.quits=false∧y'.2.gh.feed=some ⟨k'.c,k'.q,k'.vs⟩∧openCh w k'.c)∨(y'.2.gh.quits=true∧k'.vs=[]∧shutCh w k'.c∧Shut (t ++ #[y]) k'.c k'.kid)):=by
   intro e0 he0 k' hk'
   obtain ⟨h1,z,hz,h2,h3⟩:=h.dyn.sess e0 he0 k' hk'
   refine ⟨h1,?_⟩
   have h3':=h3.imp id fun ⟨h4,h5,h6,h7⟩=>(⟨h4,h5,h6,h7.app fun o ho=>by
    obtain rfl:o=y:=by simpa using ho
    rw [hy.1,←h2]
    intro hx
    obtain rfl:=QaA h.dyn.nd he hz hx
    rw [hqe] at h4; cases h4⟩:z.2.gh.quits=true∧k'.vs=[]∧shutCh w k'.c∧Shut (t ++ #[y]) k'.c k'.kid)
   by_cases hze:eid z=eid e
   ·obtain rfl:=QaA h.dyn.nd hz he hze
    exact ⟨_,m1,h2,h3'⟩
   ·exact ⟨z,(hmem z).2 (.inr ⟨hz,hze⟩),h2,h3'⟩
  intro e0 he0 k' hk'
  rcases (hmem e0).1 he0 with he0 | ⟨he0,_⟩
  ·obtain rfl:=List.mem_singleton.1 he0
   exact main e he k' (by rw [hk]; exact List.mem_cons_of_mem _ hk')
  ·exact main e0 he0 k' hk'
 ·have main:∀ x∈l,∀ d,x.2.gh.feed=some d→∃ e0∈(l1 ++ [(ge,(e.2.now w).pop k rest)] ++ l2),∃ k'∈e0.2.gh.conn,k'.kid=eid x:=by
   intro x hx d0 hd0
   obtain ⟨e0,he0,k',hk',h1⟩:=h.dyn.feed x hx d0 hd0
   by_cases h2:eid e0=eid e
   ·obtain rfl:=QaA h.dyn.nd he0 he h2
    rw [hk] at hk'
    rcases List.mem_cons.1 hk' with rfl | hk'
    ·have hx2:eid x=eid f:=h1.symm.trans hfk.symm
     obtain rfl:=QaA h.dyn.nd hx hf hx2
     have h6:=(h.own.quit (vw x.2) ⟨x,hx,rfl⟩ hqf).2.2.1
     have h7:(vw x.2).gh.feed=(x.2.gh.feed).map fun f=>{ f with vs:=[] }:=rfl
     rw [h7,hd0] at h6; simp at h6
    ·exact ⟨_,m1,k',hk',h1⟩
   ·exact ⟨e0,(hmem e0).2 (.inr ⟨he0,h2⟩),k',hk',h1⟩
  intro x hx d0 hd0
  rcases (hmem x).1 hx with hx | ⟨hx,_⟩
  ·obtain rfl:=List.mem_singleton.1 hx
   exact main e he d0 hd0
  ·exact main x hx d0 hd0
 ·intro e0 he0 x hx k' rest' hk' hkx g1 g2 hg1 hg2 b1 b2
  have nbe:¬ ge.status=.blocked:=by rcases hse with h1 | h1 <;> rw [h1] <;> simp
  have bl:∀ x∈(l1 ++ [(ge,(e.2.now w).pop k rest)] ++ l2),∀ ga,(gs.setIfInBounds (eid e) ge)[eid x]? = some ga→ga.status=.blocked→x∈l∧gs[eid x]? = some ga:=fun x hx ga hga b=>by
   rcases (hmem x).1 hx with hx | ⟨hx,hn⟩
   ·obtain rfl:=List.mem_singleton.1 hx
    have hx:some ge=some ga:=(show (gs.setIfInBounds (eid e) ge)[eid e]? = some ge by rw [hget,if_pos rfl]).symm.trans hga
    obtain rfl:=Option.some.inj hx
    exact absurd b nbe
   ·rw [hget,if_neg hn] at hga
    exact ⟨hx,hga⟩
  obtain ⟨y1,y2⟩:=bl e0 he0 g1 hg1 b1
  obtain ⟨y3,y4⟩:=bl x hx g2 hg2 b2
  exact h.dyn.both e0 y1 x y3 k' rest' hk' hkx g1 g2 y2 y4 b1 b2
 ·obtain ⟨e0,he0,h0⟩:=h.dyn.main
  by_cases hne:eid e0=eid e
  ·exact ⟨_,m1,hne.symm.trans h0⟩
  ·exact ⟨e0,(hmem e0).2 (.inr ⟨he0,hne⟩),h0⟩
theorem Inv.closes (h:Inv P l gs w t) (hl:l=l1 ++ e :: l2) (hg:gs[eid e]? = some g) {d:Feed} (hd:e.2.gh.feed=some d) (hvs:d.vs=[]) (hm:mayWake P g=true) {n:Nat} (hq:QuitsIn P n g')
  {s r:Nat} {tm:Bool} (hs':g'.status=.running∨g'.status=.finished) :
  Inv P (l1 ++ [(g',(e.2.now w).quit)] ++ l2) ((gs.map (woken P g g' (w.shut d.c s r tm))).setIfInBounds (eid e) g') (w.shut d.c s r tm) (t ++ #[{ g:=eid e,fn:=g.frame.fn,pos:=g.frame.place,act:=.access ⟨.obj d.c,false,true⟩ },{ g:=eid e,fn:=g.frame.fn,pos:=g.frame.place,act:=.close d.c }]):=by
 have he:e∈l:=Qfk hl
 have hL:LV l (vw e.2):=⟨e,he,rfl⟩
 obtain ⟨p,hp,kp,hkp,hkid,hdk,hoc,hoq,hpe,hqp⟩:=h.feedOf he hd
 subst hdk
 have hid0:eid e≠0:=by
  have:eid p < kp.bare.kid:=h.own.up _ ⟨p,hp,rfl⟩ _ (QaC hkp)
  have:eid p < kp.kid:=this
  omega
 have hqe:e.2.gh.quits=false:=by
  cases hq:e.2.gh.quits with
  | false=>rfl
  | true=>
   have h6:=(h.own.quit (vw e.2) hL hq).2.2.1
   have h7:(vw e.2).gh.feed=(e.2.gh.feed).map fun f=>{ f with vs:=[] }:=rfl
   rw [h7,hd] at h6; simp at h6
 have hcb:(vw e.2).gh.conn=[]:=(h.own.kid _ hL hqe hid0).2.2.1
 have hce:e.2.gh.conn=[]:=List.map_eq_nil_iff.1 hcb
 have e1:vw ((e.2.now w).quit)=⟨fun _=>False,fun _=>False,{ (vw e.2).gh with feed:=none,quits:=true }⟩:=rfl
 have hmem:=fun x=>QbB (es:=[(g',(e.2.now w).quit)]) h.dyn.nd hl x
 have hLV:=Qhs h.dyn.nd hl (e':=(g',(e.2.now w).quit))
 have hlt:=Qbj hg
 have hsize:(w.shut kp.c s r tm).heap.size=w.heap.size:=by simp [World.shut]
 have hheap:∀ b,b≠kp.c→(w.shut kp.c s r tm).heap[b]? = w.heap[b]?:=fun b hb=>by
  show (w.heap.setIfInBounds kp.c _)[b]? = _
  rw [Array.getElem?_setIfInBounds,if_neg (fun e=>hb e.symm)]
 have hshut:shutCh (w.shut kp.c s r tm) kp.c:=⟨s,r,tm,by show (w.heap.setIfInBounds kp.c _)[kp.c]? = _; rw [Array.getElem?_setIfInBounds,if_pos rfl,if_pos (Qjg hoc)]⟩
 have op:∀ c,openCh w c→c≠kp.c→openCh (w.shut kp.c s r tm) c:=fun c ho hc=>by
  obtain ⟨s,r,tm,h2⟩:=ho
  exact ⟨s,r,tm,(hheap c hc).trans h2⟩
 have sh:∀ c,shutCh w c→shutCh (w.shut kp.c s r tm) c:=fun c hs=>by
  have h1:c≠kp.c:=by
   rintro rfl
   obtain ⟨s,r,tm,h1⟩:=hs
   obtain ⟨s',r',tm',h2⟩:=hoc
   rw [h1] at h2; cases h2
  obtain ⟨s,r,tm,h2⟩:=hs
  exact ⟨s,r,tm,(hheap c h1).trans h2⟩
 have relyO:∀ x∈l,∀ b,x.2.O b→b≠kp.c:=fun x hx b hb=>by
  rintro rfl
  exact (h.own.chan (u:=vw p.2) (v:=vw x.2) ⟨p,hp,rfl⟩ ⟨x,hx,rfl⟩ (QaC hkp)).1 hb
 have nkid:∀ e0∈l,∀ k'∈e0.2.gh.conn,k'.kid=kp.kid→e0=p∧k'=kp:=fun e0 he0 k' hk' hx=>by
  have h1:=h.own.ku (vw e0.2) (vw p.2) ⟨e0,he0,rfl⟩ ⟨p,hp,rfl⟩ _ (QaC hk') _ (QaC hkp) hx
  have h2:(vw e0.2).gh.id=(vw p.2).gh.id:=by rw [h1]
  obtain rfl:=QaA h.dyn.nd he0 hp h2
  refine ⟨rfl,?_⟩
  have h3:=h.own.srt (vw e0.2) ⟨e0,he0,rfl⟩
  have h4:e0.2.gh.conn.Pairwise (fun a b=>b.kid < a.kid):=by
   have:(e0.2.gh.conn.map Conn.bare).Pairwise (fun a b=>b.kid < a.kid):=h3
   rw [List.pairwise_map] at this
   exact this
  exact Qjk h4 hk' hkp hx
 have chn:∀ e0∈l,∀ k'∈e0.2.gh.conn,k'.kid≠kp.kid→k'.c≠kp.c:=fun e0 he0 k' hk' hx=>(h.chanD he0 hp hk' hkp hx).1
 have qn:∀ e0∈l,∀ k'∈e0.2.gh.conn,k'.q≠kp.c:=fun e0 he0 k' hk' hx=>by
  by_cases h1:k'.kid=kp.kid
  ·obtain ⟨rfl,rfl⟩:=nkid e0 he0 k' hk' h1
   exact h.cq hp hkp hx.symm
  ·exact (h.chanD hp he0 hkp hk' (fun x=>h1 x.symm)).2.1 hx.symm
 have sz':((gs.map (woken P g g' (w.shut kp.c s r tm))).setIfInBounds (eid e) g').size=gs.size:=by simp
 have hget:∀ j,((gs.map (woken P g g' (w.shut kp.c s r tm))).setIfInBounds (eid e) g')[j]? = if j=eid e then some g' else (gs[j]?).map (woken P g g' (w.shut kp.c s r tm)):=fun j=>by
  rw [Qbv (by simpa using hlt),Array.getElem?_map]
 have nb:¬ g'.status=.blocked:=by rcases hs' with h1 | h1 <;> rw [h1] <;> simp
 have hwake:∀ o:Goroutine,woken P g g' (w.shut kp.c s r tm) o=o.again (w.shut kp.c s r tm):=fun o=>by
  unfold woken
  have:(mayWake P g && g'.status != .blocked && g'.status != .waiting)=true:=by
   rw [hm]
   rcases hs' with h1 | h1 <;> rw [h1] <;> rfl
  rw [this,if_pos rfl]
 have others:∀ x∈l,eid x≠eid e→∃ gx gx',gs[eid x]? = some gx∧((gs.map (woken P g g' (w.shut kp.c s r tm))).setIfInBounds (eid e) g')[eid x]? = some gx'∧Sit P x (w.shut kp.c s r tm) gx'∧(gx'.status=.blocked→gx'=gx):=fun x hx hn=>by
  obtain ⟨gx,h1,h2⟩:=h.dyn.sit x hx
  by_cases hpx:∃ k rest,x.2.gh.conn=k :: rest∧k.kid=kp.kid∧gx.status=.blocked
  ·obtain ⟨k,rest,h3,h4,h5⟩:=hpx
   obtain ⟨rfl,rfl⟩:=nkid x hx k (by rw [h3]; simp) h4
   rcases h2 with ⟨_,_,h6⟩ | ⟨hrun,hpk⟩
   ·rcases h6 with h6 | h6 <;> rw [h6] at h5 <;> cases h5
   ·cases hpk with
    | recv k2 rest2 z shp hk2 ho2 hst=>
     rw [h3] at hk2
     obtain ⟨rfl,rfl⟩:=List.cons.inj hk2
     refine ⟨_,{ parked (core x.1) #[rcase k.c z] shp with status:=.running },h1,?_,.inl ⟨⟨rfl,rfl,rfl⟩,hrun.symm,.inl rfl⟩,fun hb=>by cases hb⟩
     rw [hget,if_neg hn,h1,Option.map_some,hwake]
     congr 1
     obtain ⟨s2,r2,tm2,h7⟩:=hshut
     exact again_recv_closed h7
    | send d2 v2 vs2 z z' shp hd2 hv2 hst=>
     have h6:=h.own.kid (vw x.2) ⟨x,hx,rfl⟩ hqp (fun h0=>by
      have:=h.own.main (vw x.2) ⟨x,hx,rfl⟩ h0
      have h7:(vw x.2).gh.feed=(x.2.gh.feed).map fun f=>{ f with vs:=[] }:=rfl
      rw [h7,hd2] at this; simp at this)
     have h7:x.2.gh.conn=[]:=List.map_eq_nil_iff.1 h6.2.2.1
     rw [h3] at h7; cases h7
  ·have hstay:=h.stays (w':=w.shut kp.c s r tm) hx h1 h2 (fun hb k rest hk ho=>op _ ho (chn x hx k (by rw [hk]; simp) fun hx2=>hpx ⟨k,rest,hk,hx2,hb⟩))
    (fun e0 he0 k hk hkx=>⟨fun ho=>op _ ho (chn e0 he0 k hk (by rw [hkx,hkid]; exact hn)),fun ho=>op _ ho (qn e0 he0 k hk)⟩) g g'
   refine ⟨gx,gx,h1,?_,hstay.2,fun _=>rfl⟩
   rw [hget,if_neg hn,h1,Option.map_some,hstay.1]
 have gete:((gs.map (woken P g g' (w.shut kp.c s r tm))).setIfInBounds (eid e) g')[eid e]? = some g':=by rw [hget,if_pos rfl]
 have m1:(g',(e.2.now w).quit)∈l1 ++ [(g',(e.2.now w).quit)] ++ l2:=(hmem _).2 (.inl (by simp))
 have hdb:(vw e.2).gh.feed=some ⟨kp.c,kp.q,[]⟩:=by show (e.2.gh.feed).map (fun f=>{ f with vs:=[] })=_; rw [hd]; rfl
 have happ:∀ a b:MemOp,t ++ #[a,b]=t ++ #[a] ++ #[b]:=fun a b=>by apply Array.ext'; simp
 have hmute:TrOk (LV l) w.heap.size (t ++ #[{ g:=eid e,fn:=g.frame.fn,pos:=g.frame.place,act:=.access ⟨.obj kp.c,false,true⟩ },{ g:=eid e,fn:=g.frame.fn,pos:=g.frame.place,act:=.close kp.c }]):=by
  rw [happ]
  exact (h.tr.look h.own hL hqe hdb rfl rfl).mute hL hqe rfl rfl (by simp)
 refine ⟨?_,?_,⟨?_,?_,?_,?_,?_,?_,?_,?_,?_,?_,?_⟩⟩
 ·rw [hLV,hsize]; exact h.own.close hL hcb hid0 e1
 ·rw [hLV,hsize]
  exact hmute.close h.own hL hcb ⟨vw p.2,⟨p,hp,rfl⟩,hqp,hpe,kp.bare,QaC hkp,hkid⟩ e1
 ·intro j hj
  rw [sz'] at hj
  obtain ⟨x,hx,rfl⟩:=h.dyn.tot j hj
  by_cases h1:eid x=eid e
  ·exact ⟨_,m1,h1.symm⟩
  ·exact ⟨x,(hmem x).2 (.inr ⟨hx,h1⟩),rfl⟩
 ·intro x hx
  rw [sz']
  rcases (hmem x).1 hx with hx | ⟨hx,_⟩
  ·obtain rfl:=List.mem_singleton.1 hx; exact hlt
  ·exact h.dyn.lt x hx
 ·intro x hx k' hk'
  rw [sz']
  rcases (hmem x).1 hx with hx | ⟨hx,_⟩
  ·obtain rfl:=List.mem_singleton.1 hx
   exact h.dyn.klt e he k' hk'
  ·exact h.dyn.klt x hx k' hk'
 ·exact QeC h.dyn.nd hl (by simp) fun x hx=>.inl (by obtain rfl:=List.mem_singleton.1 hx; rfl)
 ·intro x hx
  rcases (hmem x).1 hx with hx | ⟨hx,hn⟩
  ·obtain rfl:=List.mem_singleton.1 hx
   exact ⟨g',gete,.inl ⟨⟨rfl,rfl,rfl⟩,rfl,hs'⟩⟩
  ·obtain ⟨gx,gx',h1,h2,h3,_⟩:=others x hx hn
   exact ⟨gx',h2,h3⟩
 ·intro x hx
  rcases (hmem x).1 hx with hx | ⟨hx,hn⟩
  ·obtain rfl:=List.mem_singleton.1 hx
   refine ⟨rfl,rfl,rfl,rfl,rfl,rfl,by rw [show ((e.2.now w).quit.now (w.shut kp.c s r tm)).heap.size=w.heap.size from hsize]; exact Nat.le_refl _,fun b hb _=>?_⟩
   rcases hb with hb | hb
   ·exact hb.elim
   ·exact hb.elim
  ·exact Qjv (h.dyn.rely x hx) rfl rfl rfl (by rw [hsize]; exact Nat.le_refl _) fun b hb _=>hheap b (relyO x hx b hb)
 ·intro x hx hqx
  rcases (hmem x).1 hx with hx | ⟨hx,hn⟩
  ·obtain rfl:=List.mem_singleton.1 hx; exact ⟨n,hq⟩
  ·exact h.dyn.quitn x hx hqx
 ·intro e0 he0 k' hk'
  rcases (hmem e0).1 he0 with he0 | ⟨he1,hn0⟩
  ·obtain rfl:=List.mem_singleton.1 he0
   rw [show ((g',(e.2.now w).quit):Elem).2.gh.conn=e.2.gh.conn from rfl,hce] at hk'
   simp at hk'
  ·obtain ⟨h1,z,hz,h2,h3⟩:=h.dyn.sess e0 he1 k' hk'
   refine ⟨op _ h1 (qn e0 he1 k' hk'),?_⟩
   by_cases hze:eid z=eid e
   ·obtain rfl:=QaA h.dyn.nd hz he hze
    obtain ⟨rfl,rfl⟩:=nkid e0 he1 k' hk' (h2.symm.trans hkid.symm)
    refine ⟨_,m1,h2,.inr ⟨rfl,hvs,hshut,?_⟩⟩
    refine ⟨t.size+1,{ g:=eid z,fn:=g.frame.fn,pos:=g.frame.place,act:=.close k'.c },by rw [Array.getElem?_append_right (Nat.le_succ _)]; simp,h2,rfl,fun i op' hi _=>?_⟩
    have:=lt_size_of_getElem? hi
    simp at this
    omega
   ·refine ⟨z,(hmem z).2 (.inr ⟨hz,hze⟩),h2,?_⟩
    rcases h3 with ⟨h4,h5,h6⟩ | ⟨h4,h5,h6,h7⟩
    ·exact .inl ⟨h4,h5,op _ h6 (chn e0 he1 k' hk' (by rw [←h2,hkid]; exact hze))⟩
    ·refine .inr ⟨h4,h5,sh _ h6,h7.app fun o ho=>?_⟩
     have ho2:o.g=eid e:=by
      simp only [List.mem_toArray,List.mem_cons,List.not_mem_nil,or_false] at ho
      rcases ho with rfl | rfl <;> rfl
     rw [ho2,←h2]; exact fun x=>hze x.symm
 ·intro x hx d0 hd0
  rcases (hmem x).1 hx with hx | ⟨hx,hn⟩
  ·obtain rfl:=List.mem_singleton.1 hx
   cases hd0
  ·obtain ⟨e0,he0,k',hk',h1⟩:=h.dyn.feed x hx d0 hd0
   by_cases h2:eid e0=eid e
   ·obtain rfl:=QaA h.dyn.nd he0 he h2
    rw [hce] at hk'; simp at hk'
   ·exact ⟨e0,(hmem e0).2 (.inr ⟨he0,h2⟩),k',hk',h1⟩
 ·intro e0 he0 x hx k' rest' hk' hkx g1 g2 hg1 hg2 b1 b2
  have bl:∀ x∈(l1 ++ [(g',(e.2.now w).quit)] ++ l2),∀ ga,((gs.map (woken P g g' (w.shut kp.c s r tm))).setIfInBounds (eid e) g')[eid x]? = some ga→ga.status=.blocked→x∈l∧gs[eid x]? = some ga:=fun x hx ga hga b=>by
   rcases (hmem x).1 hx with hx | ⟨hx,hn⟩
   ·obtain rfl:=List.mem_singleton.1 hx
    have hx:some g'=some ga:=gete.symm.trans hga
    obtain rfl:=Option.some.inj hx
    exact absurd b nb
   ·obtain ⟨gx,gx',h1,h2,_,h4⟩:=others x hx hn
    rw [hga] at h2
    obtain rfl:=Option.some.inj h2
    rw [h4 b]
    exact ⟨hx,h1⟩
  obtain ⟨y1,y2⟩:=bl e0 he0 g1 hg1 b1
  obtain ⟨y3,y4⟩:=bl x hx g2 hg2 b2
  exact h.dyn.both e0 y1 x y3 k' rest' hk' hkx g1 g2 y2 y4 b1 b2
 ·obtain ⟨e0,he0,h0⟩:=h.dyn.main
  by_cases hne:eid e0=eid e
  ·exact ⟨_,m1,hne.symm.trans h0⟩
  ·exact ⟨e0,(hmem e0).2 (.inr ⟨he0,hne⟩),h0⟩
end
end R
namespace R
section
variable {P:Program} {gs:Array Goroutine} {w w₁:World} {sl:Option (Nat×Nat)} {i j:Nat} {g g₂ gj:Goroutine} {es:Array Event} {c q cap s r:Nat} {tm closed:Bool} {v z z' zj zq:Value}
 {blocking:Bool} {shape shj:CommShape}
theorem QE4 {o:Outcome} {w':World} (hi:gs[i]? = some g) (h:stepG P (i == 0) g w=.ended o w' es):runT P (crowd gs w sl) i=(.ended o w',MemOp.ofEvents i g.frame.fn g.frame.place es):=by
 obtain ⟨hlt,rfl⟩:=Array.getElem?_eq_some_iff.1 hi
 have hsw:=swapAt_of_lt hlt { (default:Goroutine) with status:=.finished }
 show runT P { world:=w,gs:=gs,rest:={ timers:=#[],alone:=none,slice:=sl } } i=_
 unfold runT
 simp only [hsw,h,GStep.es]
theorem QwF (hi:gs[i]? = some g) (h:stepG P (i == 0) g w=.comm g₂ #[rcase c z] blocking shape w₁ es) (hc:w₁.heap[c]? = some (.chan cap #[] closed s r tm))
  (hij:j≠i) (hj:gs[j]? = some (parked gj #[scase c v zj,rcase q zq] shj)) (hp:partners (gs.setIfInBounds i ph) c true=[(j,0)]) :
  runT P (crowd gs w sl) i=(.next (crowd ((gs.setIfInBounds j (gj.finishComm P #[scase c v zj,rcase q zq] shj 0 undef false)).setIfInBounds i (g₂.finishComm P #[rcase c z] shape 0 v true)) (w₁.setChan c cap #[] closed (s+1) (r+1) tm) sl),
   MemOp.ofEvents i g.frame.fn g.frame.place es ++ #[{ g:=j,fn:=gj.frame.fn,pos:=gj.frame.place,act:=.send c s },{ g:=i,fn:=g₂.frame.fn,pos:=g₂.frame.place,act:=.recv c r cap },
    { g:=j,fn:=gj.frame.fn,pos:=gj.frame.place,act:=.sendDone c s },{ g:=i,fn:=g₂.frame.fn,pos:=g₂.frame.place,act:=.recvDone c r }]):=by
 rw [runT_crowd_comm hi h]
 have hj':=stand_get (i:=i) hij hj
 have hfp:=finishPartner_at P (gs.setIfInBounds i ph) hj' (cs:=#[scase c v zj,rcase q zq]) (sh:=shj) rfl 0 undef
 have hgd:(gs.setIfInBounds i ph).getD j default=parked gj #[scase c v zj,rcase q zq] shj:=by rw [Array.getD_eq_getD_getElem?,hj']; rfl
 have hov:offeredValue (gs.setIfInBounds i ph) j 0=v:=by simp [offeredValue,hj',parked,scase]
 simp [communicate,ways,rcase,hc,hp,choose,Sem.run,Question.forced,bind,Sem.bind,pure,World.setChan,crowd,hfp,hgd,hov,set_stand2,finishComm_parked,scase,parked]
 rfl
theorem QwG (hi:gs[i]? = some g) (h:stepG P (i == 0) g w=.comm g₂ #[scase c v z,rcase q z'] blocking shape w₁ es) (hc:w₁.heap[c]? = some (.chan cap #[] false s r tm))
  (hq:NoWays w₁ (gs.setIfInBounds i ph) (rcase q z')) (hij:j≠i) (hj:gs[j]? = some (parked gj #[rcase c zj] shj)) (hp:partners (gs.setIfInBounds i ph) c false=[(j,0)]) :
  runT P (crowd gs w sl) i=(.next (crowd ((gs.setIfInBounds j (gj.finishComm P #[rcase c zj] shj 0 v true)).setIfInBounds i (g₂.finishComm P #[scase c v z,rcase q z'] shape 0 undef false)) (w₁.setChan c cap #[] false (s+1) (r+1) tm) sl),
   MemOp.ofEvents i g.frame.fn g.frame.place es ++ #[{ g:=i,fn:=g₂.frame.fn,pos:=g₂.frame.place,act:=.send c s },{ g:=j,fn:=gj.frame.fn,pos:=gj.frame.place,act:=.recv c r cap },
    { g:=i,fn:=g₂.frame.fn,pos:=g₂.frame.place,act:=.sendDone c s },{ g:=j,fn:=gj.frame.fn,pos:=gj.frame.place,act:=.recvDone c r }]):=by
 have hw:ways w₁ (gs.setIfInBounds i ph) (scase c v z)=[.partner j 0]:=by simp [ways,scase,hc,hp]
 have hj':=stand_get (i:=i) hij hj
 have hfp:=finishPartner_at P (gs.setIfInBounds i ph) hj' (cs:=#[rcase c zj]) (sh:=shj) rfl 0 v
 have hgd:(gs.setIfInBounds i ph).getD j default=parked gj #[rcase c zj] shj:=by rw [Array.getD_eq_getD_getElem?,hj']; rfl
 have ho:∀ (m:Nat) (c':CommCase),m≠0→(#[scase c v z,rcase q z']:Array CommCase)[m]? = some c'→NoWays w₁ (gs.setIfInBounds i ph) c':=fun m c' hm hc'=>by
  match m,hm,hc' with
  | 1,_,hc'=>simp at hc'; subst hc'; exact hq
  | m+2,_,hc'=>simp at hc'
 have hk:(#[scase c v z,rcase q z']:Array CommCase)[0]? = some (scase c v z):=rfl
 rw [runT_crowd_comm hi h]
 unfold communicate
 simp only [ready_one hk (by rw [hw]; simp) ho,hw]
 rw [if_neg]
 ·simp [choose,Sem.run,Question.forced,bind,Sem.bind,pure,rcase,crowd,hc,hfp,hgd,set_stand2,finishComm_parked,scase,parked,World.setChan]
  rfl
 ·rw [Bool.not_eq_true]; exact any_ill (made_of_one hk (made_send v z hc) ho)
end
inductive Pool (P:Program) (Stop:Goroutine→WM→Prop):List Elem→Prop
 | mk {l:List Elem} (K:List Elem→Elem→List Elem→List Elem→Prop) (h:∀ l1 e l2,l=l1 ++ e :: l2→Moves P Stop e.1 e.2 (K l1 e l2))
   (hk:∀ l1 e l2,l=l1 ++ e :: l2→∀ es,K l1 e l2 es→Pool P Stop (l1 ++ es ++ l2)):Pool P Stop l
section
variable {P:Program} {Stop:Goroutine→WM→Prop}
theorem QCc:Pool P Stop []:=.mk (fun _ _ _ _=>False) (fun l1 e l2 h=>by simp at h) (fun l1 e l2 h=>by simp at h)
theorem QCa {g:Goroutine} {w:WM} (h:Run P Stop g w):∀ l,Pool P Stop l→Pool P Stop ((g,w) :: l):=by
 induction h with
 | @mk g w K hm hk ih=>
  intro l hl
  induction hl with
  | @mk l K' hm' hk' ih'=>
   refine .mk (fun l1 e l2 es=>match l1 with | []=>K es | _ :: l1'=>K' l1' e l2 es) ?_ ?_
   ·intro l1 e l2 he
    cases l1 with
    | nil=>
     simp only [List.nil_append,List.cons.injEq] at he
     obtain ⟨rfl,rfl⟩:=he
     exact hm
    | cons a l1'=>
     simp only [List.cons_append,List.cons.injEq] at he
     obtain ⟨rfl,he⟩:=he
     exact hm' l1' e l2 he
   ·intro l1 e l2 he es hes
    cases l1 with
    | nil=>
     simp only [List.nil_append,List.cons.injEq] at he
     obtain ⟨rfl,rfl⟩:=he
     have key:∀ es':List Elem,(∀ e∈es',e∈es)→Pool P Stop (es' ++ l):=by
      intro es'
      induction es' with
      | nil=>exact fun _=>.mk K' hm' hk'
      | cons a r ihr=>exact fun hs=>ih es hes a (hs a (by simp)) _ (ihr fun e he=>hs e (by simp [he]))
     exact key es fun e he=>he
    | cons a l1'=>
     simp only [List.cons_append,List.cons.injEq] at he
     obtain ⟨rfl,he⟩:=he
     exact ih' l1' e l2 he es hes
theorem Moves.status {g:Goroutine} {w:WM} {K:List Elem→Prop} (h:Moves P Stop g w K):g.status=.running∨(g.status=.finished∧w.gh.quits=true):=by
 cases h with
 | done hs hq=>exact .inr ⟨hs,hq⟩
 | _=>exact .inl ‹_›
end
theorem QrE {P:Program} {g h:Goroutine} (hs:Same g h) (hst:g.status=h.status):∀ {n:Nat},QuitsIn P n h→QuitsIn P n g
 | 0,hq=>hst.trans hq
 | n+1,hq=>hq.elim (fun x=>.inl (hst.trans x)) fun ⟨h1,g',h2,h3⟩=>.inr ⟨hst.trans h1,g',fun w=>(stepG_same hs.1 hs.2.1 hs.2.2 w).trans (h2 w),h3⟩
section
variable {P:Program} {Post:Value→World→Prop}
def AtEnd (P:Program) (Post:Value→World→Prop) (g:Goroutine) (w:WM):Prop:=
 w.gh.id=0∧w.gh.conn=[]∧∃ v es,stepG P true g w.w=.ended (.done v) w.w es∧EvIn w es∧NoX es∧Post v w.w
def Ends (P:Program) (Post:Value→World→Prop) (m:Machine) (t:Trace):Prop:=
 ∃ n last o w t',runNT P (n+1) m t=(.ended o w,t')∧runN P n m=.next last∧step P last=.ended o w∧Conc.Good P Post last o w t'
theorem Ends.last {m:Machine} {t:Trace} {o:Outcome} {w:World} {ops:Trace} (h:stepT P m=(.ended o w,ops)) (hg:Conc.Good P Post m o w (t ++ ops)):Ends P Post m t:=
 ⟨0,m,o,w,t ++ ops,by simp [runNT,h],rfl,by simp [step,h],hg⟩
theorem Ends.step {m m':Machine} {t ops:Trace} (h:stepT P m=(.next m',ops)) (he:Ends P Post m' (t ++ ops)):Ends P Post m t:=by
 obtain ⟨n,last,o,w,t',h1,h2,h3,h4⟩:=he
 exact ⟨n+1,last,o,w,t',by rw [runNT_succ_next h]; exact h1,by rw [runN_succ_next h]; exact h2,h3,h4⟩
def QEnds (P:Program) (Post:Value→World→Prop) (l:List Elem):Prop:=∀ gs w sl t,Inv P l gs w t→Ends P Post (crowd gs w sl) t
def QNext (P:Program) (Post:Value→World→Prop) (l:List Elem):Prop:=
 ∀ l1 e l2,l=l1 ++ e :: l2→∃ K,Moves P (AtEnd P Post) e.1 e.2 K∧∀ es,K es→QEnds P Post (l1 ++ es ++ l2)
variable {l l1 l2:List Elem} {e f:Elem} {gs:Array Goroutine} {w:World} {sl:Option (Nat×Nat)} {t:Trace} {g g':Goroutine}
theorem QNext.moves (h:QNext P Post l) (he:e∈l):∃ K,Moves P (AtEnd P Post) e.1 e.2 K:=by
 obtain ⟨l1,l2,hl⟩:=List.append_of_mem he
 obtain ⟨K,hK,_⟩:=h l1 e l2 hl
 exact ⟨K,hK⟩
theorem QNext.status (h:QNext P Post l) (he:e∈l):e.1.status=.running∨e.1.status=.finished:=by
 obtain ⟨K,hK⟩:=h.moves he
 exact hK.status.imp id (·.1)
theorem Parked.blocked {e:Elem} {g:Goroutine} (h:Parked P e w g):g.status=.blocked:=by cases h <;> rfl
theorem Inv.awake (h:Inv P l gs w t):∀ g∈gs,awake g:=by
 intro g hg tt
 obtain ⟨i,hi,rfl⟩:=Array.mem_iff_getElem.1 hg
 obtain ⟨e,he,heid⟩:=h.dyn.tot i hi
 obtain ⟨g',h1,h2⟩:=h.dyn.sit e he
 rw [heid,Array.getElem?_eq_getElem hi] at h1
 obtain rfl:=Option.some.inj h1
 rcases h2 with ⟨_,_,h3 | h3⟩ | ⟨_,h3⟩
 ·rw [h3]; simp
 ·rw [h3]; simp
 ·rw [h3.blocked]; simp
theorem Inv.some_runs (h:Inv P l gs w t) (hN:QNext P Post l):∃ (i:Nat) (g:Goroutine),gs[i]? = some g∧g.status=.running:=by
 apply Classical.byContradiction
 intro hno
 have hno:∀ (i:Nat) (g:Goroutine),gs[i]? = some g→g.status≠.running:=fun i g h1 h2=>hno ⟨i,g,h1,h2⟩
 have alive:∀ x∈l,x.2.gh.quits=false→∃ g,gs[eid x]? = some g∧x.1.status=.running∧Parked P x w g:=fun x hx hq=>by
  obtain ⟨gx,h1,h2⟩:=h.dyn.sit x hx
  rcases h2 with ⟨_,h3,h4⟩ | h2
  ·rcases h4 with h4 | h4
   ·exact absurd h4 (hno _ _ h1)
   ·obtain ⟨K,hK⟩:=hN.moves hx
    rcases hK.status with h5 | ⟨_,h5⟩
    ·rw [←h3,h4] at h5; cases h5
    ·rw [hq] at h5; cases h5
  ·exact ⟨gx,h1,h2⟩
 obtain ⟨e0,he0,h0⟩:=h.dyn.main
 have hq0:e0.2.gh.quits=false:=by
  cases hq:e0.2.gh.quits with
  | false=>rfl
  | true=>exact absurd h0 (h.own.quit (vw e0.2) ⟨e0,he0,rfl⟩ hq).1
 obtain ⟨g0,h1,_,h2⟩:=alive e0 he0 hq0
 cases h2 with
 | send d v vs z z' sh hd hv hst=>
  have:=h.own.main (vw e0.2) ⟨e0,he0,rfl⟩ h0
  have h7:(vw e0.2).gh.feed=(e0.2.gh.feed).map fun f=>{ f with vs:=[] }:=rfl
  rw [h7,hd] at this; simp at this
 | recv k rest z sh hk ho hst=>
  have hkm:k∈e0.2.gh.conn:=by rw [hk]; simp
  obtain ⟨_,f,hf,hfk,h3⟩:=h.dyn.sess e0 he0 k hkm
  rcases h3 with ⟨h3,h4,h5⟩ | ⟨_,_,h5,_⟩
  ·obtain ⟨gf,h6,_,h7⟩:=alive f hf h3
   refine h.dyn.both e0 he0 f hf k rest hk hfk.symm _ _ h1 h6 rfl ?_
   cases h7 <;> rfl
  ·obtain ⟨s,r,tm,h6⟩:=h5
   obtain ⟨s',r',tm',h7⟩:=ho
   rw [h6] at h7; cases h7
def cnt (gs:Array Goroutine):Nat:=gs.toList.countP fun g=>decide (g.status=.running)
theorem Qmj {i:Nat} (hg:gs[i]? = some g) (hr:g.status=.running) (hb:g'.status=.blocked):cnt (gs.setIfInBounds i g') < cnt gs:=by
 obtain ⟨hlt,rfl⟩:=Array.getElem?_eq_some_iff.1 hg
 unfold cnt
 rw [Array.toList_setIfInBounds,List.countP_set (by simpa using hlt)]
 have h1:decide ((gs.toList[i]'(by simpa using hlt)).status=.running)=true:=by simpa using hr
 have h2:decide (g'.status=.running)=false:=by rw [hb]; rfl
 simp only [h1,h2,if_true,Bool.false_eq_true,if_false,Nat.add_zero]
 have:0 < gs.toList.countP fun g=>decide (g.status=.running):=List.countP_pos_iff.2 ⟨gs.toList[i]'(by simpa using hlt),List.getElem_mem _,h1⟩
 omega
theorem Inv.over (h:Inv P l gs w t) (he:e∈l) (hg:gs[eid e]? = some g) (hsm:Same g e.1) (hend:AtEnd P Post e.1 (e.2.now w)) (w0:World) (sl0:Option (Nat×Nat)):∃ o w' ops,runT P (crowd gs w sl) (eid e)=(.ended o w',ops)∧Conc.Good P Post (crowd gs w0 sl0) o w' (t ++ ops):=by
 obtain ⟨hid,hconn,v,es,hst,hev,hx,hpost⟩:=hend
 have hid:eid e=0:=hid
 have hst':stepG P (eid e == 0) g w=.ended (.done v) w es:=by
  rw [stepG_same hsm.1 hsm.2.1 hsm.2.2,hid]; exact hst
 have hL:LV l (vw e.2):=⟨e,he,rfl⟩
 have hqe:e.2.gh.quits=false:=by
  cases hq:e.2.gh.quits with
  | false=>rfl
  | true=>exact absurd hid (h.own.quit (vw e.2) hL hq).1
 obtain ⟨o1,o2,o3⟩:=Qq2 (fn:=g.frame.fn) (pos:=g.frame.place) (i:=eid e) hev hx
 have tr:TrOk (LV l) w.heap.size (t ++ MemOp.ofEvents (eid e) g.frame.fn g.frame.place es):=by
  have:=h.tr.own h.own hL hqe (Nat.le_refl _) (u':=vw e.2) (fun b=>⟨.inl,fun hb=>hb.elim id fun hb=>by omega⟩) rfl rfl o2 o1 o3
  rwa [Qs5 hL fun v hv hid=>h.own.uniq _ _ hv hL hid] at this
 have alone:∀ n,∀ x∈l,eid x=n→x.2.gh.quits=false→eid x=0:=by
  intro n
  induction n using Nat.strongRecOn with
  | _ n ih=>
   intro x hx hn hq
   apply Classical.byContradiction
   intro h0
   obtain ⟨_,_,_,hfd⟩:=h.own.kid (vw x.2) ⟨x,hx,rfl⟩ hq h0
   cases hd:x.2.gh.feed with
   | none=>
    have h7:(vw x.2).gh.feed=(x.2.gh.feed).map fun f=>{ f with vs:=[] }:=rfl
    rw [h7,hd] at hfd; exact hfd rfl
   | some d=>
    obtain ⟨p,hp,k,hk,hkid,_,_,_,_,hqp⟩:=h.feedOf hx hd
    have hup:eid p < k.bare.kid:=h.own.up _ ⟨p,hp,rfl⟩ _ (QaC hk)
    have hup:eid p < k.kid:=hup
    have hp0:=ih (eid p) (by omega) p hp rfl hqp
    obtain rfl:=QaA h.dyn.nd hp he (hp0.trans hid.symm)
    have hconn':p.2.gh.conn=[]:=hconn
    rw [hconn'] at hk; simp at hk
 refine ⟨.done v,w,_,QE4 hg hst',v,rfl,hpost,tr.nr,?_,⟨?_,rfl⟩,?_⟩
 ·intro i gi hi hne _
  obtain ⟨op,hop,rfl⟩:=Option.map_eq_some_iff.1 hi
  obtain ⟨u,⟨x,hx,rfl⟩,hqx,hk⟩:=tr.ta i op hop
  have hx0:=alone _ x hx rfl hqx
  obtain rfl:=QaA h.dyn.nd hx he (hx0.trans hid.symm)
  rcases hk with ⟨q,z,h1,h2,h3⟩ | ⟨k,hk,_⟩
  ·refine ⟨q,by show ((t ++ _)[q]?).map (·.g)=some 0; rw [h1]; exact congrArg some (h2.trans hid),?_⟩
   rcases h3 with rfl | h3
   ·rw [hop] at h1
    obtain rfl:=Option.some.inj h1
    exact absurd (h2.trans hid) hne
   ·exact h3
  ·have h4:(vw x.2).gh.conn=x.2.gh.conn.map Conn.bare:=rfl
   have h5:x.2.gh.conn=[]:=hconn
   rw [h4,h5] at hk; simp at hk
 ·intro gx hgx
  obtain ⟨j,hj,rfl⟩:=List.getElem_of_mem hgx
  simp only [List.getElem_drop]
  have hj':1+j < gs.size:=by simpa [crowd,Nat.lt_sub_iff_add_lt,Nat.add_comm] using hj
  obtain ⟨x,hx,hxid⟩:=h.dyn.tot (1+j) hj'
  obtain ⟨gx,h1,h2⟩:=h.dyn.sit x hx
  rw [hxid,Array.getElem?_eq_getElem hj'] at h1
  have hgx2:=Option.some.inj h1
  have hq:x.2.gh.quits=true:=by
   cases hq:x.2.gh.quits with
   | true=>rfl
   | false=>have:=alone _ x hx rfl hq; omega
  obtain ⟨n,hn⟩:=h.dyn.quitn x hx hq
  rcases h2 with ⟨h3,h4,_⟩ | ⟨_,h3⟩
  ·refine ⟨n,?_⟩
   show (gs.toList[1+j]'(by simpa using hj')).LeavesIn P n
   rw [Array.getElem_toList,hgx2]
   exact (QrE h3 h4 hn).leaves
  ·obtain ⟨_,hc,hfd,_⟩:=h.own.quit (vw x.2) ⟨x,hx,rfl⟩ hq
   cases h3 with
   | recv k rest z sh hk _ _=>
    have:(vw x.2).gh.conn=x.2.gh.conn.map Conn.bare:=rfl
    rw [this,hk] at hc; simp at hc
   | send d v vs z z' sh hd _ _=>
    have h7:(vw x.2).gh.feed=(x.2.gh.feed).map fun f=>{ f with vs:=[] }:=rfl
    rw [h7,hd] at hfd; simp at hfd
 ·intro i gi hgi hi0
  have hgi:gs[i]? = some gi:=hgi
  obtain ⟨x,hx,rfl⟩:=h.dyn.tot i (Qbj hgi)
  obtain ⟨gx,h1,h2⟩:=h.dyn.sit x hx
  rw [hgi] at h1
  obtain rfl:=Option.some.inj h1
  have hq:x.2.gh.quits=true:=by
   cases hq:x.2.gh.quits with
   | true=>rfl
   | false=>exact absurd (alone _ x hx rfl hq) hi0
  obtain ⟨n,hn⟩:=h.dyn.quitn x hx hq
  rcases h2 with ⟨h3,h4,_⟩ | ⟨_,h3⟩
  ·refine ⟨n,?_⟩
   rw [tr.wl.deaf]
   exact (QrE h3 h4 hn).hears _ 0
  ·obtain ⟨_,hc,hfd,_⟩:=h.own.quit (vw x.2) ⟨x,hx,rfl⟩ hq
   cases h3 with
   | recv k rest z sh hk _ _=>
    have:(vw x.2).gh.conn=x.2.gh.conn.map Conn.bare:=rfl
    rw [this,hk] at hc; simp at hc
   | send d v vs z z' sh hd _ _=>
    have h7:(vw x.2).gh.feed=(x.2.gh.feed).map fun f=>{ f with vs:=[] }:=rfl
    rw [h7,hd] at hfd; simp at hfd
end
end R
namespace R
section
variable {P:Program} {Post:Value→World→Prop} {l l1 l2:List Elem} {e f:Elem} {gs gs':Array Goroutine} {w w':World} {sl:Option (Nat×Nat)} {t:Trace} {g g':Goroutine}
theorem Qh3 {a b:Goroutine} {c1 c2:Array CommCase} {b1 b2:Bool} {s1 s2:CommShape} {w1 w2:World} {e1 e2:Array Event} {x:GStep} (h1:x=.comm a c1 b1 s1 w1 e1) (h2:x=.comm b c2 b2 s2 w2 e2):c1=c2∧s1=s2:=by
 rw [h1] at h2
 injection h2 with h3 h4 h5 h6
 exact ⟨h4,h6⟩
theorem QCu {c:Nat} {z z':Value} (h:(#[rcase c z]:Array CommCase)=#[rcase c z']):z=z':=by
 simp [rcase] at h; exact h
theorem QFc {c q:Nat} {v z z' y y':Value} (h:(#[scase c v z,rcase q y]:Array CommCase)=#[scase c v z',rcase q y']):z=z'∧y=y':=by
 simp [rcase,scase] at h; exact h
theorem Moves.atRecv {K:List Elem→Prop} (h:Moves P (AtEnd P Post) e.1 e.2 K) (hfd:e.2.gh.feed=none) (hr:Rely e.2 (e.2.now w)) (hrun:e.1.status=.running) {k:Conn} {rest:List Conn} (hk:e.2.gh.conn=k :: rest) {z:Value} {sh:CommShape}
  (hst:∀ w1,Rely e.2 w1→stepG P w1.main e.1 w1.w=.comm (core e.1) #[rcase k.c z] true sh w1.w #[]) :
  (∀ v vs,k.vs=v :: vs→K [((core e.1).finishComm P #[rcase k.c z] sh 0 v true,(e.2.now w).got k vs rest)])∧(k.vs=[]→openCh w k.q→K [((core e.1).finishComm P #[rcase k.c z] sh 0 z false,(e.2.now w).pop k rest)]):=by
 have h0:=hst _ hr
 cases h with
 | stop _ h=>
  obtain ⟨h1,_,v,es,h2,_⟩:=h _ hr
  have h3:(e.2.now w).main=true:=by show ((e.2.now w).gh.id == 0)=true; rw [h1]; rfl
  rw [h3,h2] at h0; cases h0
 | step _ h=>obtain ⟨g',v,es,h1,_⟩:=h _ hr; rw [h1] at h0; cases h0
 | fork _ c q vs F _ _ _ _ _ h=>obtain ⟨_,_,g',ch,h1,_⟩:=h _ hr; rw [h1] at h0; cases h0
 | recv _ k' rest' hk' z' sh' h hv hn=>
  rw [hk] at hk'
  obtain ⟨rfl,rfl⟩:=List.cons.inj hk'
  obtain ⟨h1,h2⟩:=Qh3 h0 (h _ hr)
  obtain rfl:=QCu h1
  subst h2
  exact ⟨fun v vs hvs=>hv v vs hvs _ hr,fun hvs ho=>hn hvs _ hr ho⟩
 | send _ d hd v vs hv z1 z2 sh' h hk'=>
  obtain ⟨h1,_⟩:=Qh3 h0 (h _ hr)
  have:=congrArg Array.size h1
  simp at this
 | close _ d hd hv hm g' n hq h hk'=>rw [hfd] at hd; cases hd
 | done hs _=>rw [hrun] at hs; cases hs
theorem Moves.atSend {K:List Elem→Prop} (h:Moves P (AtEnd P Post) e.1 e.2 K) (hcn:e.2.gh.conn=[]) (hr:Rely e.2 (e.2.now w)) (hrun:e.1.status=.running) {d:Feed} (hd:e.2.gh.feed=some d) {v:Value} {vs:List Value} (hv:d.vs=v :: vs) {z z':Value} {sh:CommShape}
  (hst:∀ w1,Rely e.2 w1→stepG P w1.main e.1 w1.w=.comm (core e.1) #[scase d.c v z,rcase d.q z'] true sh w1.w #[]) :
  K [((core e.1).finishComm P #[scase d.c v z,rcase d.q z'] sh 0 undef false,(e.2.now w).sent d vs)]:=by
 have h0:=hst _ hr
 cases h with
 | stop _ h=>
  obtain ⟨h1,_,v,es,h2,_⟩:=h _ hr
  have h3:(e.2.now w).main=true:=by show ((e.2.now w).gh.id == 0)=true; rw [h1]; rfl
  rw [h3,h2] at h0; cases h0
 | step _ h=>obtain ⟨g',v,es,h1,_⟩:=h _ hr; rw [h1] at h0; cases h0
 | fork _ c q vs F _ _ _ _ _ h=>obtain ⟨_,_,g',ch,h1,_⟩:=h _ hr; rw [h1] at h0; cases h0
 | recv _ k' rest' hk' z' sh' h hv hn=>rw [hcn] at hk'; cases hk'
 | send _ d' hd' v' vs' hv' z1 z2 sh' h hk'=>
  rw [hd] at hd'
  obtain rfl:=Option.some.inj hd'
  rw [hv] at hv'
  obtain ⟨rfl,rfl⟩:=List.cons.inj hv'
  obtain ⟨h1,h2⟩:=Qh3 h0 (h _ hr)
  obtain ⟨rfl,rfl⟩:=QFc h1
  subst h2
  exact hk' _ hr
 | close _ d' hd' hv' hm g' n hq h hk'=>
  rw [hd] at hd'
  obtain rfl:=Option.some.inj hd'
  rw [hv] at hv'; cases hv'
 | done hs _=>rw [hrun] at hs; cases hs
theorem Inv.feed_conn (h:Inv P l gs w t) (he:e∈l) {d:Feed} (hd:e.2.gh.feed=some d):e.2.gh.conn=[]∧eid e≠0∧e.2.gh.quits=false:=by
 have h7:(vw e.2).gh.feed=(e.2.gh.feed).map fun f=>{ f with vs:=[] }:=rfl
 have hq:e.2.gh.quits=false:=by
  cases hq:e.2.gh.quits with
  | false=>rfl
  | true=>
   have:=(h.own.quit (vw e.2) ⟨e,he,rfl⟩ hq).2.2.1
   rw [h7,hd] at this; simp at this
 have h0:eid e≠0:=fun h0=>by
  have:=h.own.main (vw e.2) ⟨e,he,rfl⟩ h0
  rw [h7,hd] at this; simp at this
 exact ⟨List.map_eq_nil_iff.1 (h.own.kid (vw e.2) ⟨e,he,rfl⟩ hq h0).2.2.1,h0,hq⟩
theorem Inv.conn_feed (h:Inv P l gs w t) (he:e∈l) {k:Conn} {rest:List Conn} (hk:e.2.gh.conn=k :: rest):e.2.gh.feed=none:=by
 cases hd:e.2.gh.feed with
 | none=>rfl
 | some d=>rw [(h.feed_conn he hd).1] at hk; cases hk
theorem meet (hI:Inv P l gs w t) (hN:QNext P Post l) (hN2:∀ l1 e l2,l=l1 ++ e :: l2→∃ K,Moves P (AtEnd P Post) e.1 e.2 K∧∀ es,K es→QNext P Post (l1 ++ es ++ l2))
  (he:e∈l) (hf:f∈l) {k:Conn} {rest:List Conn} (hk:e.2.gh.conn=k :: rest) (hkid:k.kid=eid f) (hre:e.1.status=.running) (hrf:f.1.status=.running) {z:Value} {sh:CommShape}
  (hse:∀ w1,Rely e.2 w1→stepG P w1.main e.1 w1.w=.comm (core e.1) #[rcase k.c z] true sh w1.w #[])
  {d:Feed} (hd:f.2.gh.feed=some d) {v:Value} {vs:List Value} (hv:d.vs=v :: vs) {z1 z2:Value} {sh2:CommShape}
  (hsf:∀ w1,Rely f.2 w1→stepG P w1.main f.1 w1.w=.comm (core f.1) #[scase d.c v z1,rcase d.q z2] true sh2 w1.w #[])
  {s r:Nat} {tm:Bool} (hsz:gs'.size=gs.size) (hge:gs'[eid e]? = some ((core e.1).finishComm P #[rcase k.c z] sh 0 v true)) (hgf:gs'[eid f]? = some ((core f.1).finishComm P #[scase d.c v z1,rcase d.q z2] sh2 0 undef false))
  (hgo:∀ j,j≠eid e→j≠eid f→gs'[j]? = gs[j]?) {a b c d':MemOp} (hops:∀ op∈[a,b,c,d'],(op.g=eid e∨op.g=eid f)∧op.act.touch? = none∧∀ m,op.act≠.mark m) :
  Ends P Post (crowd gs' (w.setChan k.c 0 #[] false s r tm) sl) (t ++ #[a,b,c,d']):=by
 have hkm:k∈e.2.gh.conn:=by rw [hk]; simp
 obtain ⟨hdk,_⟩:=hI.feedOf' hf hd he hkm hkid
 subst hdk
 obtain ⟨l1,l2,hl⟩:=List.append_of_mem he
 obtain ⟨K,hK,hQ⟩:=hN2 l1 e l2 hl
 have hK1:=(hK.atRecv (w:=w) (hI.conn_feed he hk) (hI.dyn.rely e he) hre hk hse).1 v vs hv
 have hup:eid e < k.bare.kid:=hI.own.up _ ⟨e,he,rfl⟩ _ (QaC hkm)
 have hup:eid e < k.kid:=hup
 have hne:eid f≠eid e:=by rw [←hkid]; omega
 have hf1:f∈l1 ++ [((core e.1).finishComm P #[rcase k.c z] sh 0 v true,(e.2.now w).got k vs rest)] ++ l2:=(QbB hI.dyn.nd hl f).2 (.inr ⟨hf,hne⟩)
 obtain ⟨m1,m2,hm⟩:=List.append_of_mem hf1
 obtain ⟨K2,hK2,hQ2⟩:=hQ _ hK1 m1 f m2 hm
 have hK3:=hK2.atSend (w:=w) (hI.feed_conn hf hd).1 (hI.dyn.rely f hf) hrf hd hv hsf
 refine hQ2 _ hK3 _ _ _ _ (hI.passes hl hk hv hf hd hkid (w0:=w) (w1:=w) (fun _=>rfl) ⟨rfl,rfl,rfl⟩ (fun _=>rfl) ⟨rfl,rfl,rfl⟩ rfl hm (.inl rfl) (.inl rfl) hsz hge hgf hgo hops)
end
end R
namespace R
section
variable {P:Program} {Post:Value→World→Prop} {l l1 l2:List Elem} {e f:Elem} {gs gs':Array Goroutine} {w w':World} {sl:Option (Nat×Nat)} {t:Trace} {g g':Goroutine}
theorem Qfn {j i:Nat} {x:Goroutine} {c:Nat} {b:Bool} (h:(gs.setIfInBounds i ph)[j]? = some x) (ho:offersAt x c b≠[]):j≠i∧gs[j]? = some x:=by
 rcases getElem?_stand gs i j x h with ⟨_,rfl⟩ | h1
 ·exact absurd (offersAt_ph c b) ho
 ·exact h1
theorem Inv.to_recv (h:Inv P l gs w t) (he:e∈l) {k:Conn} {rest:List Conn} (hk:e.2.gh.conn=k :: rest) :
  partners (gs.setIfInBounds (eid e) ph) k.c true=[]∨∃ f∈l,k.kid=eid f∧∃ d v vs z z' sh,f.2.gh.feed=some d∧d.vs=v :: vs∧f.1.status=.running∧gs[eid f]? = some (parked (core f.1) #[scase d.c v z,rcase d.q z'] sh) ∧
   (∀ w1,Rely f.2 w1→stepG P w1.main f.1 w1.w=.comm (core f.1) #[scase d.c v z,rcase d.q z'] true sh w1.w #[])∧d=⟨k.c,k.q,k.vs⟩∧partners (gs.setIfInBounds (eid e) ph) k.c true=[(eid f,0)]:=by
 have hkm:k∈e.2.gh.conn:=by rw [hk]; simp
 by_cases hp:partners (gs.setIfInBounds (eid e) ph) k.c true=[]
 ·exact .inl hp
 ·have:∃ (j:Nat) (x:Goroutine),(gs.setIfInBounds (eid e) ph)[j]? = some x∧offersAt x k.c true≠[]:=by
   apply Classical.byContradiction
   intro hno
   refine hp (partners_nil fun j x hx=>?_)
   apply Classical.byContradiction
   intro ho
   exact hno ⟨j,x,hx,ho⟩
  obtain ⟨j,x,hx,ho⟩:=this
  obtain ⟨_,hgx⟩:=Qfn hx ho
  obtain ⟨f,hf,hfj,d,v,vs,z,z',sh,hd,hv,hdc,hrun,rfl,hst⟩:=h.sender hgx ho
  obtain ⟨p,hp',k',hk',hkid,hd2,_,_,_,_⟩:=h.feedOf hf hd
  have hkk:k'.kid=k.kid:=by
   apply Classical.byContradiction
   intro hne
   refine (h.chanD hp' he hk' hkm hne).1 ?_
   rw [hd2] at hdc; exact hdc
  have h1:k.kid=eid f:=by rw [←hkk,hkid]
  obtain ⟨hd3,_⟩:=h.feedOf' hf hd he hkm h1
  refine .inr ⟨f,hf,h1,d,v,vs,z,z',sh,hd,hv,hrun,by rw [hfj]; exact hgx,hst,hd3,?_⟩
  rw [partners_one (by rw [←hfj] at hx; exact hx) (fun j' x' hj' hx'=>?_),(Qg0 ..).1,hd3,if_pos rfl]
  ·rfl
  ·apply Classical.byContradiction
   intro ho'
   obtain ⟨_,hgx'⟩:=Qfn hx' ho'
   obtain ⟨f',hf',hfj',d',v',vs',_,_,_,hd',_,hdc',_,_,_⟩:=h.sender hgx' ho'
   obtain ⟨p',hp2,k2,hk2,hkid2,hd4,_,_,_,_⟩:=h.feedOf hf' hd'
   have hkk2:k2.kid=k.kid:=by
    apply Classical.byContradiction
    intro hne
    refine (h.chanD hp2 he hk2 hkm hne).1 ?_
    rw [hd4] at hdc'; exact hdc'
   exact hj' (by rw [←hfj',←hkid2,hkk2,h1])
theorem Inv.to_send (h:Inv P l gs w t) (hf:f∈l) {d:Feed} (hd:f.2.gh.feed=some d) :
  (partners (gs.setIfInBounds (eid f) ph) d.c false=[]∧∀ e0∈l,∀ k rest,e0.2.gh.conn=k :: rest→k.kid=eid f→∀ ge,gs[eid e0]? = some ge→ge.status≠.blocked) ∨
  ∃ e∈l,∃ k rest z sh,e.2.gh.conn=k :: rest∧k.kid=eid f∧e.1.status=.running∧gs[eid e]? = some (parked (core e.1) #[rcase k.c z] sh) ∧
   (∀ w1,Rely e.2 w1→stepG P w1.main e.1 w1.w=.comm (core e.1) #[rcase k.c z] true sh w1.w #[])∧d=⟨k.c,k.q,k.vs⟩∧partners (gs.setIfInBounds (eid f) ph) d.c false=[(eid e,0)]:=by
 obtain ⟨p,hp,k,hk,hkid,hd2,ho,hq,hpf,_⟩:=h.feedOf hf hd
 have only:∀ (j:Nat) (x:Goroutine),(gs.setIfInBounds (eid f) ph)[j]? = some x→offersAt x d.c false≠[]→j=eid p∧∃ rest z sh,p.2.gh.conn=k :: rest∧p.1.status=.running∧x=parked (core p.1) #[rcase k.c z] sh∧(∀ w1,Rely p.2 w1→stepG P w1.main p.1 w1.w=.comm (core p.1) #[rcase k.c z] true sh w1.w #[]):=fun j x hx ho'=>by
  obtain ⟨hjf,hgx⟩:=Qfn hx ho'
  have hdc:d.c=k.c:=by rw [hd2]
  rcases h.receiver hgx ho' with ⟨e,he,hej,k2,rest,z,sh,hk2,hc2,hrun,rfl,hst⟩ | ⟨f',hf',hfj',d',hd',hq'⟩
  ·have hk2m:k2∈e.2.gh.conn:=by rw [hk2]; simp
   have hkk:k2.kid=k.kid:=by
    apply Classical.byContradiction
    intro hne
    exact (h.chanD he hp hk2m hk hne).1 (hc2.trans hdc)
   have h1:=h.own.ku (vw e.2) (vw p.2) ⟨e,he,rfl⟩ ⟨p,hp,rfl⟩ _ (QaC hk2m) _ (QaC hk) hkk
   have h2:(vw e.2).gh.id=(vw p.2).gh.id:=by rw [h1]
   obtain rfl:=QaA h.dyn.nd he hp h2
   have h3:=h.own.srt (vw e.2) ⟨e,he,rfl⟩
   have h4:e.2.gh.conn.Pairwise (fun a b=>b.kid < a.kid):=by
    have:(e.2.gh.conn.map Conn.bare).Pairwise (fun a b=>b.kid < a.kid):=h3
    rw [List.pairwise_map] at this
    exact this
   obtain rfl:=Qjk h4 hk2m hk hkk
   exact ⟨hej.symm,rest,z,sh,hk2,hrun,rfl,hst⟩
  ·obtain ⟨p',hp',k',hk',hkid',hd4,_,_,_,_⟩:=h.feedOf hf' hd'
   exfalso
   have h1:k.c=k'.q:=by rw [←hdc,←hq',hd4]
   by_cases hkk:k.kid=k'.kid
   ·exact hjf (by rw [←hfj',←hkid',←hkk,hkid])
   ·exact (h.chanD hp hp' hk hk' hkk).2.1 h1
 by_cases hpn:partners (gs.setIfInBounds (eid f) ph) d.c false=[]
 ·refine .inl ⟨hpn,fun e0 he0 k2 rest hk2 hk2f ge hge hb=>?_⟩
  have hk2m:k2∈e0.2.gh.conn:=by rw [hk2]; simp
  obtain ⟨hd3,_⟩:=h.feedOf' hf hd he0 hk2m hk2f
  have hup:eid e0 < k2.bare.kid:=h.own.up _ ⟨e0,he0,rfl⟩ _ (QaC hk2m)
  have hup:eid e0 < k2.kid:=hup
  have hne:eid e0≠eid f:=by rw [←hk2f]; omega
  obtain ⟨ge',h1,h2⟩:=h.dyn.sit e0 he0
  rw [hge] at h1
  obtain rfl:=Option.some.inj h1
  rcases h2 with ⟨_,_,h3⟩ | ⟨_,h3⟩
  ·rcases h3 with h3 | h3 <;> rw [h3] at hb <;> cases hb
  ·cases h3 with
   | recv k3 rest3 z sh hk3 _ _=>
    rw [hk2] at hk3
    obtain ⟨rfl,rfl⟩:=List.cons.inj hk3
    have h4:(eid e0,0)∈partners (gs.setIfInBounds (eid f) ph) d.c false:=mem_partners.2 ⟨_,stand_get hne hge,by rw [offersAt_parked_recv,hd3,if_pos rfl]; simp⟩
    rw [hpn] at h4; cases h4
   | send d3 v vs z z' sh hd3' _ _=>
    rw [(h.feed_conn he0 hd3').1] at hk2; cases hk2
 ·have:∃ (j:Nat) (x:Goroutine),(gs.setIfInBounds (eid f) ph)[j]? = some x∧offersAt x d.c false≠[]:=by
   apply Classical.byContradiction
   intro hno
   refine hpn (partners_nil fun j x hx=>?_)
   apply Classical.byContradiction
   intro ho
   exact hno ⟨j,x,hx,ho⟩
  obtain ⟨j,x,hx,ho'⟩:=this
  obtain ⟨hj,rest,z,sh,hk2,hrun,rfl,hst⟩:=only j x hx ho'
  obtain ⟨_,hgx⟩:=Qfn hx ho'
  subst hj
  refine .inr ⟨p,hp,k,rest,z,sh,hk2,hkid,hrun,hgx,hst,hd2,?_⟩
  rw [partners_one hx (fun j' x' hj' hx'=>?_),offersAt_parked_recv,hd2,if_pos rfl]
  ·rfl
  ·apply Classical.byContradiction
   intro ho2
   exact hj' (only j' x' hx' ho2).1
theorem Inv.no_stop (h:Inv P l gs w t) (hf:f∈l) {d:Feed} (hd:f.2.gh.feed=some d) (z:Value):NoWays w (gs.setIfInBounds (eid f) ph) (rcase d.q z):=by
 obtain ⟨p,hp,k,hk,hkid,hd2,ho,hq,_⟩:=h.feedOf hf hd
 obtain ⟨s,r,tm,hc⟩:=hq
 refine ways_recv_none hc (partners_nil fun j x hx=>?_)
 apply Classical.byContradiction
 intro ho'
 obtain ⟨hjf,hgx⟩:=Qfn hx ho'
 obtain ⟨f',hf',hfj',d',v',vs',_,_,_,hd',_,hdc',_,_,_⟩:=h.sender hgx ho'
 obtain ⟨p',hp',k',hk',hkid',hd4,_,_,_,_⟩:=h.feedOf hf' hd'
 have h1:k'.c=k.q:=by rw [hd4] at hdc'; rw [hd2] at hdc'; exact hdc'
 by_cases hkk:k'.kid=k.kid
 ·exact hjf (by rw [←hfj',←hkid',hkk,hkid])
 ·exact (h.chanD hp' hp hk' hk hkk).2.1 h1
theorem QCb {l:List Elem} (hp:Pool P (AtEnd P Post) l):QEnds P Post l∧QNext P Post l:=by
 induction hp with
 | @mk l K hM hk ih=>
  have hN:QNext P Post l:=fun l1 e l2 hl=>⟨K l1 e l2,hM l1 e l2 hl,fun es hes=>(ih l1 e l2 hl es hes).1⟩
  have hN2:∀ l1 e l2,l=l1 ++ e :: l2→∃ K,Moves P (AtEnd P Post) e.1 e.2 K∧∀ es,K es→QNext P Post (l1 ++ es ++ l2):=fun l1 e l2 hl=>⟨K l1 e l2,hM l1 e l2 hl,fun es hes=>(ih l1 e l2 hl es hes).2⟩
  refine ⟨?_,hN⟩
  suffices ∀ n gs w sl t,cnt gs=n→Inv P l gs w t→Ends P Post (crowd gs w sl) t from fun gs w sl t hI=>this _ gs w sl t rfl hI
  intro n
  induction n using Nat.strongRecOn with
  | _ n ihn=>
   intro gs w0 sl0 t hcnt hI0
   obtain ⟨i,g,d,sl,hg,hrun,hstep⟩:=crowd_pick (P:=P) (w:=w0) (sl:=sl0) hI0.awake (hI0.some_runs hN)
   have hI:=hI0.at d
   generalize w0.at d=w at hstep hI
   obtain ⟨e,he,rfl⟩:=hI.dyn.tot i (Qbj hg)
   obtain ⟨g2,h1,h2⟩:=hI.dyn.sit e he
   rw [hg] at h1
   obtain rfl:=Option.some.inj h1
   have hfree:Same g e.1∧g.status=e.1.status:=by
    rcases h2 with ⟨h3,h4,_⟩ | ⟨_,h3⟩
    ·exact ⟨h3,h4⟩
    ·rw [h3.blocked] at hrun; cases hrun
   obtain ⟨hsm,hst⟩:=hfree
   have hre:e.1.status=.running:=hst▸hrun
   have hsame:∀ w1:World,stepG P (eid e == 0) g w1=stepG P (eid e == 0) e.1 w1:=fun w1=>stepG_same hsm.1 hsm.2.1 hsm.2.2 w1
   obtain ⟨l1,l2,hl⟩:=List.append_of_mem he
   have hr:=hI.dyn.rely e he
   have hstatus:∀ es,K l1 e l2 es→∀ x∈es,x.1.status=.running∨x.1.status=.finished:=fun es hes x hx=>(ih l1 e l2 hl es hes).2.status (by simp [hx])
   have hMe:=hM l1 e l2 hl
   cases hMe with
   | stop _ h=>
    obtain ⟨o,w',ops,h3,h4⟩:=hI.over (sl:=sl) he hg hsm (h _ hr) w0 sl0
    exact .last (hstep.trans h3) h4
   | step _ h=>
    obtain ⟨g',v,es,h3,h4,h5⟩:=h _ hr
    have h3':stepG P (eid e == 0) g w=.go g' v es:=(hsame w).trans h3
    refine .step (hstep.trans (runT_crowd_go hg h3')) ?_
    refine (ih l1 e l2 hl _ h5).1 _ _ _ _ (hI.goes hl hg h4 (hstatus _ h5 (g',_) (List.mem_singleton_self _)) fun hq=>?_)
    obtain ⟨m,hm⟩:=hI.dyn.quitn e he hq
    have hid:=(hI.own.quit (vw e.2) ⟨e,he,rfl⟩ hq).1
    cases m with
    | zero=>rw [show e.1.status=.finished from hm] at hre; cases hre
    | succ m=>
     rcases hm with hm | ⟨_,g'',h6,h7⟩
     ·rw [hm] at hre; cases hre
     ·have h8:=h6 w
      have h9:(e.2.now w).main=false:=by
       have hid':eid e≠0:=hid
       show (eid e == 0)=false
       simpa using hid'
      rw [h9] at h3
      rw [show (e.2.now w).w=w from rfl,h8] at h3
      injection h3 with h10 h11 h12
      subst h10
      exact ⟨⟨m,h7⟩,h11.symm,h12.symm⟩
   | fork _ c q vs F hc hq hcq hF hO h=>
    obtain ⟨h3,h4,g',child,h5,h6⟩:=h _ hr
    have h5':stepG P (eid e == 0) g w=.spawn g' child w #[]:=(hsame w).trans h5
    have h7:=h6 gs.size (by have:=Qbj hg; omega)
    refine .step (hstep.trans (runT_crowd_spawn hg h5')) ?_
    have h8:=hI.forks (vs:=vs) hl hg hc hq hcq hF hO h3 h4 (hstatus _ h7 (g',_) (List.mem_cons_self ..)) (hstatus _ h7 (child,_) (List.mem_cons_of_mem _ (List.mem_singleton_self _)))
    have e1:∀ a b:MemOp,t ++ ((MemOp.ofEvents (eid e) g.frame.fn g.frame.place #[]).push a).push b=t ++ #[a] ++ #[b]:=fun a b=>by apply Array.ext'; simp [MemOp.ofEvents]
    rw [e1]
    exact (ih l1 e l2 hl _ h7).1 _ _ _ _ h8
   | recv _ k rest hk z sh h hv hn=>
    have h3':stepG P (eid e == 0) g w=.comm (core e.1) #[rcase k.c z] true sh w #[]:=(hsame w).trans (h _ hr)
    have hkm:k∈e.2.gh.conn:=by rw [hk]; simp
    obtain ⟨hoq,f,hf,hfk,h4⟩:=hI.dyn.sess e he k hkm
    have hup:eid e < k.bare.kid:=hI.own.up _ ⟨e,he,rfl⟩ _ (QaC hkm)
    have hup:eid e < k.kid:=hup
    rcases hI.to_recv he hk with hpn | ⟨f',hf',hkf,d,v,vs,z1,z2,sh2,hd,hvs,hrf,hgf,hsf,hd2,hpn⟩
    ·rcases h4 with ⟨h5,h6,s,r,tm,h7⟩ | ⟨h5,h6,h7,_⟩
     ·-- it waits
      refine .step (hstep.trans (crowd_waits hg h3' fun cc hcc=>?_)) ?_
      ·obtain rfl:cc=rcase k.c z:=by simpa using hcc
       exact ways_recv_none h7 hpn
      ·have h8:Inv P l (gs.setIfInBounds (eid e) (parked (core e.1) #[rcase k.c z] sh)) w t:=hI.parks he hre (.recv k rest z sh hk ⟨s,r,tm,h7⟩ h) (fun k2 rest2 hk2 f2 hf2 hkf2 gf2 hgf2 hb=>by
        rw [hk] at hk2
        obtain ⟨rfl,rfl⟩:=List.cons.inj hk2
        have hf2':=QaA hI.dyn.nd hf2 hf (hkf2.symm.trans hfk.symm)
        subst hf2'
        obtain ⟨gx,hx1,hx2⟩:=hI.dyn.sit f2 hf2
        rw [hgf2] at hx1
        obtain rfl:=Option.some.inj hx1
        rcases hx2 with ⟨_,_,hx3⟩ | ⟨_,hx3⟩
        ·rcases hx3 with hx3 | hx3 <;> rw [hx3] at hb <;> cases hb
        ·cases hx3 with
         | recv k3 rest3 z3 sh3 hk3 _ _=>rw [(hI.feed_conn hf2 h6).1] at hk3; cases hk3
         | send d3 v3 vs3 z3 z4 sh3 hd3 _ _=>
          rw [h6] at hd3
          obtain rfl:=Option.some.inj hd3
          have hx4:(eid f2,0)∈partners (gs.setIfInBounds (eid e) ph) k.c true:=mem_partners.2 ⟨_,stand_get (by rw [hfk]; omega) hgf2,by rw [(Qg0 ..).1,if_pos rfl]; simp⟩
          rw [hpn] at hx4; cases hx4) (fun e0 he0 k2 rest2 hk2 hkf2 ge hge hb=>by
        obtain ⟨_,y,hy,hy1,hy2⟩:=hI.dyn.sess e0 he0 k2 (by rw [hk2]; simp)
        obtain rfl:=QaA hI.dyn.nd hy he (hy1.trans hkf2)
        have hfd:=hI.conn_feed he hk
        rcases hy2 with ⟨_,hy3,_⟩ | ⟨hy3,_⟩
        ·rw [hfd] at hy3; cases hy3
        ·have:=(hI.own.quit (vw y.2) ⟨y,hy,rfl⟩ hy3).2.1
         have h9:(vw y.2).gh.conn=y.2.gh.conn.map Conn.bare:=rfl
         rw [h9,hk] at this; simp at this)
       have:=ihn _ (by rw [←hcnt]; exact Qmj hg hrun rfl) _ w sl _ rfl h8
       simpa [MemOp.ofEvents] using this
     ·-- it sees that all has come
      obtain ⟨s,r,tm,h8⟩:=h7
      refine .step (hstep.trans (crowd_recv_closed hg h3' h8 hpn)) ?_
      have h9:=hn h6 _ hr hoq
      have h10:=hI.pops hl hk ⟨s,r,tm,h8⟩ (ge:=(core e.1).finishComm P #[rcase k.c z] sh 0 z false) (.inl rfl) (y:={ g:=eid e,fn:=(core e.1).frame.fn,pos:=(core e.1).frame.place,act:=.recvClosed k.c }) ⟨rfl,rfl⟩
      have:=(ih l1 e l2 hl _ h9).1 _ _ sl _ h10
      simpa [MemOp.ofEvents] using this
    ·-- a value passes
     subst hd2
     have hne:eid f'≠eid e:=by rw [←hkf]; omega
     obtain ⟨_,s,r,tm,h7⟩:=hI.feedOf' hf' hd he hkm hkf
     refine .step (hstep.trans (QwF hg h3' h7 hne hgf hpn)) ?_
     have h8:=meet (sl:=sl) hI hN hN2 he hf' hk hkf hre hrf (sh:=sh) (z:=z) h hd hvs hsf (s:=s+1) (r:=r+1) (tm:=tm)
      (gs':=(gs.setIfInBounds (eid f') ((core f'.1).finishComm P #[scase k.c v z1,rcase k.q z2] sh2 0 undef false)).setIfInBounds (eid e) ((core e.1).finishComm P #[rcase k.c z] sh 0 v true))
      (by simp) (by rw [Qbv (by simpa using Qbj hg),if_pos rfl]) (by rw [Qbv (by simpa using Qbj hg),if_neg hne,Qbv (Qbj hgf),if_pos rfl])
      (fun j h9 h10=>by rw [Qbv (by simpa using Qbj hg),if_neg h9,Qbv (Qbj hgf),if_neg h10])
      (a:={ g:=eid f',fn:=(core f'.1).frame.fn,pos:=(core f'.1).frame.place,act:=.send k.c s }) (b:={ g:=eid e,fn:=(core e.1).frame.fn,pos:=(core e.1).frame.place,act:=.recv k.c r 0 })
      (c:={ g:=eid f',fn:=(core f'.1).frame.fn,pos:=(core f'.1).frame.place,act:=.sendDone k.c s }) (d':={ g:=eid e,fn:=(core e.1).frame.fn,pos:=(core e.1).frame.place,act:=.recvDone k.c r })
      (fun op hop=>by
       simp only [List.mem_cons,List.not_mem_nil,or_false] at hop
       rcases hop with rfl | rfl | rfl | rfl <;> simp [MemAct.touch?])
     simpa [MemOp.ofEvents] using h8
   | send _ dd hd v vs hvs z1 z2 sh2 h hk'=>
    have h3':stepG P (eid e == 0) g w=.comm (core e.1) #[scase dd.c v z1,rcase dd.q z2] true sh2 w #[]:=(hsame w).trans (h _ hr)
    obtain ⟨p,hp,k0,hk0,hkid0,hd2,ho,hq,hpe,_⟩:=hI.feedOf he hd
    rcases hI.to_send he hd with ⟨hpn,hnb⟩ | ⟨p',hp',k,rest,z,sh,hk,hkid,hrp,hgp,hsp,hd3,hpn⟩
    ·-- it waits
     obtain ⟨s,r,tm,h7⟩:=ho
     refine .step (hstep.trans (crowd_waits hg h3' fun cc hcc=>?_)) ?_
     ·have:cc=scase dd.c v z1∨cc=rcase dd.q z2:=by simpa using hcc
      rcases this with rfl | rfl
      ·exact ways_send_none h7 (Nat.zero_le _) hpn
      ·exact hI.no_stop he hd z2
     ·have h8:Inv P l (gs.setIfInBounds (eid e) (parked (core e.1) #[scase dd.c v z1,rcase dd.q z2] sh2)) w t:=hI.parks he hre (.send dd v vs z1 z2 sh2 hd hvs h)
       (fun k2 rest2 hk2=>by rw [(hI.feed_conn he hd).1] at hk2; cases hk2) (fun e0 he0 k2 rest2 hk2 hkf2 ge hge=>hnb e0 he0 k2 rest2 hk2 hkf2 ge hge)
      have:=ihn _ (by rw [←hcnt]; exact Qmj hg hrun rfl) _ w sl _ rfl h8
      simpa [MemOp.ofEvents] using this
    ·-- a value passes
     subst hd3
     have hkm:k∈p'.2.gh.conn:=by rw [hk]; simp
     have hup:eid p' < k.bare.kid:=hI.own.up _ ⟨p',hp',rfl⟩ _ (QaC hkm)
     have hup:eid p' < k.kid:=hup
     have hne:eid p'≠eid e:=by rw [←hkid]; omega
     obtain ⟨s,r,tm,h7⟩:=ho
     refine .step (hstep.trans (QwG hg h3' h7 (hI.no_stop he hd z2) hne hgp hpn)) ?_
     have h8:=meet (sl:=sl) hI hN hN2 hp' he hk hkid hrp hre (sh:=sh) (z:=z) hsp hd hvs h (s:=s+1) (r:=r+1) (tm:=tm)
      (gs':=(gs.setIfInBounds (eid p') ((core p'.1).finishComm P #[rcase k.c z] sh 0 v true)).setIfInBounds (eid e) ((core e.1).finishComm P #[scase k.c v z1,rcase k.q z2] sh2 0 undef false))
      (by simp) (by rw [Qbv (by simpa using Qbj hg),if_neg hne,Qbv (Qbj hgp),if_pos rfl]) (by rw [Qbv (by simpa using Qbj hg),if_pos rfl])
      (fun j h9 h10=>by rw [Qbv (by simpa using Qbj hg),if_neg h10,Qbv (Qbj hgp),if_neg h9])
      (a:={ g:=eid e,fn:=(core e.1).frame.fn,pos:=(core e.1).frame.place,act:=.send k.c s }) (b:={ g:=eid p',fn:=(core p'.1).frame.fn,pos:=(core p'.1).frame.place,act:=.recv k.c r 0 })
      (c:={ g:=eid e,fn:=(core e.1).frame.fn,pos:=(core e.1).frame.place,act:=.sendDone k.c s }) (d':={ g:=eid p',fn:=(core p'.1).frame.fn,pos:=(core p'.1).frame.place,act:=.recvDone k.c r })
      (fun op hop=>by
       simp only [List.mem_cons,List.not_mem_nil,or_false] at hop
       rcases hop with rfl | rfl | rfl | rfl <;> simp [MemAct.touch?])
     simpa [MemOp.ofEvents] using h8
   | close _ dd hd hvs hm g' m hq h hk'=>
    obtain ⟨p,hp,k0,hk0,hkid0,hd2,⟨s,r,tm,ho⟩,_,_,_⟩:=hI.feedOf he hd
    have h3':stepG P (eid e == 0) g w=.go g' (w.shut dd.c s r tm) #[⟨.obj dd.c,false,true⟩,⟨.obj dd.c,true,true⟩]:=(hsame w).trans (h _ hr s r tm ho)
    have h4:=hk' _ hr
    refine .step (hstep.trans (runT_crowd_go hg h3')) ?_
    have hmw:mayWake P g=true:=by
     rw [←hm]
     unfold mayWake
     rw [hsm.1]
    have h5:=hI.closes hl hg hd hvs hmw hq (s:=s) (r:=r) (tm:=tm) (hstatus _ h4 (g',_) (List.mem_singleton_self _))
    have e1:MemOp.ofEvents (eid e) g.frame.fn g.frame.place #[⟨.obj dd.c,false,true⟩,⟨.obj dd.c,true,true⟩]=#[{ g:=eid e,fn:=g.frame.fn,pos:=g.frame.place,act:=.access ⟨.obj dd.c,false,true⟩ },{ g:=eid e,fn:=g.frame.fn,pos:=g.frame.place,act:=.close dd.c }]:=by simp [MemOp.ofEvents,MemAct.ofEvent]
    rw [e1]
    exact (ih l1 e l2 hl _ h4).1 _ _ _ _ h5
   | done hs _=>rw [hre] at hs; cases hs
end
end R
end Go.Proofs.YtkokohkbhlnjkaaGreatDoor
