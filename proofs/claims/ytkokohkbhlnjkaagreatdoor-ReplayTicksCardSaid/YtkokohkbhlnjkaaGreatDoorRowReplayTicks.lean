/- 'sawtoothlaw22.ReplayTicks': for every input the call returns true, and each argument reads as it did: the tied card. Conditions: the listed variable holds what the program's text lays. -/
import Derived.Test.YtkokohkbhlnjkaaGreatDoorMa6
import Derived.Test.YtkokohkbhlnjkaaGreatDoorCards
import Derived.Test.YtkokohkbhlnjkaaGreatDoorTie
namespace Go.Proofs.YtkokohkbhlnjkaaGreatDoor
set_option linter.unusedVariables false
set_option linter.unusedSimpArgs false
open Go Go.RowKit Go.Proofs.YtkokohkbhlnjkaaGreatDoor.R
set_option maxRecDepth 50000
set_option maxHeartbeats 8000000
theorem Qrh (s:Es) (rs:Nat→Raw) (k:Nat):∀ d,(playUp s rs (k+d)).2.take k=(playUp s rs k).2
 | 0=>by rw [Nat.add_zero,List.take_of_length_le (by rw [QcZ]; exact Nat.le_refl _)]
 | d+1=>by
  have hl:=QcZ s rs (k+d)
  show ((playUp s rs (k+d)).2 ++ _).take k=_
  rw [List.take_append_of_le_length (by omega)]
  exact Qrh s rs k d
theorem QB0 {c:Cf} {rs:Nat→Raw} {k n:Nat} (h:c.ok=true) (hk:k≤n):(plNotes c rs n).1.take k=(plNotes c rs k).1:=by
 unfold plNotes
 rw [if_pos h,if_pos h]
 obtain ⟨d,rfl⟩:=Nat.exists_eq_add_of_le hk
 show ((playUp (esNew c).1 rs (k+d)).2.map noteOf).take k=_
 rw [←List.map_take,Qrh]
theorem Qp9:∀ (l:List Nt) (m:Nat),(ntVals l).take (m * 6)=ntVals (l.take m)
 | [],m=>by simp [ntVals]
 | e :: l,0=>by simp [ntVals]
 | e :: l,m+1=>by
  simp only [ntVals,ntRow,List.take_succ_cons,show (m+1) * 6=m * 6+6 by omega,List.cons_append,List.nil_append]
  rw [Qp9 l m]
def slA (a:Option Addr) (cap:Nat):Option Addr:=if cap=0 then a else a.map (·.add 0)
theorem QFG {P:Program} {t e:TypeId} {a:Option Addr} {len cap:Nat} {k:IntKind} {z:Int} {K:Value→Prop} (ht:P.underlying t=some (.slice e)) (hi:(P.info? e).isSome=true) (hz:0≤z∧z≤cap) (h:K (.slice (slA a cap) z.toNat cap)) :
  pureW P (Instr.sliceAt t (.slice a len cap) none (some (.int k z)) none) K:=by
 obtain ⟨i,hi⟩:=Option.isSome_iff_exists.1 hi
 have hz':0≤z∧z≤(cap:Int):=hz
 refine ⟨_,fun w=>⟨?_,?_⟩,h⟩
 ·simp [Instr.sliceAt,Instr.slice,run_underlying ht,Instr.sliceBounds,Instr.sliceBound,asIntOf,hz',sizeOf,typeInfo,hi,slA]
 ·simp [Instr.sliceAt,Instr.slice,run_underlying ht,Instr.sliceBounds,Instr.sliceBound,asIntOf,hz',sizeOf,typeInfo,hi,slA]
theorem Qhm {P:Program} {t e:TypeId} {a:Option Addr} {len cap:Nat} {k:IntKind} {z:Int} {K:Value→Prop} (ht:P.underlying t=some (.slice e)) (hi:(P.info? e).isSome=true) (hz:0≤z∧z≤cap) (h:K (.slice (slA a cap) z.toNat cap)) :
  pureW P (Instr.sliceAt t (.slice a len cap) ([]:List Value)[0]? [Value.int k z][0]? ([]:List Value)[0]?) K:=QFG ht hi hz h
theorem QsB {b off:Nat} {cap:Nat}:slA (some ⟨b,off,none⟩) cap=some ⟨b,off,none⟩:=by
 unfold slA
 split
 ·rfl
 ·rw [Option.map_some,Addr.add_lit,Nat.add_zero]
theorem Raws.cut {x:Nat→Obj→Prop} {a:Option Addr} {len k cap:Nat} {rs:Nat→Raw} (h:Raws x a len rs) (hk:k≤len):Raws x (slA a cap) k rs:=fun i hi=>by
 obtain ⟨h1,b,off,c,T,f,rfl,h3,h4⟩:=h i (by omega)
 exact ⟨h1,b,off,c,T,f,QsB,h3,h4⟩
theorem RowAt.cut {x:Nat→Obj→Prop} {a:Option Addr} {z n cap m:Nat} {vals:List Value} (h:RowAt x a z n cap vals) (hm:m≤n):RowAt x a z m cap (vals.take (m * z)):=by
 obtain ⟨h1,h2⟩:=h
 have hz:m * z≤n * z:=Nat.mul_le_mul_right _ hm
 refine ⟨by rw [List.length_take]; omega,?_⟩
 rcases h2 with ⟨q1,q2,q3⟩ | ⟨b,c,T,f,q1,q2,q3,q4,q5⟩
 ·exact .inl ⟨q1,by omega,q3⟩
 ·refine .inr ⟨b,c,T,f,q1,q2,?_,by omega,q5⟩
  rw [←q3,List.take_take,Nat.min_eq_left hz]
theorem RowAt.len_cap {x:Nat→Obj→Prop} {a:Option Addr} {z n cap:Nat} {vals:List Value} (h:RowAt x a z n cap vals):n≤cap:=by
 rcases h.2 with ⟨_,h2,h3⟩ | ⟨_,_,_,_,_,_,_,h4,_⟩
 ·omega
 ·exact h4
theorem RowAt.slA {x:Nat→Obj→Prop} {a:Option Addr} {z n cap:Nat} {vals:List Value} (h:RowAt x a z n cap vals):slA a cap=a:=by
 rcases h.2 with ⟨rfl,_⟩ | ⟨b,c,T,f,rfl,_⟩
 ·unfold Go.Proofs.YtkokohkbhlnjkaaGreatDoor.slA; split <;> rfl
 ·exact QsB
end Go.Proofs.YtkokohkbhlnjkaaGreatDoor
namespace Go.Proofs.YtkokohkbhlnjkaaGreatDoor
set_option linter.unusedVariables false
set_option linter.unusedSimpArgs false
open Go Go.RowKit Go.Proofs.YtkokohkbhlnjkaaGreatDoor.R
set_option maxRecDepth 50000
set_option maxHeartbeats 8000000
theorem Qfp {s:Es} {r:Raw} (h:(playStep s r).2≠0):(playStep s r).1=s:=by
 unfold playStep at h ⊢
 by_cases h0:(rawEv r).2=0
 ·rw [if_pos h0] at h ⊢; exact Qgf h
 ·rw [if_neg h0]
theorem Qrf {s:Es} {f g:Nat→Raw}:∀ {m:Nat},(∀ j,j < m→f j=g j)→playUp s f m=playUp s g m
 | 0,_=>rfl
 | m+1,h=>by
  have ih:=Qrf (s:=s) (f:=f) (g:=g) (m:=m) fun j hj=>h j (by omega)
  rw [playUp,playUp,ih,h m (by omega)]
def rawZ:Raw:=⟨none,0,0,fun _=>0⟩
def playL (s:Es) (l:List Raw):Es×List (Es×Int):=playUp s (fun j=>l.getD j rawZ) l.length
theorem QGs (s:Es):playL s []=(s,[]):=rfl
theorem Qjl (s:Es) (l:List Raw) (r:Raw):playL s (l ++ [r])=((playStep (playL s l).1 r).1,(playL s l).2 ++ [playStep (playL s l).1 r]):=by
 have hc:playUp s (fun j=>(l ++ [r]).getD j rawZ) l.length=playL s l:=Qrf fun j hj=>by
  simp only [List.getD_eq_getElem?_getD]
  rw [List.getElem?_append_left hj]
 have hl:(l ++ [r]).getD l.length rawZ=r:=by simp
 unfold playL at hc ⊢
 rw [List.length_append]
 show playUp _ _ (l.length+1)=_
 rw [playUp,hc]
 simp only [hl]
theorem Qre (s:Es) (l:List Raw):(playL s l).2.length=l.length:=QcZ _ _ _
def goods (s:Es) (rs:Nat→Raw):Nat→List Raw
 | 0=>[]
 | i+1=>if (playStep (playUp s rs i).1 (rs i)).2=0 then goods s rs i ++ [rs i] else goods s rs i
theorem QoF (s:Es) (rs:Nat→Raw):∀ i,(goods s rs i).length≤i
 | 0=>Nat.le_refl _
 | i+1=>by
  have:=QoF s rs i
  rw [goods]
  split
  ·rw [List.length_append]; simp; omega
  ·omega
theorem QiP (s:Es) (rs:Nat→Raw):∀ i,∀ r∈goods s rs i,∃ j,j < i∧r=rs j
 | 0,r,h=>by simp [goods] at h
 | i+1,r,h=>by
  rw [goods] at h
  split at h
  ·rcases List.mem_append.1 h with h | h
   ·obtain ⟨j,h1,h2⟩:=QiP s rs i r h
    exact ⟨j,by omega,h2⟩
   ·exact ⟨i,by omega,List.mem_singleton.1 h⟩
  ·obtain ⟨j,h1,h2⟩:=QiP s rs i r h
   exact ⟨j,by omega,h2⟩
def isGood (p:Es×Int):Bool:=decide (p.2=0)
theorem QoG (s:Es) (rs:Nat→Raw):∀ i,playL s (goods s rs i)=((playUp s rs i).1,(playUp s rs i).2.filter isGood)
 | 0=>rfl
 | i+1=>by
  have h1:=QoG s rs i
  rw [goods,playUp]
  by_cases h0:(playStep (playUp s rs i).1 (rs i)).2=0
  ·rw [if_pos h0,Qjl,h1]
   dsimp only
   rw [List.filter_append]
   have:isGood (playStep (playUp s rs i).1 (rs i))=true:=decide_eq_true h0
   rw [List.filter_cons,if_pos this]
   rfl
  ·rw [if_neg h0,h1]
   dsimp only
   rw [List.filter_append]
   have:¬ isGood (playStep (playUp s rs i).1 (rs i))=true:=fun h=>h0 (of_decide_eq_true h)
   rw [List.filter_cons,if_neg this,Qfp h0]
   simp
theorem Qta:∀ l:List (Es×Int),wins ((l.filter isGood).map noteOf)=wins (l.map noteOf)
 | []=>rfl
 | p :: l=>by
  have ih:=Qta l
  rw [List.filter_cons,List.map_cons,wins]
  by_cases h:p.2=0
  ·rw [if_pos (show isGood p=true from decide_eq_true h),List.map_cons,wins,ih]
  ·rw [if_neg (show ¬ isGood p=true from fun q=>h (of_decide_eq_true q)),ih,if_neg (show ¬ (noteOf p).err=0 from h)]
theorem Qs9:∀ l:List (Es×Int),(wins ((l.filter isGood).map noteOf)).length=((l.filter isGood).map noteOf).length
 | []=>rfl
 | p :: l=>by
  have ih:=Qs9 l
  rw [List.filter_cons]
  by_cases h:p.2=0
  ·rw [if_pos (show isGood p=true from decide_eq_true h),List.map_cons,wins,if_pos (show (noteOf p).err=0 from h),List.length_cons,List.length_cons,ih]
  ·rw [if_neg (show ¬ isGood p=true from fun q=>h (of_decide_eq_true q)),ih]
def Nt.no (n:Nt):Nt:={ n with err:=0 }
theorem QgY (p:Es×Int):noteOf p=⟨p.2,(esLook p.1).win,(esLook p.1).thr,(esLook p.1).rate,(esLook p.1).rto,(esLook p.1).part⟩:=by
 unfold noteOf
 generalize esLook p.1=q
 rfl
theorem QBF (p:Es×Int):(noteOf p).no=(esLook p.1).no:=by
 rw [QgY]
 generalize esLook p.1=q
 rfl
theorem Qjd (p:Es×Int):(noteOf p).err=p.2:=rfl
theorem QGq {s:Es} {r:Raw} (h:(playStep s r).2≠0):(noteOf (playStep s r)).no=(esLook s).no:=by rw [QBF,Qfp h]
theorem QGp {s:Es} (h:EsOk s):(esLook s).no=esLook s:=by rw [Qfi h]; rfl
end Go.Proofs.YtkokohkbhlnjkaaGreatDoor
namespace Go.Proofs.YtkokohkbhlnjkaaGreatDoor
set_option linter.unusedVariables false
set_option linter.unusedSimpArgs false
open Go Go.RowKit
namespace R
theorem Rep.pubG {w0:WM} {N:Nat} {ds:List Deferred} {s:Nat→Nat} {a:Act} {w:WM} {t:List (Nat×RV)} {m:List RO} {x:Nat→Obj→Prop} (hr:Rep [] w0 N ds s ⟨t,m,x⟩ a w)
  (ks:List Nat) (t':List (Nat×RV)) (m':List RO) {c:Nat} {oc:RO} (hc:m[c]? = some oc) (hl:m'.length=ks.length)
  (hk:∀ (k:Nat) (o':RO),m'[k]? = some o'→∃ (j:Nat) (o:RO),ks[k]? = some j∧j≠c∧m[j]? = some o∧renO (fun k=>s (ks.getD k 0)) o'=renO s o∧cloO m'.length o'=true)
  (hnd:∀ (k k' j:Nat),ks[k]? = some j→ks[k']? = some j→k=k')
  (ht:∀ i v,lk t' i=some v→∃ u,lk t i=some u∧ren (fun k=>s (ks.getD k 0)) v=ren s u∧clo m'.length v=true) :
  Rep [] w0 N ds (fun k=>s (ks.getD k 0)) ⟨t',m',fun b o=>x b o∨(b=s c∧o=renO s oc)⟩ a w:=by
 have hcm:=(List.getElem?_eq_some_iff.1 hc).1
 have at_:∀ k,k < m'.length→∃ j,ks[k]? = some j∧ks.getD k 0=j∧j≠c∧j < m.length:=fun k h=>by
  obtain ⟨j,o,h1,h2,h3,_⟩:=hk k m'[k] (by simp [h])
  exact ⟨j,h1,by simp [List.getD_eq_getElem?_getD,h1],h2,(List.getElem?_eq_some_iff.1 h3).1⟩
 refine ⟨⟨?_,?_,?_,?_,?_,?_,?_,hr.mr.wf⟩,?_,hr.fr,hr.size,?_,hr.df⟩
 ·intro k o' h
  obtain ⟨j,o,h1,h2,h3,h4,h5⟩:=hk k o' h
  show w.heap[s (ks.getD k 0)]? = some (renO (fun k=>s (ks.getD k 0)) o')
  rw [h4,show ks.getD k 0=j by simp [List.getD_eq_getElem?_getD,h1]]
  exact hr.mr.mem j o h3
 ·intro j k hj hk' e
  obtain ⟨j1,a1,a2,a3,a4⟩:=at_ j hj
  obtain ⟨k1,b1,b2,b3,b4⟩:=at_ k hk'
  replace e:s (ks.getD j 0)=s (ks.getD k 0):=e
  rw [a2,b2] at e
  have:=hr.mr.inj j1 k1 a4 b4 e
  subst this
  exact hnd j k j1 a1 b1
 ·intro k o' h
  obtain ⟨j,o,h1,h2,h3,h4,h5⟩:=hk k o' h
  exact h5
 ·rintro b p (hb | ⟨rfl,rfl⟩)
  ·exact hr.mr.ext b p hb
  ·exact hr.mr.mem c _ hc
 ·intro b p hb k hkl
  obtain ⟨j,a1,a2,a3,a4⟩:=at_ k hkl
  show s (ks.getD k 0)≠b
  rw [a2]
  rcases hb with hb | ⟨rfl,rfl⟩
  ·exact hr.mr.apart b p hb j a4
  ·exact fun e=>a3 (hr.mr.inj j c a4 hcm e)
 ·intro k hkl
  obtain ⟨j,a1,a2,a3,a4⟩:=at_ k hkl
  show w.M (s (ks.getD k 0))
  rw [a2]
  exact hr.mr.mine j a4
 ·rintro b p (hb | ⟨rfl,rfl⟩)
  ·exact hr.mr.know b p hb
  ·exact .inl (hr.mr.mine c hcm)
 ·refine .none fun k hkl=>?_
  obtain ⟨j,a1,a2,a3,a4⟩:=at_ k hkl
  show _≤s (ks.getD k 0)
  rw [a2]
  exact (hr.own.mem a4).resolve_left (by simp)
 ·intro i v h
  obtain ⟨u,h1,h2,h3⟩:=ht i v h
  exact ⟨by rw [h2]; exact (hr.slot i u h1).1,h3⟩
theorem Qd5 {s s':Nat→Nat} {l:List RV} (h:∀ v∈l,∃ u,v=.ext u):l.map (ren s)=l.map (ren s'):=List.map_congr_left fun v hv=>by
 obtain ⟨u,rfl⟩:=h v hv
 rfl
theorem Rep.pubC {w0:WM} {N:Nat} {ds:List Deferred} {s:Nat→Nat} {a:Act} {w:WM} {t rest:List (Nat×RV)} {m:List RO} {x:Nat→Obj→Prop} {o c g cg n cap kl kp:Nat} {T T' TC:TypeId} {L Z crow row0:List RV}
  (hr:Rep [] w0 N ds s ⟨t,m,x⟩ a w) (h0:nthX m 0=some (.cells TC row0)) (hC:∀ v∈row0,∃ u,v=.ext u) (ho:nthX m o=some (.cells T (L ++ [.sl c 0 n cap] ++ Z))) (hc:nthX m c=some (.cells T' crow)) (hoc:o≠c) (ho0:o≠0) (hc0:0≠c)
  (hL:∀ v∈L,∃ u,v=.ext u) (hZ:∀ v∈Z,∃ u,v=.ext u) (hl:lk t kl=some (.sl o 0 g cg)) (hp:lk t kp=some (.ptr 0 0)) (he:extL t rest) :
  Rep [] w0 N ds (fun k=>s ([0,o].getD k 0)) ⟨(kl,.sl 1 0 g cg) :: (kp,.ptr 0 0) :: rest,[.cells TC row0,.cells T (L ++ [.ext (.slice (some ⟨s c,0,none⟩) n cap)] ++ Z)],fun b o'=>x b o'∨(b=s c∧o'=renO s (.cells T' crow))⟩ a w:=by
 rw [Qay] at ho hc h0
 refine hr.pubG [0,o] _ _ hc rfl ?_ ?_ ?_
 ·intro k o' hk
  match k with
  | 0=>
   simp only [List.getElem?_cons_zero,Option.some.injEq] at hk
   subst hk
   refine ⟨0,_,rfl,hc0,h0,?_,?_⟩
   ·simp only [renO,Qd5 (s':=s) hC]
   ·simp only [cloO,List.all_eq_true]
    intro v hv
    obtain ⟨u,rfl⟩:=hC v hv
    rfl
  | 1=>
   simp only [List.getElem?_cons_succ,List.getElem?_cons_zero,Option.some.injEq] at hk
   subst hk
   refine ⟨o,_,rfl,hoc,ho,?_,?_⟩
   ·simp only [renO,List.map_append,Qd5 (s':=s) hL,Qd5 (s':=s) hZ]
    rfl
   ·simp only [cloO,List.all_append,Bool.and_eq_true,List.all_eq_true]
    refine ⟨⟨fun v hv=>?_,fun v hv=>?_⟩,fun v hv=>?_⟩
    ·obtain ⟨u,rfl⟩:=hL v hv; rfl
    ·rw [List.mem_singleton.1 hv]; rfl
    ·obtain ⟨u,rfl⟩:=hZ v hv; rfl
  | k+2=>simp at hk
 ·intro k k' j h1 h2
  match k,k' with
  | 0,0=>rfl
  | 1,1=>rfl
  | 0,1=>simp at h1 h2; omega
  | 1,0=>simp at h1 h2; omega
  | k+2,_=>simp at h1
  | 0,k+2=>simp at h2
  | 1,k+2=>simp at h2
 ·intro i v hi
  rw [Qa7] at hi
  split at hi
  ·rename_i e
   simp only [Option.some.injEq] at hi
   subst hi
   rw [e]
   exact ⟨_,hl,rfl,rfl⟩
  ·rw [Qa7] at hi
   split at hi
   ·rename_i e
    simp only [Option.some.injEq] at hi
    subst hi
    rw [e]
    exact ⟨_,hp,rfl,rfl⟩
   ·obtain ⟨h1,u,rfl⟩:=Qil he i v hi
    exact ⟨_,h1,rfl,rfl⟩
instance stkF {p:(Nat→Nat)→Act→WM→Prop}:Stk (∀ s a w,p s a w):=⟨trivial⟩
end R
end Go.Proofs.YtkokohkbhlnjkaaGreatDoor
namespace Go.Proofs.YtkokohkbhlnjkaaGreatDoor
set_option linter.unusedVariables false
set_option linter.unusedSimpArgs false
open Go Go.RowKit Go.Proofs.YtkokohkbhlnjkaaGreatDoor.R
set_option maxRecDepth 50000
set_option maxHeartbeats 8000000
theorem Qh2 (c:Cf):∀ v∈cfCells c,∃ u,v=.ext u:=by
 intro v hv
 simp only [cfCells,List.mem_cons,List.not_mem_nil,or_false] at hv
 rcases hv with rfl | rfl | rfl | rfl | rfl | rfl | rfl <;> exact ⟨_,rfl⟩
theorem Qnq {rs:Nat→Raw} {len i:Nat} {m:Int} (h:fewB rs len m=true) (hi:i < len):(rs i).len≤10:=by
 unfold fewB at h
 simp only [Bool.and_eq_true] at h
 exact of_decide_eq_true (List.all_eq_true.1 h.1 i (List.mem_range.2 hi))
def rawV (r:Raw):RV:=.ext (.slice r.a r.len r.cap)
theorem QbZ:appS Tryz.prog #[24,24]=some (28,[.slice none 0 0],24):=by kernel_rfl
theorem QkT {S:St} {a:Option Addr} {n c:Nat} {K:RV→St→Prop} (h:K (.sl S.m.length 0 1 1) ⟨S.t,S.m ++ [.cells 28 [.ext (.slice a n c)]],S.x⟩) :
  bldW Tryz.prog S 24 1 [0] [.ext (.slice a n c)] K:=
 Qbq (z:=.slice none 0 0) (b:=24) Tryz.underlying24 (by kernel_rfl) rfl (by decide) rfl rfl rfl h
theorem Qjt (r:Raw):∀ v∈([.ext (.slice r.a r.len r.cap)]:List RV),∃ u,v=.ext u:=by
 intro v hv
 simp only [List.mem_singleton] at hv
 exact ⟨_,hv⟩
theorem Qeg {S:St} {k n c:Nat} {K:RV→St→Prop} (h:K (.sl S.m.length 0 1 1) ⟨S.t,S.m ++ [.cells 28 [.sl k 0 n c]],S.x⟩) :
  bldW Tryz.prog S 24 1 [0] [.sl k 0 n c] K:=
 Qbq (z:=.slice none 0 0) (b:=24) Tryz.underlying24 (by kernel_rfl) rfl (by decide) rfl rfl rfl h
theorem Qju {x:Nat→Obj→Prop} {s:Nat→Nat} {t:List (Nat×RV)} {m:List RO} {k T n cap:Nat} {row:List RV} {L:List Raw} (h:RowIs row 1 n cap (L.map rawV)) (hm:m[k]? = some (.cells T row)) (hi:∀ r∈L,Ints x r.a r.len r.zs):Raws (xAll ⟨t,m,x⟩ s) (some ⟨s k,0,none⟩) n (fun j=>L.getD j rawZ):=fun j hj=>by
 have hl:L.length=n:=by have:=h.len; simpa using this
 have hgd:L[j]? = some (L.getD j rawZ):=by simp [hl,hj]
 refine ⟨?_,s k,0,_,T,(0,0),rfl,.inr ⟨k,_,hm,rfl,rfl⟩,?_⟩
 ·intro l hl'
  obtain ⟨e1,b,off,c,T',f,e2,e3,e4⟩:=hi _ (List.mem_of_getElem? hgd) l hl'
  exact ⟨e1,b,off,c,T',f,e2,.inl e3,e4⟩
 ·have hrg:=h.get (j:=j) (by omega)
  rw [List.getElem?_map,hgd] at hrg
  simp only [loadX,Int.toNat_natCast,Nat.zero_add,Nat.mul_one]
  simp only [List.getElem?_toArray,List.getElem?_map,hrg,Option.map_some]
  rfl
end Go.Proofs.YtkokohkbhlnjkaaGreatDoor
namespace Go.Proofs.YtkokohkbhlnjkaaGreatDoor
set_option linter.unusedVariables false
set_option linter.unusedSimpArgs false
open Go Go.RowKit Go.Proofs.YtkokohkbhlnjkaaGreatDoor.R
set_option maxRecDepth 50000
set_option maxHeartbeats 8000000
theorem Qia {s:Es} {e:Ev} (h:EsOk s) (h1:evCheck e.kind e.time e.bytes e.rtt=0) (h2:s.now≤e.time) (h3:e.time≤1099511627776):EsOk (esAt s e.time)∧esDo s e=if (esBy (esAt s e.time) e).2≠0 then (s,(esBy (esAt s e.time) e).2) else esBy (esAt s e.time) e:=by
 have h0:=(Qcj s).2 h
 have hn:=h.now
 have hk:clkStep s.now e.time=(e.time,0):=by
  unfold clkStep clkCheck
  rw [decide_eq_true (show 0≤e.time by omega),decide_eq_true h3,decide_eq_false (show ¬ e.time < s.now by omega)]
  rfl
 have h4:=Qe4 h h2 h3
 refine ⟨h4.2,?_⟩
 unfold esDo
 rw [h0,hk]
 simp [h1,h4.1]
theorem Qw6 {s:Es} {t:Int} (h:EsOk s) (h1:s.now≤t) (h2:t≤1099511627776):esAt (esAt s t) t=esAt s t:=by
 have hb:=h.bk
 have ha:=h.bkAt
 have hn:=h.now
 obtain ⟨f1,f2,f3,f4⟩:=QkP (r:=esRate s) (m:=s.cf.burst * s.cf.seg) hb (show 0≤t∧t≤1099511627776 by omega) (show s.bk.at_≤t by omega)
 have hr:esRate (esAt s t)=esRate s:=rfl
 have key:esFill (esAt s t) t=((esAt s t).bk,0):=by
  unfold esFill
  rw [hr]
  show bkFill (esFill s t).1 t (esRate s) (s.cf.burst * s.cf.seg)=((esFill s t).1,0)
  unfold esFill
  generalize hB:bkFill s.bk t (esRate s) (s.cf.burst * s.cf.seg)=B at *
  obtain ⟨⟨at',hv⟩,e⟩:=B
  dsimp only at f1 f2 f3 f4 ⊢
  subst f2
  unfold bkFill
  rw [if_neg (fun q=>q f3),if_neg (by omega),if_neg (show ¬ at' < at' by omega)]
  dsimp only
  rw [Int.sub_self,Int.mul_zero]
  unfold bkOk at f3
  dsimp only at f3
  have s0:sat 0=0:=by decide
  rw [s0,Int.add_zero,Qcd (by unfold in64; omega)]
  unfold mn
  split
  ·rw [if_neg (by omega)]
  ·rfl
 show ({ esAt s t with bk:=(esFill (esAt s t) t).1,now:=t }:Es)=_
 rw [key]
 rfl
theorem Qnc {t:Int} (h:0≤t∧t≤1099511627776):evCheck 7 t 0 0=0:=by
 unfold evCheck clkCheck
 rw [if_pos (by decide),decide_eq_true h.1,decide_eq_true h.2]
 rfl
theorem QFW {s:Es} {e:Ev} (h:(esDo s e).2=0):(esDo s ⟨7,e.time,0,0⟩).2=0∧esDo (esDo s ⟨7,e.time,0,0⟩).1 e=esDo s e:=by
 obtain ⟨h1,h2,h3,h4,h5,h6,h7⟩:=Qen h
 have hn:=h1.now
 have ht:esDo s ⟨7,e.time,0,0⟩=(esAt s e.time,0):=(Qia (e:=⟨7,e.time,0,0⟩) h1 (Qnc ⟨Int.le_trans hn.1 h3,h4⟩) h3 h4).2
 rw [ht]
 refine ⟨rfl,?_⟩
 have he:=(Qia h6 h2 (show (esAt s e.time).now≤e.time from Int.le_refl _) h4).2
 dsimp only
 rw [he,Qw6 h1 h3 h4,if_neg (by simpa using h7),h5]
structure TickOf (r t:Raw):Prop where
 len:t.len=4
 kind:t.zs 0=7
 time:t.zs 1=r.zs 1
 bytes:t.zs 2=0
 rtt:t.zs 3=0
theorem QgM {s:Es} {r:Raw} (h:(playStep s r).2=0):r.len=4∧rawEv r=(⟨r.zs 0,r.zs 1,r.zs 2,r.zs 3⟩,0)∧playStep s r=esDo s ⟨r.zs 0,r.zs 1,r.zs 2,r.zs 3⟩:=by
 have h0:(rawEv r).2=0:=by
  unfold playStep at h
  by_cases q:(rawEv r).2=0
  ·exact q
  ·rw [if_neg q] at h; exact absurd h q
 have h1:playStep s r=esDo s (rawEv r).1:=if_pos h0
 unfold rawEv evDec at h0 h1 ⊢
 by_cases h4:r.len=4
 ·rw [if_pos h4] at h0 h1 ⊢
  by_cases hc:evCheck (r.zs 0) (r.zs 1) (r.zs 2) (r.zs 3)=0
  ·rw [if_pos hc] at h1 ⊢
   exact ⟨h4,rfl,h1⟩
  ·rw [if_neg hc] at h0; exact absurd h0 hc
 ·rw [if_neg h4] at h0; cases h0
theorem QFX {s:Es} {r t:Raw} (h:(playStep s r).2=0) (ht:TickOf r t):(playStep s t).2=0∧playStep (playStep s t).1 r=playStep s r:=by
 obtain ⟨h4,hr,hp⟩:=QgM h
 rw [hp] at h
 obtain ⟨k1,k2⟩:=QFW h
 obtain ⟨g1,g2,g3,g4,_⟩:=Qen h
 have hn:=g1.now
 have hte:rawEv t=(⟨7,r.zs 1,0,0⟩,0):=by
  unfold rawEv evDec
  rw [if_pos ht.len,ht.kind,ht.time,ht.bytes,ht.rtt,Qnc ⟨Int.le_trans hn.1 g3,g4⟩]
  rfl
 have hts:playStep s t=esDo s ⟨7,r.zs 1,0,0⟩:=by
  unfold playStep
  rw [hte]
  rfl
 rw [hts]
 refine ⟨k1,?_⟩
 have:∀ s',playStep s' r=esDo s' ⟨r.zs 0,r.zs 1,r.zs 2,r.zs 3⟩:=fun s'=>by
  unfold playStep
  rw [hr]
  rfl
 rw [this,this]
 exact k2
structure Ticked (s:Es) (rs:Nat→Raw) (i:Nat) (L:List Raw) (W:List (Es×Int)):Prop where
 st:(playL s L).1=(playUp s rs i).1
 len:L.length=2 * W.length
 want:W=(playUp s rs i).2.filter isGood
 tick:∀ j,j < W.length→∃ p,(playL s L).2[2 * j]? = some p∧p.2=0
 ev:∀ j,j < W.length→(playL s L).2[2 * j+1]? = W[j]?
theorem Ticked.nil (s:Es) (rs:Nat→Raw):Ticked s rs 0 [] []:=⟨rfl,rfl,rfl,fun j hj=>absurd hj (Nat.not_lt_zero j),fun j hj=>absurd hj (Nat.not_lt_zero j)⟩
theorem Ticked.skip {s:Es} {rs:Nat→Raw} {i:Nat} {L:List Raw} {W:List (Es×Int)} (h:Ticked s rs i L W) (h0:(playStep (playUp s rs i).1 (rs i)).2≠0):Ticked s rs (i+1) L W:=by
 refine ⟨?_,h.len,?_,h.tick,h.ev⟩
 ·rw [h.st,playUp]; exact (Qfp h0).symm
 ·rw [h.want,playUp,List.filter_append,List.filter_cons,if_neg (show ¬ isGood _=true from fun q=>h0 (of_decide_eq_true q))]
  simp
theorem Ticked.more {s:Es} {rs:Nat→Raw} {i:Nat} {L:List Raw} {W:List (Es×Int)} {t:Raw} (h:Ticked s rs i L W) (h0:(playStep (playUp s rs i).1 (rs i)).2=0) (ht:TickOf (rs i) t):Ticked s rs (i+1) (L ++ [t,rs i]) (W ++ [playStep (playUp s rs i).1 (rs i)]):=by
 obtain ⟨k1,k2⟩:=QFX h0 ht
 have e:playL s (L ++ [t,rs i])=((playStep (playUp s rs i).1 (rs i)).1,(playL s L).2 ++ [playStep (playUp s rs i).1 t] ++ [playStep (playUp s rs i).1 (rs i)]):=by
  rw [show L ++ [t,rs i]=L ++ [t] ++ [rs i] by simp,Qjl,Qjl,h.st]
  dsimp only
  rw [k2]
 have hl:(playL s L).2.length=2 * W.length:=by rw [Qre]; exact h.len
 refine ⟨by rw [e]; rfl,?_,?_,fun j hj=>?_,fun j hj=>?_⟩
 ·rw [List.length_append,List.length_append,h.len]; simp; omega
 ·rw [h.want,playUp,List.filter_append,List.filter_cons,if_pos (show isGood _=true from decide_eq_true h0)]
  rfl
 ·rw [e]
  dsimp only
  rw [List.append_assoc]
  rw [List.length_append] at hj
  simp only [List.length_cons,List.length_nil] at hj
  by_cases hjl:j < W.length
  ·rw [List.getElem?_append_left (by omega)]
   exact h.tick j hjl
  ·have:j=W.length:=by omega
   subst this
   rw [List.getElem?_append_right (by omega),hl,Nat.sub_self]
   exact ⟨_,rfl,k1⟩
 ·rw [e]
  dsimp only
  rw [List.append_assoc]
  rw [List.length_append] at hj
  simp only [List.length_cons,List.length_nil] at hj
  by_cases hjl:j < W.length
  ·rw [List.getElem?_append_left (by omega),List.getElem?_append_left hjl]
   exact h.ev j hjl
  ·have:j=W.length:=by omega
   subst this
   rw [List.getElem?_append_right (by omega),List.getElem?_append_right (Nat.le_refl _),hl,Nat.sub_self,show 2 * W.length+1 - 2 * W.length=1 by omega]
   rfl
end Go.Proofs.YtkokohkbhlnjkaaGreatDoor
namespace Go.Proofs.YtkokohkbhlnjkaaGreatDoor
set_option linter.unusedVariables false
set_option linter.unusedSimpArgs false
open Go Go.RowKit Go.Proofs.YtkokohkbhlnjkaaGreatDoor.R
set_option maxRecDepth 50000
set_option maxHeartbeats 8000000
inductive TkS where
 | nil (i:Nat)
 | own (i g cg:Nat) (row:List RV) (h ch:Nat) (wrow:List RV) (X:Nat→Obj→Prop) (L:List Raw) (W:List (Es×Int))
def tkSt (c:Cf) (rest:List (Nat×RV)) (x:Nat→Obj→Prop):TkS→St
 | .nil i=>⟨(8,.ext (.slice none 0 0)) :: (9,.ext (.slice none 0 0)) :: (2,.ptr 0 0) :: (10,.ext (.int .i64 i)) :: rest,[.cells 23 (cfCells c)],x⟩
 | .own i g cg row h ch wrow X _ _=>⟨(8,.sl 1 0 g cg) :: (9,.sl 2 0 h ch) :: (2,.ptr 0 0) :: (10,.ext (.int .i64 i)) :: rest,[.cells 23 (cfCells c),.cells 28 row,.cells 54 wrow],X⟩
def tkJ (s0:Es) (rs:Nat→Raw) (len:Nat) (x:Nat→Obj→Prop):TkS→Prop
 | .nil i=>i≤len∧Ticked s0 rs i [] []
 | .own i g cg row h ch wrow X L W=>i≤len∧xsub x X∧Ticked s0 rs i L W∧L.length=g∧W.length=h∧RowIs row 1 g cg (L.map rawV)∧RowIs wrow 6 h ch ((ntVals (W.map noteOf)).map .ext)∧∀ r∈L,Ints X r.a r.len r.zs
def tkM (len:Nat):TkS→Nat
 | .nil i=>len - i
 | .own i _ _ _ _ _ _ _ _ _=>len - i
theorem QsW {s0:Es} {rs:Nat→Raw} {i:Nat} {L:List Raw} {W:List (Es×Int)} (h:Ticked s0 rs i L W):W.length≤i:=by
 rw [h.want]
 exact Nat.le_trans (List.length_filter_le _ _) (by rw [QcZ]; exact Nat.le_refl _)
theorem QzU {x:Nat→Obj→Prop} {b T:Nat} {f:Nat×Nat} {z:Int} (hx:x b (.cells #[.int .i64 7,.int .i64 z,.int .i64 0,.int .i64 0] T f)) (hz:(Lit.int .i64 z).wf=true):Ints x (some ⟨b,0,none⟩) 4 (fun i=>[7,z,0,0].getD i 0):=fun i hi=>by
 match i,hi with
 | 0,_=>exact ⟨(by decide:(Lit.int .i64 7).wf=true),b,0,_,T,f,rfl,hx,rfl⟩
 | 1,_=>exact ⟨hz,b,0,_,T,f,rfl,hx,rfl⟩
 | 2,_=>exact ⟨(by decide:(Lit.int .i64 0).wf=true),b,0,_,T,f,rfl,hx,rfl⟩
 | 3,_=>exact ⟨(by decide:(Lit.int .i64 0).wf=true),b,0,_,T,f,rfl,hx,rfl⟩
theorem QfA {w0:WM} {N:Nat} {ds:List Deferred} {s:Nat→Nat} {a:Act} {w:WM} {t rest:List (Nat×RV)} {m:List RO} {x X:Nat→Obj→Prop} {o c p cg ch i len M g h:Nat} {s0:Es} {rs:Nat→Raw} {A Z wrow:List RV} {L:List Raw} {W:List (Es×Int)} {cf:Cf} {z:Int} {ra:Option Addr} {rn:Nat}
  (hrep:Rep [] w0 N ds s ⟨t,m,X⟩ a w) (hi:i < len) (hX:xsub x X) (hk:Ticked s0 rs i L W) (hgL:L.length=g) (hhW:W.length=h) (h0:(playStep (playUp s0 rs i).1 (rs i)).2=0) (hLi:∀ r∈L,Ints X r.a r.len r.zs) (hri:Ints X (rs i).a (rs i).len (rs i).zs) (hz:z=(rs i).zs 1) (hra:(rs i).a=ra) (hrn:(rs i).len=rn)
  (hrow:∀ u:Value,RowIs (A ++ [.ext u,.ext (.slice ra rn (rs i).cap)] ++ Z) 1 (g+2) cg (L.map rawV ++ [.ext u,.ext (.slice ra rn (rs i).cap)]))
  (hwr:RowIs wrow 6 (h+1) ch ((ntVals ((W ++ [playStep (playUp s0 rs i).1 (rs i)]).map noteOf)).map .ext))
  (h00:nthX m 0=some (.cells 23 (cfCells cf))) (ho:nthX m o=some (.cells 28 (A ++ [.sl c 0 4 4,.ext (.slice ra rn (rs i).cap)] ++ Z))) (hc:nthX m c=some (.cells 3 [.ext (.int .i64 7),.ext (.int .i64 z),.ext (.int .i64 0),.ext (.int .i64 0)])) (hp:nthX m p=some (.cells 54 wrow))
  (d:0≠c∧o≠c∧p≠c∧o≠0∧p≠0∧o≠p) (hA:∀ v∈A,∃ u,v=.ext u) (hZ:∀ v∈Z,∃ u,v=.ext u)
  (h8:lk t 8=some (.sl o 0 (g+2) cg)) (h9:lk t 9=some (.sl p 0 (h+1) ch)) (h2:lk t 2=some (.ptr 0 0)) (he:extL t ((10,.ext (.int .i64 ((i+1:Nat):Int))) :: rest)) (hM:len - (i+1) < M) :
  ∃ q s',Rep [] w0 N ds s' (tkSt cf rest x q) a w∧tkJ s0 rs len x q∧tkM len q < M:=by
 subst hra
 subst hrn
 obtain ⟨r4,_,_⟩:=QgM h0
 have hzw:(Lit.int .i64 z).wf=true:=by rw [hz]; exact (hri 1 (by omega)).1
 obtain ⟨d1,d2,d3,d4,d5,d6⟩:=d
 rw [Qay] at h00 ho hc hp
 have hx':∀ b o',X b o'→X b o'∨b=s c∧o'=renO s (.cells 3 [.ext (.int .i64 7),.ext (.int .i64 z),.ext (.int .i64 0),.ext (.int .i64 0)]):=fun b o' h=>.inl h
 have im:∀ r:Raw,Ints X r.a r.len r.zs→Ints (fun b o'=>X b o'∨b=s c∧o'=renO s (.cells 3 [.ext (.int .i64 7),.ext (.int .i64 z),.ext (.int .i64 0),.ext (.int .i64 0)])) r.a r.len r.zs:=fun r hr l hl=>by
  obtain ⟨e1,b,off,cc,T,f,e2,e3,e4⟩:=hr l hl
  exact ⟨e1,b,off,cc,T,f,e2,.inl e3,e4⟩
 refine ⟨TkS.own (i+1) (g+2) cg (A ++ [RV.ext (Value.slice (some ⟨s c,0,none⟩) 4 4),.ext (.slice (rs i).a (rs i).len (rs i).cap)] ++ Z) (h+1) ch wrow (fun b o'=>X b o'∨(b=s c∧o'=renO s (.cells 3 [.ext (.int .i64 7),.ext (.int .i64 z),.ext (.int .i64 0),.ext (.int .i64 0)])))
   (L ++ [⟨some ⟨s c,0,none⟩,4,4,fun i=>[7,z,0,0].getD i 0⟩,rs i]) (W ++ [playStep (playUp s0 rs i).1 (rs i)]),fun k=>s ([0,o,p].getD k 0),?_,?_,hM⟩
 ·refine hrep.pubG [0,o,p] _ _ hc rfl ?_ ?_ ?_
  ·intro k o' hk
   match k with
   | 0=>
    simp only [List.getElem?_cons_zero,Option.some.injEq] at hk
    subst hk
    refine ⟨0,_,rfl,d1,h00,?_,?_⟩
    ·simp only [renO,Qd5 (s':=s) (Qh2 cf)]
    ·simp only [cloO,List.all_eq_true]
     intro v hv
     obtain ⟨u,rfl⟩:=Qh2 cf v hv
     rfl
   | 1=>
    simp only [List.getElem?_cons_succ,List.getElem?_cons_zero,Option.some.injEq] at hk
    subst hk
    refine ⟨o,_,rfl,d2,ho,?_,?_⟩
    ·simp only [renO,List.map_append,Qd5 (s':=s) hA,Qd5 (s':=s) hZ]
     rfl
    ·simp only [cloO,List.all_append,Bool.and_eq_true,List.all_eq_true]
     refine ⟨⟨fun v hv=>?_,fun v hv=>?_⟩,fun v hv=>?_⟩
     ·obtain ⟨u,rfl⟩:=hA v hv; rfl
     ·simp only [List.mem_cons,List.not_mem_nil,or_false] at hv
      rcases hv with rfl | rfl <;> rfl
     ·obtain ⟨u,rfl⟩:=hZ v hv; rfl
   | 2=>
    simp only [List.getElem?_cons_succ,List.getElem?_cons_zero,Option.some.injEq] at hk
    subst hk
    refine ⟨p,_,rfl,d3,hp,?_,hwr.clo _ _⟩
    simp only [renO,Qd5 (s':=s) hwr.ext]
   | k+3=>simp at hk
  ·intro k k' j q1 q2
   match k,k' with
   | 0,0=>rfl
   | 1,1=>rfl
   | 2,2=>rfl
   | 0,1=>simp at q1 q2; omega
   | 1,0=>simp at q1 q2; omega
   | 0,2=>simp at q1 q2; omega
   | 2,0=>simp at q1 q2; omega
   | 1,2=>simp at q1 q2; omega
   | 2,1=>simp at q1 q2; omega
   | k+3,_=>simp at q1
   | 0,k+3=>simp at q2
   | 1,k+3=>simp at q2
   | 2,k+3=>simp at q2
  ·intro j v hj
   rw [Qa7] at hj
   split at hj
   ·rename_i e
    simp only [Option.some.injEq] at hj
    subst hj
    rw [e]
    exact ⟨_,h8,rfl,rfl⟩
   rw [Qa7] at hj
   split at hj
   ·rename_i e
    simp only [Option.some.injEq] at hj
    subst hj
    rw [e]
    exact ⟨_,h9,rfl,rfl⟩
   rw [Qa7] at hj
   split at hj
   ·rename_i e
    simp only [Option.some.injEq] at hj
    subst hj
    rw [e]
    exact ⟨_,h2,rfl,rfl⟩
   obtain ⟨q1,u,rfl⟩:=Qil he j v hj
   exact ⟨_,q1,rfl,rfl⟩
 ·refine ⟨by omega,fun b o' hb=>.inl (hX b o' hb),hk.more h0 ⟨rfl,rfl,hz,rfl,rfl⟩,by simp [hgL],by simp [hhW],?_,hwr,?_⟩
  ·have:=hrow (.slice (some ⟨s c,0,none⟩) 4 4)
   rw [List.map_append]
   exact this
  ·intro r hr
   rcases List.mem_append.1 hr with hr | hr
   ·exact im r (hLi r hr)
   ·simp only [List.mem_cons,List.not_mem_nil,or_false] at hr
    rcases hr with rfl | rfl
    ·exact QzU (T:=3) (f:=(0,0)) (.inr ⟨rfl,rfl⟩) hzw
    ·exact im _ hri
theorem QkU {S:St} {z:Int} {K:RV→St→Prop} (h:K (.sl S.m.length 0 4 4) ⟨S.t,S.m ++ [.cells 3 [.ext (.int .i64 7),.ext (.int .i64 z),.ext (.int .i64 0),.ext (.int .i64 0)]],S.x⟩) :
  bldW Tryz.prog S 28 4 [0,1,2,3] [.ext (.int .i64 7),.ext (.int .i64 z),.ext (.int .i64 0),.ext (.int .i64 0)] K:=
 Qbq (z:=.int .i64 0) (b:=8) Tryz.underlying28 (by kernel_rfl) rfl (by decide) rfl rfl rfl h
theorem QkS {S:St} {k n c n' c':Nat} {a:Option Addr} {K:RV→St→Prop} (h:K (.sl S.m.length 0 2 2) ⟨S.t,S.m ++ [.cells 28 [.sl k 0 n c,.ext (.slice a n' c')]],S.x⟩) :
  bldW Tryz.prog S 24 2 [0,1] [.sl k 0 n c,.ext (.slice a n' c')] K:=
 Qbq (z:=.slice none 0 0) (b:=24) Tryz.underlying24 (by kernel_rfl) rfl (by decide) rfl rfl rfl h
theorem lvT:lxV Tryz.f17 13 [13] (.p 0 (.p 1 (.p 2 (.p 3 (.p 8 (.p 9 (.p 10 (.alt 4 (.p 5 (.alt 6 (.alt 7 (.alt 11 (.alt 12 (.alt 13 (.p 14 .fin) .fin) .fin) .fin) (.alt 11 (.alt 7 (.alt 12 (.alt 13 (.p 14 .fin) .fin) .fin) .fin) .fin)) (.alt 11 (.alt 6 (.alt 7 (.alt 12 (.alt 13 (.p 14 .fin) .fin) .fin) .fin) .fin) .fin))) (.alt 11 (.alt 4 (.p 5 (.alt 6 (.alt 7 (.alt 12 (.alt 13 (.p 14 .fin) .fin) .fin) .fin) .fin)) .fin) .fin)))))))))=true:=by kernel_rfl
end Go.Proofs.YtkokohkbhlnjkaaGreatDoor
namespace Go.Proofs.YtkokohkbhlnjkaaGreatDoor
set_option linter.unusedVariables false
set_option linter.unusedSimpArgs false
open Go Go.RowKit Go.Proofs.YtkokohkbhlnjkaaGreatDoor.R
set_option maxRecDepth 50000
set_option maxHeartbeats 8000000
theorem Qfr (a:Value) (b:Option Addr) (n c:Nat):∀ v∈([.ext a,.ext (.slice b n c)]:List RV),∃ u,v=.ext u:=by
 intro v hv
 simp only [List.mem_cons,List.not_mem_nil,or_false] at hv
 rcases hv with rfl | rfl <;> exact ⟨_,rfl⟩
theorem Qfm {W:List (Es×Int)} {p:Es×Int} {e1 e2 e3 e4 e5:Int} (h:noteOf p=⟨0,e1,e2,e3,e4,e5⟩):(ntVals ((W ++ [p]).map noteOf)).map RV.ext=(ntVals (W.map noteOf)).map RV.ext ++ [.ext (.int .i64 0),.ext (.int .i64 e1),.ext (.int .i64 e2),.ext (.int .i64 e3),.ext (.int .i64 e4),.ext (.int .i64 e5)]:=by
 simp only [List.map_append,List.map_cons,List.map_nil,h,QgZ,ntRow]
theorem QFZ {c0 c1 c2 c3 c4 c5 c6 c7 cr:Code} (hc:Tryz.f17.body=some (.seq c0 (.seq c1 (.seq c2 (.seq c3 (.seq c4 (.seq c5 (.seq c6 (.seq c7 cr)))))))))
  {w:WM} {x:Nat→Obj→Prop} (hT:TensX x) (c:Cf) {fn:Func} (hfn:fn=Tryz.f17) {ae aw:Option Addr} {g h cg ch:Nat} {bk T:Nat} {fr:Nat×Nat} {L:List Raw} {W:List (Es×Int)} {rs:Nat→Raw} {i:Nat} (hok:c.ok=true) (hk:Ticked (esNew c).1 rs i L W) (hg:L.length=g) (hh:W.length=h) (hi:h≤60)
  (hcf:x bk (.cells #[.int .i64 c.seg,.int .i64 c.max,.int .i64 c.first,.int .i64 c.grain,.int .i64 c.least,.int .i64 c.great,.int .i64 c.burst] T fr))
  (hr:Raws x ae g (fun j=>L.getD j rawZ)) (hw:RowAt x aw 6 h ch (ntVals (W.map noteOf))) :
  Sd Tryz.prog ⟨[],w,fn.ntmps,[]⟩ cr (Back Tryz.prog fn (.bool true)) ⟨[(8,.ext (.slice ae g cg)),(9,.ext (.slice aw h ch)),(2,.ext (.pointer (some ⟨bk,0,none⟩))),(5,.ext (.bool true))],[],x⟩:=by
 subst hfn
 simp only [Tryz.f17,Option.some.injEq,Code.seq.injEq] at hc
 replace hc:=hc.2.2.2.2.2.2.2.2
 subst hc
 have hgh:g=2 * h:=by rw [←hg,←hh]; exact hk.len
 have hP:=Qa4 (cap:=cg) c hT (by omega) hr
 unfold PlayNR plNotes at hP
 rw [if_pos hok] at hP
 have hpl:(playUp (esNew c).1 (fun j=>L.getD j rawZ) g).2=(playL (esNew c).1 L).2:=by unfold playL; rw [hg]
 rw [hpl] at hP
 obtain ⟨M,hM⟩:∃ M,(playL (esNew c).1 L).2.map noteOf=M:=⟨_,rfl⟩
 have hMl:M.length=g:=by rw [←hM,List.length_map,Qre]; exact hg
 dsimp only at hP
 rw [hM,hMl] at hP
 unfold Cf.v at hP
 have hcl:loadX true 7 0 #[.int .i64 c.seg,.int .i64 c.max,.int .i64 c.first,.int .i64 c.grain,.int .i64 c.least,.int .i64 c.great,.int .i64 c.burst]=some (.agg #[.int .i64 c.seg,.int .i64 c.max,.int .i64 c.first,.int .i64 c.grain,.int .i64 c.least,.int .i64 c.great,.int .i64 c.burst]):=rfl
 have e2:wr .i64 (2 * (h:Int))=(g:Int):=by rw [Qag (by omega) (by omega)]; omega
 have e3:((g:Int) != (g:Int))=false:=bne_self_eq_false _
 refine Qaa (by kernel_rfl) ?_
 repeat' (first|(with_reducible refine Qad hcf hcl ?_)|((fail_if_success (with_reducible refine stk ?_));simp only [WE,Nat.reduceBEq,Qai]))
 refine callE QaG rfl hP ?_
 rintro v x1 x2 ⟨am,cm,rfl,hn⟩ hs1 hs2
 replace hn:=hn.mono hs2
 replace hw:=hw.mono hs1
 clear hs1 hs2
 repeat' (first|((fail_if_success (with_reducible refine stk ?_));simp only [WE,Nat.reduceBEq,Qav,e2,e3]))
 refine Qa3 (α:=Nat) (fun j=>⟨[(13,.ext (.int .i64 j)),(11,.ext (.slice am g cm)),(9,.ext (.slice aw h ch)),(5,.ext (.bool true))],[],x2⟩)
  (fun j=>j≤h) (fun j=>h - j)
  ⟨0,Qae ⟨⟨rfl,rfl⟩,⟨rfl,rfl⟩,⟨rfl,rfl⟩,⟨rfl,rfl⟩,trivial⟩ trivial rfl,Nat.zero_le _⟩ (by kernel_rfl) ?_
 intro j hj
 try dsimp only at hj ⊢
 by_cases hlt:j < h
 ·have hd:decide ((j:Int) < (h:Int))=true:=by simp; exact hlt
  have ej:wr .i64 ((j:Int)+1)=((j+1:Nat):Int):=by rw [Qag (by omega) (by omega)]; rfl
  have k2:wr .i64 (2 * (j:Int))=((2 * j:Nat):Int):=by rw [Qag (by omega) (by omega)]; omega
  have k3:wr .i64 (((2 * j:Nat):Int)+1)=((2 * j+1:Nat):Int):=by rw [Qag (by omega) (by omega)]; rfl
  obtain ⟨p,t1,t2⟩:=hk.tick j (by omega)
  have t3:=hk.ev j (by omega)
  obtain ⟨q,hq⟩:∃ q,W[j]? = some q:=⟨W[j],by simp [hh,hlt]⟩
  rw [hq] at t3
  have m1:M[2 * j]? = some (noteOf p):=by rw [←hM,List.getElem?_map,t1]; rfl
  have m2:M[2 * j+1]? = some (noteOf q):=by rw [←hM,List.getElem?_map,t3]; rfl
  have m3:(W.map noteOf)[j]? = some (noteOf q):=by rw [List.getElem?_map,hq]; rfl
  obtain ⟨b1,d1,T1,f1,rfl,hx1,_,hc1,_⟩:=Qa8 hn (i:=2 * j) (by omega) m1
  obtain ⟨b2,d2,T2,f2,e4,hx2,hc2,_⟩:=Qa8 hn (i:=2 * j+1) (by omega) m2
  obtain ⟨b3,d3,T3,f3,rfl,hx3,hc3,_⟩:=Qa8 hw hlt m3
  simp only [Option.some.injEq,Addr.mk.injEq,and_true] at e4
  subst e4
  rw [Qjd,t2] at hc1
  generalize noteOf q=n at hc2 hc3
  repeat' (first|(with_reducible refine Qam ⟨by omega,by omega⟩ ?_)|(with_reducible refine Qad hx1 hc1 ?_)|(with_reducible refine Qad hx2 hc2 ?_)|(with_reducible refine Qad hx3 hc3 ?_)|((with_reducible show cW _ _ (.region 21 _ true) _ _);refine Qas QAZ (by kernel_rfl) Qaf (by kernel_rfl) ?_)|((fail_if_success (with_reducible refine stk ?_));simp only [WE,Nat.reduceBEq,Qaq,QaN,QaK,QaP,Qeo,Qav,hd,ej,k2,k3,bne_self_eq_false]))
  exact ⟨j+1,Qae ⟨⟨rfl,rfl⟩,⟨rfl,rfl⟩,⟨rfl,rfl⟩,⟨rfl,rfl⟩,trivial⟩ trivial rfl,by omega,by omega⟩
 ·have hd:decide ((j:Int) < (h:Int))=false:=by simp; omega
  repeat' (first|((fail_if_success (with_reducible refine stk ?_));simp only [WE,Nat.reduceBEq,Qav,QjE,hd]))
theorem QF0 {x:Nat→Obj→Prop} (hT:TensX x) (c:Cf) {ad:Option Addr} {len cap:Nat} {rs:Nat→Raw} (hok:c.ok=true) (h60:len≤60) (hF:PureC Tryz.prog x 19 [.slice ad len cap,.int .i64 40] (.bool true)) (hr:Raws x ad len rs):PureC Tryz.prog x 17 [c.v,.slice ad len cap] (.bool true):=by
 refine Qab Tryz.func17 rfl rfl fun w=>?_
 have hP:=Qa4 (cap:=cap) c hT (by omega) hr
 unfold PlayNR at hP
 obtain ⟨l,hl'⟩:∃ l,(plNotes c rs len).1=l:=⟨_,rfl⟩
 have e1:(plNotes c rs len).2=0:=by unfold plNotes; rw [if_pos hok]
 have hll:l.length=len:=by rw [←hl']; exact QcY hok
 rw [e1,hl',hll] at hP
 have hlg:∀ i,i < len→l[i]? = some (noteOf (playStep (playUp (esNew c).1 rs i).1 (rs i))):=fun i hi=>by rw [←hl']; exact Qfo hok hi
 have hend:=@QFZ _ _ _ _ _ _ _ _ _ rfl w
 unfold Cf.v at hP
 unfold Cf.v
 have qb:((len:Int) != (len:Int))=false:=bne_self_eq_false _
 have qc:((0:Int) != 0)=false:=rfl
 refine Qal (Qaa (by kernel_rfl) ?_)
 repeat' (first|((fail_if_success (with_reducible refine stk ?_));simp only [WE,Nat.reduceAdd]))
 refine Qal (Qaa (by kernel_rfl) ?_)
 repeat' (first|((with_reducible show callW _ _ _ (some (40,_)) _ _);refine callP Qbz rfl (Qbx hT) ?_)|((fail_if_success (with_reducible refine stk ?_));simp only [WE]))
 refine Qal (Qaa (by kernel_rfl) ?_)
 repeat' (first|((with_reducible show callW _ _ _ (some (19,_)) _ _);refine callP QaZ rfl (hF) ?_)|((fail_if_success (with_reducible refine stk ?_));simp only [WE,Nat.reduceBEq]))
 refine Qal (Qaa (by kernel_rfl) ?_)
 repeat' (first|((fail_if_success (with_reducible refine stk ?_));simp only [WE,segX,Nat.reduceBEq,Qai]))
 refine callE QaG rfl hP ?_
 rintro v x1 x2 ⟨a1,c1,rfl,hn1⟩ hs1 hs2
 replace hn1:=hn1.mono hs2
 have hT2:TensX x2:=hT.mono hs1
 have hr2:=hr.mono hs1
 clear hs2
 repeat' (first|((fail_if_success (with_reducible refine stk ?_));simp only [WE,Nat.reduceBEq]))
 refine Qal (Qaa (by kernel_rfl) ?_)
 repeat' (first|((fail_if_success (with_reducible refine stk ?_));simp only [WE,Nat.reduceBEq,QaM,Qav,qb,qc]))
 refine Qal (Qaa (by kernel_rfl) ?_)
 repeat' (first|((fail_if_success (with_reducible refine stk ?_));simp only [WE]))
 refine Qal (Qaa (by kernel_rfl) ?_)
 repeat' (first|((fail_if_success (with_reducible refine stk ?_));simp only [WE]))
 refine Qal (Qaa (by kernel_rfl) ?_)
 repeat' (first|((fail_if_success (with_reducible refine stk ?_));simp only [WE]))
 refine Qlm (tkSt c [(6,.ext (.slice a1 len c1)),(1,.ext (.slice ad len cap)),(5,.ext (.bool true))] x2) (tkJ (esNew c).1 rs len x2) (tkM len)
  ⟨.nil 0,QaI [0] (fun _ _ h=>h) ⟨⟨rfl,rfl⟩,⟨rfl,rfl⟩,⟨rfl,rfl⟩,⟨rfl,rfl⟩,⟨rfl,rfl⟩,⟨rfl,rfl⟩,⟨rfl,rfl⟩,trivial⟩ ⟨⟨rfl,rfl⟩,trivial⟩ (by decide) (Nat.le_refl _),Nat.zero_le _,Ticked.nil _ _⟩ (by kernel_rfl) ?_
 rintro (i | ⟨i,g,cg,row,h,ch,wrow,X,L,W⟩) hJ <;> simp only [tkSt] <;> simp only [tkJ] at hJ
 ·obtain ⟨hi,hk⟩:=hJ
  have hX:xsub x2 x2:=fun _ _ h=>h
  by_cases hlt:i < len
  ·have hd:decide ((i:Int) < (len:Int))=true:=by simp; exact hlt
   have ei:wr .i64 ((i:Int)+1)=((i+1:Nat):Int):=by rw [Qag (by omega) (by omega)]; rfl
   obtain ⟨b1,d1,T1,f1,rfl,hx1,hc2,hc1,_⟩:=Qa8 (hn1.mono hX) hlt (hlg i hlt)
   rw [Qjd] at hc1
   obtain ⟨hri,b2,off2,d2,T2,f2,rfl,hx2,hc3⟩:=(hr2.mono hX) i hlt
   by_cases hz:(playStep (playUp (esNew c).1 rs i).1 (rs i)).2=0
   ·obtain ⟨r4,_,_⟩:=QgM hz
    obtain ⟨n1,n2,n3,n4,n5,hnt⟩:∃ n1 n2 n3 n4 n5,noteOf (playStep (playUp (esNew c).1 rs i).1 (rs i))=⟨0,n1,n2,n3,n4,n5⟩:=⟨_,_,_,_,_,by rw [QgY,hz]⟩
    rw [hnt] at hc2
    rw [hz] at hc1
    obtain ⟨_,b3,off3,d3,T3,f3,ha3,hx3,hc4⟩:=hri 1 (by omega)
    replace hc4:loadX false 1 (off3+1) d3=some (.int .i64 ((rs i).zs 1)):=hc4
    rw [ha3,r4] at hc3
    have q4:decide ((1:Int) < ((4:Nat):Int))=true:=rfl
    repeat' (first|(((with_reducible show cW _ _ (.region 13 _ true) _ _);refine Qaw lvT (by kernel_rfl) Qaf (by kernel_rfl) ?_ (fun _ _ _ h=>h)))|(with_reducible refine Qam ⟨by omega,by omega⟩ ?_)|(with_reducible refine Qad hx1 hc1 ?_)|(with_reducible refine Qad hx1 hc2 ?_)|(with_reducible refine Qad hx2 hc3 ?_)|(with_reducible refine Qad hx3 hc4 ?_)|(with_reducible refine QkU ?_)|(with_reducible refine QkS ?_)|(with_reducible refine QfP ?_)|(with_reducible refine And.intro ?_ ?_)|((with_reducible refine QcE QbZ (by decide) ⟨by decide,by decide⟩ (by with_unfolding_all exact rfl) (by with_unfolding_all exact rfl) (by with_unfolding_all exact rfl) ?_; intro cg hcg hcm))|((with_reducible refine QcE QfM (by decide) ⟨by decide,by decide⟩ (by with_unfolding_all exact rfl) (by with_unfolding_all exact rfl) (by with_unfolding_all exact rfl) ?_; intro ch hch hcm2))|((fail_if_success (with_reducible refine stk ?_));simp only [WE,Nat.reduceBEq,Nat.reduceAdd,Int.reduceToNat,Nat.reduceMul,ty_3,QbX,Qaq,QaN,QaK,QbR,Qbd,QaP,QaM,QbH,hd,ei,q4]))
    all_goals intro s a w_1 hrep
    all_goals (refine QfA (x:=x2) (rest:=[(6,.ext (.slice (some ⟨b1,0,none⟩) len c1)),(1,.ext (.slice (some ⟨b2,off2,none⟩) len cap)),(5,.ext (.bool true))]) (cf:=c) (A:=[]) (Z:=(zrow [.slice none 0 0] (cg - 2))) (z:=(rs i).zs 1) (L:=[]) (W:=[]) (o:=3) (c:=1) (p:=5) hrep hlt hX hk rfl rfl hz (fun r hr=>absurd hr (List.not_mem_nil)) hri rfl ha3 r4 (fun u=>RowIs.first (z:=1) (m:=2) (news:=[.ext u,.ext (.slice (some ⟨b3,off3,none⟩) 4 (rs i).cap)]) (zs:=[.slice none 0 0]) rfl rfl hcg (Qfr _ _ _ _)) ?_ rfl rfl rfl rfl (by decide) (fun v hv=>absurd hv (List.not_mem_nil)) (QbG _ _) rfl rfl rfl ⟨⟨rfl,_,rfl⟩,⟨rfl,_,rfl⟩,⟨rfl,_,rfl⟩,⟨rfl,_,rfl⟩,trivial⟩ (by first | omega | (simp only [tkM]; omega)); rw [Qfm hnt]; exact RowIs.first (z:=6) (m:=1) (news:=[.ext (.int .i64 0),.ext (.int .i64 n1),.ext (.int .i64 n2),.ext (.int .i64 n3),.ext (.int .i64 n4),.ext (.int .i64 n5)]) (zs:=[.int .i64 0,.int .i64 0,.int .i64 0,.int .i64 0,.int .i64 0,.int .i64 0]) rfl rfl hch (Qcr 0 n1 n2 n3 n4 n5))
   ·have qz:((playStep (playUp (esNew c).1 rs i).1 (rs i)).2 == 0)=false:=by simpa using hz
    have hks:=hk.skip hz
    generalize (playStep (playUp (esNew c).1 rs i).1 (rs i)).2=er at *
    repeat' (first|(with_reducible refine Qam ⟨by omega,by omega⟩ ?_)|(with_reducible refine Qad hx1 hc1 ?_)|((fail_if_success (with_reducible refine stk ?_));simp only [WE,Nat.reduceBEq,Qaq,QaK,QaP,QaM,hd,ei,qz]))
    intro s a w_1 hrep
    obtain ⟨s',h'⟩:=(QaI [0] (fun _ _ h=>h) ⟨⟨rfl,rfl⟩,⟨rfl,rfl⟩,⟨rfl,rfl⟩,⟨rfl,rfl⟩,⟨rfl,rfl⟩,⟨rfl,rfl⟩,⟨rfl,rfl⟩,trivial⟩ ⟨⟨rfl,rfl⟩,trivial⟩ (by decide) (Nat.le_refl _):WkE _ (tkSt c [(6,.ext (.slice (some ⟨b1,0,none⟩) len c1)),(1,.ext (.slice (some ⟨b2,off2,none⟩) len cap)),(5,.ext (.bool true))] x2 (.nil (i+1)))) ⟨[],w,119,[]⟩ rfl s a w_1 hrep
    exact ⟨.nil (i+1),s',h',⟨hlt,hks⟩,by first | omega | (simp only [tkM]; omega)⟩
  ·have hd:decide ((i:Int) < (len:Int))=false:=by simp; omega
   repeat' (first|((fail_if_success (with_reducible refine stk ?_));simp only [WE,Nat.reduceBEq,QaM,hd]))
   refine Qhv rfl fun s hN=>?_
   have hfin:=@hend (xAll ⟨[],[.cells 23 (cfCells c)],x2⟩ s) (hT2.mono fun b o h=>.inl h) c _ rfl none none 0 0 0 0 (s 0) 23 (0,0) [] [] rs i hok hk rfl rfl (by decide) (.inr ⟨0,_,rfl,rfl,rfl⟩) (fun j hj=>absurd hj (Nat.not_lt_zero j)) ⟨rfl,.inl ⟨rfl,rfl,rfl⟩⟩
   refine QcC rfl ?_ hfin
   exact Qae ⟨⟨rfl,rfl⟩,⟨rfl,rfl⟩,⟨rfl,rfl⟩,⟨rfl,rfl⟩,trivial⟩ trivial rfl
 ·obtain ⟨hi,hX,hk,hgL,hhW,hrow,hwr,hI⟩:=hJ
  by_cases hlt:i < len
  ·have hd:decide ((i:Int) < (len:Int))=true:=by simp; exact hlt
   have ei:wr .i64 ((i:Int)+1)=((i+1:Nat):Int):=by rw [Qag (by omega) (by omega)]; rfl
   have hwl:=QsW hk
   have hgl:=hk.len
   have hbb:g+2≤maxLen∧(g+2) * 24≤140737488355328:=by simp only [maxLen]; omega
   have hbn:h+1≤maxLen∧(h+1) * 48≤140737488355328:=by simp only [maxLen]; omega
   obtain ⟨b1,d1,T1,f1,rfl,hx1,hc2,hc1,_⟩:=Qa8 (hn1.mono hX) hlt (hlg i hlt)
   rw [Qjd] at hc1
   obtain ⟨hri,b2,off2,d2,T2,f2,rfl,hx2,hc3⟩:=(hr2.mono hX) i hlt
   by_cases hz:(playStep (playUp (esNew c).1 rs i).1 (rs i)).2=0
   ·obtain ⟨r4,_,_⟩:=QgM hz
    obtain ⟨n1,n2,n3,n4,n5,hnt⟩:∃ n1 n2 n3 n4 n5,noteOf (playStep (playUp (esNew c).1 rs i).1 (rs i))=⟨0,n1,n2,n3,n4,n5⟩:=⟨_,_,_,_,_,by rw [QgY,hz]⟩
    rw [hnt] at hc2
    rw [hz] at hc1
    obtain ⟨_,b3,off3,d3,T3,f3,ha3,hx3,hc4⟩:=hri 1 (by omega)
    replace hc4:loadX false 1 (off3+1) d3=some (.int .i64 ((rs i).zs 1)):=hc4
    rw [ha3,r4] at hc3
    have q4:decide ((1:Int) < ((4:Nat):Int))=true:=rfl
    repeat' (first|(((with_reducible show cW _ _ (.region 13 _ true) _ _);refine Qaw lvT (by kernel_rfl) Qaf (by kernel_rfl) ?_ (fun _ _ _ h=>h)))|(with_reducible refine Qam ⟨by omega,by omega⟩ ?_)|(with_reducible refine Qad hx1 hc1 ?_)|(with_reducible refine Qad hx1 hc2 ?_)|(with_reducible refine Qad hx2 hc3 ?_)|(with_reducible refine Qad hx3 hc4 ?_)|(with_reducible refine QkU ?_)|(with_reducible refine QkS ?_)|(with_reducible refine QfP ?_)|(with_reducible refine And.intro ?_ ?_)|((with_reducible refine QcF QbZ hbb (by with_unfolding_all exact rfl) (by with_unfolding_all exact rfl) (by with_unfolding_all exact rfl) (by with_unfolding_all exact rfl) (by with_unfolding_all exact hrow.size) hrow.le (fun hcr=>?_) (fun cg2 hcg hcm=>?_)))|((with_reducible refine QcF QfM hbn (by with_unfolding_all exact rfl) (by with_unfolding_all exact rfl) (by with_unfolding_all exact rfl) (by with_unfolding_all exact rfl) (by with_unfolding_all exact hwr.size) hwr.le (fun hcr2=>?_) (fun ch2 hch hcm2=>?_)))|((fail_if_success (with_reducible refine stk ?_));simp only [WE,Nat.reduceBEq,Nat.reduceAdd,Int.reduceToNat,Nat.reduceMul,ty_3,QbX,Qaq,QaN,QaK,QbR,Qbd,QaP,QaM,QbH,hd,ei,q4]))
    all_goals intro s a w_1 hrep
    all_goals (first
     | (refine QfA (x:=x2) (rest:=[(6,.ext (.slice (some ⟨b1,0,none⟩) len c1)),(1,.ext (.slice (some ⟨b2,off2,none⟩) len cap)),(5,.ext (.bool true))]) (cf:=c) (A:=row.take (g * 1)) (Z:=(row.drop (g * 1+2))) (z:=(rs i).zs 1) (L:=L) (W:=W) (o:=1) (c:=3) (p:=2) hrep hlt hX hk hgL hhW hz hI hri rfl ha3 r4 (fun u=>hrow.room (m:=2) (news:=[.ext u,.ext (.slice (some ⟨b3,off3,none⟩) 4 (rs i).cap)]) rfl hcr (Qfr _ _ _ _)) ?_ rfl rfl rfl rfl (by decide) (fun v hv=>hrow.ext v (List.mem_of_mem_take hv)) (fun v hv=>hrow.ext v (List.mem_of_mem_drop hv)) rfl rfl rfl ⟨⟨rfl,_,rfl⟩,⟨rfl,_,rfl⟩,⟨rfl,_,rfl⟩,⟨rfl,_,rfl⟩,trivial⟩ (by first | omega | (simp only [tkM]; omega)); rw [Qfm hnt]; exact hwr.room (m:=1) (news:=[.ext (.int .i64 0),.ext (.int .i64 n1),.ext (.int .i64 n2),.ext (.int .i64 n3),.ext (.int .i64 n4),.ext (.int .i64 n5)]) rfl hcr2 (Qcr 0 n1 n2 n3 n4 n5))
     | (refine QfA (x:=x2) (rest:=[(6,.ext (.slice (some ⟨b1,0,none⟩) len c1)),(1,.ext (.slice (some ⟨b2,off2,none⟩) len cap)),(5,.ext (.bool true))]) (cf:=c) (A:=row.take (g * 1)) (Z:=(row.drop (g * 1+2))) (z:=(rs i).zs 1) (L:=L) (W:=W) (o:=1) (c:=3) (p:=6) hrep hlt hX hk hgL hhW hz hI hri rfl ha3 r4 (fun u=>hrow.room (m:=2) (news:=[.ext u,.ext (.slice (some ⟨b3,off3,none⟩) 4 (rs i).cap)]) rfl hcr (Qfr _ _ _ _)) ?_ rfl rfl rfl rfl (by decide) (fun v hv=>hrow.ext v (List.mem_of_mem_take hv)) (fun v hv=>hrow.ext v (List.mem_of_mem_drop hv)) rfl rfl rfl ⟨⟨rfl,_,rfl⟩,⟨rfl,_,rfl⟩,⟨rfl,_,rfl⟩,⟨rfl,_,rfl⟩,trivial⟩ (by first | omega | (simp only [tkM]; omega)); rw [Qfm hnt]; exact hwr.grow (m:=1) (news:=[.ext (.int .i64 0),.ext (.int .i64 n1),.ext (.int .i64 n2),.ext (.int .i64 n3),.ext (.int .i64 n4),.ext (.int .i64 n5)]) (zs:=[.int .i64 0,.int .i64 0,.int .i64 0,.int .i64 0,.int .i64 0,.int .i64 0]) rfl rfl hch (Qcr 0 n1 n2 n3 n4 n5))
     | (refine QfA (x:=x2) (rest:=[(6,.ext (.slice (some ⟨b1,0,none⟩) len c1)),(1,.ext (.slice (some ⟨b2,off2,none⟩) len cap)),(5,.ext (.bool true))]) (cf:=c) (A:=row.take (g * 1)) (Z:=(zrow [.slice none 0 0] (cg2 - (g+2)))) (z:=(rs i).zs 1) (L:=L) (W:=W) (o:=5) (c:=3) (p:=2) hrep hlt hX hk hgL hhW hz hI hri rfl ha3 r4 (fun u=>hrow.grow (m:=2) (news:=[.ext u,.ext (.slice (some ⟨b3,off3,none⟩) 4 (rs i).cap)]) (zs:=[.slice none 0 0]) rfl rfl hcg (Qfr _ _ _ _)) ?_ rfl rfl rfl rfl (by decide) (fun v hv=>hrow.ext v (List.mem_of_mem_take hv)) (QbG _ _) rfl rfl rfl ⟨⟨rfl,_,rfl⟩,⟨rfl,_,rfl⟩,⟨rfl,_,rfl⟩,⟨rfl,_,rfl⟩,trivial⟩ (by first | omega | (simp only [tkM]; omega)); rw [Qfm hnt]; exact hwr.room (m:=1) (news:=[.ext (.int .i64 0),.ext (.int .i64 n1),.ext (.int .i64 n2),.ext (.int .i64 n3),.ext (.int .i64 n4),.ext (.int .i64 n5)]) rfl hcr2 (Qcr 0 n1 n2 n3 n4 n5))
     | (refine QfA (x:=x2) (rest:=[(6,.ext (.slice (some ⟨b1,0,none⟩) len c1)),(1,.ext (.slice (some ⟨b2,off2,none⟩) len cap)),(5,.ext (.bool true))]) (cf:=c) (A:=row.take (g * 1)) (Z:=(zrow [.slice none 0 0] (cg2 - (g+2)))) (z:=(rs i).zs 1) (L:=L) (W:=W) (o:=5) (c:=3) (p:=7) hrep hlt hX hk hgL hhW hz hI hri rfl ha3 r4 (fun u=>hrow.grow (m:=2) (news:=[.ext u,.ext (.slice (some ⟨b3,off3,none⟩) 4 (rs i).cap)]) (zs:=[.slice none 0 0]) rfl rfl hcg (Qfr _ _ _ _)) ?_ rfl rfl rfl rfl (by decide) (fun v hv=>hrow.ext v (List.mem_of_mem_take hv)) (QbG _ _) rfl rfl rfl ⟨⟨rfl,_,rfl⟩,⟨rfl,_,rfl⟩,⟨rfl,_,rfl⟩,⟨rfl,_,rfl⟩,trivial⟩ (by first | omega | (simp only [tkM]; omega)); rw [Qfm hnt]; exact hwr.grow (m:=1) (news:=[.ext (.int .i64 0),.ext (.int .i64 n1),.ext (.int .i64 n2),.ext (.int .i64 n3),.ext (.int .i64 n4),.ext (.int .i64 n5)]) (zs:=[.int .i64 0,.int .i64 0,.int .i64 0,.int .i64 0,.int .i64 0,.int .i64 0]) rfl rfl hch (Qcr 0 n1 n2 n3 n4 n5)))
   ·have qz:((playStep (playUp (esNew c).1 rs i).1 (rs i)).2 == 0)=false:=by simpa using hz
    have hks:=hk.skip hz
    generalize (playStep (playUp (esNew c).1 rs i).1 (rs i)).2=er at *
    repeat' (first|(with_reducible refine Qam ⟨by omega,by omega⟩ ?_)|(with_reducible refine Qad hx1 hc1 ?_)|((fail_if_success (with_reducible refine stk ?_));simp only [WE,Nat.reduceBEq,Qaq,QaK,QaP,QaM,hd,ei,qz]))
    intro s a w_1 hrep
    obtain ⟨s',h'⟩:=(QaI [0,1,2] (fun _ _ h=>h) ⟨⟨rfl,rfl⟩,⟨rfl,rfl⟩,⟨rfl,rfl⟩,⟨rfl,rfl⟩,⟨rfl,rfl⟩,⟨rfl,rfl⟩,⟨rfl,rfl⟩,trivial⟩ ⟨⟨rfl,rfl⟩,⟨by rw [Qb3 hrow.ext]; rfl,hrow.clo _ _⟩,⟨by rw [Qb3 hwr.ext]; rfl,hwr.clo _ _⟩,trivial⟩ (by decide) (Nat.le_refl _):WkE _ (tkSt c [(6,.ext (.slice (some ⟨b1,0,none⟩) len c1)),(1,.ext (.slice (some ⟨b2,off2,none⟩) len cap)),(5,.ext (.bool true))] x2 (.own (i+1) g cg row h ch wrow X L W))) ⟨[],w,119,[]⟩ rfl s a w_1 hrep
    exact ⟨.own (i+1) g cg row h ch wrow X L W,s',h',⟨hlt,hX,hks,hgL,hhW,hrow,hwr,hI⟩,by first | omega | (simp only [tkM]; omega)⟩
  ·have hd:decide ((i:Int) < (len:Int))=false:=by simp; omega
   have hwl:=QsW hk
   repeat' (first|((fail_if_success (with_reducible refine stk ?_));simp only [WE,Nat.reduceBEq,QaM,hd]))
   refine Qhv rfl fun s hN=>?_
   have hfin:=@hend (xAll ⟨[],[.cells 23 (cfCells c),.cells 28 row,.cells 54 wrow],X⟩ s) ((hT2.mono hX).mono fun b o h=>.inl h) c _ rfl (some ⟨s 1,0,none⟩) (some ⟨s 2,0,none⟩) g h cg ch (s 0) 23 (0,0) L W rs i hok hk hgL hhW (by omega) (.inr ⟨0,_,rfl,rfl,rfl⟩) (Qju hrow rfl hI) ((QjB hwr rfl).mono fun b o h=>.inr h)
   refine QcC rfl ?_ hfin
   exact Qae ⟨⟨rfl,rfl⟩,⟨rfl,rfl⟩,⟨rfl,rfl⟩,⟨rfl,rfl⟩,trivial⟩ trivial rfl
theorem QFY {x:Nat→Obj→Prop} (hT:TensX x) (c:Cf) {ad:Option Addr} {len cap:Nat} {rs:Nat→Raw} (hok:c.ok=false) (h60:len≤60) (hF:PureC Tryz.prog x 19 [.slice ad len cap,.int .i64 40] (.bool true)) (hr:Raws x ad len rs):PureC Tryz.prog x 17 [c.v,.slice ad len cap] (.bool true):=by
 refine Qab Tryz.func17 rfl rfl fun w=>?_
 refine Qaa (by kernel_rfl) ?_
 have hP:=Qa4 (cap:=cap) c hT (by omega) hr
 unfold PlayNR plNotes at hP
 rw [if_neg (by simp [hok])] at hP
 unfold Cf.v at hP
 unfold Cf.v
 repeat' (first|((with_reducible show callW _ _ _ (some (19,_)) _ _);refine callP QaZ rfl (hF) ?_)|((with_reducible show callW _ _ _ (some (40,_)) _ _);refine callP Qbz rfl (Qbx hT) ?_)|((fail_if_success (with_reducible refine stk ?_));simp only [WE,segX,Nat.reduceBEq,Nat.reduceAdd,Qai]))
 refine callE QaG rfl hP ?_
 rintro v x1 x2 ⟨a1,c1,rfl,hn1⟩ hs1 hs2
 repeat' (first|((fail_if_success (with_reducible refine stk ?_));simp only [WE,Nat.reduceBEq,Int.reduceBNe,QjE]))
theorem QBV:∀ (x:Nat→Obj→Prop) (vs:List Value),XLaid x→Shvs x [.r (.cons 1 (.i .i64) (.cons 1 (.i .i64) (.cons 1 (.i .i64) (.cons 1 (.i .i64) (.cons 1 (.i .i64) (.cons 1 (.i .i64) (.cons 1 (.i .i64) (.nil)))))))),.v 1 (.v 1 (.i .i64))] vs→PureC Tryz.prog x 17 vs (.bool true):=by
 intro x vs hx hv
 rcases vs with _ | ⟨v0,_ | ⟨v1,_ | ⟨v2,vs⟩⟩⟩ <;> simp only [Shvs,and_false] at hv
 obtain ⟨h0,h1,_⟩:=hv
 obtain ⟨c,rfl,_⟩:=Qd9 h0
 obtain ⟨a,len,cap,rs,rfl,g1,g2,g3⟩:=Qea h1
 have hT:=hx.1
 have hF:=QcJ (x:=x) (cap:=cap) (most:=40) (by unfold maxLen at g2; omega) g3
 cases hf:fewB rs len 40 with
 | false=>
  rw [hf] at hF
  refine Qab Tryz.func17 rfl rfl fun w=>?_
  refine Qaa (by kernel_rfl) ?_
  unfold Cf.v
  repeat' (first|((with_reducible show callW _ _ _ (some (19,_)) _ _);refine callP QaZ rfl (hF) ?_)|((with_reducible show callW _ _ _ (some (40,_)) _ _);refine callP Qbz rfl (Qbx hT) ?_)|((fail_if_success (with_reducible refine stk ?_));simp only [WE,Nat.reduceBEq,Nat.reduceAdd,QjE]))
 | true=>
  rw [hf] at hF
  have h60:=Qdi hf
  cases hok:c.ok with
  | true=>exact QF0 hT c hok (by omega) hF g3
  | false=>exact QFY hT c hok (by omega) hF g3
end Go.Proofs.YtkokohkbhlnjkaaGreatDoor
namespace Go.Proofs.YtkokohkbhlnjkaaGreatDoor
set_option linter.unusedVariables false
set_option linter.unusedSimpArgs false
open Go Go.RowKit Go.ChangeShapes Go.WideShapes Go.ChangeAt Go.Proofs.YtkokohkbhlnjkaaGreatDoor.R
set_option maxRecDepth 100000
theorem replayTicks_lifted (os:Os) (started:os.Started) (H:Type) (enc:TypeId×Value→H) :
  ReturnsInLeavingWide {} Tryz.checked os 17 .any (Rows.replayTicksRow.pre enc Tryz.prog Tryz.f17 (OpenSpec.ofChange Rows.replayTicksSpec)) (Rows.replayTicksSpec.post enc Tryz.prog Tryz.f17 false true false false):=
 Qd7 (C:=Tryz.checked) (s:=Rows.replayTicksSpec) (conds:=[]) (l:=Rows.replayTicksRow.laid) (Xs:=XLaid) (tb:=4) (ys:=[.r (.cons 1 (.i .i64) (.cons 1 (.i .i64) (.cons 1 (.i .i64) (.cons 1 (.i .i64) (.cons 1 (.i .i64) (.cons 1 (.i .i64) (.cons 1 (.i .i64) (.nil)))))))),.v 1 (.v 1 (.i .i64))]) (by kernel_rfl) own_ started (by kernel_rfl) Tryz.func17
  (ChangeSpec.witness_shaped (enc:=enc) (C:=Tryz.checked) (os:=os) (X:=fun w _=>laidMetH Tryz.prog Rows.replayTicksRow.laid w) false (World.laidAll Tryz.prog os Rows.replayTicksRow.laid) #[.agg #[.int .i64 0,.int .i64 0,.int .i64 0,.int .i64 0,.int .i64 0,.int .i64 0,.int .i64 0],.slice none 0 0] 8 (World.laidAll_os _ _ _)
   (World.shaped_of_ZipB (by kernel_rfl) (by kernel_rfl)) (by kernel_rfl) (by kernel_rfl) (by kernel_rfl)
   (by rw [MakeChecks.laidMetH_plain _ _ _ (by kernel_rfl)]; exact laidMet_laidAll _ (by kernel_rfl) (by kernel_rfl)))
  rfl QbA (by kernel_rfl) rfl Tryz.underlying4
  (fun ds hd=>by match ds,hd with | [d0,d1],_=>exact ⟨rfl,rfl,rfl⟩)
  (by kernel_rfl) Qdq (fun x vs hT h=>QBV x vs hT h)
set_option maxHeartbeats 8000000 in
theorem replayTicks_closed:joinedFacts Tryz.checked.prog 17 Tryz.f17 Rows.replayTicksSpec Rows.replayTicksRow=true:=by
 unfold joinedFacts
 simp only [Bool.and_eq_true]
 repeat' apply And.intro
 all_goals first | (with_reducible exact QbA) | (as_aux_lemma=>kernel_rfl)
theorem replayTicks_named:Tryz.checked.prog.funcNamed Rows.replayTicksRow.func=some 17:=by kernel_rfl
theorem replayTicks_inst:Tryz.f17.isInstance Tryz.checked.prog Rows.replayTicksRow.origin Rows.replayTicksRow.targs:=of_decide_eq_true (by kernel_rfl)
theorem replayTicks_wrap:Tryz.f17.isWrapper Tryz.checked.prog Rows.replayTicksRow.wrapper Rows.replayTicksRow.mainSum:=by unfold Func.isWrapper; first | (rw [if_pos (by decide +kernel)]; kernel_rfl) | (rw [if_neg (by decide +kernel)]; exact ⟨rfl,rfl⟩)
theorem replayTicks_said:Rows.ReplayTicksSaid:=
 OpenClaim.holds_of_wide_leaving 17 Tryz.f17 rfl rfl rfl rfl rfl rfl rfl ⟨rfl,rfl,rfl,rfl,rfl⟩ rfl rfl rfl rfl rfl replayTicks_named Tryz.func17 replayTicks_closed
  replayTicks_inst replayTicks_wrap (fun os started H enc _=>replayTicks_lifted os started H enc)
theorem replayTicks_goes:true=Rows.replayTicksRow.goesBy Tryz.pinned.checked.prog:=by kernel_rfl
theorem replayTicks_wf:Rows.replayTicksRow.wfByText (OpenSpec.ofChange Rows.replayTicksSpec)=true:=by kernel_rfl
theorem replayTicks_wants:([23,24].all fun u=>!Tryz.prog.wantsStandIn u)=true:=by kernel_rfl
theorem replayTicks_holds:Rows.ReplayTicksCardSaid:=
 Qdf [.data] true (true, "9743dcc7216159cedf5af689d9831578d52e7622345c3cbb87c8bebbc0866563") true
  replayTicks_said replayTicks_wf replayTicks_row_tie rfl ⟨rfl,rfl⟩ Qd3 rfl
  (fun f fn hf hfn=>by
   obtain rfl:f=17:=Option.some.inj (hf.symm.trans replayTicks_named)
   obtain rfl:fn=Tryz.f17:=(Option.some.inj (Tryz.func17.symm.trans hfn)).symm
   exact ⟨QdU,fun j t ht=>by
    rw [Tryz.params17] at ht
    have hm:t∈[23,24]:=by simpa using Array.mem_of_getElem? ht
    exact (show Tryz.prog.wantsStandIn t=false by simpa using List.all_eq_true.1 replayTicks_wants t hm)⟩)
  replayTicks_goes
#print axioms replayTicks_holds
end Go.Proofs.YtkokohkbhlnjkaaGreatDoor
