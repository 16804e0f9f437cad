/- 'sawtoothtop.TopShift': for every input the call returns true, and each argument reads as it did: the tied card. Conditions: the listed variable holds what the program's text lays. -/
import Derived.Test.YtkokohkbhlnjkaaGreatDoorMa6
import Derived.Test.YtkokohkbhlnjkaaGreatDoorCards
import Derived.Test.YtkokohkbhlnjkaaGreatDoorTie
namespace Go.Proofs.YtkokohkbhlnjkaaGreatDoor
set_option linter.unusedVariables false
set_option linter.unusedSimpArgs false
open Go Go.RowKit Go.Proofs.YtkokohkbhlnjkaaGreatDoor.R
set_option maxRecDepth 50000
set_option maxHeartbeats 8000000
theorem Qrh (s:Es) (rs:Nat→Raw) (k:Nat):∀ d,(playUp s rs (k+d)).2.take k=(playUp s rs k).2
 | 0=>by rw [Nat.add_zero,List.take_of_length_le (by rw [QcZ]; exact Nat.le_refl _)]
 | d+1=>by
  have hl:=QcZ s rs (k+d)
  show ((playUp s rs (k+d)).2 ++ _).take k=_
  rw [List.take_append_of_le_length (by omega)]
  exact Qrh s rs k d
theorem QB0 {c:Cf} {rs:Nat→Raw} {k n:Nat} (h:c.ok=true) (hk:k≤n):(plNotes c rs n).1.take k=(plNotes c rs k).1:=by
 unfold plNotes
 rw [if_pos h,if_pos h]
 obtain ⟨d,rfl⟩:=Nat.exists_eq_add_of_le hk
 show ((playUp (esNew c).1 rs (k+d)).2.map noteOf).take k=_
 rw [←List.map_take,Qrh]
theorem Qp9:∀ (l:List Nt) (m:Nat),(ntVals l).take (m * 6)=ntVals (l.take m)
 | [],m=>by simp [ntVals]
 | e :: l,0=>by simp [ntVals]
 | e :: l,m+1=>by
  simp only [ntVals,ntRow,List.take_succ_cons,show (m+1) * 6=m * 6+6 by omega,List.cons_append,List.nil_append]
  rw [Qp9 l m]
def slA (a:Option Addr) (cap:Nat):Option Addr:=if cap=0 then a else a.map (·.add 0)
theorem QFG {P:Program} {t e:TypeId} {a:Option Addr} {len cap:Nat} {k:IntKind} {z:Int} {K:Value→Prop} (ht:P.underlying t=some (.slice e)) (hi:(P.info? e).isSome=true) (hz:0≤z∧z≤cap) (h:K (.slice (slA a cap) z.toNat cap)) :
  pureW P (Instr.sliceAt t (.slice a len cap) none (some (.int k z)) none) K:=by
 obtain ⟨i,hi⟩:=Option.isSome_iff_exists.1 hi
 have hz':0≤z∧z≤(cap:Int):=hz
 refine ⟨_,fun w=>⟨?_,?_⟩,h⟩
 ·simp [Instr.sliceAt,Instr.slice,run_underlying ht,Instr.sliceBounds,Instr.sliceBound,asIntOf,hz',sizeOf,typeInfo,hi,slA]
 ·simp [Instr.sliceAt,Instr.slice,run_underlying ht,Instr.sliceBounds,Instr.sliceBound,asIntOf,hz',sizeOf,typeInfo,hi,slA]
theorem Qhm {P:Program} {t e:TypeId} {a:Option Addr} {len cap:Nat} {k:IntKind} {z:Int} {K:Value→Prop} (ht:P.underlying t=some (.slice e)) (hi:(P.info? e).isSome=true) (hz:0≤z∧z≤cap) (h:K (.slice (slA a cap) z.toNat cap)) :
  pureW P (Instr.sliceAt t (.slice a len cap) ([]:List Value)[0]? [Value.int k z][0]? ([]:List Value)[0]?) K:=QFG ht hi hz h
theorem QsB {b off:Nat} {cap:Nat}:slA (some ⟨b,off,none⟩) cap=some ⟨b,off,none⟩:=by
 unfold slA
 split
 ·rfl
 ·rw [Option.map_some,Addr.add_lit,Nat.add_zero]
theorem Raws.cut {x:Nat→Obj→Prop} {a:Option Addr} {len k cap:Nat} {rs:Nat→Raw} (h:Raws x a len rs) (hk:k≤len):Raws x (slA a cap) k rs:=fun i hi=>by
 obtain ⟨h1,b,off,c,T,f,rfl,h3,h4⟩:=h i (by omega)
 exact ⟨h1,b,off,c,T,f,QsB,h3,h4⟩
theorem RowAt.cut {x:Nat→Obj→Prop} {a:Option Addr} {z n cap m:Nat} {vals:List Value} (h:RowAt x a z n cap vals) (hm:m≤n):RowAt x a z m cap (vals.take (m * z)):=by
 obtain ⟨h1,h2⟩:=h
 have hz:m * z≤n * z:=Nat.mul_le_mul_right _ hm
 refine ⟨by rw [List.length_take]; omega,?_⟩
 rcases h2 with ⟨q1,q2,q3⟩ | ⟨b,c,T,f,q1,q2,q3,q4,q5⟩
 ·exact .inl ⟨q1,by omega,q3⟩
 ·refine .inr ⟨b,c,T,f,q1,q2,?_,by omega,q5⟩
  rw [←q3,List.take_take,Nat.min_eq_left hz]
theorem RowAt.len_cap {x:Nat→Obj→Prop} {a:Option Addr} {z n cap:Nat} {vals:List Value} (h:RowAt x a z n cap vals):n≤cap:=by
 rcases h.2 with ⟨_,h2,h3⟩ | ⟨_,_,_,_,_,_,_,h4,_⟩
 ·omega
 ·exact h4
theorem RowAt.slA {x:Nat→Obj→Prop} {a:Option Addr} {z n cap:Nat} {vals:List Value} (h:RowAt x a z n cap vals):slA a cap=a:=by
 rcases h.2 with ⟨rfl,_⟩ | ⟨b,c,T,f,rfl,_⟩
 ·unfold Go.Proofs.YtkokohkbhlnjkaaGreatDoor.slA; split <;> rfl
 ·exact QsB
end Go.Proofs.YtkokohkbhlnjkaaGreatDoor
namespace Go.Proofs.YtkokohkbhlnjkaaGreatDoor
set_option linter.unusedVariables false
set_option linter.unusedSimpArgs false
open Go Go.RowKit Go.Proofs.YtkokohkbhlnjkaaGreatDoor.R
set_option maxRecDepth 50000
set_option maxHeartbeats 8000000
theorem Qfp {s:Es} {r:Raw} (h:(playStep s r).2≠0):(playStep s r).1=s:=by
 unfold playStep at h ⊢
 by_cases h0:(rawEv r).2=0
 ·rw [if_pos h0] at h ⊢; exact Qgf h
 ·rw [if_neg h0]
theorem Qrf {s:Es} {f g:Nat→Raw}:∀ {m:Nat},(∀ j,j < m→f j=g j)→playUp s f m=playUp s g m
 | 0,_=>rfl
 | m+1,h=>by
  have ih:=Qrf (s:=s) (f:=f) (g:=g) (m:=m) fun j hj=>h j (by omega)
  rw [playUp,playUp,ih,h m (by omega)]
def rawZ:Raw:=⟨none,0,0,fun _=>0⟩
def playL (s:Es) (l:List Raw):Es×List (Es×Int):=playUp s (fun j=>l.getD j rawZ) l.length
theorem QGs (s:Es):playL s []=(s,[]):=rfl
theorem Qjl (s:Es) (l:List Raw) (r:Raw):playL s (l ++ [r])=((playStep (playL s l).1 r).1,(playL s l).2 ++ [playStep (playL s l).1 r]):=by
 have hc:playUp s (fun j=>(l ++ [r]).getD j rawZ) l.length=playL s l:=Qrf fun j hj=>by
  simp only [List.getD_eq_getElem?_getD]
  rw [List.getElem?_append_left hj]
 have hl:(l ++ [r]).getD l.length rawZ=r:=by simp
 unfold playL at hc ⊢
 rw [List.length_append]
 show playUp _ _ (l.length+1)=_
 rw [playUp,hc]
 simp only [hl]
theorem Qre (s:Es) (l:List Raw):(playL s l).2.length=l.length:=QcZ _ _ _
def goods (s:Es) (rs:Nat→Raw):Nat→List Raw
 | 0=>[]
 | i+1=>if (playStep (playUp s rs i).1 (rs i)).2=0 then goods s rs i ++ [rs i] else goods s rs i
theorem QoF (s:Es) (rs:Nat→Raw):∀ i,(goods s rs i).length≤i
 | 0=>Nat.le_refl _
 | i+1=>by
  have:=QoF s rs i
  rw [goods]
  split
  ·rw [List.length_append]; simp; omega
  ·omega
theorem QiP (s:Es) (rs:Nat→Raw):∀ i,∀ r∈goods s rs i,∃ j,j < i∧r=rs j
 | 0,r,h=>by simp [goods] at h
 | i+1,r,h=>by
  rw [goods] at h
  split at h
  ·rcases List.mem_append.1 h with h | h
   ·obtain ⟨j,h1,h2⟩:=QiP s rs i r h
    exact ⟨j,by omega,h2⟩
   ·exact ⟨i,by omega,List.mem_singleton.1 h⟩
  ·obtain ⟨j,h1,h2⟩:=QiP s rs i r h
   exact ⟨j,by omega,h2⟩
def isGood (p:Es×Int):Bool:=decide (p.2=0)
theorem QoG (s:Es) (rs:Nat→Raw):∀ i,playL s (goods s rs i)=((playUp s rs i).1,(playUp s rs i).2.filter isGood)
 | 0=>rfl
 | i+1=>by
  have h1:=QoG s rs i
  rw [goods,playUp]
  by_cases h0:(playStep (playUp s rs i).1 (rs i)).2=0
  ·rw [if_pos h0,Qjl,h1]
   dsimp only
   rw [List.filter_append]
   have:isGood (playStep (playUp s rs i).1 (rs i))=true:=decide_eq_true h0
   rw [List.filter_cons,if_pos this]
   rfl
  ·rw [if_neg h0,h1]
   dsimp only
   rw [List.filter_append]
   have:¬ isGood (playStep (playUp s rs i).1 (rs i))=true:=fun h=>h0 (of_decide_eq_true h)
   rw [List.filter_cons,if_neg this,Qfp h0]
   simp
theorem Qta:∀ l:List (Es×Int),wins ((l.filter isGood).map noteOf)=wins (l.map noteOf)
 | []=>rfl
 | p :: l=>by
  have ih:=Qta l
  rw [List.filter_cons,List.map_cons,wins]
  by_cases h:p.2=0
  ·rw [if_pos (show isGood p=true from decide_eq_true h),List.map_cons,wins,ih]
  ·rw [if_neg (show ¬ isGood p=true from fun q=>h (of_decide_eq_true q)),ih,if_neg (show ¬ (noteOf p).err=0 from h)]
theorem Qs9:∀ l:List (Es×Int),(wins ((l.filter isGood).map noteOf)).length=((l.filter isGood).map noteOf).length
 | []=>rfl
 | p :: l=>by
  have ih:=Qs9 l
  rw [List.filter_cons]
  by_cases h:p.2=0
  ·rw [if_pos (show isGood p=true from decide_eq_true h),List.map_cons,wins,if_pos (show (noteOf p).err=0 from h),List.length_cons,List.length_cons,ih]
  ·rw [if_neg (show ¬ isGood p=true from fun q=>h (of_decide_eq_true q)),ih]
def Nt.no (n:Nt):Nt:={ n with err:=0 }
theorem QgY (p:Es×Int):noteOf p=⟨p.2,(esLook p.1).win,(esLook p.1).thr,(esLook p.1).rate,(esLook p.1).rto,(esLook p.1).part⟩:=by
 unfold noteOf
 generalize esLook p.1=q
 rfl
theorem QBF (p:Es×Int):(noteOf p).no=(esLook p.1).no:=by
 rw [QgY]
 generalize esLook p.1=q
 rfl
theorem Qjd (p:Es×Int):(noteOf p).err=p.2:=rfl
theorem QGq {s:Es} {r:Raw} (h:(playStep s r).2≠0):(noteOf (playStep s r)).no=(esLook s).no:=by rw [QBF,Qfp h]
theorem QGp {s:Es} (h:EsOk s):(esLook s).no=esLook s:=by rw [Qfi h]; rfl
end Go.Proofs.YtkokohkbhlnjkaaGreatDoor
namespace Go.Proofs.YtkokohkbhlnjkaaGreatDoor
set_option linter.unusedVariables false
set_option linter.unusedSimpArgs false
open Go Go.RowKit
namespace R
theorem Rep.pubG {w0:WM} {N:Nat} {ds:List Deferred} {s:Nat→Nat} {a:Act} {w:WM} {t:List (Nat×RV)} {m:List RO} {x:Nat→Obj→Prop} (hr:Rep [] w0 N ds s ⟨t,m,x⟩ a w)
  (ks:List Nat) (t':List (Nat×RV)) (m':List RO) {c:Nat} {oc:RO} (hc:m[c]? = some oc) (hl:m'.length=ks.length)
  (hk:∀ (k:Nat) (o':RO),m'[k]? = some o'→∃ (j:Nat) (o:RO),ks[k]? = some j∧j≠c∧m[j]? = some o∧renO (fun k=>s (ks.getD k 0)) o'=renO s o∧cloO m'.length o'=true)
  (hnd:∀ (k k' j:Nat),ks[k]? = some j→ks[k']? = some j→k=k')
  (ht:∀ i v,lk t' i=some v→∃ u,lk t i=some u∧ren (fun k=>s (ks.getD k 0)) v=ren s u∧clo m'.length v=true) :
  Rep [] w0 N ds (fun k=>s (ks.getD k 0)) ⟨t',m',fun b o=>x b o∨(b=s c∧o=renO s oc)⟩ a w:=by
 have hcm:=(List.getElem?_eq_some_iff.1 hc).1
 have at_:∀ k,k < m'.length→∃ j,ks[k]? = some j∧ks.getD k 0=j∧j≠c∧j < m.length:=fun k h=>by
  obtain ⟨j,o,h1,h2,h3,_⟩:=hk k m'[k] (by simp [h])
  exact ⟨j,h1,by simp [List.getD_eq_getElem?_getD,h1],h2,(List.getElem?_eq_some_iff.1 h3).1⟩
 refine ⟨⟨?_,?_,?_,?_,?_,?_,?_,hr.mr.wf⟩,?_,hr.fr,hr.size,?_,hr.df⟩
 ·intro k o' h
  obtain ⟨j,o,h1,h2,h3,h4,h5⟩:=hk k o' h
  show w.heap[s (ks.getD k 0)]? = some (renO (fun k=>s (ks.getD k 0)) o')
  rw [h4,show ks.getD k 0=j by simp [List.getD_eq_getElem?_getD,h1]]
  exact hr.mr.mem j o h3
 ·intro j k hj hk' e
  obtain ⟨j1,a1,a2,a3,a4⟩:=at_ j hj
  obtain ⟨k1,b1,b2,b3,b4⟩:=at_ k hk'
  replace e:s (ks.getD j 0)=s (ks.getD k 0):=e
  rw [a2,b2] at e
  have:=hr.mr.inj j1 k1 a4 b4 e
  subst this
  exact hnd j k j1 a1 b1
 ·intro k o' h
  obtain ⟨j,o,h1,h2,h3,h4,h5⟩:=hk k o' h
  exact h5
 ·rintro b p (hb | ⟨rfl,rfl⟩)
  ·exact hr.mr.ext b p hb
  ·exact hr.mr.mem c _ hc
 ·intro b p hb k hkl
  obtain ⟨j,a1,a2,a3,a4⟩:=at_ k hkl
  show s (ks.getD k 0)≠b
  rw [a2]
  rcases hb with hb | ⟨rfl,rfl⟩
  ·exact hr.mr.apart b p hb j a4
  ·exact fun e=>a3 (hr.mr.inj j c a4 hcm e)
 ·intro k hkl
  obtain ⟨j,a1,a2,a3,a4⟩:=at_ k hkl
  show w.M (s (ks.getD k 0))
  rw [a2]
  exact hr.mr.mine j a4
 ·rintro b p (hb | ⟨rfl,rfl⟩)
  ·exact hr.mr.know b p hb
  ·exact .inl (hr.mr.mine c hcm)
 ·refine .none fun k hkl=>?_
  obtain ⟨j,a1,a2,a3,a4⟩:=at_ k hkl
  show _≤s (ks.getD k 0)
  rw [a2]
  exact (hr.own.mem a4).resolve_left (by simp)
 ·intro i v h
  obtain ⟨u,h1,h2,h3⟩:=ht i v h
  exact ⟨by rw [h2]; exact (hr.slot i u h1).1,h3⟩
theorem Qd5 {s s':Nat→Nat} {l:List RV} (h:∀ v∈l,∃ u,v=.ext u):l.map (ren s)=l.map (ren s'):=List.map_congr_left fun v hv=>by
 obtain ⟨u,rfl⟩:=h v hv
 rfl
theorem Rep.pubC {w0:WM} {N:Nat} {ds:List Deferred} {s:Nat→Nat} {a:Act} {w:WM} {t rest:List (Nat×RV)} {m:List RO} {x:Nat→Obj→Prop} {o c g cg n cap kl kp:Nat} {T T' TC:TypeId} {L Z crow row0:List RV}
  (hr:Rep [] w0 N ds s ⟨t,m,x⟩ a w) (h0:nthX m 0=some (.cells TC row0)) (hC:∀ v∈row0,∃ u,v=.ext u) (ho:nthX m o=some (.cells T (L ++ [.sl c 0 n cap] ++ Z))) (hc:nthX m c=some (.cells T' crow)) (hoc:o≠c) (ho0:o≠0) (hc0:0≠c)
  (hL:∀ v∈L,∃ u,v=.ext u) (hZ:∀ v∈Z,∃ u,v=.ext u) (hl:lk t kl=some (.sl o 0 g cg)) (hp:lk t kp=some (.ptr 0 0)) (he:extL t rest) :
  Rep [] w0 N ds (fun k=>s ([0,o].getD k 0)) ⟨(kl,.sl 1 0 g cg) :: (kp,.ptr 0 0) :: rest,[.cells TC row0,.cells T (L ++ [.ext (.slice (some ⟨s c,0,none⟩) n cap)] ++ Z)],fun b o'=>x b o'∨(b=s c∧o'=renO s (.cells T' crow))⟩ a w:=by
 rw [Qay] at ho hc h0
 refine hr.pubG [0,o] _ _ hc rfl ?_ ?_ ?_
 ·intro k o' hk
  match k with
  | 0=>
   simp only [List.getElem?_cons_zero,Option.some.injEq] at hk
   subst hk
   refine ⟨0,_,rfl,hc0,h0,?_,?_⟩
   ·simp only [renO,Qd5 (s':=s) hC]
   ·simp only [cloO,List.all_eq_true]
    intro v hv
    obtain ⟨u,rfl⟩:=hC v hv
    rfl
  | 1=>
   simp only [List.getElem?_cons_succ,List.getElem?_cons_zero,Option.some.injEq] at hk
   subst hk
   refine ⟨o,_,rfl,hoc,ho,?_,?_⟩
   ·simp only [renO,List.map_append,Qd5 (s':=s) hL,Qd5 (s':=s) hZ]
    rfl
   ·simp only [cloO,List.all_append,Bool.and_eq_true,List.all_eq_true]
    refine ⟨⟨fun v hv=>?_,fun v hv=>?_⟩,fun v hv=>?_⟩
    ·obtain ⟨u,rfl⟩:=hL v hv; rfl
    ·rw [List.mem_singleton.1 hv]; rfl
    ·obtain ⟨u,rfl⟩:=hZ v hv; rfl
  | k+2=>simp at hk
 ·intro k k' j h1 h2
  match k,k' with
  | 0,0=>rfl
  | 1,1=>rfl
  | 0,1=>simp at h1 h2; omega
  | 1,0=>simp at h1 h2; omega
  | k+2,_=>simp at h1
  | 0,k+2=>simp at h2
  | 1,k+2=>simp at h2
 ·intro i v hi
  rw [Qa7] at hi
  split at hi
  ·rename_i e
   simp only [Option.some.injEq] at hi
   subst hi
   rw [e]
   exact ⟨_,hl,rfl,rfl⟩
  ·rw [Qa7] at hi
   split at hi
   ·rename_i e
    simp only [Option.some.injEq] at hi
    subst hi
    rw [e]
    exact ⟨_,hp,rfl,rfl⟩
   ·obtain ⟨h1,u,rfl⟩:=Qil he i v hi
    exact ⟨_,h1,rfl,rfl⟩
instance stkF {p:(Nat→Nat)→Act→WM→Prop}:Stk (∀ s a w,p s a w):=⟨trivial⟩
end R
end Go.Proofs.YtkokohkbhlnjkaaGreatDoor
namespace Go.Proofs.YtkokohkbhlnjkaaGreatDoor
set_option linter.unusedVariables false
set_option linter.unusedSimpArgs false
open Go Go.RowKit Go.Proofs.YtkokohkbhlnjkaaGreatDoor.R
set_option maxRecDepth 50000
set_option maxHeartbeats 8000000
theorem Qh2 (c:Cf):∀ v∈cfCells c,∃ u,v=.ext u:=by
 intro v hv
 simp only [cfCells,List.mem_cons,List.not_mem_nil,or_false] at hv
 rcases hv with rfl | rfl | rfl | rfl | rfl | rfl | rfl <;> exact ⟨_,rfl⟩
theorem Qnq {rs:Nat→Raw} {len i:Nat} {m:Int} (h:fewB rs len m=true) (hi:i < len):(rs i).len≤10:=by
 unfold fewB at h
 simp only [Bool.and_eq_true] at h
 exact of_decide_eq_true (List.all_eq_true.1 h.1 i (List.mem_range.2 hi))
def rawV (r:Raw):RV:=.ext (.slice r.a r.len r.cap)
theorem QbZ:appS Tryz.prog #[24,24]=some (28,[.slice none 0 0],24):=by kernel_rfl
theorem QkT {S:St} {a:Option Addr} {n c:Nat} {K:RV→St→Prop} (h:K (.sl S.m.length 0 1 1) ⟨S.t,S.m ++ [.cells 28 [.ext (.slice a n c)]],S.x⟩) :
  bldW Tryz.prog S 24 1 [0] [.ext (.slice a n c)] K:=
 Qbq (z:=.slice none 0 0) (b:=24) Tryz.underlying24 (by kernel_rfl) rfl (by decide) rfl rfl rfl h
theorem Qjt (r:Raw):∀ v∈([.ext (.slice r.a r.len r.cap)]:List RV),∃ u,v=.ext u:=by
 intro v hv
 simp only [List.mem_singleton] at hv
 exact ⟨_,hv⟩
theorem Qeg {S:St} {k n c:Nat} {K:RV→St→Prop} (h:K (.sl S.m.length 0 1 1) ⟨S.t,S.m ++ [.cells 28 [.sl k 0 n c]],S.x⟩) :
  bldW Tryz.prog S 24 1 [0] [.sl k 0 n c] K:=
 Qbq (z:=.slice none 0 0) (b:=24) Tryz.underlying24 (by kernel_rfl) rfl (by decide) rfl rfl rfl h
theorem Qju {x:Nat→Obj→Prop} {s:Nat→Nat} {t:List (Nat×RV)} {m:List RO} {k T n cap:Nat} {row:List RV} {L:List Raw} (h:RowIs row 1 n cap (L.map rawV)) (hm:m[k]? = some (.cells T row)) (hi:∀ r∈L,Ints x r.a r.len r.zs):Raws (xAll ⟨t,m,x⟩ s) (some ⟨s k,0,none⟩) n (fun j=>L.getD j rawZ):=fun j hj=>by
 have hl:L.length=n:=by have:=h.len; simpa using this
 have hgd:L[j]? = some (L.getD j rawZ):=by simp [hl,hj]
 refine ⟨?_,s k,0,_,T,(0,0),rfl,.inr ⟨k,_,hm,rfl,rfl⟩,?_⟩
 ·intro l hl'
  obtain ⟨e1,b,off,c,T',f,e2,e3,e4⟩:=hi _ (List.mem_of_getElem? hgd) l hl'
  exact ⟨e1,b,off,c,T',f,e2,.inl e3,e4⟩
 ·have hrg:=h.get (j:=j) (by omega)
  rw [List.getElem?_map,hgd] at hrg
  simp only [loadX,Int.toNat_natCast,Nat.zero_add,Nat.mul_one]
  simp only [List.getElem?_toArray,List.getElem?_map,hrg,Option.map_some]
  rfl
end Go.Proofs.YtkokohkbhlnjkaaGreatDoor
namespace Go.Proofs.YtkokohkbhlnjkaaGreatDoor
set_option linter.unusedVariables false
set_option linter.unusedSimpArgs false
open Go Go.RowKit Go.Proofs.YtkokohkbhlnjkaaGreatDoor.R
set_option maxRecDepth 50000
set_option maxHeartbeats 8000000
theorem Qia {s:Es} {e:Ev} (h:EsOk s) (h1:evCheck e.kind e.time e.bytes e.rtt=0) (h2:s.now≤e.time) (h3:e.time≤1099511627776):EsOk (esAt s e.time)∧esDo s e=if (esBy (esAt s e.time) e).2≠0 then (s,(esBy (esAt s e.time) e).2) else esBy (esAt s e.time) e:=by
 have h0:=(Qcj s).2 h
 have hn:=h.now
 have hk:clkStep s.now e.time=(e.time,0):=by
  unfold clkStep clkCheck
  rw [decide_eq_true (show 0≤e.time by omega),decide_eq_true h3,decide_eq_false (show ¬ e.time < s.now by omega)]
  rfl
 have h4:=Qe4 h h2 h3
 refine ⟨h4.2,?_⟩
 unfold esDo
 rw [h0,hk]
 simp [h1,h4.1]
theorem Qw6 {s:Es} {t:Int} (h:EsOk s) (h1:s.now≤t) (h2:t≤1099511627776):esAt (esAt s t) t=esAt s t:=by
 have hb:=h.bk
 have ha:=h.bkAt
 have hn:=h.now
 obtain ⟨f1,f2,f3,f4⟩:=QkP (r:=esRate s) (m:=s.cf.burst * s.cf.seg) hb (show 0≤t∧t≤1099511627776 by omega) (show s.bk.at_≤t by omega)
 have hr:esRate (esAt s t)=esRate s:=rfl
 have key:esFill (esAt s t) t=((esAt s t).bk,0):=by
  unfold esFill
  rw [hr]
  show bkFill (esFill s t).1 t (esRate s) (s.cf.burst * s.cf.seg)=((esFill s t).1,0)
  unfold esFill
  generalize hB:bkFill s.bk t (esRate s) (s.cf.burst * s.cf.seg)=B at *
  obtain ⟨⟨at',hv⟩,e⟩:=B
  dsimp only at f1 f2 f3 f4 ⊢
  subst f2
  unfold bkFill
  rw [if_neg (fun q=>q f3),if_neg (by omega),if_neg (show ¬ at' < at' by omega)]
  dsimp only
  rw [Int.sub_self,Int.mul_zero]
  unfold bkOk at f3
  dsimp only at f3
  have s0:sat 0=0:=by decide
  rw [s0,Int.add_zero,Qcd (by unfold in64; omega)]
  unfold mn
  split
  ·rw [if_neg (by omega)]
  ·rfl
 show ({ esAt s t with bk:=(esFill (esAt s t) t).1,now:=t }:Es)=_
 rw [key]
 rfl
theorem Qnc {t:Int} (h:0≤t∧t≤1099511627776):evCheck 7 t 0 0=0:=by
 unfold evCheck clkCheck
 rw [if_pos (by decide),decide_eq_true h.1,decide_eq_true h.2]
 rfl
theorem QFW {s:Es} {e:Ev} (h:(esDo s e).2=0):(esDo s ⟨7,e.time,0,0⟩).2=0∧esDo (esDo s ⟨7,e.time,0,0⟩).1 e=esDo s e:=by
 obtain ⟨h1,h2,h3,h4,h5,h6,h7⟩:=Qen h
 have hn:=h1.now
 have ht:esDo s ⟨7,e.time,0,0⟩=(esAt s e.time,0):=(Qia (e:=⟨7,e.time,0,0⟩) h1 (Qnc ⟨Int.le_trans hn.1 h3,h4⟩) h3 h4).2
 rw [ht]
 refine ⟨rfl,?_⟩
 have he:=(Qia h6 h2 (show (esAt s e.time).now≤e.time from Int.le_refl _) h4).2
 dsimp only
 rw [he,Qw6 h1 h3 h4,if_neg (by simpa using h7),h5]
structure TickOf (r t:Raw):Prop where
 len:t.len=4
 kind:t.zs 0=7
 time:t.zs 1=r.zs 1
 bytes:t.zs 2=0
 rtt:t.zs 3=0
theorem QgM {s:Es} {r:Raw} (h:(playStep s r).2=0):r.len=4∧rawEv r=(⟨r.zs 0,r.zs 1,r.zs 2,r.zs 3⟩,0)∧playStep s r=esDo s ⟨r.zs 0,r.zs 1,r.zs 2,r.zs 3⟩:=by
 have h0:(rawEv r).2=0:=by
  unfold playStep at h
  by_cases q:(rawEv r).2=0
  ·exact q
  ·rw [if_neg q] at h; exact absurd h q
 have h1:playStep s r=esDo s (rawEv r).1:=if_pos h0
 unfold rawEv evDec at h0 h1 ⊢
 by_cases h4:r.len=4
 ·rw [if_pos h4] at h0 h1 ⊢
  by_cases hc:evCheck (r.zs 0) (r.zs 1) (r.zs 2) (r.zs 3)=0
  ·rw [if_pos hc] at h1 ⊢
   exact ⟨h4,rfl,h1⟩
  ·rw [if_neg hc] at h0; exact absurd h0 hc
 ·rw [if_neg h4] at h0; cases h0
theorem QFX {s:Es} {r t:Raw} (h:(playStep s r).2=0) (ht:TickOf r t):(playStep s t).2=0∧playStep (playStep s t).1 r=playStep s r:=by
 obtain ⟨h4,hr,hp⟩:=QgM h
 rw [hp] at h
 obtain ⟨k1,k2⟩:=QFW h
 obtain ⟨g1,g2,g3,g4,_⟩:=Qen h
 have hn:=g1.now
 have hte:rawEv t=(⟨7,r.zs 1,0,0⟩,0):=by
  unfold rawEv evDec
  rw [if_pos ht.len,ht.kind,ht.time,ht.bytes,ht.rtt,Qnc ⟨Int.le_trans hn.1 g3,g4⟩]
  rfl
 have hts:playStep s t=esDo s ⟨7,r.zs 1,0,0⟩:=by
  unfold playStep
  rw [hte]
  rfl
 rw [hts]
 refine ⟨k1,?_⟩
 have:∀ s',playStep s' r=esDo s' ⟨r.zs 0,r.zs 1,r.zs 2,r.zs 3⟩:=fun s'=>by
  unfold playStep
  rw [hr]
  rfl
 rw [this,this]
 exact k2
structure Ticked (s:Es) (rs:Nat→Raw) (i:Nat) (L:List Raw) (W:List (Es×Int)):Prop where
 st:(playL s L).1=(playUp s rs i).1
 len:L.length=2 * W.length
 want:W=(playUp s rs i).2.filter isGood
 tick:∀ j,j < W.length→∃ p,(playL s L).2[2 * j]? = some p∧p.2=0
 ev:∀ j,j < W.length→(playL s L).2[2 * j+1]? = W[j]?
theorem Ticked.nil (s:Es) (rs:Nat→Raw):Ticked s rs 0 [] []:=⟨rfl,rfl,rfl,fun j hj=>absurd hj (Nat.not_lt_zero j),fun j hj=>absurd hj (Nat.not_lt_zero j)⟩
theorem Ticked.skip {s:Es} {rs:Nat→Raw} {i:Nat} {L:List Raw} {W:List (Es×Int)} (h:Ticked s rs i L W) (h0:(playStep (playUp s rs i).1 (rs i)).2≠0):Ticked s rs (i+1) L W:=by
 refine ⟨?_,h.len,?_,h.tick,h.ev⟩
 ·rw [h.st,playUp]; exact (Qfp h0).symm
 ·rw [h.want,playUp,List.filter_append,List.filter_cons,if_neg (show ¬ isGood _=true from fun q=>h0 (of_decide_eq_true q))]
  simp
theorem Ticked.more {s:Es} {rs:Nat→Raw} {i:Nat} {L:List Raw} {W:List (Es×Int)} {t:Raw} (h:Ticked s rs i L W) (h0:(playStep (playUp s rs i).1 (rs i)).2=0) (ht:TickOf (rs i) t):Ticked s rs (i+1) (L ++ [t,rs i]) (W ++ [playStep (playUp s rs i).1 (rs i)]):=by
 obtain ⟨k1,k2⟩:=QFX h0 ht
 have e:playL s (L ++ [t,rs i])=((playStep (playUp s rs i).1 (rs i)).1,(playL s L).2 ++ [playStep (playUp s rs i).1 t] ++ [playStep (playUp s rs i).1 (rs i)]):=by
  rw [show L ++ [t,rs i]=L ++ [t] ++ [rs i] by simp,Qjl,Qjl,h.st]
  dsimp only
  rw [k2]
 have hl:(playL s L).2.length=2 * W.length:=by rw [Qre]; exact h.len
 refine ⟨by rw [e]; rfl,?_,?_,fun j hj=>?_,fun j hj=>?_⟩
 ·rw [List.length_append,List.length_append,h.len]; simp; omega
 ·rw [h.want,playUp,List.filter_append,List.filter_cons,if_pos (show isGood _=true from decide_eq_true h0)]
  rfl
 ·rw [e]
  dsimp only
  rw [List.append_assoc]
  rw [List.length_append] at hj
  simp only [List.length_cons,List.length_nil] at hj
  by_cases hjl:j < W.length
  ·rw [List.getElem?_append_left (by omega)]
   exact h.tick j hjl
  ·have:j=W.length:=by omega
   subst this
   rw [List.getElem?_append_right (by omega),hl,Nat.sub_self]
   exact ⟨_,rfl,k1⟩
 ·rw [e]
  dsimp only
  rw [List.append_assoc]
  rw [List.length_append] at hj
  simp only [List.length_cons,List.length_nil] at hj
  by_cases hjl:j < W.length
  ·rw [List.getElem?_append_left (by omega),List.getElem?_append_left hjl]
   exact h.ev j hjl
  ·have:j=W.length:=by omega
   subst this
   rw [List.getElem?_append_right (by omega),List.getElem?_append_right (Nat.le_refl _),hl,Nat.sub_self,show 2 * W.length+1 - 2 * W.length=1 by omega]
   rfl
end Go.Proofs.YtkokohkbhlnjkaaGreatDoor
namespace Go.Proofs.YtkokohkbhlnjkaaGreatDoor
set_option linter.unusedVariables false
set_option linter.unusedSimpArgs false
open Go Go.RowKit Go.Proofs.YtkokohkbhlnjkaaGreatDoor.R
set_option maxRecDepth 50000
set_option maxHeartbeats 4000000
def topC:Cf:=⟨1000,100,10,1000,200000,60000000,100⟩
def top0:Es:=(esNew topC).1
def top1:Es×Int:=esDo top0 ⟨6,0,10000,0⟩
def top2:Es×Int:=esDo top1.1 ⟨1,100000,10000,100000⟩
theorem QjW:(esNew topC).2=0∧top0.win=655360∧top0.cf.seg=1000∧top1.2=0∧top2.2=0∧top2.1.win=1179648∧top2.1.now=100000∧top2.1.fl.told=10000:=⟨by kernel_rfl,by kernel_rfl,by kernel_rfl,by kernel_rfl,by kernel_rfl,by kernel_rfl,by kernel_rfl,by kernel_rfl⟩
theorem QF2:EsIn top0∧EsIn top1.1:=by
 have p0:PIn top0 0:=PIn.new (c:=topC) (by kernel_rfl)
 have h1:=(QjW).2.2.2.1
 have m:=QmU top0 ⟨6,0,10000,0⟩
 have m0:=p0.ms
 exact ⟨p0.in_ (by decide),(⟨(Qgg h1).2.1,QmT p0.fl h1,QmV p0.rd h1,by show top1.1.ms.length≤1; unfold top1; omega⟩:PIn top1.1 1).in_ (by decide)⟩
theorem Qwn {x:Nat→Obj→Prop} (hT:TensX x) {u:Value} (hu:MsAt x top0.ms u):RetE Tryz.prog x 47 [top0.v u,.int .i64 0] (fun v x=>∃ a c,v=.tuple #[top2.1.v (.slice a top2.1.ms.length c),.bool true]):=by
 obtain ⟨_,h1,h2,h3,h4,_⟩:=QjW
 obtain ⟨i0,i1⟩:=QF2
 have d1:esDo top0 ⟨6,0,10000,0⟩=(top1.1,0):=by rw [←h3]; rfl
 have d2:esDo top1.1 ⟨1,100000,10000,100000⟩=(top2.1,0):=by rw [←h4]; rfl
 generalize top0=s at *
 generalize top1.1=t at *
 generalize top2.1=v at *
 have hFB:∀ y,PureC Tryz.prog y 37 [.int .i64 s.win,.int .i64 s.cf.seg] (.tuple #[.int .i64 10000,.int .i64 0]):=fun y=>by
  have:=QlP (x:=y) s.win s.cf.seg (by rw [h1]; exact ⟨by decide,by decide⟩) (by rw [h2]; exact ⟨by decide,by decide⟩)
  rw [h1,h2] at this ⊢
  exact this
 refine Qhe Tryz.func47 rfl rfl fun w x1 hx1=>?_
 have hD1:=Qgb (hT.mono hx1) d1 i0 (hu.mono hx1)
 obtain ⟨a0,c0,rfl,_⟩:=hu
 unfold Es.v Es.cells Ev.v at hD1
 unfold Es.v Es.cells
 refine Qaa (by kernel_rfl) ?_
 have e1:wr .i64 ((0:Int)+100000)=100000:=Qag (by decide) (by decide)
 repeat' (first|((with_reducible show callW _ _ _ (some (37,_)) _ _);refine callP QgF rfl (hFB _) ?_)|((fail_if_success (with_reducible refine stk ?_));simp only [WE,Nat.reduceLeDiff,segX,Nat.reduceBEq,Nat.reduceAdd,ty_3,Qaj,QaB,QaY,QaF,Qau,Qee]))
 refine callEN Qgy rfl hD1 ?_
 rintro v x2 x3 ⟨a1,c1,rfl,hu1⟩ hs1 hs2 _
 have hD2:=Qgb (hT.mono fun b o h=>hs1 _ _ (hx1 _ _ h)) d2 i1 (hu1.mono hs2)
 unfold Es.v Es.cells Ev.v at hD2
 repeat' (first|((fail_if_success (with_reducible refine stk ?_));simp only [WE,Nat.reduceLeDiff,segX,Nat.reduceBEq,Nat.reduceAdd,Nat.reduceEqDiff,Qaj,Qau,Qee,e1]))
 refine callEN Qgy rfl hD2 ?_
 rintro v x4 x5 ⟨a2,c2,rfl,hu2⟩ hs3 hs4 _
 repeat' (first|((fail_if_success (with_reducible refine stk ?_));simp only [WE,segX,Nat.reduceBEq,Nat.reduceAdd,Nat.reduceEqDiff,Qaj,Qau]))
 rw [QeO]
 simp only [WE,Nat.reduceLeDiff,segX,Nat.reduceBEq,Nat.reduceAdd,Nat.reduceEqDiff,Int.reduceNeg,Int.reduceEq,Int.reduceBEq,Int.reduceLT,Int.reduceLE,Int.reduceBNe,Int.reduceToNat,Nat.reduceMul,Nat.reduceMod,Int.reducePow,reduceIte,ty_3,Qaj,QaB,QaY,QaF,Qau,Qee,Tryz.underlying30,QEy]
 exact ⟨_,fun _ _=>False,rfl,fun b o h=>h.elim,fun b o h=>h.elim,_,_,rfl⟩
theorem Qe2 {x:Nat→Obj→Prop} (hT:TensX x):PureC Tryz.prog x 18 [] (.bool true):=by
 obtain ⟨h0,_,_,_,_,h5,h6,h7⟩:=QjW
 have hN:=fun (y:Nat→Obj→Prop)=>Qeh (x:=y) topC
 have e0:(esNew topC).1=top0:=rfl
 rw [h0,e0] at hN
 have hm:top0.ms=[]:=by kernel_rfl
 have hz:∀ y,MsAt y top0.ms (.slice none 0 0):=fun y=>by rw [hm]; exact ⟨none,0,rfl,Nat.le_refl _,by decide,fun _=>rfl,fun i hi=>absurd hi (by simp)⟩
 have hU:=Qwn hT (hz x)
 generalize top2.1=v at *
 generalize top0=s at *
 unfold Cf.v Es.v Es.cells at hN
 unfold Es.v Es.cells at hU
 refine Qab Tryz.func18 rfl rfl fun w=>?_
 refine Qaa (by kernel_rfl) ?_
 repeat' (first|((with_reducible show callW _ _ _ (some (22,_)) _ _);refine callP Qdm rfl (hN _) ?_)|((fail_if_success (with_reducible refine stk ?_));simp only [WE,Nat.reduceLeDiff,segX,Nat.reduceBEq,Nat.reduceAdd,Nat.reduceEqDiff,Qai,Qaj,QjZ,Qau,QeV]))
 refine callE Qzy rfl hU ?_
 rintro v' x1 x2 ⟨a1,c1,rfl⟩ hs1 hs2
 rw [h5,h6,h7]
 repeat' (first|((fail_if_success (with_reducible refine stk ?_));simp only [WE,Nat.reduceBEq,Nat.reduceAdd,Nat.reduceEqDiff,ty_3,Qaj,Qiv,QbJ,QaF,QaJ,QDr]))
end Go.Proofs.YtkokohkbhlnjkaaGreatDoor
namespace Go.Proofs.YtkokohkbhlnjkaaGreatDoor
set_option linter.unusedVariables false
set_option linter.unusedSimpArgs false
open Go Go.RowKit Go.Proofs.YtkokohkbhlnjkaaGreatDoor.R
set_option maxRecDepth 50000
set_option maxHeartbeats 8000000
def later (d:Int) (e:Ev):Ev:=⟨e.kind,e.time+d,e.bytes,e.rtt⟩
def shM (d:Int) (l:List (Int×Int)):List (Int×Int):=l.map fun m=>(m.1+d,m.2)
def shEp (d:Int) (e:Ep):Ep:=if e.on=true then ⟨e.on,e.start+d,e.first,e.max,e.k,e.est⟩ else e
def sh (d:Int) (s:Es):Es:={ s with now:=s.now+d,last:=s.last+d,ms:=shM d s.ms,ep:=shEp d s.ep,bk:=⟨s.bk.at_+d,s.bk.have_⟩ }
theorem QjR {d:Int} {e:Ep} (h:e.on=false):shEp d e=e:=by unfold shEp; rw [if_neg (by simp [h])]
theorem Qfz {d:Int} {e:Ep} (h:e.on=true):shEp d e=⟨e.on,e.start+d,e.first,e.max,e.k,e.est⟩:=if_pos h
theorem QGt (d:Int):shEp d Ep.zero=Ep.zero:=rfl
theorem Qhl (d:Int) (e:Ep):(shEp d e).on=e.on∧(shEp d e).first=e.first∧(shEp d e).max=e.max∧(shEp d e).k=e.k∧(shEp d e).est=e.est:=by
 unfold shEp; split <;> exact ⟨rfl,rfl,rfl,rfl,rfl⟩
theorem QjS (d:Int) (l:List (Int×Int)):(shM d l).length=l.length:=by unfold shM; simp
theorem Qi6 {d:Int} {l:List (Int×Int)} {i:Nat} (hi:i < l.length):mkF (shM d l) i=((mkF l i).1+d,(mkF l i).2):=by
 unfold mkF shM
 simp [List.getD_eq_getElem?_getD,hi]
theorem Qin {α:Type} {p q:α→Bool}:∀ {l:List α},(∀ a∈l,p a=q a)→l.find? p=l.find? q
 | [],_=>rfl
 | a :: l,h=>by
  have ih:=Qin (l:=l) fun b hb=>h b (by simp [hb])
  rw [List.find?_cons,List.find?_cons,h a (by simp),ih]
theorem Qjr (d:Int) (l:List (Int×Int)) (n:Int):putK (mkF (shM d l)) l.length n=putK (mkF l) l.length n:=by
 unfold putK
 rw [Qin (q:=fun i=>decide (n≤(mkF l i).2)) fun i hi=>by rw [Qi6 (List.mem_range.1 hi)]]
theorem Qru {d t n:Int} {l:List (Int×Int)} {k i:Nat} (hk:k≤l.length):putG (mkF (shM d l)) k (t+d) n i=((putG (mkF l) k t n i).1+d,(putG (mkF l) k t n i).2):=by
 unfold putG
 by_cases h:i < k
 ·rw [if_pos h,if_pos h,Qi6 (by omega)]
 ·rw [if_neg h,if_neg h]
theorem Qrt (d:Int) (l:List (Int×Int)) (w t n:Int):putF (mkF (shM d l)) l.length w (t+d) n=putF (mkF l) l.length w t n:=by
 unfold putF
 rw [Qjr]
 have hk:=QeF (mkF l) l.length n
 rw [Qin (q:=fun i=>decide (t - w≤(putG (mkF l) (putK (mkF l) l.length n) t n i).1)) fun i hi=>?_]
 rw [Qru hk]
 by_cases h:t - w≤(putG (mkF l) (putK (mkF l) l.length n) t n i).1
 ·rw [decide_eq_true h,decide_eq_true (by dsimp only; omega)]
 ·rw [decide_eq_false h,decide_eq_false (by dsimp only; omega)]
theorem QCg {d t w:Int} {l:List (Int×Int)} (h:mkOk (mkF l) l.length=true) (h':mkOk (mkF (shM d l)) l.length=true) (ht:0≤t∧t+d≤1099511627776) (hd:0≤d):putErr (mkF (shM d l)) l.length w (t+d)=putErr (mkF l) l.length w t:=by
 have t1:isT t=true:=(QgS _).2 ⟨by omega,by omega⟩
 have t2:isT (t+d)=true:=(QgS _).2 ⟨by omega,by omega⟩
 unfold putErr
 rw [h,h',t1,t2]
 by_cases hl:0 < l.length
 ·rw [Qi6 (by omega:l.length - 1 < l.length)]
  simp only [Bool.true_eq_false,false_or,hl,true_and]
  split
  ·rfl
  ·by_cases q:t < (mkF l (l.length - 1)).1
   ·rw [if_pos q,if_pos (by omega)]
   ·rw [if_neg q,if_neg (by omega)]
 ·simp only [Bool.true_eq_false,false_or,hl,false_and]
theorem QCm {d t w n:Int} {l:List (Int×Int)} (h:putErr (mkF l) l.length w t=0) (h':putErr (mkF (shM d l)) l.length w (t+d)=0):putL (shM d l) w (t+d) n=shM d (putL l w t n):=by
 unfold putL
 rw [QjS]
 have hk:=QeF (mkF l) l.length n
 have e1:putLen (mkF (shM d l)) l.length w (t+d) n=putLen (mkF l) l.length w t n:=by
  unfold putLen
  rw [if_pos h,if_pos h',Qjr,Qrt]
 rw [e1]
 show _=List.map _ (List.map _ _)
 rw [List.map_map]
 refine List.map_congr_left fun i hi=>?_
 show putFn _ _ _ _ _ i=(((putFn _ _ _ _ _ i).1+d,(putFn _ _ _ _ _ i).2):Int×Int)
 unfold putFn
 rw [if_pos h,if_pos h',Qjr,Qrt]
 exact Qru hk
theorem QkO {b:Bk} {t r m:Int} (hb:bkOk b) (ht:0≤t∧t≤1099511627776) (hat:b.at_≤t):bkFill b t r m=(⟨t,if b.have_ < bkTaken m * 1000000 then mn (sat (b.have_+sat (bkTaken r * (t - b.at_)))) (bkTaken m * 1000000) else b.have_⟩,0):=by
 unfold bkFill
 rw [if_neg (fun q=>q hb),if_neg (fun q=>q ht),if_neg (by omega)]
theorem Qux {d t r m:Int} {b:Bk} (hb:bkOk b) (hb':bkOk ⟨b.at_+d,b.have_⟩) (ht:0≤t∧t+d≤1099511627776) (hd:0≤d) (hat:b.at_≤t):bkFill ⟨b.at_+d,b.have_⟩ (t+d) r m=(⟨(bkFill b t r m).1.at_+d,(bkFill b t r m).1.have_⟩,(bkFill b t r m).2):=by
 rw [QkO hb (by omega) hat,QkO hb' (by omega) (by dsimp only; omega)]
 dsimp only
 rw [show t+d - (b.at_+d)=t - b.at_ by omega]
theorem Qw7 {d t:Int} {s:Es} (hb:bkOk s.bk) (hb':bkOk (sh d s).bk) (ht:0≤t∧t+d≤1099511627776) (hd:0≤d) (hat:s.bk.at_≤t):esAt (sh d s) (t+d)=sh d (esAt s t):=by
 have h1:esFill (sh d s) (t+d)=(⟨(esFill s t).1.at_+d,(esFill s t).1.have_⟩,(esFill s t).2):=by
  unfold esFill
  exact Qux hb hb' ht hd hat
 unfold esAt
 rw [h1]
 rfl
theorem QwZ {d b:Int} {e:Ep} (hd:0≤d) (h0:e.on=true→0≤e.start∧e.start+b+d≤1099511627776):epShift (shEp d e) b=shEp d (epShift e b):=by
 cases ho:e.on with
 | false=>
  rw [QjR ho]
  unfold epShift
  rw [if_neg (by simp [ho]),QjR ho]
 | true=>
  obtain ⟨h1,h2⟩:=h0 ho
  rw [Qfz ho]
  unfold epShift
  by_cases hb:0 < b
  ·rw [if_pos ⟨ho,hb⟩,if_pos ⟨ho,hb⟩]
   unfold shEp
   dsimp only
   rw [if_pos ho,Qcd (by unfold in64; omega),Qcd (by unfold in64; omega)]
   unfold mn
   rw [if_neg (by omega),if_neg (by omega)]
   congr 1
   omega
  ·rw [if_neg (fun q=>hb q.2),if_neg (fun q=>hb q.2),Qfz ho]
theorem QxG {d:Int} {s:Es} {e:Ev} (hd:0≤d) (ht:s.last≤e.time∧e.time≤274877906944∧0≤s.last) (h0:s.ep.on=true→0≤s.ep.start∧s.ep.start≤s.last+274877906944) (hd2:d≤4294967296):esWake (sh d s) (later d e)=sh d (esWake s e):=by
 unfold esWake
 have hf:(sh d s).fl=s.fl:=rfl
 rw [hf]
 by_cases h:s.fl.out=0
 ·rw [if_pos h,if_pos h]
  have e1:(later d e).time - (sh d s).last=e.time - s.last:=by show e.time+d - (s.last+d)=_; omega
  have e2:idleOf (sh d s).win (sh d s).last (later d e).time (esRto (sh d s)) (sh d s).cf=idleOf s.win s.last e.time (esRto s) s.cf:=by
   unfold idleOf
   rw [e1]
   rfl
  have e3:epShift (sh d s).ep (sat (e.time - s.last))=shEp d (epShift s.ep (sat (e.time - s.last))):=by
   refine QwZ hd fun q=>?_
   obtain ⟨a1,a2⟩:=h0 q
   rw [Qcd (by unfold in64; omega)]
   omega
  rw [e2,e1,e3]
  rfl
 ·rw [if_neg h,if_neg h]
theorem QkQ {d n:Int} {b:Bk} (hb:bkOk b) (hb':bkOk ⟨b.at_+d,b.have_⟩):bkTake ⟨b.at_+d,b.have_⟩ n=(⟨(bkTake b n).1.at_+d,(bkTake b n).1.have_⟩,(bkTake b n).2):=by
 have hB:bkBytes ⟨b.at_+d,b.have_⟩=bkBytes b:=by
  unfold bkBytes
  rw [if_pos hb,if_pos hb']
 by_cases h1:1≤n
 ·by_cases h2:bkBytes b < n
  ·have e:∀ c:Bk,bkOk c→bkBytes c < n→bkTake c n=(c,203):=fun c hc h=>by
    unfold bkTake
    rw [if_neg (fun q=>q ⟨hc,h1⟩),if_pos h]
   rw [e _ hb h2,e _ hb' (by rw [hB]; exact h2)]
  ·have e:∀ c:Bk,bkOk c→¬ bkBytes c < n→bkTake c n=(⟨c.at_,c.have_ - n * 1000000⟩,0):=fun c hc h=>by
    unfold bkTake
    rw [if_neg (fun q=>q ⟨hc,h1⟩),if_neg h]
   rw [e _ hb h2,e _ hb' (by rw [hB]; exact h2)]
 ·have e:∀ c:Bk,bkTake c n=(c,201):=fun c=>by
   unfold bkTake
   rw [if_pos (fun q=>h1 q.2)]
  rw [e,e]
theorem Qxy {d:Int} {s:Es} {e:Ev} (hb:bkOk s.bk) (hb':bkOk (sh d s).bk):esSend0 (sh d s) (later d e)=(sh d (esSend0 s e).1,(esSend0 s e).2):=by
 have k:bkTake (sh d s).bk (later d e).bytes=(⟨(bkTake s.bk e.bytes).1.at_+d,(bkTake s.bk e.bytes).1.have_⟩,(bkTake s.bk e.bytes).2):=QkQ hb hb'
 unfold esSend0
 rw [k]
 have e1:(sh d s).win=s.win:=rfl
 have e2:(sh d s).cf=s.cf:=rfl
 have e3:(sh d s).fl=s.fl:=rfl
 have e4:(later d e).bytes=e.bytes:=rfl
 rw [e1,e2,e3,e4]
 dsimp only
 by_cases h1:floE s.win s.cf.seg 65536≠0
 ·simp only [if_pos h1]
 ·simp only [if_neg h1]
  by_cases h2:(flSend s.fl e.bytes (floN s.win s.cf.seg 65536)).2≠0
  ·simp only [if_pos h2]
  ·simp only [if_neg h2]
   by_cases h3:(bkTake s.bk e.bytes).2≠0
   ·simp only [if_pos h3]
   ·simp only [if_neg h3]
    rfl
theorem QxE {d:Int} {s:Es} {e:Ev} (h:mkOk (mkF s.ms) s.ms.length=true) (h':mkOk (mkF (shM d s.ms)) s.ms.length=true) (ht:0≤e.time∧e.time+d≤1099511627776) (hd:0≤d):esTimes (sh d s) (later d e)=(sh d (esTimes s e).1,(esTimes s e).2):=by
 have k:=QCg (w:=10000000) h h' ht hd
 have e1:(sh d s).rtt=s.rtt:=rfl
 have e2:(sh d s).ms=shM d s.ms:=rfl
 have e3:esSlow (sh d s)=esSlow s:=rfl
 have e4:(later d e).rtt=e.rtt:=rfl
 have e5:(later d e).time=e.time+d:=rfl
 have e6:(sh d s).hy=s.hy:=rfl
 unfold esTimes
 rw [e1,e2,e3,e4,e5,e6,QjS,k]
 by_cases h0:e.rtt=0
 ·simp only [if_pos h0]
 ·simp only [if_neg h0]
  by_cases h1:(rttSample s.rtt e.rtt).2≠0
  ·simp only [if_pos h1]
  ·simp only [if_neg h1]
   by_cases h2:putErr (mkF s.ms) s.ms.length 10000000 e.time≠0
   ·simp only [if_pos h2]
   ·simp only [if_neg h2]
    have h2:=Decidable.not_not.1 h2
    rw [QCm h2 (k.trans h2)]
    cases esSlow s
    ·rfl
    ·simp only [cond_true]
     by_cases h3:(hySample s.hy e.rtt).2≠0
     ·simp only [if_pos h3]
     ·simp only [if_neg h3]
      rfl
theorem Qxw (d:Int) (s:Es):esRound (sh d s)=(sh d (esRound s).1,(esRound s).2):=by
 have e1:(sh d s).rd=s.rd:=rfl
 have e2:esRes (sh d s)=esRes s:=rfl
 have e3:esSlow (sh d s)=esSlow s:=rfl
 have e4:(sh d s).fl=s.fl:=rfl
 have e5:(sh d s).hy=s.hy:=rfl
 unfold esRound
 rw [e1,e2,e3,e4,e5]
 dsimp only
 cases (rdAck s.rd (esRes s) s.fl.sent).2.1 && esSlow s
 ·rfl
 ·simp only [cond_true]
  by_cases h3:(hyRound s.hy).2≠0
  ·simp only [if_pos h3]
  ·simp only [if_neg h3]
   rfl
theorem QwJ {d t w:Int} {e:Ep} (ho:e.on=true) (h1:epOk e) (h2:epOk (shEp d e)):cubTarget (shEp d e) (t+d) w=cubTarget e t w:=by
 have k:=Qhl d e
 have ho':(shEp d e).on=true:=by rw [k.1]; exact ho
 unfold cubTarget
 have:cubAt (shEp d e) (t+d)=cubAt e t:=by
  unfold cubAt
  rw [if_pos ⟨ho',h2⟩,if_pos ⟨ho,h1⟩]
  rw [Qfz ho]
  unfold cubLaw
  dsimp only
  rw [show t+d - (e.start+d)=t - e.start by omega]
 rw [this]
 by_cases hw:0≤w
 ·rw [if_pos ⟨hw,ho',h2⟩,if_pos ⟨hw,ho,h1⟩]
 ·rw [if_neg (fun q=>hw q.1),if_neg (fun q=>hw q.1)]
theorem QwX {d:Int} {e:Ep} (h:epOk e) (hd:0≤d) (hs:e.on=true→e.start+d≤1099511627776):epOk (shEp d e):=by
 cases ho:e.on with
 | false=>rw [QjR ho]; exact h
 | true=>
  unfold epOk at h ⊢
  rw [if_pos ho] at h
  obtain ⟨a1,a2⟩:=h
  rw [Qfz ho]
  dsimp only
  rw [if_pos ho]
  have:=hs ho
  unfold epTime at a1 ⊢
  exact ⟨by omega,a2⟩
theorem Qxf {d:Int} {s:Es} {e:Ev} (ht:0≤e.time∧e.time+d≤1099511627776) (hd:0≤d):esCalm0 (sh d s) (later d e)=(sh d (esCalm0 s e).1,(esCalm0 s e).2):=by
 have k:=Qhl d s.ep
 have e1:(sh d s).ep.on=s.ep.on:=k.1
 have e2:epBegin (later d e).time (sh d s).win (sh d s).high=(shEp d (epBegin e.time s.win s.high).1,(epBegin e.time s.win s.high).2):=by
  show epBegin (e.time+d) s.win s.high=_
  have t1:epTime e.time:=by unfold epTime; omega
  have t2:epTime (e.time+d):=by unfold epTime; omega
  unfold epBegin
  by_cases hw:epWin s.win∧epWin s.high
  ·rw [if_pos ⟨t2,hw⟩,if_pos ⟨t1,hw⟩]; rfl
  ·rw [if_neg (fun q=>hw q.2),if_neg (fun q=>hw q.2)]; rfl
 unfold esCalm0
 rw [e1,e2]
 cases s.ep.on
 ·simp only [cond_false]
  by_cases h3:(epBegin e.time s.win s.high).2≠0
  ·simp only [if_pos h3]
  ·simp only [if_neg h3]
   rfl
 ·rfl
theorem Qt3 {d t b:Int} (hd:0≤d∧d≤4294967296) (ht:0≤t∧t≤274877906944) (hb:0≤b∧b≤1073741824):clkAfter (t+d) b=clkAfter t b+d:=by
 unfold clkAfter mn mx
 rw [if_neg (show ¬ 1099511627776 < t+d+b by omega),if_neg (show ¬ 1099511627776 < t+b by omega),if_neg (by omega),if_neg (by omega)]
 omega
theorem Qxh {d n:Int} {s:Es} {e:Ev} (ho:s.ep.on=true) (hep:epOk s.ep) (hs:s.ep.start+d≤1099511627776) (hr:rttCheck s.rtt=true) (hd:0≤d∧d≤4294967296) (ht:0≤e.time∧e.time≤274877906944):esCalm1 (sh d s) (later d e) n=sh d (esCalm1 s e n):=by
 have k:=Qhl d s.ep
 have e1:(sh d s).ep=shEp d s.ep:=rfl
 have e2:(sh d s).win=s.win:=rfl
 have e3:(sh d s).rtt=s.rtt:=rfl
 have e4:(sh d s).cf=s.cf:=rfl
 have e5:(later d e).time=e.time+d:=rfl
 have hm:0≤rttMean s.rtt∧rttMean s.rtt≤1073741824:=by
  rcases (Qcw s.rtt).1 hr with h | h
  ·rw [QeH s.rtt (by omega) (by omega)]; omega
  ·rw [QeH s.rtt (by omega) (by omega)]; omega
 have ea:=Qt3 hd ht hm
 have est:∀ m,epEst (shEp d s.ep) m=shEp d (epEst s.ep m):=fun m=>by
  rw [Qfz ho]
  unfold epEst shEp
  dsimp only
  rw [if_pos ho]
 have hw:∀ a b c e,epOk (epEst s.ep (renoStep a b c e)):=fun a b c e=>Qh8 hep ho (Qjw _ _ _ _)
 unfold esCalm1
 dsimp only
 rw [e1,e2,e3,e4,e5,k.2.2.1,k.2.2.2.2,est,ea]
 rw [QwJ (e:=epEst s.ep (renoStep s.ep.est s.ep.max s.win n)) ho (hw _ _ _ _) (QwX (hw _ _ _ _) hd.1 (fun _=>hs))]
 have k2:=Qhl d (epEst s.ep (renoStep s.ep.est s.ep.max s.win n))
 rw [k2.2.2.2.2]
 rfl
theorem Qxq {d:Int} {s:Es} {e:Ev} (hs:EsOk s) (hn:e.time=s.now) (hst:s.ep.on=true→s.ep.start+d≤1099511627776) (hd:0≤d∧d≤4294967296) (ht:0≤e.time∧e.time≤274877906944):esGrow (sh d s) (later d e)=(sh d (esGrow s e).1,(esGrow s e).2):=by
 have e1:esRecs (sh d s)=esRecs s:=rfl
 have e2:(sh d s).lim=s.lim:=rfl
 have e3:(later d e).bytes=e.bytes:=rfl
 have e4:(sh d s).cf=s.cf:=rfl
 have e5:esSlow (sh d s)=esSlow s:=rfl
 unfold esGrow
 rw [e1,e2,e3,e4,e5]
 cases esRecs s || s.lim
 rotate_left
 ·rfl
 simp only [cond_false]
 by_cases h2:floE e.bytes 65536 s.cf.seg≠0
 ·simp only [if_pos h2]
 simp only [if_neg h2]
 cases esSlow s
 rotate_left
 ·rfl
 simp only [cond_false]
 obtain ⟨c1,c2,c3⟩:=Qgd hs hn
 have c4:=Qxf (d:=d) (s:=s) (e:=e) (by omega) hd.1
 have hst2:(esCalm0 s e).1.ep.start+d≤1099511627776:=by
  unfold esCalm0 at c1 c3 ⊢
  cases ho:s.ep.on with
  | true=>exact hst ho
  | false=>
   rw [ho] at c1 c3
   simp only [cond_false] at c1 c3 ⊢
   by_cases h3:(epBegin e.time s.win s.high).2≠0
   ·simp only [if_pos h3] at c1; exact absurd c1 h3
   ·simp only [if_neg h3]
    have h3:=Decidable.not_not.1 h3
    obtain ⟨q1,q2,q3,_⟩:=Qh7 h3
    have:(epBegin e.time s.win s.high).1.start=e.time:=by unfold epBegin; rw [if_pos ⟨q1,q2,q3⟩]
    omega
 unfold esCalm
 rw [c4]
 dsimp only
 rw [if_neg (fun q=>q c1),if_neg (fun q=>q c1)]
 rw [Qxh c3 c2.ep hst2 c2.rtt hd ht]
theorem QxF (d:Int) (s:Es) (e:Ev):esTold (sh d s) (later d e)=sh d (esTold s e):=rfl
theorem Qm5 (s:Es) (e:Ev):(esTimes s e).1.ep=s.ep:=by unfold esTimes; simp only [Bool.cond_eq_ite]; (repeat' split) <;> rfl
theorem QmZ (s:Es):(esRound s).1.ep=s.ep:=by unfold esRound; simp only [Bool.cond_eq_ite]; (repeat' split) <;> rfl
theorem Qw5 {d:Int} {s:Es} {e:Ev} (hs:EsOk s) (hm:mkOk (mkF (shM d s.ms)) s.ms.length=true) (hn:e.time=s.now) (hst:s.ep.on=true→s.ep.start+d≤1099511627776) (hd:0≤d∧d≤4294967296) (ht:0≤e.time∧e.time≤274877906944):(esAck (sh d s) (later d e)).2=(esAck s e).2∧((esAck s e).2=0→(esAck (sh d s) (later d e)).1=sh d (esAck s e).1):=by
 have e1:(sh d s).fl=s.fl:=rfl
 have e3:(later d e).bytes=e.bytes:=rfl
 unfold esAck
 rw [e1,e3]
 by_cases h1:(flBack s.fl e.bytes e.bytes).2≠0
 ·simp only [if_pos h1]; exact ⟨by trivial,by first | trivial | exact fun q=>absurd q h1⟩
 simp only [if_neg h1]
 rw [QxF,QxE (s:=esTold s e) hs.mo hm (by omega) hd.1]
 dsimp only
 have h2:=Qie hs (Decidable.not_not.1 h1)
 by_cases h3:(esTimes (esTold s e) e).2≠0
 ·simp only [if_pos h3]; exact ⟨by trivial,by first | trivial | exact fun q=>absurd q h3⟩
 simp only [if_neg h3]
 rw [Qxw]
 dsimp only
 have n2:e.time=(esTold s e).now:=hn
 have h4:=Qid h2 n2 (Decidable.not_not.1 h3)
 have n4:=Qic (esTold s e) e
 by_cases h5:(esRound (esTimes (esTold s e) e).1).2≠0
 ·simp only [if_pos h5]; exact ⟨by trivial,by first | trivial | exact fun q=>absurd q h5⟩
 simp only [if_neg h5]
 have h6:=Qib h4 (Decidable.not_not.1 h5)
 have n6:=Qm3 (esTimes (esTold s e) e).1
 have hst2:(esRound (esTimes (esTold s e) e).1).1.ep.on=true→(esRound (esTimes (esTold s e) e).1).1.ep.start+d≤1099511627776:=by
  rw [QmZ,Qm5]
  exact hst
 rw [Qxq h6 (by rw [n6,n4]; exact n2) hst2 hd ht]
 exact ⟨by trivial,by first | trivial | exact fun _=>rfl⟩
theorem QmR (d:Int) (s:Es):esCut (sh d s)=sh d (esCut s):=by
 have e1:esRecs (sh d s)=esRecs s:=rfl
 unfold esCut
 rw [e1]
 cases esRecs s <;> rfl
theorem Qxs (d:Int) (s:Es):esLate (sh d s)=(sh d (esLate s).1,(esLate s).2):=by
 have e1:(sh d s).fl=s.fl:=rfl
 unfold esLate
 rw [e1]
 by_cases h1:s.fl.out=0
 ·simp only [if_pos h1]
 simp only [if_neg h1]
 by_cases h2:(flBack s.fl s.fl.out 0).2≠0
 ·simp only [if_pos h2]
 simp only [if_neg h2]
 rfl
theorem Qxe {d:Int} {s:Es} {e:Ev} (hs:EsOk s) (hs':EsOk (sh d s)) (hn:e.time=s.now) (hst:s.ep.on=true→s.ep.start≤s.last+274877906944) (hd:0≤d∧d≤4294967296) (ht:0≤e.time∧e.time≤274877906944):(esBy (sh d s) (later d e)).2=(esBy s e).2∧((esBy s e).2=0→(esBy (sh d s) (later d e)).1=sh d (esBy s e).1):=by
 have hl:=hs.last
 have hep:s.ep.on=true→0≤s.ep.start:=fun q=>by
  have:=hs.ep
  unfold epOk at this
  rw [if_pos q] at this
  exact this.1.1
 have hst1:s.ep.on=true→s.ep.start+d≤1099511627776:=fun q=>by have:=hst q; omega
 have e3:(later d e).kind=e.kind:=rfl
 unfold esBy
 rw [e3]
 by_cases k6:e.kind=6
 ·simp only [if_pos k6]
  have hw:=QxG (d:=d) (s:=s) (e:=e) hd.1 ⟨by omega,ht.2,hl.1⟩ (fun q=>⟨hep q,hst q⟩) hd.2
  unfold esSend
  rw [hw]
  have hb:(esWake s e).bk=s.bk:=(Qif s e).2.2
  rw [Qxy (by rw [hb]; exact hs.bk) (by
   have:(sh d (esWake s e)).bk=(sh d s).bk:=by show (⟨(esWake s e).bk.at_+d,(esWake s e).bk.have_⟩:Bk)=_; rw [hb]; rfl
   rw [this]; exact hs'.bk)]
  exact ⟨by trivial,by first | trivial | exact fun _=>rfl⟩
 simp only [if_neg k6]
 by_cases k1:e.kind=1
 ·simp only [if_pos k1]
  exact Qw5 hs (by have:=hs'.mo; rw [show (sh d s).ms=shM d s.ms from rfl,QjS] at this; exact this) hn hst1 hd ht
 simp only [if_neg k1]
 by_cases k2:e.kind=2
 ·simp only [if_pos k2]
  unfold esLose
  rw [show (sh d s).fl=s.fl from rfl,show (later d e).bytes=e.bytes from rfl]
  by_cases h1:(flBack s.fl e.bytes 0).2≠0
  ·rw [if_pos h1,if_pos h1]; exact ⟨by trivial,by first | trivial | exact fun _=>rfl⟩
  ·rw [if_neg h1,if_neg h1]
   exact ⟨by trivial,fun _=>QmR d { s with fl:=(flBack s.fl e.bytes 0).1 }⟩
 simp only [if_neg k2]
 by_cases k3:e.kind=3
 ·simp only [if_pos k3]
  exact ⟨by trivial,fun _=>QmR d s⟩
 simp only [if_neg k3]
 by_cases k4:e.kind=4
 ·simp only [if_pos k4]
  rw [Qxs]; exact ⟨by trivial,by first | trivial | exact fun _=>rfl⟩
 simp only [if_neg k4]
 by_cases k5:e.kind=5
 ·simp only [if_pos k5]
  exact ⟨by trivial,by first | trivial | exact fun _=>rfl⟩
 simp only [if_neg k5]
 exact ⟨by trivial,by first | trivial | exact fun _=>rfl⟩
end Go.Proofs.YtkokohkbhlnjkaaGreatDoor
namespace Go.Proofs.YtkokohkbhlnjkaaGreatDoor
set_option linter.unusedVariables false
set_option linter.unusedSimpArgs false
open Go Go.RowKit Go.Proofs.YtkokohkbhlnjkaaGreatDoor.R
set_option maxRecDepth 50000
set_option maxHeartbeats 8000000
def Lo (s:Es):Prop:=s.ep.on=true→s.ep.start≤s.last+274877906944
theorem QmO {s:Es} (h:Lo s):Lo (esCut s):=by
 unfold esCut
 cases esRecs s
 ·intro q; cases q
 ·exact h
theorem Qxz {s:Es} {e:Ev} (h:(esSend s e).2=0):(esSend s e).1.ep=(esWake s e).ep:=by
 unfold esSend at h ⊢
 generalize esWake s e=t at *
 unfold esSend0 at h ⊢
 (repeat' split) <;> rfl
theorem Qxn {s:Es} {e:Ev} (h:Lo s) (hl:0≤s.last) (ht:e.time≤274877906944):Lo (esGrow s e).1:=by
 have h0:Lo (esCalm0 s e).1∧(esCalm0 s e).1.last=s.last:=by
  unfold esCalm0
  cases s.ep.on
  ·simp only [cond_false]
   by_cases h3:(epBegin e.time s.win s.high).2≠0
   ·rw [if_pos h3]; exact ⟨h,rfl⟩
   ·rw [if_neg h3]
    refine ⟨fun _=>?_,rfl⟩
    obtain ⟨q1,q2,q3,_⟩:=Qh7 (Decidable.not_not.1 h3)
    have:(epBegin e.time s.win s.high).1.start=e.time:=by unfold epBegin; rw [if_pos ⟨q1,q2,q3⟩]
    show (epBegin e.time s.win s.high).1.start≤s.last+274877906944
    omega
  ·exact ⟨h,rfl⟩
 have h1:∀ n,Lo (esCalm s e n).1:=fun n=>by
  unfold esCalm
  split
  ·exact h0.1
  ·exact h0.1
 unfold esGrow
 simp only [Bool.cond_eq_ite]
 (repeat' split) <;> first | exact h | exact h1 _
theorem Qm8 (s:Es) (e:Ev):(esTimes s e).1.last=s.last:=by unfold esTimes; simp only [Bool.cond_eq_ite]; (repeat' split) <;> rfl
theorem Qm2 (s:Es):(esRound s).1.last=s.last:=by unfold esRound; simp only [Bool.cond_eq_ite]; (repeat' split) <;> rfl
theorem Qw9 {s:Es} {e:Ev} (h:Lo s) (hl:0≤s.last∧s.last≤e.time) (ht:e.time≤274877906944) (hp:s.ep.on=true→0≤s.ep.start) (k:(esBy s e).2=0):Lo (esBy s e).1:=by
 unfold esBy at k ⊢
 by_cases k6:e.kind=6
 ·simp only [if_pos k6] at k ⊢
  unfold Lo
  obtain ⟨r,_,_,_,_,_,_,_,hlast⟩:=Qm4 k
  rw [Qxz k,hlast]
  intro ho
  unfold esWake at ho ⊢
  by_cases h0:s.fl.out=0
  ·simp only [if_pos h0] at ho ⊢
   unfold epShift at ho ⊢
   by_cases h1:s.ep.on=true∧0 < sat (e.time - s.last)
   ·rw [if_pos h1]
    have:=h h1.1
    have:=hp h1.1
    dsimp only
    rw [Qcd (n:=e.time - s.last) (by unfold in64; omega),Qcd (by unfold in64; omega)]
    unfold mn
    split <;> omega
   ·rw [if_neg h1] at ho ⊢
    have:=h ho
    omega
  ·simp only [if_neg h0] at ho ⊢
   have:=h ho
   omega
 simp only [if_neg k6] at k ⊢
 by_cases k1:e.kind=1
 ·simp only [if_pos k1] at k ⊢
  unfold esAck
  (repeat' split) <;> first | exact h | skip
  refine Qxn ?_ ?_ ht
  ·unfold Lo
   rw [QmZ,Qm5,Qm2,Qm8]
   exact h
  ·rw [Qm2,Qm8]; exact hl.1
 simp only [if_neg k1] at k ⊢
 by_cases k2:e.kind=2
 ·simp only [if_pos k2] at k ⊢
  unfold esLose
  split
  ·exact h
  ·exact QmO (s:={ s with fl:=(flBack s.fl e.bytes 0).1 }) h
 simp only [if_neg k2] at k ⊢
 by_cases k3:e.kind=3
 ·simp only [if_pos k3]; exact QmO h
 simp only [if_neg k3] at k ⊢
 by_cases k4:e.kind=4
 ·simp only [if_pos k4]
  unfold esLate
  (repeat' split) <;> first | exact h|(intro q; cases q)
 simp only [if_neg k4] at k ⊢
 split <;> exact h
theorem QmS {s:Es} {e:Ev} (h:EsOk s) (ht:0≤e.time∧e.time≤1099511627776):esDo s e=if evCheck e.kind e.time e.bytes e.rtt≠0 then (s,evCheck e.kind e.time e.bytes e.rtt) else if e.time < s.now then (s,50) else if (esBy (esAt s e.time) e).2≠0 then (s,(esBy (esAt s e.time) e).2) else esBy (esAt s e.time) e:=by
 have h0:=(Qcj s).2 h
 by_cases h1:evCheck e.kind e.time e.bytes e.rtt=0
 ·rw [if_neg (fun q=>q h1)]
  by_cases h2:e.time < s.now
  ·rw [if_pos h2]
   have hk:clkStep s.now e.time=(s.now,50):=by
    unfold clkStep clkCheck
    rw [decide_eq_true ht.1,decide_eq_true ht.2,decide_eq_true h2]
    rfl
   unfold esDo
   rw [h0,hk]
   simp [h1]
  ·rw [if_neg h2]
   exact (Qia h h1 (by omega) ht.2).2
 ·rw [if_pos h1]
  unfold esDo
  rw [h0]
  simp [h1]
theorem Qnb {d k t b r:Int} (hd:0≤d∧t+d≤1099511627776) (ht:0≤t):evCheck k (t+d) b r=evCheck k t b r:=by
 unfold evCheck clkCheck
 rw [decide_eq_true ht,decide_eq_true (show t≤1099511627776 by omega),decide_eq_true (show 0≤t+d by omega),decide_eq_true hd.2]
structure ShA (d:Int) (s s':Es):Prop where
 eq:s'={ s with now:=s'.now,bk:=⟨s'.bk.at_,s.bk.have_⟩ }
 now:(s.now=0∧s'.now=0∧s.bk.at_=0∧s'.bk.at_=0)∨(s'.now=s.now+d∧s'.bk.at_=s.bk.at_+d)
 out:s.fl.out=0
 last:s.last=0
 ms:s.ms=[]
 ep:s.ep=Ep.zero
 win:s.win≤cfFirst s.cf
 full:bkTaken (s.cf.burst * s.cf.seg) * 1000000≤s.bk.have_
inductive ShR (d:Int) (s s':Es):Prop
 | a (h:ShA d s s')
 | b (h:s'=sh d s) (l:Lo s)
theorem QnD {f:Fl} {n t:Int} (h:f.out=0):(flBack f n t).2≠0:=by
 unfold flBack
 by_cases h1:¬ (flOk f∧1≤n)
 ·rw [if_pos h1]; exact (by decide:(201:Int)≠0)
 ·rw [if_neg h1]
  have:=Decidable.not_not.1 h1
  rw [if_pos (by omega)]; exact (by decide:(202:Int)≠0)
theorem QmL {s:Es} {t:Int} (h:EsOk s) (h1:s.now≤t) (h2:t≤1099511627776) (hf:bkTaken (s.cf.burst * s.cf.seg) * 1000000≤s.bk.have_):esAt s t={ s with now:=t,bk:=⟨t,s.bk.have_⟩ }:=by
 have hn:=h.now
 have ha:=h.bkAt
 have:(esFill s t).1=⟨t,s.bk.have_⟩:=by
  unfold esFill bkFill
  rw [if_neg (fun q=>q h.bk),if_neg (show ¬ ¬ (0≤t∧t≤1099511627776) by omega),if_neg (show ¬ t < s.bk.at_ by omega)]
  dsimp only
  rw [if_neg (by omega)]
 unfold esAt
 rw [this]
theorem Qm9 {s:Es} {e:Ev} (hw:131072≤s.win) (hf:s.win≤cfFirst s.cf) (he:s.ep=Ep.zero):esWake s e=s:=by
 unfold esWake
 by_cases h:s.fl.out=0
 ·rw [if_pos h]
  have e1:idleOf s.win s.last e.time (esRto s) s.cf=s.win:=by
   unfold idleOf mx mn
   (repeat' split) <;> omega
  have e2:epShift s.ep (sat (e.time - s.last))=s.ep:=by rw [he]; rfl
  rw [e1,e2]
 ·rw [if_neg h]
theorem QFt {d t:Int} {s:Es} {e:Ev} (hs:EsOk { s with now:=t,bk:=⟨t,s.bk.have_⟩ }) (hs':EsOk { s with now:=t+d,bk:=⟨t+d,s.bk.have_⟩ }) (hout:s.fl.out=0) (hlast:s.last=0) (hms:s.ms=[]) (hep:s.ep=Ep.zero) (hwin:s.win≤cfFirst s.cf) (hfull:bkTaken (s.cf.burst * s.cf.seg) * 1000000≤s.bk.have_) (ht:e.time=t) :
  (esBy { s with now:=t+d,bk:=⟨t+d,s.bk.have_⟩ } (later d e)).2=(esBy { s with now:=t,bk:=⟨t,s.bk.have_⟩ } e).2 ∧
  ((esBy { s with now:=t,bk:=⟨t,s.bk.have_⟩ } e).2=0→ShR d (esBy { s with now:=t,bk:=⟨t,s.bk.have_⟩ } e).1 (esBy { s with now:=t+d,bk:=⟨t+d,s.bk.have_⟩ } (later d e)).1):=by
 have e3:(later d e).kind=e.kind:=rfl
 unfold esBy
 rw [e3]
 by_cases k6:e.kind=6
 ·simp only [if_pos k6]
  unfold esSend
  rw [Qm9 hs.win.1 hwin hep,Qm9 hs'.win.1 hwin hep]
  have k:bkTake ⟨t+d,s.bk.have_⟩ e.bytes=(⟨(bkTake ⟨t,s.bk.have_⟩ e.bytes).1.at_+d,(bkTake ⟨t,s.bk.have_⟩ e.bytes).1.have_⟩,(bkTake ⟨t,s.bk.have_⟩ e.bytes).2):=QkQ (b:=⟨t,s.bk.have_⟩) hs.bk hs'.bk
  unfold esSend0
  dsimp only
  rw [show (later d e).bytes=e.bytes from rfl,show (later d e).time=e.time+d from rfl,k]
  dsimp only
  by_cases h1:floE s.win s.cf.seg 65536≠0
  ·simp only [if_pos h1]; exact ⟨by trivial,by first | trivial | exact fun q=>absurd q h1⟩
  simp only [if_neg h1]
  by_cases h2:(flSend s.fl e.bytes (floN s.win s.cf.seg 65536)).2≠0
  ·simp only [if_pos h2]; exact ⟨by trivial,by first | trivial | exact fun q=>absurd q h2⟩
  simp only [if_neg h2]
  by_cases h3:(bkTake ⟨t,s.bk.have_⟩ e.bytes).2≠0
  ·simp only [if_pos h3]; exact ⟨by trivial,by first | trivial | exact fun q=>absurd q h3⟩
  simp only [if_neg h3]
  refine ⟨by trivial,fun _=>.b ?_ ?_⟩
  ·unfold sh
   dsimp only
   rw [hms,hep]
   rfl
  ·unfold Lo
   dsimp only
   rw [hep]
   intro q; cases q
 simp only [if_neg k6]
 by_cases k1:e.kind=1
 ·simp only [if_pos k1]
  unfold esAck
  dsimp only
  have h1:=QnD (n:=e.bytes) (t:=e.bytes) hout
  simp only [if_pos h1,show (later d e).bytes=e.bytes from rfl]
  exact ⟨by trivial,by first | trivial | exact fun q=>absurd q h1⟩
 simp only [if_neg k1]
 by_cases k2:e.kind=2
 ·simp only [if_pos k2]
  unfold esLose
  dsimp only
  have h1:=QnD (n:=e.bytes) (t:=0) hout
  simp only [if_pos h1,show (later d e).bytes=e.bytes from rfl]
  exact ⟨by trivial,by first | trivial | exact fun q=>absurd q h1⟩
 simp only [if_neg k2]
 have hA:ShA d { s with now:=t,bk:=⟨t,s.bk.have_⟩ } { s with now:=t+d,bk:=⟨t+d,s.bk.have_⟩ }:=⟨rfl,.inr ⟨rfl,rfl⟩,hout,hlast,hms,hep,hwin,hfull⟩
 by_cases k3:e.kind=3
 ·simp only [if_pos k3]
  refine ⟨by trivial,fun _=>.a ?_⟩
  unfold esCut
  rw [show esRecs { s with now:=t+d,bk:=⟨t+d,s.bk.have_⟩ }=esRecs { s with now:=t,bk:=⟨t,s.bk.have_⟩ } from rfl]
  cases esRecs { s with now:=t,bk:=⟨t,s.bk.have_⟩ }
  ·refine ⟨rfl,.inr ⟨rfl,rfl⟩,hout,hlast,hms,rfl,?_,hfull⟩
   show cutLeast s.win≤cfFirst s.cf
   have h1:=hs.win
   have h2:=hs.cf.max
   dsimp only at h1 h2
   have:=Qmr (n:=s.win) (by omega)
   omega
  ·exact hA
 simp only [if_neg k3]
 by_cases k4:e.kind=4
 ·simp only [if_pos k4]
  unfold esLate
  dsimp only
  simp only [if_pos hout]
  exact ⟨by trivial,by first | trivial | exact fun q=>absurd q (by decide)⟩
 simp only [if_neg k4]
 by_cases k5:e.kind=5
 ·simp only [if_pos k5]
  exact ⟨by trivial,fun _=>.a ⟨rfl,.inr ⟨rfl,rfl⟩,hout,hlast,hms,hep,hwin,hfull⟩⟩
 simp only [if_neg k5]
 exact ⟨by trivial,fun _=>.a hA⟩
theorem QFu {d:Int} {s s':Es} {e:Ev} (h:ShR d s s') (hs:EsOk s) (hs':EsOk s') (hd:0≤d∧d≤4294967296) (ht:0≤e.time∧e.time≤274877906944):(esDo s' (later d e)).2=(esDo s e).2∧ShR d (esDo s e).1 (esDo s' (later d e)).1:=by
 have e1:evCheck (later d e).kind (later d e).time (later d e).bytes (later d e).rtt=evCheck e.kind e.time e.bytes e.rtt:=Qnb ⟨hd.1,by omega⟩ ht.1
 rw [QmS hs (by omega),QmS (e:=later d e) hs' (by show 0≤e.time+d∧e.time+d≤_; omega),e1]
 by_cases h1:evCheck e.kind e.time e.bytes e.rtt≠0
 ·simp only [if_pos h1]; exact ⟨by trivial,h⟩
 simp only [if_neg h1]
 have hn:=hs.now
 have hn':=hs'.now
 have hts:(later d e).time=e.time+d:=rfl
 by_cases h2:e.time < s.now
 ·have h2':(later d e).time < s'.now:=by
   rw [hts]
   cases h with
   | a h=>have:=h.now; omega
   | b h l=>subst h; show e.time+d < s.now+d; omega
  simp only [if_pos h2,if_pos h2']
  exact ⟨by trivial,h⟩
 have h2':¬ (later d e).time < s'.now:=by
  rw [hts]
  cases h with
  | a h=>have:=h.now; omega
  | b h l=>subst h; show ¬ e.time+d < s.now+d; omega
 simp only [if_neg h2,if_neg h2']
 have o1:=(Qe4 hs (t:=e.time) (by omega) (by omega)).2
 have o2:=(Qe4 hs' (t:=e.time+d) (by omega) (by omega)).2
 have key:(esBy (esAt s' (later d e).time) (later d e)).2=(esBy (esAt s e.time) e).2∧((esBy (esAt s e.time) e).2=0→ShR d (esBy (esAt s e.time) e).1 (esBy (esAt s' (later d e).time) (later d e)).1):=by
  rw [hts]
  cases h with
  | a h=>
   have hf':bkTaken (s'.cf.burst * s'.cf.seg) * 1000000≤s'.bk.have_:=by
    rw [h.eq]; exact h.full
   have q1:=QmL hs (t:=e.time) (by omega) (by omega) h.full
   have q2:=QmL hs' (t:=e.time+d) (by omega) (by omega) hf'
   have q3:({ s' with now:=e.time+d,bk:=⟨e.time+d,s'.bk.have_⟩ }:Es)={ s with now:=e.time+d,bk:=⟨e.time+d,s.bk.have_⟩ }:=by
    rw [h.eq]
   rw [q3] at q2
   rw [q1] at o1
   rw [q2] at o2
   rw [q1,q2]
   exact QFt o1 o2 h.out h.last h.ms h.ep h.win h.full rfl
  | b h l=>
   subst h
   have hat:=hs.bkAt
   have q:=Qw7 (d:=d) (s:=s) (t:=e.time) hs.bk hs'.bk (by omega) hd.1 (by omega)
   rw [q] at o2 ⊢
   have hla:=hs.last
   have lo1:Lo (esAt s e.time):=l
   obtain ⟨g1,g2⟩:=Qxe (d:=d) (e:=e) o1 o2 rfl lo1 hd ht
   refine ⟨g1,fun q0=>.b (g2 q0) (Qw9 lo1 ⟨hla.1,by show s.last≤e.time; omega⟩ ht.2 (fun ho=>?_) q0)⟩
   have:=o1.ep
   unfold epOk at this
   rw [if_pos ho] at this
   exact this.1.1
 obtain ⟨g1,g2⟩:=key
 rw [g1]
 by_cases h3:(esBy (esAt s e.time) e).2≠0
 ·simp only [if_pos h3]; exact ⟨by trivial,h⟩
 ·simp only [if_neg h3]
  exact ⟨g1,g2 (Decidable.not_not.1 h3)⟩
theorem QFw {d:Int} {s s':Es} (h:ShR d s s') (hs:EsOk s) (hs':EsOk s') (n:Int):noteOf (s',n)=noteOf (s,n):=by
 unfold noteOf
 rw [Qfi hs,Qfi hs']
 cases h with
 | a h=>rw [h.eq]; rfl
 | b h l=>subst h; rfl
structure Shift (d:Int) (r r':Raw):Prop where
 len:r'.len=r.len
 same:∀ j,j < r.len→j≠1→r'.zs j=r.zs j
 time:1 < r.len→0≤r.zs 1∧r.zs 1≤274877906944∧r'.zs 1=r.zs 1+d
theorem QxI {d:Int} {r r':Raw} (hd:0≤d∧d≤4294967296) (h:Shift d r r') :
  (∃ e,rawEv r=(e,0)∧rawEv r'=(later d e,0)∧0≤e.time∧e.time≤274877906944)∨(∃ e,e≠0∧rawEv r=(⟨0,0,0,0⟩,e)∧rawEv r'=(⟨0,0,0,0⟩,e)):=by
 unfold rawEv
 rw [h.len]
 by_cases h4:r.len=4
 ·obtain ⟨t1,t2,t3⟩:=h.time (by omega)
  have e0:=h.same 0 (by omega) (by decide)
  have e2:=h.same 2 (by omega) (by decide)
  have e3:=h.same 3 (by omega) (by decide)
  have hc:evCheck (r'.zs 0) (r'.zs 1) (r'.zs 2) (r'.zs 3)=evCheck (r.zs 0) (r.zs 1) (r.zs 2) (r.zs 3):=by
   rw [e0,e2,e3,t3]
   exact Qnb ⟨hd.1,by omega⟩ t1
  unfold evDec
  rw [if_pos h4,if_pos h4,hc]
  by_cases hz:evCheck (r.zs 0) (r.zs 1) (r.zs 2) (r.zs 3)=0
  ·rw [if_pos hz,if_pos hz]
   exact .inl ⟨_,rfl,by rw [e0,e2,e3,t3]; rfl,t1,t2⟩
  ·rw [if_neg hz,if_neg hz]
   exact .inr ⟨_,hz,rfl,rfl⟩
 ·unfold evDec
  rw [if_neg h4,if_neg h4]
  exact .inr ⟨201,by decide,rfl,rfl⟩
theorem QFx {d:Int} {s s':Es} {r r':Raw} (h:ShR d s s') (hs:EsOk s) (hs':EsOk s') (hd:0≤d∧d≤4294967296) (hr:Shift d r r'):(playStep s' r').2=(playStep s r).2∧ShR d (playStep s r).1 (playStep s' r').1:=by
 rcases QxI hd hr with ⟨e,d1,d2,t1,t2⟩ | ⟨e,he,d1,d2⟩
 ·unfold playStep
  rw [d1,d2]
  dsimp only
  rw [if_pos rfl,if_pos rfl]
  exact QFu h hs hs' hd ⟨t1,t2⟩
 ·unfold playStep
  rw [d1,d2]
  dsimp only
  rw [if_neg he,if_neg he]
  exact ⟨by trivial,h⟩
theorem QFv {d:Int} {c:Cf} (h:c.ok=true):ShR d (esNew c).1 (esNew c).1:=by
 have hc:CfIn c:=(c.ok_iff).1 h
 have hf:cfFirst c=c.first * 65536:=if_pos hc
 have e:(esNew c).1=⟨c,0,0,cfFirst c,68719476736,0,⟨0,0,0⟩,⟨false,0,0⟩,[],⟨0,0⟩,⟨0,0,0,false,false,0,0⟩,Ep.zero,0,0,⟨0,c.burst * c.seg * 1000000⟩,false⟩:=by unfold esNew; rw [h]; rfl
 rw [e]
 refine .a ⟨rfl,.inl ⟨rfl,rfl,rfl,rfl⟩,rfl,rfl,rfl,rfl,Int.le_refl _,?_⟩
 obtain ⟨⟨a1,a2⟩,_,_,_,_,_,⟨g1,g2⟩⟩:=hc
 have h2:1 * 1≤c.burst * c.seg:=Int.mul_le_mul g1 a1 (by omega) (by omega)
 dsimp only
 have:bkTaken (c.burst * c.seg)≤c.burst * c.seg:=by unfold bkTaken mn; (repeat' split) <;> omega
 omega
theorem QsA {d:Int} {c:Cf} {rs ls:Nat→Raw} (hd:0≤d∧d≤4294967296) (h:c.ok=true):∀ i,(∀ j,j < i→Shift d (rs j) (ls j))→ShR d (playUp (esNew c).1 rs i).1 (playUp (esNew c).1 ls i).1∧(playUp (esNew c).1 ls i).2.map noteOf=(playUp (esNew c).1 rs i).2.map noteOf
 | 0,_=>⟨QFv h,rfl⟩
 | i+1,hj=>by
  obtain ⟨h1,h2⟩:=QsA hd h i fun j q=>hj j (by omega)
  have p:=(PIn.up (PIn.new h) rs i).ok
  have p':=(PIn.up (PIn.new h) ls i).ok
  have p1:=(PIn.up (PIn.new h) rs (i+1)).ok
  have p1':=(PIn.up (PIn.new h) ls (i+1)).ok
  rw [playUp] at p1 p1'
  obtain ⟨g1,g2⟩:=QFx h1 p p' hd (hj i (by omega))
  rw [playUp,playUp]
  dsimp only at p1 p1' ⊢
  refine ⟨g2,?_⟩
  rw [List.map_append,List.map_append,h2]
  have:=QFw g2 p1 p1' (playStep (playUp (esNew c).1 rs i).1 (rs i)).2
  simp only [List.map_cons,List.map_nil]
  have e:playStep (playUp (esNew c).1 ls i).1 (ls i)=((playStep (playUp (esNew c).1 ls i).1 (ls i)).1,(playStep (playUp (esNew c).1 rs i).1 (rs i)).2):=by rw [←g1]
  rw [e,this]
theorem QBG {d:Int} {c:Cf} {rs ls:Nat→Raw} {n:Nat} (hd:0≤d∧d≤4294967296) (hj:∀ j,j < n→Shift d (rs j) (ls j)):plNotes c ls n=plNotes c rs n:=by
 unfold plNotes
 by_cases h:c.ok=true
 ·rw [if_pos h,if_pos h,(QsA hd h n hj).2]
 ·rw [if_neg h,if_neg h]
end Go.Proofs.YtkokohkbhlnjkaaGreatDoor
namespace Go.Proofs.YtkokohkbhlnjkaaGreatDoor
set_option linter.unusedVariables false
set_option linter.unusedSimpArgs false
open Go Go.RowKit Go.Proofs.YtkokohkbhlnjkaaGreatDoor.R
set_option maxRecDepth 50000
set_option maxHeartbeats 8000000
inductive ShS where
 | start
 | own (i cg:Nat) (row:List RV) (X:Nat→Obj→Prop) (ls:Nat→Raw)
def lsSt (c:Cf) (rest:List (Nat×RV)) (x:Nat→Obj→Prop):ShS→St
 | .start=>⟨(8,.ext (.slice none 0 0)) :: (9,.ext (.int .i64 0)) :: (3,.ptr 0 0) :: rest,[.cells 23 (cfCells c)],x⟩
 | .own i cg row X _=>⟨(8,.sl 1 0 i cg) :: (3,.ptr 0 0) :: (9,.ext (.int .i64 i)) :: rest,[.cells 23 (cfCells c),.cells 28 row],X⟩
def lsJ (d:Int) (rs:Nat→Raw) (len:Nat) (x:Nat→Obj→Prop):ShS→Prop
 | .start=>True
 | .own i cg row X ls=>i≤len∧xsub x X∧RowIs row 1 i cg ((List.range i).map fun j=>rawV (ls j))∧∀ j,j < i→Ints X (ls j).a (ls j).len (ls j).zs∧Shift d (rs j) (ls j)
def lsM (len:Nat):ShS→Nat
 | .start=>len+1
 | .own i _ _ _ _=>len - i
def copyZ (d:Int) (r:Raw) (l:Nat):Int:=if l=1∧1 < r.len then r.zs 1+d else r.zs l
theorem QGo {d:Int} {r:Raw} (h:1 < r.len→0≤r.zs 1∧r.zs 1≤274877906944) {a:Option Addr} {c:Nat}:Shift d r ⟨a,r.len,c,copyZ d r⟩:=
 ⟨rfl,fun j hj hne=>if_neg fun q=>hne q.1,fun hl=>⟨(h hl).1,(h hl).2,if_pos ⟨rfl,hl⟩⟩⟩
theorem Qkx {P:Program} {S:St} {ts:Array TypeId} {e bytes m b off c j:Nat} {zs:List Value} {l:List Value} {K:RV→St→Prop} (hs:appS P ts=some (e,zs,bytes)) (hm:0 < m) (hmx:m≤maxLen∧m * bytes≤140737488355328)
  (hl:l.length=m * zs.length) (hx:∀ i u,l[i]? = some u→u.oneCell'=true∧∃ c T f,S.x b (.cells c T f)∧c[off+i]? = some u) (hj:nthX S.m j=some (.cells e []))
  (hgrow:∀ cap',m≤cap'→cap'≤maxLen→K (.sl S.m.length 0 m cap') ⟨S.t,S.m ++ [.cells e (l.map .ext ++ zrow zs (cap' - m))],S.x⟩) :
  appW P S ts (.sl j 0 0 0) (.ext (.slice (some ⟨b,off,none⟩) m c)) K:=by
 refine Qkw hs (by rw [Nat.zero_add]; exact hmx) hl hx hj (by simp) (by omega) fun cap' h1 h2=>?_
 have:=hgrow cap' (by omega) h2
 rw [Nat.zero_add,Nat.zero_mul,List.take_zero,List.nil_append]
 exact this
theorem Qo6 {x:Nat→Obj→Prop} {b off n:Nat} {zs:Nat→Int} (h:Ints x (some ⟨b,off,none⟩) n zs) (i:Nat) (u:Value) (hu:((List.range n).map fun j=>Value.int .i64 (zs j))[i]? = some u) :
  u.oneCell'=true∧∃ c T f,x b (.cells c T f)∧c[off+i]? = some u:=by
 rw [List.getElem?_map] at hu
 by_cases hi:i < n
 ·rw [List.getElem?_range hi,Option.map_some,Option.some.injEq] at hu
  subst hu
  obtain ⟨_,b',off',c,T,f,e1,e2,e3⟩:=h i hi
  simp only [Option.some.injEq,Addr.mk.injEq,and_true] at e1
  obtain ⟨rfl,rfl⟩:=e1
  exact ⟨rfl,c,T,f,e2,by simpa [loadX] using e3⟩
 ·rw [List.getElem?_eq_none (by simp; omega)] at hu
  cases hu
structure Copy (E:List RV) (n cap:Nat) (zs:Nat→Int):Prop where
 get:∀ l,l < n→E[l]? = some (.ext (.int .i64 (zs l)))
 ext:∀ v∈E,∃ u,v=.ext u
 len:E.length=cap
 le:n≤cap
theorem Qmo {n cap:Nat} {zs:Nat→Int} (h:n≤cap):Copy (((List.range n).map fun j=>Value.int .i64 (zs j)).map .ext ++ zrow [.int .i64 0] (cap - n)) n cap zs:=by
 refine ⟨fun l hl=>?_,fun v hv=>?_,?_,h⟩
 ·rw [List.getElem?_append_left (by simpa using hl)]
  simp [hl]
 ·rcases List.mem_append.1 hv with hv | hv
  ·obtain ⟨u,_,rfl⟩:=List.mem_map.1 hv
   exact ⟨u,rfl⟩
  ·exact QbG _ _ v hv
 ·rw [List.length_append,Qki]
  simp
  omega
theorem Copy.put {E:List RV} {n cap:Nat} {zs:Nat→Int} {z:Int} (h:Copy E n cap zs) (hn:1 < n):putX 1 E [.ext (.int .i64 z)]=some (E.set 1 (.ext (.int .i64 z)))∧Copy (E.set 1 (.ext (.int .i64 z))) n cap (fun l=>if l=1 then z else zs l):=by
 have hl:1 < E.length:=by have:=h.len; have:=h.le; omega
 refine ⟨Qrw 1 E hl,fun l hl'=>?_,fun v hv=>?_,by rw [List.length_set]; exact h.len,h.le⟩
 ·rw [List.getElem?_set]
  by_cases e:l=1
  ·subst e; simp [hl]
  ·rw [if_neg (fun q=>e q.symm),if_neg e]
   exact h.get l hl'
 ·rcases List.mem_or_eq_of_mem_set hv with hv | rfl
  ·exact h.ext v hv
  ·exact ⟨_,rfl⟩
theorem Copy.ints {E:List RV} {n cap:Nat} {zs:Nat→Int} (h:Copy E n cap zs) {x:Nat→Obj→Prop} {s:Nat→Nat} {b T:Nat} (hw:∀ l,l < n→(Lit.int .i64 (zs l)).wf=true) (hx:x b (renO s (.cells T E))):Ints x (some ⟨b,0,none⟩) n zs:=fun l hl=>by
 refine ⟨hw l hl,b,0,_,_,_,rfl,hx,?_⟩
 have:=h.get l hl
 simp only [loadX,Int.toNat_natCast,Nat.zero_add,Nat.mul_one]
 simp only [List.getElem?_toArray,List.getElem?_map,this,Option.map_some]
 rfl
theorem Qs8 {n:Int} (h1 : -9223372036854775808≤n) (h2:n≤9223372036854775807):(Lit.int .i64 n).wf=true:=by
 simp [Lit.wf,IntKind.min,IntKind.max,IntKind.signed,IntKind.bits]
 omega
theorem Qcp {w0:WM} {N:Nat} {ds:List Deferred} {s:Nat→Nat} {a:Act} {w:WM} {t rest:List (Nat×RV)} {m:List RO} {x X:Nat→Obj→Prop} {o c n capx cg i lr M:Nat} {d:Int} {rs ls:Nat→Raw} {L Z crow:List RV} {zs:Nat→Int} {cf:Cf}
  (hrep:Rep [] w0 N ds s ⟨t,m,X⟩ a w) (hi:i < lr) (hX:xsub x X) (hJ:∀ j,j < i→Ints X (ls j).a (ls j).len (ls j).zs∧Shift d (rs j) (ls j))
  (hrow:∀ u:Value,RowIs (L ++ [.ext u] ++ Z) 1 (i+1) cg ((List.range i).map (fun j=>rawV (ls j)) ++ [.ext u]))
  (hcopy:Copy crow n capx zs) (hw:∀ l,l < n→(Lit.int .i64 (zs l)).wf=true) (hsh:∀ q,Shift d (rs i) ⟨q,n,capx,zs⟩)
  (ho:nthX m o=some (.cells 28 (L ++ [.sl c 0 n capx] ++ Z))) (hc:nthX m c=some (.cells 3 crow)) (hoc:o≠c) (ho0:o≠0) (hc0:0≠c) (h00:nthX m 0=some (.cells 23 (cfCells cf))) (hpt:lk t 3=some (.ptr 0 0)) (hL:∀ v∈L,∃ u,v=.ext u) (hZ:∀ v∈Z,∃ u,v=.ext u)
  (h6:lk t 8=some (.sl o 0 (i+1) cg)) (he:extL t ((9,.ext (.int .i64 ((i+1:Nat):Int))) :: rest)) (hM:lr - (i+1) < M) :
  ∃ q s',Rep [] w0 N ds s' (lsSt cf rest x q) a w∧lsJ d rs lr x q∧lsM lr q < M:=by
 refine ⟨ShS.own (i+1) cg (L ++ [RV.ext (Value.slice (some ⟨s c,0,none⟩) n capx)] ++ Z) (fun b o'=>X b o'∨(b=s c∧o'=renO s (.cells 3 crow))) (fun j=>if j=i then ⟨some ⟨s c,0,none⟩,n,capx,zs⟩ else ls j),fun k=>s ([0,o].getD k 0),hrep.pubC h00 (Qh2 cf) ho hc hoc ho0 hc0 hL hZ h6 hpt he,?_,hM⟩
 refine ⟨by omega,fun b o' h=>.inl (hX b o' h),?_,fun j hj=>?_⟩
 ·have:=hrow (.slice (some ⟨s c,0,none⟩) n capx)
  rw [List.range_succ,List.map_append]
  have e:(List.range i).map (fun j=>rawV (if j=i then ⟨some ⟨s c,0,none⟩,n,capx,zs⟩ else ls j))=(List.range i).map (fun j=>rawV (ls j)):=List.map_congr_left fun j hj=>by
   have:=List.mem_range.1 hj
   rw [if_neg (by omega)]
  rw [e]
  simp only [List.map_cons,List.map_nil,if_true]
  exact this
 ·by_cases e:j=i
  ·subst e
   simp only [if_true]
   exact ⟨hcopy.ints hw (T:=3) (s:=s) (.inr ⟨rfl,rfl⟩),hsh _⟩
  ·simp only [if_neg e]
   obtain ⟨g1,g2⟩:=hJ j (by omega)
   refine ⟨fun l hl=>?_,g2⟩
   obtain ⟨e1,b,off,cc,T,f,e2,e3,e4⟩:=g1 l hl
   exact ⟨e1,b,off,cc,T,f,e2,.inl e3,e4⟩
theorem QFz {x:Nat→Obj→Prop} (hT:TensX x) (c:Cf) {ar:Option Addr} {lr cr:Nat} {rs:Nat→Raw} {d:Int} (bd:0≤d∧d < 4294967296) (hl:lr≤cr) (hmr:cr≤maxLen) (hr:Raws x ar lr rs):PureC Tryz.prog x 3 [c.v,.slice ar lr cr,.int .u32 d] (.bool true):=by
 have hmr2:lr≤9223372036854775807:=by simp only [maxLen] at hmr; omega
 refine Qab Tryz.func3 rfl rfl fun w=>?_
 refine Qaa (by kernel_rfl) ?_
 unfold Cf.v
 cases hf:fewB rs lr 60
 ·repeat' (first|((with_reducible show callW _ _ _ (some (18,_)) _ _);refine callP Qff rfl (Qe2 hT) ?_)|((with_reducible show callW _ _ _ (some (19,_)) _ _);refine callP QaZ rfl (QcJ hmr2 hr) ?_)|((fail_if_success (with_reducible refine stk ?_));simp only [WE,Nat.reduceBEq,Nat.reduceAdd,rs_3,hf]))
 ·have hlr:=Qdi hf
  have hP:=fun (y:Nat→Obj→Prop) (hy:TensX y) (hry:Raws y ar lr rs)=>Qa4 (cap:=cr) c hy (by omega) hry
  have hPz:=fun (y:Nat→Obj→Prop) (hy:TensX y) (a:Option Addr) {cap:Nat} {rs:Nat→Raw} (hry:Raws y a 0 rs)=>Qa4 (ad:=a) (len:=0) (cap:=cap) (rs:=rs) c hy (by decide) hry
  have hz:∀ rs',plNotes c rs' 0=plNotes c rs 0:=fun rs'=>by unfold plNotes; rfl
  have hlen0:(plNotes c rs 0).1.length=0:=by unfold plNotes; split <;> rfl
  have hlenN:(plNotes c rs lr).1.length≤lr:=by
   cases hok:c.ok with
   | true=>rw [QcY hok]; exact Nat.le_refl _
   | false=>unfold plNotes; rw [if_neg (by simp [hok])]; exact Nat.zero_le _
  unfold PlayNR at hPz
  simp only [hz] at hPz
  have ed:wr .i64 d=d:=Qag (by omega) (by omega)
  repeat' (first|((with_reducible show callW _ _ _ (some (18,_)) _ _);refine callP Qff rfl (Qe2 hT) ?_)|((with_reducible show callW _ _ _ (some (19,_)) _ _);refine callP QaZ rfl (QcJ hmr2 hr) ?_)|((fail_if_success (with_reducible refine stk ?_));simp only [WE,Nat.reduceBEq,Nat.reduceAdd,hf]))
  refine Qlm (lsSt c [(7,.ext (.bool true)),(2,.ext (.int .u32 d)),(1,.ext (.slice ar lr cr))] x) (lsJ d rs lr x) (lsM lr)
   ⟨.start,QaI [0] (fun _ _ h=>h) ⟨⟨rfl,rfl⟩,⟨rfl,rfl⟩,⟨rfl,rfl⟩,⟨rfl,rfl⟩,⟨rfl,rfl⟩,⟨rfl,rfl⟩,trivial⟩ ⟨⟨rfl,rfl⟩,trivial⟩ (by decide) (Nat.le_refl _),trivial⟩ (by kernel_rfl) ?_
  rintro (_ | ⟨i,cg,row,X,ls⟩) hJ <;> simp only [lsSt] <;> simp only [lsJ] at hJ
  ·by_cases hlt:0 < lr
   ·have hd:decide ((0:Int) < (lr:Int))=true:=by simp; omega
    have ei:wr .i64 ((0:Int)+1)=((0+1:Nat):Int):=Qag (by decide) (by decide)
    obtain ⟨hz,bb,off,cc,T,fr,rfl,hx,hc⟩:=hr 0 hlt
    have hc:loadX false 1 off cc=some (.slice (rs 0).a (rs 0).len (rs 0).cap):=hc
    repeat' (first|(with_reducible refine Qam ⟨by omega,by omega⟩ ?_)|(with_reducible refine Qad hx hc ?_)|(with_reducible refine QfQ (e:=3) Tryz.underlying28 (by kernel_rfl) ?_)|((fail_if_success (with_reducible refine stk ?_));simp only [WE,Nat.reduceBEq,Int.reduceToNat,Nat.reduceMul,QbX,QbR,QaM,hd]))
    have hrn:=Qnq hf hlt
    generalize hR:rs 0=R at *
    obtain ⟨ra,rn,rc,rz⟩:=R
    dsimp only at hz hc hrn ⊢
    by_cases hn0:rn=0
    ·subst hn0
     have z10:decide ((1:Int) < ((0:Nat):Int))=false:=rfl
     refine QhD Qed (Nat.le_refl _) ?_
     repeat' (first|(with_reducible refine Qeg ?_)|((with_reducible refine QcE QbZ (by decide) ⟨by decide,by decide⟩ (by with_unfolding_all exact rfl) (by with_unfolding_all exact rfl) (by with_unfolding_all exact rfl) ?_; intro cg hcg hcm))|((fail_if_success (with_reducible refine stk ?_));simp only [WE,Nat.reduceBEq,Nat.reduceAdd,Qbd,ei,z10]))
     intro s a w_1 hrep
     exact Qcp (L:=[]) hrep hlt (fun _ _ h=>h) (ls:=fun _=>rawZ) (fun j hj=>absurd hj (Nat.not_lt_zero j)) (fun u=>RowIs.first (z:=1) (m:=1) (news:=[.ext u]) (zs:=[.slice none 0 0]) rfl rfl hcg (fun v hv=>⟨u,List.mem_singleton.1 hv⟩)) (⟨fun l hl=>absurd hl (Nat.not_lt_zero l),fun v hv=>absurd hv (List.not_mem_nil),rfl,Nat.le_refl _⟩:Copy [] 0 0 rz) (fun l hl=>absurd hl (Nat.not_lt_zero l)) (fun q=>by rw [hR]; exact ⟨rfl,fun j hj=>absurd hj (Nat.not_lt_zero j),fun h=>absurd h (by dsimp only; decide)⟩) (cf:=c) (o:=3) (c:=1) rfl rfl (by decide) (by decide) (by decide) rfl rfl (fun v hv=>absurd hv (List.not_mem_nil)) (QbG _ _) rfl ⟨⟨rfl,_,rfl⟩,⟨rfl,_,rfl⟩,⟨rfl,_,rfl⟩,⟨rfl,_,rfl⟩,trivial⟩ (by simp only [lsM]; omega)
    ·obtain ⟨_,b0,off0,c0,T0,f0,rfl,hx0,_⟩:=hz 0 (by omega)
     refine Qkx (l:=(List.range rn).map fun j=>Value.int .i64 (rz j)) Qed (by omega) (by simp only [maxLen]; omega) (by simp) (Qo6 hz) rfl ?_
     intro capx hcx hmx
     have hE:=Qmo (zs:=rz) hcx
     generalize (((List.range rn).map fun j=>Value.int .i64 (rz j)).map .ext ++ zrow [.int .i64 0] (capx - rn))=E at *
     by_cases hn1:1 < rn
     ·have z1:decide ((1:Int) < (rn:Int))=true:=decide_eq_true (by omega)
      have hn1':nthX E 1=some (.ext (.int .i64 (rz 1))):=by rw [Qay]; exact hE.get 1 hn1
      obtain ⟨hput,hE2⟩:=hE.put (z:=rz 1+d) hn1
      by_cases hneg:rz 1 < 0
      ·have y1:decide (rz 1 < 0)=true:=decide_eq_true hneg
       repeat' (first|(with_reducible refine Qam ⟨by omega,by omega⟩ ?_)|((fail_if_success (with_reducible refine stk ?_));simp only [WE,Nat.reduceBEq,Nat.reduceAdd,Int.reduceToNat,Nat.reduceMul,ty_3,Qbd,rs_3,z1,hn1',y1]))
      ·have y1:decide (rz 1 < 0)=false:=decide_eq_false hneg
       by_cases hbig:274877906944 < rz 1
       ·have y2:decide (274877906944 < rz 1)=true:=decide_eq_true hbig
        repeat' (first|(with_reducible refine Qam ⟨by omega,by omega⟩ ?_)|((fail_if_success (with_reducible refine stk ?_));simp only [WE,Nat.reduceBEq,Nat.reduceAdd,Int.reduceToNat,Nat.reduceMul,ty_3,Qbd,rs_3,z1,hn1',y1,y2]))
       ·have y2:decide (274877906944 < rz 1)=false:=decide_eq_false hbig
        have y3:wr .i64 (rz 1+d)=rz 1+d:=Qag (by omega) (by omega)
        repeat' (first|(with_reducible refine Qam ⟨by omega,by omega⟩ ?_)|(with_reducible refine Qeg ?_)|((with_reducible refine QcE QbZ (by decide) ⟨by decide,by decide⟩ (by with_unfolding_all exact rfl) (by with_unfolding_all exact rfl) (by with_unfolding_all exact rfl) ?_; intro cg hcg hcm))|((fail_if_success (with_reducible refine stk ?_));simp only [WE,Nat.reduceBEq,Nat.reduceAdd,Nat.reduceEqDiff,Int.reduceToNat,Nat.reduceMul,ty_3,Qbd,Qmt,ei,ed,z1,hn1',y1,y2,y3,hput]))
        have hw2:∀ l,l < rn→(Lit.int .i64 ((fun l=>if l=1 then rz 1+d else rz l) l)).wf=true:=fun l hl=>by
         dsimp only
         by_cases e:l=1
         ·rw [if_pos e]; exact Qs8 (by omega) (by omega)
         ·rw [if_neg e]; exact (hz l hl).1
        intro s a w_1 hrep
        exact Qcp (L:=[]) hrep hlt (fun _ _ h=>h) (ls:=fun _=>rawZ) (fun j hj=>absurd hj (Nat.not_lt_zero j)) (fun u=>RowIs.first (z:=1) (m:=1) (news:=[.ext u]) (zs:=[.slice none 0 0]) rfl rfl hcg (fun v hv=>⟨u,List.mem_singleton.1 hv⟩)) hE2 hw2 (fun q=>by rw [hR]; exact ⟨rfl,fun j hj hne=>if_neg hne,fun h=>⟨by dsimp only; omega,by dsimp only; omega,by dsimp only; exact if_pos rfl⟩⟩) (cf:=c) (o:=4) (c:=2) rfl rfl (by decide) (by decide) (by decide) rfl rfl (fun v hv=>absurd hv (List.not_mem_nil)) (QbG _ _) rfl ⟨⟨rfl,_,rfl⟩,⟨rfl,_,rfl⟩,⟨rfl,_,rfl⟩,⟨rfl,_,rfl⟩,trivial⟩ (by simp only [lsM]; omega)
     ·have z1:decide ((1:Int) < (rn:Int))=false:=decide_eq_false (by omega)
      repeat' (first|(with_reducible refine Qeg ?_)|((with_reducible refine QcE QbZ (by decide) ⟨by decide,by decide⟩ (by with_unfolding_all exact rfl) (by with_unfolding_all exact rfl) (by with_unfolding_all exact rfl) ?_; intro cg hcg hcm))|((fail_if_success (with_reducible refine stk ?_));simp only [WE,Nat.reduceBEq,Nat.reduceAdd,Qbd,ei,z1]))
      intro s a w_1 hrep
      exact Qcp (L:=[]) hrep hlt (fun _ _ h=>h) (ls:=fun _=>rawZ) (fun j hj=>absurd hj (Nat.not_lt_zero j)) (fun u=>RowIs.first (z:=1) (m:=1) (news:=[.ext u]) (zs:=[.slice none 0 0]) rfl rfl hcg (fun v hv=>⟨u,List.mem_singleton.1 hv⟩)) hE (fun l hl=>(hz l hl).1) (fun q=>by rw [hR]; exact ⟨rfl,fun j hj hne=>rfl,fun h=>absurd h hn1⟩) (cf:=c) (o:=4) (c:=2) rfl rfl (by decide) (by decide) (by decide) rfl rfl (fun v hv=>absurd hv (List.not_mem_nil)) (QbG _ _) rfl ⟨⟨rfl,_,rfl⟩,⟨rfl,_,rfl⟩,⟨rfl,_,rfl⟩,⟨rfl,_,rfl⟩,trivial⟩ (by simp only [lsM]; omega)
   ·have:lr=0:=by omega
    subst this
    have hd:decide ((0:Int) < ((0:Nat):Int))=false:=rfl
    unfold Cf.v at hPz
    unfold cfCells
    repeat' (first|((fail_if_success (with_reducible refine stk ?_));simp only [WE,segX,Nat.reduceBEq,Qai,QaM,hd]))
    refine callE QaG rfl (hPz _ hT _ hr) ?_
    rintro v x1 x2 ⟨a1,c1,rfl,hn1⟩ hs1 hs2
    have hT2:=hT.mono hs1
    replace hn1:=hn1.mono hs2
    clear hs1 hs2
    repeat' (first|((fail_if_success (with_reducible refine stk ?_));simp only [WE,segX,Nat.reduceBEq,Qai]))
    refine callE QaG rfl (hPz _ hT2 none (rs:=rs) (fun j hj=>absurd hj (Nat.not_lt_zero j))) ?_
    rintro v x3 x4 ⟨a2,c2,rfl,hn2⟩ hs1 hs2
    replace hn1:=hn1.mono hs1
    replace hn2:=hn2.mono hs2
    have k:=Qf3 (m1:=c1) (m2:=c2) rfl (by rw [hlen0]; decide) hn1 hn2
    repeat' (first|((with_reducible show callW _ _ _ (some (21,_)) _ _);refine callP QgH rfl (k) ?_)|((fail_if_success (with_reducible refine stk ?_));simp only [WE,Nat.reduceBEq,rs_3]))
  ·obtain ⟨hile,hX,hrow,hJs⟩:=hJ
   by_cases hlt:i < lr
   ·have hd:decide ((i:Int) < (lr:Int))=true:=by simp; omega
    have ei:wr .i64 ((i:Int)+1)=((i+1:Nat):Int):=by rw [Qag (by omega) (by omega)]; rfl
    have hbb:i+1≤maxLen∧(i+1) * 24≤140737488355328:=by simp only [maxLen]; omega
    obtain ⟨hz,bb,off,cc,T,fr,rfl,hx,hc⟩:=hr.mono hX i hlt
    repeat' (first|(with_reducible refine Qam ⟨by omega,by omega⟩ ?_)|(with_reducible refine Qad hx hc ?_)|(with_reducible refine QfQ (e:=3) Tryz.underlying28 (by kernel_rfl) ?_)|((fail_if_success (with_reducible refine stk ?_));simp only [WE,Nat.reduceBEq,Nat.reduceAdd,QbX,QbR,QaM,hd]))
    have hrn:=Qnq hf hlt
    generalize hR:rs i=R at *
    obtain ⟨ra,rn,rc,rz⟩:=R
    dsimp only at hz hc hrn ⊢
    by_cases hn0:rn=0
    ·subst hn0
     have z10:decide ((1:Int) < ((0:Nat):Int))=false:=rfl
     refine QhD Qed (Nat.le_refl _) ?_
     repeat' (first|(with_reducible refine Qeg ?_)|((with_reducible refine QcF QbZ hbb (by with_unfolding_all exact rfl) (by with_unfolding_all exact rfl) (by with_unfolding_all exact rfl) (by with_unfolding_all exact rfl) (by with_unfolding_all exact hrow.size) hrow.le (fun hcr=>?_) (fun cg2 hcg hcm=>?_)))|((fail_if_success (with_reducible refine stk ?_));simp only [WE,Nat.reduceBEq,Nat.reduceAdd,Qbd,ei,z10]))
     ·intro s a w_1 hrep
      exact Qcp (L:=row.take (i * 1)) (Z:=row.drop (i * 1+1)) hrep hlt hX hJs (fun u=>hrow.room (m:=1) (news:=[.ext u]) rfl hcr (fun v hv=>⟨u,List.mem_singleton.1 hv⟩)) (⟨fun l hl=>absurd hl (Nat.not_lt_zero l),fun v hv=>absurd hv (List.not_mem_nil),rfl,Nat.le_refl _⟩:Copy [] 0 0 rz) (fun l hl=>absurd hl (Nat.not_lt_zero l)) (fun q=>by rw [hR]; exact ⟨rfl,fun j hj=>absurd hj (Nat.not_lt_zero j),fun h=>absurd h (by dsimp only; decide)⟩) (cf:=c) (o:=1) (c:=2) rfl rfl (by decide) (by decide) (by decide) rfl rfl (fun v hv=>hrow.ext v (List.mem_of_mem_take hv)) (fun v hv=>hrow.ext v (List.mem_of_mem_drop hv)) rfl ⟨⟨rfl,_,rfl⟩,⟨rfl,_,rfl⟩,⟨rfl,_,rfl⟩,⟨rfl,_,rfl⟩,trivial⟩ (by simp only [lsM]; omega)
     ·intro s a w_1 hrep
      exact Qcp (L:=row.take (i * 1)) hrep hlt hX hJs (fun u=>hrow.grow (m:=1) (news:=[.ext u]) (zs:=[.slice none 0 0]) rfl rfl hcg (fun v hv=>⟨u,List.mem_singleton.1 hv⟩)) (⟨fun l hl=>absurd hl (Nat.not_lt_zero l),fun v hv=>absurd hv (List.not_mem_nil),rfl,Nat.le_refl _⟩:Copy [] 0 0 rz) (fun l hl=>absurd hl (Nat.not_lt_zero l)) (fun q=>by rw [hR]; exact ⟨rfl,fun j hj=>absurd hj (Nat.not_lt_zero j),fun h=>absurd h (by dsimp only; decide)⟩) (cf:=c) (o:=4) (c:=2) rfl rfl (by decide) (by decide) (by decide) rfl rfl (fun v hv=>hrow.ext v (List.mem_of_mem_take hv)) (QbG _ _) rfl ⟨⟨rfl,_,rfl⟩,⟨rfl,_,rfl⟩,⟨rfl,_,rfl⟩,⟨rfl,_,rfl⟩,trivial⟩ (by simp only [lsM]; omega)
    ·obtain ⟨_,b0,off0,c0,T0,f0,rfl,hx0,_⟩:=hz 0 (by omega)
     refine Qkx (l:=(List.range rn).map fun j=>Value.int .i64 (rz j)) Qed (by omega) (by simp only [maxLen]; omega) (by simp) (Qo6 hz) rfl ?_
     intro capx hcx hmx
     have hE:=Qmo (zs:=rz) hcx
     generalize (((List.range rn).map fun j=>Value.int .i64 (rz j)).map .ext ++ zrow [.int .i64 0] (capx - rn))=E at *
     by_cases hn1:1 < rn
     ·have z1:decide ((1:Int) < (rn:Int))=true:=decide_eq_true (by omega)
      have hn1':nthX E 1=some (.ext (.int .i64 (rz 1))):=by rw [Qay]; exact hE.get 1 hn1
      obtain ⟨hput,hE2⟩:=hE.put (z:=rz 1+d) hn1
      by_cases hneg:rz 1 < 0
      ·have y1:decide (rz 1 < 0)=true:=decide_eq_true hneg
       repeat' (first|(with_reducible refine Qam ⟨by omega,by omega⟩ ?_)|((fail_if_success (with_reducible refine stk ?_));simp only [WE,Nat.reduceBEq,Nat.reduceAdd,Int.reduceToNat,Nat.reduceMul,ty_3,Qbd,rs_3,z1,hn1',y1]))
      ·have y1:decide (rz 1 < 0)=false:=decide_eq_false hneg
       by_cases hbig:274877906944 < rz 1
       ·have y2:decide (274877906944 < rz 1)=true:=decide_eq_true hbig
        repeat' (first|(with_reducible refine Qam ⟨by omega,by omega⟩ ?_)|((fail_if_success (with_reducible refine stk ?_));simp only [WE,Nat.reduceBEq,Nat.reduceAdd,Int.reduceToNat,Nat.reduceMul,ty_3,Qbd,rs_3,z1,hn1',y1,y2]))
       ·have y2:decide (274877906944 < rz 1)=false:=decide_eq_false hbig
        have y3:wr .i64 (rz 1+d)=rz 1+d:=Qag (by omega) (by omega)
        have hw2:∀ l,l < rn→(Lit.int .i64 ((fun l=>if l=1 then rz 1+d else rz l) l)).wf=true:=fun l hl=>by
         dsimp only
         by_cases e:l=1
         ·rw [if_pos e]; exact Qs8 (by omega) (by omega)
         ·rw [if_neg e]; exact (hz l hl).1
        repeat' (first|(with_reducible refine Qam ⟨by omega,by omega⟩ ?_)|(with_reducible refine Qeg ?_)|((with_reducible refine QcF QbZ hbb (by with_unfolding_all exact rfl) (by with_unfolding_all exact rfl) (by with_unfolding_all exact rfl) (by with_unfolding_all exact rfl) (by with_unfolding_all exact hrow.size) hrow.le (fun hcr=>?_) (fun cg2 hcg hcm=>?_)))|((fail_if_success (with_reducible refine stk ?_));simp only [WE,Nat.reduceBEq,Nat.reduceAdd,Nat.reduceEqDiff,Int.reduceToNat,Nat.reduceMul,ty_3,Qbd,Qmt,ei,ed,z1,hn1',y1,y2,y3,hput]))
        ·intro s a w_1 hrep
         exact Qcp (L:=row.take (i * 1)) (Z:=row.drop (i * 1+1)) hrep hlt hX hJs (fun u=>hrow.room (m:=1) (news:=[.ext u]) rfl hcr (fun v hv=>⟨u,List.mem_singleton.1 hv⟩)) hE2 hw2 (fun q=>by rw [hR]; exact ⟨rfl,fun j hj hne=>if_neg hne,fun h=>⟨by dsimp only; omega,by dsimp only; omega,by dsimp only; exact if_pos rfl⟩⟩) (cf:=c) (o:=1) (c:=3) rfl rfl (by decide) (by decide) (by decide) rfl rfl (fun v hv=>hrow.ext v (List.mem_of_mem_take hv)) (fun v hv=>hrow.ext v (List.mem_of_mem_drop hv)) rfl ⟨⟨rfl,_,rfl⟩,⟨rfl,_,rfl⟩,⟨rfl,_,rfl⟩,⟨rfl,_,rfl⟩,trivial⟩ (by simp only [lsM]; omega)
        ·intro s a w_1 hrep
         exact Qcp (L:=row.take (i * 1)) hrep hlt hX hJs (fun u=>hrow.grow (m:=1) (news:=[.ext u]) (zs:=[.slice none 0 0]) rfl rfl hcg (fun v hv=>⟨u,List.mem_singleton.1 hv⟩)) hE2 hw2 (fun q=>by rw [hR]; exact ⟨rfl,fun j hj hne=>if_neg hne,fun h=>⟨by dsimp only; omega,by dsimp only; omega,by dsimp only; exact if_pos rfl⟩⟩) (cf:=c) (o:=5) (c:=3) rfl rfl (by decide) (by decide) (by decide) rfl rfl (fun v hv=>hrow.ext v (List.mem_of_mem_take hv)) (QbG _ _) rfl ⟨⟨rfl,_,rfl⟩,⟨rfl,_,rfl⟩,⟨rfl,_,rfl⟩,⟨rfl,_,rfl⟩,trivial⟩ (by simp only [lsM]; omega)
     ·have z1:decide ((1:Int) < (rn:Int))=false:=decide_eq_false (by omega)
      repeat' (first|(with_reducible refine Qeg ?_)|((with_reducible refine QcF QbZ hbb (by with_unfolding_all exact rfl) (by with_unfolding_all exact rfl) (by with_unfolding_all exact rfl) (by with_unfolding_all exact rfl) (by with_unfolding_all exact hrow.size) hrow.le (fun hcr=>?_) (fun cg2 hcg hcm=>?_)))|((fail_if_success (with_reducible refine stk ?_));simp only [WE,Nat.reduceBEq,Nat.reduceAdd,Qbd,ei,z1]))
      ·intro s a w_1 hrep
       exact Qcp (L:=row.take (i * 1)) (Z:=row.drop (i * 1+1)) hrep hlt hX hJs (fun u=>hrow.room (m:=1) (news:=[.ext u]) rfl hcr (fun v hv=>⟨u,List.mem_singleton.1 hv⟩)) hE (fun l hl=>(hz l hl).1) (fun q=>by rw [hR]; exact ⟨rfl,fun j hj hne=>rfl,fun h=>absurd h hn1⟩) (cf:=c) (o:=1) (c:=3) rfl rfl (by decide) (by decide) (by decide) rfl rfl (fun v hv=>hrow.ext v (List.mem_of_mem_take hv)) (fun v hv=>hrow.ext v (List.mem_of_mem_drop hv)) rfl ⟨⟨rfl,_,rfl⟩,⟨rfl,_,rfl⟩,⟨rfl,_,rfl⟩,⟨rfl,_,rfl⟩,trivial⟩ (by simp only [lsM]; omega)
      ·intro s a w_1 hrep
       exact Qcp (L:=row.take (i * 1)) hrep hlt hX hJs (fun u=>hrow.grow (m:=1) (news:=[.ext u]) (zs:=[.slice none 0 0]) rfl rfl hcg (fun v hv=>⟨u,List.mem_singleton.1 hv⟩)) hE (fun l hl=>(hz l hl).1) (fun q=>by rw [hR]; exact ⟨rfl,fun j hj hne=>rfl,fun h=>absurd h hn1⟩) (cf:=c) (o:=5) (c:=3) rfl rfl (by decide) (by decide) (by decide) rfl rfl (fun v hv=>hrow.ext v (List.mem_of_mem_take hv)) (QbG _ _) rfl ⟨⟨rfl,_,rfl⟩,⟨rfl,_,rfl⟩,⟨rfl,_,rfl⟩,⟨rfl,_,rfl⟩,trivial⟩ (by simp only [lsM]; omega)
   ·have:i=lr:=by omega
    subst this
    have hd:decide ((i:Int) < (i:Int))=false:=by simp
    unfold Cf.v at hP
    unfold cfCells
    repeat' (first|((fail_if_success (with_reducible refine stk ?_));simp only [WE,segX,Nat.reduceBEq,Qai,QaM,hd]))
    refine callE QaG rfl (hP _ (hT.mono hX) (hr.mono hX)) ?_
    rintro v x1 x2 ⟨a1,c1,rfl,hn1⟩ hy hs2
    have hT2:=(hT.mono hX).mono hy
    replace hn1:=hn1.mono hs2
    clear hs2
    repeat' (first|((fail_if_success (with_reducible refine stk ?_));simp only [WE,segX,Nat.reduceBEq,Qai]))
    refine callE' (R:=PlayNR c rs i) QaG (fun s=>?_) ?_
    ·have e:=QBG (d:=d) (c:=c) (rs:=rs) (ls:=ls) ⟨bd.1,by omega⟩ (fun j hj=>(hJs j hj).2)
     have hL:=Qa4 (x:=xAll ⟨[],[.cells 23 (cfCells c),.cells 28 row],x2⟩ s) (ad:=some ⟨s 1,0,none⟩) (len:=i) (cap:=cg) (rs:=ls) c (hT2.mono fun b o h=>.inl h) (by omega) (fun j hj=>?_)
     ·unfold PlayNR at hL ⊢
      rw [e] at hL
      unfold Cf.v at hL
      exact hL
     have hgd:((List.range i).map fun j=>rawV (ls j))[j]? = some (rawV (ls j)):=by simp [hj]
     refine ⟨?_,s 1,0,_,_,_,rfl,.inr ⟨1,_,rfl,rfl,rfl⟩,?_⟩
     ·intro l hl
      obtain ⟨e1,b,off,c,T,f,e2,e3,e4⟩:=(hJs j hj).1 l hl
      exact ⟨e1,b,off,c,T,f,e2,.inl (hy _ _ e3),e4⟩
     ·have hrg:=hrow.get (j:=j) (by omega)
      rw [hgd] at hrg
      simp only [loadX,Int.toNat_natCast,Nat.zero_add,Nat.mul_one]
      simp only [List.getElem?_toArray,List.getElem?_map,hrg,Option.map_some]
      rfl
    ·rintro v x3 x4 ⟨a2,c2,rfl,hn2⟩ hs1 hs2
     replace hn1:=hn1.mono hs1
     replace hn2:=hn2.mono hs2
     have k:=Qf3 (m1:=c1) (m2:=c2) rfl (by omega) hn1 hn2
     repeat' (first|((with_reducible show callW _ _ _ (some (21,_)) _ _);refine callP QgH rfl (k) ?_)|((fail_if_success (with_reducible refine stk ?_));simp only [WE,Nat.reduceBEq,rs_3]))
theorem QBX:∀ (x:Nat→Obj→Prop) (vs:List Value),XLaid x→Shvs x [.r (.cons 1 (.i .i64) (.cons 1 (.i .i64) (.cons 1 (.i .i64) (.cons 1 (.i .i64) (.cons 1 (.i .i64) (.cons 1 (.i .i64) (.cons 1 (.i .i64) (.nil)))))))),.v 1 (.v 1 (.i .i64)),.i .u32] vs→PureC Tryz.prog x 3 vs (.bool true):=by
 intro x vs hx hv
 rcases vs with _ | ⟨v0,_ | ⟨v1,_ | ⟨v2,_ | ⟨v3,vs⟩⟩⟩⟩ <;> simp only [Shvs,and_false] at hv
 obtain ⟨h0,h1,⟨d,rfl,wd⟩,_⟩:=hv
 obtain ⟨c,rfl,_⟩:=Qd9 h0
 obtain ⟨a,len,cap,rs,rfl,g1,g2,g3⟩:=Qea h1
 have bd:0≤d∧d < 4294967296:=by
  simp [Lit.wf,IntKind.min,IntKind.max,IntKind.signed,IntKind.bits] at wd
  omega
 exact QFz hx.1 c bd g1 g2 g3
end Go.Proofs.YtkokohkbhlnjkaaGreatDoor
namespace Go.Proofs.YtkokohkbhlnjkaaGreatDoor
set_option linter.unusedVariables false
set_option linter.unusedSimpArgs false
open Go Go.RowKit Go.ChangeShapes Go.WideShapes Go.ChangeAt Go.Proofs.YtkokohkbhlnjkaaGreatDoor.R
set_option maxRecDepth 100000
theorem topShift_lifted (os:Os) (started:os.Started) (H:Type) (enc:TypeId×Value→H) :
  ReturnsInLeavingWide {} Tryz.checked os 3 .any (Rows.topShiftRow.pre enc Tryz.prog Tryz.f3 (OpenSpec.ofChange Rows.topShiftSpec)) (Rows.topShiftSpec.post enc Tryz.prog Tryz.f3 false true false false):=
 Qd7 (C:=Tryz.checked) (s:=Rows.topShiftSpec) (conds:=[]) (l:=Rows.topShiftRow.laid) (Xs:=XLaid) (tb:=4) (ys:=[.r (.cons 1 (.i .i64) (.cons 1 (.i .i64) (.cons 1 (.i .i64) (.cons 1 (.i .i64) (.cons 1 (.i .i64) (.cons 1 (.i .i64) (.cons 1 (.i .i64) (.nil)))))))),.v 1 (.v 1 (.i .i64)),.i .u32]) (by kernel_rfl) own_ started (by kernel_rfl) Tryz.func3
  (ChangeSpec.witness_shaped (enc:=enc) (C:=Tryz.checked) (os:=os) (X:=fun w _=>laidMetH Tryz.prog Rows.topShiftRow.laid w) false (World.laidAll Tryz.prog os Rows.topShiftRow.laid) #[.agg #[.int .i64 0,.int .i64 0,.int .i64 0,.int .i64 0,.int .i64 0,.int .i64 0,.int .i64 0],.slice none 0 0,.int .u32 0] 8 (World.laidAll_os _ _ _)
   (World.shaped_of_ZipB (by kernel_rfl) (by kernel_rfl)) (by kernel_rfl) (by kernel_rfl) (by kernel_rfl)
   (by rw [MakeChecks.laidMetH_plain _ _ _ (by kernel_rfl)]; exact laidMet_laidAll _ (by kernel_rfl) (by kernel_rfl)))
  rfl QbA (by kernel_rfl) rfl Tryz.underlying4
  (fun ds hd=>by match ds,hd with | [d0,d1,d2],_=>exact ⟨rfl,rfl,rfl⟩)
  (by kernel_rfl) Qdq (fun x vs hT h=>QBX x vs hT h)
set_option maxHeartbeats 8000000 in
theorem topShift_closed:joinedFacts Tryz.checked.prog 3 Tryz.f3 Rows.topShiftSpec Rows.topShiftRow=true:=by
 unfold joinedFacts
 simp only [Bool.and_eq_true]
 repeat' apply And.intro
 all_goals first | (with_reducible exact QbA) | (as_aux_lemma=>kernel_rfl)
theorem topShift_named:Tryz.checked.prog.funcNamed Rows.topShiftRow.func=some 3:=by kernel_rfl
theorem topShift_inst:Tryz.f3.isInstance Tryz.checked.prog Rows.topShiftRow.origin Rows.topShiftRow.targs:=of_decide_eq_true (by kernel_rfl)
theorem topShift_wrap:Tryz.f3.isWrapper Tryz.checked.prog Rows.topShiftRow.wrapper Rows.topShiftRow.mainSum:=by unfold Func.isWrapper; first | (rw [if_pos (by decide +kernel)]; kernel_rfl) | (rw [if_neg (by decide +kernel)]; exact ⟨rfl,rfl⟩)
theorem topShift_said:Rows.TopShiftSaid:=
 OpenClaim.holds_of_wide_leaving 3 Tryz.f3 rfl rfl rfl rfl rfl rfl rfl ⟨rfl,rfl,rfl,rfl,rfl⟩ rfl rfl rfl rfl rfl topShift_named Tryz.func3 topShift_closed
  topShift_inst topShift_wrap (fun os started H enc _=>topShift_lifted os started H enc)
theorem topShift_goes:true=Rows.topShiftRow.goesBy Tryz.pinned.checked.prog:=by kernel_rfl
theorem topShift_wf:Rows.topShiftRow.wfByText (OpenSpec.ofChange Rows.topShiftSpec)=true:=by kernel_rfl
theorem topShift_wants:([23,24,25].all fun u=>!Tryz.prog.wantsStandIn u)=true:=by kernel_rfl
theorem topShift_holds:Rows.TopShiftCardSaid:=
 Qdf [.data] true (true, "9743dcc7216159cedf5af689d9831578d52e7622345c3cbb87c8bebbc0866563") true
  topShift_said topShift_wf topShift_row_tie rfl ⟨rfl,rfl⟩ Qd3 rfl
  (fun f fn hf hfn=>by
   obtain rfl:f=3:=Option.some.inj (hf.symm.trans topShift_named)
   obtain rfl:fn=Tryz.f3:=(Option.some.inj (Tryz.func3.symm.trans hfn)).symm
   exact ⟨QdU,fun j t ht=>by
    rw [Tryz.params3] at ht
    have hm:t∈[23,24,25]:=by simpa using Array.mem_of_getElem? ht
    exact (show Tryz.prog.wantsStandIn t=false by simpa using List.all_eq_true.1 topShift_wants t hm)⟩)
  topShift_goes
#print axioms topShift_holds
end Go.Proofs.YtkokohkbhlnjkaaGreatDoor
