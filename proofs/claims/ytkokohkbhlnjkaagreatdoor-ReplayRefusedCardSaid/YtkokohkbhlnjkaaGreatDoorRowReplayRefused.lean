/- 'sawtoothlaw22.ReplayRefused': for every input the call returns true, and each argument reads as it did: the tied card. Conditions: the listed variable holds what the program's text lays. -/
import Derived.Test.YtkokohkbhlnjkaaGreatDoorMa6
import Derived.Test.YtkokohkbhlnjkaaGreatDoorCards
import Derived.Test.YtkokohkbhlnjkaaGreatDoorTie
namespace Go.Proofs.YtkokohkbhlnjkaaGreatDoor
set_option linter.unusedVariables false
set_option linter.unusedSimpArgs false
open Go Go.RowKit Go.Proofs.YtkokohkbhlnjkaaGreatDoor.R
set_option maxRecDepth 50000
set_option maxHeartbeats 8000000
theorem Qrh (s:Es) (rs:Nat→Raw) (k:Nat):∀ d,(playUp s rs (k+d)).2.take k=(playUp s rs k).2
 | 0=>by rw [Nat.add_zero,List.take_of_length_le (by rw [QcZ]; exact Nat.le_refl _)]
 | d+1=>by
  have hl:=QcZ s rs (k+d)
  show ((playUp s rs (k+d)).2 ++ _).take k=_
  rw [List.take_append_of_le_length (by omega)]
  exact Qrh s rs k d
theorem QB0 {c:Cf} {rs:Nat→Raw} {k n:Nat} (h:c.ok=true) (hk:k≤n):(plNotes c rs n).1.take k=(plNotes c rs k).1:=by
 unfold plNotes
 rw [if_pos h,if_pos h]
 obtain ⟨d,rfl⟩:=Nat.exists_eq_add_of_le hk
 show ((playUp (esNew c).1 rs (k+d)).2.map noteOf).take k=_
 rw [←List.map_take,Qrh]
theorem Qp9:∀ (l:List Nt) (m:Nat),(ntVals l).take (m * 6)=ntVals (l.take m)
 | [],m=>by simp [ntVals]
 | e :: l,0=>by simp [ntVals]
 | e :: l,m+1=>by
  simp only [ntVals,ntRow,List.take_succ_cons,show (m+1) * 6=m * 6+6 by omega,List.cons_append,List.nil_append]
  rw [Qp9 l m]
def slA (a:Option Addr) (cap:Nat):Option Addr:=if cap=0 then a else a.map (·.add 0)
theorem QFG {P:Program} {t e:TypeId} {a:Option Addr} {len cap:Nat} {k:IntKind} {z:Int} {K:Value→Prop} (ht:P.underlying t=some (.slice e)) (hi:(P.info? e).isSome=true) (hz:0≤z∧z≤cap) (h:K (.slice (slA a cap) z.toNat cap)) :
  pureW P (Instr.sliceAt t (.slice a len cap) none (some (.int k z)) none) K:=by
 obtain ⟨i,hi⟩:=Option.isSome_iff_exists.1 hi
 have hz':0≤z∧z≤(cap:Int):=hz
 refine ⟨_,fun w=>⟨?_,?_⟩,h⟩
 ·simp [Instr.sliceAt,Instr.slice,run_underlying ht,Instr.sliceBounds,Instr.sliceBound,asIntOf,hz',sizeOf,typeInfo,hi,slA]
 ·simp [Instr.sliceAt,Instr.slice,run_underlying ht,Instr.sliceBounds,Instr.sliceBound,asIntOf,hz',sizeOf,typeInfo,hi,slA]
theorem Qhm {P:Program} {t e:TypeId} {a:Option Addr} {len cap:Nat} {k:IntKind} {z:Int} {K:Value→Prop} (ht:P.underlying t=some (.slice e)) (hi:(P.info? e).isSome=true) (hz:0≤z∧z≤cap) (h:K (.slice (slA a cap) z.toNat cap)) :
  pureW P (Instr.sliceAt t (.slice a len cap) ([]:List Value)[0]? [Value.int k z][0]? ([]:List Value)[0]?) K:=QFG ht hi hz h
theorem QsB {b off:Nat} {cap:Nat}:slA (some ⟨b,off,none⟩) cap=some ⟨b,off,none⟩:=by
 unfold slA
 split
 ·rfl
 ·rw [Option.map_some,Addr.add_lit,Nat.add_zero]
theorem Raws.cut {x:Nat→Obj→Prop} {a:Option Addr} {len k cap:Nat} {rs:Nat→Raw} (h:Raws x a len rs) (hk:k≤len):Raws x (slA a cap) k rs:=fun i hi=>by
 obtain ⟨h1,b,off,c,T,f,rfl,h3,h4⟩:=h i (by omega)
 exact ⟨h1,b,off,c,T,f,QsB,h3,h4⟩
theorem RowAt.cut {x:Nat→Obj→Prop} {a:Option Addr} {z n cap m:Nat} {vals:List Value} (h:RowAt x a z n cap vals) (hm:m≤n):RowAt x a z m cap (vals.take (m * z)):=by
 obtain ⟨h1,h2⟩:=h
 have hz:m * z≤n * z:=Nat.mul_le_mul_right _ hm
 refine ⟨by rw [List.length_take]; omega,?_⟩
 rcases h2 with ⟨q1,q2,q3⟩ | ⟨b,c,T,f,q1,q2,q3,q4,q5⟩
 ·exact .inl ⟨q1,by omega,q3⟩
 ·refine .inr ⟨b,c,T,f,q1,q2,?_,by omega,q5⟩
  rw [←q3,List.take_take,Nat.min_eq_left hz]
theorem RowAt.len_cap {x:Nat→Obj→Prop} {a:Option Addr} {z n cap:Nat} {vals:List Value} (h:RowAt x a z n cap vals):n≤cap:=by
 rcases h.2 with ⟨_,h2,h3⟩ | ⟨_,_,_,_,_,_,_,h4,_⟩
 ·omega
 ·exact h4
theorem RowAt.slA {x:Nat→Obj→Prop} {a:Option Addr} {z n cap:Nat} {vals:List Value} (h:RowAt x a z n cap vals):slA a cap=a:=by
 rcases h.2 with ⟨rfl,_⟩ | ⟨b,c,T,f,rfl,_⟩
 ·unfold Go.Proofs.YtkokohkbhlnjkaaGreatDoor.slA; split <;> rfl
 ·exact QsB
end Go.Proofs.YtkokohkbhlnjkaaGreatDoor
namespace Go.Proofs.YtkokohkbhlnjkaaGreatDoor
set_option linter.unusedVariables false
set_option linter.unusedSimpArgs false
open Go Go.RowKit Go.Proofs.YtkokohkbhlnjkaaGreatDoor.R
set_option maxRecDepth 50000
set_option maxHeartbeats 8000000
theorem Qfp {s:Es} {r:Raw} (h:(playStep s r).2≠0):(playStep s r).1=s:=by
 unfold playStep at h ⊢
 by_cases h0:(rawEv r).2=0
 ·rw [if_pos h0] at h ⊢; exact Qgf h
 ·rw [if_neg h0]
theorem Qrf {s:Es} {f g:Nat→Raw}:∀ {m:Nat},(∀ j,j < m→f j=g j)→playUp s f m=playUp s g m
 | 0,_=>rfl
 | m+1,h=>by
  have ih:=Qrf (s:=s) (f:=f) (g:=g) (m:=m) fun j hj=>h j (by omega)
  rw [playUp,playUp,ih,h m (by omega)]
def rawZ:Raw:=⟨none,0,0,fun _=>0⟩
def playL (s:Es) (l:List Raw):Es×List (Es×Int):=playUp s (fun j=>l.getD j rawZ) l.length
theorem QGs (s:Es):playL s []=(s,[]):=rfl
theorem Qjl (s:Es) (l:List Raw) (r:Raw):playL s (l ++ [r])=((playStep (playL s l).1 r).1,(playL s l).2 ++ [playStep (playL s l).1 r]):=by
 have hc:playUp s (fun j=>(l ++ [r]).getD j rawZ) l.length=playL s l:=Qrf fun j hj=>by
  simp only [List.getD_eq_getElem?_getD]
  rw [List.getElem?_append_left hj]
 have hl:(l ++ [r]).getD l.length rawZ=r:=by simp
 unfold playL at hc ⊢
 rw [List.length_append]
 show playUp _ _ (l.length+1)=_
 rw [playUp,hc]
 simp only [hl]
theorem Qre (s:Es) (l:List Raw):(playL s l).2.length=l.length:=QcZ _ _ _
def goods (s:Es) (rs:Nat→Raw):Nat→List Raw
 | 0=>[]
 | i+1=>if (playStep (playUp s rs i).1 (rs i)).2=0 then goods s rs i ++ [rs i] else goods s rs i
theorem QoF (s:Es) (rs:Nat→Raw):∀ i,(goods s rs i).length≤i
 | 0=>Nat.le_refl _
 | i+1=>by
  have:=QoF s rs i
  rw [goods]
  split
  ·rw [List.length_append]; simp; omega
  ·omega
theorem QiP (s:Es) (rs:Nat→Raw):∀ i,∀ r∈goods s rs i,∃ j,j < i∧r=rs j
 | 0,r,h=>by simp [goods] at h
 | i+1,r,h=>by
  rw [goods] at h
  split at h
  ·rcases List.mem_append.1 h with h | h
   ·obtain ⟨j,h1,h2⟩:=QiP s rs i r h
    exact ⟨j,by omega,h2⟩
   ·exact ⟨i,by omega,List.mem_singleton.1 h⟩
  ·obtain ⟨j,h1,h2⟩:=QiP s rs i r h
   exact ⟨j,by omega,h2⟩
def isGood (p:Es×Int):Bool:=decide (p.2=0)
theorem QoG (s:Es) (rs:Nat→Raw):∀ i,playL s (goods s rs i)=((playUp s rs i).1,(playUp s rs i).2.filter isGood)
 | 0=>rfl
 | i+1=>by
  have h1:=QoG s rs i
  rw [goods,playUp]
  by_cases h0:(playStep (playUp s rs i).1 (rs i)).2=0
  ·rw [if_pos h0,Qjl,h1]
   dsimp only
   rw [List.filter_append]
   have:isGood (playStep (playUp s rs i).1 (rs i))=true:=decide_eq_true h0
   rw [List.filter_cons,if_pos this]
   rfl
  ·rw [if_neg h0,h1]
   dsimp only
   rw [List.filter_append]
   have:¬ isGood (playStep (playUp s rs i).1 (rs i))=true:=fun h=>h0 (of_decide_eq_true h)
   rw [List.filter_cons,if_neg this,Qfp h0]
   simp
theorem Qta:∀ l:List (Es×Int),wins ((l.filter isGood).map noteOf)=wins (l.map noteOf)
 | []=>rfl
 | p :: l=>by
  have ih:=Qta l
  rw [List.filter_cons,List.map_cons,wins]
  by_cases h:p.2=0
  ·rw [if_pos (show isGood p=true from decide_eq_true h),List.map_cons,wins,ih]
  ·rw [if_neg (show ¬ isGood p=true from fun q=>h (of_decide_eq_true q)),ih,if_neg (show ¬ (noteOf p).err=0 from h)]
theorem Qs9:∀ l:List (Es×Int),(wins ((l.filter isGood).map noteOf)).length=((l.filter isGood).map noteOf).length
 | []=>rfl
 | p :: l=>by
  have ih:=Qs9 l
  rw [List.filter_cons]
  by_cases h:p.2=0
  ·rw [if_pos (show isGood p=true from decide_eq_true h),List.map_cons,wins,if_pos (show (noteOf p).err=0 from h),List.length_cons,List.length_cons,ih]
  ·rw [if_neg (show ¬ isGood p=true from fun q=>h (of_decide_eq_true q)),ih]
def Nt.no (n:Nt):Nt:={ n with err:=0 }
theorem QgY (p:Es×Int):noteOf p=⟨p.2,(esLook p.1).win,(esLook p.1).thr,(esLook p.1).rate,(esLook p.1).rto,(esLook p.1).part⟩:=by
 unfold noteOf
 generalize esLook p.1=q
 rfl
theorem QBF (p:Es×Int):(noteOf p).no=(esLook p.1).no:=by
 rw [QgY]
 generalize esLook p.1=q
 rfl
theorem Qjd (p:Es×Int):(noteOf p).err=p.2:=rfl
theorem QGq {s:Es} {r:Raw} (h:(playStep s r).2≠0):(noteOf (playStep s r)).no=(esLook s).no:=by rw [QBF,Qfp h]
theorem QGp {s:Es} (h:EsOk s):(esLook s).no=esLook s:=by rw [Qfi h]; rfl
end Go.Proofs.YtkokohkbhlnjkaaGreatDoor
namespace Go.Proofs.YtkokohkbhlnjkaaGreatDoor
set_option linter.unusedVariables false
set_option linter.unusedSimpArgs false
open Go Go.RowKit
namespace R
theorem Rep.pubG {w0:WM} {N:Nat} {ds:List Deferred} {s:Nat→Nat} {a:Act} {w:WM} {t:List (Nat×RV)} {m:List RO} {x:Nat→Obj→Prop} (hr:Rep [] w0 N ds s ⟨t,m,x⟩ a w)
  (ks:List Nat) (t':List (Nat×RV)) (m':List RO) {c:Nat} {oc:RO} (hc:m[c]? = some oc) (hl:m'.length=ks.length)
  (hk:∀ (k:Nat) (o':RO),m'[k]? = some o'→∃ (j:Nat) (o:RO),ks[k]? = some j∧j≠c∧m[j]? = some o∧renO (fun k=>s (ks.getD k 0)) o'=renO s o∧cloO m'.length o'=true)
  (hnd:∀ (k k' j:Nat),ks[k]? = some j→ks[k']? = some j→k=k')
  (ht:∀ i v,lk t' i=some v→∃ u,lk t i=some u∧ren (fun k=>s (ks.getD k 0)) v=ren s u∧clo m'.length v=true) :
  Rep [] w0 N ds (fun k=>s (ks.getD k 0)) ⟨t',m',fun b o=>x b o∨(b=s c∧o=renO s oc)⟩ a w:=by
 have hcm:=(List.getElem?_eq_some_iff.1 hc).1
 have at_:∀ k,k < m'.length→∃ j,ks[k]? = some j∧ks.getD k 0=j∧j≠c∧j < m.length:=fun k h=>by
  obtain ⟨j,o,h1,h2,h3,_⟩:=hk k m'[k] (by simp [h])
  exact ⟨j,h1,by simp [List.getD_eq_getElem?_getD,h1],h2,(List.getElem?_eq_some_iff.1 h3).1⟩
 refine ⟨⟨?_,?_,?_,?_,?_,?_,?_,hr.mr.wf⟩,?_,hr.fr,hr.size,?_,hr.df⟩
 ·intro k o' h
  obtain ⟨j,o,h1,h2,h3,h4,h5⟩:=hk k o' h
  show w.heap[s (ks.getD k 0)]? = some (renO (fun k=>s (ks.getD k 0)) o')
  rw [h4,show ks.getD k 0=j by simp [List.getD_eq_getElem?_getD,h1]]
  exact hr.mr.mem j o h3
 ·intro j k hj hk' e
  obtain ⟨j1,a1,a2,a3,a4⟩:=at_ j hj
  obtain ⟨k1,b1,b2,b3,b4⟩:=at_ k hk'
  replace e:s (ks.getD j 0)=s (ks.getD k 0):=e
  rw [a2,b2] at e
  have:=hr.mr.inj j1 k1 a4 b4 e
  subst this
  exact hnd j k j1 a1 b1
 ·intro k o' h
  obtain ⟨j,o,h1,h2,h3,h4,h5⟩:=hk k o' h
  exact h5
 ·rintro b p (hb | ⟨rfl,rfl⟩)
  ·exact hr.mr.ext b p hb
  ·exact hr.mr.mem c _ hc
 ·intro b p hb k hkl
  obtain ⟨j,a1,a2,a3,a4⟩:=at_ k hkl
  show s (ks.getD k 0)≠b
  rw [a2]
  rcases hb with hb | ⟨rfl,rfl⟩
  ·exact hr.mr.apart b p hb j a4
  ·exact fun e=>a3 (hr.mr.inj j c a4 hcm e)
 ·intro k hkl
  obtain ⟨j,a1,a2,a3,a4⟩:=at_ k hkl
  show w.M (s (ks.getD k 0))
  rw [a2]
  exact hr.mr.mine j a4
 ·rintro b p (hb | ⟨rfl,rfl⟩)
  ·exact hr.mr.know b p hb
  ·exact .inl (hr.mr.mine c hcm)
 ·refine .none fun k hkl=>?_
  obtain ⟨j,a1,a2,a3,a4⟩:=at_ k hkl
  show _≤s (ks.getD k 0)
  rw [a2]
  exact (hr.own.mem a4).resolve_left (by simp)
 ·intro i v h
  obtain ⟨u,h1,h2,h3⟩:=ht i v h
  exact ⟨by rw [h2]; exact (hr.slot i u h1).1,h3⟩
theorem Qd5 {s s':Nat→Nat} {l:List RV} (h:∀ v∈l,∃ u,v=.ext u):l.map (ren s)=l.map (ren s'):=List.map_congr_left fun v hv=>by
 obtain ⟨u,rfl⟩:=h v hv
 rfl
theorem Rep.pubC {w0:WM} {N:Nat} {ds:List Deferred} {s:Nat→Nat} {a:Act} {w:WM} {t rest:List (Nat×RV)} {m:List RO} {x:Nat→Obj→Prop} {o c g cg n cap kl kp:Nat} {T T' TC:TypeId} {L Z crow row0:List RV}
  (hr:Rep [] w0 N ds s ⟨t,m,x⟩ a w) (h0:nthX m 0=some (.cells TC row0)) (hC:∀ v∈row0,∃ u,v=.ext u) (ho:nthX m o=some (.cells T (L ++ [.sl c 0 n cap] ++ Z))) (hc:nthX m c=some (.cells T' crow)) (hoc:o≠c) (ho0:o≠0) (hc0:0≠c)
  (hL:∀ v∈L,∃ u,v=.ext u) (hZ:∀ v∈Z,∃ u,v=.ext u) (hl:lk t kl=some (.sl o 0 g cg)) (hp:lk t kp=some (.ptr 0 0)) (he:extL t rest) :
  Rep [] w0 N ds (fun k=>s ([0,o].getD k 0)) ⟨(kl,.sl 1 0 g cg) :: (kp,.ptr 0 0) :: rest,[.cells TC row0,.cells T (L ++ [.ext (.slice (some ⟨s c,0,none⟩) n cap)] ++ Z)],fun b o'=>x b o'∨(b=s c∧o'=renO s (.cells T' crow))⟩ a w:=by
 rw [Qay] at ho hc h0
 refine hr.pubG [0,o] _ _ hc rfl ?_ ?_ ?_
 ·intro k o' hk
  match k with
  | 0=>
   simp only [List.getElem?_cons_zero,Option.some.injEq] at hk
   subst hk
   refine ⟨0,_,rfl,hc0,h0,?_,?_⟩
   ·simp only [renO,Qd5 (s':=s) hC]
   ·simp only [cloO,List.all_eq_true]
    intro v hv
    obtain ⟨u,rfl⟩:=hC v hv
    rfl
  | 1=>
   simp only [List.getElem?_cons_succ,List.getElem?_cons_zero,Option.some.injEq] at hk
   subst hk
   refine ⟨o,_,rfl,hoc,ho,?_,?_⟩
   ·simp only [renO,List.map_append,Qd5 (s':=s) hL,Qd5 (s':=s) hZ]
    rfl
   ·simp only [cloO,List.all_append,Bool.and_eq_true,List.all_eq_true]
    refine ⟨⟨fun v hv=>?_,fun v hv=>?_⟩,fun v hv=>?_⟩
    ·obtain ⟨u,rfl⟩:=hL v hv; rfl
    ·rw [List.mem_singleton.1 hv]; rfl
    ·obtain ⟨u,rfl⟩:=hZ v hv; rfl
  | k+2=>simp at hk
 ·intro k k' j h1 h2
  match k,k' with
  | 0,0=>rfl
  | 1,1=>rfl
  | 0,1=>simp at h1 h2; omega
  | 1,0=>simp at h1 h2; omega
  | k+2,_=>simp at h1
  | 0,k+2=>simp at h2
  | 1,k+2=>simp at h2
 ·intro i v hi
  rw [Qa7] at hi
  split at hi
  ·rename_i e
   simp only [Option.some.injEq] at hi
   subst hi
   rw [e]
   exact ⟨_,hl,rfl,rfl⟩
  ·rw [Qa7] at hi
   split at hi
   ·rename_i e
    simp only [Option.some.injEq] at hi
    subst hi
    rw [e]
    exact ⟨_,hp,rfl,rfl⟩
   ·obtain ⟨h1,u,rfl⟩:=Qil he i v hi
    exact ⟨_,h1,rfl,rfl⟩
instance stkF {p:(Nat→Nat)→Act→WM→Prop}:Stk (∀ s a w,p s a w):=⟨trivial⟩
end R
end Go.Proofs.YtkokohkbhlnjkaaGreatDoor
namespace Go.Proofs.YtkokohkbhlnjkaaGreatDoor
set_option linter.unusedVariables false
set_option linter.unusedSimpArgs false
open Go Go.RowKit Go.Proofs.YtkokohkbhlnjkaaGreatDoor.R
set_option maxRecDepth 50000
set_option maxHeartbeats 8000000
theorem Qh2 (c:Cf):∀ v∈cfCells c,∃ u,v=.ext u:=by
 intro v hv
 simp only [cfCells,List.mem_cons,List.not_mem_nil,or_false] at hv
 rcases hv with rfl | rfl | rfl | rfl | rfl | rfl | rfl <;> exact ⟨_,rfl⟩
theorem Qnq {rs:Nat→Raw} {len i:Nat} {m:Int} (h:fewB rs len m=true) (hi:i < len):(rs i).len≤10:=by
 unfold fewB at h
 simp only [Bool.and_eq_true] at h
 exact of_decide_eq_true (List.all_eq_true.1 h.1 i (List.mem_range.2 hi))
def rawV (r:Raw):RV:=.ext (.slice r.a r.len r.cap)
theorem QbZ:appS Tryz.prog #[24,24]=some (28,[.slice none 0 0],24):=by kernel_rfl
theorem QkT {S:St} {a:Option Addr} {n c:Nat} {K:RV→St→Prop} (h:K (.sl S.m.length 0 1 1) ⟨S.t,S.m ++ [.cells 28 [.ext (.slice a n c)]],S.x⟩) :
  bldW Tryz.prog S 24 1 [0] [.ext (.slice a n c)] K:=
 Qbq (z:=.slice none 0 0) (b:=24) Tryz.underlying24 (by kernel_rfl) rfl (by decide) rfl rfl rfl h
theorem Qjt (r:Raw):∀ v∈([.ext (.slice r.a r.len r.cap)]:List RV),∃ u,v=.ext u:=by
 intro v hv
 simp only [List.mem_singleton] at hv
 exact ⟨_,hv⟩
theorem Qeg {S:St} {k n c:Nat} {K:RV→St→Prop} (h:K (.sl S.m.length 0 1 1) ⟨S.t,S.m ++ [.cells 28 [.sl k 0 n c]],S.x⟩) :
  bldW Tryz.prog S 24 1 [0] [.sl k 0 n c] K:=
 Qbq (z:=.slice none 0 0) (b:=24) Tryz.underlying24 (by kernel_rfl) rfl (by decide) rfl rfl rfl h
theorem Qju {x:Nat→Obj→Prop} {s:Nat→Nat} {t:List (Nat×RV)} {m:List RO} {k T n cap:Nat} {row:List RV} {L:List Raw} (h:RowIs row 1 n cap (L.map rawV)) (hm:m[k]? = some (.cells T row)) (hi:∀ r∈L,Ints x r.a r.len r.zs):Raws (xAll ⟨t,m,x⟩ s) (some ⟨s k,0,none⟩) n (fun j=>L.getD j rawZ):=fun j hj=>by
 have hl:L.length=n:=by have:=h.len; simpa using this
 have hgd:L[j]? = some (L.getD j rawZ):=by simp [hl,hj]
 refine ⟨?_,s k,0,_,T,(0,0),rfl,.inr ⟨k,_,hm,rfl,rfl⟩,?_⟩
 ·intro l hl'
  obtain ⟨e1,b,off,c,T',f,e2,e3,e4⟩:=hi _ (List.mem_of_getElem? hgd) l hl'
  exact ⟨e1,b,off,c,T',f,e2,.inl e3,e4⟩
 ·have hrg:=h.get (j:=j) (by omega)
  rw [List.getElem?_map,hgd] at hrg
  simp only [loadX,Int.toNat_natCast,Nat.zero_add,Nat.mul_one]
  simp only [List.getElem?_toArray,List.getElem?_map,hrg,Option.map_some]
  rfl
end Go.Proofs.YtkokohkbhlnjkaaGreatDoor
namespace Go.Proofs.YtkokohkbhlnjkaaGreatDoor
set_option linter.unusedVariables false
set_option linter.unusedSimpArgs false
open Go Go.RowKit Go.Proofs.YtkokohkbhlnjkaaGreatDoor.R
set_option maxRecDepth 50000
set_option maxHeartbeats 8000000
def ntCells (n:Nt):List RV:=[.ext (.int .i64 0),.ext (.int .i64 n.win),.ext (.int .i64 n.thr),.ext (.int .i64 n.rate),.ext (.int .i64 n.rto),.ext (.int .i64 n.part)]
theorem QGr (n:Nt):∀ v∈ntCells n,∃ u,v=.ext u:=Qcr _ _ _ _ _ _
inductive RfS where
 | nil (i:Nat)
 | own (i g cg:Nat) (row:List RV)
def rfSt (c:Cf) (f:Nat→Nt) (ad:Option Addr) (len cap:Nat) (a1:Option Addr) (c1:Nat) (x:Nat→Obj→Prop):RfS→St
 | .nil i=>⟨[(12,.ext (.int .i64 i)),(11,.ext (.slice none 0 0)),(10,.ptr 1 0),(6,.ext (.slice a1 len c1)),(1,.ext (.slice ad len cap)),(5,.ext (.bool true)),(2,.ptr 0 0)],[.cells 23 (cfCells c),.cells 54 (ntCells (f i))],x⟩
 | .own i g cg row=>⟨[(12,.ext (.int .i64 i)),(11,.sl 2 0 g cg),(10,.ptr 1 0),(6,.ext (.slice a1 len c1)),(1,.ext (.slice ad len cap)),(5,.ext (.bool true)),(2,.ptr 0 0)],[.cells 23 (cfCells c),.cells 54 (ntCells (f i)),.cells 28 row],x⟩
def rfJ (s0:Es) (rs:Nat→Raw) (len:Nat):RfS→Prop
 | .nil i=>i≤len∧goods s0 rs i=[]
 | .own i g cg row=>i≤len∧(goods s0 rs i).length=g∧RowIs row 1 g cg ((goods s0 rs i).map rawV)
def rfM (len:Nat):RfS→Nat
 | .nil i=>len - i
 | .own i _ _ _=>len - i
def GoodR (s0:Es) (rs:Nat→Raw) (len:Nat) (v:Value) (x:Nat→Obj→Prop):Prop:=
 ∃ a cap,v=.tuple #[.slice a (((playUp s0 rs len).2.filter isGood).map noteOf).length cap,.int .i64 0]∧RowAt x a 6 (((playUp s0 rs len).2.filter isGood).map noteOf).length cap (ntVals (((playUp s0 rs len).2.filter isGood).map noteOf))
def EndR (t:Es) (v:Value) (x:Nat→Obj→Prop):Prop:=∃ a cp,v=.tuple #[t.v (.slice a t.ms.length cp),.int .i64 0]∧MsAt x t.ms (.slice a t.ms.length cp)
theorem QzD {x:Nat→Obj→Prop} (hT:TensX x) (c:Cf) {ad:Option Addr} {n cap len:Nat} {rs:Nat→Raw} (hok:c.ok=true) (h1:(goods (esNew c).1 rs len).length=n) (h2:n≤1000) (hr:Raws x ad n (fun j=>(goods (esNew c).1 rs len).getD j rawZ)) :
  RetE Tryz.prog x 20 [c.v,.slice ad n cap] (GoodR (esNew c).1 rs len)∧RetE Tryz.prog x 23 [c.v,.slice ad n cap] (EndR (playUp (esNew c).1 rs len).1):=by
 have g:=QoG (esNew c).1 rs len
 unfold playL at g
 rw [h1] at g
 constructor
 ·have hP:=Qa4 (cap:=cap) c hT h2 hr
  unfold PlayNR plNotes at hP
  rw [if_pos hok,g] at hP
  exact hP
 ·have hP:=Qdc (cap:=cap) c hT h2 hr
  unfold LastR plLast at hP
  rw [if_pos hok,g] at hP
  exact hP
theorem QAm {x:Nat→Obj→Prop} (hT:TensX x) (c:Cf) {ad:Option Addr} {cap len:Nat} {rs:Nat→Raw} (hok:c.ok=true) (h2:len≤1000) (hr:Raws x ad len rs):RetE Tryz.prog x 23 [c.v,.slice ad len cap] (EndR (playUp (esNew c).1 rs len).1):=by
 have hP:=Qdc (cap:=cap) c hT h2 hr
 unfold LastR plLast at hP
 rw [if_pos hok] at hP
 exact hP
theorem QgR {x y:Nat→Obj→Prop} {a:Option Addr} {n:Nat} {zs:Nat→Int} (h:Ints x a n zs) (hx:xsub x y):Ints y a n zs:=fun i hi=>by
 obtain ⟨e1,b,off,c,T,f,e2,e3,e4⟩:=h i hi
 exact ⟨e1,b,off,c,T,f,e2,hx _ _ e3,e4⟩
theorem QCC {x:Nat→Obj→Prop} (hT:TensX x) (c:Cf) {ad:Option Addr} {len cap:Nat} {rs:Nat→Raw} (hok:c.ok=true) (h60:len≤60) (hF:PureC Tryz.prog x 19 [.slice ad len cap,.int .i64 60] (.bool true)) (hr:Raws x ad len rs):PureC Tryz.prog x 13 [c.v,.slice ad len cap] (.bool true):=by
 refine Qab Tryz.func13 rfl rfl fun w=>?_
 refine Qaa (by kernel_rfl) ?_
 have hP:=Qa4 (cap:=cap) c hT (by omega) hr
 unfold PlayNR at hP
 obtain ⟨l,hl'⟩:∃ l,(plNotes c rs len).1=l:=⟨_,rfl⟩
 have e1:(plNotes c rs len).2=0:=by unfold plNotes; rw [if_pos hok]
 have e2:(esNew c).2=0:=by unfold esNew; rw [hok]; rfl
 have hll:l.length=len:=by rw [←hl']; exact QcY hok
 rw [e1,hl',hll] at hP
 have hN:=fun (z:Nat→Obj→Prop)=>Qeh (x:=z) c
 rw [e2] at hN
 have hE:=fun (z:Nat→Obj→Prop) (hz:TensX z) (hrz:Raws z ad len rs)=>QAm (cap:=cap) hz c hok (by omega) hrz
 have hGd:=fun (z:Nat→Obj→Prop) (hz:TensX z) (a:Option Addr) (n cp:Nat) (h1:(goods (esNew c).1 rs len).length=n) (h2:n≤1000) (hrz:Raws z a n (fun j=>(goods (esNew c).1 rs len).getD j rawZ))=>QzD (cap:=cp) hz c hok h1 h2 hrz
 have hlf:l=(playUp (esNew c).1 rs len).2.map noteOf:=by rw [←hl']; unfold plNotes; rw [if_pos hok]
 have hlg:∀ i,i < len→l[i]? = some (noteOf (playStep (playUp (esNew c).1 rs i).1 (rs i))):=fun i hi=>by rw [←hl']; exact Qfo hok hi
 have hgl:=fun i=>QoF (esNew c).1 rs i
 have hPI:=fun i=>PIn.up (PIn.new hok) rs i
 have hm0:(esNew c).1.ms=[]:=by unfold esNew; rw [hok]; rfl
 obtain ⟨s0,hs0⟩:∃ s0,(esNew c).1=s0:=⟨_,rfl⟩
 rw [hs0] at hN hE hGd hlf hlg hgl hPI hm0
 obtain ⟨f,hf⟩:∃ f:Nat→Nt,f=fun i=>esLook (playUp s0 rs i).1:=⟨_,rfl⟩
 have hL0:∀ z,TensX z→PureC Tryz.prog z 30 [s0.v (.slice none 0 0)] (f 0).v:=fun z hz=>by
  rw [hf]
  exact QeZ hz s0 (hPI 0).fl (by have h:0≤s0.back∧s0.back≤64:=(hPI 0).ok.back; omega) (by rw [hm0]; decide) (by rw [hm0]; exact ⟨none,0,rfl,Nat.le_refl _,by decide,fun _=>rfl,fun i hi=>absurd hi (by simp)⟩)
 have hL0e:(f 0).err=0:=by rw [hf]; show (esLook s0).err=0; rw [Qfi (s:=s0) (hPI 0).ok]
 have hno:∀ i,i < len→noteOf (playStep (playUp s0 rs i).1 (rs i))=⟨(playStep (playUp s0 rs i).1 (rs i)).2,(f (i+1)).win,(f (i+1)).thr,(f (i+1)).rate,(f (i+1)).rto,(f (i+1)).part⟩:=fun i hi=>by rw [hf,QgY]; rfl
 have hsame:∀ i,(playStep (playUp s0 rs i).1 (rs i)).2≠0→f (i+1)=f i:=fun i h=>by rw [hf]; show esLook (playStep (playUp s0 rs i).1 (rs i)).1=_; rw [Qfp h]
 obtain ⟨G,hG⟩:∃ G,((playUp s0 rs len).2.filter isGood).map noteOf=G:=⟨_,rfl⟩
 obtain ⟨cur,hcur⟩:∃ cur,(playUp s0 rs len).1=cur:=⟨_,rfl⟩
 have hwa:(wins G).length=G.length:=by rw [←hG]; exact Qs9 _
 have hwf:wins G=wins l:=by rw [←hG,hlf]; exact Qta _
 have hGl:G.length≤len:=by rw [←hwa,hwf]; exact Nat.le_trans (QfH l) (by omega)
 have hml:cur.ms.length≤len:=by rw [←hcur]; exact (hPI len).ms
 unfold GoodR EndR at hGd
 unfold EndR at hE
 simp only [hG,hcur] at hGd hE
 unfold Cf.v at hP
 unfold Cf.v Es.v Es.cells at hE hGd
 unfold Cf.v Es.v Es.cells at hN
 unfold Es.v Es.cells Nt.v at hL0
 rw [hL0e] at hL0
 unfold Cf.v
 have qb:((len:Int) != (len:Int))=false:=bne_self_eq_false _
 have qc:((0:Int) != 0)=false:=rfl
 repeat' (first|((with_reducible show callW _ _ _ (some (19,_)) _ _);refine callP QaZ rfl (hF) ?_)|((with_reducible show callW _ _ _ (some (40,_)) _ _);refine callP Qbz rfl (Qbx hT) ?_)|((fail_if_success (with_reducible refine stk ?_));simp only [WE,segX,Nat.reduceBEq,Nat.reduceAdd,Qai]))
 refine callE QaG rfl hP ?_
 rintro v x1 x2 ⟨a1,c1,rfl,hn1⟩ hs1 hs2
 replace hn1:=hn1.mono hs2
 have hT2:TensX x2:=hT.mono hs1
 have hr2:=hr.mono hs1
 clear hs2
 repeat' (first|((with_reducible show callW _ _ _ (some (22,_)) _ _);refine callP Qdm rfl (hN _) ?_)|((with_reducible show callW _ _ _ (some (30,_)) _ _);refine callP Qfc rfl (hL0 _ hT2) ?_)|((fail_if_success (with_reducible refine stk ?_));simp only [WE,segX,Nat.reduceBEq,Nat.reduceAdd,Nat.reduceEqDiff,Qai,Qaj,QaN,Qau,Qa2,QaM,Qav,qb,qc]))
 refine QfT (rfSt c f ad len cap a1 c1 x2) (rfJ s0 rs len) (rfM len)
  ⟨.nil 0,QaI [0,2] (fun _ _ h=>h) ⟨⟨rfl,rfl⟩,⟨rfl,rfl⟩,⟨rfl,rfl⟩,⟨rfl,rfl⟩,⟨rfl,rfl⟩,⟨rfl,rfl⟩,⟨rfl,rfl⟩,trivial⟩ ⟨⟨rfl,rfl⟩,⟨rfl,rfl⟩,trivial⟩ (by decide) (Nat.le_refl _),Nat.zero_le _,rfl⟩ (by kernel_rfl) ?_
 rintro (i | ⟨i,g,cg,row⟩) hJ <;> simp only [rfSt] <;> simp only [rfJ] at hJ
 ·obtain ⟨hi,hgn⟩:=hJ
  by_cases hlt:i < len
  ·have hd:decide ((i:Int) < (len:Int))=true:=by simp; exact hlt
   have ei:wr .i64 ((i:Int)+1)=((i+1:Nat):Int):=by rw [Qag (by omega) (by omega)]; rfl
   obtain ⟨b1,d1,T1,f1,rfl,hx1,hc1,hc2,_⟩:=Qa8 hn1 hlt (hlg i hlt)
   rw [hno i hlt] at hc1 hc2
   dsimp only at hc1 hc2
   obtain ⟨_,b2,off2,d2,T2,f2,rfl,hx2,hc3⟩:=hr2 i hlt
   by_cases hz:(playStep (playUp s0 rs i).1 (rs i)).2=0
   ·have hg':goods s0 rs (i+1)=[rs i]:=by rw [goods,if_pos hz,hgn]; rfl
    rw [hz] at hc1 hc2
    repeat' (first|(with_reducible refine Qam ⟨by omega,by omega⟩ ?_)|(with_reducible refine Qad hx1 hc1 ?_)|(with_reducible refine Qad hx1 hc2 ?_)|(with_reducible refine Qad hx2 hc3 ?_)|(with_reducible refine QkT ?_)|((with_reducible refine QcE QbZ (by decide) ⟨by decide,by decide⟩ (by with_unfolding_all exact rfl) (by with_unfolding_all exact rfl) (by with_unfolding_all exact rfl) ?_; intro cg hcg hcm))|((fail_if_success (with_reducible refine stk ?_));simp only [WE,segX,Nat.reduceBEq,Nat.reduceAdd,Nat.reduceEqDiff,QbX,Qaq,QaN,QaK,QbR,QaP,Qa2,Qav,hd,ei,ntCells,qc]))
    have hb:=RowIs.first (z:=1) (m:=1) (news:=[.ext (.slice (rs i).a (rs i).len (rs i).cap)]) (zs:=[.slice none 0 0]) rfl rfl hcg (Qjt _)
    exact ⟨.own (i+1) 1 cg _,QaI [0,1,4] (fun _ _ h=>h) ⟨⟨rfl,rfl⟩,⟨rfl,rfl⟩,⟨rfl,rfl⟩,⟨rfl,rfl⟩,⟨rfl,rfl⟩,⟨rfl,rfl⟩,⟨rfl,rfl⟩,trivial⟩ ⟨⟨rfl,rfl⟩,⟨rfl,rfl⟩,⟨by rw [Qb3 hb.ext]; rfl,hb.clo _ _⟩,trivial⟩ (by decide) (Nat.le_refl _),⟨by omega,by rw [hg']; rfl,by rw [hg']; exact hb⟩,by simp only [rfM]; omega⟩
   ·have hg':goods s0 rs (i+1)=[]:=by rw [goods,if_neg hz,hgn]
    have hfi:=hsame i hz
    have qz:((playStep (playUp s0 rs i).1 (rs i)).2 == 0)=false:=by simpa using hz
    have qn:((playStep (playUp s0 rs i).1 (rs i)).2 != 0)=true:=by simpa using hz
    generalize (playStep (playUp s0 rs i).1 (rs i)).2=er at *
    rw [hfi] at hc1
    repeat' (first|(with_reducible refine Qam ⟨by omega,by omega⟩ ?_)|(with_reducible refine Qad hx1 hc1 ?_)|(with_reducible refine Qad hx1 hc2 ?_)|((fail_if_success (with_reducible refine stk ?_));simp only [WE,segX,Nat.reduceBEq,Nat.reduceAdd,Nat.reduceEqDiff,Qaq,QaN,QaK,QaP,Qa2,Qeo,Qav,hd,ei,ntCells,qz,qn]))
    exact ⟨.nil (i+1),QaI [0,1] (fun _ _ h=>h) ⟨⟨rfl,rfl⟩,⟨rfl,rfl⟩,⟨rfl,rfl⟩,⟨rfl,rfl⟩,⟨rfl,rfl⟩,⟨rfl,rfl⟩,⟨rfl,rfl⟩,trivial⟩ ⟨⟨rfl,rfl⟩,⟨by dsimp only; rw [hfi]; rfl,by (try dsimp only); rw [hfi]; rfl⟩,trivial⟩ (by decide) (Nat.le_refl _),⟨by omega,hg'⟩,by simp only [rfM]; omega⟩
  ·have hd:decide ((i:Int) < (len:Int))=false:=by simp; omega
   have:i=len:=by omega
   subst this
   have hI:∀ r∈([]:List Raw),Ints x2 r.a r.len r.zs:=fun r hr=>absurd hr (List.not_mem_nil)
   unfold cfCells ntCells
   repeat' (first|((fail_if_success (with_reducible refine stk ?_));simp only [WE,segX,Nat.reduceBEq,Qai,Qav,hd]))
   refine callE QaG rfl (hGd _ hT2 none 0 0 (by rw [hgn]; rfl) (by decide) (fun j hj=>absurd hj (Nat.not_lt_zero j))).1 ?_
   rintro v x3 x4 ⟨am,cm,rfl,hm⟩ hs1 hs2
   replace hm:=hm.mono hs2
   replace hn1:=hn1.mono hs1
   have hT4:=hT2.mono hs1
   have hr4:=hr2.mono hs1
   have hI4:=fun r hr=>QgR (hI r hr) hs1
   clear hs1 hs2
   repeat' (first|((fail_if_success (with_reducible refine stk ?_));simp only [WE,segX,Nat.reduceBEq,Qai]))
   refine callE QbU rfl (hE _ hT4 hr4) ?_
   rintro v x5 x6 ⟨a5,c5,rfl,hu5⟩ hs1 hs2
   replace hu5:=hu5.mono hs2
   replace hm:=hm.mono hs1
   replace hn1:=hn1.mono hs1
   have hT6:=hT4.mono hs1
   have hI6:=fun r hr=>QgR (hI4 r hr) hs1
   clear hs1 hs2
   repeat' (first|((fail_if_success (with_reducible refine stk ?_));simp only [WE,segX,Nat.reduceBEq,Nat.reduceAdd,Nat.reduceEqDiff,Qai,Qaj,Qau]))
   refine callE QbU rfl (hGd _ hT6 none 0 0 (by rw [hgn]; rfl) (by decide) (fun j hj=>absurd hj (Nat.not_lt_zero j))).2 ?_
   rintro v x7 x8 ⟨a7,c7,rfl,hu7⟩ hs1 hs2
   replace hu7:=hu7.mono hs2
   replace hu5:=hu5.mono hs1
   replace hm:=hm.mono hs1
   replace hn1:=hn1.mono hs1
   clear hs1 hs2
   have hWr:=QhY (cap:=cm) (by omega) rfl hm
   have hWz:((G.length:Int) - (wins G).length)=0:=by rw [hwa]; omega
   rw [hWz] at hWr
   repeat' (first|((with_reducible show callW _ _ _ (some (46,_)) _ _);refine callP QgJ rfl (hWr) ?_)|((fail_if_success (with_reducible refine stk ?_));simp only [WE,Nat.reduceBEq,Nat.reduceAdd,Nat.reduceEqDiff,Qaj,Qau]))
   refine callE Qdp rfl (Qej (cap:=cm) (by omega) rfl hm) ?_
   rintro v x9 x10 ⟨a9,c9,rfl,hw9⟩ hs1 hs2
   replace hw9:=hw9.mono hs2
   replace hn1:=hn1.mono hs1
   replace hu5:=hu5.mono hs1
   replace hu7:=hu7.mono hs1
   clear hs1 hs2
   repeat' (first|((fail_if_success (with_reducible refine stk ?_));simp only [WE,Nat.reduceBEq]))
   refine callE Qdp rfl (Qej (cap:=c1) (by omega) hll hn1) ?_
   rintro v x11 x12 ⟨a11,c11,rfl,hw11⟩ hs1 hs2
   replace hw11:=hw11.mono hs2
   replace hw9:=hw9.mono hs1
   replace hu5:=hu5.mono hs1
   replace hu7:=hu7.mono hs1
   clear hs1 hs2
   rw [hwf] at hw9 ⊢
   have hNm:=QhX (m1:=c9) (m2:=c11) rfl (by have:=QfH l; omega) hw9 hw11
   have hSm:=Qei cur (by omega) hu5 hu7
   unfold Es.v Es.cells at hSm
   repeat' (first|((with_reducible show callW _ _ _ (some (24,_)) _ _);refine callP Qew rfl (hSm) ?_)|((with_reducible show callW _ _ _ (some (44,_)) _ _);refine callP QgG rfl (hNm) ?_)|((fail_if_success (with_reducible refine stk ?_));simp only [WE,segX,Nat.reduceBEq,Qaj,Qhg]))
 ·obtain ⟨hi,hgl',hrow⟩:=hJ
  by_cases hlt:i < len
  ·have hd:decide ((i:Int) < (len:Int))=true:=by simp; exact hlt
   have ei:wr .i64 ((i:Int)+1)=((i+1:Nat):Int):=by rw [Qag (by omega) (by omega)]; rfl
   have hgi:=hgl i
   have hbb:g+1≤maxLen∧(g+1) * 24≤140737488355328:=by simp only [maxLen]; omega
   obtain ⟨b1,d1,T1,f1,rfl,hx1,hc1,hc2,_⟩:=Qa8 hn1 hlt (hlg i hlt)
   rw [hno i hlt] at hc1 hc2
   dsimp only at hc1 hc2
   obtain ⟨_,b2,off2,d2,T2,f2,rfl,hx2,hc3⟩:=hr2 i hlt
   by_cases hz:(playStep (playUp s0 rs i).1 (rs i)).2=0
   ·have hg':goods s0 rs (i+1)=goods s0 rs i ++ [rs i]:=by rw [goods,if_pos hz]
    have hgl2:(goods s0 rs (i+1)).length=g+1:=by rw [hg',List.length_append,hgl']; rfl
    have hgm:(goods s0 rs (i+1)).map rawV=(goods s0 rs i).map rawV ++ [.ext (.slice (rs i).a (rs i).len (rs i).cap)]:=by rw [hg',List.map_append]; rfl
    rw [hz] at hc1 hc2
    repeat' (first|(with_reducible refine Qam ⟨by omega,by omega⟩ ?_)|(with_reducible refine Qad hx1 hc1 ?_)|(with_reducible refine Qad hx1 hc2 ?_)|(with_reducible refine Qad hx2 hc3 ?_)|(with_reducible refine QkT ?_)|((with_reducible refine QcF QbZ hbb (by with_unfolding_all exact rfl) (by with_unfolding_all exact rfl) (by with_unfolding_all exact rfl) (by with_unfolding_all exact rfl) (by with_unfolding_all exact hrow.size) hrow.le (fun hcr=>?_) (fun cg2 hcg hcm=>?_)))|((fail_if_success (with_reducible refine stk ?_));simp only [WE,segX,Nat.reduceBEq,Nat.reduceAdd,Nat.reduceEqDiff,QbX,Qaq,QaN,QaK,QbR,QaP,Qa2,Qav,hd,ei,ntCells,qc]))
    ·have hb:=hrow.room (m:=1) (news:=[.ext (.slice (rs i).a (rs i).len (rs i).cap)]) rfl hcr (Qjt _)
     exact ⟨.own (i+1) (g+1) cg _,QaI [0,1,2] (fun _ _ h=>h) ⟨⟨rfl,rfl⟩,⟨rfl,rfl⟩,⟨rfl,rfl⟩,⟨rfl,rfl⟩,⟨rfl,rfl⟩,⟨rfl,rfl⟩,⟨rfl,rfl⟩,trivial⟩ ⟨⟨rfl,rfl⟩,⟨rfl,rfl⟩,⟨by rw [Qb3 hb.ext]; rfl,hb.clo _ _⟩,trivial⟩ (by decide) (Nat.le_refl _),⟨by omega,hgl2,by rw [hgm]; exact hb⟩,by simp only [rfM]; omega⟩
    ·have hb:=hrow.grow (m:=1) (news:=[.ext (.slice (rs i).a (rs i).len (rs i).cap)]) (zs:=[.slice none 0 0]) rfl rfl hcg (Qjt _)
     exact ⟨.own (i+1) (g+1) cg2 _,QaI [0,1,5] (fun _ _ h=>h) ⟨⟨rfl,rfl⟩,⟨rfl,rfl⟩,⟨rfl,rfl⟩,⟨rfl,rfl⟩,⟨rfl,rfl⟩,⟨rfl,rfl⟩,⟨rfl,rfl⟩,trivial⟩ ⟨⟨rfl,rfl⟩,⟨rfl,rfl⟩,⟨by rw [Qb3 hb.ext]; rfl,hb.clo _ _⟩,trivial⟩ (by decide) (Nat.le_refl _),⟨by omega,hgl2,by rw [hgm]; exact hb⟩,by simp only [rfM]; omega⟩
   ·have hg':goods s0 rs (i+1)=goods s0 rs i:=by rw [goods,if_neg hz]
    have hfi:=hsame i hz
    have qz:((playStep (playUp s0 rs i).1 (rs i)).2 == 0)=false:=by simpa using hz
    have qn:((playStep (playUp s0 rs i).1 (rs i)).2 != 0)=true:=by simpa using hz
    generalize (playStep (playUp s0 rs i).1 (rs i)).2=er at *
    rw [hfi] at hc1
    repeat' (first|(with_reducible refine Qam ⟨by omega,by omega⟩ ?_)|(with_reducible refine Qad hx1 hc1 ?_)|(with_reducible refine Qad hx1 hc2 ?_)|((fail_if_success (with_reducible refine stk ?_));simp only [WE,segX,Nat.reduceBEq,Nat.reduceAdd,Nat.reduceEqDiff,Qaq,QaN,QaK,QaP,Qa2,Qeo,Qav,hd,ei,ntCells,qz,qn]))
    exact ⟨.own (i+1) g cg row,QaI [0,1,2] (fun _ _ h=>h) ⟨⟨rfl,rfl⟩,⟨rfl,rfl⟩,⟨rfl,rfl⟩,⟨rfl,rfl⟩,⟨rfl,rfl⟩,⟨rfl,rfl⟩,⟨rfl,rfl⟩,trivial⟩ ⟨⟨rfl,rfl⟩,⟨by dsimp only; rw [hfi]; rfl,by (try dsimp only); rw [hfi]; rfl⟩,⟨by rw [Qb3 hrow.ext]; rfl,hrow.clo _ _⟩,trivial⟩ (by decide) (Nat.le_refl _),⟨by omega,by rw [hg']; exact hgl',by rw [hg']; exact hrow⟩,by simp only [rfM]; omega⟩
  ·have hd:decide ((i:Int) < (len:Int))=false:=by simp; omega
   have:i=len:=by omega
   subst this
   have hgi:=hgl i
   have hI:∀ r∈goods s0 rs i,Ints x2 r.a r.len r.zs:=fun r hr=>by
    obtain ⟨j,h1,rfl⟩:=QiP s0 rs i r hr
    exact (hr2 j h1).1
   unfold cfCells ntCells
   repeat' (first|((fail_if_success (with_reducible refine stk ?_));simp only [WE,segX,Nat.reduceBEq,Qai,Qav,hd]))
   refine callE' QaG (fun s=>(hGd _ (hT2.mono fun b o h=>.inl h) (some ⟨s 2,0,none⟩) g cg hgl' (by omega) (Qju hrow rfl hI)).1) ?_
   rintro v x3 x4 ⟨am,cm,rfl,hm⟩ hs1 hs2
   replace hm:=hm.mono hs2
   replace hn1:=hn1.mono hs1
   have hT4:=hT2.mono hs1
   have hr4:=hr2.mono hs1
   have hI4:=fun r hr=>QgR (hI r hr) hs1
   clear hs1 hs2
   repeat' (first|((fail_if_success (with_reducible refine stk ?_));simp only [WE,segX,Nat.reduceBEq,Qai]))
   refine callE QbU rfl (hE _ hT4 hr4) ?_
   rintro v x5 x6 ⟨a5,c5,rfl,hu5⟩ hs1 hs2
   replace hu5:=hu5.mono hs2
   replace hm:=hm.mono hs1
   replace hn1:=hn1.mono hs1
   have hT6:=hT4.mono hs1
   have hI6:=fun r hr=>QgR (hI4 r hr) hs1
   clear hs1 hs2
   repeat' (first|((fail_if_success (with_reducible refine stk ?_));simp only [WE,segX,Nat.reduceBEq,Nat.reduceAdd,Nat.reduceEqDiff,Qai,Qaj,Qau]))
   refine callE' QbU (fun s=>(hGd _ (hT6.mono fun b o h=>.inl h) (some ⟨s 2,0,none⟩) g cg hgl' (by omega) (Qju hrow rfl hI6)).2) ?_
   rintro v x7 x8 ⟨a7,c7,rfl,hu7⟩ hs1 hs2
   replace hu7:=hu7.mono hs2
   replace hu5:=hu5.mono hs1
   replace hm:=hm.mono hs1
   replace hn1:=hn1.mono hs1
   clear hs1 hs2
   have hWr:=QhY (cap:=cm) (by omega) rfl hm
   have hWz:((G.length:Int) - (wins G).length)=0:=by rw [hwa]; omega
   rw [hWz] at hWr
   repeat' (first|((with_reducible show callW _ _ _ (some (46,_)) _ _);refine callP QgJ rfl (hWr) ?_)|((fail_if_success (with_reducible refine stk ?_));simp only [WE,Nat.reduceBEq,Nat.reduceAdd,Nat.reduceEqDiff,Qaj,Qau]))
   refine callE Qdp rfl (Qej (cap:=cm) (by omega) rfl hm) ?_
   rintro v x9 x10 ⟨a9,c9,rfl,hw9⟩ hs1 hs2
   replace hw9:=hw9.mono hs2
   replace hn1:=hn1.mono hs1
   replace hu5:=hu5.mono hs1
   replace hu7:=hu7.mono hs1
   clear hs1 hs2
   repeat' (first|((fail_if_success (with_reducible refine stk ?_));simp only [WE,Nat.reduceBEq]))
   refine callE Qdp rfl (Qej (cap:=c1) (by omega) hll hn1) ?_
   rintro v x11 x12 ⟨a11,c11,rfl,hw11⟩ hs1 hs2
   replace hw11:=hw11.mono hs2
   replace hw9:=hw9.mono hs1
   replace hu5:=hu5.mono hs1
   replace hu7:=hu7.mono hs1
   clear hs1 hs2
   rw [hwf] at hw9 ⊢
   have hNm:=QhX (m1:=c9) (m2:=c11) rfl (by have:=QfH l; omega) hw9 hw11
   have hSm:=Qei cur (by omega) hu5 hu7
   unfold Es.v Es.cells at hSm
   repeat' (first|((with_reducible show callW _ _ _ (some (24,_)) _ _);refine callP Qew rfl (hSm) ?_)|((with_reducible show callW _ _ _ (some (44,_)) _ _);refine callP QgG rfl (hNm) ?_)|((fail_if_success (with_reducible refine stk ?_));simp only [WE,segX,Nat.reduceBEq,Qaj,Qhg]))
theorem QCB {x:Nat→Obj→Prop} (hT:TensX x) (c:Cf) {ad:Option Addr} {len cap:Nat} {rs:Nat→Raw} (hok:c.ok=false) (h60:len≤60) (hF:PureC Tryz.prog x 19 [.slice ad len cap,.int .i64 60] (.bool true)) (hr:Raws x ad len rs):PureC Tryz.prog x 13 [c.v,.slice ad len cap] (.bool true):=by
 refine Qab Tryz.func13 rfl rfl fun w=>?_
 refine Qaa (by kernel_rfl) ?_
 have hP:=Qa4 (cap:=cap) c hT (by omega) hr
 unfold PlayNR plNotes at hP
 rw [if_neg (by simp [hok])] at hP
 unfold Cf.v at hP
 unfold Cf.v
 have q0:((([]:List Nt).length:Int) == 0)=true:=rfl
 have q1:(((0:Nat):Int) == 0)=true:=rfl
 repeat' (first|((with_reducible show callW _ _ _ (some (19,_)) _ _);refine callP QaZ rfl (hF) ?_)|((with_reducible show callW _ _ _ (some (40,_)) _ _);refine callP Qbz rfl (Qbx hT) ?_)|((fail_if_success (with_reducible refine stk ?_));simp only [WE,segX,Nat.reduceBEq,Nat.reduceAdd,Qai]))
 refine callE QaG rfl hP ?_
 rintro v x1 x2 ⟨a1,c1,rfl,hn1⟩ hs1 hs2
 repeat' (first|((fail_if_success (with_reducible refine stk ?_));simp only [WE,Nat.reduceBEq,Int.reduceBNe,Qav,Qhg,q1]))
theorem QBT:∀ (x:Nat→Obj→Prop) (vs:List Value),XLaid x→Shvs x [.r (.cons 1 (.i .i64) (.cons 1 (.i .i64) (.cons 1 (.i .i64) (.cons 1 (.i .i64) (.cons 1 (.i .i64) (.cons 1 (.i .i64) (.cons 1 (.i .i64) (.nil)))))))),.v 1 (.v 1 (.i .i64))] vs→PureC Tryz.prog x 13 vs (.bool true):=by
 intro x vs hx hv
 rcases vs with _ | ⟨v0,_ | ⟨v1,_ | ⟨v2,vs⟩⟩⟩ <;> simp only [Shvs,and_false] at hv
 obtain ⟨h0,h1,_⟩:=hv
 obtain ⟨c,rfl,_⟩:=Qd9 h0
 obtain ⟨a,len,cap,rs,rfl,g1,g2,g3⟩:=Qea h1
 have hT:=hx.1
 have hF:=QcJ (x:=x) (cap:=cap) (most:=60) (by unfold maxLen at g2; omega) g3
 cases hf:fewB rs len 60 with
 | false=>
  rw [hf] at hF
  refine Qab Tryz.func13 rfl rfl fun w=>?_
  refine Qaa (by kernel_rfl) ?_
  unfold Cf.v
  repeat' (first|((with_reducible show callW _ _ _ (some (19,_)) _ _);refine callP QaZ rfl (hF) ?_)|((with_reducible show callW _ _ _ (some (40,_)) _ _);refine callP Qbz rfl (Qbx hT) ?_)|((fail_if_success (with_reducible refine stk ?_));simp only [WE,Nat.reduceBEq,Nat.reduceAdd,Qhg]))
 | true=>
  rw [hf] at hF
  have h60:=Qdi hf
  cases hok:c.ok with
  | true=>exact QCC hT c hok (by omega) hF g3
  | false=>exact QCB hT c hok (by omega) hF g3
end Go.Proofs.YtkokohkbhlnjkaaGreatDoor
namespace Go.Proofs.YtkokohkbhlnjkaaGreatDoor
set_option linter.unusedVariables false
set_option linter.unusedSimpArgs false
open Go Go.RowKit Go.ChangeShapes Go.WideShapes Go.ChangeAt Go.Proofs.YtkokohkbhlnjkaaGreatDoor.R
set_option maxRecDepth 100000
theorem replayRefused_lifted (os:Os) (started:os.Started) (H:Type) (enc:TypeId×Value→H) :
  ReturnsInLeavingWide {} Tryz.checked os 13 .any (Rows.replayRefusedRow.pre enc Tryz.prog Tryz.f13 (OpenSpec.ofChange Rows.replayRefusedSpec)) (Rows.replayRefusedSpec.post enc Tryz.prog Tryz.f13 false true false false):=
 Qd7 (C:=Tryz.checked) (s:=Rows.replayRefusedSpec) (conds:=[]) (l:=Rows.replayRefusedRow.laid) (Xs:=XLaid) (tb:=4) (ys:=[.r (.cons 1 (.i .i64) (.cons 1 (.i .i64) (.cons 1 (.i .i64) (.cons 1 (.i .i64) (.cons 1 (.i .i64) (.cons 1 (.i .i64) (.cons 1 (.i .i64) (.nil)))))))),.v 1 (.v 1 (.i .i64))]) (by kernel_rfl) own_ started (by kernel_rfl) Tryz.func13
  (ChangeSpec.witness_shaped (enc:=enc) (C:=Tryz.checked) (os:=os) (X:=fun w _=>laidMetH Tryz.prog Rows.replayRefusedRow.laid w) false (World.laidAll Tryz.prog os Rows.replayRefusedRow.laid) #[.agg #[.int .i64 0,.int .i64 0,.int .i64 0,.int .i64 0,.int .i64 0,.int .i64 0,.int .i64 0],.slice none 0 0] 8 (World.laidAll_os _ _ _)
   (World.shaped_of_ZipB (by kernel_rfl) (by kernel_rfl)) (by kernel_rfl) (by kernel_rfl) (by kernel_rfl)
   (by rw [MakeChecks.laidMetH_plain _ _ _ (by kernel_rfl)]; exact laidMet_laidAll _ (by kernel_rfl) (by kernel_rfl)))
  rfl QbA (by kernel_rfl) rfl Tryz.underlying4
  (fun ds hd=>by match ds,hd with | [d0,d1],_=>exact ⟨rfl,rfl,rfl⟩)
  (by kernel_rfl) Qdq (fun x vs hT h=>QBT x vs hT h)
set_option maxHeartbeats 8000000 in
theorem replayRefused_closed:joinedFacts Tryz.checked.prog 13 Tryz.f13 Rows.replayRefusedSpec Rows.replayRefusedRow=true:=by
 unfold joinedFacts
 simp only [Bool.and_eq_true]
 repeat' apply And.intro
 all_goals first | (with_reducible exact QbA) | (as_aux_lemma=>kernel_rfl)
theorem replayRefused_named:Tryz.checked.prog.funcNamed Rows.replayRefusedRow.func=some 13:=by kernel_rfl
theorem replayRefused_inst:Tryz.f13.isInstance Tryz.checked.prog Rows.replayRefusedRow.origin Rows.replayRefusedRow.targs:=of_decide_eq_true (by kernel_rfl)
theorem replayRefused_wrap:Tryz.f13.isWrapper Tryz.checked.prog Rows.replayRefusedRow.wrapper Rows.replayRefusedRow.mainSum:=by unfold Func.isWrapper; first | (rw [if_pos (by decide +kernel)]; kernel_rfl) | (rw [if_neg (by decide +kernel)]; exact ⟨rfl,rfl⟩)
theorem replayRefused_said:Rows.ReplayRefusedSaid:=
 OpenClaim.holds_of_wide_leaving 13 Tryz.f13 rfl rfl rfl rfl rfl rfl rfl ⟨rfl,rfl,rfl,rfl,rfl⟩ rfl rfl rfl rfl rfl replayRefused_named Tryz.func13 replayRefused_closed
  replayRefused_inst replayRefused_wrap (fun os started H enc _=>replayRefused_lifted os started H enc)
theorem replayRefused_goes:true=Rows.replayRefusedRow.goesBy Tryz.pinned.checked.prog:=by kernel_rfl
theorem replayRefused_wf:Rows.replayRefusedRow.wfByText (OpenSpec.ofChange Rows.replayRefusedSpec)=true:=by kernel_rfl
theorem replayRefused_wants:([23,24].all fun u=>!Tryz.prog.wantsStandIn u)=true:=by kernel_rfl
theorem replayRefused_holds:Rows.ReplayRefusedCardSaid:=
 Qdf [.data] true (true, "9743dcc7216159cedf5af689d9831578d52e7622345c3cbb87c8bebbc0866563") true
  replayRefused_said replayRefused_wf replayRefused_row_tie rfl ⟨rfl,rfl⟩ Qd3 rfl
  (fun f fn hf hfn=>by
   obtain rfl:f=13:=Option.some.inj (hf.symm.trans replayRefused_named)
   obtain rfl:fn=Tryz.f13:=(Option.some.inj (Tryz.func13.symm.trans hfn)).symm
   exact ⟨QdU,fun j t ht=>by
    rw [Tryz.params13] at ht
    have hm:t∈[23,24]:=by simpa using Array.mem_of_getElem? ht
    exact (show Tryz.prog.wantsStandIn t=false by simpa using List.all_eq_true.1 replayRefused_wants t hm)⟩)
  replayRefused_goes
#print axioms replayRefused_holds
end Go.Proofs.YtkokohkbhlnjkaaGreatDoor
