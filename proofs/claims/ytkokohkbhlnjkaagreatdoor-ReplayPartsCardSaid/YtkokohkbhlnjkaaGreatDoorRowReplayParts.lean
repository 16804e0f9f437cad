/- 'sawtoothlaw22.ReplayParts': for every input the call returns true, and each argument reads as it did: the tied card. Conditions: the listed variable holds what the program's text lays. -/
import Derived.Test.YtkokohkbhlnjkaaGreatDoorMa6
import Derived.Test.YtkokohkbhlnjkaaGreatDoorCards
import Derived.Test.YtkokohkbhlnjkaaGreatDoorTie
namespace Go.Proofs.YtkokohkbhlnjkaaGreatDoor
set_option linter.unusedVariables false
set_option linter.unusedSimpArgs false
open Go Go.RowKit Go.Proofs.YtkokohkbhlnjkaaGreatDoor.R
set_option maxRecDepth 50000
set_option maxHeartbeats 8000000
theorem Qrh (s:Es) (rs:Nat→Raw) (k:Nat):∀ d,(playUp s rs (k+d)).2.take k=(playUp s rs k).2
 | 0=>by rw [Nat.add_zero,List.take_of_length_le (by rw [QcZ]; exact Nat.le_refl _)]
 | d+1=>by
  have hl:=QcZ s rs (k+d)
  show ((playUp s rs (k+d)).2 ++ _).take k=_
  rw [List.take_append_of_le_length (by omega)]
  exact Qrh s rs k d
theorem QB0 {c:Cf} {rs:Nat→Raw} {k n:Nat} (h:c.ok=true) (hk:k≤n):(plNotes c rs n).1.take k=(plNotes c rs k).1:=by
 unfold plNotes
 rw [if_pos h,if_pos h]
 obtain ⟨d,rfl⟩:=Nat.exists_eq_add_of_le hk
 show ((playUp (esNew c).1 rs (k+d)).2.map noteOf).take k=_
 rw [←List.map_take,Qrh]
theorem Qp9:∀ (l:List Nt) (m:Nat),(ntVals l).take (m * 6)=ntVals (l.take m)
 | [],m=>by simp [ntVals]
 | e :: l,0=>by simp [ntVals]
 | e :: l,m+1=>by
  simp only [ntVals,ntRow,List.take_succ_cons,show (m+1) * 6=m * 6+6 by omega,List.cons_append,List.nil_append]
  rw [Qp9 l m]
def slA (a:Option Addr) (cap:Nat):Option Addr:=if cap=0 then a else a.map (·.add 0)
theorem QFG {P:Program} {t e:TypeId} {a:Option Addr} {len cap:Nat} {k:IntKind} {z:Int} {K:Value→Prop} (ht:P.underlying t=some (.slice e)) (hi:(P.info? e).isSome=true) (hz:0≤z∧z≤cap) (h:K (.slice (slA a cap) z.toNat cap)) :
  pureW P (Instr.sliceAt t (.slice a len cap) none (some (.int k z)) none) K:=by
 obtain ⟨i,hi⟩:=Option.isSome_iff_exists.1 hi
 have hz':0≤z∧z≤(cap:Int):=hz
 refine ⟨_,fun w=>⟨?_,?_⟩,h⟩
 ·simp [Instr.sliceAt,Instr.slice,run_underlying ht,Instr.sliceBounds,Instr.sliceBound,asIntOf,hz',sizeOf,typeInfo,hi,slA]
 ·simp [Instr.sliceAt,Instr.slice,run_underlying ht,Instr.sliceBounds,Instr.sliceBound,asIntOf,hz',sizeOf,typeInfo,hi,slA]
theorem Qhm {P:Program} {t e:TypeId} {a:Option Addr} {len cap:Nat} {k:IntKind} {z:Int} {K:Value→Prop} (ht:P.underlying t=some (.slice e)) (hi:(P.info? e).isSome=true) (hz:0≤z∧z≤cap) (h:K (.slice (slA a cap) z.toNat cap)) :
  pureW P (Instr.sliceAt t (.slice a len cap) ([]:List Value)[0]? [Value.int k z][0]? ([]:List Value)[0]?) K:=QFG ht hi hz h
theorem QsB {b off:Nat} {cap:Nat}:slA (some ⟨b,off,none⟩) cap=some ⟨b,off,none⟩:=by
 unfold slA
 split
 ·rfl
 ·rw [Option.map_some,Addr.add_lit,Nat.add_zero]
theorem Raws.cut {x:Nat→Obj→Prop} {a:Option Addr} {len k cap:Nat} {rs:Nat→Raw} (h:Raws x a len rs) (hk:k≤len):Raws x (slA a cap) k rs:=fun i hi=>by
 obtain ⟨h1,b,off,c,T,f,rfl,h3,h4⟩:=h i (by omega)
 exact ⟨h1,b,off,c,T,f,QsB,h3,h4⟩
theorem RowAt.cut {x:Nat→Obj→Prop} {a:Option Addr} {z n cap m:Nat} {vals:List Value} (h:RowAt x a z n cap vals) (hm:m≤n):RowAt x a z m cap (vals.take (m * z)):=by
 obtain ⟨h1,h2⟩:=h
 have hz:m * z≤n * z:=Nat.mul_le_mul_right _ hm
 refine ⟨by rw [List.length_take]; omega,?_⟩
 rcases h2 with ⟨q1,q2,q3⟩ | ⟨b,c,T,f,q1,q2,q3,q4,q5⟩
 ·exact .inl ⟨q1,by omega,q3⟩
 ·refine .inr ⟨b,c,T,f,q1,q2,?_,by omega,q5⟩
  rw [←q3,List.take_take,Nat.min_eq_left hz]
theorem RowAt.len_cap {x:Nat→Obj→Prop} {a:Option Addr} {z n cap:Nat} {vals:List Value} (h:RowAt x a z n cap vals):n≤cap:=by
 rcases h.2 with ⟨_,h2,h3⟩ | ⟨_,_,_,_,_,_,_,h4,_⟩
 ·omega
 ·exact h4
theorem RowAt.slA {x:Nat→Obj→Prop} {a:Option Addr} {z n cap:Nat} {vals:List Value} (h:RowAt x a z n cap vals):slA a cap=a:=by
 rcases h.2 with ⟨rfl,_⟩ | ⟨b,c,T,f,rfl,_⟩
 ·unfold Go.Proofs.YtkokohkbhlnjkaaGreatDoor.slA; split <;> rfl
 ·exact QsB
end Go.Proofs.YtkokohkbhlnjkaaGreatDoor
namespace Go.Proofs.YtkokohkbhlnjkaaGreatDoor
set_option linter.unusedVariables false
set_option linter.unusedSimpArgs false
open Go Go.RowKit Go.Proofs.YtkokohkbhlnjkaaGreatDoor.R
set_option maxRecDepth 50000
set_option maxHeartbeats 8000000
theorem QBY {x:Nat→Obj→Prop} (hT:TensX x) (c:Cf) {ad:Option Addr} {len cap:Nat} {rs:Nat→Raw} {cut:Int} (bc:0≤cut∧cut≤255) (hl:len≤cap) (hc:cap≤maxLen) (hr:Raws x ad len rs):PureC Tryz.prog x 15 [c.v,.slice ad len cap,.int .u8 cut] (.bool true):=by
 have hF:=QcJ (x:=x) (cap:=cap) (most:=60) (by unfold maxLen at hc; omega) hr
 refine Qab Tryz.func15 rfl rfl fun w=>?_
 refine Qaa (by kernel_rfl) ?_
 cases hf:fewB rs len 60 with
 | false=>
  rw [hf] at hF
  unfold Cf.v
  repeat' (first|((with_reducible show callW _ _ _ (some (19,_)) _ _);refine callP QaZ rfl (hF) ?_)|((with_reducible show callW _ _ _ (some (40,_)) _ _);refine callP Qbz rfl (Qbx hT) ?_)|((fail_if_success (with_reducible refine stk ?_));simp only [WE,Nat.reduceBEq,Nat.reduceAdd,QjD]))
 | true=>
  rw [hf] at hF
  have h60:=Qdi hf
  have et:wr .i64 cut=cut:=Qag (by omega) (by omega)
  have e1:wr .i64 ((len:Int)+1)=(len:Int)+1:=Qag (by omega) (by omega)
  have g0:((len:Int)+1)≠0:=by omega
  obtain ⟨kk,hk,hkl⟩:∃ kk:Nat,cut.tmod ((len:Int)+1)=(kk:Int)∧kk≤len:=by
   have h1:=Int.tmod_nonneg ((len:Int)+1) bc.1
   have h2:=Int.tmod_lt_of_pos cut (show (0:Int) < (len:Int)+1 by omega)
   exact ⟨(cut.tmod ((len:Int)+1)).toNat,by omega,by omega⟩
  have hP:=fun (y:Nat→Obj→Prop) (hy:TensX y) (hry:Raws y ad len rs)=>Qa4 (cap:=cap) c hy (by omega) hry
  have hK:=fun (y:Nat→Obj→Prop) (hy:TensX y) (hry:Raws y ad len rs)=>Qa4 (cap:=cap) (len:=kk) (ad:=slA ad cap) c hy (by omega) (hry.cut hkl)
  unfold PlayNR at hP hK
  unfold Cf.v at hP hK
  unfold Cf.v
  cases hok:c.ok with
  | false=>
   have hz:∀ n,plNotes c rs n=([],210):=fun n=>by unfold plNotes; rw [if_neg (by simp [hok])]
   rw [hz] at hP hK
   have z1:((210:Int) != 0)=true:=rfl
   have z2:((210:Int) == 210)=true:=rfl
   repeat' (first|((with_reducible show callW _ _ _ (some (19,_)) _ _);refine callP QaZ rfl (hF) ?_)|((with_reducible show callW _ _ _ (some (40,_)) _ _);refine callP Qbz rfl (Qbx hT) ?_)|((fail_if_success (with_reducible refine stk ?_));simp only [WE,segX,Nat.reduceBEq,Nat.reduceAdd,Qai,Qh5,QaM,et,e1,QfR g0,hk]))
   refine callE QaG rfl (hP _ hT hr) ?_
   rintro v x1 x2 ⟨a1,c1,rfl,hn1⟩ hs1 hs2
   have hT2:TensX x2:=hT.mono hs1
   have hr2:=hr.mono hs1
   clear hs1 hs2
   repeat' (first|((with_reducible show cW _ _ (.region 6 _ true) _ _);refine QeX Qpn (by kernel_rfl) Qaf (by kernel_rfl) ?_)|((fail_if_success (with_reducible refine stk ?_));simp only [WE,segX,Nat.reduceBEq,Qai]))
   refine Qhm (e:=28) Tryz.underlying24 (by kernel_rfl) ⟨by omega,by omega⟩ ?_
   rw [Int.toNat_natCast]
   repeat' (first|((fail_if_success (with_reducible refine stk ?_));simp only [WE,Nat.reduceBEq]))
   refine callE QaG rfl (hK _ hT2 hr2) ?_
   rintro v x3 x4 ⟨a3,c3,rfl,hn3⟩ hs1 hs2
   have hT4:TensX x4:=hT2.mono hs1
   have hr4:=hr2.mono hs1
   have hs3:=hs1
   clear hs1 hs2
   repeat' (first|(with_reducible refine And.intro ?_ ?_)|(((with_reducible show xsub _ _); exact hs3))|((fail_if_success (with_reducible refine stk ?_));simp only [WE,segX,Nat.reduceBEq,Qai]))
   refine callE QaG rfl (hP _ hT4 hr4) ?_
   rintro v x5 x6 ⟨a5,c5,rfl,hn5⟩ hs1 hs2
   repeat' (first|((fail_if_success (with_reducible refine stk ?_));simp only [WE,Nat.reduceBEq,QjD,z1]))
  | true=>
   obtain ⟨l,hl'⟩:∃ l,(plNotes c rs len).1=l:=⟨_,rfl⟩
   have e0:∀ n,(plNotes c rs n).2=0:=fun n=>by unfold plNotes; rw [if_pos hok]
   have hll:l.length=len:=by rw [←hl']; exact QcY hok
   have hkl':(plNotes c rs kk).1=l.take kk:=by rw [←hl',QB0 hok hkl]
   have hlk:(l.take kk).length=kk:=by rw [List.length_take]; omega
   rw [e0,hl',hll] at hP
   rw [e0,hkl',hlk] at hK
   have z1:((0:Int) != 0)=false:=rfl
   have z2:((0:Int) == 0)=true:=rfl
   repeat' (first|((with_reducible show callW _ _ _ (some (19,_)) _ _);refine callP QaZ rfl (hF) ?_)|((with_reducible show callW _ _ _ (some (40,_)) _ _);refine callP Qbz rfl (Qbx hT) ?_)|((fail_if_success (with_reducible refine stk ?_));simp only [WE,segX,Nat.reduceBEq,Nat.reduceAdd,Qai,Qh5,QaM,et,e1,QfR g0,hk]))
   refine callE QaG rfl (hP _ hT hr) ?_
   rintro v x1 x2 ⟨a1,c1,rfl,hn1⟩ hs1 hs2
   have hT2:TensX x2:=hT.mono hs1
   have hr2:=hr.mono hs1
   replace hn1:=hn1.mono hs2
   clear hs1 hs2
   repeat' (first|((with_reducible show cW _ _ (.region 6 _ true) _ _);refine QeX Qpn (by kernel_rfl) Qaf (by kernel_rfl) ?_)|((fail_if_success (with_reducible refine stk ?_));simp only [WE,segX,Nat.reduceBEq,Qai]))
   refine Qhm (e:=28) Tryz.underlying24 (by kernel_rfl) ⟨by omega,by omega⟩ ?_
   rw [Int.toNat_natCast]
   repeat' (first|((fail_if_success (with_reducible refine stk ?_));simp only [WE,Nat.reduceBEq]))
   refine callE QaG rfl (hK _ hT2 hr2) ?_
   rintro v x3 x4 ⟨a3,c3,rfl,hn3⟩ hs1 hs2
   have hT4:TensX x4:=hT2.mono hs1
   have hr4:=hr2.mono hs1
   replace hn1:=hn1.mono hs1
   replace hn3:=hn3.mono hs2
   have hs3:=hs1
   clear hs1 hs2
   repeat' (first|(with_reducible refine And.intro ?_ ?_)|(((with_reducible show xsub _ _); exact hs3))|((fail_if_success (with_reducible refine stk ?_));simp only [WE,segX,Nat.reduceBEq,Qai]))
   refine callE QaG rfl (hP _ hT4 hr4) ?_
   rintro v x5 x6 ⟨a5,c5,rfl,hn5⟩ hs1 hs2
   replace hn1:=hn1.mono hs1
   replace hn3:=hn3.mono hs1
   replace hn5:=hn5.mono hs2
   clear hs1 hs2
   have hsl:=hn1.slA
   have hcp:=hn1.len_cap
   have q1:=hn1.cut hkl
   rw [Qp9] at q1
   have k1:=Qf3 (m1:=c3) (m2:=c1) hlk (by omega) hn3 q1
   have k3:=Qf3 (m1:=c5) (m2:=c1) hll (by omega) hn5 hn1
   repeat' (first|(with_reducible refine Qhm (e:=54) Tryz.underlying29 (by kernel_rfl) ⟨by omega,by omega⟩ ?_)|((with_reducible show callW _ _ _ (some (21,_)) _ _);refine callP QgH rfl (k1) ?_)|((with_reducible show callW _ _ _ (some (21,_)) _ _);refine callP QgH rfl (k3) ?_)|((fail_if_success (with_reducible refine stk ?_));simp only [WE,Nat.reduceBEq,QaM,Qav,QjD,z1,hsl,Int.toNat_natCast]))
theorem QBS:∀ (x:Nat→Obj→Prop) (vs:List Value),XLaid x→Shvs x [.r (.cons 1 (.i .i64) (.cons 1 (.i .i64) (.cons 1 (.i .i64) (.cons 1 (.i .i64) (.cons 1 (.i .i64) (.cons 1 (.i .i64) (.cons 1 (.i .i64) (.nil)))))))),.v 1 (.v 1 (.i .i64)),.i .u8] vs→PureC Tryz.prog x 15 vs (.bool true):=by
 intro x vs hx hv
 rcases vs with _ | ⟨v0,_ | ⟨v1,_ | ⟨v2,_ | ⟨v3,vs⟩⟩⟩⟩ <;> simp only [Shvs,and_false] at hv
 obtain ⟨h0,h1,⟨cut,rfl,wc⟩,_⟩:=hv
 obtain ⟨c,rfl,_⟩:=Qd9 h0
 obtain ⟨a,len,cap,rs,rfl,g1,g2,g3⟩:=Qea h1
 have bc:0≤cut∧cut≤255:=by
  simp [Lit.wf,IntKind.min,IntKind.max,IntKind.signed,IntKind.bits] at wc
  omega
 exact QBY hx.1 c bc g1 g2 g3
end Go.Proofs.YtkokohkbhlnjkaaGreatDoor
namespace Go.Proofs.YtkokohkbhlnjkaaGreatDoor
set_option linter.unusedVariables false
set_option linter.unusedSimpArgs false
open Go Go.RowKit Go.ChangeShapes Go.WideShapes Go.ChangeAt Go.Proofs.YtkokohkbhlnjkaaGreatDoor.R
set_option maxRecDepth 100000
theorem replayParts_lifted (os:Os) (started:os.Started) (H:Type) (enc:TypeId×Value→H) :
  ReturnsInLeavingWide {} Tryz.checked os 15 .any (Rows.replayPartsRow.pre enc Tryz.prog Tryz.f15 (OpenSpec.ofChange Rows.replayPartsSpec)) (Rows.replayPartsSpec.post enc Tryz.prog Tryz.f15 false true false false):=
 Qd7 (C:=Tryz.checked) (s:=Rows.replayPartsSpec) (conds:=[]) (l:=Rows.replayPartsRow.laid) (Xs:=XLaid) (tb:=4) (ys:=[.r (.cons 1 (.i .i64) (.cons 1 (.i .i64) (.cons 1 (.i .i64) (.cons 1 (.i .i64) (.cons 1 (.i .i64) (.cons 1 (.i .i64) (.cons 1 (.i .i64) (.nil)))))))),.v 1 (.v 1 (.i .i64)),.i .u8]) (by kernel_rfl) own_ started (by kernel_rfl) Tryz.func15
  (ChangeSpec.witness_shaped (enc:=enc) (C:=Tryz.checked) (os:=os) (X:=fun w _=>laidMetH Tryz.prog Rows.replayPartsRow.laid w) false (World.laidAll Tryz.prog os Rows.replayPartsRow.laid) #[.agg #[.int .i64 0,.int .i64 0,.int .i64 0,.int .i64 0,.int .i64 0,.int .i64 0,.int .i64 0],.slice none 0 0,.int .u8 0] 8 (World.laidAll_os _ _ _)
   (World.shaped_of_ZipB (by kernel_rfl) (by kernel_rfl)) (by kernel_rfl) (by kernel_rfl) (by kernel_rfl)
   (by rw [MakeChecks.laidMetH_plain _ _ _ (by kernel_rfl)]; exact laidMet_laidAll _ (by kernel_rfl) (by kernel_rfl)))
  rfl QbA (by kernel_rfl) rfl Tryz.underlying4
  (fun ds hd=>by match ds,hd with | [d0,d1,d2],_=>exact ⟨rfl,rfl,rfl⟩)
  (by kernel_rfl) Qdq (fun x vs hT h=>QBS x vs hT h)
set_option maxHeartbeats 8000000 in
theorem replayParts_closed:joinedFacts Tryz.checked.prog 15 Tryz.f15 Rows.replayPartsSpec Rows.replayPartsRow=true:=by
 unfold joinedFacts
 simp only [Bool.and_eq_true]
 repeat' apply And.intro
 all_goals first | (with_reducible exact QbA) | (as_aux_lemma=>kernel_rfl)
theorem replayParts_named:Tryz.checked.prog.funcNamed Rows.replayPartsRow.func=some 15:=by kernel_rfl
theorem replayParts_inst:Tryz.f15.isInstance Tryz.checked.prog Rows.replayPartsRow.origin Rows.replayPartsRow.targs:=of_decide_eq_true (by kernel_rfl)
theorem replayParts_wrap:Tryz.f15.isWrapper Tryz.checked.prog Rows.replayPartsRow.wrapper Rows.replayPartsRow.mainSum:=by unfold Func.isWrapper; first | (rw [if_pos (by decide +kernel)]; kernel_rfl) | (rw [if_neg (by decide +kernel)]; exact ⟨rfl,rfl⟩)
theorem replayParts_said:Rows.ReplayPartsSaid:=
 OpenClaim.holds_of_wide_leaving 15 Tryz.f15 rfl rfl rfl rfl rfl rfl rfl ⟨rfl,rfl,rfl,rfl,rfl⟩ rfl rfl rfl rfl rfl replayParts_named Tryz.func15 replayParts_closed
  replayParts_inst replayParts_wrap (fun os started H enc _=>replayParts_lifted os started H enc)
theorem replayParts_goes:true=Rows.replayPartsRow.goesBy Tryz.pinned.checked.prog:=by kernel_rfl
theorem replayParts_wf:Rows.replayPartsRow.wfByText (OpenSpec.ofChange Rows.replayPartsSpec)=true:=by kernel_rfl
theorem replayParts_wants:([23,24,5].all fun u=>!Tryz.prog.wantsStandIn u)=true:=by kernel_rfl
theorem replayParts_holds:Rows.ReplayPartsCardSaid:=
 Qdf [.data] true (true, "9743dcc7216159cedf5af689d9831578d52e7622345c3cbb87c8bebbc0866563") true
  replayParts_said replayParts_wf replayParts_row_tie rfl ⟨rfl,rfl⟩ Qd3 rfl
  (fun f fn hf hfn=>by
   obtain rfl:f=15:=Option.some.inj (hf.symm.trans replayParts_named)
   obtain rfl:fn=Tryz.f15:=(Option.some.inj (Tryz.func15.symm.trans hfn)).symm
   exact ⟨QdU,fun j t ht=>by
    rw [Tryz.params15] at ht
    have hm:t∈[23,24,5]:=by simpa using Array.mem_of_getElem? ht
    exact (show Tryz.prog.wantsStandIn t=false by simpa using List.all_eq_true.1 replayParts_wants t hm)⟩)
  replayParts_goes
#print axioms replayParts_holds
end Go.Proofs.YtkokohkbhlnjkaaGreatDoor
