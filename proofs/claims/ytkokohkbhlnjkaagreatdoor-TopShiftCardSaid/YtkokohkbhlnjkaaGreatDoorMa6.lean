/- The framework and the contracts of the program's functions, part 6: what each answers. Conditions: those that each names. -/
import Derived.Test.YtkokohkbhlnjkaaGreatDoorMa5
import Derived.Conc.LeavingOf
import Derived.ProofKit
import Derived.OpenShut
import Derived.LaidMore
import Derived.Lay
import Derived.SevenTiedAt
import Derived.LaidSub
import Derived.Test.YtkokohkbhlnjkaaGreatDoorRows
import Derived.Conc.Quits
import Derived.Conc.EventLaws
namespace Go.Proofs.YtkokohkbhlnjkaaGreatDoor
set_option linter.unusedVariables false
set_option linter.unusedSimpArgs false
open Go
open Go.Conc
namespace R
def WM.root (w:World):WM:=⟨w,fun b=>b < w.heap.size,fun _=>False,⟨0,[],none,false⟩⟩
theorem QCd {P:Program} {Stop:Goroutine→WM→Prop} {g:Goroutine} {w:WM} (h:Run P Stop g w):Pool P Stop [(g,w)]:=QCa h [] QCc
theorem QzW {P:Program} {g:Goroutine} {W:World} (hs:g.status=.running):Inv P [(g,WM.root W)] #[g] W #[]:=by
 have hv:vw (WM.root W)=⟨fun b=>b < W.heap.size,fun _=>False,⟨0,[],none,false⟩⟩:=rfl
 have one:∀ u,LV [(g,WM.root W)] u→u=⟨fun b=>b < W.heap.size,fun _=>False,⟨0,[],none,false⟩⟩:=by
  rintro u ⟨e,he,rfl⟩
  obtain rfl:=List.mem_singleton.1 he
  exact hv
 have tt:∀ (i:Nat) (a:Touch),touchAt #[] i=some a→False:=fun i a h=>by simp [touchAt,Trace.act?] at h
 refine ⟨⟨?_,?_,?_,?_,?_,?_,?_,?_,?_,?_,?_,?_,?_⟩,⟨fun op hop=>by simp at hop,?_,fun i a b h=>(tt i a h).elim,fun u _ i a b h=>(tt i a h).elim,fun u _ k _ i a b h=>(tt i a h).elim,fun u _ d _ i a b h=>(tt i a h).elim,fun u _ i a b h=>(tt i a h).elim,fun u _ k _ i a b h=>(tt i a h).elim,fun i op h=>by simp at h⟩,⟨?_,?_,?_,by simp,?_,?_,?_,?_,?_,?_,⟨_,List.mem_singleton_self _,rfl⟩⟩⟩
 ·intro u v hu hv' _; rw [one u hu,one v hv']
 ·intro u hu b hb
  rw [one u hu] at hb
  rcases hb with (hb | ⟨k,hk,_⟩) | hb
  ·exact hb
  ·simp at hk
  ·exact hb.elim
 ·intro u v hu hv' hne; rw [one u hu,one v hv'] at hne; exact absurd rfl hne
 ·intro u v hu hv' hne; rw [one u hu,one v hv'] at hne; exact absurd rfl hne
 ·intro u v hu _ k hk; rw [one u hu] at hk; simp at hk
 ·intro u hu; rw [one u hu]; exact fun b _ hb=>hb
 ·intro u hu; rw [one u hu]; exact .nil
 ·intro u hu k hk; rw [one u hu] at hk; simp at hk
 ·intro u v hu _ k hk; rw [one u hu] at hk; simp at hk
 ·intro u hu hq; rw [one u hu] at hq; cases hq
 ·intro u hu _ h0; rw [one u hu] at h0; exact absurd rfl h0
 ·intro u hu _; rw [one u hu]
 ·intro u hu d hd; rw [one u hu] at hd; cases hd
 ·rintro said ⟨i,j,_,⟨a,b,ha,_⟩,_⟩; exact (tt i a ha).elim
 ·intro i hi
  have:i=0:=by simp at hi; exact hi
  subst this
  exact ⟨_,List.mem_singleton_self _,rfl⟩
 ·intro e he; obtain rfl:=List.mem_singleton.1 he; show 0 < (#[g]:Array Goroutine).size; simp
 ·intro e he k hk; obtain rfl:=List.mem_singleton.1 he; simp [WM.root] at hk
 ·intro e he; obtain rfl:=List.mem_singleton.1 he; exact ⟨g,rfl,.inl ⟨⟨rfl,rfl,rfl⟩,rfl,.inl hs⟩⟩
 ·intro e he; obtain rfl:=List.mem_singleton.1 he; exact Rely.refl _
 ·intro e he hq; obtain rfl:=List.mem_singleton.1 he; cases hq
 ·intro e he k hk; obtain rfl:=List.mem_singleton.1 he; simp [WM.root] at hk
 ·intro e he d hd; obtain rfl:=List.mem_singleton.1 he; cases hd
 ·intro e he f hf k rest hk; obtain rfl:=List.mem_singleton.1 he; simp [WM.root] at hk
theorem Qwo {P:Program} {f:FuncId} {args:Array Value} {W:World} {Post:Value→World→Prop} (hno:P.inits.idxOf? f=none)
  (h:Calls P f args (WM.root W) fun e w'=>∃ v,e=.returned v∧Post v w'.w∧w'.gh=(WM.root W).gh) :
  ∃ M last o w' t',runNT P (M+1) (solo (G (Frame.enter P f args .normal) []) W) #[]=(.ended o w',t')∧runN P M (solo (G (Frame.enter P f args .normal) []) W)=.next last∧step P last=.ended o w'∧Conc.Good P Post last o w' t':=by
 have hrun:Run P (AtEnd P Post) (G (Frame.enter P f args .normal) []) (WM.root W):=h [] _ fun fr w' hl=>.stop rfl fun w1 hr=>by
  obtain ⟨hfn,hl⟩:=hl
  obtain ⟨e,h1,v,rfl,h2,h3⟩:=hl w1 hr
  obtain ⟨g1,g2,g3,fn,g4,g5,g6⟩:=h1
  refine ⟨by rw [h3]; rfl,by rw [h3]; rfl,v,seen P fr.fn ((results fn fr.tmps).events P w1.w #[]),?_,fun e he=>g6 e (mem_seen he),Qp6,h2⟩
  have h5:P.inits.idxOf? fr.fn=none:=by rw [hfn]; exact hno
  simp [G,stepG,unwind,doReturn,g1,g2,g3,g4,g5,GStep.after,h5]
 exact (QCb (QCd hrun)).1 #[G (Frame.enter P f args .normal) []] W none #[] (QzW rfl)
end R
set_option linter.unusedVariables false
set_option linter.unusedSimpArgs false
open Go Go.RowKit Go.ChangeShapes Go.WideShapes Go.ChangeAt Go.Proofs.YtkokohkbhlnjkaaGreatDoor.R
set_option maxRecDepth 100000
namespace R
theorem QAl {P:Program} {w w':World} {l:List (String×DataW Unit)} (hn:(l.all fun x=>x.2.handleName?.isNone)=true) (hh:w.heap=w'.heap) (h:laidMetH P l w):laidMetH P l w':=by
 rw [MakeChecks.laidMetH_plain _ _ _ hn] at h ⊢
 exact h.of_heap hh
theorem QAp {H:Type} {enc:TypeId×Value→H} {a:Assume} {C:Checked} {os:Os} {f:FuncId} {fn:Func} {s:ChangeSpec} {conds:List PathCond} {apart fresh handsOn again:Bool} {X:World→Array Value→Prop}
  (hX:∀ (w w':World) (args:Array Value),w.heap=w'.heap→X w args→X w' args)
  (own:ownKnob C.prog.godebug=none) (started:os.Started) (noInit:C.prog.inits.idxOf? f=none) (hfn:C.prog.funcs[f]? = some fn)
  (witness:∃ (w:World) (tape:Tape) (i:Input),w.os=os∧(w.forCall tape i).Shaped C.prog∧i.vars=[]∧Input.okWide C.prog (w.forCall tape i) .any w.heap.size f i ∧
   ((s.pre enc C.prog fn conds apart (w.forCall tape i).memory i.args∧X (w.forCall tape i).memory i.args)∧sizedMet enc C.prog fn (OpenSpec.ofChange s) apart (w.forCall tape i).memory i.args)∧a.holds C.prog (lone (Frame.enter C.prog f i.args .normal) [] (w.forCall tape i)))
  (contract:∀ (W:World) (base:Nat) (args:Array Value) (ds gs:List (DataW H)) (before:List MemPlace),
   (∀ (j:Nat) t v,fn.params[j]? = some t→args[j]? = some v→Value.okWide C.prog W .any base t v) →
   DataW.Whole enc C.prog fn.params.toList s.vars apart W args.toList ds gs before →
   conds.all (PathCond.test C.prog ⟨fn.params.toList,ds,s.plain.varTypes C.prog,gs⟩)=true →
   (DataW.weightsEach C.prog (fn.params.toList ++ s.plain.varTypes C.prog) (ds ++ gs)).all (·≤reachBytes)=true→X W args →
   a.holds C.prog (lone (Frame.enter C.prog f args .normal) [] W) →
   R.Calls C.prog f args (WM.root W) fun e w'=>∃ v,e=.returned v∧s.post enc C.prog fn apart fresh handsOn again W args v w'.w∧w'.gh=(WM.root W).gh) :
  ReturnsInLeavingWide a C os f .any (fun w args=>(s.pre enc C.prog fn conds apart w args∧X w args)∧sizedMet enc C.prog fn (OpenSpec.ofChange s) apart w args) (s.post enc C.prog fn apart fresh handsOn again):=by
 refine returnsInLeavingWide_of_good own started witness ?_
 intro w tape i _ _ _ hok hpre hholds
 obtain ⟨_,_,_,fn',hfn',_,_,_,_,hval⟩:=hok
 have e:fn'=fn:=Option.some.inj (hfn'.symm.trans hfn)
 subst e
 obtain ⟨⟨⟨ds,gs,before,hw,hc⟩,hx⟩,hz⟩:=hpre
 have hw':=DataW.Whole.of_heap (w':=w.forCall tape i) (by rfl) hw
 obtain ⟨M,last,o,w',t',h1,h2,h3,h4⟩:=Qwo noInit (contract (w.forCall tape i) w.heap.size i.args ds gs before hval hw' hc (hz.weights hw) (hX _ _ _ (by rfl) hx) hholds)
 exact ⟨M,last,o,w',t',h1,h2,h3,h4.mono fun v hp=>ChangeSpec.post_blind hp⟩
theorem Qd7 {C:Checked} {os:Os} {f:FuncId} {fn:Func} {s:ChangeSpec} {H:Type} {enc:TypeId×Value→H} {conds:List PathCond} {tb:TypeId} {ys:List Ty} {l:List (String×DataW Unit)} {Xs:(Nat→Obj→Prop)→Prop}
  (hn:(l.all fun x=>x.2.handleName?.isNone)=true)
  (own:ownKnob C.prog.godebug=none) (started:os.Started) (noInit:C.prog.inits.idxOf? f=none) (hfn:C.prog.funcs[f]? = some fn)
  (witness:∃ (w:World) (tape:Tape) (i:Input),w.os=os∧(w.forCall tape i).Shaped C.prog∧i.vars=[]∧Input.okWide C.prog (w.forCall tape i) .any w.heap.size f i ∧
   ((s.pre enc C.prog fn conds false (w.forCall tape i).memory i.args∧laidMetH C.prog l (w.forCall tape i).memory)∧sizedMet enc C.prog fn (OpenSpec.ofChange s) false (w.forCall tape i).memory i.args)∧({}:Assume).holds C.prog (lone (Frame.enter C.prog f i.args .normal) [] (w.forCall tape i)))
  (hv:s.vars=[]) (hl:laidOutB C.prog=true) (hpar:fn.params.toList.all (fun t=>C.prog.readableRec t && decide (t < C.prog.types.size))=true)
  (hres:fn.resultTypes=#[tb]) (htb:C.prog.underlying tb=some .bool)
  (hsp:∀ ds:List (DataW H),ds.length=fn.params.toList.length→(s.fn H ds).results=[.lit (.bool true)]∧(s.fn H ds).args=ds∧(s.fn H ds).vars=[])
  (hys:tysOf C.prog fn.params.toList=some ys)
  (hX:∀ W:World,laidMetH C.prog l W→Xs (fun b o=>W.heap[b]? = some o))
  (hp:∀ (x:Nat→Obj→Prop) (vs:List Value),Xs x→Shvs x ys vs→PureC C.prog x f vs (.bool true)) :
  ReturnsInLeavingWide {} C os f .any (fun w args=>(s.pre enc C.prog fn conds false w args∧laidMetH C.prog l w)∧sizedMet enc C.prog fn (OpenSpec.ofChange s) false w args) (s.post enc C.prog fn false true false false):=by
 refine QAp (X:=fun w _=>laidMetH C.prog l w) (fun _ _ _ hh h=>QAl hn hh h) own started noInit hfn witness ?_
 intro W base args ds gs before hval hW _ _ hL _
 have hW':=hW
 obtain ⟨p,q,hA,hV,rfl,hfz,hnd⟩:=hW
 rw [hv] at hV
 obtain ⟨rfl,rfl⟩:=trodVars_none hV
 have hsh:=shvs _ _ _ _ _ base hys (fun j t v h1 h2=>hval j t v (by simpa using h1) (by simpa using h2)) hA
 have hlen:=QF4 _ _ _ _ hA
 refine ((hp _ _ (hX W hL) hsh).out (WM.root W) (fun b o hb=>⟨hb,.inl (Array.getElem?_eq_some_iff.1 hb).1⟩) (fun b hb=>hb.elim id False.elim)).mono fun e w' ⟨he,hf,hn'⟩=>?_
 have bel:Below W.heap.size W w'.w:=⟨hf.os,hf.tape,hf.output,hf.size,fun k hk=>hf.block k (.inl hk) hk (by simp)⟩
 subst he
 obtain ⟨s1,s2,s3⟩:=hsp ds hlen
 refine ⟨_,rfl,⟨ds,[],p ++ [],[],p,[],hW',?_,?_,?_,bel.frame _,fun h=>by cases h⟩,hf.gh⟩
 ·rw [List.append_nil,s1,hres]; exact trodAll_mk1 (shut_bool htb _)
 ·rw [List.append_nil,s2]; exact QF3 hl bel _ _ _ _ hpar hA
 ·rw [List.append_nil,s3,hv]; rfl
theorem Qdf {p:Pinned} {s:OpenSpec} {c:OpenClaim} (kinds:List LaidKind) (tests:Bool) (har:Bool×String) (lk:Bool)
  (hc:c.holds p s) (hw:c.wfByText s=true) (htie:c.laidByTextAt .later p kinds tests)
  (hst:c.start=.entering) (hnb:c.noBlocks=false∧c.again=false) (hm:p.checked.prog.mainIs=some (har.1,har.2.toList)) (hn:(!har.1 && har.2.isEmpty && !lk)=false)
  (hl:∀ f fn,p.checked.prog.funcNamed c.func=some f→p.checked.prog.funcs[f]? = some fn→lk=p.checked.prog.looks []∧∀ (j:Nat) t,fn.params[j]? = some t→p.checked.prog.wantsStandIn t=false)
  (hg:true=c.goesBy p.checked.prog) :
  Claim7.holds p (.plain s) { stood:={ row:=c,standIns:=[],harness:=har,looks:=lk },kinds:=[],alts:=[],goes:=true,laidByText:=true,laidKinds:=kinds,laidTests:=tests,laidLooks:=.later }:=by
 have h6:Claim7.isSixth { stood:={ row:=c,standIns:=[],harness:=har,looks:=lk },kinds:=[] }=false:=by simpa [Claim7.isSixth] using hn
 refine ⟨?_,(fun _ h=>by cases h),htie,(fun h=>by cases h),hg⟩
 obtain ⟨_,rest⟩:=Claim7.new_of_sixth hc har lk hst hnb hm h6 hl
 exact ⟨hw,rest⟩
end R
theorem QFV (W : World) (h : laidMetH Tryz.prog [("sawtooth/epoch.tens", Rows.laid_sawtooth_epoch_tens)] W) : TensX (fun b o => W.heap[b]? = some o) := by
 rw [MakeChecks.laidMetH_plain _ _ _ (by kernel_rfl)] at h
 obtain ⟨ps,⟨g,t,cs,fuel,p,q,hg,ht,hv,hd,_,_⟩,_,_⟩:=h
 obtain rfl := Option.some.inj ((show Tryz.prog.globalNamed "sawtooth/epoch.tens" = some 0 by kernel_rfl).symm.trans hg)
 obtain rfl:=Option.some.inj ((show (Tryz.prog.globals[0]?).map (·.type)=some 221 by kernel_rfl).symm.trans ht)
 obtain ⟨xs,m,_,ex,hcl,hl,hel⟩:=DataW.trod_array Tryz.underlying221 hd
 have c5:Tryz.prog.cellsOf 144=1:=by kernel_rfl
 have key:∀ r,r < 2→∃ z:Int,cs.toList[r]? = some (.int .u64 z)∧(xs.map (·.1))[r]? = some (.lit (.int .u64 z)):=fun r hr=>by
  have hE:=hel r (by omega)
  rw [c5,Nat.mul_one,List.getElem?_eq_getElem (by omega)] at hE
  obtain ⟨z,e1,e2,_⟩:=DataW.trod_int Tryz.underlying144 hE
  refine ⟨z,?_,?_⟩
  ·have h0:((cs.toList.drop r).take 1)[0]? = some (.int .u64 z):=by rw [e1]; rfl
   simpa using h0
  ·rw [List.getElem?_map,List.getElem?_eq_getElem (by omega:r < xs.length),e2]; rfl
 have e3:(xs.map (·.1))=[.lit (.int .u64 1000000000),.lit (.int .u64 10000000000)]:=(DataW.agg.inj (Prod.mk.inj ex).1).symm
 obtain ⟨z0,a0,b0⟩:=key 0 (by omega)
 obtain ⟨z1,a1,b1⟩:=key 1 (by omega)
 rw [e3] at b0 b1
 simp only [List.getElem?_cons_zero,List.getElem?_cons_succ,Option.some.injEq,DataW.lit.injEq,Lit.int.injEq,true_and] at b0 b1
 subst b0; subst b1
 have hc:cs.toList.length=2:=hcl.trans (by kernel_rfl)
 have hcs:cs=#[.int .u64 1000000000,.int .u64 10000000000]:=by
  obtain ⟨l⟩:=cs
  match l,hc with
  | [a,b],_=>
   simp at a0 a1
   subst a0; subst a1; rfl
 unfold World.var? at hv
 rw [show Tryz.prog.globalNamed "sawtooth/epoch.tens" = some 0 by kernel_rfl] at hv
 simp only [Option.bind_some] at hv
 split at hv
 ·rename_i cs' T f he
  cases hv
  subst hcs
  exact ⟨T,f,he⟩
 ·cases hv
theorem Qd3 : Tryz.pinned.checked.prog.mainIs = some (true, "9743dcc7216159cedf5af689d9831578d52e7622345c3cbb87c8bebbc0866563".toList) := by kernel_rfl
theorem QdU:true=Tryz.pinned.checked.prog.looks []:=by kernel_rfl
open Go Go.RowKit Go.Proofs.YtkokohkbhlnjkaaGreatDoor.R
set_option maxRecDepth 50000
set_option maxHeartbeats 4000000
theorem Qd8 {x:Nat→Obj→Prop} {r:Tys} {cs:List Value} (h:Shs x (.cons 1 (.i .i64) r) cs):∃ n b,cs=.int .i64 n :: b∧in64 n∧Shs x r b:=by
 unfold Shs at h
 obtain ⟨a,b,rfl,_,h1,h2⟩:=h
 unfold Sh at h1
 obtain ⟨n,rfl,hw⟩:=h1
 exact ⟨n,b,rfl,QGe hw,h2⟩
theorem QFC {x:Nat→Obj→Prop} {cs:List Value} (h:Shs x .nil cs):cs=[]:=by unfold Shs at h; exact h
def XFun (x:Nat→Obj→Prop):Prop:=∀ b o o',x b o→x b o'→o=o'
def Es.ints (s:Es):List Int:=[s.cf.seg,s.cf.max,s.cf.first,s.cf.grain,s.cf.least,s.cf.great,s.cf.burst,s.now,s.last,s.win,s.thr,s.high,s.fl.sent,s.fl.told,s.fl.out,s.rtt.mean,s.rtt.far,s.rd.id,s.rd.end_,
 s.hy.last,s.hy.least,s.hy.many,s.hy.base,s.hy.rounds,s.ep.start,s.ep.first,s.ep.max,s.ep.k,s.ep.est,s.rec_,s.back,s.bk.at_,s.bk.have_]
def EsW (s:Es):Prop:=∀ n∈s.ints,in64 n
theorem EsW.in_ {s:Es} (h:EsW s) (hl:s.ms.length≤90000):EsIn s:=by
 refine ⟨?_,h _ ?_,h _ ?_,hl⟩
 ·constructor <;> exact h _ (by simp [Es.ints])
 ·simp [Es.ints]
 ·simp [Es.ints]
theorem QzH (W:World):XFun (fun b o=>W.heap[b]? = some o):=fun b o o' h h'=>Option.some.inj (h.symm.trans h')
def XLaid (x:Nat→Obj→Prop):Prop:=TensX x∧XFun x
theorem Qdq (W : World) (h : laidMetH Tryz.prog [("sawtooth/epoch.tens", Rows.laid_sawtooth_epoch_tens)] W) : XLaid (fun b o => W.heap[b]? = some o) := ⟨QFV W h, QzH W⟩
theorem Qgf {s:Es} {e:Ev} (h:(esDo s e).2≠0):(esDo s e).1=s:=by
 revert h
 unfold esDo
 simp only [Bool.cond_eq_ite]
 (repeat' split) <;> intro h <;> first | rfl|(exfalso; rename_i h1; exact h (by simpa using h1))
theorem Qen {s:Es} {e:Ev} (h:(esDo s e).2=0):EsOk s∧evCheck e.kind e.time e.bytes e.rtt=0∧s.now≤e.time∧e.time≤1099511627776∧esDo s e=esBy (esAt s e.time) e∧EsOk (esAt s e.time)∧(esBy (esAt s e.time) e).2=0:=by
 cases h0:esOk s with
 | false=>exfalso; unfold esDo at h; rw [h0] at h; simp at h
 | true=>
  have hs:=(Qcj s).1 h0
  by_cases h1:evCheck e.kind e.time e.bytes e.rtt=0
  rotate_left
  ·exfalso; unfold esDo at h; rw [h0] at h; simp [h1] at h
  by_cases h2:(clkStep s.now e.time).2=0
  rotate_left
  ·exfalso; unfold esDo at h; rw [h0] at h; simp [h1,h2] at h
  have h3:0≤e.time∧e.time≤1099511627776∧s.now≤e.time∧(clkStep s.now e.time).1=e.time:=by
   revert h2
   unfold clkStep clkCheck
   simp only [Bool.cond_eq_ite]
   (repeat' split) <;> simp_all <;> omega
  obtain ⟨a1,a2,a3,a4⟩:=h3
  have h4:=Qe4 hs a3 a2
  have e1:esDo s e=if (esBy (esAt s e.time) e).2≠0 then (s,(esBy (esAt s e.time) e).2) else esBy (esAt s e.time) e:=by
   unfold esDo; rw [h0,a4]; simp [h1,h2,h4.1]
  by_cases h5:(esBy (esAt s e.time) e).2=0
  ·exact ⟨hs,h1,a3,a2,by rw [e1,if_neg (by simpa using h5)],h4.2,h5⟩
  ·exfalso; rw [e1,if_pos h5] at h; exact h5 h
theorem QmN (s:Es):(esCut s).cf=s.cf∧(esCut s).now=s.now:=by unfold esCut; simp only [Bool.cond_eq_ite]; split <;> exact ⟨rfl,rfl⟩
theorem Qig (s:Es) (e:Ev):(esWake s e).cf=s.cf∧(esWake s e).now=s.now:=by unfold esWake; split <;> exact ⟨rfl,rfl⟩
theorem QxA (s:Es) (e:Ev):(esSend s e).1.cf=s.cf∧(esSend s e).1.now=s.now:=by
 have h:=Qig s e
 unfold esSend
 revert h
 generalize esWake s e=t
 intro h
 unfold esSend0
 (repeat' split) <;> exact h
theorem Qm7 (s:Es) (e:Ev):(esTimes s e).1.cf=s.cf∧(esTimes s e).1.now=s.now:=by unfold esTimes; simp only [Bool.cond_eq_ite]; (repeat' split) <;> exact ⟨rfl,rfl⟩
theorem Qm1 (s:Es):(esRound s).1.cf=s.cf∧(esRound s).1.now=s.now:=by unfold esRound; simp only [Bool.cond_eq_ite]; (repeat' split) <;> exact ⟨rfl,rfl⟩
theorem Qxk (s:Es) (e:Ev) (n:Int):(esCalm s e n).1.cf=s.cf∧(esCalm s e n).1.now=s.now:=by
 have h0:(esCalm0 s e).1.cf=s.cf∧(esCalm0 s e).1.now=s.now:=by unfold esCalm0; simp only [Bool.cond_eq_ite]; (repeat' split) <;> exact ⟨rfl,rfl⟩
 unfold esCalm
 split
 ·exact h0
 ·unfold esCalm1; exact h0
theorem Qxm (s:Es) (e:Ev):(esGrow s e).1.cf=s.cf∧(esGrow s e).1.now=s.now:=by
 unfold esGrow
 simp only [Bool.cond_eq_ite]
 (repeat' split) <;> first | exact ⟨rfl,rfl⟩ | exact Qxk ..
theorem Qw2 (s:Es) (e:Ev):(esAck s e).1.cf=s.cf∧(esAck s e).1.now=s.now:=by
 unfold esAck
 have h1:=Qm7 (esTold s e) e
 have h2:=Qm1 (esTimes (esTold s e) e).1
 have h3:=Qxm (esRound (esTimes (esTold s e) e).1).1 e
 (repeat' split) <;> first | exact ⟨rfl,rfl⟩ | exact ⟨h3.1.trans (h2.1.trans h1.1),h3.2.trans (h2.2.trans h1.2)⟩
theorem Qw8 (s:Es) (e:Ev):(esBy s e).1.cf=s.cf∧(esBy s e).1.now=s.now:=by
 unfold esBy
 (repeat' split)
 ·exact QxA s e
 ·exact Qw2 s e
 ·unfold esLose; split
  ·exact ⟨rfl,rfl⟩
  ·exact QmN _
 ·exact QmN s
 ·unfold esLate; (repeat' split) <;> exact ⟨rfl,rfl⟩
 ·exact ⟨rfl,rfl⟩
 ·exact ⟨rfl,rfl⟩
theorem Qgg {s:Es} {e:Ev} (h:(esDo s e).2=0):EsOk s∧EsOk (esDo s e).1∧(esDo s e).1.cf=s.cf∧(esDo s e).1.now=e.time:=by
 obtain ⟨h1,h2,h3,h4,h5,h6,h7⟩:=Qen h
 have hk:=Qw8 (esAt s e.time) e
 rw [h5]
 exact ⟨h1,Qxb h6 rfl h7,hk.1,hk.2⟩
theorem Qgb {y:Nat→Obj→Prop} (hT:TensX y) {s t:Es} {e:Ev} {n:Int} (h:esDo s e=(t,n)) (hi:EsIn s) {u:Value} (hu:MsAt y s.ms u):RetE Tryz.prog y 29 [s.v u,e.v] (fun v x=>∃ a c,v=.tuple #[t.v (.slice a t.ms.length c),.int .i64 n]∧MsAt x t.ms (.slice a t.ms.length c)):=by
 have hd:=QlC hT s e hi hu
 refine ⟨fun w h1 h2=>(hd.out w h1 h2).mono ?_⟩
 rintro _ _ ⟨v,x',h3,⟨u,h4,h5⟩,h6⟩
 rw [h] at h4 h5
 obtain ⟨a,c,rfl,h5⟩:=h5
 exact ⟨v,x',h3,⟨a,c,h4,a,c,rfl,h5⟩,h6⟩
theorem QCn (f:Nat→Int×Int) (len:Nat) (win t n:Int):putLen f len win t n≤len+1:=by
 have:=QeF f len n
 unfold putLen
 split <;> omega
theorem Qge (s:Es):(esCut s).fl=s.fl∧(esCut s).ms=s.ms:=by unfold esCut; simp only [Bool.cond_eq_ite]; split <;> exact ⟨rfl,rfl⟩
theorem Qif (s:Es) (e:Ev):(esWake s e).fl=s.fl∧(esWake s e).ms=s.ms∧(esWake s e).bk=s.bk:=by unfold esWake; split <;> exact ⟨rfl,rfl,rfl⟩
theorem Qm6 (s:Es) (e:Ev):(esTimes s e).1.fl=s.fl∧(esTimes s e).1.ms.length≤s.ms.length+1:=by
 have h:=@Qjs s.ms 10000000 e.time e.rtt
 have h2:=QCn (mkF s.ms) s.ms.length 10000000 e.time e.rtt
 unfold esTimes; simp only [Bool.cond_eq_ite]; (repeat' split) <;> refine ⟨rfl,?_⟩ <;> dsimp only <;> omega
theorem Qm0 (s:Es):(esRound s).1.fl=s.fl∧(esRound s).1.ms=s.ms:=by unfold esRound; simp only [Bool.cond_eq_ite]; (repeat' split) <;> exact ⟨rfl,rfl⟩
theorem Qxj (s:Es) (e:Ev) (n:Int):(esCalm s e n).1.fl=s.fl∧(esCalm s e n).1.ms=s.ms:=by
 have h0:(esCalm0 s e).1.fl=s.fl∧(esCalm0 s e).1.ms=s.ms:=by unfold esCalm0; simp only [Bool.cond_eq_ite]; (repeat' split) <;> exact ⟨rfl,rfl⟩
 unfold esCalm
 split
 ·exact h0
 ·unfold esCalm1; exact h0
theorem QmW (s:Es) (e:Ev):(esGrow s e).1.fl=s.fl∧(esGrow s e).1.ms=s.ms:=by
 unfold esGrow
 simp only [Bool.cond_eq_ite]
 (repeat' split) <;> first | exact ⟨rfl,rfl⟩ | exact Qxj ..
theorem Qx5 (f:Fl) (n t:Int):(flBack f n t).1.sent=f.sent∧(flBack f n t).1.out≤f.out:=by
 unfold flBack
 (repeat' split) <;> refine ⟨rfl,?_⟩ <;> dsimp only <;> omega
theorem Qxa (s:Es) (e:Ev):(esBy s e).1.ms.length≤s.ms.length+1:=by
 unfold esBy
 (repeat' split)
 ·have h:=(Qif s e).2.1
  unfold esSend
  revert h
  generalize esWake s e=t
  intro h
  unfold esSend0
  (repeat' split) <;> dsimp only <;> rw [h] <;> omega
 ·unfold esAck
  have h1:=(Qm6 (esTold s e) e).2
  have h2:=(Qm0 (esTimes (esTold s e) e).1).2
  have h3:=(QmW (esRound (esTimes (esTold s e) e).1).1 e).2
  have h4:(esTold s e).ms=s.ms:=rfl
  (repeat' split) <;> first|(dsimp only; omega)|(rw [h3,h2,←h4]; exact h1)
 ·unfold esLose; split
  ·dsimp only; omega
  ·dsimp only; rw [(Qge _).2]; dsimp only; omega
 ·dsimp only; rw [(Qge _).2]; omega
 ·unfold esLate; (repeat' split) <;> dsimp only <;> omega
 ·dsimp only; omega
 ·dsimp only; omega
theorem Qxc (s:Es) (e:Ev) (hk:e.kind≠6):(esBy s e).1.fl.sent=s.fl.sent∧(esBy s e).1.fl.out≤s.fl.out:=by
 have hb:=Qx5 s.fl
 unfold esBy
 rw [if_neg hk]
 (repeat' split)
 ·unfold esAck
  have h1:=(Qm6 (esTold s e) e).1
  have h2:=(Qm0 (esTimes (esTold s e) e).1).1
  have h3:=(QmW (esRound (esTimes (esTold s e) e).1).1 e).1
  have h4:(esTold s e).fl=(flBack s.fl e.bytes e.bytes).1:=rfl
  (repeat' split) <;> first|(dsimp only; exact ⟨rfl,Int.le_refl _⟩)|(rw [h3,h2,h1,h4]; exact hb _ _)
 ·unfold esLose; split
  ·exact ⟨rfl,Int.le_refl _⟩
  ·dsimp only; rw [(Qge _).1]; exact hb _ _
 ·dsimp only; rw [(Qge _).1]; exact ⟨rfl,Int.le_refl _⟩
 ·unfold esLate; (repeat' split) <;> first|(dsimp only; exact ⟨rfl,Int.le_refl _⟩)|(dsimp only; exact hb _ _)
 ·exact ⟨rfl,Int.le_refl _⟩
 ·exact ⟨rfl,Int.le_refl _⟩
theorem Qm4 {s:Es} {e:Ev} (h:(esSend s e).2=0):∃ r,r=floN (esWake s e).win s.cf.seg 65536∧floE (esWake s e).win s.cf.seg 65536=0∧(esSend s e).1.win=(esWake s e).win∧(flSend s.fl e.bytes r).2=0∧(bkTake s.bk e.bytes).2=0∧(esSend s e).1.fl=(flSend s.fl e.bytes r).1∧(esSend s e).1.bk=(bkTake s.bk e.bytes).1∧(esSend s e).1.last=e.time:=by
 obtain ⟨w1,w2,w3⟩:=Qif s e
 obtain ⟨w4,w5⟩:=Qig s e
 refine ⟨_,rfl,?_⟩
 revert h
 unfold esSend
 revert w1 w2 w3 w4 w5
 generalize esWake s e=t
 intro w1 w2 w3 w4 w5
 rw [←w1,←w3,←w4]
 unfold esSend0
 split
 ·intro h; exfalso; rename_i h1; exact h1 h
 split
 ·intro h; exfalso; rename_i h1; exact h1 h
 split
 ·intro h; exfalso; rename_i h1; exact h1 h
 rename_i h1 h2 h3
 intro _
 exact ⟨by simpa using h1,rfl,by simpa using h2,by simpa using h3,rfl,rfl,rfl⟩
theorem Qtp {f:Fl} (h:flOk f) (h2:f.sent≤9223372036854775807):FlIn f:=by
 unfold flOk at h
 constructor <;> unfold in64 <;> omega
theorem QmT {s:Es} {e:Ev} (hf:FlIn s.fl) (h:(esDo s e).2=0):FlIn (esDo s e).1.fl:=by
 have hk:=(Qgg h).2.1.fl
 refine Qtp hk ?_
 obtain ⟨h1,h2,h3,h4,h5,h6,h7⟩:=Qen h
 have hs:=hf.sent.2
 rw [h5]
 by_cases h8:e.kind=6
 ·unfold esBy at h7 ⊢
  rw [if_pos h8] at h7 ⊢
  obtain ⟨r,_,_,_,k1,_,k2,_⟩:=Qm4 h7
  obtain ⟨_,_,_,k3,k4,_⟩:=Qir k1
  rw [k2,k3]
  exact k4
 ·rw [(Qxc _ _ h8).1]; exact hs
theorem QmU (s:Es) (e:Ev):(esDo s e).1.ms.length≤s.ms.length+1:=by
 by_cases h:(esDo s e).2=0
 ·obtain ⟨h1,h2,h3,h4,h5,h6,h7⟩:=Qen h
  rw [h5]; exact Qxa _ _
 ·rw [Qgf h]; omega
open Go Go.RowKit
open Go.Conc (G core rcase scase QuitsIn)
namespace R
section
variable {P:Program} {rn:Bool} {Q:Exit→Act→WM→Prop} {a:Act} {w:WM} {ops:Array Oper} {i:Nat} {rest:List Nat} {o:Oper} {b c:Frame} {k:List Item} {cs:List Frame} {Stop:Goroutine→WM→Prop}
theorem QjO {fn:FuncId}:seen P fn #[]=#[]:=by rw [Go.Conc.seen_def]; rfl
def kidG (P:Program) (d:Deferred):Goroutine:=G { (default:Frame) with fn:=P.funcs.size,defers:=[d],mode:=.panicking [goexitEntry] } []
theorem QFs {d:Deferred} {main:Bool} {v:World} (ho:ops[i]? = some o) (hw:Region.wanted o (yielded ops a.tmps)=true) (hb:b.kind≠.early)
  (hd:∀ v,(execOp a.eval o).run P v=.ok (.spawn d) v∧(execOp a.eval o).events P v #[]=#[]) (hnd:∀ c,o.op≠.defer c) (ht:d.target≠.nil) :
  stepG P main (G (b.atR a (.inRegion ops (i :: rest) :: k)) cs) v=.spawn (G (b.atR (a.put o.dst undef) (.inRegion ops rest :: k)) cs) (kidG P d) v #[]:=by
 have hb':(b.kind == CallKind.early)=false:=by simpa using hb
 rw [Qfx ho hw,Oper.semAt_eq _ _ _ hnd]
 have hfin:(b.atR a (.inRegion ops (i :: rest) :: k)).finish undef=b.atR (a.put o.dst undef) (.inRegion ops rest :: k):=by rw [Frame.finish_atR,ho]; rfl
 rw [←hfin]
 have e3:((b.atR a (.inRegion ops (i :: rest) :: k)).kind == CallKind.early)=false:=by simpa [Frame.atR] using hb'
 have e4:(b.atR a (.inRegion ops (i :: rest) :: k)).fn=b.fn:=rfl
 simp only [stepG.apply,Sem.runT_eq,(hd v).1,(hd v).2,if_true,e3,Bool.false_eq_true,if_false,e4,QjO]
 rw [if_neg]
 ·rfl
 ·intro h
  simp only [Bool.and_eq_true] at h
  cases h.1.1.2
theorem QAs {w1:WM} (h:Rely w w1) {c q:Nat} {vs:List Value} {F:Nat→Prop} {i:Nat} (hF:∀ b,F b→w.M b):Rely (w.lend c q vs F i) (w1.lend c q vs F i):=by
 refine ⟨?_,?_,?_,h.os,h.tape,h.output,h.size,fun b hb=>h.block b ?_⟩
 ·show (fun b=>w1.M b∧_)=_; rw [h.M]; rfl
 ·show (fun b=>w1.X b∨F b)=_; rw [h.X]; rfl
 ·show ({ w1.gh with conn:=⟨c,q,vs,i,w1.X,F⟩ :: w1.gh.conn }:Gh)=_; rw [h.gh,h.X]; rfl
 ·rcases hb with hb | hb | hb
  ·exact .inl hb.1
  ·exact .inr hb
  ·exact .inl (hF b hb)
theorem QzZ {w1:WM} (h:Rely w w1) {c q:Nat} {vs:List Value} {F:Nat→Prop} {i:Nat} (hF:∀ b,F b→w.M b):Rely (w.kid c q vs F i) (w1.kid c q vs F i):=by
 refine ⟨rfl,?_,rfl,h.os,h.tape,h.output,h.size,fun b hb=>h.block b ?_⟩
 ·show (fun b=>(w1.X b∨F b)∧_)=_; rw [h.X]; rfl
 ·rcases hb with hb | hb
  ·exact hb.elim
  ·rcases hb.1 with hb | hb
   ·exact .inr hb
   ·exact .inl (hF b hb)
theorem QBJ {d:Deferred} (ho:ops[i]? = some o) (hw:Region.wanted o (yielded ops a.tmps)=true)
  (hd:∀ v,(execOp a.eval o).run P v=.ok (.spawn d) v∧(execOp a.eval o).events P v #[]=#[]) (hnd:∀ c,o.op≠.defer c) (ht:d.target≠.nil)
  (c q:Nat) (vs:List Value) (F:Nat→Prop) (hc:w.M c) (hq:w.M q) (hcq:c≠q) (hF:∀ b,F b→w.M b∧b≠c∧b≠q) (hO:w.O star) (hoc:openCh w.w c) (hoq:openCh w.w q)
  (hk:∀ (Stop:Goroutine→WM→Prop) (i:Nat),i≠0→Run P Stop (kidG P d) (w.kid c q vs F i)) (h:∀ i,i≠0→OpsR P rn ops rest Q (a.put o.dst undef) (w.lend c q vs F i)):OpsR P rn ops (i :: rest) Q a w:=fun b k cs Stop hb hn hcn=>by
 have opn:∀ w1,Rely w w1→∀ c,w.M c→openCh w.w c→openCh w1.w c:=fun w1 hr c hM ho=>by
  obtain ⟨s,r,tm,h1⟩:=ho
  exact ⟨s,r,tm,(hr.block c (.inl hM) (Array.getElem?_eq_some_iff.1 h1).1).trans h1⟩
 refine .of (.fork rfl c q vs F hc hq hcq hF hO fun w1 hr=>⟨opn w1 hr c hc hoc,opn w1 hr q hq hoq,_,_,QFs ho hw hb hd hnd ht,fun i hi=>?_⟩)
 intro e he
 simp only [List.mem_cons,List.not_mem_nil,or_false] at he
 rcases he with rfl | rfl
 ·exact (h i hi b k cs Stop hb hn hcn).rely (QAs hr fun b hb=>(hF b hb).1)
 ·exact (hk Stop i hi).rely (QzZ hr fun b hb=>(hF b hb).1)
theorem Qsw {cases:Array CommCase} {sh:CommShape} {main:Bool} {v:World} (ho:ops[i]? = some o) (hw:Region.wanted o (yielded ops a.tmps)=true) (hb:b.kind≠.early)
  (hd:∀ v,(execOp a.eval o).run P v=.ok (.comm cases true sh) v∧(execOp a.eval o).events P v #[]=#[]) (hnd:∀ c,o.op≠.defer c) :
  stepG P main (G (b.atR a (.inRegion ops (i :: rest) :: k)) cs) v=.comm (core (G (b.atR a (.inRegion ops (i :: rest) :: k)) cs)) cases true sh v #[]:=by
 have hb':(b.kind == CallKind.early)=false:=by simpa using hb
 rw [Qfx ho hw,Oper.semAt_eq _ _ _ hnd]
 have e3:((b.atR a (.inRegion ops (i :: rest) :: k)).kind == CallKind.early)=false:=by simpa [Frame.atR] using hb'
 have e4:(b.atR a (.inRegion ops (i :: rest) :: k)).fn=b.fn:=rfl
 simp only [stepG.apply,Sem.runT_eq,(hd v).1,(hd v).2,if_true,e3,Bool.false_eq_true,if_false,e4,QjO]
 rfl
theorem Qio {cases:Array CommCase} {sh:CommShape} {n:Int} {v:Value} {ok:Bool} (ho:ops[i]? = some o) :
  (core (G (b.atR a (.inRegion ops (i :: rest) :: k)) cs)).finishComm P cases sh n v ok=G (b.atR (a.put o.dst (commResult cases sh n v ok)) (.inRegion ops rest :: k)) cs:=by
 have hfin:∀ v,(b.atR a (.inRegion ops (i :: rest) :: k)).finish v=b.atR (a.put o.dst v) (.inRegion ops rest :: k):=fun v=>by rw [Frame.finish_atR,ho]; rfl
 unfold Goroutine.finishComm core G
 simp only [hfin]
theorem QzE {w1:WM} (h:Rely w w1) {k:Conn} {vs:List Value} {rest:List Conn}:Rely (w.got k vs rest) (w1.got k vs rest):=
 ⟨h.M,h.X,by show ({ w1.gh with conn:=_ }:Gh)=_; rw [h.gh]; rfl,h.os,h.tape,h.output,h.size,h.block⟩
theorem QFg {w1:WM} (h:Rely w w1) {f:Feed} {vs:List Value}:Rely (w.sent f vs) (w1.sent f vs):=
 ⟨h.M,h.X,by show ({ w1.gh with feed:=_ }:Gh)=_; rw [h.gh]; rfl,h.os,h.tape,h.output,h.size,h.block⟩
theorem QBK {kn:Conn} {cns:List Conn} {z:Value} (ho:ops[i]? = some o) (hw:Region.wanted o (yielded ops a.tmps)=true)
  (hd:∀ v,(execOp a.eval o).run P v=.ok (.comm #[rcase kn.c z] true (.recv true)) v∧(execOp a.eval o).events P v #[]=#[]) (hnd:∀ c,o.op≠.defer c) (hk:w.gh.conn=kn :: cns)
  (hv:∀ v vs,kn.vs=v :: vs→OpsR P rn ops rest Q (a.put o.dst (.tuple #[v,.bool true])) (w.got kn vs cns))
  (hn:kn.vs=[]→∀ w1,Rely w w1→openCh w1.w kn.q→OpsR P rn ops rest Q (a.put o.dst (.tuple #[z,.bool false])) (w1.pop kn cns)):OpsR P rn ops (i :: rest) Q a w:=fun b k cs Stop hb hro hcn=>by
 refine .of (.recv rfl kn cns hk z (.recv true) (fun w1 hr=>Qsw ho hw hb hd hnd) (fun v vs hvs w1 hr=>?_) (fun hvs w1 hr hoq=>?_))
 ·rw [Qio ho]
  exact QeS ((hv v vs hvs b k cs Stop hb hro hcn).rely (QzE hr))
 ·rw [Qio ho]
  exact QeS (hn hvs w1 hr hoq b k cs Stop hb hro hcn)
theorem QBL {f:Feed} {v:Value} {vs:List Value} {z z':Value} (ho:ops[i]? = some o) (hw:Region.wanted o (yielded ops a.tmps)=true)
  (hd:∀ u,(execOp a.eval o).run P u=.ok (.comm #[scase f.c v z,rcase f.q z'] true .select) u∧(execOp a.eval o).events P u #[]=#[]) (hnd:∀ c,o.op≠.defer c) (hf:w.gh.feed=some f) (hvs:f.vs=v :: vs)
  (h:OpsR P rn ops rest Q (a.put o.dst (.tuple #[goInt 0,.bool false,z'])) (w.sent f vs)):OpsR P rn ops (i :: rest) Q a w:=fun b k cs Stop hb hro hcn=>by
 refine .of (.send rfl f hf v vs hvs z z' .select (fun w1 hr=>Qsw ho hw hb hd hnd) (fun w1 hr=>?_))
 rw [Qio ho]
 have e:commResult #[scase f.c v z,rcase f.q z'] .select 0 undef false=.tuple #[goInt 0,.bool false,z']:=by
  simp [commResult,scase,rcase]
 rw [e]
 exact QeS ((h b k cs Stop hb hro hcn).rely (QFg hr))
theorem Qkh {T:TypeId} {z:Value} (h:(P.info? T).bind (·.zero)=some z) (u:World):(zeroValue T).run P u=.ok z u∧∀ es,(zeroValue T).events P u es=es:=by
 obtain ⟨i,h1,h2⟩:=Option.bind_eq_some_iff.1 h
 constructor
 ·simp [zeroValue,typeInfo,h1,h2]
 ·intro es; simp
theorem QCA {ρ:Operand→Value} {x:Operand} {T elem:TypeId} {dir:ChanDir} {c:Nat} {z:Value} (hop:o.op=.recv T x true) (hT:P.underlying T=some (.chan dir elem)) (hx:ρ x=.chan (some c)) (hz:(P.info? elem).bind (·.zero)=some z) (u:World) :
  (execOp ρ o).run P u=.ok (.comm #[rcase c z] true (.recv true)) u∧(execOp ρ o).events P u #[]=#[]:=by
 obtain ⟨h1,h2⟩:=Qkh (P:=P) hz u
 constructor
 ·simp [execOp,hop,run_underlying hT,h1,hx,rcase]
 ·simp [execOp,hop,run_underlying hT,h1,h2,hx]
theorem QFf {ρ:Operand→Value} {x y s:Operand} {T1 T2:TypeId} {c q:Nat} {v z1 z2:Value} (hop:o.op=.select #[⟨x,some s,T1⟩,⟨y,none,T2⟩] true) (hx:ρ x=.chan (some c)) (hs:ρ s=v) (hy:ρ y=.chan (some q))
  (hz1:(P.info? T1).bind (·.zero)=some z1) (hz2:(P.info? T2).bind (·.zero)=some z2) (u:World) :
  (execOp ρ o).run P u=.ok (.comm #[scase c v z1,rcase q z2] true .select) u∧(execOp ρ o).events P u #[]=#[]:=by
 obtain ⟨h1,h2⟩:=Qkh (P:=P) hz1 u
 obtain ⟨h3,h4⟩:=Qkh (P:=P) hz2 u
 constructor
 ·simp [execOp,hop,h1,h3,hx,hs,hy,rcase,scase,Array.mapM_eq_mapM_toList]
 ·simp [execOp,hop,h1,h2,h3,h4,hx,hs,hy,Array.mapM_eq_mapM_toList]
theorem Qmh {v:World} {c s r cap:Nat} {buf:Array Value} {tm:Bool} {ts:Array TypeId} {t:TypeId} {xs:Array Bool} (h:v.heap[c]? = some (.chan cap buf false s r tm)) :
  (invoke (.builtin .close ts t xs) #[.chan (some c)]).run P v=.ok (.value (.tuple #[])) { v with heap:=v.heap.setIfInBounds c (.chan cap buf true s r tm) }∧(invoke (.builtin .close ts t xs) #[.chan (some c)]).events P v #[]=#[⟨.obj c,false,true⟩,⟨.obj c,true,true⟩]:=by
 have e1:invoke (.builtin .close ts t xs) #[.chan (some c)]=(do pure (.value (←Builtin.close_ ts t #[.chan (some c)])):Sem Next):=rfl
 rw [e1]
 have h1:=run_close_open (P:=P) (w:=v) ts t h
 have h2:=events_close_open (P:=P) (w:=v) (es:=#[]) ts t h
 refine ⟨by rw [Sem.run_bind,h1]; rfl,by rw [Sem.events_bind,h1]; simpa using h2⟩
theorem Qsq {fn:FuncId} {c:Nat}:seen P fn #[⟨.obj c,false,true⟩,⟨.obj c,true,true⟩]=#[⟨.obj c,false,true⟩,⟨.obj c,true,true⟩]:=by
 rw [Go.Conc.seen_def]
 simp [Go.Conc.seenStep]
def bodyPostC (P:Program) (fn:Func) (R:Ending→WM→Prop):Exit→Act→WM→Prop
 | .normal,a,w | .ret,a,w=>∃ c ts t xs s r tm,a.defers=[{ target:=.builtin .close ts t xs,args:=#[.chan (some c)] }]∧w.M c∧w.heap[c]? = some (.chan 0 #[] false s r tm) ∧
   ∀ w1,Rely w w1→∀ w2,Rely (w1.put c (.chan 0 #[] true s r tm)) w2→∃ v,(results fn a.tmps).run P w2.w=.ok v w2.w∧EvIn w2 ((results fn a.tmps).events P w2.w #[])∧R (.returned v) w2
 | _,_,_=>False
theorem Qwp {f:FuncId} {fn:Func} {c:Code} {args:Array Value} {R:Ending→WM→Prop} (hf:P.funcs[f]? = some fn) (hb:fn.body=some c)
  (h:Wp P true c (fun e a w=>bodyPost P fn R e a w∨bodyPostC P fn R e a w) { tmps:=args ++ Array.replicate (fn.ntmps - args.size) undef,defers:=[] } w):Calls P f args w R:=by
 intro cs Stop hc
 let b:Frame:={ (default:Frame) with fn:=f,kind:=.normal,roundOf:=none }
 have henter:Frame.enter P f args .normal=b.atR { tmps:=args ++ Array.replicate (fn.ntmps - args.size) undef,defers:=[] } [.code c]:=by
  simp [Frame.enter,Frame.atR,hf,hb,b]
 rw [henter]
 have ret:∀ (a':Act) (todo:List Item) (w':WM),(bodyPost P fn R .ret a' w'∨bodyPostC P fn R .ret a' w')→Run P Stop (G { b.atR a' todo with mode:=.returning } cs) w':=fun a' todo w' hq=>by
  rcases hq with hq | ⟨c,ts,t,xs,s,r,tm,hd,hM,hh,hq⟩
  ·exact hc _ _ ⟨rfl,fun w1 hr=>by
    obtain ⟨v,h1,h2,h3⟩:=hq.2 w1 hr
    exact ⟨.returned v,⟨rfl,hq.1,rfl,fn,hf,h1,h2⟩,h3⟩⟩
  ·refine .go rfl fun w1 hr=>?_
   have h1:w1.heap[c]? = some (.chan 0 #[] false s r tm):=(hr.block c (.inl hM) (Array.getElem?_eq_some_iff.1 hh).1).trans hh
   have hM1:w1.M c:=by rw [hr.M]; exact hM
   obtain ⟨e1,e2⟩:=Qmh (P:=P) (ts:=ts) (t:=t) (xs:=xs) (v:=w1.w) h1
   refine ⟨G { b.atR { a' with defers:=[] } todo with mode:=.returning } cs,{ w1.w with heap:=w1.heap.setIfInBounds c (.chan 0 #[] true s r tm) },#[⟨.obj c,false,true⟩,⟨.obj c,true,true⟩],?_,⟨Qey h1 hM1 fun e he=>?_,fun e he f hf'=>?_⟩,?_⟩
   ·simp only [G,stepG,unwind,Frame.atR,hd]
    simp only [callDeferred,Bool.false_and,Bool.false_eq_true,if_false,Sem.runT_eq,e1,e2]
    simp [GStep.after,Qsq]
   ·have:e=⟨.obj c,false,true⟩∨e=⟨.obj c,true,true⟩:=by simpa using he
    rcases this with rfl | rfl
    ·exact ⟨.inr trivial,.inr (.inl hM1)⟩
    ·exact ⟨.inr trivial,.inr hM1⟩
   ·have:e=⟨.obj c,false,true⟩∨e=⟨.obj c,true,true⟩:=by simpa using he
    rcases this with rfl | rfl <;> cases hf'
   ·exact hc _ _ ⟨rfl,fun w2 hr2=>by
     obtain ⟨v,g1,g2,g3⟩:=hq w1 hr w2 hr2
     exact ⟨.returned v,⟨rfl,rfl,rfl,fn,hf,g1,g2⟩,g3⟩⟩
 refine h b [] cs Stop (by simp [b]) (fun _=>rfl) fun e a' w' hq=>?_
 cases e with
 | normal=>exact .ctl rfl (fun _ _=>QeK rfl) (ret _ _ _ hq)
 | ret=>exact fun k'=>.ctl rfl (fun _ _=>Qfy rfl) (ret _ _ _ hq)
 | panic ch=>exact fun k'=>hq.elim (fun hq=>hc _ _ ⟨rfl,fun w1 hr=>⟨.panicked ch,⟨rfl,hq.1,fn,hf⟩,hq.2 w1 hr⟩⟩) (fun h=>h.elim)
 | exit id=>exact hq.elim (fun h=>h.elim) (fun h=>h.elim)
 | goto l=>exact hq.elim (fun h=>h.elim) (fun h=>h.elim)
 | outgrown=>exact hq.elim (fun h=>h.elim) (fun h=>h.elim)
theorem QE7 {fr c:Frame} {fn:Func} {f:Feed} {ts:Array TypeId} {t:TypeId} {xs:Array Bool} (hk:fr.kind=.deferred) (hm:fr.mode=.returning) (hd:fr.defers=[{ target:=.builtin .close ts t xs,args:=#[.chan (some f.c)] }])
  (hfn:P.funcs[fr.fn]? = some fn) (hr:fn.results=#[]) (hcm:c.mode=.panicking [goexitEntry]) (hcd:c.defers=[]) (hcc:c.catches P=false) (hf:w.gh.feed=some f) (hv:f.vs=[]) (hid:w.gh.id≠0):Run P Stop (G fr [c]) w:=by
 have r1:∀ v,(results fn fr.tmps).run P v=.ok (.tuple #[]) v∧(results fn fr.tmps).events P v #[]=#[]:=fun v=>by
  unfold results
  rw [hr]
  constructor <;> simp
 have q2:QuitsIn P 2 (G { fr with defers:=[] } [c]):=by
  refine .inr ⟨rfl,G c [],fun v=>?_,.inr ⟨rfl,{ frame:=c,callers:=[],status:=.finished,dying:=none },fun v=>?_,rfl⟩⟩
  ·simp only [G,stepG,unwind,doReturn,hm,hk,hfn,Sem.runT_eq,(r1 v).1,(r1 v).2,QjO]
   obtain ⟨c1,c2,c3,c4,cm,c5,c6⟩:=c
   simp only at hcm
   subst hcm
   rfl
  ·simp only [G,stepG,unwind,hcm,hcd,hcc,Bool.false_eq_true,if_false]
   rfl
 have run2:∀ n g (w1:WM),QuitsIn P n g→w1.gh.quits=true→w1.gh.id≠0→Run P Stop g w1:=by
  intro n
  induction n with
  | zero=>exact fun g w1 hq h1 _=>.of (.done hq h1)
  | succ n ih=>
   intro g w1 hq h1 h2
   rcases hq with hq | ⟨hs,g',hst,hq⟩
   ·exact .of (.done hq h1)
   ·refine .go hs fun w2 hrl=>⟨g',w2.w,#[],?_,.none w2,by rw [WM.to_self]; exact ih g' w2 hq (by rw [hrl.gh]; exact h1) (by rw [hrl.gh]; exact h2)⟩
    have:w2.main=false:=by show (w2.gh.id == 0)=false; rw [hrl.gh]; simpa using h2
    rw [this]; exact hst _
 refine .of (.close rfl f hf hv ?_ _ 2 q2 (fun w1 hrl s r tm h1=>?_) (fun w1 hrl=>?_))
 ·simp [mayWake,G,hm]
 ·obtain ⟨e1,e2⟩:=Qmh (P:=P) (ts:=ts) (t:=t) (xs:=xs) (v:=w1.w) h1
  simp only [G,stepG,unwind,hm,hd]
  simp only [callDeferred,Bool.false_and,Bool.false_eq_true,if_false,Sem.runT_eq,e1,e2]
  simp [GStep.after,Qsq,World.shut]
 ·exact QeS (run2 2 _ _ q2 rfl (by show w1.gh.id≠0; rw [hrl.gh]; exact hid))
theorem QcX {j n:Nat} {w0:WM} {bs:List Nat} {ds:List Deferred} {s:Nat→Nat} {S:St} {QS:St→Prop} (hd:dOk n ops.toList=true) (hr:Rep bs w0 n ds s S a w)
  (h:opsW P ops (ops.toList.drop j) S QS (fun _ _=>False)) (hk:∀ s' S' a' w',Rep bs w0 n ds s' S' a' w'→QS S'→Q .normal a' w'):OpsR P rn ops (List.range' j (ops.size - j)) Q a w:=by
 have hw:=Qcu (Q:=Q) (Pn:=fun _ _=>False) hd (fun s' S' a' w' hr' hk'=>hk s' S' a' w' hr' hk') (fun _ _ _ _ _ _ hp=>hp.elim) (ops.toList.drop j) s _ _ w
  (List.all_eq_true.2 fun o ho=>List.all_eq_true.1 hd o (List.mem_of_mem_drop ho)) hr h
 have:=Qg2 (rn:=rn) (ops.toList.drop j) j _ w (fun i=>by simp [List.getElem?_drop]) hw
 rwa [show (ops.toList.drop j).length=ops.size - j by simp] at this
theorem Rep.anew {w0:WM} {bs:List Nat} {n:Nat} {ds:List Deferred} {s:Nat→Nat} {t:List (Nat×RV)} {x:Nat→Obj→Prop} (hr:Rep bs w0 n ds s ⟨t,[],x⟩ a w):Rep [] w n ds s ⟨t,[],x⟩ a w:=
 ⟨hr.mr,.none fun k hk=>by simp at hk,Fr.refl _ _,hr.size,hr.slot,hr.df⟩
theorem QCF {w0 w':WM} {bs:List Nat} {n:Nat} {ds:List Deferred} {s:Nat→Nat} {t:List (Nat×RV)} {x:Nat→Obj→Prop} (hr:Rep bs w0 n ds s ⟨t,[],x⟩ a w) (hw:w'.w=w.w) (hM:w'.M=w.M) (hX:w'.X=w.X):Rep [] w' n ds s ⟨t,[],x⟩ a w':=by
 have hO:∀ b,w'.O b↔w.O b:=fun b=>by unfold WM.O; rw [hM,hX]
 refine ⟨⟨fun k o hk=>by simp at hk,fun j k hj=>by simp at hj,fun k o hk=>by simp at hk,fun b o hb=>?_,fun b o _ k hk=>by simp at hk,fun k hk=>by simp at hk,fun b o hb=>(hO b).2 (hr.mr.know b o hb),fun b hb=>?_⟩,.none fun k hk=>by simp at hk,Fr.refl _ _,hr.size,hr.slot,hr.df⟩
 ·show w'.w.heap[b]? = _; rw [hw]; exact hr.mr.ext b o hb
 ·show b < w'.w.heap.size; rw [hw]; exact hr.mr.wf b ((hO b).1 hb)
theorem QBt {ρ:Operand→Value} {T elem:TypeId} {dir:ChanDir} (hop:o.op=.makeChan T (.const (.int .i64 0))) (hρ:ρ (.const (.int .i64 0))=.int .i64 0) (hT:P.underlying T=some (.chan dir elem)) {ti:TypeInfo} (he:P.info? elem=some ti) (v:World) :
  (execOp ρ o).run P v=.ok (.value (.chan (some v.heap.size))) (v.alloc (.chan 0 #[] false 0 0 false))∧(execOp ρ o).events P v #[]=#[]:=by
 constructor
 ·simp [execOp,hop,hρ,Instr.makeChan,asInt,asIntOf,run_underlying hT,typeInfo,he]
 ·simp [execOp,hop,hρ,Instr.makeChan,asInt,asIntOf,run_underlying hT,typeInfo,he]
theorem Rep.unpin {w0 w':WM} {a':Act} {n:Nat} {ds ds':List Deferred} {s s':Nat→Nat} {S S':St} (hr:Rep [] w0 n ds s S a w) (h1:Rep ((List.range S.m.length).map s) w n ds' s' S' a' w') :
  Rep [] w0 n ds' s' S' a' w'∧(∀ k,k < S.m.length→s' k=s k)∧S.m.length≤S'.m.length:=by
 have hlen:S.m.length≤S'.m.length:=by simpa using h1.own.pin
 have pin:∀ k,k < S.m.length→s' k=s k:=fun k hk=>by
  rcases h1.own.at_ k (by omega) with ⟨b,g1,g2⟩ | ⟨g1,_⟩
  ·simp [hk] at g1
   rw [g2,←g1]
  ·simp at g1; omega
 have old:∀ k,k < S.m.length→w0.heap.size≤s k:=fun k hk=>(hr.own.mem hk).resolve_left (by simp)
 have hf:Fr [] w0 w':=by
  have h3:=h1.fr
  refine ⟨h3.os.trans hr.fr.os,h3.tape.trans hr.fr.tape,h3.output.trans hr.fr.output,h3.gh.trans hr.fr.gh,h3.X.trans hr.fr.X,fun b hb=>h3.M b (hr.fr.M b hb),
   fun b hb=>(h3.new b hb).elim (fun h1=>hr.fr.new b h1) (fun h1=>.inr (Nat.le_trans hr.fr.size h1)),Nat.le_trans hr.fr.size h3.size,fun k ho hk hn=>?_⟩
  rw [h3.block k (hr.fr.O ho) (Nat.lt_of_lt_of_le hk hr.fr.size) ?_]
  ·exact hr.fr.block k ho hk hn
  ·intro hin
   obtain ⟨j,hj,rfl⟩:=List.mem_map.1 hin
   have:=old j (by simpa using hj)
   omega
 refine ⟨⟨h1.mr,.none fun k hk=>?_,hf,h1.size,h1.slot,h1.df⟩,pin,hlen⟩
 rcases h1.own.at_ k hk with ⟨b,g1,g2⟩ | ⟨_,g2⟩
 ·have hkl:k < S.m.length:=by have:=(List.getElem?_eq_some_iff.1 g1).1; simpa using this
  rw [pin k hkl]; exact old k hkl
 ·exact Nat.le_trans hr.fr.size g2
theorem Rep.pin {w0:WM} {n:Nat} {ds:List Deferred} {s:Nat→Nat} {S:St} {bs:List Nat} (hr:Rep bs w0 n ds s S a w):Rep ((List.range S.m.length).map s) w n ds s S a w:=
 ⟨hr.mr,⟨by simp,fun k hk=>.inl ⟨s k,by rw [List.getElem?_map,List.getElem?_range hk]; rfl,rfl⟩⟩,Fr.refl _ _,hr.size,hr.slot,hr.df⟩
theorem QqY {j n:Nat} {w0:WM} {ds:List Deferred} {s:Nat→Nat} {S:St} {QS:St→Prop} (hd:dOk n ops.toList=true) (hr:Rep [] w0 n ds s S a w)
  (h:opsW P ops (ops.toList.drop j) S QS (fun _ _=>False)) (hk:∀ s' S' a' w',Rep [] w0 n ds s' S' a' w'→(∀ k,k < S.m.length→s' k=s k)→S.m.length≤S'.m.length→QS S'→Q .normal a' w'):OpsR P rn ops (List.range' j (ops.size - j)) Q a w:=
 QcX hd hr.pin h fun s' S' a' w' h1 h2=>by
  obtain ⟨g1,g2,g3⟩:=hr.unpin h1
  exact hk s' S' a' w' g1 g2 g3 h2
theorem Rep.val {bs:List Nat} {w0:WM} {n:Nat} {ds:List Deferred} {s:Nat→Nat} {S:St} (hr:Rep bs w0 n ds s S a w) {i:Nat} {v:RV} (h:lk S.t i=some v):a.eval (.tmp i)=ren s v:=(hr.slot i v h).1
theorem QqW {bs:List Nat} {w0:WM} {n d:Nat} {ds:List Deferred} {s:Nat→Nat} {S:St} {T elem:TypeId} {dir:ChanDir} (ho:ops[i]? = some o) (hg:o.guard=none) (hop:o.op=.makeChan T (.const (.int .i64 0))) (hdst:o.dst=some d) (hdn:Nat.ble (d+1) n=true)
  (hT:P.underlying T=some (.chan dir elem)) (hti:(P.info? elem).isSome=true) (hr:Rep bs w0 n ds s S a w)
  (h:∀ w1 r,Rep bs w0 n ds (fun k=>if k=S.m.length then r else s k) ⟨(d,.ext (.chan (some r))) :: S.t,S.m ++ [.obj (.chan 0 #[] false 0 0 false)],S.x⟩ (a.put (some d) (.chan (some r))) w1→OpsR P rn ops rest Q (a.put (some d) (.chan (some r))) w1):OpsR P rn ops (i :: rest) Q a w:=by
 obtain ⟨ti,hti⟩:=Option.isSome_iff_exists.1 hti
 refine QeD ho hg ⟨by rw [hop]; simp,fun w2 hrel=>?_⟩
 have hr2:=hr.rely hrel
 have e12:=QBt (P:=P) (o:=o) (ρ:=a.eval) hop rfl hT hti w2.w
 rw [e12.1,e12.2]
 refine ⟨QiQ w2 _,?_⟩
 rw [hdst]
 exact h _ w2.heap.size ((Rep.alloc hr2 (.obj (.chan 0 #[] false 0 0 false)) rfl).put (d:=some d) (v:=.ext (.chan (some w2.heap.size))) (fun i hi=>by cases hi; exact Nat.le_of_ble_eq_true hdn) rfl)
theorem Qjh {g:FuncId} {f:Operand} {args:Array Operand} {ats:Array TypeId} {first caps vals:Array Value} {R:Ending→WM→Prop} (ho:ops[i]? = some o) (hg:o.guard=none) (hop:o.op=.call ⟨.value f,args,ats⟩)
  (hf:a.eval f=.func (.func g) first caps) (hargs:args.map a.eval=vals) (hgo:goes P g) (hc:∀ w1,Rely w w1→Calls P g (first ++ vals ++ caps) w1 R) (h:∀ e w',R e w'→∃ v,e=.returned v∧OpsR P rn ops rest Q (a.put o.dst v) w'):OpsR P rn ops (i :: rest) Q a w:=by
 refine QeD ho hg ⟨by rw [hop]; simp,fun w1 hrel=>?_⟩
 have e:execOp a.eval o=callFunc g (first ++ vals ++ caps):=by
  simp only [execOp,hop,resolve,hf,hargs,Deferred.ofValue,pure_bind,invoke]
 have hy:=hgo (first ++ vals ++ caps) w1.w
 rw [e,hy.1,hy.2]
 refine ⟨.none w1,?_⟩
 rw [WM.to_self]
 refine (hc w1 hrel).mono fun e' w' hR=>?_
 obtain ⟨v,rfl,h1⟩:=h e' w' hR
 exact h1
end
end R
structure Raw where
 a:Option Addr
 len:Nat
 cap:Nat
 zs:Nat→Int
def Raws (x:Nat→Obj→Prop) (a:Option Addr) (len:Nat) (rs:Nat→Raw):Prop:=
 ∀ i,i < len→Ints x (rs i).a (rs i).len (rs i).zs∧∃ b off c T f,a=some ⟨b,off,none⟩∧x b (.cells c T f)∧loadX false 1 (off+(i:Int).toNat * 1) c=some (.slice (rs i).a (rs i).len (rs i).cap)
def readV (r:Raw):Value:=.agg #[.int .i64 (evDec r.len r.zs).1.kind,.int .i64 (evDec r.len r.zs).1.time,.int .i64 (evDec r.len r.zs).1.bytes,.int .i64 (evDec r.len r.zs).1.rtt,.int .i64 (evDec r.len r.zs).2]
def readVs (rs:Nat→Raw) (len i:Nat):List Value:=(List.range' i (len - i)).map fun j=>readV (rs j)
theorem QrF {rs:Nat→Raw} {len i:Nat} (h:i < len):readVs rs len i=readV (rs i) :: readVs rs len (i+1):=by
 unfold readVs
 obtain ⟨n,hn⟩:∃ n,len - i=n+1:=⟨len - i - 1,by omega⟩
 rw [hn,List.range'_succ,List.map_cons,show len - (i+1)=n by omega]
theorem QCy {rs:Nat→Raw} {len i:Nat} (h:len≤i):readVs rs len i=[]:=by
 unfold readVs
 rw [show len - i=0 by omega]; rfl
theorem Qg7 {rs:Nat→Raw} {len i:Nat}:(readVs rs len i).length=len - i:=by simp [readVs]
def closeD (c:Nat) (T:TypeId):Deferred:={ target:=.builtin .close #[T] 0 #[false],args:=#[.chan (some c)] }
def kidSt (bo br bs:Nat) (a:Option Addr) (len cap:Nat) (x:Nat→Obj→Prop) (i:Nat):St:=
 ⟨[(0,.ext (.pointer (some ⟨bo,0,none⟩))),(1,.ext (.pointer (some ⟨br,0,none⟩))),(2,.ext (.pointer (some ⟨bs,0,none⟩))),(8,.ext (.slice a len cap)),(9,.ext (.int .i64 len)),(10,.ext (.int .i64 i))],[],x⟩
theorem Qz0 {c0 c1 c2 c3 c4 c5 c6 c7 c8 c9 cc:Code} (hc:Tryz.f171.body=some (.seq c0 (.seq c1 (.block 0 (.loop (.seq c2 (.seq (.cond (.tmp 11) .skip (.exit 0)) (.seq (.block 1 (.seq c3 (.seq c4 (.seq (.seq (.seq c5 c6) c7) (.seq c8 (.block 2 cc)))))) c9))))))))
  {x:Nat→Obj→Prop} {a:Option Addr} {len cap:Nat} {rs:Nat→Raw} (hmax:len≤1000) (hr:Raws x a len rs) {c q bo br bs:Nat}
  (hbo:x bo (.cells #[.chan (some c)] 180 (0,0))) (hbr:x br (.cells #[.slice a len cap] 24 (0,0))) (hbs:x bs (.cells #[.chan (some q)] 179 (0,0)))
  {w:WM} {a0:Act} {s0:Nat→Nat} {Q:Exit→Act→WM→Prop} (hrep:Rep [] w 29 [closeD c 180] s0 ⟨[(0,.ext (.pointer (some ⟨bo,0,none⟩))),(1,.ext (.pointer (some ⟨br,0,none⟩))),(2,.ext (.pointer (some ⟨bs,0,none⟩)))],[],x⟩ a0 w)
  (hf:w.gh.feed=some ⟨c,q,readVs rs len 0⟩) (hid:w.gh.id≠0)
  (hQ:∀ a' w',a'.defers=[closeD c 180]→w'.gh.feed=some ⟨c,q,[]⟩→w'.gh.id≠0→Q .normal a' w') :
  Wp Tryz.prog true (.seq c1 (.block 0 (.loop (.seq c2 (.seq (.cond (.tmp 11) .skip (.exit 0)) (.seq (.block 1 (.seq c3 (.seq c4 (.seq (.seq (.seq c5 c6) c7) (.seq c8 (.block 2 cc)))))) c9)))))) Q a0 w:=by
 simp only [Tryz.f171,Option.some.injEq,Code.seq.injEq,Code.block.injEq,Code.loop.injEq,true_and] at hc
 obtain ⟨rfl,rfl,rfl,⟨rfl,rfl,⟨⟨rfl,rfl⟩,rfl⟩,rfl,rfl⟩,rfl⟩:=hc
 refine Qbe (G:=⟨[],w,29,[closeD c 180]⟩) (QS:=fun e S'=>e=.normal∧Wk S' (kidSt bo br bs a len cap x 0)) hrep ?_ ?_
 ·refine Qaa (by kernel_rfl) ?_
  repeat' (first|((fail_if_success (with_reducible refine stk ?_));simp only [WE,Nat.reduceBEq,QF9]))
  refine Qad (v:=.slice a len cap) hbr (by with_unfolding_all exact rfl) ?_
  repeat' (first|((fail_if_success (with_reducible refine stk ?_));simp only [WE,QaM]))
  exact Qae ⟨⟨rfl,rfl⟩,⟨rfl,rfl⟩,⟨rfl,rfl⟩,⟨rfl,rfl⟩,⟨rfl,rfl⟩,⟨rfl,rfl⟩,trivial⟩ (Qao _) rfl
 rintro e s1 S1 a1 w1 hr1 ⟨rfl,hwk1⟩
 refine ⟨rfl,Qc6 (Qeb (fun a' w'=>∃ i s,i≤len∧Rep [] w' 29 [closeD c 180] s (kidSt bo br bs a len cap x i) a' w'∧w'.gh.feed=some ⟨c,q,readVs rs len i⟩∧w'.gh.id≠0)
  (fun _ w'=>match w'.gh.feed with | some f=>f.vs.length | none=>0) ?_ ?_)⟩
 ·have hg:=hr1.fr.gh
  exact ⟨0,s1,Nat.zero_le _,Rep.anew (Wk.rep' (Nat.zero_le _) hwk1 hr1),by rw [hg]; exact hf,by rw [hg]; exact hid⟩
 rintro a2 w2 ⟨i,s2,hi,hr2,hf2,hid2⟩
 refine Qbe (G:=⟨[],w2,29,[closeD c 180]⟩) (QS:=fun e S'=>e=.normal∧Wk S' ⟨[(11,.ext (.bool (decide ((i:Int) < len)))),(0,.ext (.pointer (some ⟨bo,0,none⟩))),(1,.ext (.pointer (some ⟨br,0,none⟩))),(2,.ext (.pointer (some ⟨bs,0,none⟩))),(8,.ext (.slice a len cap)),(9,.ext (.int .i64 len)),(10,.ext (.int .i64 i))],[],x⟩) hr2 ?_ ?_
 ·refine Qaa (by kernel_rfl) ?_
  unfold kidSt
  repeat' (first|((fail_if_success (with_reducible refine stk ?_));simp only [WE,Nat.reduceBEq]))
  exact Qae ⟨⟨rfl,rfl⟩,⟨rfl,rfl⟩,⟨rfl,rfl⟩,⟨rfl,rfl⟩,⟨rfl,rfl⟩,⟨rfl,rfl⟩,⟨rfl,rfl⟩,trivial⟩ (Qao _) rfl
 rintro e s3 S3 a3 w3 hr3 ⟨rfl,hwk3⟩
 have hr3:=Wk.rep' (Nat.zero_le _) hwk3 hr3
 have hg3:=hr3.fr.gh
 refine ⟨rfl,QaO (QeR (hr3.slot 11 _ rfl).1 ?_)⟩
 by_cases hlt:i < len
 ·have hd:decide ((i:Int) < len)=true:=by simpa using hlt
  rw [hd,if_pos rfl]
  refine QfL ?_
  have hr3:=Rep.anew hr3
  have hf3:w3.gh.feed=some ⟨c,q,readV (rs i) :: readVs rs len (i+1)⟩:=by rw [hg3,hf2,QrF hlt]
  have hid3:w3.gh.id≠0:=by rw [hg3]; exact hid2
  obtain ⟨hz,b,off,cc',T,f,rfl,hxr,hlr⟩:=hr i hlt
  refine QaO (Qc6 ?_)
  refine Qbe (G:=⟨[],w3,29,[closeD c 180]⟩) (QS:=fun e S'=>e=.normal∧Wk S' ⟨[(4,.ext (.slice (rs i).a (rs i).len (rs i).cap)),(0,.ext (.pointer (some ⟨bo,0,none⟩))),(1,.ext (.pointer (some ⟨br,0,none⟩))),(2,.ext (.pointer (some ⟨bs,0,none⟩))),(8,.ext (.slice (some ⟨b,off,none⟩) len cap)),(9,.ext (.int .i64 len)),(10,.ext (.int .i64 i))],[],x⟩) hr3 ?_ ?_
  ·refine Qaa (by kernel_rfl) ?_
   repeat' (first|(with_reducible refine Qam ⟨by omega,by omega⟩ ?_)|(with_reducible refine Qad hxr hlr ?_)|((fail_if_success (with_reducible refine stk ?_));simp only [WE,Nat.reduceBEq,QbX,QbR]))
   exact Qae ⟨⟨rfl,rfl⟩,⟨rfl,rfl⟩,⟨rfl,rfl⟩,⟨rfl,rfl⟩,⟨rfl,rfl⟩,⟨rfl,rfl⟩,⟨rfl,rfl⟩,trivial⟩ (Qao _) rfl
  rintro e s4 S4 a4 w4 hr4 ⟨rfl,hwk4⟩
  have hg4:=hr4.fr.gh
  have hr4:=Rep.anew (Wk.rep' (Nat.zero_le _) hwk4 hr4)
  refine ⟨rfl,?_⟩
  refine Qbe (G:=⟨[],w4,29,[closeD c 180]⟩) (QS:=fun e S'=>e=.normal∧Wk S' ⟨[(5,.ptr 0 0),(6,.ext (.int .i64 (evDec (rs i).len (rs i).zs).2)),(0,.ext (.pointer (some ⟨bo,0,none⟩))),(1,.ext (.pointer (some ⟨br,0,none⟩))),(2,.ext (.pointer (some ⟨bs,0,none⟩))),(8,.ext (.slice (some ⟨b,off,none⟩) len cap)),(9,.ext (.int .i64 len)),(10,.ext (.int .i64 i))],[.cells 64 [.ext (.int .i64 (evDec (rs i).len (rs i).zs).1.kind),.ext (.int .i64 (evDec (rs i).len (rs i).zs).1.time),.ext (.int .i64 (evDec (rs i).len (rs i).zs).1.bytes),.ext (.int .i64 (evDec (rs i).len (rs i).zs).1.rtt)]],x⟩) hr4 ?_ ?_
  ·refine Qaa (by kernel_rfl) ?_
   repeat' (first|((with_reducible show callW _ _ _ (some (28,_)) _ _);refine callP QiF rfl (QlL hz) ?_)|((fail_if_success (with_reducible refine stk ?_));simp only [WE,Nat.reduceBEq,Nat.reduceAdd,Nat.reduceEqDiff,QaU,QeN]))
   exact Qae ⟨⟨rfl,rfl⟩,⟨rfl,rfl⟩,⟨rfl,rfl⟩,⟨rfl,rfl⟩,⟨rfl,rfl⟩,⟨rfl,rfl⟩,⟨rfl,rfl⟩,⟨rfl,rfl⟩,trivial⟩ (Qao _) rfl
  rintro e s5 S5 a5 w5 hr5 ⟨rfl,hwk5⟩
  have hg5:=hr5.fr.gh
  have hr5:=Wk.rep' (Nat.zero_le _) hwk5 hr5
  refine ⟨rfl,?_⟩
  refine Qbe (G:=⟨[],w4,29,[closeD c 180]⟩) (QS:=fun e S'=>e=.normal∧Wk S' ⟨[(19,.ext (.chan (some c))),(22,.ext (readV (rs i))),(23,.ext (.chan (some q))),(0,.ext (.pointer (some ⟨bo,0,none⟩))),(1,.ext (.pointer (some ⟨br,0,none⟩))),(2,.ext (.pointer (some ⟨bs,0,none⟩))),(8,.ext (.slice (some ⟨b,off,none⟩) len cap)),(9,.ext (.int .i64 len)),(10,.ext (.int .i64 i))],[],x⟩) hr5 ?_ ?_
  ·refine Qaa (by kernel_rfl) ?_
   unfold readV
   repeat' (first|(with_reducible refine Qad (v:=.chan (some c)) hbo (by with_unfolding_all exact rfl) ?_)|(with_reducible refine Qad (v:=.chan (some q)) hbs (by with_unfolding_all exact rfl) ?_)|((fail_if_success (with_reducible refine stk ?_));simp only [WE,Nat.reduceLeDiff,segX,Nat.reduceBEq,Nat.reduceAdd,QaU,QF7,QfC,Qt8]))
   exact Qae ⟨⟨rfl,rfl⟩,⟨rfl,rfl⟩,⟨rfl,rfl⟩,⟨rfl,rfl⟩,⟨rfl,rfl⟩,⟨rfl,rfl⟩,⟨rfl,rfl⟩,⟨rfl,rfl⟩,⟨rfl,rfl⟩,trivial⟩ (by trivial) rfl
  rintro e s6 S6 a6 w6 hr6 ⟨rfl,hwk6⟩
  have hg6:=hr6.fr.gh
  have hr6:=Rep.anew (Wk.rep' (Nat.zero_le _) hwk6 hr6)
  have hg:w6.gh=w3.gh:=hg6.trans hg4
  refine ⟨rfl,?_⟩
  refine QaO (QbD ?_)
  show OpsR _ _ _ (0 :: List.range' 1 3) _ _ _
  refine QBL (z:=.agg #[.int .i64 0,.int .i64 0,.int .i64 0,.int .i64 0,.int .i64 0]) (z':=.agg #[]) (f:=⟨c,q,readV (rs i) :: readVs rs len (i+1)⟩) rfl (by simp [Region.wanted]) (QFf rfl (hr6.slot 19 _ rfl).1 (hr6.slot 22 _ rfl).1 (hr6.slot 23 _ rfl).1 (by kernel_rfl) (by kernel_rfl)) (by simp) (by rw [hg]; exact hf3) rfl ?_
  have hr7:=(QCF (w':=w6.sent ⟨c,q,readV (rs i) :: readVs rs len (i+1)⟩ (readVs rs len (i+1))) hr6 rfl rfl rfl).put (d:=some 24) (v:=.ext (.tuple #[.int .i64 0,.bool false,.agg #[]])) (fun i hi=>by cases hi; exact Nat.le_of_ble_eq_true rfl) rfl
  refine QcX (n:=29) (j:=1) (QS:=fun S'=>Wk S' ⟨[(26,.ext (.bool true)),(0,.ext (.pointer (some ⟨bo,0,none⟩))),(1,.ext (.pointer (some ⟨br,0,none⟩))),(2,.ext (.pointer (some ⟨bs,0,none⟩))),(8,.ext (.slice (some ⟨b,off,none⟩) len cap)),(9,.ext (.int .i64 len)),(10,.ext (.int .i64 i))],[],x⟩) (by kernel_rfl) hr7 ?_ ?_
  ·show opsW _ _ [_,_,_] _ _ _
   repeat' (first|((fail_if_success (with_reducible refine stk ?_));simp only [WE,Nat.reduceBEq,Int.reduceBEq]))
   exact Qae ⟨⟨rfl,rfl⟩,⟨rfl,rfl⟩,⟨rfl,rfl⟩,⟨rfl,rfl⟩,⟨rfl,rfl⟩,⟨rfl,rfl⟩,⟨rfl,rfl⟩,trivial⟩ (by trivial) rfl
  intro s7 S7 a7 w7 hr8 hwk8
  have hg8:=hr8.fr.gh
  have hr8:=Rep.anew (Wk.rep' (Nat.zero_le _) hwk8 hr8)
  refine Qc6 (QeR (hr8.slot 26 _ rfl).1 ?_)
  rw [if_pos rfl]
  refine QfL ?_
  show Wp _ _ _ _ _ _
  have hi1:wr .i64 ((i:Int)+1)=((i+1:Nat):Int):=by rw [QbN]; omega
  have hr9:Rep [] w7 29 [closeD c 180] s7 ⟨[(0,.ext (.pointer (some ⟨bo,0,none⟩))),(1,.ext (.pointer (some ⟨br,0,none⟩))),(2,.ext (.pointer (some ⟨bs,0,none⟩))),(8,.ext (.slice (some ⟨b,off,none⟩) len cap)),(9,.ext (.int .i64 len)),(10,.ext (.int .i64 i))],[],x⟩ a7 w7:=Wk.rep' (Nat.zero_le _) (Qae ⟨⟨rfl,rfl⟩,⟨rfl,rfl⟩,⟨rfl,rfl⟩,⟨rfl,rfl⟩,⟨rfl,rfl⟩,⟨rfl,rfl⟩,trivial⟩ trivial rfl) hr8
  refine Wp.mono (Wp.any ((?_:Sd Tryz.prog ⟨[],w7,29,[closeD c 180]⟩ _ (fun e S'=>e=.normal∧Wk S' (kidSt bo br bs (some ⟨b,off,none⟩) len cap x (i+1))) _) s7 a7 w7 hr9)) ?_
  ·refine Qaa (by kernel_rfl) ?_
   unfold kidSt
   repeat' (first|((fail_if_success (with_reducible refine stk ?_));simp only [WE,Nat.reduceBEq,hi1]))
   exact Qae ⟨⟨rfl,rfl⟩,⟨rfl,rfl⟩,⟨rfl,rfl⟩,⟨rfl,rfl⟩,⟨rfl,rfl⟩,⟨rfl,rfl⟩,trivial⟩ (Qao _) rfl
  rintro e a8 w8 ⟨s8,S8,hr10,rfl,hwk10⟩
  have hg10:=hr10.fr.gh
  have hf7:w7.gh.feed=some ⟨c,q,readVs rs len (i+1)⟩:=by rw [hg8]; rfl
  have hid7:w7.gh.id≠0:=by rw [hg8]; show w6.gh.id≠0; rw [hg]; exact hid3
  refine ⟨⟨i+1,s8,hlt,Rep.anew (Wk.rep' (Nat.zero_le _) hwk10 hr10),by rw [hg10]; exact hf7,by rw [hg10]; exact hid7⟩,?_⟩
  rw [hg10]
  simp only [hf7,hf2,Qg7]
  omega
 ·have hd:decide ((i:Int) < len)=false:=by simpa using hlt
  rw [hd,if_neg (by simp)]
  refine Qhw ?_
  have hil:i=len:=by omega
  show (if (0:Nat)=0 then Q .normal a3 w3 else Q (.exit 0) a3 w3)
  rw [if_pos rfl]
  refine hQ a3 w3 hr3.df ?_ (by rw [hg3]; exact hid2)
  rw [hg3,hf2,QCy (by omega)]
theorem QzY {c0 c1 c2 c3 c4 c5 c6 c7 c8 c9 cc:Code} (hc:Tryz.f171.body=some (.seq c0 (.seq c1 (.block 0 (.loop (.seq c2 (.seq (.cond (.tmp 11) .skip (.exit 0)) (.seq (.block 1 (.seq c3 (.seq c4 (.seq (.seq (.seq c5 c6) c7) (.seq c8 (.block 2 cc)))))) c9))))))))
  {x:Nat→Obj→Prop} {a:Option Addr} {len cap:Nat} {rs:Nat→Raw} (hmax:len≤1000) (hr:Raws x a len rs) {c q bo br bs:Nat}
  (hbo:x bo (.cells #[.chan (some c)] 180 (0,0))) (hbr:x br (.cells #[.slice a len cap] 24 (0,0))) (hbs:x bs (.cells #[.chan (some q)] 179 (0,0)))
  {w:WM} {a0:Act} {s0:Nat→Nat} {Q:Exit→Act→WM→Prop} (hrep:Rep [] w 29 [] s0 ⟨[(0,.ext (.pointer (some ⟨bo,0,none⟩))),(1,.ext (.pointer (some ⟨br,0,none⟩))),(2,.ext (.pointer (some ⟨bs,0,none⟩)))],[],x⟩ a0 w)
  (hf:w.gh.feed=some ⟨c,q,readVs rs len 0⟩) (hid:w.gh.id≠0)
  (hQ:∀ a' w',a'.defers=[closeD c 180]→w'.gh.feed=some ⟨c,q,[]⟩→w'.gh.id≠0→Q .normal a' w') :
  Wp Tryz.prog true (.seq c0 (.seq c1 (.block 0 (.loop (.seq c2 (.seq (.cond (.tmp 11) .skip (.exit 0)) (.seq (.block 1 (.seq c3 (.seq c4 (.seq (.seq (.seq c5 c6) c7) (.seq c8 (.block 2 cc)))))) c9))))))) Q a0 w:=by
 have hc':=hc
 simp only [Tryz.f171,Option.some.injEq,Code.seq.injEq] at hc'
 obtain ⟨rfl,_⟩:=hc'
 refine QaO (QbD ?_)
 show OpsR _ _ _ [0,1] _ _ _
 refine QeD rfl rfl (Qcs hrep (K:=fun v S'=>v=.ext (.chan (some c))∧S'=⟨[(0,.ext (.pointer (some ⟨bo,0,none⟩))),(1,.ext (.pointer (some ⟨br,0,none⟩))),(2,.ext (.pointer (some ⟨bs,0,none⟩)))],[],x⟩) (Pn:=fun _ _=>False) ?_ ?_ (fun _ _ _ _ _ h=>h.elim))
 ·show opW _ _ _ (⟨some 7,.load 180 (.tmp 0),_,_,_,none⟩:Oper) _ _
  repeat' (first|((fail_if_success (with_reducible refine stk ?_));simp only [WE,QfC]))
  exact Qad hbo (by with_unfolding_all exact rfl) ⟨rfl,rfl⟩
 rintro s1 v S1 w1 _ hcl hr1 ⟨rfl,rfl⟩
 have hr2:=hr1.put (d:=some 7) (fun i hi=>by cases hi; exact Nat.le_of_ble_eq_true rfl) hcl
 have he:=(hr2.slot 7 _ rfl).1
 refine Qjj (d:=closeD c 180) rfl (by simp [Region.wanted]) (fun v=>?_) (Qct ?_)
 ·simp only [Act.put] at he
  constructor <;> simp [execOp,resolve,Act.eval,Act.put,ren,closeD,show a0.tmps.size=29 from hr1.size]
 have hg:=hr1.fr.gh
 exact Qz0 hc hmax hr hbo hbr hbs (Rep.anew (Wk.rep' (Nat.zero_le _) (Qae ⟨⟨rfl,rfl⟩,⟨rfl,rfl⟩,⟨rfl,rfl⟩,trivial⟩ (Qao _) rfl) (S:=⟨_,_,_⟩) ⟨hr2.mr,hr2.own,hr2.fr,hr2.size,hr2.slot,congrArg (List.cons (closeD c 180)) hr2.df⟩)) (by rw [hg]; exact hf) (by rw [hg]; exact hid) hQ
def kidD (bo br bs:Nat):Deferred:={ target:=.fn (.func 171) #[.pointer (some ⟨bo,0,none⟩),.pointer (some ⟨br,0,none⟩),.pointer (some ⟨bs,0,none⟩)],args:=#[] }
theorem Qz1 {x:Nat→Obj→Prop} {a:Option Addr} {len cap:Nat} {rs:Nat→Raw} (hmax:len≤1000) (hr:Raws x a len rs) {c q bo br bs:Nat}
  (hbo:x bo (.cells #[.chan (some c)] 180 (0,0))) (hbr:x br (.cells #[.slice a len cap] 24 (0,0))) (hbs:x bs (.cells #[.chan (some q)] 179 (0,0)))
  {w:WM} (hx:∀ b o,x b o→w.heap[b]? = some o∧w.O b) (hwf:∀ b,w.O b→b < w.heap.size) (hf:w.gh.feed=some ⟨c,q,readVs rs len 0⟩) (hid:w.gh.id≠0) (Stop:Go.Goroutine→WM→Prop):Run Tryz.prog Stop (kidG Tryz.prog (kidD bo br bs)) w:=by
 let kf:Frame:={ (default:Frame) with fn:=Tryz.prog.funcs.size,defers:=[],mode:=.panicking [goexitEntry] }
 let args:Array Value:=#[.pointer (some ⟨bo,0,none⟩),.pointer (some ⟨br,0,none⟩),.pointer (some ⟨bs,0,none⟩)]
 refine Qsl (f:=171) (args:=args) (d:=kidD bo br bs) (ds:=[]) (fv:=.func 171) (cap:=args) (by simp) rfl rfl (fun v=>Qzi args v) ?_
 let b:Frame:={ (default:Frame) with fn:=171,kind:=.deferred,roundOf:=none }
 have hb:Tryz.f171.body.isSome=true:=rfl
 obtain ⟨body,hbody⟩:=Option.isSome_iff_exists.1 hb
 have henter:Frame.enter Tryz.prog 171 args .deferred=b.atR { tmps:=args ++ Array.replicate (29 - args.size) undef,defers:=[] } [.code body]:=by
  simp [Frame.enter,Frame.atR,Tryz.func171,hbody,b]
 show Run _ _ (Go.Conc.G (Frame.enter Tryz.prog 171 args .deferred) [kf]) w
 rw [henter]
 have hrep:=Qcv (w:=w) (n:=29) (args:=[.ext (.pointer (some ⟨bo,0,none⟩)),.ext (.pointer (some ⟨br,0,none⟩)),.ext (.pointer (some ⟨bs,0,none⟩))]) (s:=fun _=>0) (m:=[]) (x:=x) (bs:=[]) (by simp)
  ⟨fun k o hk=>by simp at hk,fun j k hj=>by simp at hj,fun k o hk=>by simp at hk,fun b o hb=>(hx b o hb).1,fun b o _ k hk=>by simp at hk,fun k hk=>by simp at hk,fun b o hb=>(hx b o hb).2,hwf⟩ (.none fun k hk=>by simp at hk) (by simp [clo])
 have hbody':=hbody
 simp only [Tryz.f171,Option.some.injEq] at hbody'
 subst hbody'
 refine QzY rfl hmax hr hbo hbr hbs hrep hf hid (Q:=fun e a' w'=>e=.normal∧a'.defers=[closeD c 180]∧w'.gh.feed=some ⟨c,q,[]⟩∧w'.gh.id≠0) (fun a' w' h1 h2 h3=>⟨rfl,h1,h2,h3⟩) b [] [kf] Stop (by simp [b]) (fun _=>rfl) ?_
 rintro e a' w' ⟨rfl,h1,h2,h3⟩
 refine .ctl rfl (fun _ _=>QeK rfl) (QE7 (f:=⟨c,q,[]⟩) (fn:=Tryz.f171) rfl rfl h1 Tryz.func171 rfl rfl rfl ?_ h2 rfl h3)
 simp [Frame.catches,kf]
 rfl
def rawEv (r:Raw):Ev×Int:=evDec r.len r.zs
def playStep (s:Es) (r:Raw):Es×Int:=if (rawEv r).2=0 then esDo s (rawEv r).1 else (s,(rawEv r).2)
def playUp (s:Es) (rs:Nat→Raw):Nat→Es×List (Es×Int)
 | 0=>(s,[])
 | i+1=>((playStep (playUp s rs i).1 (rs i)).1,(playUp s rs i).2 ++ [playStep (playUp s rs i).1 (rs i)])
theorem QcZ (s:Es) (rs:Nat→Raw):∀ i,(playUp s rs i).2.length=i
 | 0=>rfl
 | i+1=>by simp [playUp,QcZ s rs i]
structure PIn (s:Es) (n:Nat):Prop where
 ok:EsOk s
 fl:FlIn s.fl
 rd:in64 s.rd.id
 ms:s.ms.length≤n
theorem PIn.in_ {s:Es} {n:Nat} (h:PIn s n) (hn:n≤90000):EsIn s:=⟨h.fl,h.rd,by have:=h.ok.back; unfold in64; omega,by have:=h.ms; omega⟩
theorem QxB (s:Es) (e:Ev):(esSend s e).1.rd=s.rd:=by
 have h:(esWake s e).rd=s.rd:=by unfold esWake; split <;> rfl
 unfold esSend
 revert h
 generalize esWake s e=t
 intro h
 unfold esSend0
 (repeat' split) <;> exact h
theorem QmQ (s:Es):(esCut s).rd=s.rd:=by unfold esCut; cases esRecs s <;> rfl
theorem QxD (s:Es) (e:Ev):(esTimes s e).1.rd=s.rd:=by
 unfold esTimes; simp only [Bool.cond_eq_ite]; (repeat' split) <;> rfl
theorem QCv {r:Rd} (h:in64 r.id) (a b:Int):in64 (rdAck r a b).1.id:=by
 unfold rdAck
 (repeat' split) <;> first | exact h|(unfold in64 at *; simp only; omega)
theorem Qxv {s:Es} (h:in64 s.rd.id):in64 (esRound s).1.rd.id:=by
 have:=QCv h (esRes s) s.fl.sent
 unfold esRound
 simp only [Bool.cond_eq_ite]
 (repeat' split) <;> first | exact h | exact this
theorem Qxp (s:Es) (e:Ev):(esGrow s e).1.rd=s.rd:=by
 have h0:∀ n,(esCalm s e n).1.rd=s.rd:=fun n=>by
  have h0:(esCalm0 s e).1.rd=s.rd:=by unfold esCalm0; simp only [Bool.cond_eq_ite]; (repeat' split) <;> rfl
  unfold esCalm
  split
  ·exact h0
  ·unfold esCalm1; exact h0
 unfold esGrow
 simp only [Bool.cond_eq_ite]
 (repeat' split) <;> first | rfl | exact h0 _
theorem Qw4 {s:Es} {e:Ev} (h:in64 s.rd.id):in64 (esAck s e).1.rd.id:=by
 have h1:=QxD (esTold s e) e
 have h2:in64 (esTimes (esTold s e) e).1.rd.id:=by rw [h1]; exact h
 have h3:=Qxv h2
 have h4:=Qxp (esRound (esTimes (esTold s e) e).1).1 e
 unfold esAck
 (repeat' split) <;> first | exact h|(rw [h4]; exact h3)
theorem Qxd {s:Es} {e:Ev} (h:in64 s.rd.id):in64 (esBy s e).1.rd.id:=by
 unfold esBy
 (repeat' split)
 ·rw [QxB]; exact h
 ·exact Qw4 h
 ·unfold esLose; split
  ·exact h
  ·rw [QmQ]; exact h
 ·rw [QmQ]; exact h
 ·unfold esLate; (repeat' split) <;> first | exact h|(unfold rdBegin in64; simp only; omega)
 ·exact h
 ·exact h
theorem QmV {s:Es} {e:Ev} (h:in64 s.rd.id) (h0:(esDo s e).2=0):in64 (esDo s e).1.rd.id:=by
 obtain ⟨h1,h2,h3,h4,h5,h6,h7⟩:=Qen h0
 rw [h5]
 refine Qxd ?_
 exact h
theorem PIn.step {s:Es} {n:Nat} (h:PIn s n) (r:Raw):PIn (playStep s r).1 (n+1):=by
 unfold playStep
 split
 ·by_cases h0:(esDo s (rawEv r).1).2=0
  ·have:=QmU s (rawEv r).1
   have h2:=h.ms
   exact ⟨(Qgg h0).2.1,QmT h.fl h0,QmV h.rd h0,by omega⟩
  ·rw [Qgf h0]
   exact ⟨h.ok,h.fl,h.rd,by have:=h.ms; omega⟩
 ·exact ⟨h.ok,h.fl,h.rd,by have:=h.ms; show s.ms.length≤n+1; omega⟩
theorem PIn.up {s:Es} (h:PIn s 0) (rs:Nat→Raw):∀ i,PIn (playUp s rs i).1 i
 | 0=>h
 | i+1=>(PIn.up h rs i).step (rs i)
theorem PIn.new {c:Cf} (h:c.ok=true):PIn (esNew c).1 0:=by
 have hc:CfIn c:=(c.ok_iff).1 h
 have hf:cfFirst c=c.first * 65536:=if_pos hc
 obtain ⟨⟨a1,a2⟩,⟨b1,b2⟩,⟨c1,c2⟩,⟨d1,d2⟩,⟨e1,e2⟩,⟨f1,f2⟩,⟨g1,g2⟩⟩:=hc
 have hb:c.burst * c.seg≤9000000∧1≤c.burst * c.seg:=by
  have h1:c.burst * c.seg≤1000 * 9000:=Int.mul_le_mul g2 a2 (by omega) (by omega)
  have h2:1 * 1≤c.burst * c.seg:=Int.mul_le_mul g1 a1 (by omega) (by omega)
  omega
 unfold esNew
 rw [h]
 refine ⟨⟨⟨⟨a1,a2⟩,⟨b1,b2⟩,⟨c1,c2⟩,⟨d1,d2⟩,⟨e1,e2⟩,⟨f1,f2⟩,⟨g1,g2⟩⟩,?_,?_,?_,?_,?_,?_,?_,?_,?_,?_,?_,?_,?_,?_,?_,?_⟩,?_,?_,?_⟩
 ·simp
 ·simp
 ·simp only [cond_true]; rw [hf]; omega
 ·simp
 ·simp
 ·simp only [cond_true]; decide
 ·rfl
 ·rfl
 ·simp
 ·exact (by decide:rdOk ⟨0,0⟩)
 ·exact (by decide:hyOk ⟨0,0,0,false,false,0,0⟩)
 ·exact (by decide:epOk Ep.zero)
 ·simp only [cond_true]
  unfold bkOk
  simp only
  omega
 ·simp
 ·simp
 ·simp
 ·constructor <;> (unfold in64; simp)
 ·unfold in64; simp
 ·simp
def noStar (x:Nat→Obj→Prop):Nat→Obj→Prop:=fun b o=>x b o∧b≠star
theorem Raws.mono {x y:Nat→Obj→Prop} {a:Option Addr} {len:Nat} {rs:Nat→Raw} (h:Raws x a len rs) (hx:xsub x y):Raws y a len rs:=fun i hi=>by
 obtain ⟨h1,b,off,c,T,f,h2,h3,h4⟩:=h i hi
 refine ⟨fun j hj=>?_,b,off,c,T,f,h2,hx _ _ h3,h4⟩
 obtain ⟨g1,b',off',c',T',f',g2,g3,g4⟩:=h1 j hj
 exact ⟨g1,b',off',c',T',f',g2,hx _ _ g3,g4⟩
theorem Qwu (r:Option Nat):(Value.chan r).cells=#[.chan r]:=rfl
structure Lends (x:Nat→Obj→Prop) (w:WM) (c q:Nat) (vs:List Value) (F:Nat→Prop) (kid:Nat) (w2 w':WM):Prop where
 f1:Fr [] w w2
 ok2:NewOk w2
 new:w.heap.size≤c
 lent:∀ b,F b→(∃ o,x b o)∨w.heap.size≤b
 FM:∀ b,F b→w2.M b∧b≠c∧b≠q
 mc:w2.M c
 f2:Fr [] (w2.lend c q vs F kid) w'
 ok:NewOk w'
theorem QCz {x:Nat→Obj→Prop} {o0:Obj} (hst:x star o0) {a:Option Addr} {len cap:Nat} {rs:Nat→Raw} (hmax:len≤1000) (hr:Raws (noStar x) a len rs) {q:Nat} {w:WM}
  (hx:∀ b o,x b o→w.heap[b]? = some o∧w.O b) (hwf:∀ b,w.O b→b < w.heap.size) (hq:w.M q) (hqo:openCh w.w q) (hqx:∀ o,¬ x q o) :
  R.Calls Tryz.prog 106 #[.slice a len cap,.chan (some q)] w fun e w'=>∃ c kid F w2,e=.returned (.chan (some c))∧Lends x w c q (readVs rs len 0) F kid w2 w':=by
 have hb:Tryz.f106.body.isSome=true:=rfl
 obtain ⟨body,hbody⟩:=Option.isSome_iff_exists.1 hb
 refine Qf7 Tryz.func106 hbody ?_
 simp only [Tryz.f106,Option.some.injEq] at hbody
 subst hbody
 have hrep:=Qcv (w:=w) (n:=9) (args:=[.ext (.slice a len cap),.ext (.chan (some q))]) (s:=fun _=>0) (m:=[]) (x:=x) (bs:=[]) (by simp)
  ⟨fun k o hk=>by simp at hk,fun j k hj=>by simp at hj,fun k o hk=>by simp at hk,fun b o hb=>(hx b o hb).1,fun b o _ k hk=>by simp at hk,fun k hk=>by simp at hk,fun b o hb=>(hx b o hb).2,hwf⟩ (.none fun k hk=>by simp at hk) (by simp [clo])
 refine Qbe (G:=⟨[],w,9,[]⟩) (QS:=fun e S'=>e=.normal∧Wk S' ⟨[(2,.ptr 0 0),(3,.ptr 1 0)],[.cells 24 [.ext (.slice a len cap)],.cells 179 [.ext (.chan (some q))]],x⟩) hrep ?_ ?_
 ·refine Qaa (by kernel_rfl) ?_
  repeat' (first|((fail_if_success (with_reducible refine stk ?_));simp only [WE,Nat.reduceBEq,Nat.reduceAdd]))
  exact Qae ⟨⟨rfl,rfl⟩,⟨rfl,rfl⟩,trivial⟩ (Qao _) rfl
 rintro e s1 S1 a1 w1 hr1 ⟨rfl,hwk1⟩
 have hr1:=Wk.rep' (Nat.zero_le _) hwk1 hr1
 refine ⟨rfl,?_⟩
 refine QaO (QbD ?_)
 show OpsR _ _ _ (0 :: List.range' 1 2) _ _ _
 refine QqW (dir:=.both) (elem:=130) rfl rfl rfl rfl rfl (by kernel_rfl) (by kernel_rfl) hr1 ?_
 intro w3 c hr3
 refine QqY (n:=9) (j:=1) (QS:=fun S'=>Wk S' ⟨[(2,.ptr 0 0),(3,.ptr 1 0),(5,.ptr 3 0)],[.cells 24 [.ext (.slice a len cap)],.cells 179 [.ext (.chan (some q))],.obj (.chan 0 #[] false 0 0 false),.cells 180 [.ext (.chan (some c))]],x⟩) (by kernel_rfl) hr3 ?_ ?_
 ·show opsW _ _ [_,_] ⟨[(6,.ext (.chan (some c))),(2,.ptr 0 0),(3,.ptr 1 0)],[.cells 24 [.ext (.slice a len cap)],.cells 179 [.ext (.chan (some q))],.obj (.chan 0 #[] false 0 0 false)],x⟩ _ _
  repeat' (first|((fail_if_success (with_reducible refine stk ?_));simp only [WE,Nat.reduceBEq,Nat.reduceAdd,Nat.reduceEqDiff,QfC,Qs2,Qwu]))
  exact ⟨rfl,Qae ⟨⟨rfl,rfl⟩,⟨rfl,rfl⟩,⟨rfl,rfl⟩,trivial⟩ (Qao _) rfl⟩
 intro s4 S4 a4 w4 hr4 hpin4 _ hwk4
 have hr4:=Wk.rep' (Nat.zero_le _) hwk4 hr4
 have hc4:s4 2=c:=by rw [hpin4 2 (by simp)]; simp
 subst hc4
 show Wp _ _ _ _ _ _
 refine QaO (QbD ?_)
 show OpsR _ _ _ [0,1] _ _ _
 refine QeD rfl rfl (Qcs hr4 (K:=fun v S'=>v=.clos 171 [(3,0),(0,0),(1,0)]∧S'=⟨[(2,.ptr 0 0),(3,.ptr 1 0),(5,.ptr 3 0)],[.cells 24 [.ext (.slice a len cap)],.cells 179 [.ext (.chan (some q))],.obj (.chan 0 #[] false 0 0 false),.cells 180 [.ext (.chan (some (s4 2)))]],x⟩) (Pn:=fun _ _=>False) ?_ ?_ (fun _ _ _ _ _ h=>h.elim))
 ·show opW _ _ _ (⟨some 7,.makeFunc (.func 171) #[] #[.tmp 5,.tmp 2,.tmp 3],_,_,_,none⟩:Oper) _ _
  simp only [WE,Nat.reduceLeDiff,segX,Nat.reduceBEq,Nat.reduceAdd,Nat.reduceEqDiff,Int.reduceNeg,Int.reduceEq,Int.reduceBEq,Int.reduceLT,Int.reduceLE,Int.reduceBNe,Int.reduceToNat,Nat.reduceMul,Nat.reduceMod,Int.reducePow,reduceIte,QfC,Qs2,QrR]
 rintro s5 v S5 w5 hpin5 hcl hr5 ⟨rfl,rfl⟩
 have hr6:=hr5.put (d:=some 7) (fun i hi=>by cases hi; exact Nat.le_of_ble_eq_true rfl) hcl
 have he:=hr6.val (i:=7) rfl
 have p2:s5 2=s4 2:=hpin5 2 (by simp)
 rw [←p2] at hr6 hr5
 have hN:∀ k,k < 4→w.heap.size≤s5 k:=fun k hk=>(hr5.own.mem hk).resolve_left (by simp)
 have hql:q < w.heap.size:=hwf q (.inl hq)
 have hM:∀ k,k < 4→w5.M (s5 k):=fun k hk=>hr5.mr.mine k hk
 have inj:∀ j k,j < 4→k < 4→j≠k→s5 j≠s5 k:=fun j k hj hk hne h=>hne (hr5.mr.inj j k hj hk h)
 have hqM:w5.M q:=hr5.fr.M q hq
 have hqO:openCh w5.w q:=by
  obtain ⟨s,r,tm,h⟩:=hqo
  exact ⟨s,r,tm,(hr5.fr.block q (.inl hq) hql (by simp)).trans h⟩
 have hne:∀ k,k < 4→s5 k≠q:=fun k hk h=>by have:=hN k hk; omega
 have hcO:openCh w5.w (s5 2):=⟨0,0,false,hr5.mr.mem 2 _ rfl⟩
 let x3:Nat→Obj→Prop:=fun b o=>x b o∨(b=s5 0∧o=.cells #[.slice a len cap] 24 (0,0))∨(b=s5 1∧o=.cells #[.chan (some q)] 179 (0,0))∨(b=s5 3∧o=.cells #[.chan (some (s5 2))] 180 (0,0))
 let F:Nat→Prop:=fun b=>(∃ o,x3 b o)∧w5.M b∧b≠s5 2∧b≠q
 have hx3:∀ b o,x3 b o→w5.heap[b]? = some o∧(w5.X b∨F b):=by
  rintro b o (hb | ⟨rfl,rfl⟩ | ⟨rfl,rfl⟩ | ⟨rfl,rfl⟩)
  ·refine ⟨hr5.mr.ext b o hb,?_⟩
   rcases hr5.mr.know b o hb with h | h
   ·exact .inr ⟨⟨o,.inl hb⟩,h,fun e=>hr5.mr.apart b o hb 2 (by simp) e.symm,fun e=>hqx o (e▸hb)⟩
   ·exact .inl h
  ·exact ⟨hr5.mr.mem 0 _ rfl,.inr ⟨⟨_,.inr (.inl ⟨rfl,rfl⟩)⟩,hM 0 (by decide),inj 0 2 (by decide) (by decide) (by decide),hne 0 (by decide)⟩⟩
  ·exact ⟨hr5.mr.mem 1 _ rfl,.inr ⟨⟨_,.inr (.inr (.inl ⟨rfl,rfl⟩))⟩,hM 1 (by decide),inj 1 2 (by decide) (by decide) (by decide),hne 1 (by decide)⟩⟩
  ·exact ⟨hr5.mr.mem 3 _ rfl,.inr ⟨⟨_,.inr (.inr (.inr ⟨rfl,rfl⟩))⟩,hM 3 (by decide),inj 3 2 (by decide) (by decide) (by decide),hne 3 (by decide)⟩⟩
 have hstar:∀ k,k < 4→s5 k≠star:=fun k hk=>hr5.mr.apart star o0 hst k hk
 have hO:w5.O star:=hr5.mr.know star o0 hst
 refine QBJ (d:=kidD (s5 3) (s5 0) (s5 1)) rfl (by simp [Region.wanted]) (fun v=>?_) (by simp) (by simp [kidD]) (s5 2) q (readVs rs len 0) F (hM 2 (by decide)) hqM (hne 2 (by decide)) (fun b hb=>hb.2) hO hcO hqO ?_ ?_
 ·constructor <;> simp [execOp,resolve,Act.eval,Act.put,ren,Deferred.ofValue,kidD,show a4.tmps.size=9 from hr5.size]
 ·intro Stop i hi
  refine Qz1 (x:=noStar x3) hmax (hr.mono fun b o hb=>⟨.inl hb.1,hb.2⟩) (c:=s5 2) (q:=q) ⟨.inr (.inr (.inr ⟨rfl,rfl⟩)),hstar 3 (by decide)⟩ ⟨.inr (.inl ⟨rfl,rfl⟩),hstar 0 (by decide)⟩ ⟨.inr (.inr (.inl ⟨rfl,rfl⟩)),hstar 1 (by decide)⟩ ?_ ?_ rfl hi Stop
  ·exact fun b o hb=>⟨(hx3 b o hb.1).1,.inr ⟨(hx3 b o hb.1).2,hb.2⟩⟩
  ·rintro b (hb | hb)
   ·exact hb.elim
   ·exact hr5.mr.wf b (hb.1.elim .inr fun h=>.inl h.2.1)
 ·intro i hi
  refine Qct ?_
  show Wp _ _ _ _ _ _
  have hr7:Rep [] (w5.lend (s5 2) q (readVs rs len 0) F i) 9 [] s5 ⟨[(5,.ext (.pointer (some ⟨s5 3,0,none⟩)))],[],x3⟩ (a4.put (some 7) (ren s5 (.clos 171 [(3,0),(0,0),(1,0)]))) (w5.lend (s5 2) q (readVs rs len 0) F i):=by
   refine ⟨⟨fun k o hk=>by simp at hk,fun j k hj=>by simp at hj,fun k o hk=>by simp at hk,fun b o hb=>(hx3 b o hb).1,fun b o _ k hk=>by simp at hk,fun k hk=>by simp at hk,fun b o hb=>.inr (hx3 b o hb).2,?_⟩,.none fun k hk=>by simp at hk,Fr.refl _ _,hr6.size,?_,hr6.df⟩
   ·rintro b (hb | hb)
    ·exact hr5.mr.wf b (.inl hb.1)
    ·exact hr5.mr.wf b (hb.elim .inr fun h=>.inl h.2.1)
   ·intro j v hj
    simp only [Qa7,QiX] at hj
    split at hj
    ·rename_i e
     subst e
     obtain rfl:=Option.some.inj hj
     exact ⟨(hr6.slot 5 _ rfl).1,rfl⟩
    ·cases hj
  refine Wp.mono (Wp.any ((?_:Sd Tryz.prog ⟨[],w5.lend (s5 2) q (readVs rs len 0) F i,9,[]⟩ _ (Back Tryz.prog Tryz.f106 (.chan (some (s5 2)))) _) s5 _ _ hr7)) ?_
  ·refine Qaa (by kernel_rfl) ?_
   repeat' (first|((fail_if_success (with_reducible refine stk ?_));simp only [WE,QfC]))
   refine Qad (v:=.chan (some (s5 2))) (.inr (.inr (.inr ⟨rfl,rfl⟩))) (by with_unfolding_all exact rfl) ?_
   repeat' (first|((fail_if_success (with_reducible refine stk ?_));simp only [WE,QrR]))
  rintro e a8 w8 ⟨s8,S8,hr8,hq8⟩
  have main:resW Tryz.prog S8 Tryz.f106.results.toList (.chan (some (s5 2)))→R.bodyPost Tryz.prog Tryz.f106 (fun e w'=>∃ c kid F w2,e=.returned (.chan (some c))∧Lends x w c q (readVs rs len 0) F kid w2 w') .ret a8 w8:=fun h8=>⟨hr8.df,fun w9 hrel=>by
   have hr9:=hr8.rely hrel
   have h9:=Qd6 (fn:=Tryz.f106) hr9.sl hr9.mr h8
   refine ⟨_,h9.1,h9.2,s5 2,i,F,w5,rfl,⟨hr5.fr,hr5.mr.new,hN 2 (by decide),?_,fun b hb=>hb.2,hM 2 (by decide),hr9.fr,hr9.mr.new⟩⟩
   rintro b ⟨⟨o,ho | ⟨rfl,_⟩ | ⟨rfl,_⟩ | ⟨rfl,_⟩⟩,_⟩
   ·exact .inl ⟨o,ho⟩
   ·exact .inr (hN 0 (by decide))
   ·exact .inr (hN 1 (by decide))
   ·exact .inr (hN 3 (by decide))⟩
  cases e with
  | normal=>exact main hq8
  | ret=>exact main hq8
  | _=>exact hq8.elim
namespace R
section
variable {P:Program} {rn:Bool} {Q:Exit→Act→WM→Prop} {ops:Array Oper} {bs:List Nat} {w0:WM} {n:Nat} {ds:List Deferred}
theorem QqX {QS:St→Prop}:∀ (l:List Oper) (i:Nat) (rest:List Nat) (s:Nat→Nat) (S:St) (a:Act) (w:WM),(∀ j,j < l.length→l[j]? = ops[i+j]?)→dOk n l=true→(∀ o∈l,o.guard=none)→Rep bs w0 n ds s S a w →
  opsW P ops l S QS (fun _ _=>False)→(∀ s' S' a' w',Rep bs w0 n ds s' S' a' w'→QS S'→OpsR P rn ops rest Q a' w')→OpsR P rn ops (List.range' i l.length ++ rest) Q a w
 | [],i,rest,s,S,a,w,_,_,_,hr,h,hk=>hk s S a w hr h
 | o :: l,i,rest,s,S,a,w,hl,hd,hg,hr,h,hk=>by
  obtain ⟨hd1,hd2⟩:=Qb2 hd
  have h0:ops[i]? = some o:=by simpa using (hl 0 (by simp)).symm
  have hgo:=hg o (by simp)
  unfold opsW at h
  simp only [hgo] at h
  rw [List.length_cons,List.range'_succ,List.cons_append]
  refine QeD h0 hgo (Qcs hr h (fun s' v S' w' _ hv hr' hk'=>?_) (fun _ _ _ _ _ hp=>hp.elim))
  exact QqX l (i+1) rest s' _ _ w' (fun j hj=>by have:=hl (j+1) (by simp; omega); simpa [Nat.add_assoc,Nat.add_comm 1 j] using this) hd2 (fun o ho=>hg o (by simp [ho])) (hr'.put hd1 hv) hk' hk
theorem Qg3 {QS:St→Prop} {j:Nat} {rest:List Nat} {s:Nat→Nat} {S:St} {a:Act} {w:WM} (hj:j≤ops.size) (hd:dOk n (ops.toList.take j)=true) (hg:(ops.toList.take j).all (·.guard.isNone)=true) (hr:Rep bs w0 n ds s S a w)
  (h:opsW P ops (ops.toList.take j) S QS (fun _ _=>False)) (hk:∀ s' S' a' w',Rep bs w0 n ds s' S' a' w'→QS S'→OpsR P rn ops rest Q a' w'):OpsR P rn ops (List.range' 0 j ++ rest) Q a w:=by
 have hlen:(ops.toList.take j).length=j:=by rw [List.length_take,Array.length_toList]; omega
 have:=QqX (rn:=rn) (Q:=Q) (ops.toList.take j) 0 rest s S a w (fun k hk=>by rw [List.getElem?_take,if_pos (by omega)]; simp) hd (fun o ho=>by simpa using List.all_eq_true.1 hg o ho) hr h hk
 rwa [hlen] at this
theorem Rep.pinned {v v':WM} {a':Act} {s s':Nat→Nat} {S':St} {m:Nat} (hr:Rep ((List.range m).map s) v n ds s' S' a' v'):(∀ k,k < m→s' k=s k)∧m≤S'.m.length:=by
 have hlen:m≤S'.m.length:=by simpa using hr.own.pin
 refine ⟨fun k hk=>?_,hlen⟩
 rcases hr.own.at_ k (by omega) with ⟨b,g1,g2⟩ | ⟨g1,_⟩
 ·simp [hk] at g1
  rw [g2,←g1]
 ·simp at g1; omega
theorem Qha {w w':WM} {s:Nat→Nat} {S S':St} {a:Act} (hr:Rep bs w0 n ds s S a w) (ht:∀ i v,lk S'.t i=some v→lk S.t i=some v∧clo S'.m.length v=true) (hm:∃ r,S.m=S'.m ++ r) (hcm:∀ (k:Nat) (o:RO),S'.m[k]? = some o→cloO S'.m.length o=true)
  (hb:∀ k,k < S'.m.length→w'.M (s k)∧w'.heap[s k]? = w.heap[s k]?) (hx:∀ b o,S'.x b o→w'.heap[b]? = some o∧w'.O b∧∀ k,k < S'.m.length→s k≠b) (hwf:∀ b,w'.O b→b < w'.heap.size):Rep ((List.range S'.m.length).map s) w' n ds s S' a w':=by
 obtain ⟨r,hr1⟩:=hm
 have hlen:S'.m.length≤S.m.length:=by rw [hr1]; simp
 refine ⟨⟨fun k o hk=>?_,fun j k hj hk h=>hr.mr.inj j k (by omega) (by omega) h,hcm,fun b o hb=>(hx b o hb).1,fun b o hb=>(hx b o hb).2.2,fun k hk=>(hb k hk).1,fun b o hb=>(hx b o hb).2.1,hwf⟩,
  ⟨by simp,fun k hk=>.inl ⟨s k,by rw [List.getElem?_map,List.getElem?_range hk]; rfl,rfl⟩⟩,Fr.refl _ _,hr.size,fun i v hi=>⟨(hr.slot i v (ht i v hi).1).1,(ht i v hi).2⟩,hr.df⟩
 have hk1:=(List.getElem?_eq_some_iff.1 hk).1
 rw [(hb k hk1).2]
 exact hr.mr.mem k o (by rw [hr1,List.getElem?_append_left hk1]; exact hk)
end
end R
def xAllB (v:WM) (s:Nat→Nat) (n:Nat):Nat→Obj→Prop:=fun b o=>v.heap[b]? = some o∧v.O b∧∀ k,k < n→s k≠b
structure FrL (bad:Nat→Prop) (w w':WM):Prop where
 os:w'.os=w.os
 tape:w'.tape=w.tape
 output:w'.output=w.output
 X:w'.X=w.X
 M:∀ b,w.M b→w'.M b
 new:∀ b,w'.M b→w.M b∨w.heap.size≤b
 size:w.heap.size≤w'.heap.size
 block:∀ k,w.O k→k < w.heap.size→¬ bad k→w'.heap[k]? = w.heap[k]?
theorem FrL.O {bad:Nat→Prop} {w w':WM} (h:FrL bad w w') {b:Nat} (hb:w.O b):w'.O b:=hb.elim (fun h1=>.inl (h.M b h1)) fun h1=>.inr (by rw [h.X]; exact h1)
theorem FrL.refl (bad:Nat→Prop) (w:WM):FrL bad w w:=⟨rfl,rfl,rfl,rfl,fun _ h=>h,fun _ h=>.inl h,Nat.le_refl _,fun _ _ _ _=>rfl⟩
theorem FrL.trans {bad:Nat→Prop} {a b c:WM} (h:FrL bad a b) (k:FrL bad b c):FrL bad a c:=
 ⟨k.os.trans h.os,k.tape.trans h.tape,k.output.trans h.output,k.X.trans h.X,fun b hb=>k.M b (h.M b hb),
  fun b hb=>(k.new b hb).elim (fun h1=>h.new b h1) (fun h1=>.inr (Nat.le_trans h.size h1)),Nat.le_trans h.size k.size,
  fun i ho hi hn=>(k.block i (h.O ho) (Nat.lt_of_lt_of_le hi h.size) hn).trans (h.block i ho hi hn)⟩
theorem FrL.of {bad:Nat→Prop} {bs:List Nat} {w w':WM} (h:Fr bs w w') (hb:∀ b∈bs,bad b):FrL bad w w':=
 ⟨h.os,h.tape,h.output,h.X,h.M,h.new,h.size,fun k ho hk hn=>h.block k ho hk fun hin=>hn (hb k hin)⟩
theorem FrL.same {bad:Nat→Prop} {w w':WM} (hw:w'.w=w.w) (hM:w'.M=w.M) (hX:w'.X=w.X):FrL bad w w':=by
 refine ⟨?_,?_,?_,hX,fun b hb=>by rw [hM]; exact hb,fun b hb=>.inl (by rw [hM] at hb; exact hb),?_,fun k _ _ _=>?_⟩
 ·show w'.w.os=_; rw [hw]
 ·show w'.w.tape=_; rw [hw]
 ·show w'.w.output=_; rw [hw]
 ·show w.heap.size≤w'.w.heap.size; rw [hw]; exact Nat.le_refl _
 ·show w'.w.heap[k]? = _; rw [hw]
structure Lt (x:Nat→Obj→Prop) (w wl:WM) (c q:Nat) (vs:List Value) (F:Nat→Prop) (kid:Nat):Prop where
 os:wl.os=w.os
 tape:wl.tape=w.tape
 output:wl.output=w.output
 gh:wl.gh={ w.gh with conn:=⟨c,q,vs,kid,w.X,F⟩ :: w.gh.conn }
 qn:w.heap.size≤q
 M:∀ b,w.M b→wl.M b∨F b
 X:∀ b,wl.X b↔w.X b∨F b
 new:∀ b,wl.M b∨F b→w.M b∨w.heap.size≤b
 size:w.heap.size≤wl.heap.size
 block:∀ k,w.O k→k < w.heap.size→wl.heap[k]? = w.heap[k]?
 lent:∀ b,F b→b < w.heap.size→∃ o,x b o
 lt:∀ b,F b∨b=q→b < wl.heap.size
theorem Lends.nq {x:Nat→Obj→Prop} {w w6 w2 w':WM} {c q:Nat} {vs:List Value} {F:Nat→Prop} {kid:Nat} (h0:Fr [] w w6) (h:Lends x w6 c q vs F kid w2 w') (hwf:∀ b,w.O b→b < w.heap.size) (hq:w.heap.size≤q) (hq6:q < w6.heap.size):¬ w'.O q:=by
 rintro (hb | hb)
 ·rcases h.f2.new q hb with h1 | h1
  ·exact h1.2.2.2 rfl
  ·have h2:=h.f1.size
   have h3:w2.heap.size≤q:=h1
   omega
 ·rw [h.f2.X] at hb
  rcases hb with hb | hb
  ·rw [h.f1.X,h0.X] at hb
   have:=hwf q (.inr hb)
   omega
  ·exact (h.FM q hb).2.2 rfl
theorem Lt.O {x:Nat→Obj→Prop} {w wl:WM} {c q:Nat} {vs:List Value} {F:Nat→Prop} {kid:Nat} (h:Lt x w wl c q vs F kid) {b:Nat} (hb:w.O b):wl.O b:=by
 rcases hb with hb | hb
 ·exact (h.M b hb).elim .inl fun h1=>.inr ((h.X b).2 (.inr h1))
 ·exact .inr ((h.X b).2 (.inl hb))
theorem Lends.keeps {x:Nat→Obj→Prop} {w w2 w':WM} {c q:Nat} {vs:List Value} {F:Nat→Prop} {kid:Nat} (h:Lends x w c q vs F kid w2 w') (hwf:∀ b,w.O b→b < w.heap.size) {b:Nat} (ho:w.O b) (hq:b≠q):w'.O b∧w'.heap[b]? = w.heap[b]?∧(w.M b→¬ F b→w'.M b):=by
 have hl:=hwf b ho
 have hc:b≠c:=fun e=>by have:=h.new; omega
 have h2:w2.O b:=h.f1.O ho
 have h3:(w2.lend c q vs F kid).O b:=by
  rcases h2 with h2 | h2
  ·by_cases hF:F b
   ·exact .inr (.inr hF)
   ·exact .inl ⟨h2,hF,hc,hq⟩
  ·exact .inr (.inl h2)
 refine ⟨h.f2.O h3,?_,fun hM hF=>h.f2.M b ⟨h.f1.M b hM,hF,hc,hq⟩⟩
 rw [h.f2.block b h3 (Nat.lt_of_lt_of_le hl h.f1.size) (by simp)]
 exact h.f1.block b ho hl (by simp)
theorem Lends.sum {x:Nat→Obj→Prop} {w w6 w2 w':WM} {c q:Nat} {vs:List Value} {F:Nat→Prop} {kid:Nat} (h0:Fr [] w w6) (h:Lends x w6 c q vs F kid w2 w') (hwf:∀ b,w.O b→b < w.heap.size) (hwf6:∀ b,w6.O b→b < w6.heap.size) (hq:w.heap.size≤q) (hq6:w6.M q):Lt x w w' c q vs F kid:=by
 have hne:∀ b,w.O b→b≠q:=fun b ho e=>by have:=hwf b ho; omega
 have hsz:w.heap.size≤w'.heap.size:=Nat.le_trans h0.size (Nat.le_trans h.f1.size h.f2.size)
 have hM:∀ b,w2.M b→w.M b∨w.heap.size≤b:=fun b hb=>(h.f1.new b hb).elim (fun h1=>h0.new b h1) (fun h1=>.inr (Nat.le_trans h0.size h1))
 refine ⟨h.f2.os.trans (h.f1.os.trans h0.os),h.f2.tape.trans (h.f1.tape.trans h0.tape),h.f2.output.trans (h.f1.output.trans h0.output),?_,hq,fun b hb=>?_,fun b=>?_,?_,hsz,fun k ho hk=>?_,fun b hF hb=>?_,?_⟩
 ·rw [h.f2.gh]
  show ({ w2.gh with conn:=⟨c,q,vs,kid,w2.X,F⟩ :: w2.gh.conn }:Gh)=_
  rw [h.f1.gh,h0.gh,h.f1.X,h0.X]
 ·by_cases hF:F b
  ·exact .inr hF
  ·exact .inl ((h.keeps hwf6 (.inl (h0.M b hb)) (hne b (.inl hb))).2.2 (h0.M b hb) hF)
 ·rw [h.f2.X]
  show w2.X b∨F b↔_
  rw [h.f1.X,h0.X]
 ·rintro b (hb | hb)
  ·rcases h.f2.new b hb with h1 | h1
   ·exact hM b h1.1
   ·exact .inr (Nat.le_trans h0.size (Nat.le_trans h.f1.size h1))
  ·exact hM b (h.FM b hb).1
 ·rw [(h.keeps hwf6 (h0.O ho) (hne k ho)).2.1]
  exact h0.block k ho hk (by simp)
 ·exact (h.lent b hF).elim id fun h1=>by have:=h0.size; omega
 ·rintro b (hb | rfl)
  ·exact Nat.lt_of_lt_of_le (h.ok2 b (h.FM b hb).1) h.f2.size
  ·exact Nat.lt_of_lt_of_le (hwf6 b (.inl hq6)) (Nat.le_trans h.f1.size h.f2.size)
theorem Lt.back {x:Nat→Obj→Prop} {w wl v v1 we:WM} {c q:Nat} {vs:List Value} {F:Nat→Prop} {kid:Nat} (h:Lt x w wl c q vs F kid) {bl0 bs:List Nat} {kn:Conn} (hf:FrL (fun b=>b∈bl0∨w.heap.size≤b) wl v) (hg:v.gh={ wl.gh with conn:=kn :: w.gh.conn })
  (hk:kn.F=F∧kn.q=q∧kn.X0=w.X) (hr:Rely v v1) (he:Fr bs (v1.pop kn w.gh.conn) we) (hb:∀ b∈bs,w.heap.size≤b):Fr bl0 w we:=by
 obtain ⟨rfl,rfl,hX0⟩:=hk
 have s1:wl.heap.size≤v1.heap.size:=Nat.le_trans hf.size hr.size
 have hM:∀ b,wl.M b→v1.M b:=fun b hb=>by rw [hr.M]; exact hf.M b hb
 refine ⟨he.os.trans (hr.os.trans (hf.os.trans h.os)),he.tape.trans (hr.tape.trans (hf.tape.trans h.tape)),he.output.trans (hr.output.trans (hf.output.trans h.output)),?_,?_,fun b hb=>?_,fun b hb=>?_,Nat.le_trans h.size (Nat.le_trans s1 he.size),fun k ho hk hn=>?_⟩
 ·rw [he.gh]
  show ({ v1.gh with conn:=w.gh.conn }:Gh)=_
  rw [hr.gh,hg,h.gh]
 ·rw [he.X]; exact hX0
 ·exact he.M b ((h.M b hb).elim (fun h1=>.inl (hM b h1)) fun h1=>.inr (.inl h1))
 ·rcases he.new b hb with h1 | h1
  ·rcases h1 with h1 | h1 | h1
   ·rw [hr.M] at h1
    rcases hf.new b h1 with h2 | h2
    ·exact h.new b (.inl h2)
    ·exact .inr (Nat.le_trans h.size h2)
   ·exact h.new b (.inr h1)
   ·exact .inr (h1▸h.qn)
  ·exact .inr (Nat.le_trans h.size (Nat.le_trans s1 h1))
 ·have o1:=h.O ho
  have o2:=hf.O o1
  have k1:k < wl.heap.size:=Nat.lt_of_lt_of_le hk h.size
  have k2:k < v.heap.size:=Nat.lt_of_lt_of_le k1 hf.size
  have e1:=he.block k (by
   rcases ho with ho | ho
   ·exact .inl ((h.M k ho).elim (fun h1=>.inl (hM k h1)) fun h1=>.inr (.inl h1))
   ·exact .inr (by show kn.X0 k; rw [hX0]; exact ho)) (Nat.lt_of_lt_of_le k2 hr.size) (fun hin=>by have:=hb k hin; omega)
  rw [e1]
  show v1.heap[k]? = _
  rw [hr.block k o2 k2,hf.block k o1 k1 (by rintro (h1 | h1); exact hn h1; omega)]
  exact h.block k ho hk
structure Told (fv:Value) where
 g:FuncId
 cs:Array Value
 fv_:fv=.func (.func g) #[] cs
 go_:R.goes Tryz.prog g
 JB:List (Es×Int)→List Nat→WM→Prop
 cong:∀ {l bl} {w w':WM},JB l bl w→(∀ b∈bl,w'.M b∧w'.heap[b]? = w.heap[b]?)→JB l bl w'
 own:∀ {l bl} {w:WM},JB l bl w→∀ b∈bl,w.M b∧b < w.heap.size
 call:∀ {x:Nat→Obj→Prop} {l bl} {w:WM} {s:Es} {u:Value} {n:Int} {m:Nat},TensX x→JB l bl w→(∀ b o,x b o→w.heap[b]? = some o∧w.O b)→(∀ b,w.O b→b < w.heap.size)→(∀ b∈bl,∀ o,¬ x b o)→PIn s m→m≤1000→MsAt x s.ms u→l.length < 1000 →
  R.Calls Tryz.prog g (#[s.v u,.int .i64 n] ++ cs) w fun e w'=>e=.returned (.tuple #[])∧∃ bl',JB (l ++ [(s,n)]) bl' w'∧Fr bl w w'∧NewOk w'∧∀ b∈bl',b∈bl∨w.heap.size≤b
def cfCells (c:Cf):List RV:=[.ext (.int .i64 c.seg),.ext (.int .i64 c.max),.ext (.int .i64 c.first),.ext (.int .i64 c.grain),.ext (.int .i64 c.least),.ext (.int .i64 c.great),.ext (.int .i64 c.burst)]
def sRow (s:Es) (u:Value):List RV:=(s.cells u).map .ext
def PlayR {fv:Value} (T:Told fv) (c:Cf) (rs:Nat→Raw) (len:Nat) (bl0:List Nat) (w:WM) (e:Ending) (w':WM):Prop:=
 (c.ok=true∧∃ u bl xm,e=.returned (.tuple #[(playUp (esNew c).1 rs len).1.v u,.int .i64 0])∧MsAt xm (playUp (esNew c).1 rs len).1.ms u∧(∀ b o,xm b o→w'.heap[b]? = some o∧¬ w.O b∧w'.O b)∧T.JB (playUp (esNew c).1 rs len).2 bl w' ∧
  (∀ b∈bl,b∈bl0∨w.heap.size≤b)∧(∀ b∈bl,∀ o,¬ xm b o)∧Fr bl0 w w'∧NewOk w') ∨
 (c.ok=false∧e=.returned (.tuple #[esZ.v (.slice none 0 0),.int .i64 210])∧T.JB [] bl0 w'∧Fr [] w w'∧NewOk w')
theorem QtZ {P:Program} {rn:Bool} {G:Ctx} {x y:Code} {QS:Exit→St→Prop} {Q:Exit→Act→WM→Prop} {s:Nat→Nat} {S:St} {a:Act} {w:WM} (hr:Rep G.bs G.w0 G.n G.ds s S a w) (h:Sd P G x QS S)
  (hk:∀ e s S a w,Rep G.bs G.w0 G.n G.ds s S a w→QS e S→(e=.normal∧Wp P rn y Q a w)∨(e=.ret∧Q .ret a w)):Wp P rn (.seq x y) Q a w:=by
 refine QaO (Wp.mono (h s a w hr).any ?_)
 rintro e a' w' ⟨s',S',h1,h2⟩
 rcases hk e s' S' a' w' h1 h2 with ⟨rfl,h3⟩ | ⟨rfl,h3⟩
 ·exact h3
 ·exact h3
section
variable {fv:Value} (T:Told fv) {x:Nat→Obj→Prop} (c:Cf) {a:Option Addr} {len cap:Nat} {rs:Nat→Raw} {bl0:List Nat} {w:WM}
theorem Qrj {c0 c1 c2 c3 cr:Code} (hc:Tryz.f48.body=some (.seq c0 (.seq c1 (.seq (.seq c2 c3) cr)))) {s0:Nat→Nat} {a0:Act} {w0:WM} {Q:Exit→Act→WM→Prop}
  (hrep:Rep [] w 46 [] s0 ⟨[(0,.ext c.v),(1,.ext (.slice a len cap)),(2,.ext fv)],[],x⟩ a0 w0)
  (hk:∀ s1 a1 w1,Rep [] w 46 [] s1 ⟨[(1,.ext (.slice a len cap)),(2,.ext fv),(6,.ptr 1 0),(8,.ptr 2 0),(9,.ext (.int .i64 (esNew c).2))],[.cells 23 (cfCells c),.cells 49 (sRow esZ (.slice none 0 0)),.cells 49 (sRow (esNew c).1 (.slice none 0 0))],x⟩ a1 w1→Wp Tryz.prog true (.seq (.seq c2 c3) cr) Q a1 w1) :
  Wp Tryz.prog true (.seq c0 (.seq c1 (.seq (.seq c2 c3) cr))) Q a0 w0:=by
 simp only [Tryz.f48,Option.some.injEq,Code.seq.injEq] at hc
 obtain ⟨rfl,rfl,⟨rfl,rfl⟩,rfl⟩:=hc
 refine Qbe (G:=⟨[],w,46,[]⟩) (QS:=fun e S'=>e=.normal∧Wk S' ⟨[(1,.ext (.slice a len cap)),(2,.ext fv),(3,.ptr 0 0),(6,.ptr 1 0)],[.cells 23 (cfCells c),.cells 49 (sRow esZ (.slice none 0 0))],x⟩) hrep ?_ ?_
 ·refine Qaa (by kernel_rfl) ?_
  unfold Cf.v sRow cfCells Es.cells
  repeat' (first|((fail_if_success (with_reducible refine stk ?_));simp only [WE,Qau]))
  exact Qae ⟨⟨rfl,rfl⟩,⟨rfl,rfl⟩,⟨rfl,rfl⟩,⟨rfl,rfl⟩,trivial⟩ (Qao _) rfl
 rintro e s1 S1 a1 w1 hr1 ⟨rfl,hwk1⟩
 have hr1:=Wk.rep' (Nat.zero_le _) hwk1 hr1
 refine ⟨rfl,?_⟩
 refine Qbe (G:=⟨[],w,46,[]⟩) (QS:=fun e S'=>e=.normal∧Wk S' ⟨[(1,.ext (.slice a len cap)),(2,.ext fv),(6,.ptr 1 0),(8,.ptr 2 0),(9,.ext (.int .i64 (esNew c).2))],[.cells 23 (cfCells c),.cells 49 (sRow esZ (.slice none 0 0)),.cells 49 (sRow (esNew c).1 (.slice none 0 0))],x⟩) hr1 ?_ ?_
 ·refine Qaa (by kernel_rfl) ?_
  have hN:=Qeh (x:=x) c
  obtain ⟨t,ht⟩:∃ t,(esNew c).1=t:=⟨_,rfl⟩
  obtain ⟨n,hn⟩:∃ n,(esNew c).2=n:=⟨_,rfl⟩
  rw [ht,hn] at hN
  rw [ht,hn]
  unfold Cf.v Es.v Es.cells at hN
  unfold sRow cfCells Es.cells
  repeat' (first|((with_reducible show callW _ _ _ (some (22,_)) _ _);refine callP Qdm rfl (hN) ?_)|((fail_if_success (with_reducible refine stk ?_));simp only [WE,segX,Nat.reduceBEq,Nat.reduceAdd,Nat.reduceEqDiff,Qai,Qaj,Qau]))
  exact Qae ⟨⟨rfl,rfl⟩,⟨rfl,rfl⟩,⟨rfl,rfl⟩,⟨rfl,rfl⟩,⟨rfl,rfl⟩,trivial⟩ (Qao _) rfl
 rintro e s2 S2 a2 w2 hr2 ⟨rfl,hwk2⟩
 exact ⟨rfl,hk s2 a2 w2 (Wk.rep' (Nat.zero_le _) hwk2 hr2)⟩
theorem QB2 {c0 c1 c2 c3 cr:Code} (hc:Tryz.f48.body=some (.seq c0 (.seq c1 (.seq (.seq c2 c3) cr)))) (hok:c.ok=false) (hx:∀ b o,x b o→w.heap[b]? = some o∧w.O b) (hwf:∀ b,w.O b→b < w.heap.size) (hJ:T.JB [] bl0 w) :
  R.Calls Tryz.prog 48 #[c.v,.slice a len cap,fv] w (PlayR T c rs len bl0 w):=by
 refine Qf7 Tryz.func48 hc ?_
 have hrep:=Qcv (w:=w) (n:=46) (args:=[.ext c.v,.ext (.slice a len cap),.ext fv]) (s:=fun _=>0) (m:=[]) (x:=x) (bs:=[]) (by simp)
  ⟨fun k o hk=>by simp at hk,fun j k hj=>by simp at hj,fun k o hk=>by simp at hk,fun b o hb=>(hx b o hb).1,fun b o _ k hk=>by simp at hk,fun k hk=>by simp at hk,fun b o hb=>(hx b o hb).2,hwf⟩ (.none fun k hk=>by simp at hk) (by simp [clo])
 refine Qrj c hc hrep fun s1 a1 w1 hr1=>?_
 simp only [Tryz.f48,Option.some.injEq,Code.seq.injEq] at hc
 obtain ⟨rfl,rfl,⟨rfl,rfl⟩,rfl⟩:=hc
 have hn:(esNew c).2=210:=by unfold esNew; rw [hok]; rfl
 rw [hn] at hr1
 refine QtZ (G:=⟨[],w,46,[]⟩) (QS:=fun e S'=>e=.ret∧resW Tryz.prog S' Tryz.f48.results.toList (.tuple #[esZ.v (.slice none 0 0),.int .i64 210])) hr1 ?_ ?_
 ·refine Qaa (by kernel_rfl) ?_
  have d:((210:Int) != 0)=true:=rfl
  unfold sRow cfCells Es.v Es.cells
  repeat' (first|((fail_if_success (with_reducible refine stk ?_));simp only [WE,segX,Nat.reduceBEq,Nat.reduceAdd,Nat.reduceEqDiff,Qaj,QhF,Qsa,d]))
  rfl
 rintro e s2 S2 a2 w2 hr2 ⟨rfl,hres⟩
 refine .inr ⟨rfl,hr2.df,fun w3 hrel=>?_⟩
 have hr3:=hr2.rely hrel
 have h9:=Qd6 (fn:=Tryz.f48) hr3.sl hr3.mr hres
 refine ⟨_,h9.1,h9.2,.inr ⟨hok,rfl,T.cong hJ fun b hb=>?_,hr3.fr,hr3.mr.new⟩⟩
 obtain ⟨h1,h2⟩:=T.own hJ b hb
 exact ⟨hr3.fr.M b h1,hr3.fr.block b (.inl h1) h2 (by simp)⟩
end
def LS (fv:Value) (c:Cf) (cur:Es) (u:Value) (ch:Nat) (y:Nat→Obj→Prop) (r:List (Nat×RV)):St:=
 ⟨(2,.ext fv) :: (6,.ptr 1 0) :: (8,.ptr 2 0) :: (26,.ext (.chan (some ch))) :: r,[.cells 23 (cfCells c),.cells 49 (sRow esZ (.slice none 0 0)),.cells 49 (sRow cur u)],y⟩
theorem Wk_x {t t1:List (Nat×RV)} {m m1:List RO} {x x1:Nat→Obj→Prop} (hx:xsub x1 x) (h:Wk ⟨t,m,x⟩ ⟨t1,m1,x⟩):Wk ⟨t,m,x⟩ ⟨t1,m1,x1⟩:=⟨h.t,h.m,h.c,hx⟩
def PQ (fv:Value) (c:Cf) (ch:Nat) (y:Nat→Obj→Prop) (u:Value) (s:Es) (p:Es×Int):Exit→St→Prop:=fun e S'=>e=.normal∧∃ u1 x1,Wk S' (LS fv c p.1 u1 ch (fun b o=>y b o∨x1 b o) [(12,.ext (.int .i64 p.2))])∧MsAt (fun b o=>y b o∨x1 b o) p.1.ms u1∧(x1=no∧u1=u∧p.1=s∨MsAt x1 p.1.ms u1)∧NewIn y x1
theorem QB4 {fv:Value} {c:Cf} {s:Es} {u:Value} {ch:Nat} {y:Nat→Obj→Prop} {r:Raw} {m:Nat} (hT:TensX y) (hi:PIn s m) (hm:m≤1000) (hu:MsAt y s.ms u) {c0 c1 c2 c3 c4 c5 d0 d1 d2 d3 d4 d5:Code} {t:Nat}
  (hc:Tryz.f48.body=some (.seq d0 (.seq d1 (.seq d2 (.seq d3 (.seq d4 (.seq (.seq d5 (.block 0 (.loop (.seq c0 (.seq (.cond (.tmp 28) .skip (.exit 0)) (.block 1 (.seq c1 (.seq c2 (.seq c3 c4))))))))) c5)))))))
  {w:WM} {s0:Nat→Nat} {a:Act} {Q:Exit→Act→WM→Prop} (hrep:Rep ((List.range 3).map s0) w 46 [closeD t 126] s0 (LS fv c s u ch y [(27,.ext (.tuple #[readV r,.bool true]))]) a w)
  (hk:∀ s1 u1 x1 a1 w1,Rep ((List.range 3).map s0) w 46 [closeD t 126] s1 (LS fv c (playStep s r).1 u1 ch (fun b o=>y b o∨x1 b o) [(12,.ext (.int .i64 (playStep s r).2))]) a1 w1→MsAt (fun b o=>y b o∨x1 b o) (playStep s r).1.ms u1→(x1=no∧u1=u∧(playStep s r).1=s∨MsAt x1 (playStep s r).1.ms u1)→NewIn y x1→Wp Tryz.prog true c4 Q a1 w1) :
  Wp Tryz.prog true (.seq c1 (.seq c2 (.seq c3 c4))) Q a w:=by
 simp only [Tryz.f48,Option.some.injEq,Code.seq.injEq,Code.block.injEq,Code.loop.injEq,true_and] at hc
 obtain ⟨rfl,rfl,rfl,rfl,rfl,⟨rfl,rfl,rfl,rfl,rfl,rfl⟩,rfl⟩:=hc
 unfold LS at hrep
 refine Qbe (G:=⟨(List.range 3).map s0,w,46,[closeD t 126]⟩) (QS:=fun e S'=>e=.normal∧Wk S' ⟨[(2,.ext fv),(6,.ptr 1 0),(8,.ptr 2 0),(26,.ext (.chan (some ch))),(11,.ptr 3 0)],[.cells 23 (cfCells c),.cells 49 (sRow esZ (.slice none 0 0)),.cells 49 (sRow s u),
   .cells 130 [.ext (.int .i64 (rawEv r).1.kind),.ext (.int .i64 (rawEv r).1.time),.ext (.int .i64 (rawEv r).1.bytes),.ext (.int .i64 (rawEv r).1.rtt),.ext (.int .i64 (rawEv r).2)]],y⟩) hrep ?_ ?_
 ·refine Qaa (by kernel_rfl) ?_
  unfold readV rawEv
  repeat' (first|((fail_if_success (with_reducible refine stk ?_));simp only [WE,Nat.reduceBEq,Nat.reduceAdd,Nat.reduceEqDiff,QF5,QGb]))
  exact Qae ⟨⟨rfl,rfl⟩,⟨rfl,rfl⟩,⟨rfl,rfl⟩,⟨rfl,rfl⟩,⟨rfl,rfl⟩,trivial⟩ (Qao _) rfl
 rintro e s1 S1 a1 w1 hr1 ⟨rfl,hwk1⟩
 have hr1:=Wk.rep' (by simp) hwk1 hr1
 refine ⟨rfl,?_⟩
 refine Qbe (G:=⟨(List.range 3).map s0,w,46,[closeD t 126]⟩) (QS:=fun e S'=>e=.normal∧Wk S' ⟨[(2,.ext fv),(6,.ptr 1 0),(8,.ptr 2 0),(26,.ext (.chan (some ch))),(11,.ptr 3 0),(12,.ext (.int .i64 (rawEv r).2))],[.cells 23 (cfCells c),.cells 49 (sRow esZ (.slice none 0 0)),.cells 49 (sRow s u),
   .cells 130 [.ext (.int .i64 (rawEv r).1.kind),.ext (.int .i64 (rawEv r).1.time),.ext (.int .i64 (rawEv r).1.bytes),.ext (.int .i64 (rawEv r).1.rtt),.ext (.int .i64 (rawEv r).2)]],y⟩) hr1 ?_ ?_
 ·refine Qaa (by kernel_rfl) ?_
  repeat' (first|((fail_if_success (with_reducible refine stk ?_));simp only [WE,Nat.reduceBEq,Qaq,Qx9]))
  exact Qae ⟨⟨rfl,rfl⟩,⟨rfl,rfl⟩,⟨rfl,rfl⟩,⟨rfl,rfl⟩,⟨rfl,rfl⟩,⟨rfl,rfl⟩,trivial⟩ (Qao _) rfl
 rintro e s2 S2 a2 w2 hr2 ⟨rfl,hwk2⟩
 have hr2:=Wk.rep' (by simp) hwk2 hr2
 refine ⟨rfl,?_⟩
 refine Qbe (G:=⟨(List.range 3).map s0,w,46,[closeD t 126]⟩) (QS:=PQ fv c ch y u s (playStep s r)) hr2 ?_ ?_
 ·refine Qaa (by kernel_rfl) ?_
  by_cases hz:(rawEv r).2=0
  ·have hs:playStep s r=esDo s (rawEv r).1:=if_pos hz
   rw [hs,hz]
   revert hz hs
   generalize rawEv r=e
   obtain ⟨e,n0⟩:=e
   dsimp only
   intro hz hs
   subst hz
   generalize hdo:esDo s e=p
   obtain ⟨s',n'⟩:=p
   have hD:=Qgb hT hdo (hi.in_ (by omega)) hu
   unfold Es.v Es.cells Ev.v at hD
   have d:((0:Int) == 0)=true:=rfl
   unfold sRow Es.cells
   repeat' (first|(((with_reducible show callW _ _ _ (some (29,_)) _ _);refine callEN Qgy rfl hD ?_; intro v x' x'' hR hx hx' hN; obtain ⟨a',c',rfl,hu1⟩:=hR))|((fail_if_success (with_reducible refine stk ?_));simp only [WE,segX,Nat.reduceBEq,Nat.reduceAdd,Nat.reduceEqDiff,Qaj,QaU,Qx8]))
   refine ⟨rfl,_,x',Wk_x (fun b o h=>h.elim (hx b o) (hx' b o)) (Qae ⟨⟨rfl,rfl⟩,⟨rfl,rfl⟩,⟨rfl,rfl⟩,⟨rfl,rfl⟩,⟨rfl,rfl⟩,trivial⟩ ?_ rfl),MsAt.mono hu1 fun b o h=>.inr h,.inr hu1,hN⟩
   exact ⟨rfl,rfl,rfl,trivial⟩
  ·have hs:playStep s r=(s,(rawEv r).2):=if_neg hz
   rw [hs]
   revert hz hs
   generalize rawEv r=e
   obtain ⟨e,n0⟩:=e
   dsimp only
   intro hz hs
   have d:(n0 == 0)=false:=by simpa using hz
   repeat' (first|((fail_if_success (with_reducible refine stk ?_));simp only [WE,Nat.reduceBEq,d]))
   refine ⟨rfl,u,no,Wk_x (fun b o h=>h.elim id fun h=>h.elim) (Qae ⟨⟨rfl,rfl⟩,⟨rfl,rfl⟩,⟨rfl,rfl⟩,⟨rfl,rfl⟩,⟨rfl,rfl⟩,trivial⟩ ?_ rfl),MsAt.mono hu fun b o h=>.inl h,.inl ⟨rfl,rfl,rfl⟩,Qcq⟩
   exact ⟨rfl,rfl,rfl,trivial⟩
 rintro e s3 S3 a3 w3 hr3 ⟨rfl,u1,x1,hwk3,g1,g2,g3⟩
 exact ⟨rfl,hk s3 u1 x1 a3 w3 (Wk.rep' (Nat.le_refl 3) hwk3 hr3) g1 g2 g3⟩
structure LI {fv:Value} (T:Told fv) (x:Nat→Obj→Prop) (c:Cf) (rs:Nat→Raw) (len:Nat) (bl0:List Nat) (w wl:WM) (ch q kid:Nat) (F:Nat→Prop) (a:Act) (v:WM) (i:Nat) (s:Nat→Nat) (u:Value) (xm:Nat→Obj→Prop) (bl:List Nat):Prop where
 rep:Rep ((List.range 3).map s) v 46 [closeD q 126] s (LS fv c (playUp (esNew c).1 rs i).1 u ch (fun b o=>x b o∨xm b o) []) a v
 hs:∀ k,k < 3→w.heap.size≤s k
 ms:MsAt xm (playUp (esNew c).1 rs i).1.ms u
 new:∀ b o,xm b o→¬ w.O b
 J:T.JB (playUp (esNew c).1 rs i).2 bl v
 blb:∀ b∈bl,b∈bl0∨w.heap.size≤b
 bly:∀ b∈bl,∀ o,¬ (x b o∨xm b o)
 bls:∀ b∈bl,∀ k,k < 3→b≠s k
 fr:FrL (fun b=>b∈bl0∨w.heap.size≤b) wl v
 gh:v.gh={ wl.gh with conn:=⟨ch,q,readVs rs len i,kid,w.X,F⟩ :: w.gh.conn }
theorem QrI {bs:List Nat} {w0 v v':WM} {n:Nat} {ds:List Deferred} {s:Nat→Nat} {S S':St} {a:Act} (hr:Rep bs w0 n ds s S a v) (hwk:Wk S S') (hw:v'.w=v.w) (hM:∀ b,v.M b→v'.M b) (hO:∀ b,v.O b→v'.O b) (hwf:∀ b,v'.O b→b < v'.heap.size):Rep ((List.range S'.m.length).map s) v' n ds s S' a v':=by
 have hlen:S'.m.length≤S.m.length:=by obtain ⟨r,h⟩:=hwk.m; rw [h]; simp
 refine Qha hr hwk.t hwk.m hwk.c (fun k hk=>⟨hM _ (hr.mr.mine k (by omega)),by show v'.w.heap[s k]? = _; rw [hw]⟩) (fun b o hb=>?_) hwf
 have h1:=hwk.x b o hb
 refine ⟨?_,hO b (hr.mr.know b o h1),fun k hk=>hr.mr.apart b o h1 k (by omega)⟩
 show v'.w.heap[b]? = _; rw [hw]
 exact hr.mr.ext b o h1
theorem QCE {bs:List Nat} {w0 v:WM} {n:Nat} {ds:List Deferred} {s:Nat→Nat} {t:List (Nat×RV)} {m:List RO} {x:Nat→Obj→Prop} {a:Act} (hr:Rep bs w0 n ds s ⟨t,m,x⟩ a v):Rep bs w0 n ds s ⟨t,m,xAllB v s m.length⟩ a v∧xsub x (xAllB v s m.length):=
 ⟨⟨⟨hr.mr.mem,hr.mr.inj,hr.mr.cm,fun b o hb=>hb.1,fun b o hb=>hb.2.2,hr.mr.mine,fun b o hb=>hb.2.1,hr.mr.wf⟩,hr.own,hr.fr,hr.size,hr.slot,hr.df⟩,fun b o hb=>⟨hr.mr.ext b o hb,hr.mr.know b o hb,hr.mr.apart b o hb⟩⟩
theorem QB3 {fv:Value} {T:Told fv} {x:Nat→Obj→Prop} {c:Cf} {rs:Nat→Raw} {len:Nat} {bl0:List Nat} {w wl:WM} {ch q kid:Nat} {F:Nat→Prop} {a:Act} {v:WM} {i:Nat} {s:Nat→Nat} {u:Value} {xm:Nat→Obj→Prop} {bl:List Nat}
  (hT:TensX x) (hok:c.ok=true) (hmax:len≤1000) (hL:Lt x w wl ch q (readVs rs len 0) F kid) (h:LI T x c rs len bl0 w wl ch q kid F a v i s u xm bl) (hi:i≤len) {c0 c1 c2 c3 c4 c5 d0 d1 d2 d3 d4 d5:Code}
  (hc:Tryz.f48.body=some (.seq d0 (.seq d1 (.seq d2 (.seq d3 (.seq d4 (.seq (.seq d5 (.block 0 (.loop (.seq c0 (.seq (.cond (.tmp 28) .skip (.exit 0)) (.block 1 (.seq c1 (.seq c2 (.seq c3 c4))))))))) c5)))))))
  {Q:Exit→Act→WM→Prop} (hnext:∀ a' v' s' u' xm' bl',i < len→LI T x c rs len bl0 w wl ch q kid F a' v' (i+1) s' u' xm' bl'→Q .normal a' v')
  (hlast:∀ a' v1 vp s' v',i=len→Rely v v1→openCh v1.w q→vp=v1.pop ⟨ch,q,readVs rs len i,kid,w.X,F⟩ w.gh.conn→Rep ((List.range 3).map s) vp 46 [closeD q 126] s' (LS fv c (playUp (esNew c).1 rs i).1 u ch (fun b o=>x b o∨xm b o) []) a' v'→Q (.exit 0) a' v') :
  Wp Tryz.prog true (.seq c0 (.seq (.cond (.tmp 28) .skip (.exit 0)) (.block 1 (.seq c1 (.seq c2 (.seq c3 c4)))))) Q a v:=by
 have hc':=hc
 simp only [Tryz.f48,Option.some.injEq,Code.seq.injEq,Code.block.injEq,Code.loop.injEq,true_and] at hc'
 obtain ⟨rfl,rfl,rfl,rfl,rfl,⟨rfl,rfl,rfl,rfl,rfl,rfl⟩,rfl⟩:=hc'
 have hP:=PIn.up (PIn.new hok) rs i
 obtain ⟨cur,hcur⟩:∃ cur,(playUp (esNew c).1 rs i).1=cur:=⟨_,rfl⟩
 have hrep:=h.rep
 rw [hcur] at hrep
 have hgc:v.gh.conn=⟨ch,q,readVs rs len i,kid,w.X,F⟩ :: w.gh.conn:=by rw [h.gh]
 have e26:a.eval (.tmp 26)=.chan (some ch):=(hrep.slot 26 _ rfl).1
 refine QaO (QbD ?_)
 show OpsR _ _ _ [0,1] _ _ _
 refine QBK (kn:=⟨ch,q,readVs rs len i,kid,w.X,F⟩) (cns:=w.gh.conn) (z:=.agg #[.int .i64 0,.int .i64 0,.int .i64 0,.int .i64 0,.int .i64 0]) rfl (by simp [Region.wanted]) (QCA (c:=ch) (z:=.agg #[.int .i64 0,.int .i64 0,.int .i64 0,.int .i64 0,.int .i64 0]) (elem:=130) (dir:=.recv) rfl (by kernel_rfl) e26 (by kernel_rfl)) (by simp) hgc (fun v0 vs hvs=>?_) (fun hvs v1 hrel hoq=>?_)
 ·have hlt:i < len:=by
   have h1:=Qg7 (rs:=rs) (len:=len) (i:=i)
   have h2:(readVs rs len i).length=vs.length+1:=congrArg List.length hvs
   omega
  have hvs':readVs rs len i=v0 :: vs:=hvs
  rw [QrF hlt] at hvs'
  obtain ⟨rfl,rfl⟩:=List.cons.inj hvs'
  obtain ⟨vg,hvg⟩:∃ vg,v.got ⟨ch,q,readVs rs len i,kid,w.X,F⟩ (readVs rs len (i+1)) w.gh.conn=vg:=⟨_,rfl⟩
  have gw:vg.w=v.w:=by rw [←hvg]; rfl
  have gM:vg.M=v.M:=by rw [←hvg]; rfl
  have gX:vg.X=v.X:=by rw [←hvg]; rfl
  have gO:∀ b,vg.O b↔v.O b:=fun b=>by unfold WM.O; rw [gM,gX]
  have gg:vg.gh={ wl.gh with conn:=⟨ch,q,readVs rs len (i+1),kid,w.X,F⟩ :: w.gh.conn }:=by rw [←hvg]; show ({ v.gh with conn:=_ }:Gh)=_; rw [h.gh]
  have hrA:Rep ((List.range 3).map s) vg 46 [closeD q 126] s (LS fv c cur u ch (fun b o=>x b o∨xm b o) []) a vg:=
   QrI (S':=LS fv c cur u ch (fun b o=>x b o∨xm b o) []) hrep (by unfold LS; exact Qae ⟨⟨rfl,rfl⟩,⟨rfl,rfl⟩,⟨rfl,rfl⟩,⟨rfl,rfl⟩,trivial⟩ (Qao _) rfl) gw (fun b hb=>by rw [gM]; exact hb) (fun b hb=>(gO b).2 hb) (fun b hb=>by show b < vg.w.heap.size; rw [gw]; exact hrep.mr.wf b ((gO b).1 hb))
  rw [hvg]
  have hrB:=hrA.put (d:=some 27) (v:=.ext (.tuple #[readV (rs i),.bool true])) (fun j hj=>by cases hj; exact Nat.le_of_ble_eq_true rfl) rfl
  refine QcX (n:=46) (j:=1) (QS:=fun S'=>Wk S' ⟨[(28,.ext (.bool true)),(2,.ext fv),(6,.ptr 1 0),(8,.ptr 2 0),(26,.ext (.chan (some ch))),(27,.ext (.tuple #[readV (rs i),.bool true]))],(LS fv c cur u ch (fun b o=>x b o∨xm b o) []).m,fun b o=>x b o∨xm b o⟩) (by kernel_rfl) hrB ?_ ?_
  ·show opsW _ _ [_] ⟨[(27,.ext (.tuple #[readV (rs i),.bool true])),(2,.ext fv),(6,.ptr 1 0),(8,.ptr 2 0),(26,.ext (.chan (some ch)))],[.cells 23 (cfCells c),.cells 49 (sRow esZ (.slice none 0 0)),.cells 49 (sRow cur u)],fun b o=>x b o∨xm b o⟩ _ _
   repeat' (first|((fail_if_success (with_reducible refine stk ?_));simp only [WE]))
   exact Qae ⟨⟨rfl,rfl⟩,⟨rfl,rfl⟩,⟨rfl,rfl⟩,⟨rfl,rfl⟩,⟨rfl,rfl⟩,⟨rfl,rfl⟩,trivial⟩ (Qao _) rfl
  intro s4 S4 a4 w4 hr4 hwk4
  have hr4:=Wk.rep' (by simp [LS]) hwk4 hr4
  have p4:=(hr4.pinned (m:=3)).1
  refine QaO (QeR (t:=true) (hr4.slot 28 _ rfl).1 ?_)
  rw [if_pos rfl]
  refine QfL ?_
  show Wp _ _ _ _ _ _
  refine Qc6 ?_
  have hr4':Rep ((List.range 3).map s) vg 46 [closeD q 126] s4 (LS fv c cur u ch (fun b o=>x b o∨xm b o) [(27,.ext (.tuple #[readV (rs i),.bool true]))]) a4 w4:=
   Wk.rep' (Nat.le_refl 3) (by unfold LS; exact Qae ⟨⟨rfl,rfl⟩,⟨rfl,rfl⟩,⟨rfl,rfl⟩,⟨rfl,rfl⟩,⟨rfl,rfl⟩,trivial⟩ (Qao _) rfl) hr4
  obtain ⟨hr4a,hsub4⟩:=QCE hr4'
  have hr4p:Rep ((List.range 3).map s4) w4 46 [closeD q 126] s4 (LS fv c cur u ch (xAllB w4 s4 3) [(27,.ext (.tuple #[readV (rs i),.bool true]))]) a4 w4:=hr4a.pin
  have hsub4:xsub (fun b o=>x b o∨xm b o) (xAllB w4 s4 3):=hsub4
  rw [hcur] at hP
  have hms:=h.ms
  rw [hcur] at hms
  refine QB4 (c5:=_) (hT.mono fun b o hb=>hsub4 b o (.inl hb)) hP (by omega) (MsAt.mono hms fun b o hb=>hsub4 b o (.inr hb)) (r:=rs i) rfl hr4p ?_
  intro s5 u5 x5 a5 w5 hr5 hm5 hor hN5
  have p5:=(hr5.pinned (m:=3)).1
  have hO4:∀ b,w.O b→w4.O b:=fun b hb=>hr4.fr.O ((gO b).2 (h.fr.O (hL.O hb)))
  have new5:∀ b o,x5 b o→¬ w4.O b:=fun b o hb hO=>by
   obtain ⟨o',ho'⟩:∃ o',w4.heap[b]? = some o':=⟨_,Array.getElem?_eq_getElem (hr4.mr.wf b hO)⟩
   by_cases hex:∃ k,k < 3∧s4 k=b
   ·obtain ⟨k,hk,rfl⟩:=hex
    exact hr5.mr.apart _ o (.inr hb) k hk (p5 k hk)
   ·exact hN5 b o hb o' ⟨ho',hO,fun k hk e=>hex ⟨k,hk,e⟩⟩
  have hM4:∀ b,v.M b→w4.M b:=fun b hb=>hr4.fr.M b (by rw [gM]; exact hb)
  obtain ⟨xm',hms',hnew',hsub',hbl'⟩:∃ xm',MsAt xm' (playStep cur (rs i)).1.ms u5∧(∀ b o,xm' b o→¬ w.O b)∧xsub xm' (fun b o=>xAllB w4 s4 3 b o∨x5 b o)∧∀ b∈bl,∀ o,¬ xm' b o:=by
   rcases hor with ⟨rfl,rfl,e5⟩ | hor
   ·rw [e5]
    exact ⟨xm,hms,h.new,fun b o hb=>.inl (hsub4 b o (.inr hb)),fun b hb o hx=>h.bly b hb o (.inr hx)⟩
   ·exact ⟨x5,hor,fun b o hb hO=>new5 b o hb (hO4 b hO),fun b o hb=>.inr hb,fun b hb o hx=>new5 b o hx (.inl (hM4 b (T.own h.J b hb).1))⟩
  have key:∀ b∈bl,w5.M b∧w5.heap[b]? = v.heap[b]?:=fun b hb=>by
   obtain ⟨h1,h2⟩:=T.own h.J b hb
   have h3:vg.M b:=by rw [gM]; exact h1
   have h4:b < vg.heap.size:=by show b < vg.w.heap.size; rw [gw]; exact h2
   have n4:b∉(List.range 3).map s:=fun hin=>by
    obtain ⟨k,hk,e⟩:=List.mem_map.1 hin
    exact h.bls b hb k (by simpa using hk) e.symm
   have n5:b∉(List.range 3).map s4:=fun hin=>by
    obtain ⟨k,hk,e⟩:=List.mem_map.1 hin
    have hk:k < 3:=by simpa using hk
    exact h.bls b hb k hk (by rw [←e,p4 k hk])
   refine ⟨hr5.fr.M b (hr4.fr.M b h3),?_⟩
   rw [hr5.fr.block b (.inl (hr4.fr.M b h3)) (Nat.lt_of_lt_of_le h4 hr4.fr.size) n5,hr4.fr.block b (.inl h3) h4 n4]
   show vg.w.heap[b]? = _
   rw [gw]
  have hJ5:=T.cong h.J key
  refine QbD ?_
  show OpsR _ _ _ (List.range' 0 3 ++ [3]) _ _ _
  refine Qg3 (QS:=fun S'=>Wk S' ⟨[(41,.ext fv),(42,.ext ((playStep cur (rs i)).1.v u5)),(43,.ext (.int .i64 (playStep cur (rs i)).2)),(2,.ext fv),(6,.ptr 1 0),(8,.ptr 2 0),(26,.ext (.chan (some ch)))],(LS fv c (playStep cur (rs i)).1 u5 ch (fun b o=>xAllB w4 s4 3 b o∨x5 b o) []).m,fun b o=>xAllB w4 s4 3 b o∨x5 b o⟩) (by simp) (by kernel_rfl) (by rfl) hr5 ?_ ?_
  ·show opsW _ _ [_,_,_] ⟨[(2,.ext fv),(6,.ptr 1 0),(8,.ptr 2 0),(26,.ext (.chan (some ch))),(12,.ext (.int .i64 (playStep cur (rs i)).2))],[.cells 23 (cfCells c),.cells 49 (sRow esZ (.slice none 0 0)),.cells 49 (sRow (playStep cur (rs i)).1 u5)],fun b o=>xAllB w4 s4 3 b o∨x5 b o⟩ _ _
   generalize playStep cur (rs i)=p
   obtain ⟨s',n'⟩:=p
   dsimp only
   unfold Es.v sRow Es.cells
   repeat' (first|((fail_if_success (with_reducible refine stk ?_));simp only [WE,segX,Nat.reduceBEq,Qaj]))
   exact Qae ⟨⟨rfl,rfl⟩,⟨rfl,rfl⟩,⟨rfl,rfl⟩,⟨rfl,rfl⟩,⟨rfl,rfl⟩,⟨rfl,rfl⟩,⟨rfl,rfl⟩,trivial⟩ (Qao _) rfl
  intro s6 S6 a6 w6 hr6 hwk6
  have hr6:=Wk.rep' (by simp [LS]) hwk6 hr6
  have p6:=(hr6.pinned (m:=3)).1
  have s6k:∀ k,k < 3→s6 k=s k:=fun k hk=>by rw [p6 k hk,p4 k hk]
  have key6:∀ b∈bl,w6.M b∧w6.heap[b]? = v.heap[b]?:=fun b hb=>by
   obtain ⟨h1,h2⟩:=key b hb
   have h3:=T.own hJ5 b hb
   have n4:b∉(List.range 3).map s4:=fun hin=>by
    obtain ⟨k,hk,e⟩:=List.mem_map.1 hin
    have hk:k < 3:=by simpa using hk
    exact h.bls b hb k hk (by rw [←e,p4 k hk])
   have h4:v.M b:=(T.own h.J b hb).1
   have h5:b < w4.heap.size:=hr4.mr.wf b (.inl (hM4 b h4))
   refine ⟨hr6.fr.M b (hM4 b h4),?_⟩
   rw [←h2,hr6.fr.block b (.inl (hM4 b h4)) h5 n4,hr5.fr.block b (.inl (hM4 b h4)) h5 n4]
  have hJ6:=T.cong h.J key6
  have hP6:PIn (playStep cur (rs i)).1 (i+1):=hP.step (rs i)
  have hx6:∀ b o,(x b o∨xm' b o)→xAllB w4 s4 3 b o∨x5 b o:=fun b o hb=>hb.elim (fun hb=>.inl (hsub4 b o (.inl hb))) (hsub' b o)
  have hbx:∀ b∈bl,∀ o,¬ (x b o∨xm' b o):=fun b hb o hx=>hx.elim (fun hx=>h.bly b hb o (.inl hx)) (hbl' b hb o)
  have e41:a6.eval (.tmp 41)=.func (.func T.g) #[] T.cs:=((hr6.slot 41 _ rfl).1).trans T.fv_
  have e42:a6.eval (.tmp 42)=(playStep cur (rs i)).1.v u5:=(hr6.slot 42 _ rfl).1
  have e43:a6.eval (.tmp 43)=.int .i64 (playStep cur (rs i)).2:=(hr6.slot 43 _ rfl).1
  refine Qjh (g:=T.g) (f:=.tmp 41) (args:=#[.tmp 42,.tmp 43]) (first:=#[]) (caps:=T.cs) (vals:=#[(playStep cur (rs i)).1.v u5,.int .i64 (playStep cur (rs i)).2])
   (R:=fun e w'=>∃ w6',Rely w6 w6'∧e=.returned (.tuple #[])∧∃ bl',T.JB ((playUp (esNew c).1 rs i).2 ++ [playStep cur (rs i)]) bl' w'∧Fr bl w6' w'∧NewOk w'∧∀ b∈bl',b∈bl∨w6'.heap.size≤b) rfl rfl rfl e41 (by simp [e42,e43]) T.go_ (fun w6' hrel=>?_) ?_
  ·have hr6':=hr6.rely hrel
   have hJ6':T.JB (playUp (esNew c).1 rs i).2 bl w6':=T.cong hJ6 fun b hb=>by
    obtain ⟨h1,h2⟩:=T.own hJ6 b hb
    exact ⟨by rw [hrel.M]; exact h1,hrel.block b (.inl h1) h2⟩
   have:=T.call (x:=fun b o=>x b o∨xm' b o) (s:=(playStep cur (rs i)).1) (u:=u5) (n:=(playStep cur (rs i)).2) (hT.mono fun b o hb=>.inl hb) hJ6' (fun b o hb=>⟨hr6'.mr.ext b o (hx6 b o hb),hr6'.mr.know b o (hx6 b o hb)⟩) hr6'.mr.wf hbx hP6 (by omega) (MsAt.mono hms' fun b o hb=>.inr hb) (by rw [QcZ]; omega)
   rw [Array.empty_append]
   exact this.mono fun e w' hq=>⟨w6',hrel,hq⟩
  ·rintro e w7 ⟨w6',hrel,rfl,bl',hJ7,fr7,ok7,hbl7⟩
   refine ⟨_,rfl,Qct ?_⟩
   have hr6':=(hr6.rely hrel).put (d:=some 44) (v:=.ext (.tuple #[])) (fun j hj=>by cases hj; exact Nat.le_of_ble_eq_true rfl) rfl
   have hlt6:∀ k,k < 3→s k < w6'.heap.size:=fun k hk=>by rw [←s6k k hk]; exact hr6'.mr.lt (k:=k) hk
   have hbk:∀ k,k < 3→s6 k∉bl:=fun k hk hin=>h.bls _ hin k hk (s6k k hk)
   have hx7:∀ b o,(x b o∨xm' b o)→w6'.heap[b]? = some o∧w6'.O b∧b < w6'.heap.size:=fun b o hb=>⟨hr6'.mr.ext b o (hx6 b o hb),hr6'.mr.know b o (hx6 b o hb),hr6'.mr.wf b (hr6'.mr.know b o (hx6 b o hb))⟩
   have size6:w.heap.size≤w6'.heap.size:=by
    refine Nat.le_trans hL.size (Nat.le_trans h.fr.size ?_)
    have e1:v.heap.size=vg.heap.size:=by show v.w.heap.size=vg.w.heap.size; rw [gw]
    rw [e1]
    exact Nat.le_trans hr4.fr.size (Nat.le_trans hr6.fr.size hrel.size)
   refine hnext _ w7 s6 u5 xm' bl' hlt ⟨?_,fun k hk=>by rw [s6k k hk]; exact h.hs k hk,?_,hnew',?_,fun b hb=>?_,fun b hb o hx=>?_,fun b hb k hk=>?_,?_,?_⟩
   ·show Rep _ _ _ _ _ (LS fv c (playStep (playUp (esNew c).1 rs i).1 (rs i)).1 u5 ch (fun b o=>x b o∨xm' b o) []) _ _
    rw [hcur]
    refine Qha (S':=LS fv c (playStep cur (rs i)).1 u5 ch (fun b o=>x b o∨xm' b o) []) hr6' ?_ ?_ ?_ (fun k hk=>?_) (fun b o hb=>?_) (fr7.wf hr6'.mr.wf ok7)
    ·have:Wk (St.put ⟨[(41,.ext fv),(42,.ext ((playStep cur (rs i)).1.v u5)),(43,.ext (.int .i64 (playStep cur (rs i)).2)),(2,.ext fv),(6,.ptr 1 0),(8,.ptr 2 0),(26,.ext (.chan (some ch)))],(LS fv c (playStep cur (rs i)).1 u5 ch (fun b o=>xAllB w4 s4 3 b o∨x5 b o) []).m,fun b o=>xAllB w4 s4 3 b o∨x5 b o⟩ (some 44) (.ext (.tuple #[]))) (LS fv c (playStep cur (rs i)).1 u5 ch (fun b o=>xAllB w4 s4 3 b o∨x5 b o) []):=by
      unfold LS St.put
      exact Qae ⟨⟨rfl,rfl⟩,⟨rfl,rfl⟩,⟨rfl,rfl⟩,⟨rfl,rfl⟩,trivial⟩ (Qao _) rfl
     exact this.t
    ·exact ⟨[],by rw [List.append_nil]; rfl⟩
    ·intro k o hk
     exact hr6'.mr.cm k o hk
    ·have hk:k < 3:=hk
     have h1:w6'.M (s6 k):=hr6'.mr.mine k hk
     exact ⟨fr7.M _ h1,fr7.block _ (.inl h1) (hr6'.mr.lt (k:=k) hk) (hbk k hk)⟩
    ·obtain ⟨h1,h2,h3⟩:=hx7 b o hb
     refine ⟨?_,fr7.O h2,fun k hk=>hr6'.mr.apart b o (hx6 b o hb) k hk⟩
     rw [fr7.block b h2 h3 fun hin=>hbx b hin o hb]
     exact h1
   ·show MsAt xm' (playStep (playUp (esNew c).1 rs i).1 (rs i)).1.ms u5
    rw [hcur]
    exact hms'
   ·show T.JB ((playUp (esNew c).1 rs i).2 ++ [playStep (playUp (esNew c).1 rs i).1 (rs i)]) bl' w7
    rw [hcur]
    exact hJ7
   ·exact (hbl7 b hb).elim (fun h1=>h.blb b h1) fun h1=>.inr (Nat.le_trans size6 h1)
   ·rcases hbl7 b hb with h1 | h1
    ·exact hbx b h1 o hx
    ·have:=(hx7 b o hx).2.2
     omega
   ·rcases hbl7 b hb with h1 | h1
    ·rw [s6k k hk]; exact h.bls b h1 k hk
    ·have:=hlt6 k hk
     rw [s6k k hk]
     omega
   ·have hb3:∀ s':Nat→Nat,(∀ k,k < 3→s' k=s k)→∀ b∈(List.range 3).map s',b∈bl0∨w.heap.size≤b:=fun s' hs' b hb=>by
     obtain ⟨k,hk,rfl⟩:=List.mem_map.1 hb
     have hk:k < 3:=by simpa using hk
     rw [hs' k hk]
     exact .inr (h.hs k hk)
    exact h.fr.trans ((FrL.same gw gM gX).trans ((FrL.of hr4.fr (hb3 s fun k hk=>rfl)).trans ((FrL.of hr6.fr (hb3 s4 p4)).trans ((FrL.of (Fr.rely [] hrel) (by simp)).trans (FrL.of fr7 h.blb)))))
   ·rw [fr7.gh,hrel.gh,hr6.fr.gh,hr4.fr.gh,gg]
 ·have hlt:i=len:=by
   have h1:=Qg7 (rs:=rs) (len:=len) (i:=i)
   have h2:(readVs rs len i).length=0:=congrArg List.length hvs
   omega
  subst hlt
  obtain ⟨vp,hvp⟩:∃ vp,v1.pop ⟨ch,q,readVs rs i i,kid,w.X,F⟩ w.gh.conn=vp:=⟨_,rfl⟩
  have pw:vp.w=v1.w:=by rw [←hvp]; rfl
  have pM:∀ b,vp.M b↔v1.M b∨F b∨b=q:=fun b=>by rw [←hvp]; rfl
  have pX:vp.X=w.X:=by rw [←hvp]; rfl
  have hrel':=hrep.rely hrel
  have hX:∀ b,v1.X b↔w.X b∨F b:=fun b=>by rw [hrel.X,h.fr.X]; exact hL.X b
  have sz:wl.heap.size≤v1.heap.size:=Nat.le_trans h.fr.size hrel.size
  have hrA:Rep ((List.range 3).map s) vp 46 [closeD q 126] s (LS fv c cur u ch (fun b o=>x b o∨xm b o) []) a vp:=
   QrI (S':=LS fv c cur u ch (fun b o=>x b o∨xm b o) []) hrel' (by unfold LS; exact Qae ⟨⟨rfl,rfl⟩,⟨rfl,rfl⟩,⟨rfl,rfl⟩,⟨rfl,rfl⟩,trivial⟩ (Qao _) rfl) pw (fun b hb=>(pM b).2 (.inl hb))
    (fun b hb=>hb.elim (fun hb=>.inl ((pM b).2 (.inl hb))) fun hb=>((hX b).1 hb).elim (fun hb=>.inr (by rw [pX]; exact hb)) fun hb=>.inl ((pM b).2 (.inr (.inl hb))))
    (fun b hb=>by
     show b < vp.w.heap.size
     rw [pw]
     rcases hb with hb | hb
     ·rcases (pM b).1 hb with hb | hb
      ·exact hrel'.mr.wf b (.inl hb)
      ·exact Nat.lt_of_lt_of_le (hL.lt b hb) sz
     ·rw [pX] at hb
      exact hrel'.mr.wf b (.inr ((hX b).2 (.inl hb))))
  rw [hvp]
  have hrB:=hrA.put (d:=some 27) (v:=.ext (.tuple #[.agg #[.int .i64 0,.int .i64 0,.int .i64 0,.int .i64 0,.int .i64 0],.bool false])) (fun j hj=>by cases hj; exact Nat.le_of_ble_eq_true rfl) rfl
  refine QcX (n:=46) (j:=1) (QS:=fun S'=>Wk S' ⟨[(28,.ext (.bool false)),(2,.ext fv),(6,.ptr 1 0),(8,.ptr 2 0),(26,.ext (.chan (some ch)))],(LS fv c cur u ch (fun b o=>x b o∨xm b o) []).m,fun b o=>x b o∨xm b o⟩) (by kernel_rfl) hrB ?_ ?_
  ·show opsW _ _ [_] ⟨[(27,.ext (.tuple #[.agg #[.int .i64 0,.int .i64 0,.int .i64 0,.int .i64 0,.int .i64 0],.bool false])),(2,.ext fv),(6,.ptr 1 0),(8,.ptr 2 0),(26,.ext (.chan (some ch)))],[.cells 23 (cfCells c),.cells 49 (sRow esZ (.slice none 0 0)),.cells 49 (sRow cur u)],fun b o=>x b o∨xm b o⟩ _ _
   repeat' (first|((fail_if_success (with_reducible refine stk ?_));simp only [WE]))
   exact Qae ⟨⟨rfl,rfl⟩,⟨rfl,rfl⟩,⟨rfl,rfl⟩,⟨rfl,rfl⟩,⟨rfl,rfl⟩,trivial⟩ (Qao _) rfl
  intro s4 S4 a4 w4 hr4 hwk4
  have hr4:=Wk.rep' (by simp [LS]) hwk4 hr4
  refine QaO (QeR (t:=false) (hr4.slot 28 _ rfl).1 ?_)
  rw [if_neg (by simp)]
  refine Qhw ?_
  show Q (.exit 0) a4 w4
  refine hlast a4 v1 vp s4 w4 rfl hrel hoq hvp.symm ?_
  rw [hcur]
  exact Wk.rep' (by simp [LS]) (by unfold LS; exact Qae ⟨⟨rfl,rfl⟩,⟨rfl,rfl⟩,⟨rfl,rfl⟩,⟨rfl,rfl⟩,trivial⟩ (Qao _) rfl) hr4
theorem Fr.put {w:WM} {q:Nat} {o o0:Obj} (h:w.heap[q]? = some o0) (hM:w.M q):Fr [q] w (w.put q o):=
 Fr.own (Qey h hM (EvIn.nil w)) fun k _ _ hn=>by
  rw [Array.getElem?_setIfInBounds,if_neg]
  intro e
  exact hn (by simp [e])
theorem QB5 {fv:Value} {T:Told fv} {x:Nat→Obj→Prop} {c:Cf} {rs:Nat→Raw} {len:Nat} {bl0:List Nat} {w wl:WM} {ch q kid:Nat} {F:Nat→Prop} {a:Act} {v:WM} {s:Nat→Nat} {u:Value} {xm:Nat→Obj→Prop} {bl:List Nat}
  (hok:c.ok=true) (hL:Lt x w wl ch q (readVs rs len 0) F kid) (hnq:¬ wl.O q) (h:LI T x c rs len bl0 w wl ch q kid F a v len s u xm bl) {c0 c5 d0 d1 d2 d3 d4 d5:Code}
  (hc:Tryz.f48.body=some (.seq d0 (.seq d1 (.seq d2 (.seq d3 (.seq d4 (.seq (.seq d5 c0) c5)))))))
  {v1 vp v':WM} {s':Nat→Nat} {a':Act} (hrel:Rely v v1) (hoq:openCh v1.w q) (hvp:vp=v1.pop ⟨ch,q,readVs rs len len,kid,w.X,F⟩ w.gh.conn)
  (hr:Rep ((List.range 3).map s) vp 46 [closeD q 126] s' (LS fv c (playUp (esNew c).1 rs len).1 u ch (fun b o=>x b o∨xm b o) []) a' v') :
  Wp Tryz.prog true c5 (fun e a w'=>R.bodyPost Tryz.prog Tryz.f48 (PlayR T c rs len bl0 w) e a w'∨R.bodyPostC Tryz.prog Tryz.f48 (PlayR T c rs len bl0 w) e a w') a' v':=by
 have hc':=hc
 simp only [Tryz.f48,Option.some.injEq,Code.seq.injEq] at hc'
 obtain ⟨rfl,rfl,rfl,rfl,rfl,⟨rfl,rfl⟩,rfl⟩:=hc'
 have pw:vp.w=v1.w:=by rw [hvp]; rfl
 have pM:∀ b,vp.M b↔v1.M b∨F b∨b=q:=fun b=>by rw [hvp]; rfl
 have hqw:q < wl.heap.size:=hL.lt q (.inr rfl)
 have hqv:¬ v.O q:=by
  rintro (hb | hb)
  ·rcases h.fr.new q hb with h1 | h1
   ·exact hnq (.inl h1)
   ·omega
  ·rw [h.fr.X] at hb; exact hnq (.inr hb)
 have hqs:q∉(List.range 3).map s:=fun hin=>by
  obtain ⟨k,hk,e⟩:=List.mem_map.1 hin
  exact hqv (.inl (e▸h.rep.mr.mine k (by show k < 3; simpa using hk)))
 obtain ⟨st,r,tm,hqh⟩:=hoq
 have hqp:vp.heap[q]? = some (.chan 0 #[] false st r tm):=by show vp.w.heap[q]? = _; rw [pw]; exact hqh
 have hqM:vp.M q:=(pM q).2 (.inr (.inr rfl))
 refine Wp.mono (Wp.any ((?_:Sd Tryz.prog ⟨(List.range 3).map s,vp,46,[closeD q 126]⟩ _ (fun e S'=>e=.ret∧S'.x=(fun b o=>x b o∨xm b o)∧resW Tryz.prog S' Tryz.f48.results.toList (.tuple #[(playUp (esNew c).1 rs len).1.v u,.int .i64 0])) _) s' a' v' hr)) ?_
 ·refine Qaa (by kernel_rfl) ?_
  obtain ⟨a',c',rfl,_⟩:=h.ms
  unfold LS
  generalize (playUp (esNew c).1 rs len).1=cur
  unfold sRow Es.v Es.cells
  repeat' (first|((fail_if_success (with_reducible refine stk ?_));simp only [WE,segX,Nat.reduceBEq,Nat.reduceAdd,Nat.reduceEqDiff,Qaj,Qsa]))
 rintro e a8 w8 ⟨s8,S8,hr8,rfl,hx8,hres⟩
 refine .inr ⟨q,_,_,_,st,r,tm,hr8.df,hr8.fr.M q hqM,?_,fun w9 hr9 w10 hr10=>?_⟩
 ·rw [hr8.fr.block q (.inl hqM) (Array.getElem?_eq_some_iff.1 hqp).1 hqs]; exact hqp
 have hq8:w8.heap[q]? = some (.chan 0 #[] false st r tm):=by rw [hr8.fr.block q (.inl hqM) (Array.getElem?_eq_some_iff.1 hqp).1 hqs]; exact hqp
 have hM8:w8.M q:=hr8.fr.M q hqM
 have hl8:q < w8.heap.size:=(Array.getElem?_eq_some_iff.1 hq8).1
 have hq9:w9.heap[q]? = some (.chan 0 #[] false st r tm):=(hr9.block q (.inl hM8) hl8).trans hq8
 have hM9:w9.M q:=by rw [hr9.M]; exact hM8
 have f1:Fr [q] w9 w10:=(Fr.put hq9 hM9).trans (Fr.rely [q] hr10)
 have hr8':=hr8.rely hr9
 have s8q:∀ k,k < S8.m.length→s8 k≠q:=fun k hk e=>by
  rcases hr8.own.mem hk with h1 | h1
  ·exact hqs (e▸h1)
  ·have h2:vp.heap.size≤s8 k:=h1
   have:=(Array.getElem?_eq_some_iff.1 hqp).1
   omega
 have ok10:NewOk w10:=by
  refine NewOk.rely (NewOk.to hr8'.mr.new ?_) hr10
  simp
 have x8q:∀ b o,S8.x b o→b≠q:=fun b o hb e=>by
  rw [hx8] at hb
  exact hqv (e▸h.rep.mr.know b o hb)
 have hr10':Rep ((List.range S8.m.length).map s8) w10 46 [closeD q 126] s8 S8 a8 w10:=
  Qha hr8' (fun i v hi=>⟨hi,(hr8.slot i v hi).2⟩) ⟨[],by simp⟩ hr8.mr.cm (fun k hk=>⟨f1.M _ (hr8'.mr.mine k hk),f1.block _ (.inl (hr8'.mr.mine k hk)) (hr8'.mr.lt hk) (by simpa using s8q k hk)⟩)
   (fun b o hb=>⟨by rw [f1.block b (hr8'.mr.know b o hb) (hr8'.mr.wf b (hr8'.mr.know b o hb)) (by simpa using x8q b o hb)]; exact hr8'.mr.ext b o hb,f1.O (hr8'.mr.know b o hb),hr8'.mr.apart b o hb⟩) (f1.wf hr8'.mr.wf ok10)
 have h10:=Qd6 (fn:=Tryz.f48) hr10'.sl hr10'.mr hres
 have f8:Fr (q :: (List.range 3).map s) vp w10:=(hr8.fr.mono fun b hb=>List.mem_cons_of_mem _ hb).trans ((Fr.rely _ hr9).trans (f1.mono (by simp)))
 refine ⟨_,h10.1,h10.2,.inl ⟨hok,u,bl,xm,rfl,h.ms,fun b o hb=>?_,T.cong h.J fun b hb=>?_,h.blb,fun b hb o hx=>h.bly b hb o (.inr hx),?_,ok10⟩⟩
 ·have hb':S8.x b o:=by rw [hx8]; exact .inr hb
  exact ⟨hr10'.mr.ext b o hb',h.new b o hb,hr10'.mr.know b o hb'⟩
 ·obtain ⟨g1,g2⟩:=T.own h.J b hb
  have g3:vp.M b:=(pM b).2 (.inl (by rw [hrel.M]; exact g1))
  refine ⟨f8.M b g3,?_⟩
  have g4:b < vp.heap.size:=by show b < vp.w.heap.size; rw [pw]; exact Nat.lt_of_lt_of_le g2 hrel.size
  rw [f8.block b (.inl g3) g4 ?_]
  ·show vp.w.heap[b]? = _
   rw [pw]
   exact hrel.block b (.inl g1) g2
  ·intro hin
   rcases List.mem_cons.1 hin with rfl | hin
   ·exact hqv (.inl g1)
   ·obtain ⟨k,hk,e⟩:=List.mem_map.1 hin
    exact h.bls b hb k (by simpa using hk) e.symm
 ·subst hvp
  refine hL.back h.fr h.gh ⟨rfl,rfl,rfl⟩ hrel f8 fun b hb=>?_
  rcases List.mem_cons.1 hb with rfl | hb
  ·exact hL.qn
  ·obtain ⟨k,hk,rfl⟩:=List.mem_map.1 hb
   exact h.hs k (by simpa using hk)
theorem QB6 {fv:Value} (T:Told fv) {x:Nat→Obj→Prop} (c:Cf) {ad:Option Addr} {len cap:Nat} {rs:Nat→Raw} {bl0:List Nat} {w:WM} (hok:c.ok=true) (hT:TensX x) (hmax:len≤1000) (hr:Raws (noStar x) ad len rs)
  (hx:∀ b o,x b o→w.heap[b]? = some o∧w.O b) (hwf:∀ b,w.O b→b < w.heap.size) (hJ:T.JB [] bl0 w) (hJx:∀ b∈bl0,∀ o,¬ x b o) :
  R.Calls Tryz.prog 48 #[c.v,.slice ad len cap,fv] w (PlayR T c rs len bl0 w):=by
 have hb:Tryz.f48.body.isSome=true:=rfl
 obtain ⟨body,hbody⟩:=Option.isSome_iff_exists.1 hb
 refine Qwp Tryz.func48 hbody ?_
 have hbody':=hbody
 simp only [Tryz.f48,Option.some.injEq] at hbody'
 subst hbody'
 have hrep:=Qcv (w:=w) (n:=46) (args:=[.ext c.v,.ext (.slice ad len cap),.ext fv]) (s:=fun _=>0) (m:=[]) (x:=x) (bs:=[]) (by simp)
  ⟨fun k o hk=>by simp at hk,fun j k hj=>by simp at hj,fun k o hk=>by simp at hk,fun b o hb=>(hx b o hb).1,fun b o _ k hk=>by simp at hk,fun k hk=>by simp at hk,fun b o hb=>(hx b o hb).2,hwf⟩ (.none fun k hk=>by simp at hk) (by simp [clo])
 refine Qrj c hbody hrep fun s1 a1 w1 hr1=>?_
 have hn:(esNew c).2=0:=by unfold esNew; rw [hok]; rfl
 have hm0:(esNew c).1.ms=[]:=by unfold esNew; rw [hok]; rfl
 rw [hn] at hr1
 obtain ⟨cur,hcur⟩:∃ cur,(esNew c).1=cur:=⟨_,rfl⟩
 rw [hcur] at hr1
 refine Qbe (G:=⟨[],w,46,[]⟩) (QS:=fun e S'=>e=.normal∧Wk S' ⟨[(1,.ext (.slice ad len cap)),(2,.ext fv),(6,.ptr 1 0),(8,.ptr 2 0)],[.cells 23 (cfCells c),.cells 49 (sRow esZ (.slice none 0 0)),.cells 49 (sRow cur (.slice none 0 0))],x⟩) hr1 ?_ ?_
 ·refine Qaa (by kernel_rfl) ?_
  have d:((0:Int) != 0)=false:=rfl
  repeat' (first|((fail_if_success (with_reducible refine stk ?_));simp only [WE,Nat.reduceBEq,d]))
  exact Qae ⟨⟨rfl,rfl⟩,⟨rfl,rfl⟩,⟨rfl,rfl⟩,⟨rfl,rfl⟩,trivial⟩ (Qao _) rfl
 rintro e s2 S2 a2 w2 hr2 ⟨rfl,hwk2⟩
 have hr2:=Wk.rep' (Nat.zero_le _) hwk2 hr2
 refine ⟨rfl,?_⟩
 refine QaO (QbD ?_)
 show OpsR _ _ _ (0 :: List.range' 1 1) _ _ _
 refine QqW (dir:=.both) (elem:=181) rfl rfl rfl rfl rfl (by kernel_rfl) (by kernel_rfl) hr2 ?_
 intro w3 q hr3
 refine QqY (n:=46) (j:=1) (QS:=fun S'=>Wk S' ⟨[(1,.ext (.slice ad len cap)),(2,.ext fv),(6,.ptr 1 0),(8,.ptr 2 0),(10,.ext (.chan (some q)))],[.cells 23 (cfCells c),.cells 49 (sRow esZ (.slice none 0 0)),.cells 49 (sRow cur (.slice none 0 0)),.obj (.chan 0 #[] false 0 0 false)],x⟩) (by kernel_rfl) hr3 ?_ ?_
 ·show opsW _ _ [_] ⟨[(22,.ext (.chan (some q))),(1,.ext (.slice ad len cap)),(2,.ext fv),(6,.ptr 1 0),(8,.ptr 2 0)],[.cells 23 (cfCells c),.cells 49 (sRow esZ (.slice none 0 0)),.cells 49 (sRow cur (.slice none 0 0)),.obj (.chan 0 #[] false 0 0 false)],x⟩ _ _
  repeat' (first|((fail_if_success (with_reducible refine stk ?_));simp only [WE]))
  exact Qae ⟨⟨rfl,rfl⟩,⟨rfl,rfl⟩,⟨rfl,rfl⟩,⟨rfl,rfl⟩,⟨rfl,rfl⟩,trivial⟩ (Qao _) rfl
 intro s4 S4 a4 w4 hr4 hpin4 _ hwk4
 have hr4:=Wk.rep' (Nat.zero_le _) hwk4 hr4
 have hq4:s4 3=q:=by rw [hpin4 3 (by simp)]; simp
 subst hq4
 show Wp _ _ _ _ _ _
 refine QaO (QbD ?_)
 show OpsR _ _ _ (List.range' 0 1 ++ [1]) _ _ _
 refine Qg3 (QS:=fun S'=>Wk S' ⟨[(1,.ext (.slice ad len cap)),(2,.ext fv),(6,.ptr 1 0),(8,.ptr 2 0),(10,.ext (.chan (some (s4 3)))),(23,.ext (.chan (some (s4 3))))],[.cells 23 (cfCells c),.cells 49 (sRow esZ (.slice none 0 0)),.cells 49 (sRow cur (.slice none 0 0)),.obj (.chan 0 #[] false 0 0 false)],x⟩) (by simp) (by kernel_rfl) (by rfl) hr4.pin ?_ ?_
 ·show opsW _ _ [_] ⟨[(1,.ext (.slice ad len cap)),(2,.ext fv),(6,.ptr 1 0),(8,.ptr 2 0),(10,.ext (.chan (some (s4 3))))],[.cells 23 (cfCells c),.cells 49 (sRow esZ (.slice none 0 0)),.cells 49 (sRow cur (.slice none 0 0)),.obj (.chan 0 #[] false 0 0 false)],x⟩ _ _
  repeat' (first|((fail_if_success (with_reducible refine stk ?_));simp only [WE,Nat.reduceBEq]))
  exact Qae ⟨⟨rfl,rfl⟩,⟨rfl,rfl⟩,⟨rfl,rfl⟩,⟨rfl,rfl⟩,⟨rfl,rfl⟩,⟨rfl,rfl⟩,trivial⟩ (Qao _) rfl
 intro s5 S5 a5 w5 hr5 hwk5
 obtain ⟨hr5u,p5,_⟩:=hr4.unpin hr5
 have hr5:=Wk.rep' (Nat.zero_le _) hwk5 hr5u
 have p53:s5 3=s4 3:=p5 3 (by simp)
 rw [←p53] at hr5
 have e23:a5.eval (.tmp 23)=.chan (some (s5 3)):=(hr5.slot 23 _ rfl).1
 refine Qjj (d:=closeD (s5 3) 126) rfl (by simp [Region.wanted]) (fun v=>?_) (Qct ?_)
 ·constructor <;> simp [execOp,resolve,e23,ren,closeD]
 have hrD:Rep [] w 46 [closeD (s5 3) 126] s5 _ { a5 with defers:=closeD (s5 3) 126 :: a5.defers } w5:=⟨hr5.mr,hr5.own,hr5.fr,hr5.size,hr5.slot,congrArg (List.cons (closeD (s5 3) 126)) hr5.df⟩
 show Wp _ _ _ _ _ _
 refine QaO (QaO (QbD ?_))
 show OpsR _ _ _ (List.range' 0 2 ++ [2]) _ _ _
 refine Qg3 (QS:=fun S'=>Wk S' ⟨[(2,.ext fv),(6,.ptr 1 0),(8,.ptr 2 0),(24,.ext (.slice ad len cap)),(25,.ext (.chan (some (s5 3))))],[.cells 23 (cfCells c),.cells 49 (sRow esZ (.slice none 0 0)),.cells 49 (sRow cur (.slice none 0 0)),.obj (.chan 0 #[] false 0 0 false)],x⟩) (by simp) (by kernel_rfl) (by rfl) hrD.pin ?_ ?_
 ·show opsW _ _ [_,_] ⟨[(1,.ext (.slice ad len cap)),(2,.ext fv),(6,.ptr 1 0),(8,.ptr 2 0),(10,.ext (.chan (some (s5 3)))),(23,.ext (.chan (some (s5 3))))],[.cells 23 (cfCells c),.cells 49 (sRow esZ (.slice none 0 0)),.cells 49 (sRow cur (.slice none 0 0)),.obj (.chan 0 #[] false 0 0 false)],x⟩ _ _
  repeat' (first|((fail_if_success (with_reducible refine stk ?_));simp only [WE,Nat.reduceBEq]))
  exact Qae ⟨⟨rfl,rfl⟩,⟨rfl,rfl⟩,⟨rfl,rfl⟩,⟨rfl,rfl⟩,⟨rfl,rfl⟩,trivial⟩ (Qao _) rfl
 intro s6 S6 a6 w6 hr6 hwk6
 obtain ⟨hr6u,p6,_⟩:=hrD.unpin hr6
 have hr6:=Wk.rep' (Nat.zero_le _) hwk6 hr6u
 have p63:s6 3=s5 3:=p6 3 (by simp)
 rw [←p63] at hr6
 have e24:a6.eval (.tmp 24)=.slice ad len cap:=(hr6.slot 24 _ rfl).1
 have e25:a6.eval (.tmp 25)=.chan (some (s6 3)):=(hr6.slot 25 _ rfl).1
 obtain ⟨T0,f0,hst⟩:=hT
 refine Qjh (g:=106) (f:=.func 106) (args:=#[.tmp 24,.tmp 25]) (first:=#[]) (caps:=#[]) (vals:=#[.slice ad len cap,.chan (some (s6 3))])
  (R:=fun e w'=>∃ w6',Rely w6 w6'∧∃ ch kid F w2,e=.returned (.chan (some ch))∧Lends x w6' ch (s6 3) (readVs rs len 0) F kid w2 w') rfl rfl rfl rfl (by simp [e24,e25]) Qzh (fun w6' hrel=>?_) ?_
 ·have hr6':=hr6.rely hrel
  exact (QCz (x:=x) (o0:=_) hst (cap:=cap) hmax hr (fun b o hb=>⟨hr6'.mr.ext b o hb,hr6'.mr.know b o hb⟩) hr6'.mr.wf (hr6'.mr.mine 3 (by simp)) ⟨0,0,false,hr6'.mr.mem 3 _ rfl⟩ (fun o ho=>hr6'.mr.apart _ o ho 3 (by simp) rfl)).mono fun e w' hq=>⟨w6',hrel,hq⟩
 rintro e w7 ⟨w6',hrel,ch,kid,F,w2,rfl,hl⟩
 refine ⟨_,rfl,Qct ?_⟩
 have hT:TensX x:=⟨T0,f0,hst⟩
 have hr6':=(hr6.rely hrel).put (d:=some 26) (v:=.ext (.chan (some ch))) (fun j hj=>by cases hj; exact Nat.le_of_ble_eq_true rfl) rfl
 have hqn:w.heap.size≤s6 3:=(hr6'.own.mem (k:=3) (by simp [St.put])).resolve_left (by simp)
 have hsn:∀ k,k < 3→w.heap.size≤s6 k:=fun k hk=>(hr6'.own.mem (k:=k) (by show k < 4; omega)).resolve_left (by simp)
 have hMk:∀ k,k < 4→w6'.M (s6 k):=fun k hk=>hr6'.mr.mine k hk
 have hL:Lt x w w7 ch (s6 3) (readVs rs len 0) F kid:=hl.sum hr6'.fr hwf hr6'.mr.wf hqn (hMk 3 (by decide))
 have hnq:¬ w7.O (s6 3):=hl.nq hr6'.fr hwf hqn (hr6'.mr.wf _ (.inl (hMk 3 (by decide))))
 have hnk:∀ k,k < 3→s6 k≠s6 3:=fun k hk e=>by
  have:=hr6'.mr.inj k 3 (by show k < 4; omega) (by show 3 < 4; decide) e
  omega
 have hFk:∀ k,k < 3→¬ F (s6 k):=fun k hk hF=>by
  rcases hl.lent _ hF with ⟨o,ho⟩ | h1
  ·exact hr6'.mr.apart _ o ho k (by show k < 4; omega) rfl
  ·have:=hr6'.mr.wf _ (.inl (hMk k (by omega)))
   omega
 have wf7:∀ b,w7.O b→b < w7.heap.size:=by
  rintro b (hb | hb)
  ·exact hl.ok b hb
  ·rw [hl.f2.X] at hb
   rcases hb with hb | hb
   ·rw [hl.f1.X] at hb
    exact Nat.lt_of_lt_of_le (hr6'.mr.wf b (.inr hb)) (Nat.le_trans hl.f1.size hl.f2.size)
   ·exact hL.lt b (.inl hb)
 show Wp _ _ _ _ _ _
 refine Qc6 (Qeb (fun a' v=>∃ i s u xm bl,i≤len∧LI T x c rs len bl0 w w7 ch (s6 3) kid F a' v i s u xm bl) (fun _ v=>match v.gh.conn with | k :: _=>k.vs.length | []=>0) ?_ ?_)
 ·refine ⟨0,s6,.slice none 0 0,no,bl0,Nat.zero_le _,⟨?_,hsn,?_,fun b o hb=>hb.elim,?_,fun b hb=>.inl hb,fun b hb o ho=>ho.elim (hJx b hb o) id,fun b hb k hk e=>?_,FrL.refl _ _,?_⟩⟩
  ·show Rep _ _ _ _ _ (LS fv c (esNew c).1 (.slice none 0 0) ch (fun b o=>x b o∨no b o) []) _ _
   rw [hcur]
   refine Qha (S':=LS fv c cur (.slice none 0 0) ch (fun b o=>x b o∨no b o) []) hr6' ?_ ⟨[.obj (.chan 0 #[] false 0 0 false)],rfl⟩ ?_ (fun k hk=>?_) (fun b o hb=>?_) wf7
   ·have:Wk (St.put ⟨[(2,.ext fv),(6,.ptr 1 0),(8,.ptr 2 0),(24,.ext (.slice ad len cap)),(25,.ext (.chan (some (s6 3))))],[.cells 23 (cfCells c),.cells 49 (sRow esZ (.slice none 0 0)),.cells 49 (sRow cur (.slice none 0 0)),.obj (.chan 0 #[] false 0 0 false)],x⟩ (some 26) (.ext (.chan (some ch)))) (LS fv c cur (.slice none 0 0) ch x []):=by
     unfold LS St.put
     exact Qae ⟨⟨rfl,rfl⟩,⟨rfl,rfl⟩,⟨rfl,rfl⟩,⟨rfl,rfl⟩,trivial⟩ ⟨rfl,rfl,rfl,trivial⟩ rfl
    exact this.t
   ·have hc3:(LS fv c cur (.slice none 0 0) ch (fun b o=>x b o∨no b o) []).m.all (cloO 3)=true:=rfl
    exact fun k o hk=>List.all_eq_true.1 hc3 o (List.mem_of_getElem? hk)
   ·have hk:k < 3:=hk
    have h1:=hl.keeps hr6'.mr.wf (.inl (hMk k (by omega))) (hnk k hk)
    exact ⟨h1.2.2 (hMk k (by omega)) (hFk k hk),h1.2.1⟩
   ·have hb:x b o:=hb.elim id fun h=>h.elim
    have h1:=hl.keeps hr6'.mr.wf (hr6'.mr.know b o hb) (fun e=>hr6'.mr.apart b o hb 3 (by show 3 < 4; decide) e.symm)
    refine ⟨by rw [h1.2.1]; exact hr6'.mr.ext b o hb,h1.1,fun k hk=>hr6'.mr.apart b o hb k ?_⟩
    have hk:k < 3:=hk
    show k < 4; omega
  ·show MsAt no (esNew c).1.ms _
   rw [hm0]
   exact ⟨none,0,rfl,Nat.le_refl _,by decide,fun _=>rfl,fun i hi=>absurd hi (by simp)⟩
  ·refine T.cong hJ fun b hb=>?_
   obtain ⟨h1,h2⟩:=T.own hJ b hb
   have h3:w6'.M b:=hr6'.fr.M b h1
   have hbq:b≠s6 3:=fun e=>by omega
   have h4:=hl.keeps hr6'.mr.wf (.inl h3) hbq
   refine ⟨h4.2.2 h3 fun hF=>?_,by rw [h4.2.1]; exact hr6'.fr.block b (.inl h1) h2 (by simp)⟩
   obtain ⟨o,ho⟩:=hL.lent b hF h2
   exact hJx b hb o ho
  ·have:=(T.own hJ b hb).2
   have:=hsn k hk
   omega
  ·rw [hL.gh]
 ·rintro a' v ⟨i,s,u,xm,bl,hi,h⟩
  refine QB3 hT hok hmax hL h hi hbody ?_ ?_
  ·intro a9 v9 s9 u9 xm9 bl9 hlt h9
   refine ⟨⟨i+1,s9,u9,xm9,bl9,hlt,h9⟩,?_⟩
   have e1:v.gh.conn=⟨ch,s6 3,readVs rs len i,kid,w.X,F⟩ :: w.gh.conn:=by rw [h.gh]
   have e2:v9.gh.conn=⟨ch,s6 3,readVs rs len (i+1),kid,w.X,F⟩ :: w.gh.conn:=by rw [h9.gh]
   simp only [e1,e2,Qg7]
   omega
  ·intro a9 v1 vp s9 v9 hil hrel1 hoq hvp hr9
   show Wp _ _ _ _ _ _
   subst hil
   exact QB5 hok hL hnq h hbody hrel1 hoq hvp hr9
theorem Qri {fv:Value} (T:Told fv) {x:Nat→Obj→Prop} (c:Cf) {ad:Option Addr} {len cap:Nat} {rs:Nat→Raw} {bl0:List Nat} {w:WM} (hT:TensX x) (hmax:len≤1000) (hr:Raws (noStar x) ad len rs)
  (hx:∀ b o,x b o→w.heap[b]? = some o∧w.O b) (hwf:∀ b,w.O b→b < w.heap.size) (hJ:T.JB [] bl0 w) (hJx:∀ b∈bl0,∀ o,¬ x b o) :
  R.Calls Tryz.prog 48 #[c.v,.slice ad len cap,fv] w (PlayR T c rs len bl0 w):=by
 cases hok:c.ok with
 | true=>exact QB6 T c hok hT hmax hr hx hwf hJ hJx
 | false=>
  have hb:Tryz.f48.body.isSome=true:=rfl
  obtain ⟨body,hbody⟩:=Option.isSome_iff_exists.1 hb
  have hbody':=hbody
  simp only [Tryz.f48,Option.some.injEq] at hbody'
  subst hbody'
  exact QB2 T c hbody hok hx hwf hJ
def plLast (c:Cf) (rs:Nat→Raw) (len:Nat):Es×Int:=if c.ok=true then ((playUp (esNew c).1 rs len).1,0) else (esZ,210)
theorem Raws.star {x y:Nat→Obj→Prop} {a:Option Addr} {len:Nat} {rs:Nat→Raw} (h:Raws (noStar x) a len rs) (hx:xsub x y):Raws (noStar y) a len rs:=h.mono fun b o hb=>⟨hx b o hb.1,hb.2⟩
theorem QvW {x:Nat→Obj→Prop} (v:Value) (n:Int):PureC Tryz.prog x 52 [v,.int .i64 n] (.tuple #[]):=by
 refine Qab Tryz.func52 rfl rfl fun w=>?_
 refine Qaa (by kernel_rfl) ?_
 repeat' (first|((fail_if_success (with_reducible refine stk ?_));simp only [WE,Nat.reduceAdd,QEz]))
def toldNot:Told (.func (.func 52) #[] #[]) where
 g:=52
 cs:=#[]
 fv_:=rfl
 go_:=Qzf
 JB:=fun _ bl _=>bl=[]
 cong:=fun h _=>h
 own:=fun h b hb=>by rw [h] at hb; simp at hb
 call:=fun {x l bl w s u n m} _ hJ hx hwf _ _ _ _ _=>by
  refine ((QvW (x:=x) (s.v u) n).out w hx hwf).mono fun e w' ⟨h1,h2,h3⟩=>⟨h1,bl,hJ,h2.mono (by simp),h3,fun b hb=>.inl hb⟩
def LastR (c:Cf) (rs:Nat→Raw) (len:Nat) (v:Value) (x:Nat→Obj→Prop):Prop:=∃ a cp,v=.tuple #[(plLast c rs len).1.v (.slice a (plLast c rs len).1.ms.length cp),.int .i64 (plLast c rs len).2]∧MsAt x (plLast c rs len).1.ms (.slice a (plLast c rs len).1.ms.length cp)
theorem QvO {x:Nat→Obj→Prop} (c:Cf) {ad:Option Addr} {len cap:Nat} {rs:Nat→Raw} (hT:TensX x) (hmax:len≤1000) (hr:Raws (noStar x) ad len rs) :
  RetE Tryz.prog x 48 [c.v,.slice ad len cap,.func (.func 52) #[] #[]] (LastR c rs len):=by
 refine ⟨fun w hx hwf=>(Qri toldNot c (bl0:=[]) hT hmax hr hx hwf rfl (by simp)).mono fun e w' hR=>?_⟩
 rcases hR with ⟨hok,u,bl,xm,rfl,h1,h2,h3,h4,h5,h6,h7⟩ | ⟨hok,rfl,h1,h2,h3⟩
 ·obtain ⟨a,cp,rfl,h8⟩:=h1
  refine ⟨_,xm,rfl,?_,h2,h6,h7⟩
  unfold LastR plLast
  rw [if_pos hok]
  exact ⟨a,cp,rfl,a,cp,rfl,h8⟩
 ·refine ⟨_,no,rfl,?_,fun b o hb=>hb.elim,h2,h3⟩
  unfold LastR plLast
  rw [if_neg (by simp [hok])]
  exact ⟨none,0,rfl,none,0,rfl,Nat.le_refl _,by decide,fun _=>rfl,fun i hi=>absurd hi (by simp [esZ])⟩
theorem QvV {x:Nat→Obj→Prop} (c:Cf) {ad:Option Addr} {len cap:Nat} {rs:Nat→Raw} (hT:TensX x) (hmax:len≤1000) (hr:Raws (noStar x) ad len rs) :
  RetE Tryz.prog x 23 [c.v,.slice ad len cap] (LastR c rs len):=by
 refine Qhe Tryz.func23 rfl rfl fun w x1 hx1=>?_
 refine Qaa (by kernel_rfl) ?_
 have hP:=QvO (cap:=cap) c (hT.mono hx1) hmax (hr.star hx1)
 obtain ⟨p,hp⟩:∃ p,plLast c rs len=p:=⟨_,rfl⟩
 unfold LastR at hP ⊢
 rw [hp] at hP ⊢
 obtain ⟨t,n⟩:=p
 unfold Cf.v Es.v Es.cells at hP
 unfold Cf.v
 repeat' (first|(((with_reducible show callW _ _ _ (some (48,_)) _ _);refine callEN Qot rfl hP ?_; intro v x' x'' hR hx hx' hN; obtain ⟨a',c',rfl,hu1⟩:=hR))|((fail_if_success (with_reducible refine stk ?_));simp only [WE,segX,Nat.reduceBEq,Nat.reduceAdd,Nat.reduceEqDiff,Qai,Qaj,Qau]))
 rw [QeO]
 show resL _ _ [.cell 4 49,.tmp 5] _
 simp only [WE,Nat.reduceLeDiff,segX,Nat.reduceBEq,Nat.reduceAdd,Nat.reduceEqDiff,Int.reduceNeg,Int.reduceEq,Int.reduceBEq,Int.reduceLT,Int.reduceLE,Int.reduceBNe,Int.reduceToNat,Nat.reduceMul,Nat.reduceMod,Int.reducePow,reduceIte,Qai,Qaj,Qau,QDQ]
 exact ⟨_,x',rfl,hx',hN,_,_,rfl,hu1⟩
def ntRow (n:Nt):List Value:=[.int .i64 n.err,.int .i64 n.win,.int .i64 n.thr,.int .i64 n.rate,.int .i64 n.rto,.int .i64 n.part]
def ntVals:List Nt→List Value
 | []=>[]
 | n :: l=>ntRow n ++ ntVals l
theorem QgZ:∀ (l:List Nt) (n:Nt),ntVals (l ++ [n])=ntVals l ++ ntRow n
 | [],n=>by simp [ntVals]
 | a :: l,n=>by simp [ntVals,QgZ l n]
def noteOf (p:Es×Int):Nt:={ esLook p.1 with err:=p.2 }
theorem QfM:appS Tryz.prog #[29,29]=some (54,[.int .i64 0,.int .i64 0,.int .i64 0,.int .i64 0,.int .i64 0,.int .i64 0],48):=by kernel_rfl
theorem QfP {S:St} {a b c d e f:Int} {K:RV→St→Prop} (h:K (.sl S.m.length 0 1 1) ⟨S.t,S.m ++ [.cells 54 [.ext (.int .i64 a),.ext (.int .i64 b),.ext (.int .i64 c),.ext (.int .i64 d),.ext (.int .i64 e),.ext (.int .i64 f)]],S.x⟩) :
  bldW Tryz.prog S 29 1 [0] [.ext (.agg #[.int .i64 a,.int .i64 b,.int .i64 c,.int .i64 d,.int .i64 e,.int .i64 f])] K:=
 QhH (z:=.agg #[.int .i64 0,.int .i64 0,.int .i64 0,.int .i64 0,.int .i64 0,.int .i64 0]) (n:=6) (b:=48) #[.int .i64 a,.int .i64 b,.int .i64 c,.int .i64 d,.int .i64 e,.int .i64 f] rfl Tryz.underlying29 (by kernel_rfl) (by decide) (by decide) (by kernel_rfl) h
theorem Qcr (a b c d e f:Int):∀ v∈([.ext (.int .i64 a),.ext (.int .i64 b),.ext (.int .i64 c),.ext (.int .i64 d),.ext (.int .i64 e),.ext (.int .i64 f)]:List RV),∃ u,v=.ext u:=by
 intro v hv
 simp only [List.mem_cons,List.not_mem_nil,or_false] at hv
 rcases hv with rfl | rfl | rfl | rfl | rfl | rfl <;> exact ⟨_,rfl⟩
def NoteJB (b0:Nat) (l:List (Es×Int)) (bl:List Nat) (w:WM):Prop:=
 (l=[]∧bl=[b0]∧w.M b0∧w.heap[b0]? = some (.cells #[.slice none 0 0] 29 (0,0))) ∨
 ∃ (rb cap:Nat) (vals:List Value),bl=[b0,rb]∧b0≠rb∧w.M b0∧w.M rb∧w.heap[b0]? = some (.cells #[.slice (some ⟨rb,0,none⟩) l.length cap] 29 (0,0)) ∧
  w.heap[rb]? = some (.cells vals.toArray 54 (0,0))∧RowIs (vals.map .ext) 6 l.length cap ((ntVals (l.map noteOf)).map .ext)
def NoteQ (P:Program) (fn:Func) (l:List (Es×Int)) (p:Es×Int) (bs:Nat):Exit→St→Prop:=fun e S'=>e=.normal∧resW P S' fn.results.toList (.tuple #[])∧∃ j cap row,S'.m[0]? = some (.cells 29 [.sl j 0 (l.length+1) cap])∧S'.m[j]? = some (.cells 54 row) ∧
 RowIs row 6 (l.length+1) cap ((ntVals ((l ++ [p]).map noteOf)).map .ext)∧j≠0∧(bs≤j∨j=1∧bs=2)
theorem QBC {x:Nat→Obj→Prop} {s:Es} {u:Value} {n:Int} {m:Nat} {G:Ctx} {c:Code} (hbs:G.bs.length=1) (hn:G.n=14) (hT:TensX x) (hP:PIn s m) (hm:m≤1000) (hu:MsAt x s.ms u) (hc:Tryz.f49.body=some c) :
  Sd Tryz.prog G c (NoteQ Tryz.prog Tryz.f49 [] (s,n) 1) ⟨[(0,.ext (s.v u)),(1,.ext (.int .i64 n)),(2,.ptr 0 0)],[.cells 29 [.ext (.slice none 0 0)]],x⟩:=by
 simp only [Tryz.f49,Option.some.injEq] at hc
 subst hc
 have hL:=QeZ hT s hP.fl (by have:=hP.ok.back; omega) (by have:=hP.ms; omega) hu
 obtain ⟨q,hq⟩:∃ q,esLook s=q:=⟨_,rfl⟩
 have hnt:noteOf (s,n)=⟨n,q.win,q.thr,q.rate,q.rto,q.part⟩:=by unfold noteOf; rw [hq]
 rw [hq] at hL
 obtain ⟨n0,e1,e2,e3,e4,e5⟩:=q
 obtain ⟨a',c',rfl,_⟩:=hu
 unfold Es.v Es.cells Nt.v at hL
 unfold Es.v Es.cells
 obtain ⟨bs,w0,k,ds⟩:=G
 dsimp only at hn hbs
 subst hn
 refine Qaa (by kernel_rfl) ?_
 repeat' (first|(with_reducible refine QfP ?_)|((with_reducible refine QcE QfM (by decide) ⟨by decide,by decide⟩ (by with_unfolding_all exact rfl) (by with_unfolding_all exact rfl) (by with_unfolding_all exact rfl) (fun co hco hcm=>?_)))|((with_reducible show callW _ _ _ (some (30,_)) _ _);refine callP Qfc rfl (hL) ?_)|((fail_if_success (with_reducible refine stk ?_));simp only [WE,segX,Nat.reduceBEq,Nat.reduceAdd,Nat.reduceEqDiff,Qcy,Qaq,Qaj,QaN,QaK,Qa2]))
 have hr:RowIs ([.ext (.int .i64 n),.ext (.int .i64 e1),.ext (.int .i64 e2),.ext (.int .i64 e3),.ext (.int .i64 e4),.ext (.int .i64 e5)] ++ zrow [.int .i64 0,.int .i64 0,.int .i64 0,.int .i64 0,.int .i64 0,.int .i64 0] (co - 1)) 6 1 co _:=RowIs.first rfl rfl hco (Qcr n e1 e2 e3 e4 e5)
 refine ⟨rfl,?_,4,co,_,rfl,rfl,?_,by decide,.inl (by decide)⟩
 ·show resW _ _ [] _
  simp only [WE,Nat.reduceLeDiff,segX,Nat.reduceBEq,Nat.reduceAdd,Nat.reduceEqDiff,Int.reduceNeg,Int.reduceEq,Int.reduceBEq,Int.reduceLT,Int.reduceLE,Int.reduceBNe,Int.reduceToNat,Nat.reduceMul,Nat.reduceMod,Int.reducePow,reduceIte,Qcy,Qaq,Qaj,QaN,QaK,Qa2,QjL]
 ·have e:(ntVals (([] ++ [(s,n)]).map noteOf)).map RV.ext=[.ext (.int .i64 n),.ext (.int .i64 e1),.ext (.int .i64 e2),.ext (.int .i64 e3),.ext (.int .i64 e4),.ext (.int .i64 e5)]:=by
   simp only [List.nil_append,List.map_cons,List.map_nil,hnt,ntVals,ntRow,List.append_nil]
  rw [e]
  exact hr
theorem QBE {x:Nat→Obj→Prop} {s:Es} {u:Value} {n:Int} {m:Nat} {G:Ctx} {c:Code} {l:List (Es×Int)} {cap:Nat} {row:List RV} (hbs:G.bs.length=2) (hn:G.n=14) (hT:TensX x) (hP:PIn s m) (hm:m≤1000) (hu:MsAt x s.ms u) (hl:l.length < 1000)
  (hrow:RowIs row 6 l.length cap ((ntVals (l.map noteOf)).map .ext)) (hc:Tryz.f49.body=some c) :
  Sd Tryz.prog G c (NoteQ Tryz.prog Tryz.f49 l (s,n) 2) ⟨[(0,.ext (s.v u)),(1,.ext (.int .i64 n)),(2,.ptr 0 0)],[.cells 29 [.sl 1 0 l.length cap],.cells 54 row],x⟩:=by
 simp only [Tryz.f49,Option.some.injEq] at hc
 subst hc
 have hL:=QeZ hT s hP.fl (by have:=hP.ok.back; omega) (by have:=hP.ms; omega) hu
 obtain ⟨q,hq⟩:∃ q,esLook s=q:=⟨_,rfl⟩
 have hnt:noteOf (s,n)=⟨n,q.win,q.thr,q.rate,q.rto,q.part⟩:=by unfold noteOf; rw [hq]
 rw [hq] at hL
 obtain ⟨n0,e1,e2,e3,e4,e5⟩:=q
 obtain ⟨a',c',rfl,_⟩:=hu
 unfold Es.v Es.cells Nt.v at hL
 unfold Es.v Es.cells
 obtain ⟨bs,w0,k,ds⟩:=G
 dsimp only at hn hbs
 subst hn
 generalize hk:l.length=N at *
 have hmx:N+1≤maxLen∧(N+1) * 48≤140737488355328:=⟨by unfold maxLen; omega,by omega⟩
 refine Qaa (by kernel_rfl) ?_
 repeat' (first|(with_reducible refine QfP ?_)|((with_reducible refine QcF QfM hmx (by with_unfolding_all exact rfl) (by with_unfolding_all exact rfl) (by with_unfolding_all exact rfl) (by with_unfolding_all exact rfl) (by with_unfolding_all exact hrow.size) hrow.le (fun hcq=>?_) (fun co hco hcm=>?_)))|((with_reducible show callW _ _ _ (some (30,_)) _ _);refine callP Qfc rfl (hL) ?_)|((fail_if_success (with_reducible refine stk ?_));simp only [WE,segX,Nat.reduceBEq,Nat.reduceAdd,Nat.reduceEqDiff,Qcy,Qaq,Qaj,QaN,QaK,Qa2]))
 ·have hr:=hrow.room (m:=1) (news:=[.ext (.int .i64 n),.ext (.int .i64 e1),.ext (.int .i64 e2),.ext (.int .i64 e3),.ext (.int .i64 e4),.ext (.int .i64 e5)]) rfl hcq (Qcr n e1 e2 e3 e4 e5)
  refine ⟨rfl,?_,1,cap,_,by rw [hk]; rfl,rfl,?_,by decide,.inr ⟨rfl,rfl⟩⟩
  ·show resW _ _ [] _
   simp only [WE,Nat.reduceLeDiff,segX,Nat.reduceBEq,Nat.reduceAdd,Nat.reduceEqDiff,Int.reduceNeg,Int.reduceEq,Int.reduceBEq,Int.reduceLT,Int.reduceLE,Int.reduceBNe,Int.reduceToNat,Nat.reduceMul,Nat.reduceMod,Int.reducePow,reduceIte,Qcy,Qaq,Qaj,QaN,QaK,Qa2,QjL]
  ·have e:(ntVals ((l ++ [(s,n)]).map noteOf)).map RV.ext=(ntVals (l.map noteOf)).map RV.ext ++ [.ext (.int .i64 n),.ext (.int .i64 e1),.ext (.int .i64 e2),.ext (.int .i64 e3),.ext (.int .i64 e4),.ext (.int .i64 e5)]:=by
    simp only [List.map_append,List.map_cons,List.map_nil,hnt,QgZ,ntRow]
   rw [e,hk]
   exact hr
 ·have hr:=hrow.grow (m:=1) (news:=[.ext (.int .i64 n),.ext (.int .i64 e1),.ext (.int .i64 e2),.ext (.int .i64 e3),.ext (.int .i64 e4),.ext (.int .i64 e5)]) (zs:=[.int .i64 0,.int .i64 0,.int .i64 0,.int .i64 0,.int .i64 0,.int .i64 0]) rfl rfl hco (Qcr n e1 e2 e3 e4 e5)
  refine ⟨rfl,?_,5,co,_,by rw [hk]; rfl,rfl,?_,by decide,.inl (by decide)⟩
  ·show resW _ _ [] _
   simp only [WE,Nat.reduceLeDiff,segX,Nat.reduceBEq,Nat.reduceAdd,Nat.reduceEqDiff,Int.reduceNeg,Int.reduceEq,Int.reduceBEq,Int.reduceLT,Int.reduceLE,Int.reduceBNe,Int.reduceToNat,Nat.reduceMul,Nat.reduceMod,Int.reducePow,reduceIte,Qcy,Qaq,Qaj,QaN,QaK,Qa2,QjL]
  ·have e:(ntVals ((l ++ [(s,n)]).map noteOf)).map RV.ext=(ntVals (l.map noteOf)).map RV.ext ++ [.ext (.int .i64 n),.ext (.int .i64 e1),.ext (.int .i64 e2),.ext (.int .i64 e3),.ext (.int .i64 e4),.ext (.int .i64 e5)]:=by
    simp only [List.map_append,List.map_cons,List.map_nil,hnt,QgZ,ntRow]
   rw [e,hk]
   exact hr
theorem rvals {row:List RV} (h:∀ v∈row,∃ u,v=.ext u):∃ vals:List Value,row=vals.map .ext:=by
 induction row with
 | nil=>exact ⟨[],rfl⟩
 | cons a r ih=>
  obtain ⟨u,rfl⟩:=h a (by simp)
  obtain ⟨vs,rfl⟩:=ih fun v hv=>h v (by simp [hv])
  exact ⟨u :: vs,rfl⟩
theorem Qp7 {b0:Nat} {l:List (Es×Int)} {p:Es×Int} {bs:List Nat} {w w':WM} {s:Nat→Nat} {S:St} {a:Act} {e:Exit} (hb:bs[0]? = some b0) (hr:Rep bs w 14 [] s S a w') (hq:NoteQ Tryz.prog Tryz.f49 l p bs.length e S) :
  R.bodyPost Tryz.prog Tryz.f49 (fun e w'=>e=.returned (.tuple #[])∧∃ bl',NoteJB b0 (l ++ [p]) bl' w'∧Fr bs w w'∧NewOk w'∧∀ b∈bl',b∈bs∨w.heap.size≤b) e a w':=by
 obtain ⟨rfl,hres,j,cap,row,h0,hj,hrow,hj0,hjb⟩:=hq
 refine ⟨hr.df,fun w1 hrel=>?_⟩
 have hr1:=hr.rely hrel
 have h9:=Qd6 (fn:=Tryz.f49) hr1.sl hr1.mr hres
 have l0:=(List.getElem?_eq_some_iff.1 h0).1
 have lj:=(List.getElem?_eq_some_iff.1 hj).1
 have s0:s 0=b0:=by
  rcases hr.own.at_ 0 l0 with ⟨b,g1,g2⟩ | ⟨g1,_⟩
  ·rw [hb] at g1; rw [g2]; exact (Option.some.inj g1).symm
  ·have:=(List.getElem?_eq_some_iff.1 hb).1; omega
 have sj:s j∈bs∨w.heap.size≤s j:=hr.own.mem lj
 have m0:=hr1.mr.mem 0 _ h0
 have mj:=hr1.mr.mem j _ hj
 obtain ⟨vals,rfl⟩:=rvals hrow.ext
 simp only [renO,Qax] at m0 mj
 rw [s0] at m0
 have hl:(l ++ [p]).length=l.length+1:=by simp
 refine ⟨_,h9.1,h9.2,rfl,[b0,s j],.inr ⟨s j,cap,vals,rfl,fun e=>hj0 (hr1.mr.inj j 0 lj l0 (by rw [s0]; exact e.symm)),?_,hr1.mr.mine j lj,?_,mj,?_⟩,hr1.fr,hr1.mr.new,?_⟩
 ·rw [←s0]; exact hr1.mr.mine 0 l0
 ·rw [hl,m0]; rfl
 ·rw [hl]; exact hrow
 ·intro b hb'
  simp only [List.mem_cons,List.not_mem_nil,or_false] at hb'
  rcases hb' with rfl | rfl
  ·exact .inl (List.mem_of_getElem? hb)
  ·exact sj
def toldNote (b0:Nat):Told (.func (.func 49) #[] #[.pointer (some ⟨b0,0,none⟩)]) where
 g:=49
 cs:=#[.pointer (some ⟨b0,0,none⟩)]
 fv_:=rfl
 go_:=Qzg
 JB:=NoteJB b0
 cong:=fun h k=>by
  rcases h with ⟨rfl,rfl,h1,h2⟩ | ⟨rb,cap,vals,rfl,hne,h1,h2,h3,h4,h5⟩
  ·exact .inl ⟨rfl,rfl,(k _ (by simp)).1,by rw [(k _ (by simp)).2]; exact h2⟩
  ·exact .inr ⟨rb,cap,vals,rfl,hne,(k _ (by simp)).1,(k _ (by simp)).1,by rw [(k _ (by simp)).2]; exact h3,by rw [(k _ (by simp)).2]; exact h4,h5⟩
 own:=fun h b hb=>by
  rcases h with ⟨rfl,rfl,h1,h2⟩ | ⟨rb,cap,vals,rfl,hne,h1,h2,h3,h4,h5⟩
  ·simp only [List.mem_singleton] at hb
   subst hb
   exact ⟨h1,(Array.getElem?_eq_some_iff.1 h2).1⟩
  ·simp only [List.mem_cons,List.not_mem_nil,or_false] at hb
   rcases hb with rfl | rfl
   ·exact ⟨h1,(Array.getElem?_eq_some_iff.1 h3).1⟩
   ·exact ⟨h2,(Array.getElem?_eq_some_iff.1 h4).1⟩
 call:=fun {x l bl w s u n m} hT hJ hx hwf hbx hP hm hu hl=>by
  have hb:Tryz.f49.body.isSome=true:=rfl
  obtain ⟨body,hbody⟩:=Option.isSome_iff_exists.1 hb
  rcases hJ with ⟨rfl,rfl,h1,h2⟩ | ⟨rb,cap,vals,rfl,hne,h1,h2,h3,h4,h5⟩
  ·exact Qci (s:=fun _=>b0) (args:=[.ext (s.v u),.ext (.int .i64 n),.ptr 0 0]) (bs:=[b0]) (m:=[.cells 29 [.ext (.slice none 0 0)]]) (x:=x) Tryz.func49 hbody (Nat.le_of_ble_eq_true rfl)
    ⟨fun k o hk=>by
     match k with
     | 0=>simp only [List.getElem?_cons_zero,Option.some.injEq] at hk; subst hk; exact h2
     | k+1=>simp at hk,fun j k hj hk _=>by simp at hj hk; omega,fun k o hk=>by
     match k with
     | 0=>simp only [List.getElem?_cons_zero,Option.some.injEq] at hk; subst hk; rfl
     | k+1=>simp at hk,fun b o hb=>(hx b o hb).1,fun b o hb k hk e=>hbx b0 (by simp) o (e▸hb),fun k hk=>h1,fun b o hb=>(hx b o hb).2,hwf⟩
    ⟨by simp,fun k hk=>.inl ⟨b0,by simp at hk; subst hk; rfl,rfl⟩⟩ (by simp [clo]) (QBC (by rfl) rfl hT hP hm hu hbody) fun e s' S' a' w' hr hq=>Qp7 (by rfl) hr hq
  ·exact Qci (s:=fun k=>if k=0 then b0 else rb) (args:=[.ext (s.v u),.ext (.int .i64 n),.ptr 0 0]) (bs:=[b0,rb]) (m:=[.cells 29 [.sl 1 0 l.length cap],.cells 54 (vals.map .ext)]) (x:=x) Tryz.func49 hbody (Nat.le_of_ble_eq_true rfl)
    ⟨fun k o hk=>by
     match k with
     | 0=>simp only [List.getElem?_cons_zero,Option.some.injEq] at hk; subst hk; exact h3
     | 1=>simp only [List.getElem?_cons_succ,List.getElem?_cons_zero,Option.some.injEq] at hk; subst hk; simp only [renO,Qax]; exact h4
     | k+2=>simp at hk,fun j k hj hk e=>by
     have hj:j < 2:=by simpa using hj
     have hk:k < 2:=by simpa using hk
     rcases (show j=0∨j=1 by omega) with rfl | rfl <;> rcases (show k=0∨k=1 by omega) with rfl | rfl <;> simp at e <;> first | rfl | exact absurd e hne | exact absurd e.symm hne,fun k o hk=>by
     match k with
     | 0=>simp only [List.getElem?_cons_zero,Option.some.injEq] at hk; subst hk; rfl
     | 1=>simp only [List.getElem?_cons_succ,List.getElem?_cons_zero,Option.some.injEq] at hk; subst hk; exact h5.clo _ _
     | k+2=>simp at hk,fun b o hb=>(hx b o hb).1,fun b o hb k hk e=>by
     refine hbx b ?_ o hb
     rw [←e]; split <;> simp,fun k hk=>by split <;> assumption,fun b o hb=>(hx b o hb).2,hwf⟩
    ⟨by simp,fun k hk=>.inl (by
     have hk:k < 2:=by simpa using hk
     rcases (show k=0∨k=1 by omega) with rfl | rfl <;> exact ⟨_,rfl,rfl⟩)⟩ (by simp [clo]) (QBE (by rfl) rfl hT hP hm hu hl h5 hbody) fun e s' S' a' w' hr hq=>Qp7 (by rfl) hr hq
theorem Fr.drop {bs cs:List Nat} {a b c:WM} (h:Fr bs a b) (k:Fr cs b c) (hc:∀ i∈cs,a.heap.size≤i):Fr bs a c:=
 ⟨k.os.trans h.os,k.tape.trans h.tape,k.output.trans h.output,k.gh.trans h.gh,k.X.trans h.X,fun i hi=>k.M i (h.M i hi),
  fun i hi=>(k.new i hi).elim (fun h1=>h.new i h1) (fun h1=>.inr (Nat.le_trans h.size h1)),Nat.le_trans h.size k.size,
  fun i ho hi hn=>(k.block i (h.O ho) (Nat.lt_of_lt_of_le hi h.size) (fun hin=>by have:=hc i hin; omega)).trans (h.block i ho hi hn)⟩
def RowAt (x:Nat→Obj→Prop) (a:Option Addr) (z n cap:Nat) (vals:List Value):Prop:=
 vals.length=n * z∧((a=none∧n=0∧cap=0)∨∃ b c T f,a=some ⟨b,0,none⟩∧x b (.cells c T f)∧c.toList.take (n * z)=vals∧n≤cap∧c.size=cap * z)
theorem QjB {s:Nat→Nat} {m:List RO} {k T z n cap:Nat} {row:List RV} {vals:List Value} (h:RowIs row z n cap (vals.map .ext)) (hm:m[k]? = some (.cells T row)):RowAt (xOwn m s) (some ⟨s k,0,none⟩) z n cap vals:=by
 refine ⟨by simpa using h.len,.inr ⟨s k,_,T,(0,0),rfl,⟨k,_,hm,rfl,rfl⟩,?_,h.le,by simpa using h.size⟩⟩
 simp only [←List.map_take,h.take,Qax]
theorem QBN {w w1:WM} {n:Nat} {ds:List Deferred} {s:Nat→Nat} {S:St} {a:Act} (hwf:∀ b,w.O b→b < w.heap.size) (hr:Rep [] w n ds s S a w1):∀ b o,xOwn S.m s b o→w1.heap[b]? = some o∧¬ w.O b∧w1.O b:=by
 rintro b o ⟨k,o1,hk,rfl,rfl⟩
 have hkl:=(List.getElem?_eq_some_iff.1 hk).1
 exact ⟨hr.mr.mem k o1 hk,fun ho=>by have:=hwf _ ho; have:=(hr.own.mem hkl).resolve_left (by simp); omega,.inl (hr.mr.mine k hkl)⟩
def plNotes (c:Cf) (rs:Nat→Raw) (len:Nat):List Nt×Int:=if c.ok=true then ((playUp (esNew c).1 rs len).2.map noteOf,0) else ([],210)
theorem QcY {c:Cf} {rs:Nat→Raw} {len:Nat} (h:c.ok=true):(plNotes c rs len).1.length=len:=by unfold plNotes; rw [if_pos h,List.length_map,QcZ]
def PlayNR (c:Cf) (rs:Nat→Raw) (len:Nat) (v:Value) (x:Nat→Obj→Prop):Prop:=∃ a cap,v=.tuple #[.slice a (plNotes c rs len).1.length cap,.int .i64 (plNotes c rs len).2]∧RowAt x a 6 (plNotes c rs len).1.length cap (ntVals (plNotes c rs len).1)
theorem QB7 {x:Nat→Obj→Prop} {w w':WM} {s:Nat→Nat} {a:Act} {c:Cf} {st:Value} {n:Int}  {Rk:Ending→WM→Prop} {d0 d2:Code} {ops:Array Oper}
  (hc:Tryz.f20.body=some (.seq d0 (.seq (.region 1 ops false) d2)))
  (hr:Rep [] w 15 [] s ⟨[(4,.ptr 1 0),(10,.ext (.tuple #[st,.int .i64 n]))],[.cells 23 (cfCells c),.cells 29 [.ext (.slice none 0 0)]],x⟩ a w')
  (hk:∀ s' t a' w1,Rep [] w 15 [] s' ⟨t,[.cells 23 (cfCells c),.cells 29 [.ext (.slice none 0 0)]],x⟩ a' w1→Rk (.returned (.tuple #[ren s' (.ext (.slice none 0 0)),.int .i64 n])) w1) :
  OpsR Tryz.prog true ops (List.range' 4 4) (thenA (fun a w=>Wp Tryz.prog true d2 (R.bodyPost Tryz.prog Tryz.f20 Rk) a w) (R.bodyPost Tryz.prog Tryz.f20 Rk)) a w':=by
 simp only [Tryz.f20,Option.some.injEq,Code.seq.injEq,Code.region.injEq,true_and,and_true] at hc
 obtain ⟨rfl,rfl,rfl⟩:=hc
 have hcl:([.cells 23 (cfCells c),.cells 29 [.ext (.slice none 0 0)]]:List RO).all (cloO ([.cells 23 (cfCells c),.cells 29 [.ext (.slice none 0 0)]]:List RO).length)=true:=rfl
 refine QcX (n:=15) (j:=4) (QS:=fun S'=>Wk S' ⟨[(4,.ptr 1 0),(5,.ext (.int .i64 n))],[.cells 23 (cfCells c),.cells 29 [.ext (.slice none 0 0)]],x⟩) (by kernel_rfl) hr ?_ ?_
 ·show opsW _ _ [_,_,_,_] _ _ _
  repeat' (first|((fail_if_success (with_reducible refine stk ?_));simp only [WE,Nat.reduceBEq]))
  exact Qae ⟨⟨rfl,rfl⟩,⟨rfl,rfl⟩,trivial⟩ (Qao _) hcl
 intro s4 S4 a4 w4 hr4 hwk4
 have hr4:=Wk.rep' (Nat.zero_le _) hwk4 hr4
 show Wp _ _ _ _ _ _
 refine QaO (QbD ?_)
 show OpsR _ _ _ (List.range' 0 4) _ _ _
 refine QcX (n:=15) (j:=0) (QS:=fun S'=>Wk S' ⟨[(4,.ptr 1 0),(5,.ext (.int .i64 n))],[.cells 23 (cfCells c),.cells 29 [.ext (.slice none 0 0)]],x⟩) (by kernel_rfl) hr4 ?_ ?_
 ·show opsW _ _ [_,_,_,_] _ _ _
  repeat' (first|((fail_if_success (with_reducible refine stk ?_));simp only [WE,Nat.reduceBEq,Nat.reduceEqDiff,Qcy]))
  exact Qae ⟨⟨rfl,rfl⟩,⟨rfl,rfl⟩,trivial⟩ (Qao _) hcl
 intro s8 S8 a8 w8 hr8 hwk8
 have hr8:=Wk.rep' (Nat.zero_le _) hwk8 hr8
 refine Qhx ⟨hr8.df,fun w9 hrel=>?_⟩
 have hr9:=hr8.rely hrel
 have hres:resL Tryz.prog ⟨[(4,.ptr 1 0),(5,.ext (.int .i64 n))],[.cells 23 (cfCells c),.cells 29 [.ext (.slice none 0 0)]],x⟩ Tryz.f20.results.toList (fun vs=>vs=[.ext (.slice none 0 0),.ext (.int .i64 n)]):=by
  show resL _ _ [.cell 4 29,.tmp 5] _
  simp only [WE,Nat.reduceLeDiff,segX,Nat.reduceBEq,Nat.reduceAdd,Nat.reduceEqDiff,Int.reduceNeg,Int.reduceEq,Int.reduceBEq,Int.reduceLT,Int.reduceLE,Int.reduceBNe,Int.reduceToNat,Nat.reduceMul,Nat.reduceMod,Int.reducePow,reduceIte,Qai,Qcy,Qj1,Qr3]
 obtain ⟨vs,g1,g2,rfl⟩:=Qc0 (fn:=Tryz.f20) hr9.sl hr9.mr hres
 exact ⟨_,g1.1,g1.2,hk s8 _ a8 w9 hr9⟩
theorem QB8 {x:Nat→Obj→Prop} {w w':WM} {s:Nat→Nat} {a:Act} {c:Cf} {st:Value} {n:Int} {N cp z:Nat} {L:List RV} {row:List RV} (hrow:RowIs row z N cp L) {Rk:Ending→WM→Prop} {d0 d2:Code} {ops:Array Oper}
  (hc:Tryz.f20.body=some (.seq d0 (.seq (.region 1 ops false) d2)))
  (hr:Rep [] w 15 [] s ⟨[(4,.ptr 1 0),(10,.ext (.tuple #[st,.int .i64 n]))],[.cells 23 (cfCells c),.cells 29 [.sl 2 0 N cp],.cells 54 row],x⟩ a w')
  (hk:∀ s' t a' w1,Rep [] w 15 [] s' ⟨t,[.cells 23 (cfCells c),.cells 29 [.sl 2 0 N cp],.cells 54 row],x⟩ a' w1→Rk (.returned (.tuple #[ren s' (.sl 2 0 N cp),.int .i64 n])) w1) :
  OpsR Tryz.prog true ops (List.range' 4 4) (thenA (fun a w=>Wp Tryz.prog true d2 (R.bodyPost Tryz.prog Tryz.f20 Rk) a w) (R.bodyPost Tryz.prog Tryz.f20 Rk)) a w':=by
 simp only [Tryz.f20,Option.some.injEq,Code.seq.injEq,Code.region.injEq,true_and,and_true] at hc
 obtain ⟨rfl,rfl,rfl⟩:=hc
 have hcl:([.cells 23 (cfCells c),.cells 29 [.sl 2 0 N cp],.cells 54 row]:List RO).all (cloO ([.cells 23 (cfCells c),.cells 29 [.sl 2 0 N cp],.cells 54 row]:List RO).length)=true:=by
  show (true && (true && (cloO 3 (.cells 54 row) && true)))=true
  rw [hrow.clo]; rfl
 refine QcX (n:=15) (j:=4) (QS:=fun S'=>Wk S' ⟨[(4,.ptr 1 0),(5,.ext (.int .i64 n))],[.cells 23 (cfCells c),.cells 29 [.sl 2 0 N cp],.cells 54 row],x⟩) (by kernel_rfl) hr ?_ ?_
 ·show opsW _ _ [_,_,_,_] _ _ _
  repeat' (first|((fail_if_success (with_reducible refine stk ?_));simp only [WE,Nat.reduceBEq]))
  exact Qae ⟨⟨rfl,rfl⟩,⟨rfl,rfl⟩,trivial⟩ (Qao _) hcl
 intro s4 S4 a4 w4 hr4 hwk4
 have hr4:=Wk.rep' (Nat.zero_le _) hwk4 hr4
 show Wp _ _ _ _ _ _
 refine QaO (QbD ?_)
 show OpsR _ _ _ (List.range' 0 4) _ _ _
 refine QcX (n:=15) (j:=0) (QS:=fun S'=>Wk S' ⟨[(4,.ptr 1 0),(5,.ext (.int .i64 n))],[.cells 23 (cfCells c),.cells 29 [.sl 2 0 N cp],.cells 54 row],x⟩) (by kernel_rfl) hr4 ?_ ?_
 ·show opsW _ _ [_,_,_,_] _ _ _
  repeat' (first|((fail_if_success (with_reducible refine stk ?_));simp only [WE,Nat.reduceBEq,Nat.reduceEqDiff,Qcy]))
  exact Qae ⟨⟨rfl,rfl⟩,⟨rfl,rfl⟩,trivial⟩ (Qao _) hcl
 intro s8 S8 a8 w8 hr8 hwk8
 have hr8:=Wk.rep' (Nat.zero_le _) hwk8 hr8
 refine Qhx ⟨hr8.df,fun w9 hrel=>?_⟩
 have hr9:=hr8.rely hrel
 have hres:resL Tryz.prog ⟨[(4,.ptr 1 0),(5,.ext (.int .i64 n))],[.cells 23 (cfCells c),.cells 29 [.sl 2 0 N cp],.cells 54 row],x⟩ Tryz.f20.results.toList (fun vs=>vs=[.sl 2 0 N cp,.ext (.int .i64 n)]):=by
  show resL _ _ [.cell 4 29,.tmp 5] _
  simp only [WE,Nat.reduceLeDiff,segX,Nat.reduceBEq,Nat.reduceAdd,Nat.reduceEqDiff,Int.reduceNeg,Int.reduceEq,Int.reduceBEq,Int.reduceLT,Int.reduceLE,Int.reduceBNe,Int.reduceToNat,Nat.reduceMul,Nat.reduceMod,Int.reducePow,reduceIte,Qai,Qcy,Qj1,Qr3]
 obtain ⟨vs,g1,g2,rfl⟩:=Qc0 (fn:=Tryz.f20) hr9.sl hr9.mr hres
 exact ⟨_,g1.1,g1.2,hk s8 _ a8 w9 hr9⟩
theorem QB9 {c:Cf} {rs:Nat→Raw} {len b0:Nat} {w:WM} {e:Ending} {w':WM} (h:PlayR (toldNote b0) c rs len [b0] w e w') :
  ∃ st bl l,e=.returned (.tuple #[st,.int .i64 (plNotes c rs len).2])∧NoteJB b0 l bl w'∧l.map noteOf=(plNotes c rs len).1∧(∀ b∈bl,b=b0∨w.heap.size≤b)∧Fr [b0] w w'∧NewOk w':=by
 rcases h with ⟨hok,u,bl,xm,rfl,h1,h2,h3,h4,h5,h6,h7⟩ | ⟨hok,rfl,h1,h2,h3⟩
 ·have e1:plNotes c rs len=((playUp (esNew c).1 rs len).2.map noteOf,0):=if_pos hok
  rw [e1]
  exact ⟨_,bl,_,rfl,h3,rfl,fun b hb=>(h4 b hb).imp (fun h=>by simpa using h) id,h6,h7⟩
 ·have e1:plNotes c rs len=([],210):=if_neg (by simp [hok])
  rw [e1]
  exact ⟨_,[b0],[],rfl,h1,rfl,fun b hb=>.inl (by simpa using hb),h2.mono (by simp),h3⟩
theorem QvX {x:Nat→Obj→Prop} (c:Cf) {ad:Option Addr} {len cap:Nat} {rs:Nat→Raw} (hT:TensX x) (hmax:len≤1000) (hr:Raws (noStar x) ad len rs) :
  RetE Tryz.prog x 20 [c.v,.slice ad len cap] (PlayNR c rs len):=by
 refine ⟨fun w hx hwf=>?_⟩
 have hb:Tryz.f20.body.isSome=true:=rfl
 obtain ⟨body,hbody⟩:=Option.isSome_iff_exists.1 hb
 refine Qf7 Tryz.func20 hbody ?_
 have hbody':=hbody
 simp only [Tryz.f20,Option.some.injEq] at hbody'
 subst hbody'
 have hrep:=Qcv (w:=w) (n:=15) (args:=[.ext c.v,.ext (.slice ad len cap)]) (s:=fun _=>0) (m:=[]) (x:=x) (bs:=[]) (by simp)
  ⟨fun k o hk=>by simp at hk,fun j k hj=>by simp at hj,fun k o hk=>by simp at hk,fun b o hb=>(hx b o hb).1,fun b o _ k hk=>by simp at hk,fun k hk=>by simp at hk,fun b o hb=>(hx b o hb).2,hwf⟩ (.none fun k hk=>by simp at hk) (by simp [clo])
 refine Qbe (G:=⟨[],w,15,[]⟩) (QS:=fun e S'=>e=.normal∧Wk S' ⟨[(1,.ext (.slice ad len cap)),(2,.ptr 0 0),(4,.ptr 1 0)],[.cells 23 (cfCells c),.cells 29 [.ext (.slice none 0 0)]],x⟩) hrep ?_ ?_
 ·refine Qaa (by kernel_rfl) ?_
  unfold Cf.v cfCells
  repeat' (first|((fail_if_success (with_reducible refine stk ?_));simp only [WE,Nat.reduceAdd,Qj1]))
  exact Qae ⟨⟨rfl,rfl⟩,⟨rfl,rfl⟩,⟨rfl,rfl⟩,trivial⟩ (Qao _) rfl
 rintro e s1 S1 a1 w1 hr1 ⟨rfl,hwk1⟩
 have hr1:=Wk.rep' (Nat.zero_le _) hwk1 hr1
 refine ⟨rfl,?_⟩
 refine QaO (QbD ?_)
 show OpsR _ _ _ (List.range' 0 3 ++ (3 :: List.range' 4 4)) _ _ _
 refine Qg3 (QS:=fun S'=>Wk S' ⟨[(4,.ptr 1 0),(7,.ext c.v),(8,.ext (.slice ad len cap)),(9,.clos 49 [(1,0)])],[.cells 23 (cfCells c),.cells 29 [.ext (.slice none 0 0)]],x⟩) (by simp) (by kernel_rfl) (by rfl) hr1 ?_ ?_
 ·show opsW _ _ [_,_,_] ⟨[(1,.ext (.slice ad len cap)),(2,.ptr 0 0),(4,.ptr 1 0)],[.cells 23 (cfCells c),.cells 29 [.ext (.slice none 0 0)]],x⟩ _ _
  unfold Cf.v cfCells
  repeat' (first|((fail_if_success (with_reducible refine stk ?_));simp only [WE,segX,Nat.reduceBEq,Qai]))
  exact Qae ⟨⟨rfl,rfl⟩,⟨rfl,rfl⟩,⟨rfl,rfl⟩,⟨rfl,rfl⟩,trivial⟩ (Qao _) rfl
 intro s3 S3 a3 w3 hr3 hwk3
 have hr3:=Wk.rep' (Nat.zero_le _) hwk3 hr3
 have e7:a3.eval (.tmp 7)=c.v:=(hr3.slot 7 _ rfl).1
 have e8:a3.eval (.tmp 8)=.slice ad len cap:=(hr3.slot 8 _ rfl).1
 have e9:a3.eval (.tmp 9)=.func (.func 49) #[] #[.pointer (some ⟨s3 1,0,none⟩)]:=(hr3.slot 9 _ rfl).1
 refine Qjh (g:=48) (f:=.func 48) (args:=#[.tmp 7,.tmp 8,.tmp 9]) (first:=#[]) (caps:=#[]) (vals:=#[c.v,.slice ad len cap,.func (.func 49) #[] #[.pointer (some ⟨s3 1,0,none⟩)]])
  (R:=fun e w'=>∃ w3',Rely w3 w3'∧PlayR (toldNote (s3 1)) c rs len [s3 1] w3' e w') rfl rfl rfl rfl (by simp [e7,e8,e9]) Qot (fun w3' hrel=>?_) ?_
 ·have hr3':=hr3.rely hrel
  refine (Qri (toldNote (s3 1)) c (x:=x) hT hmax hr (fun b o hb=>⟨hr3'.mr.ext b o hb,hr3'.mr.know b o hb⟩) hr3'.mr.wf (.inl ⟨rfl,rfl,hr3'.mr.mine 1 (by simp),hr3'.mr.mem 1 _ rfl⟩) fun b hb o ho=>?_).mono fun e w' hq=>⟨w3',hrel,hq⟩
  rw [List.mem_singleton] at hb
  subst hb
  exact hr3'.mr.apart _ o ho 1 (by simp) rfl
 rintro e w4 ⟨w3',hrel,hR⟩
 obtain ⟨st,bl,l,rfl,hJ,hl,hbl,hf,hok⟩:=QB9 hR
 refine ⟨_,rfl,?_⟩
 have hr4:=(hr3.rely hrel).put (d:=some 10) (v:=.ext (.tuple #[st,.int .i64 (plNotes c rs len).2])) (fun j hj=>by cases hj; exact Nat.le_of_ble_eq_true rfl) rfl
 have hM:∀ k,k < 2→w3'.M (s3 k):=fun k hk=>hr4.mr.mine k hk
 have hn:∀ k,k < 2→w.heap.size≤s3 k:=fun k hk=>(hr4.own.mem (k:=k) hk).resolve_left (by simp)
 have h01:s3 0≠s3 1:=fun e=>by have:=hr4.mr.inj 0 1 (by show 0 < 2; decide) (by show 1 < 2; decide) e; omega
 have l0:s3 0 < w3'.heap.size:=hr4.mr.lt (k:=0) (by show 0 < 2; decide)
 have hF:Fr [] w w4:=Fr.drop hr4.fr hf (fun b hb=>by rw [List.mem_singleton] at hb; subst hb; exact hn 1 (by decide))
 have m0:w4.heap[s3 0]? = some (renO s3 (.cells 23 (cfCells c))):=by
  rw [hf.block _ (.inl (hM 0 (by decide))) l0 (by simpa using h01)]
  exact hr4.mr.mem 0 _ rfl
 have hxx:∀ b o,x b o→w4.heap[b]? = some o∧w4.O b∧b < w3'.heap.size∧s3 0≠b∧s3 1≠b:=fun b o hb=>by
  have h1:=hr4.mr.apart b o hb 1 (by show 1 < 2; decide)
  have h2:=hr4.mr.know b o hb
  have h3:=hr4.mr.wf b h2
  refine ⟨?_,hf.O h2,h3,hr4.mr.apart b o hb 0 (by show 0 < 2; decide),h1⟩
  rw [hf.block b h2 h3 (by simpa using fun e:b=s3 1=>h1 e.symm)]
  exact hr4.mr.ext b o hb
 rcases hJ with ⟨rfl,rfl,g1,g2⟩ | ⟨rb,cp,vals,rfl,hne,g1,g2,g3,g4,g5⟩
 ·refine QB7 (c:=c) (x:=x) (s:=s3) (st:=st) (n:=(plNotes c rs len).2) hbody ⟨⟨?_,?_,?_,fun b o hb=>(hxx b o hb).1,?_,?_,fun b o hb=>(hxx b o hb).2.1,hf.wf hr4.mr.wf hok⟩,.none fun k hk=>hn k hk,hF,hr4.size,?_,hr4.df⟩ ?_
  ·intro k o hk
   match k with
   | 0=>simp only [List.getElem?_cons_zero,Option.some.injEq] at hk; subst hk; exact m0
   | 1=>simp only [List.getElem?_cons_succ,List.getElem?_cons_zero,Option.some.injEq] at hk; subst hk; exact g2
   | k+2=>simp at hk
  ·exact fun j k hj hk e=>hr4.mr.inj j k hj hk e
  ·have hc3:([.cells 23 (cfCells c),.cells 29 [.ext (.slice none 0 0)]]:List RO).all (cloO 2)=true:=rfl
   exact fun k o hk=>List.all_eq_true.1 hc3 o (List.mem_of_getElem? hk)
  ·intro b o hb k hk
   have hk:k < 2:=hk
   rcases (show k=0∨k=1 by omega) with rfl | rfl
   ·exact (hxx b o hb).2.2.2.1
   ·exact (hxx b o hb).2.2.2.2
  ·exact fun k hk=>hf.M _ (hM k hk)
  ·have:Wk (St.put ⟨[(4,.ptr 1 0),(7,.ext c.v),(8,.ext (.slice ad len cap)),(9,.clos 49 [(1,0)])],[.cells 23 (cfCells c),.cells 29 [.ext (.slice none 0 0)]],x⟩ (some 10) (.ext (.tuple #[st,.int .i64 (plNotes c rs len).2]))) ⟨[(4,.ptr 1 0),(10,.ext (.tuple #[st,.int .i64 (plNotes c rs len).2]))],[.cells 23 (cfCells c),.cells 29 [.ext (.slice none 0 0)]],x⟩:=by
    unfold St.put
    exact Qae ⟨⟨rfl,rfl⟩,⟨rfl,rfl⟩,trivial⟩ (Qao _) rfl
   exact fun i v hi=>⟨(hr4.slot i v (this.t i v hi).1).1,(this.t i v hi).2⟩
  ·intro s' t a' w1 hr5
   have hnil:(plNotes c rs len).1=[]:=by rw [←hl]; rfl
   refine ⟨_,no,rfl,⟨none,0,?_,?_,.inl ⟨rfl,?_,rfl⟩⟩,fun b o hb=>hb.elim,hr5.fr,hr5.mr.new⟩
   ·rw [hnil]; rfl
   ·rw [hnil]; rfl
   ·rw [hnil]; rfl
 ·have hrb:w3'.heap.size≤rb:=(hbl rb (by simp)).resolve_left fun e=>hne e.symm
  have hlen:l.length=(plNotes c rs len).1.length:=by rw [←hl]; simp
  obtain ⟨s',hs'⟩:∃ s':Nat→Nat,s'=fun k=>if k=2 then rb else s3 k:=⟨_,rfl⟩
  have e0:s' 0=s3 0:=by rw [hs']; rfl
  have e1:s' 1=s3 1:=by rw [hs']; rfl
  have e2:s' 2=rb:=by rw [hs']; rfl
  have l1:s3 1 < w3'.heap.size:=hr4.mr.lt (k:=1) (by show 1 < 2; decide)
  refine QB8 (c:=c) (x:=x) (s:=s') (st:=st) (n:=(plNotes c rs len).2) g5 hbody ⟨⟨?_,?_,?_,fun b o hb=>(hxx b o hb).1,?_,?_,fun b o hb=>(hxx b o hb).2.1,hf.wf hr4.mr.wf hok⟩,.none fun k hk=>?_,hF,hr4.size,?_,hr4.df⟩ ?_
  ·intro k o hk
   match k with
   | 0=>simp only [List.getElem?_cons_zero,Option.some.injEq] at hk; subst hk; rw [e0]; exact m0
   | 1=>simp only [List.getElem?_cons_succ,List.getElem?_cons_zero,Option.some.injEq] at hk; subst hk; rw [e1]; show _=some (Obj.cells #[.slice (some ⟨s' 2,0,none⟩) l.length cp] _ _); rw [e2]; exact g3
   | 2=>simp only [List.getElem?_cons_succ,List.getElem?_cons_zero,Option.some.injEq] at hk; subst hk; rw [e2]; simp only [renO,Qax]; exact g4
   | k+3=>simp at hk
  ·intro j k hj hk e
   have hj:j < 3:=hj
   have hk:k < 3:=hk
   have h20:rb≠s3 0:=fun e=>by omega
   have h21:rb≠s3 1:=fun e=>by omega
   rcases (show j=0∨j=1∨j=2 by omega) with rfl | rfl | rfl <;> rcases (show k=0∨k=1∨k=2 by omega) with rfl | rfl | rfl <;> first | rfl | (simp only [e0,e1,e2] at e; first | exact absurd e h01 | exact absurd e.symm h01 | exact absurd e h20 | exact absurd e.symm h20 | exact absurd e h21 | exact absurd e.symm h21)
  ·intro k o hk
   match k with
   | 0=>simp only [List.getElem?_cons_zero,Option.some.injEq] at hk; subst hk; rfl
   | 1=>simp only [List.getElem?_cons_succ,List.getElem?_cons_zero,Option.some.injEq] at hk; subst hk; rfl
   | 2=>simp only [List.getElem?_cons_succ,List.getElem?_cons_zero,Option.some.injEq] at hk; subst hk; exact g5.clo _ _
   | k+3=>simp at hk
  ·intro b o hb k hk
   have hk:k < 3:=hk
   rcases (show k=0∨k=1∨k=2 by omega) with rfl | rfl | rfl
   ·rw [e0]; exact (hxx b o hb).2.2.2.1
   ·rw [e1]; exact (hxx b o hb).2.2.2.2
   ·rw [e2]; have:=(hxx b o hb).2.2.1; omega
  ·intro k hk
   have hk:k < 3:=hk
   rcases (show k=0∨k=1∨k=2 by omega) with rfl | rfl | rfl
   ·rw [e0]; exact hf.M _ (hM 0 (by decide))
   ·rw [e1]; exact hf.M _ (hM 1 (by decide))
   ·rw [e2]; exact g2
  ·have hk:k < 3:=hk
   rcases (show k=0∨k=1∨k=2 by omega) with rfl | rfl | rfl
   ·rw [e0]; exact hn 0 (by decide)
   ·rw [e1]; exact hn 1 (by decide)
   ·rw [e2]; exact Nat.le_trans hr4.fr.size hrb
  ·intro i v hi
   simp only [Qa7,QiX] at hi
   split at hi
   ·rename_i e
    subst e
    obtain rfl:=Option.some.inj hi
    refine ⟨((hr4.slot 4 _ rfl).1).trans ?_,rfl⟩
    show Value.pointer (some ⟨s3 1,0,none⟩)=Value.pointer (some ⟨s' 1,0,none⟩)
    rw [e1]
   ·split at hi
    ·rename_i e
     subst e
     obtain rfl:=Option.some.inj hi
     exact ⟨(hr4.slot 10 _ rfl).1,rfl⟩
    ·cases hi
  ·intro s9 t a' w1 hr5
   refine ⟨_,_,rfl,⟨some ⟨s9 2,0,none⟩,cp,?_,?_⟩,QBN hwf hr5,hr5.fr,hr5.mr.new⟩
   ·rw [←hlen]; rfl
   ·rw [←hlen,←hl]
    exact QjB g5 rfl
def fewB (rs:Nat→Raw) (len:Nat) (most:Int):Bool:=(List.range len).all (fun i=>decide ((rs i).len≤10)) && decide ((len:Int)≤most)
theorem QxU {rs:Nat→Raw} {len i:Nat} {most:Int} (hi:i < len) (h:10 < (rs i).len):fewB rs len most=false:=by
 unfold fewB
 rw [List.all_eq_false.2 ⟨i,List.mem_range.2 hi,by simp; omega⟩,Bool.false_and]
theorem QcJ {x:Nat→Obj→Prop} {a:Option Addr} {len cap:Nat} {rs:Nat→Raw} {most:Int} (hmax:len≤9223372036854775807) (hr:Raws x a len rs):PureC Tryz.prog x 19 [.slice a len cap,.int .i64 most] (.bool (fewB rs len most)):=by
 refine Qab Tryz.func19 rfl rfl fun w=>?_
 refine Qaa (by kernel_rfl) ?_
 repeat' (first|((fail_if_success (with_reducible refine stk ?_));simp only [WE,Nat.reduceAdd]))
 refine Qa3 (α:=Nat) (fun i=>⟨[(5,.ext (.int .i64 i)),(1,.ext (.int .i64 most)),(0,.ext (.slice a len cap))],[],x⟩)
  (fun i=>i≤len∧∀ j,j < i→(rs j).len≤10) (fun i=>len - i)
  ⟨0,Qae ⟨⟨rfl,rfl⟩,⟨rfl,rfl⟩,⟨rfl,rfl⟩,trivial⟩ trivial rfl,by exact ⟨Nat.zero_le _,fun j hj=>absurd hj (Nat.not_lt_zero j)⟩⟩ (by kernel_rfl) ?_
 rintro i ⟨hi,hJ⟩
 try dsimp only at hi hJ ⊢
 by_cases hlt:i < len
 ·have hd:decide ((i:Int) < (len:Int))=true:=by simp; exact hlt
  have ei:wr .i64 ((i:Int)+1)=((i+1:Nat):Int):=by rw [Qag (by omega) (by omega)]; rfl
  obtain ⟨hz,bb,off,cc,T,fr,rfl,hx,hc⟩:=hr i hlt
  by_cases h10:10 < (rs i).len
  ·have d1:decide (10 < ((rs i).len:Int))=true:=decide_eq_true (by omega)
   rw [QxU hlt h10]
   repeat' (first|(with_reducible refine Qam ⟨by omega,by omega⟩ ?_)|(with_reducible refine Qad hx hc ?_)|((fail_if_success (with_reducible refine stk ?_));simp only [WE,Nat.reduceBEq,QbX,QbR,QaM,QbH,Qr1,hd,d1]))
  ·have d1:decide (10 < ((rs i).len:Int))=false:=decide_eq_false (by omega)
   repeat' (first|(with_reducible refine Qam ⟨by omega,by omega⟩ ?_)|(with_reducible refine Qad hx hc ?_)|((fail_if_success (with_reducible refine stk ?_));simp only [WE,Nat.reduceBEq,QbX,QbR,QaM,QbH,hd,ei,d1]))
   exact ⟨i+1,Qae ⟨⟨rfl,rfl⟩,⟨rfl,rfl⟩,⟨rfl,rfl⟩,trivial⟩ trivial rfl,⟨by omega,fun j hj=>by
    by_cases e:j=i
    ·subst e; omega
    ·exact hJ j (by omega)⟩,by omega⟩
 ·have hd:decide ((i:Int) < (len:Int))=false:=by simp; omega
  have e:fewB rs len most=decide ((len:Int)≤most):=by
   unfold fewB
   rw [List.all_eq_true.2 (fun j hj=>decide_eq_true (hJ j (by have:=List.mem_range.1 hj; omega))),Bool.true_and]
  rw [e]
  repeat' (first|((fail_if_success (with_reducible refine stk ?_));simp only [WE,Nat.reduceBEq,QaM,Qr1,hd]))
theorem RowAt.load {x:Nat→Obj→Prop} {a:Option Addr} {z n cap:Nat} {vals:List Value} (h:RowAt x a z n cap vals) {i:Nat} (hi:i < n) :
  ∃ b c T f,a=some ⟨b,0,none⟩∧x b (.cells c T f)∧∀ j,j < z→c[i * z+j]? = vals[i * z+j]?:=by
 obtain ⟨h1,h2⟩:=h
 rcases h2 with ⟨_,h2,_⟩ | ⟨b,c,T,f,h3,h4,h5,_,_⟩
 ·omega
 ·refine ⟨b,c,T,f,h3,h4,fun j hj=>?_⟩
  have:i * z+j < n * z:=by
   have:(i+1) * z≤n * z:=Nat.mul_le_mul_right _ hi
   rw [Nat.add_mul] at this
   omega
  rw [←h5,List.getElem?_take,if_pos this]
  simp
theorem RowAt.mono {x x':Nat→Obj→Prop} {a:Option Addr} {z n cap:Nat} {vals:List Value} (h:RowAt x a z n cap vals) (hx:xsub x x'):RowAt x' a z n cap vals:=by
 obtain ⟨h1,h2⟩:=h
 refine ⟨h1,?_⟩
 rcases h2 with h2 | ⟨b,c,T,f,h3,h4,h5⟩
 ·exact .inl h2
 ·exact .inr ⟨b,c,T,f,h3,hx _ _ h4,h5⟩
def erVals (l:List Int):List Value:=l.map (Value.int .i64)
theorem Qw1 {l:List Int} {i:Nat} {z:Int} (h:l[i]? = some z):(erVals l)[i * 1+0]? = some (.int .i64 z):=by
 simp [erVals,h]
theorem QmJ {x:Nat→Obj→Prop} {a:Option Addr} {n cap:Nat} {l:List Int} (h:RowAt x a 1 n cap (erVals l)) {i:Nat} (hi:i < n) {z:Int} (hz:l[i]? = some z) :
  ∃ b c T f,a=some ⟨b,0,none⟩∧x b (.cells c T f)∧loadX false 1 ((i:Int).toNat * 1) c=some (.int .i64 z):=by
 obtain ⟨b,c,T,f,h1,h2,h3⟩:=h.load hi
 refine ⟨b,c,T,f,h1,h2,?_⟩
 have:=h3 0 (by decide)
 rw [Qw1 hz] at this
 simpa [loadX] using this
theorem Qp8:∀ {l:List Nt} {i:Nat} {n:Nt},l[i]? = some n→(ntVals l)[i * 6+0]? = some (.int .i64 n.err)∧(ntVals l)[i * 6+1]? = some (.int .i64 n.win)∧(ntVals l)[i * 6+2]? = some (.int .i64 n.thr)∧(ntVals l)[i * 6+3]? = some (.int .i64 n.rate)∧(ntVals l)[i * 6+4]? = some (.int .i64 n.rto)∧(ntVals l)[i * 6+5]? = some (.int .i64 n.part)
 | [],i,n,h=>by simp at h
 | a :: l,0,n,h=>by
  simp only [List.getElem?_cons_zero,Option.some.injEq] at h
  subst h
  simp [ntVals,ntRow]
 | a :: l,i+1,n,h=>by
  have:=Qp8 (l:=l) (i:=i) (n:=n) (by simpa using h)
  simp only [ntVals,ntRow,show (i+1) * 6=i * 6+6 by omega,List.cons_append,List.nil_append]
  simpa [show ∀ m,i * 6+6+m=(i * 6+m)+1+1+1+1+1+1 by omega] using this
theorem Qa8 {x:Nat→Obj→Prop} {a:Option Addr} {n cap:Nat} {l:List Nt} (h:RowAt x a 6 n cap (ntVals l)) {i:Nat} (hi:i < n) {e:Nt} (he:l[i]? = some e) :
  ∃ b c T f,a=some ⟨b,0,none⟩∧x b (.cells c T f)∧loadX true 6 ((i:Int).toNat * 6) c=some (.agg #[.int .i64 e.err,.int .i64 e.win,.int .i64 e.thr,.int .i64 e.rate,.int .i64 e.rto,.int .i64 e.part]) ∧
   loadX false 1 ((i:Int).toNat * 6) c=some (.int .i64 e.err)∧loadX false 1 ((i:Int).toNat * 6+1) c=some (.int .i64 e.win)∧loadX false 1 ((i:Int).toNat * 6+2) c=some (.int .i64 e.thr)∧loadX false 1 ((i:Int).toNat * 6+3) c=some (.int .i64 e.rate)∧loadX false 1 ((i:Int).toNat * 6+4) c=some (.int .i64 e.rto)∧loadX false 1 ((i:Int).toNat * 6+5) c=some (.int .i64 e.part):=by
 obtain ⟨b,c,T,f,h1,h2,h3⟩:=h.load hi
 obtain ⟨g0,g1,g2,g3,g4,g5⟩:=Qp8 he
 rw [←h3 0 (by decide)] at g0
 rw [←h3 1 (by decide)] at g1
 rw [←h3 2 (by decide)] at g2
 rw [←h3 3 (by decide)] at g3
 rw [←h3 4 (by decide)] at g4
 rw [←h3 5 (by decide)] at g5
 refine ⟨b,c,T,f,h1,h2,?_,by simpa [loadX] using g0,by simpa [loadX] using g1,by simpa [loadX] using g2,by simpa [loadX] using g3,by simpa [loadX] using g4,by simpa [loadX] using g5⟩
 have hs:i * 6+6≤c.size:=by
  have:=(Array.getElem?_eq_some_iff.1 g5).1
  omega
 simp only [loadX,Int.toNat_natCast]
 rw [if_pos hs]
 congr 2
 apply Array.ext'
 refine List.ext_getElem? fun j=>?_
 simp only [Array.toList_extract,List.extract_eq_take_drop]
 rw [List.getElem?_take,List.getElem?_drop]
 have q0:c.toList[i * 6]? = some (.int .i64 e.err):=by simpa using g0
 have q1:c.toList[i * 6+1]? = some (.int .i64 e.win):=by simpa using g1
 have q2:c.toList[i * 6+2]? = some (.int .i64 e.thr):=by simpa using g2
 have q3:c.toList[i * 6+3]? = some (.int .i64 e.rate):=by simpa using g3
 have q4:c.toList[i * 6+4]? = some (.int .i64 e.rto):=by simpa using g4
 have q5:c.toList[i * 6+5]? = some (.int .i64 e.part):=by simpa using g5
 match j with
 | 0=>rw [if_pos (by omega)]; exact q0
 | 1=>rw [if_pos (by omega)]; exact q1
 | 2=>rw [if_pos (by omega)]; exact q2
 | 3=>rw [if_pos (by omega)]; exact q3
 | 4=>rw [if_pos (by omega)]; exact q4
 | 5=>rw [if_pos (by omega)]; exact q5
 | j+6=>rw [if_neg (by omega)]; simp
theorem Qf3 {x:Nat→Obj→Prop} {a1 a2:Option Addr} {n c1 c2:Nat} {l:List Nt} (hn:l.length=n) (hmax:n≤9223372036854775807) (h1:RowAt x a1 6 n c1 (ntVals l)) (h2:RowAt x a2 6 n c2 (ntVals l)) {m1 m2:Nat} :
  PureC Tryz.prog x 21 [.slice a1 n m1,.slice a2 n m2] (.bool true):=by
 refine Qab Tryz.func21 rfl rfl fun w=>?_
 refine Qaa (by kernel_rfl) ?_
 repeat' (first|((fail_if_success (with_reducible refine stk ?_));simp only [WE,Nat.reduceBEq,Nat.reduceAdd,Qav,bne_self_eq_false]))
 refine Qa3 (α:=Nat) (fun i=>⟨[(5,.ext (.int .i64 i)),(1,.ext (.slice a2 n m2)),(0,.ext (.slice a1 n m1))],[],x⟩)
  (fun i=>i≤n) (fun i=>n - i)
  ⟨0,Qae ⟨⟨rfl,rfl⟩,⟨rfl,rfl⟩,⟨rfl,rfl⟩,trivial⟩ trivial rfl,Nat.zero_le _⟩ (by kernel_rfl) ?_
 intro i hi
 try dsimp only at hi ⊢
 by_cases hlt:i < n
 ·have hd:decide ((i:Int) < (n:Int))=true:=by simp; exact hlt
  have ei:wr .i64 ((i:Int)+1)=((i+1:Nat):Int):=by rw [Qag (by omega) (by omega)]; rfl
  obtain ⟨e,he⟩:∃ e,l[i]? = some e:=⟨l[i],by simp [hn,hlt]⟩
  obtain ⟨b1,d1,T1,f1,rfl,hx1,hc1,_⟩:=Qa8 h1 hlt he
  obtain ⟨b2,d2,T2,f2,rfl,hx2,hc2,_⟩:=Qa8 h2 hlt he
  repeat' (first|(with_reducible refine Qam ⟨by omega,by omega⟩ ?_)|(with_reducible refine Qad hx1 hc1 ?_)|(with_reducible refine Qad hx2 hc2 ?_)|((with_reducible show cW _ _ (.region 6 _ true) _ _);refine Qas QA5 (by kernel_rfl) Qaf (by kernel_rfl) ?_)|((fail_if_success (with_reducible refine stk ?_));simp only [WE,Nat.reduceBEq,QaN,QaP,Qeo,Qav,hd,ei]))
  exact ⟨i+1,Qae ⟨⟨rfl,rfl⟩,⟨rfl,rfl⟩,⟨rfl,rfl⟩,trivial⟩ trivial rfl,by omega,by omega⟩
 ·have hd:decide ((i:Int) < (n:Int))=false:=by simp; omega
  repeat' (first|((fail_if_success (with_reducible refine stk ?_));simp only [WE,Nat.reduceBEq,Qav,QDK,hd]))
theorem QhX {x:Nat→Obj→Prop} {a1 a2:Option Addr} {n c1 c2:Nat} {l:List Int} (hn:l.length=n) (hmax:n≤9223372036854775807) (h1:RowAt x a1 1 n c1 (erVals l)) (h2:RowAt x a2 1 n c2 (erVals l)) {m1 m2:Nat} :
  PureC Tryz.prog x 44 [.slice a1 n m1,.slice a2 n m2] (.bool true):=by
 refine Qab Tryz.func44 rfl rfl fun w=>?_
 refine Qaa (by kernel_rfl) ?_
 repeat' (first|((fail_if_success (with_reducible refine stk ?_));simp only [WE,Nat.reduceBEq,Nat.reduceAdd,QbH,bne_self_eq_false]))
 refine Qa3 (α:=Nat) (fun i=>⟨[(5,.ext (.int .i64 i)),(1,.ext (.slice a2 n m2)),(0,.ext (.slice a1 n m1))],[],x⟩)
  (fun i=>i≤n) (fun i=>n - i)
  ⟨0,Qae ⟨⟨rfl,rfl⟩,⟨rfl,rfl⟩,⟨rfl,rfl⟩,trivial⟩ trivial rfl,Nat.zero_le _⟩ (by kernel_rfl) ?_
 intro i hi
 try dsimp only at hi ⊢
 by_cases hlt:i < n
 ·have hd:decide ((i:Int) < (n:Int))=true:=by simp; exact hlt
  have ei:wr .i64 ((i:Int)+1)=((i+1:Nat):Int):=by rw [Qag (by omega) (by omega)]; rfl
  obtain ⟨z,hz⟩:∃ z,l[i]? = some z:=⟨l[i],by simp [hn,hlt]⟩
  obtain ⟨b1,d1,T1,f1,rfl,hx1,hc1⟩:=QmJ h1 hlt hz
  obtain ⟨b2,d2,T2,f2,rfl,hx2,hc2⟩:=QmJ h2 hlt hz
  repeat' (first|(with_reducible refine Qam ⟨by omega,by omega⟩ ?_)|(with_reducible refine Qad hx1 hc1 ?_)|(with_reducible refine Qad hx2 hc2 ?_)|((with_reducible show cW _ _ (.region 6 _ true) _ _);refine Qas QBk (by kernel_rfl) Qaf (by kernel_rfl) ?_)|((fail_if_success (with_reducible refine stk ?_));simp only [WE,Nat.reduceBEq,ty_3,Qbd,QbH,hd,ei,bne_self_eq_false]))
  exact ⟨i+1,Qae ⟨⟨rfl,rfl⟩,⟨rfl,rfl⟩,⟨rfl,rfl⟩,trivial⟩ trivial rfl,by omega,by omega⟩
 ·have hd:decide ((i:Int) < (n:Int))=false:=by simp; omega
  repeat' (first|((fail_if_success (with_reducible refine stk ?_));simp only [WE,Nat.reduceBEq,QbH,QEw,hd]))
def wins:List Nt→List Int
 | []=>[]
 | n :: l=>if n.err=0 then n.win :: wins l else wins l
theorem Qj5:∀ (l:List Nt) (n:Nt),wins (l ++ [n])=if n.err=0 then wins l ++ [n.win] else wins l
 | [],n=>by simp [wins]
 | a :: l,n=>by
  simp only [List.cons_append,wins,Qj5 l n]
  split <;> split <;> simp
theorem QfH:∀ l:List Nt,(wins l).length≤l.length
 | []=>Nat.le_refl _
 | a :: l=>by
  have:=QfH l
  unfold wins
  split <;> simp only [List.length_cons] <;> omega
theorem QsO {α:Type} {l:List α} {i:Nat} {e:α} (h:l[i]? = some e):l.take (i+1)=l.take i ++ [e]:=by
 rw [List.take_add_one,h]; rfl
def erRows (l:List Int):List RV:=l.map fun z=>.ext (.int .i64 z)
theorem QmK (l:List Int) (z:Int):erRows (l ++ [z])=erRows l ++ [.ext (.int .i64 z)]:=by simp [erRows]
theorem Qw0 (l:List Int):erRows l=(erVals l).map .ext:=by simp [erRows,erVals]
theorem Qh9 (e:Int):∀ v∈([.ext (.int .i64 e)]:List RV),∃ u,v=.ext u:=by
 intro v hv
 simp only [List.mem_singleton] at hv
 exact ⟨_,hv⟩
theorem Qed:appS Tryz.prog #[28,28]=some (3,[.int .i64 0],8):=by kernel_rfl
theorem QkR {S:St} {z:Int} {K:RV→St→Prop} (h:K (.sl S.m.length 0 1 1) ⟨S.t,S.m ++ [.cells 3 [.ext (.int .i64 z)]],S.x⟩) :
  bldW Tryz.prog S 28 1 [0] [.ext (.int .i64 z)] K:=
 Qbq (z:=.int .i64 0) (b:=8) Tryz.underlying28 (by kernel_rfl) rfl (by decide) rfl rfl rfl h
inductive WinS where
 | none (i:Nat)
 | row (i n cap:Nat) (rb:List RV)
def winSt (a:Option Addr) (len cap:Nat) (x:Nat→Obj→Prop):WinS→St
 | .none i=>⟨[(7,.ext (.int .i64 i)),(6,.ext (.int .i64 len)),(5,.ext (.slice a len cap)),(2,.ext (.slice none 0 0))],[],x⟩
 | .row i n cp rb=>⟨[(7,.ext (.int .i64 i)),(6,.ext (.int .i64 len)),(5,.ext (.slice a len cap)),(2,.sl 0 0 n cp)],[.cells 3 rb],x⟩
def winJ (l:List Nt):WinS→Prop
 | .none i=>i≤l.length∧wins (l.take i)=[]
 | .row i n cp rb=>i≤l.length∧n≤i∧n=(wins (l.take i)).length∧RowIs rb 1 n cp (erRows (wins (l.take i)))
def winM (len:Nat):WinS→Nat
 | .none i=>len - i
 | .row i _ _ _=>len - i
def WinR (l:List Nt) (v:Value) (x:Nat→Obj→Prop):Prop:=∃ a cp,v=.slice a (wins l).length cp∧RowAt x a 1 (wins l).length cp (erVals (wins l))
theorem Qej {x:Nat→Obj→Prop} {a:Option Addr} {n cp cap:Nat} {l:List Nt} (hmax:n≤1000) (hn:l.length=n) (h:RowAt x a 6 n cp (ntVals l)):RetE Tryz.prog x 45 [.slice a n cap] (WinR l):=by
 refine QjA Tryz.func45 rfl rfl fun w=>?_
 refine Qaa (by kernel_rfl) ?_
 repeat' (first|((fail_if_success (with_reducible refine stk ?_));simp only [WE,Nat.reduceBEq,Qav]))
 refine QfT (winSt a n cap x) (winJ l) (winM n)
  ⟨.none 0,QaI [] (fun _ _ h=>h) ⟨⟨rfl,rfl⟩,⟨rfl,rfl⟩,⟨rfl,rfl⟩,⟨rfl,rfl⟩,trivial⟩ trivial (by decide) (Nat.le_refl _),by exact ⟨Nat.zero_le _,rfl⟩⟩ (by kernel_rfl) ?_
 rintro (i | ⟨i,k,cq,rb⟩) hJ <;> simp only [winSt] <;> simp only [winJ] at hJ
 ·obtain ⟨hi,hJu⟩:=hJ
  by_cases hlt:i < n
  ·have hd:decide ((i:Int) < (n:Int))=true:=by simp; omega
   have ei0:wr .i64 ((i:Int)+1)=((i+1:Nat):Int):=by rw [Qag (by omega) (by omega)]; rfl
   obtain ⟨e,he⟩:∃ e,l[i]? = some e:=⟨l[i],by simp [hn,hlt]⟩
   have hw:=Qj5 (l.take i) e
   rw [←QsO he,hJu] at hw
   obtain ⟨b1,d1,T1,f1,rfl,hx1,hc1,_⟩:=Qa8 h hlt he
   by_cases h0:e.err=0
   ·rw [if_pos h0] at hw
    have q:(e.err == 0)=true:=by simpa using h0
    repeat' (first|(with_reducible refine Qam ⟨by omega,by omega⟩ ?_)|(with_reducible refine Qad hx1 hc1 ?_)|(with_reducible refine QkR ?_)|((with_reducible refine QcE Qed (by decide) ⟨by decide,by decide⟩ (by with_unfolding_all exact rfl) (by with_unfolding_all exact rfl) (by with_unfolding_all exact rfl) ?_; intro cb2 hcb hcm2))|((fail_if_success (with_reducible refine stk ?_));simp only [WE,Nat.reduceBEq,Nat.reduceAdd,Nat.reduceEqDiff,ty_3,Qaq,QaN,QaK,Qfa,QaP,Qa2,hd,ei0,q]))
    have hb2:=RowIs.first (z:=1) (m:=1) (news:=[.ext (.int .i64 e.win)]) (zs:=[.int .i64 0]) rfl rfl hcb (Qh9 _)
    exact ⟨.row (i+1) 1 cb2 _,QaI [2] (fun _ _ h=>h) ⟨⟨rfl,rfl⟩,⟨rfl,rfl⟩,⟨rfl,rfl⟩,⟨rfl,rfl⟩,trivial⟩ ⟨⟨by rw [Qb3 hb2.ext]; rfl,hb2.clo _ _⟩,trivial⟩ (by decide) (Nat.le_refl _),⟨by omega,by omega,by rw [hw]; rfl,by rw [hw]; exact hb2⟩,by simp only [winM]; omega⟩
   ·rw [if_neg h0] at hw
    have q:(e.err == 0)=false:=by simpa using h0
    repeat' (first|(with_reducible refine Qam ⟨by omega,by omega⟩ ?_)|(with_reducible refine Qad hx1 hc1 ?_)|((fail_if_success (with_reducible refine stk ?_));simp only [WE,Nat.reduceBEq,Nat.reduceAdd,Nat.reduceEqDiff,Qaq,QaN,QaK,QaP,Qa2,hd,ei0,q]))
    exact ⟨.none (i+1),QaI [] (fun _ _ h=>h) ⟨⟨rfl,rfl⟩,⟨rfl,rfl⟩,⟨rfl,rfl⟩,⟨rfl,rfl⟩,trivial⟩ trivial (by decide) (Nat.le_refl _),⟨by omega,hw⟩,by simp only [winM]; omega⟩
  ·have hd:decide ((i:Int) < (n:Int))=false:=by simp; omega
   have:i=n:=by omega
   subst this
   rw [←hn,List.take_length] at hJu
   repeat' (first|((fail_if_success (with_reducible refine stk ?_));simp only [WE,Nat.reduceBEq,hd]))
   unfold WinR
   rw [hJu]
   exact fun s=>⟨none,0,rfl,⟨rfl,.inl ⟨rfl,rfl,rfl⟩⟩⟩
 ·obtain ⟨hi,hki,hk,hrb⟩:=hJ
  by_cases hlt:i < n
  ·have hd:decide ((i:Int) < (n:Int))=true:=by simp; omega
   have ei0:wr .i64 ((i:Int)+1)=((i+1:Nat):Int):=by rw [Qag (by omega) (by omega)]; rfl
   have hbb:k+1≤maxLen∧(k+1) * 8≤140737488355328:=by simp only [maxLen]; omega
   obtain ⟨e,he⟩:∃ e,l[i]? = some e:=⟨l[i],by simp [hn,hlt]⟩
   have hw:=Qj5 (l.take i) e
   rw [←QsO he] at hw
   obtain ⟨b1,d1,T1,f1,rfl,hx1,hc1,_⟩:=Qa8 h hlt he
   by_cases h0:e.err=0
   ·rw [if_pos h0] at hw
    have q:(e.err == 0)=true:=by simpa using h0
    repeat' (first|(with_reducible refine Qam ⟨by omega,by omega⟩ ?_)|(with_reducible refine Qad hx1 hc1 ?_)|(with_reducible refine QkR ?_)|((with_reducible refine QcF Qed hbb (by with_unfolding_all exact rfl) (by with_unfolding_all exact rfl) (by with_unfolding_all exact rfl) (by with_unfolding_all exact rfl) (by with_unfolding_all exact hrb.size) hrb.le (fun hcr=>?_) (fun cb2 hcb hcm2=>?_)))|((fail_if_success (with_reducible refine stk ?_));simp only [WE,Nat.reduceBEq,Nat.reduceAdd,Nat.reduceEqDiff,ty_3,Qaq,QaN,QaK,Qfa,QaP,Qa2,hd,ei0,q]))
    ·have hb2:=hrb.room (m:=1) (news:=[.ext (.int .i64 e.win)]) rfl hcr (Qh9 _)
     rw [←QmK,←hw] at hb2
     exact ⟨.row (i+1) (k+1) cq _,QaI [0] (fun _ _ h=>h) ⟨⟨rfl,rfl⟩,⟨rfl,rfl⟩,⟨rfl,rfl⟩,⟨rfl,rfl⟩,trivial⟩ ⟨⟨by rw [Qb3 hb2.ext]; rfl,hb2.clo _ _⟩,trivial⟩ (by decide) (Nat.le_refl _),⟨by omega,by omega,by rw [hw,List.length_append,←hk]; rfl,hb2⟩,by simp only [winM]; omega⟩
    ·have hb2:=hrb.grow (m:=1) (news:=[.ext (.int .i64 e.win)]) (zs:=[.int .i64 0]) rfl rfl hcb (Qh9 _)
     rw [←QmK,←hw] at hb2
     exact ⟨.row (i+1) (k+1) cb2 _,QaI [3] (fun _ _ h=>h) ⟨⟨rfl,rfl⟩,⟨rfl,rfl⟩,⟨rfl,rfl⟩,⟨rfl,rfl⟩,trivial⟩ ⟨⟨by rw [Qb3 hb2.ext]; rfl,hb2.clo _ _⟩,trivial⟩ (by decide) (Nat.le_refl _),⟨by omega,by omega,by rw [hw,List.length_append,←hk]; rfl,hb2⟩,by simp only [winM]; omega⟩
   ·rw [if_neg h0] at hw
    have q:(e.err == 0)=false:=by simpa using h0
    repeat' (first|(with_reducible refine Qam ⟨by omega,by omega⟩ ?_)|(with_reducible refine Qad hx1 hc1 ?_)|((fail_if_success (with_reducible refine stk ?_));simp only [WE,Nat.reduceBEq,Nat.reduceAdd,Nat.reduceEqDiff,Qaq,QaN,QaK,QaP,Qa2,hd,ei0,q]))
    rw [←hw] at hrb hk
    exact ⟨.row (i+1) k cq _,QaI [0] (fun _ _ h=>h) ⟨⟨rfl,rfl⟩,⟨rfl,rfl⟩,⟨rfl,rfl⟩,⟨rfl,rfl⟩,trivial⟩ ⟨⟨by rw [Qb3 hrb.ext]; rfl,hrb.clo _ _⟩,trivial⟩ (by decide) (Nat.le_refl _),⟨by omega,by omega,hk,hrb⟩,by simp only [winM]; omega⟩
  ·have hd:decide ((i:Int) < (n:Int))=false:=by simp; omega
   have:i=n:=by omega
   subst this
   rw [←hn,List.take_length] at hrb hk
   repeat' (first|((fail_if_success (with_reducible refine stk ?_));simp only [WE,Nat.reduceBEq,hd]))
   rw [Qw0] at hrb
   subst hk
   exact fun s=>⟨_,cq,rfl,QjB hrb rfl⟩
theorem QhY {x:Nat→Obj→Prop} {a:Option Addr} {n cp cap:Nat} {l:List Nt} (hmax:n≤1000) (hn:l.length=n) (h:RowAt x a 6 n cp (ntVals l)):PureC Tryz.prog x 46 [.slice a n cap] (.int .i64 ((n:Int) - (wins l).length)):=by
 refine Qab Tryz.func46 rfl rfl fun w=>?_
 refine Qaa (by kernel_rfl) ?_
 have hW:RetE Tryz.prog x 45 [.slice a n cap] (WinR l):=Qej hmax hn h
 have h2:=QfH l
 have e2:wr .i64 ((n:Int) - (wins l).length)=(n:Int) - (wins l).length:=Qag (by omega) (by omega)
 repeat' (first|(((with_reducible show callW _ _ _ (some (45,_)) _ _);refine callEN Qdp rfl hW ?_; intro v x' x'' hR hx hx' hN; obtain ⟨a',c',rfl,hu1⟩:=hR))|((fail_if_success (with_reducible refine stk ?_));simp only [WE,Nat.reduceBEq,QbH,Qav,QEx,e2]))
theorem QFK {q:Bool} {off:Nat} {a b:Int} {v:Value} (h:loadX false 1 off #[.int .u64 a,.int .u64 b]=some v):v=.int .u64 a∨v=.int .u64 b:=by
 have h:(#[Value.int .u64 a,Value.int .u64 b]:Array Value)[off]? = some v:=by simpa [loadX] using h
 match off with
 | 0=>exact .inl (Option.some.inj h).symm
 | 1=>exact .inr (Option.some.inj h).symm
 | n+2=>simp at h
theorem QCt {x:Nat→Obj→Prop} {a:Option Addr} {len:Nat} {rs:Nat→Raw} (hT:TensX x) (hf:∀ b o o',x b o→x b o'→o=o') (h:Raws x a len rs):Raws (noStar x) a len rs:=fun i hi=>by
 obtain ⟨T0,f0,hs⟩:=hT
 have ne:∀ b c T f off v,x b (.cells c T f)→loadX false 1 off c=some v→(∀ z,v≠.int .u64 z)→b≠star:=fun b c T f off v hb hl hv e=>by
  subst e
  have:=hf _ _ _ hb hs
  simp only [Obj.cells.injEq] at this
  obtain ⟨rfl,_⟩:=this
  rcases QFK (q:=true) hl with h | h <;> exact hv _ h
 obtain ⟨h1,b,off,c,T,f,h2,h3,h4⟩:=h i hi
 refine ⟨fun j hj=>?_,b,off,c,T,f,h2,⟨h3,ne b c T f _ _ h3 h4 (by simp)⟩,h4⟩
 obtain ⟨g1,b',off',c',T',f',g2,g3,g4⟩:=h1 j hj
 exact ⟨g1,b',off',c',T',f',g2,⟨g3,ne b' c' T' f' _ _ g3 g4 (by simp)⟩,g4⟩
theorem QrQ {x:Nat→Obj→Prop} {g:FuncId} {gs:List Value} {Rk:Value→(Nat→Obj→Prop)→Prop} {a:Option Addr} {len:Nat} {rs:Nat→Raw} (hT:TensX x) (h:Raws x a len rs) (hk:Raws (noStar x) a len rs→RetE Tryz.prog x g gs Rk):RetE Tryz.prog x g gs Rk:=
 ⟨fun w hx hwf=>(hk (QCt hT (fun b o o' h1 h2=>by have:=(hx b o h1).1.symm.trans (hx b o' h2).1; exact Option.some.inj this) h)).out w hx hwf⟩
theorem Qa4 {x:Nat→Obj→Prop} (c:Cf) {ad:Option Addr} {len cap:Nat} {rs:Nat→Raw} (hT:TensX x) (hmax:len≤1000) (hr:Raws x ad len rs):RetE Tryz.prog x 20 [c.v,.slice ad len cap] (PlayNR c rs len):=
 QrQ hT hr fun h=>QvX c hT hmax h
theorem Qdc {x:Nat→Obj→Prop} (c:Cf) {ad:Option Addr} {len cap:Nat} {rs:Nat→Raw} (hT:TensX x) (hmax:len≤1000) (hr:Raws x ad len rs):RetE Tryz.prog x 23 [c.v,.slice ad len cap] (LastR c rs len):=
 QrQ hT hr fun h=>QvV c hT hmax h
theorem QeA {x:Nat→Obj→Prop} {bk T n:Nat} {f:Nat×Nat} (l:List Int) (hx:x bk (.cells (l.map (Value.int .i64)).toArray T f)) (hl:(l.all fun z=>(Lit.int .i64 z).wf)=true) (hn:l.length=n) :
  Ints x (some ⟨bk,0,none⟩) n (fun i=>l.getD i 0):=fun i hi=>by
 subst hn
 have e:l[i]? = some (l.getD i 0):=by simp [hi]
 refine ⟨List.all_eq_true.1 hl _ (List.mem_of_getElem? e),bk,0,_,T,f,rfl,hx,?_⟩
 simp [loadX,hi]
def tR (s:Nat→Nat) (i:Nat):Raw:=match i with
 | 0=>⟨some ⟨s 1,0,none⟩,4,4,fun i=>[6,0,5000,0].getD i 0⟩
 | 1=>⟨some ⟨s 2,0,none⟩,4,4,fun i=>[9,1,1,1].getD i 0⟩
 | 2=>⟨some ⟨s 3,0,none⟩,4,4,fun i=>[1,50000,5000,50000].getD i 0⟩
 | _=>⟨some ⟨s 4,0,none⟩,1,1,fun i=>[7].getD i 0⟩
def tQ (s:Nat→Nat) (i:Nat):Raw:=match i with
 | 0=>⟨some ⟨s 6,0,none⟩,4,4,fun i=>[6,0,5000,0].getD i 0⟩
 | _=>⟨some ⟨s 7,0,none⟩,4,4,fun i=>[1,50000,5000,50000].getD i 0⟩
def tN:List Nt:=[⟨0,655360,68719476736,200000,1000000,0⟩,⟨200,655360,68719476736,200000,1000000,0⟩,⟨0,983040,68719476736,600000,200000,0⟩,⟨201,983040,68719476736,600000,200000,0⟩]
theorem QFO (s:Nat→Nat):plNotes awC (tR s) 4=(tN,0):=by kernel_rfl
theorem QsI (s:Nat→Nat):(plLast awC (tQ s) 2).1.win=983040∧(plLast awC (tQ s) 2).2=0:=⟨by kernel_rfl,by kernel_rfl⟩
theorem QsH (rs:Nat→Raw):plNotes ⟨0,0,0,0,0,0,0⟩ rs 0=([],210)∧plLast ⟨0,0,0,0,0,0,0⟩ rs 0=(esZ,210):=⟨by kernel_rfl,by kernel_rfl⟩
theorem Qjz {P:Program} {x:Nat→Obj→Prop} {g:FuncId} {gs:List Value} {R1 R2:Value→(Nat→Obj→Prop)→Prop} (h:RetE P x g gs R1) (hk:∀ v x',R1 v x'→R2 v x'):RetE P x g gs R2:=
 ⟨fun w h1 h2=>(h.out w h1 h2).mono fun e w' ⟨v,x',g1,g2,g3⟩=>⟨v,x',g1,hk v x' g2,g3⟩⟩
theorem Qbx {x:Nat→Obj→Prop} (hT:TensX x):PureC Tryz.prog x 40 [] (.bool true):=by
 refine Qab Tryz.func40 rfl rfl fun w=>?_
 refine Qaa (by kernel_rfl) ?_
 repeat' (first|((fail_if_success (with_reducible refine stk ?_));simp only [WE,Nat.reduceLeDiff,segX,Nat.reduceBEq,Nat.reduceAdd,Nat.reduceEqDiff,Qai,QjZ,QeV]))
 refine Qbq (z:=.int .i64 0) (b:=8) Tryz.underlying28 (by kernel_rfl) rfl (by decide) rfl rfl rfl ?_
 repeat' (first|((fail_if_success (with_reducible refine stk ?_));simp only [WE]))
 refine Qbq (z:=.int .i64 0) (b:=8) Tryz.underlying28 (by kernel_rfl) rfl (by decide) rfl rfl rfl ?_
 repeat' (first|((fail_if_success (with_reducible refine stk ?_));simp only [WE,Nat.reduceAdd]))
 refine Qbq (z:=.int .i64 0) (b:=8) Tryz.underlying28 (by kernel_rfl) rfl (by decide) rfl rfl rfl ?_
 repeat' (first|((fail_if_success (with_reducible refine stk ?_));simp only [WE,Nat.reduceAdd]))
 refine Qbq (z:=.int .i64 0) (b:=8) Tryz.underlying28 (by kernel_rfl) rfl (by decide) rfl rfl rfl ?_
 repeat' (first|((fail_if_success (with_reducible refine stk ?_));simp only [WE,Nat.reduceBEq,Nat.reduceAdd]))
 refine Qbq (z:=.slice none 0 0) (b:=24) Tryz.underlying24 (by kernel_rfl) rfl (by decide) rfl rfl rfl ?_
 repeat' (first|((fail_if_success (with_reducible refine stk ?_));simp only [WE,Nat.reduceBEq,Nat.reduceAdd]))
 refine callE' QaG (R:=fun v x=>∃ a cp,v=.tuple #[.slice a 4 cp,.int .i64 0]∧RowAt x a 6 4 cp (ntVals tN)) (fun s=>?_) ?_
 ·refine Qjz (Qa4 awC (ad:=some ⟨s 5,0,none⟩) (len:=4) (cap:=4) (rs:=tR s) (hT.mono fun b o h=>.inl h) (by decide) (fun i hi=>?_)) (fun v x' h=>?_)
  rotate_left
  ·unfold PlayNR at h
   rw [QFO] at h
   exact h
  match i,hi with
  | 0,_=>exact ⟨QeA [6,0,5000,0] (.inr ⟨1,_,rfl,rfl,rfl⟩) rfl rfl,_,_,_,_,_,rfl,.inr ⟨5,_,rfl,rfl,rfl⟩,rfl⟩
  | 1,_=>exact ⟨QeA [9,1,1,1] (.inr ⟨2,_,rfl,rfl,rfl⟩) rfl rfl,_,_,_,_,_,rfl,.inr ⟨5,_,rfl,rfl,rfl⟩,rfl⟩
  | 2,_=>exact ⟨QeA [1,50000,5000,50000] (.inr ⟨3,_,rfl,rfl,rfl⟩) rfl rfl,_,_,_,_,_,rfl,.inr ⟨5,_,rfl,rfl,rfl⟩,rfl⟩
  | 3,_=>exact ⟨QeA [7] (.inr ⟨4,_,rfl,rfl,rfl⟩) rfl rfl,_,_,_,_,_,rfl,.inr ⟨5,_,rfl,rfl,rfl⟩,rfl⟩
 rintro v x1 x2 ⟨a1,c1,rfl,hn1⟩ hs1 hs2
 have hT2:TensX x2:=hT.mono hs1
 replace hn1:=hn1.mono hs2
 clear hs1 hs2
 repeat' (first|((fail_if_success (with_reducible refine stk ?_));simp only [WE,segX,Nat.reduceBEq,Qai]))
 refine Qbq (z:=.int .i64 0) (b:=8) Tryz.underlying28 (by kernel_rfl) rfl (by decide) rfl rfl rfl ?_
 repeat' (first|((fail_if_success (with_reducible refine stk ?_));simp only [WE,Nat.reduceAdd]))
 refine Qbq (z:=.int .i64 0) (b:=8) Tryz.underlying28 (by kernel_rfl) rfl (by decide) rfl rfl rfl ?_
 repeat' (first|((fail_if_success (with_reducible refine stk ?_));simp only [WE,Nat.reduceBEq,Nat.reduceAdd]))
 refine Qbq (z:=.slice none 0 0) (b:=24) Tryz.underlying24 (by kernel_rfl) rfl (by decide) rfl rfl rfl ?_
 repeat' (first|((fail_if_success (with_reducible refine stk ?_));simp only [WE,Nat.reduceBEq,Nat.reduceAdd]))
 refine callE' QbU (R:=fun v x=>∃ t a cp,v=.tuple #[Es.v t (.slice a t.ms.length cp),.int .i64 0]∧t.win=983040) (fun s=>?_) ?_
 ·refine Qjz (Qdc awC (ad:=some ⟨s 8,0,none⟩) (len:=2) (cap:=2) (rs:=tQ s) (hT2.mono fun b o h=>.inl h) (by decide) (fun i hi=>?_)) (fun v x' h=>?_)
  rotate_left
  ·obtain ⟨a,cp,h4,h5⟩:=h
   rw [(QsI s).2] at h4
   exact ⟨_,a,cp,h4,(QsI s).1⟩
  match i,hi with
  | 0,_=>exact ⟨QeA [6,0,5000,0] (.inr ⟨6,_,rfl,rfl,rfl⟩) rfl rfl,_,_,_,_,_,rfl,.inr ⟨8,_,rfl,rfl,rfl⟩,rfl⟩
  | 1,_=>exact ⟨QeA [1,50000,5000,50000] (.inr ⟨7,_,rfl,rfl,rfl⟩) rfl rfl,_,_,_,_,_,rfl,.inr ⟨8,_,rfl,rfl,rfl⟩,rfl⟩
 rintro v x3 x4 ⟨t,a2,c2,rfl,ht⟩ hs1 hs2
 have hT4:TensX x4:=hT2.mono hs1
 replace hn1:=hn1.mono hs1
 clear hs1 hs2
 unfold Es.v Es.cells
 rw [ht]
 have bad:∀ y,TensX y→RetE Tryz.prog y 20 [.agg #[.int .i64 0,.int .i64 0,.int .i64 0,.int .i64 0,.int .i64 0,.int .i64 0,.int .i64 0],.slice none 0 0] (fun v x=>∃ a cp,v=.tuple #[.slice a 0 cp,.int .i64 210]):=fun y hy=>by
  have:=Qa4 (x:=y) ⟨0,0,0,0,0,0,0⟩ (ad:=none) (len:=0) (cap:=0) (rs:=tR fun _=>0) hy (by decide) (fun i hi=>absurd hi (by simp))
  unfold PlayNR at this
  rw [(QsH _).1] at this
  refine ⟨fun w h1 h2=>(this.out w h1 h2).mono ?_⟩
  rintro _ _ ⟨v,x',h3,⟨a,cp,h4,h5⟩,h6⟩
  exact ⟨v,x',h3,⟨a,cp,h4⟩,h6⟩
 have badL:∀ y,TensX y→RetE Tryz.prog y 23 [.agg #[.int .i64 0,.int .i64 0,.int .i64 0,.int .i64 0,.int .i64 0,.int .i64 0,.int .i64 0],.slice none 0 0] (fun v x=>∃ a cp,v=.tuple #[Es.v esZ (.slice a 0 cp),.int .i64 210]):=fun y hy=>by
  have:=Qdc (x:=y) ⟨0,0,0,0,0,0,0⟩ (ad:=none) (len:=0) (cap:=0) (rs:=tR fun _=>0) hy (by decide) (fun i hi=>absurd hi (by simp))
  unfold LastR at this
  rw [(QsH _).2] at this
  refine ⟨fun w h1 h2=>(this.out w h1 h2).mono ?_⟩
  rintro _ _ ⟨v,x',h3,⟨a,cp,h4,h5⟩,h6⟩
  exact ⟨v,x',h3,⟨a,cp,h4⟩,h6⟩
 repeat' (first|((fail_if_success (with_reducible refine stk ?_));simp only [WE,Nat.reduceBEq,Nat.reduceAdd,Nat.reduceEqDiff,Qaj,Qau,QeV]))
 refine callE QaG rfl (bad _ hT4) ?_
 rintro v x5 x6 ⟨a3,c3,rfl⟩ hs1 hs2
 have hT6:TensX x6:=hT4.mono hs1
 replace hn1:=hn1.mono hs1
 clear hs1 hs2
 repeat' (first|((fail_if_success (with_reducible refine stk ?_));simp only [WE,Nat.reduceBEq,QeV]))
 refine callE QbU rfl (badL _ hT6) ?_
 rintro v x7 x8 ⟨a4,c4,rfl⟩ hs1 hs2
 replace hn1:=hn1.mono hs1
 clear hs1 hs2
 unfold Es.v Es.cells
 obtain ⟨b1,d1,T1,f1,rfl,hx1,_,hc1,hd1,_⟩:=Qa8 hn1 (i:=0) (by decide) (e:=⟨0,655360,68719476736,200000,1000000,0⟩) rfl
 obtain ⟨b2,d2,T2,f2,e2,hx2,_,hc2,hd2,_⟩:=Qa8 hn1 (i:=1) (by decide) (e:=⟨200,655360,68719476736,200000,1000000,0⟩) rfl
 obtain ⟨b3,d3,T3,f3,e3,hx3,_,hc3,hd3,_⟩:=Qa8 hn1 (i:=2) (by decide) (e:=⟨0,983040,68719476736,600000,200000,0⟩) rfl
 obtain ⟨b4,d4,T4,f4,e4,hx4,_,hc4,hd4,_⟩:=Qa8 hn1 (i:=3) (by decide) (e:=⟨201,983040,68719476736,600000,200000,0⟩) rfl
 simp only [Option.some.injEq,Addr.mk.injEq,and_true] at e2 e3 e4
 subst e2 e3 e4
 dsimp only at hc1 hd1 hc2 hd2 hc3 hd3 hc4 hd4
 replace hc1:loadX false 1 0 d1=some (.int .i64 0):=hc1
 replace hc2:loadX false 1 6 d2=some (.int .i64 200):=hc2
 replace hd2:loadX false 1 7 d2=some (.int .i64 655360):=hd2
 replace hd3:loadX false 1 13 d3=some (.int .i64 983040):=hd3
 replace hc4:loadX false 1 18 d4=some (.int .i64 201):=hc4
 replace hd4:loadX false 1 19 d4=some (.int .i64 983040):=hd4
 have q4:(((4:Nat):Int) != 4)=false:=rfl
 clear bad badL hd1 hc3
 iterate 4 (all_goals (try (first | (with_reducible refine Qam ⟨by omega,by omega⟩ ?_) | (with_reducible refine Qad hx1 hc1 ?_) | (with_reducible refine Qad hx2 hc2 ?_) | (with_reducible refine Qad hx2 hd2 ?_) | (with_reducible refine Qad hx3 hd3 ?_) | (with_reducible refine Qad hx4 hc4 ?_) | (with_reducible refine Qad hx4 hd4 ?_) | (with_reducible refine Qah (fun _=>?_) (fun _=>?_)) | ((with_reducible show callW _ _ _ (some (20,_)) _ _); refine callP QaG rfl (skip_) ?_) | ((with_reducible show callW _ _ _ (some (23,_)) _ _); refine callP QbU rfl (skip_) ?_) | ((with_reducible show callW _ _ _ (some (44,_)) _ _); refine callP QgG rfl (skip_) ?_) | ((with_reducible show callW _ _ _ (some (45,_)) _ _); refine callP Qdp rfl (skip_) ?_) | ((with_reducible show callW _ _ _ (some (46,_)) _ _); refine callP QgJ rfl (skip_) ?_) | ((fail_if_success (with_reducible refine stk ?_)); simp only [WE,Nat.reduceLeDiff,segX,Nat.reduceBEq,Nat.reduceAdd,Nat.reduceEqDiff,Int.reduceNeg,Int.reduceEq,Int.reduceBEq,Int.reduceLT,Int.reduceLE,Int.reduceBNe,Int.reduceToNat,Nat.reduceMul,Nat.reduceMod,Int.reducePow,reduceIte,ty_3,Qai,Qaq,Qaj,QaF,QaK,Qfa,QaP,QjZ,Qau,QeV,Qav,Tryz.underlying3,Tryz.underlying29,Tryz.underlying30,Qr9,Qh1,q4]))))
 show opsW _ #[_,_,_,_,_,_,_,_,_,_,_,_,_,_,_,_,_,_,_,_,_,_,_,_,_,_,_,_,_,_,_,_,_,_,_,_,_,_,_,_,_,_,_,_,_,_,_,_,_,_,_,_,_,_,_,_,_,_,_,_,_,_,_,_,_,_,_,_,_,_,_,_,_] [_,_,_,_,_,_,_,_,_,_,_,_,_,_,_,_,_,_,_,_,_,_,_,_,_,_,_,_,_,_,_,_,_,_,_,_,_,_,_,_,_,_,_,_,_,_,_,_,_,_,_,_,_,_,_,_,_,_,_,_,_,_,_,_,_,_,_,_,_,_,_,_,_] _ _ _
 repeat' (first|(with_reducible refine Qam ⟨by omega,by omega⟩ ?_)|(with_reducible refine Qad hx1 hc1 ?_)|(with_reducible refine Qad hx2 hc2 ?_)|(with_reducible refine Qad hx2 hd2 ?_)|(with_reducible refine Qad hx3 hd3 ?_)|(with_reducible refine Qad hx4 hc4 ?_)|(with_reducible refine Qad hx4 hd4 ?_)|((fail_if_success (with_reducible refine stk ?_));simp only [WE,Nat.reduceBEq,Nat.reduceAdd,Int.reduceToNat,Nat.reduceMul,ty_3,Qaq,QaF,QaK,Qfa,QaP]))
 have hw2:wins tN=[655360,983040]:=rfl
 have hW:=Qej (cap:=c1) (l:=tN) (by decide) rfl hn1
 unfold WinR at hW
 rw [hw2] at hW
 refine callE Qdp rfl hW ?_
 rintro v x9 x10 ⟨a5,c5,rfl,hw⟩ hs1 hs2
 replace hn1:=hn1.mono hs1
 replace hw:=hw.mono hs2
 clear hs1 hs2 hx1 hx2 hx3 hx4 hW
 repeat' (first|((fail_if_success (with_reducible refine stk ?_));simp only [WE,Nat.reduceBEq,Nat.reduceAdd]))
 refine Qbq (z:=.int .i64 0) (b:=8) Tryz.underlying28 (by kernel_rfl) rfl (by decide) rfl rfl rfl ?_
 repeat' (first|((fail_if_success (with_reducible refine stk ?_));simp only [WE,Nat.reduceBEq,Nat.reduceAdd]))
 refine callO QgG (fun s=>QhX (l:=[655360,983040]) (n:=2) (c1:=c5) (c2:=2) rfl (by decide) (hw.mono fun b o h=>.inl h) ⟨rfl,.inr ⟨s 11,_,_,_,rfl,.inr ⟨11,_,rfl,rfl,rfl⟩,rfl,by decide,rfl⟩⟩) ?_
 have hG:=fun (y:Nat→Obj→Prop) (hy:RowAt y (some ⟨b1,0,none⟩) 6 4 c1 (ntVals tN))=>QhY (cap:=c1) (l:=tN) (by decide) rfl hy
 rw [hw2] at hG
 replace hG:∀ y,RowAt y (some ⟨b1,0,none⟩) 6 4 c1 (ntVals tN)→PureC Tryz.prog y 46 [.slice (some ⟨b1,0,none⟩) 4 c1] (.int .i64 2):=hG
 repeat' (first|((fail_if_success (with_reducible refine stk ?_));simp only [WE,Nat.reduceBEq]))
 refine callO QgJ (fun s=>hG _ (hn1.mono fun b o h=>.inl h)) ?_
 repeat' (first|((fail_if_success (with_reducible refine stk ?_));simp only [WE,Nat.reduceBEq,Qr9]))
theorem QB1 (s:Es) (r:Raw):(playStep s r).1.cf=s.cf:=by
 unfold playStep
 split
 ·by_cases h0:(esDo s (rawEv r).1).2=0
  ·exact (Qgg h0).2.2.1
  ·rw [Qgf h0]
 ·rfl
theorem Qjm (s:Es) (rs:Nat→Raw):∀ i,(playUp s rs i).1.cf=s.cf
 | 0=>rfl
 | i+1=>(QB1 _ _).trans (Qjm s rs i)
theorem QmX {c:Cf} (h:c.ok=true):(esNew c).1.cf=c:=by unfold esNew; rw [h]; rfl
theorem Qrg (s:Es) (rs:Nat→Raw):∀ {n i:Nat},i < n→(playUp s rs n).2[i]? = some (playStep (playUp s rs i).1 (rs i))
 | n+1,i,h=>by
  have hl:=QcZ s rs n
  show ((playUp s rs n).2 ++ [playStep (playUp s rs n).1 (rs n)])[i]? = _
  by_cases e:i=n
  ·subst e
   rw [List.getElem?_append_right (by omega),hl,Nat.sub_self]; rfl
  ·rw [List.getElem?_append_left (by omega)]
   exact Qrg s rs (by omega)
theorem Qfo {c:Cf} {rs:Nat→Raw} {n i:Nat} (h:c.ok=true) (hi:i < n):(plNotes c rs n).1[i]? = some (noteOf (playStep (playUp (esNew c).1 rs i).1 (rs i))):=by
 unfold plNotes
 rw [if_pos h]
 simp only [List.getElem?_map,Qrg _ rs hi,Option.map_some]
theorem Qfi {s:Es} (h:EsOk s):esLook s=⟨0,s.win,s.thr,esRate s,esRto s,esPhase s⟩:=by unfold esLook; rw [(Qcj s).2 h]; rfl
theorem QBZ (s:Es):0≤esPhase s∧esPhase s≤3:=by
 unfold esPhase; simp only [Bool.cond_eq_ite]; (repeat' split) <;> omega
theorem QCq (w s:Int) (r:Rtt) (b:Bool):1≤rateOf w s r b:=by unfold rateOf mx; split <;> omega
theorem QBD {c:Cf} {rs:Nat→Raw} {n i:Nat} {e:Nt} (h:c.ok=true) (hi:i < n) (he:(plNotes c rs n).1[i]? = some e) :
  131072≤e.win∧e.win≤c.max * 65536∧131072≤e.thr∧1≤e.rate∧c.least≤e.rto∧e.rto≤c.great∧0≤e.part∧e.part≤3:=by
 rw [Qfo h hi] at he
 obtain rfl:=Option.some.inj he
 have hP:=(PIn.up (PIn.new h) rs (i+1)).ok
 have hcf:(playUp (esNew c).1 rs (i+1)).1.cf=c:=(Qjm _ _ _).trans (QmX h)
 have e1:(playUp (esNew c).1 rs (i+1)).1=(playStep (playUp (esNew c).1 rs i).1 (rs i)).1:=rfl
 unfold noteOf
 rw [←e1]
 generalize (playUp (esNew c).1 rs (i+1)).1=s at *
 rw [Qfi hP]
 dsimp only
 have hc:=(c.ok_iff).1 h
 obtain ⟨_,_,_,_,he1,hf1,_⟩:=hc
 have h1:=QE1 (r:=s.rtt) (c:=s.cf.g) (t:=s.back) (by rw [hcf]; show 1≤c.great; omega) (by rw [hcf]; show c.great≤_; omega)
 have h2:=Qsk s.rtt s.cf.g s.back
 have h3:=hP.win
 rw [hcf] at h3 h1 h2
 have h4:c.g.great=c.great:=rfl
 have h5:=QBZ s
 refine ⟨h3.1,h3.2,hP.thr.1,QCq _ _ _ _,?_,?_,h5.1,h5.2⟩
 ·unfold esRto
  rw [hcf]
  refine Int.le_trans ?_ h2
  have k1:wn c.least=c.least:=Qho (by omega) (by omega)
  have k2:wn c.great=c.great:=Qho (by omega) (by omega)
  refine QiW ?_ ?_
  ·show c.least≤mx _ (wn c.least)
   rw [k1]
   unfold mx; split <;> omega
  ·show c.least≤wn c.great
   rw [k2]; omega
 ·unfold esRto
  rw [hcf]; exact h1.2
theorem Qea {x:Nat→Obj→Prop} {v:Value} (h:Shv x (.v 1 (.v 1 (.i .i64))) v):∃ a len cap rs,v=.slice a len cap∧len≤cap∧cap≤maxLen∧Raws x a len rs:=by
 obtain ⟨a,len,cap,rfl,h1,h2,h3⟩:=h
 have h4:∀ i,∃ r:Raw,i < len→Ints x r.a r.len r.zs∧∃ b off c T f,a=some ⟨b,off,none⟩∧x b (.cells c T f)∧loadX false 1 (off+(i:Int).toNat * 1) c=some (.slice r.a r.len r.cap):=fun i=>by
  by_cases hi:i < len
  ·obtain ⟨ds,hl,hsh,hj⟩:=h3 i hi
   obtain ⟨a',len',cap',hds,h1',h2',h3'⟩:=hsh
   have hs:Shv x (.v 1 (.i .i64)) (.slice a' len' cap'):=⟨a',len',cap',rfl,h1',h2',h3'⟩
   obtain ⟨a2,len2,cap2,e,_,_,zs,hz⟩:=QFE hs
   cases e
   obtain ⟨b,off,c,T,f,q1,q2,q3⟩:=hj 0 (by decide)
   refine ⟨⟨a',len',cap',zs⟩,fun _=>⟨hz,b,off,c,T,f,q1,q2,?_⟩⟩
   rw [hds] at q3
   simpa [loadX] using q3
  ·exact ⟨⟨none,0,0,fun _=>0⟩,fun h=>absurd h hi⟩
 exact ⟨a,len,cap,fun i=>Classical.choose (h4 i),rfl,h1,h2,fun i hi=>Classical.choose_spec (h4 i) hi⟩
theorem Qdi {rs:Nat→Raw} {len:Nat} {m:Int} (h:fewB rs len m=true):(len:Int)≤m:=by
 unfold fewB at h
 simp only [Bool.and_eq_true,decide_eq_true_eq] at h
 exact h.2
theorem Qd9 {x:Nat→Obj→Prop} {v:Value} (h:Shv x (.r (.cons 1 (.i .i64) (.cons 1 (.i .i64) (.cons 1 (.i .i64) (.cons 1 (.i .i64) (.cons 1 (.i .i64) (.cons 1 (.i .i64) (.cons 1 (.i .i64) (.nil))))))))) v):∃ c:Cf,v=c.v∧in64 c.max∧in64 c.least∧in64 c.great:=by
 unfold Shv at h
 obtain ⟨cs,rfl,h⟩:=h
 obtain ⟨c1,q0,e0,w1,g1⟩:=Qd8 h
 obtain ⟨c2,_,rfl,w2,g2⟩:=Qd8 g1
 obtain ⟨c3,_,rfl,w3,g3⟩:=Qd8 g2
 obtain ⟨c4,_,rfl,w4,g4⟩:=Qd8 g3
 obtain ⟨c5,_,rfl,w5,g5⟩:=Qd8 g4
 obtain ⟨c6,_,rfl,w6,g6⟩:=Qd8 g5
 obtain ⟨c7,_,rfl,w7,g7⟩:=Qd8 g6
 have:=QFC g7; subst this
 refine ⟨⟨c1,c2,c3,c4,c5,c6,c7⟩,?_,w2,w5,w6⟩
 obtain ⟨l⟩:=cs
 have e:l=_:=e0
 subst e
 rfl
end Go.Proofs.YtkokohkbhlnjkaaGreatDoor
