/- The framework and the contracts of the program's functions, part 2: what each answers. Conditions: those that each names. -/
import Derived.Test.YtkokohkbhlnjkaaGreatDoorMa1
import Derived.Laws.StructEq
import Derived.Laws.BitsLemmas
import Derived.OrdersHeld
import Derived.Deep.RegionHeld3
import Derived.Laws.MakeOwn
import Derived.Great.BuildSlice
import Derived.ScopeJumps
import Derived.Test.YtkokohkbhlnjkaaGreatDoorProg
namespace Go.Proofs.YtkokohkbhlnjkaaGreatDoor
set_option linter.unusedVariables false
set_option linter.unusedSimpArgs false
open Go Go.RowKit
namespace R
def mkT:Nat→List RV→List (Nat×RV)
 | _,[]=>[]
 | i,v :: r=>(i,v) :: mkT (i+1) r
theorem Qpl:∀ (l:List RV) (i j:Nat) (v:RV),lk (mkT i l) j=some v→i≤j∧l[j - i]? = some v
 | [],i,j,v,h=>by simp [mkT,lk] at h
 | u :: r,i,j,v,h=>by
  simp only [mkT,Qa7] at h
  split at h
  ·rename_i e
   simp only [Option.some.injEq] at h
   subst h; subst e
   exact ⟨Nat.le_refl _,by simp⟩
  ·rename_i e
   obtain ⟨h1,h2⟩:=Qpl r (i+1) j v h
   refine ⟨by omega,?_⟩
   rw [show j - i=(j - (i+1))+1 by omega]
   simpa using h2
def res1 (P:Program) (S:St) (r:ResultVar) (K:RV→Prop):Prop:=
 match r with
 | .tmp t=>bindV (lk S.t t) K
 | .cell a T=>bindV (lk S.t a) fun v=>bindV (tyS P T) fun z=>match v with
  | .ptr k off=>bindV (nthX S.m k) fun o=>cellW o fun _ c=>loadR z.1 z.2 off c K
  | _=>False
def resL (P:Program) (S:St):List ResultVar→(List RV→Prop)→Prop
 | [],K=>K []
 | r :: rs,K=>res1 P S r fun v=>resL P S rs fun vs=>K (v :: vs)
@[congr] theorem res1_congr {P:Program} {S S':St} {r:ResultVar} {K:RV→Prop} (h:hold S=S'):res1 P S r K=res1 P S' r K:=by rw [←h]; rfl
@[congr] theorem resL_congr {P:Program} {S S':St} {rs:List ResultVar} {K:List RV→Prop} (h:hold S=S'):resL P S rs K=resL P S' rs K:=by rw [←h]; rfl
def resW (P:Program) (S:St) (rs:List ResultVar) (v:Value):Prop:=
 resL P S rs fun vs=>match vs with
  | [.ext u]=>u=v
  | vs=>∃ us,toExts vs=some us∧us.length≠1∧Value.tuple us.toArray=v
section
variable {P:Program} {s:Nat→Nat} {S:St} {a:Act} {w:WM}
def rvar (tmps:Array Value):ResultVar→Sem Value
 | .tmp t=>pure (tmps.getD t undef)
 | .cell a t=>do loadVar t (←asAddr (tmps.getD a undef))
def RunE {α:Type} (P:Program) (w:WM) (m:Sem α) (v:α):Prop:=m.run P w.w=.ok v w.w∧EvIn w (m.events P w.w #[])
theorem RunE.bind {α β:Type} {x:Sem α} {f:α→Sem β} {v:α} {u:β} (h:RunE P w x v) (k:RunE P w (f v) u):RunE P w (x >>= f) u:=by
 refine ⟨by rw [Sem.run_bind,h.1]; exact k.1,?_⟩
 rw [Sem.events_bind,h.1]
 simp only [Result.evThen_ok]
 rw [Sem.events_acc]
 intro e he
 rcases Array.mem_append.1 he with he | he
 ·exact h.2 e he
 ·exact k.2 e he
theorem RunE.pure {α:Type} (v:α):RunE P w (Pure.pure v:Sem α) v:=⟨rfl,.nil w⟩
theorem QCH (hs:Sl s S a) (hm:Mem s S.m S.x w) {r:ResultVar} {K:RV→Prop} (h:res1 P S r K):∃ v,RunE P w (rvar a.tmps r) (ren s v)∧clo S.m.length v=true∧K v:=by
 cases r with
 | tmp t=>
  obtain ⟨v,hv,h⟩:=Qak h
  exact ⟨v,by simp only [rvar,(hs t v hv).1]; exact .pure _,(hs t v hv).2,h⟩
 | cell x T=>
  obtain ⟨v,hx,h⟩:=Qak h
  obtain ⟨z,hty,h⟩:=Qak h
  obtain ⟨g,n⟩:=z
  cases v with
  | ptr k off=>
   simp only at h
   obtain ⟨ob,hmk,h⟩:=Qak h
   rw [Qay] at hmk
   cases ob with
   | cells T' c=>
    obtain ⟨v,h1,h2,h3⟩:=Qps hm hmk hty h
    refine ⟨v,?_,h1,h2⟩
    have e1:=(hs x _ hx).1
    simp only [ren] at e1
    have:=h3 s w hm
    simp only [Instr.loadAt,Instr.sureAddr,pure_bind] at this
    simp only [rvar,e1,asAddr,pure_bind]
    exact this
   | obj _=>exact h.elim
  | _=>exact h.elim
theorem QrJ (hs:Sl s S a) (hm:Mem s S.m S.x w):∀ {rs:List ResultVar} {K:List RV→Prop},resL P S rs K →
  ∃ vs,RunE P w (rs.mapM (rvar a.tmps)) (vs.map (ren s))∧(∀ v∈vs,clo S.m.length v=true)∧K vs
 | [],K,h=>⟨[],by rw [List.mapM_nil]; exact .pure _,by simp,h⟩
 | r :: rs,K,h=>by
  obtain ⟨v,h1,h2,h3⟩:=QCH hs hm h
  obtain ⟨vs,g1,g2,g3⟩:=QrJ hs hm h3
  exact ⟨v :: vs,by rw [List.mapM_cons]; exact h1.bind (g1.bind (.pure _)),by simpa using ⟨h2,g2⟩,g3⟩
theorem Qc0 {fn:Func} (hs:Sl s S a) (hm:Mem s S.m S.x w) {K:List RV→Prop} (h:resL P S fn.results.toList K) :
  ∃ vs,RunE P w (results fn a.tmps) (if hv:vs.length=1 then ren s (vs[0]'(by omega)) else .tuple (vs.map (ren s)).toArray)∧(∀ v∈vs,clo S.m.length v=true)∧K vs:=by
 obtain ⟨vs,h1,h2,h3⟩:=QrJ hs hm h
 refine ⟨vs,?_,h2,h3⟩
 have e:results fn a.tmps=(do let vs ←fn.results.mapM (rvar a.tmps); pure (if h:vs.size=1 then vs[0] else .tuple vs)):=by
  unfold results
  congr 2
 rw [e,Array.mapM_eq_mapM_toList]
 have h4:RunE P w (List.toArray <$> fn.results.toList.mapM (rvar a.tmps)) (vs.map (ren s)).toArray:=⟨by rw [Sem.run_map,h1.1]; rfl,by rw [Sem.events_map]; exact h1.2⟩
 have h5:(if hv:vs.length=1 then ren s (vs[0]'(by omega)) else .tuple (vs.map (ren s)).toArray)=(if h:(vs.map (ren s)).toArray.size=1 then (vs.map (ren s)).toArray[0] else .tuple (vs.map (ren s)).toArray):=by
  by_cases hv:vs.length=1
  ·simp [hv]
  ·simp [hv]
 rw [h5]
 exact h4.bind (.pure _)
theorem Qd6 {fn:Func} (hs:Sl s S a) (hm:Mem s S.m S.x w) {v:Value} (h:resW P S fn.results.toList v):RunE P w (results fn a.tmps) v:=by
 obtain ⟨vs,h1,_,h3⟩:=Qc0 hs hm h
 have h4:(if hv:vs.length=1 then ren s (vs[0]'(by omega)) else .tuple (vs.map (ren s)).toArray)=v:=by
  split at h3
  ·subst h3; simp [ren]
  ·obtain ⟨us,hu,hl,rfl⟩:=h3
   have:=Qa9 hu
   subst this
   rw [dif_neg (by simpa using hl),Qax]
 rw [h4] at h1
 exact h1
end
theorem Qcv {w:WM} {n:Nat} {args:List RV} {s:Nat→Nat} {m:List RO} {x:Nat→Obj→Prop} {bs:List Nat} (hn:args.length≤n)
  (hm:Mem s m x w) (hb:Own bs w.heap.size s m.length) (hc:∀ v∈args,clo m.length v=true) :
  Rep bs w n [] s { t:=mkT 0 args,m,x } { tmps:=(args.map (ren s)).toArray ++ Array.replicate (n - (args.map (ren s)).toArray.size) undef,defers:=[] } w:=by
 refine ⟨hm,hb,Fr.refl _ _,by simp; omega,?_,rfl⟩
 intro i v hi
 obtain ⟨_,h2⟩:=Qpl args 0 i v hi
 simp only [Nat.sub_zero] at h2
 refine ⟨?_,hc v (List.mem_of_getElem? h2)⟩
 obtain ⟨hlt,rfl⟩:=List.getElem?_eq_some_iff.1 h2
 simp [Array.getD_eq_getD_getElem?,Array.getElem?_append,hlt]
theorem Qci {P:Program} {f:FuncId} {fn:Func} {c:Code} {args:List RV} {w:WM} {R:Ending→WM→Prop} {s:Nat→Nat} {m:List RO} {x:Nat→Obj→Prop} {bs:List Nat}
  {Q:Exit→St→Prop} (hf:P.funcs[f]? = some fn) (hb:fn.body=some c) (hn:args.length≤fn.ntmps) (hm:Mem s m x w) (hbs:Own bs w.heap.size s m.length) (hc:∀ v∈args,clo m.length v=true)
  (h:Sd P ⟨bs,w,fn.ntmps,[]⟩ c Q { t:=mkT 0 args,m,x })
  (hq:∀ e s S a w',Rep bs w fn.ntmps [] s S a w'→Q e S→bodyPost P fn R e a w'):Calls P f (args.map (ren s)).toArray w R:=
 Qf7 hf hb ((h s _ w (Qcv hn hm hbs hc)).mono fun e a w' ⟨s,S,h1,h2⟩=>hq e s S a w' h1 h2).any
def Back (P:Program) (fn:Func) (v:Value):Exit→St→Prop
 | .normal,S=>resW P S fn.results.toList v
 | .ret,S=>resW P S fn.results.toList v
 | _,_=>False
theorem Qab {P:Program} {x:Nat→Obj→Prop} {f:FuncId} {fn:Func} {c:Code} {args:List Value} {v:Value} (hf:P.funcs[f]? = some fn) (hb:fn.body=some c) (hn:Nat.ble args.length fn.ntmps=true)
  (h:∀ w,Sd P ⟨[],w,fn.ntmps,[]⟩ c (Back P fn v) { t:=mkT 0 (args.map .ext),m:=[],x }):PureC P x f args v:=by
 refine ⟨fun w hx hwf=>?_⟩
 have:=Qci (s:=fun _=>0) (args:=args.map .ext) (R:=fun e w'=>e=.returned v∧Fr [] w w'∧NewOk w') (bs:=[]) (m:=[]) (x:=x) hf hb (by simpa using Nat.le_of_ble_eq_true hn)
  ⟨fun k o hk=>by simp at hk,fun j k hj=>by simp at hj,fun k o hk=>by simp at hk,fun b o hb=>(hx b o hb).1,fun b o _ k hk=>by simp at hk,fun k hk=>by simp at hk,fun b o hb=>(hx b o hb).2,hwf⟩ (.none fun k hk=>by simp at hk) (by simp [clo]) (h w) ?_
 ·rwa [Qax] at this
 ·intro e s S a w' hr hq
  have hres:resW P S fn.results.toList v→a.defers=[]∧∀ w1,Rely w' w1→∃ u,(results fn a.tmps).run P w1.w=.ok u w1.w∧EvIn w1 ((results fn a.tmps).events P w1.w #[])∧(Ending.returned u=.returned v∧Fr [] w w1∧NewOk w1):=fun h=>
   ⟨hr.df,fun w1 hrel=>by
    have hr1:=hr.rely hrel
    have:=Qd6 (fn:=fn) hr1.sl hr1.mr h
    exact ⟨v,this.1,this.2,rfl,hr1.fr,hr1.mr.new⟩⟩
  cases e with
  | normal=>exact hres hq
  | ret=>exact hres hq
  | _=>exact hq.elim
section
variable {P:Program} {K:Value→Prop}
theorem QaD {m:Sem Value} {v:Value} (h:Yields P m v):pureW P m K=K v:=by
 apply propext
 constructor
 ·rintro ⟨u,hu,hk⟩
  have:=(hu default).1.symm.trans (h default).1
  simp only [Result.ok.injEq,and_true] at this
  exact this▸hk
 ·exact fun hk=>⟨v,h,hk⟩
theorem Qbs (op:BinOp) (t:TypeId) (x y:Operand) (k j:IntKind) (a b:Int) (w:World):(eqGuard op t x y (.int k a) (.int j b)).run P w=.ok () w:=by
 unfold eqGuard; cases op <;> rfl
theorem Qbt (op:BinOp) (t:TypeId) (x y:Operand) (k j:IntKind) (a b:Int) (w:World) (es:Array Event):(eqGuard op t x y (.int k a) (.int j b)).events P w es=es:=by
 unfold eqGuard; cases op <;> rfl
theorem Qug {T:TypeId} {x y:Operand} {k:IntKind} {a b:Int}:pureW P (do eqGuard .add T x y (.int k a) (.int k b); binOp .add T (.int k a) (.int k b)) K=K (.int k (k.wrap (a+b))):=by
 refine QaD fun w=>?_
 rw [Sem.run_bind,Sem.events_bind,Qbs,Qbt]
 constructor <;> simp [binOp,Op.intArith]
theorem Quv {T:TypeId} {x y:Operand} {k:IntKind} {a b:Int}:pureW P (do eqGuard .sub T x y (.int k a) (.int k b); binOp .sub T (.int k a) (.int k b)) K=K (.int k (k.wrap (a - b))):=by
 refine QaD fun w=>?_
 rw [Sem.run_bind,Sem.events_bind,Qbs,Qbt]
 constructor <;> simp [binOp,Op.intArith]
theorem Qup {T:TypeId} {x y:Operand} {k:IntKind} {a b:Int}:pureW P (do eqGuard .mul T x y (.int k a) (.int k b); binOp .mul T (.int k a) (.int k b)) K=K (.int k (k.wrap (a * b))):=by
 refine QaD fun w=>?_
 rw [Sem.run_bind,Sem.events_bind,Qbs,Qbt]
 constructor <;> simp [binOp,Op.intArith]
theorem Qur {T:TypeId} {x y:Operand} {k:IntKind} {a b:Int} (hb:b≠0):pureW P (do eqGuard .quo T x y (.int k a) (.int k b); binOp .quo T (.int k a) (.int k b)) K=K (.int k (k.wrap (a.tdiv b))):=by
 refine QaD fun w=>?_
 rw [Sem.run_bind,Sem.events_bind,Qbs,Qbt]
 constructor <;> simp [binOp,Op.intDiv,hb]
theorem Qus {T:TypeId} {x y:Operand} {k:IntKind} {a b:Int} (hb:b≠0):pureW P (do eqGuard .rem T x y (.int k a) (.int k b); binOp .rem T (.int k a) (.int k b)) K=K (.int k (a.tmod b)):=by
 refine QaD fun w=>?_
 rw [Sem.run_bind,Sem.events_bind,Qbs,Qbt]
 constructor <;> simp [binOp,Op.intDiv,hb]
theorem Quh {T:TypeId} {x y:Operand} {k:IntKind} {a b:Int}:pureW P (do eqGuard .and T x y (.int k a) (.int k b); binOp .and T (.int k a) (.int k b)) K=K (.int k (bits .and k a b)):=by
 refine QaD fun w=>?_
 rw [Sem.run_bind,Sem.events_bind,Qbs,Qbt]
 simp only [binOp_and,intBits_and]
 constructor <;> simp
theorem QzS {T:TypeId} {s:ByteArray} {ik:IntKind} {j:Int} (hT:P.underlying T=some .string) (u:UInt8) (h0:0≤j) (h1:s[j.toNat]? = some u):pureW P (Instr.index T (.string s) (.int ik j)) K=K (.int .u8 u.toNat):=by
 refine QaD fun w=>?_
 constructor <;> simp [Instr.index,asIntOf,run_underlying hT,h0,h1]
theorem Quk {T:TypeId} {x y:Operand} {k:IntKind} {a b:Int}:pureW P (do eqGuard .eql T x y (.int k a) (.int k b); binOp .eql T (.int k a) (.int k b)) K=K (.bool (a == b)):=by
 refine QaD fun w=>?_
 rw [Sem.run_bind,Sem.events_bind,Qbs,Qbt]
 constructor <;> simp [binOp,Op.intCmp]
theorem Quq {T:TypeId} {x y:Operand} {k:IntKind} {a b:Int}:pureW P (do eqGuard .neq T x y (.int k a) (.int k b); binOp .neq T (.int k a) (.int k b)) K=K (.bool (a != b)):=by
 refine QaD fun w=>?_
 rw [Sem.run_bind,Sem.events_bind,Qbs,Qbt]
 constructor <;> simp [binOp,Op.intCmp]
theorem Quo {T:TypeId} {x y:Operand} {k:IntKind} {a b:Int}:pureW P (do eqGuard .lss T x y (.int k a) (.int k b); binOp .lss T (.int k a) (.int k b)) K=K (.bool (decide (a < b))):=by
 refine QaD fun w=>?_
 rw [Sem.run_bind,Sem.events_bind,Qbs,Qbt]
 constructor <;> simp [binOp,Op.intCmp]
theorem Qun {T:TypeId} {x y:Operand} {k:IntKind} {a b:Int}:pureW P (do eqGuard .leq T x y (.int k a) (.int k b); binOp .leq T (.int k a) (.int k b)) K=K (.bool (decide (a≤b))):=by
 refine QaD fun w=>?_
 rw [Sem.run_bind,Sem.events_bind,Qbs,Qbt]
 constructor <;> simp [binOp,Op.intCmp]
theorem Qum {T:TypeId} {x y:Operand} {k:IntKind} {a b:Int}:pureW P (do eqGuard .gtr T x y (.int k a) (.int k b); binOp .gtr T (.int k a) (.int k b)) K=K (.bool (decide (b < a))):=by
 refine QaD fun w=>?_
 rw [Sem.run_bind,Sem.events_bind,Qbs,Qbt]
 constructor <;> simp [binOp,Op.intCmp]
theorem Qul {T:TypeId} {x y:Operand} {k:IntKind} {a b:Int}:pureW P (do eqGuard .geq T x y (.int k a) (.int k b); binOp .geq T (.int k a) (.int k b)) K=K (.bool (decide (b≤a))):=by
 refine QaD fun w=>?_
 rw [Sem.run_bind,Sem.events_bind,Qbs,Qbt]
 constructor <;> simp [binOp,Op.intCmp]
theorem Qut {T:TypeId} {x y:Operand} {k j:IntKind} {a b:Int} (hb:0≤b):pureW P (do eqGuard .shl T x y (.int k a) (.int j b); binOp .shl T (.int k a) (.int j b)) K=K (.int k (k.wrap (a * 2 ^ (min b.toNat k.bits)))):=by
 refine QaD fun w=>?_
 rw [Sem.run_bind,Sem.events_bind,Qbs,Qbt]
 constructor <;> simp [binOp,Op.shift,show ¬ b < 0 by omega]
theorem Quu {T:TypeId} {x y:Operand} {k j:IntKind} {a b:Int} (hb:0≤b):pureW P (do eqGuard .shr T x y (.int k a) (.int j b); binOp .shr T (.int k a) (.int j b)) K=K (.int k (a.fdiv (2 ^ (min b.toNat k.bits)))):=by
 refine QaD fun w=>?_
 rw [Sem.run_bind,Sem.events_bind,Qbs,Qbt]
 constructor <;> simp [binOp,Op.shift,show ¬ b < 0 by omega]
theorem Qui {T:TypeId} {x y:Operand} {a b:Bool} (hT:P.underlying T=some .bool):pureW P (do eqGuard .eql T x y (.bool a) (.bool b); binOp .eql T (.bool a) (.bool b)) K=K (.bool (a == b)):=by
 refine QaD fun w=>?_
 have:=run_equalIn_bool (P:=P) w 9999 T a b hT
 have h2:=fun es=>Qii (P:=P) w 9999 T a b es hT
 constructor <;> simp [eqGuard,binOp,Op.equal,Op.maxDepth,this,h2]
theorem Quj {T:TypeId} {x y:Operand} {a b:Bool} (hT:P.underlying T=some .bool):pureW P (do eqGuard .neq T x y (.bool a) (.bool b); binOp .neq T (.bool a) (.bool b)) K=K (.bool (!(a == b))):=by
 refine QaD fun w=>?_
 have:=run_equalIn_bool (P:=P) w 9999 T a b hT
 have h2:=fun es=>Qii (P:=P) w 9999 T a b es hT
 constructor <;> simp [eqGuard,binOp,Op.equal,Op.maxDepth,this,h2]
theorem Qs4 {b:Bool}:pureW P (Op.unary .not (.bool b)) K=K (.bool (!b)):=QaD fun _=>⟨rfl,rfl⟩
theorem QGd {k:IntKind} {a:Int}:pureW P (Op.unary .neg (.int k a)) K=K (.int k (k.wrap (0 - a))):=QaD fun _=>⟨rfl,rfl⟩
theorem QwB {t u:TypeId} {k j l:IntKind} {a:Int} (ht:P.underlying t=some (.int l)) (hu:P.underlying u=some (.int j)):pureW P (Go.convert t u (.int k a)) K=K (.int j (j.wrap a)):=by
 refine QaD fun w=>?_
 constructor <;> simp [Go.convert,run_underlying ht,run_underlying hu,Conv.intToInt]
theorem Qnm {vs:Array Value} {i:Nat} {v:Value} (h:vs[i]? = some v):pureW P (Instr.extract (.tuple vs) i) K=K v:=by
 refine QaD fun w=>?_
 constructor <;> simp [Instr.extract,h]
end
theorem QeW {P:Program} {K:Value→Prop} {m:Sem Next} {v:Value} (h:Yields P m (.value v)):builtW P m K=K v:=by
 apply propext
 constructor
 ·rintro ⟨u,hu,hk⟩
  have:=(hu default).1.symm.trans (h default).1
  simp only [Result.ok.injEq,and_true,Next.value.injEq] at this
  exact this▸hk
 ·exact fun hk=>⟨v,h,hk⟩
def mx (a b:Int):Int:=if a < b then b else a
def mn (a b:Int):Int:=if b < a then b else a
section
variable {P:Program} {ts:Array TypeId} {t:TypeId} {k:IntKind} {cs:Array Bool} {K:Value→Prop}
theorem QkX {a b:Int}:builtW P (builtin .max ts t cs #[.int k a,.int k b]) K=K (.int k (mx a b)):=
 QeW fun w=>by constructor <;> simp [builtin,Builtin.max_,Builtin.max2,mx]
theorem QkY {a b:Int}:builtW P (builtin .min ts t cs #[.int k a,.int k b]) K=K (.int k (mn a b)):=
 QeW fun w=>by constructor <;> simp [builtin,Builtin.min_,Builtin.min2,mn]
theorem Qda {a:Option Addr} {n c:Nat} {T E:TypeId} (hT:P.underlying T=some (.slice E)):builtW P (builtin .len #[T] t cs #[.slice a n c]) K=K (.int .i64 n):=
 QeW fun w=>by constructor <;> simp [builtin,Builtin.len_,run_underlying hT,goInt]
theorem QkW {s:ByteArray} {T:TypeId} (hT:P.underlying T=some .string):builtW P (builtin .len #[T] t cs #[.string s]) K=K (.int .i64 s.size):=
 QeW fun w=>by constructor <;> simp [builtin,Builtin.len_,run_underlying hT,goInt]
end
end R
set_option linter.unusedVariables false
set_option linter.unusedSimpArgs false
open Go Go.RowKit
namespace R
section
variable {P:Program} {G:Ctx} {Q:Exit→St→Prop} {S:St} {K:RV→St→Prop} {Pn:Value→St→Prop} {q:Bool} {d:Option Nat} {ty:TypeId} {pos:String} {af:Array Edge} {gd:Option (Nat×Bool)} {ops:Array Oper} {r:List Oper} {KS:St→Prop}
theorem Qlq:cW P G .skip Q S=Q .normal S:=propext ⟨fun h=>h,fun h=>h⟩
theorem Qlk {l:Nat}:cW P G (.label l) Q S=Q .normal S:=propext ⟨fun h=>h,fun h=>h⟩
theorem Qli {i:Nat}:cW P G (.exit i) Q S=Q (.exit i) S:=propext ⟨fun h=>h,fun h=>h⟩
theorem Qlj {i:Nat}:cW P G (.goto i) Q S=Q (.goto i) S:=propext ⟨fun h=>h,fun h=>h⟩
theorem Qln:cW P G .ret Q S=Q .ret S:=propext ⟨fun h=>h,fun h=>h⟩
theorem Qlp {a b:Code}:cW P G (.seq a b) Q S=cW P G a (thenW (cW P G b Q) Q) S:=propext ⟨fun h=>h,fun h=>h⟩
theorem Qmk {t:Bool} {A B:Prop}:condW (.bool t) A B=ifB t fun t=>bif t then A else B:=propext ⟨fun h=>h,fun h=>h⟩
theorem Qlh {c:Operand} {a b:Code}:cW P G (.cond c a b) Q S=getX S c fun v=>condW v (cW P G a Q S) (cW P G b Q S):=propext ⟨fun h=>h,fun h=>h⟩
theorem Qlg {i:Nat} {c:Code}:cW P G (.block i c) Q S=cW P G c (inBlockW i Q) S:=propext ⟨fun h=>h,fun h=>h⟩
theorem Qlo {c:Code}:cW P G (.scope c) Q S=cW P G c (noGotoW Q) S:=propext ⟨fun h=>h,fun h=>h⟩
def panW (Q:Exit→St→Prop) (u:Value) (S:St):Prop:=Q (.panic [{ v:=u,recovered:=false }]) S
theorem Qll {i:Nat} {l:List Oper}:cW P G (.region i l.toArray false) Q S=opsW P l.toArray l S (Q .normal) (panW Q):=propext ⟨fun h=>h,fun h=>h⟩
theorem QsT {K:St→Prop}:thenW K Q .normal S=K S:=propext ⟨fun h=>h,fun h=>h⟩
theorem QsV {K:St→Prop}:thenW K Q .ret S=Q .ret S:=propext ⟨fun h=>h,fun h=>h⟩
theorem QsR {K:St→Prop} {i:Nat}:thenW K Q (.exit i) S=Q (.exit i) S:=propext ⟨fun h=>h,fun h=>h⟩
theorem QsS {K:St→Prop} {i:Nat}:thenW K Q (.goto i) S=Q (.goto i) S:=propext ⟨fun h=>h,fun h=>h⟩
theorem QsU {K:St→Prop} {c:List PanicEntry}:thenW K Q (.panic c) S=Q (.panic c) S:=propext ⟨fun h=>h,fun h=>h⟩
@[congr] theorem thenW_congr {K:St→Prop} {e:Exit} {S':St} (h:hold S=S'):thenW K Q e S=thenW K Q e S':=by rw [←h]; rfl
theorem Qo2 {i:Nat}:inBlockW i Q .normal S=Q .normal S:=propext ⟨fun h=>h,fun h=>h⟩
theorem Qo4 {i:Nat}:inBlockW i Q .ret S=Q .ret S:=propext ⟨fun h=>h,fun h=>h⟩
theorem Qo0 {i j:Nat}:inBlockW i Q (.exit j) S=if j=i then Q .normal S else Q (.exit j) S:=propext ⟨fun h=>h,fun h=>h⟩
theorem Qo1 {i j:Nat}:inBlockW i Q (.goto j) S=Q (.goto j) S:=propext ⟨fun h=>h,fun h=>h⟩
theorem Qo3 {i:Nat} {c:List PanicEntry}:inBlockW i Q (.panic c) S=Q (.panic c) S:=propext ⟨fun h=>h,fun h=>h⟩
@[congr] theorem inBlockW_congr {i:Nat} {e:Exit} {S':St} (h:hold S=S'):inBlockW i Q e S=inBlockW i Q e S':=by rw [←h]; rfl
theorem Qp3:noGotoW Q .normal S=Q .normal S:=propext ⟨fun h=>h,fun h=>h⟩
theorem Qp5:noGotoW Q .ret S=Q .ret S:=propext ⟨fun h=>h,fun h=>h⟩
theorem Qp2 {i:Nat}:noGotoW Q (.exit i) S=Q (.exit i) S:=propext ⟨fun h=>h,fun h=>h⟩
theorem Qp4 {c:List PanicEntry}:noGotoW Q (.panic c) S=Q (.panic c) S:=propext ⟨fun h=>h,fun h=>h⟩
@[congr] theorem noGotoW_congr {e:Exit} {S':St} (h:hold S=S'):noGotoW Q e S=noGotoW Q e S':=by rw [←h]; rfl
theorem Qq3 {u:Value}:panW Q u S=Q (.panic [{ v:=u,recovered:=false }]) S:=propext ⟨fun h=>h,fun h=>h⟩
theorem QqZ:opsW P ops [] S KS Pn=KS S:=propext ⟨fun h=>h,fun h=>h⟩
theorem Qq0 {op:Op}:opsW P ops (⟨d,op,ty,pos,af,none⟩ :: r) S KS Pn=opW P false S ⟨d,op,ty,pos,af,none⟩ (fun v S'=>opsW P ops r (S'.put d v) KS Pn) Pn:=propext ⟨fun h=>h,fun h=>h⟩
theorem Qq1 {op:Op} {g:Nat×Bool}:opsW P ops (⟨d,op,ty,pos,af,some g⟩ :: r) S KS Pn=bindV (yd S ops g.1) fun y=>gdW y g.2 S
    (fun S=>opW P false S ⟨d,op,ty,pos,af,none⟩ (fun v S'=>opsW P ops r (S'.put d v) KS Pn) Pn)
    (fun S=>opsW P ops r (S.put d (.ext undef)) KS Pn):=propext ⟨fun h=>h,fun h=>h⟩
theorem QoK:headW P ops [] S KS=KS S:=propext ⟨fun h=>h,fun h=>h⟩
theorem QoL {op:Op}:headW P ops (⟨d,op,ty,pos,af,none⟩ :: r) S KS=opW P true S ⟨d,op,ty,pos,af,none⟩ (fun v S'=>headW P ops r (S'.put d v) KS) (fun _ _=>False):=propext ⟨fun h=>h,fun h=>h⟩
theorem QoM {op:Op} {g:Nat×Bool}:headW P ops (⟨d,op,ty,pos,af,some g⟩ :: r) S KS=bindV (yd S ops g.1) fun y=>gdW y g.2 S
    (fun S=>opW P true S ⟨d,op,ty,pos,af,none⟩ (fun v S'=>headW P ops r (S'.put d v) KS) (fun _ _=>False))
    (fun S=>headW P ops r (S.put d (.ext undef)) KS):=propext ⟨fun h=>h,fun h=>h⟩
theorem Qoz {want:Bool} {A B:St→Prop}:gdW .no want S A B=B S:=propext ⟨fun h=>h,fun h=>h⟩
theorem QoA {i:Nat} {b want:Bool} {A B:St→Prop}:gdW (.yes i b) want S A B=ifB b fun b=>bif (b == want) then A (S.put (some i) (.ext (.bool b))) else B (S.put (some i) (.ext (.bool b))):=propext ⟨fun h=>h,fun h=>h⟩
theorem QoJ {x:Operand} {K:RV→Prop}:gv S x K=bindV (evO S x) K:=propext ⟨fun h=>h,fun h=>h⟩
theorem QoB {x:Operand} {K:Value→Prop}:getX S x K=bindV (evO S x) fun v=>exv v K:=propext ⟨fun h=>h,fun h=>h⟩
theorem Qnn {v:Value} {K:Value→Prop}:exv (.ext v) K=K v:=propext ⟨fun h=>h,fun h=>h⟩
theorem QoE {xs:List Operand} {K:List Value→Prop}:getsX S xs K=bindV (getsR S xs) fun rs=>bindV (toExts rs) K:=propext ⟨fun h=>h,fun h=>h⟩
theorem bind_some {α:Type} {v:α} {K:α→Prop}:bindV (some v) K=K v:=propext ⟨fun h=>h,fun h=>h⟩
theorem QqO {x:Operand}:opW P q S ⟨d,.move x,ty,pos,af,gd⟩ K Pn=gv S x fun v=>K v S:=propext ⟨fun h=>h,fun h=>h⟩
theorem Qqs {x:Operand}:opW P q S ⟨d,.assign x,ty,pos,af,gd⟩ K Pn=gv S x fun v=>K v S:=propext ⟨fun h=>h,fun h=>h⟩
theorem Qq4 {t:Bool} {a b:RV} {K:RV→Prop}:pickW (.bool t) a b K=ifB t fun t=>K (bif t then a else b):=propext ⟨fun h=>h,fun h=>h⟩
theorem QqR {c x y:Operand}:opW P q S ⟨d,.pick c x y,ty,pos,af,gd⟩ K Pn=getX S c fun c=>gv S x fun a=>gv S y fun b=>pickW c a b fun v=>K v S:=propext ⟨fun h=>h,fun h=>h⟩
theorem Qp0 {v:Value} {A:Prop}:nilW (.ext v) A=(nilOK v=true∧A):=propext ⟨fun h=>h,fun h=>h⟩
theorem Qp1 {k o:Nat} {A:Prop}:nilW (.ptr k o) A=A:=propext ⟨fun h=>h,fun h=>h⟩
theorem QpZ {k:Nat} {l:List (Nat×Nat)} {A:Prop}:nilW (.clos k l) A=A:=propext ⟨fun h=>h,fun h=>h⟩
theorem QqP {x:Operand}:opW P q S ⟨d,.nilCheck x,ty,pos,af,gd⟩ K Pn=gv S x fun v=>nilW v (K v S):=propext ⟨fun h=>h,fun h=>h⟩
theorem Qqt {op:BinOp} {T yT:TypeId} {x y:Operand}:opW P q S ⟨d,.binOp op T x y yT,ty,pos,af,gd⟩ K Pn=getX S x fun a=>getX S y fun b=>binW P op T x y a b fun v=>K (.ext v) S:=propext ⟨fun h=>h,fun h=>h⟩
theorem QqV {op:UnOp} {T:TypeId} {x:Operand}:opW P q S ⟨d,.unOp op T x,ty,pos,af,gd⟩ K Pn=getX S x fun a=>pureW P (Op.unary op a) fun v=>K (.ext v) S:=propext ⟨fun h=>h,fun h=>h⟩
theorem Qqz {t u:TypeId} {x:Operand}:opW P q S ⟨d,.convert t u x,ty,pos,af,gd⟩ K Pn=getX S x fun a=>pureW P (Go.convert t u a) fun v=>K (.ext v) S:=propext ⟨fun h=>h,fun h=>h⟩
theorem QqK {t:TypeId} {x:Operand}:opW P q S ⟨d,.makeInterface t x,ty,pos,af,gd⟩ K Pn=getX S x fun a=>pureW P (Instr.makeInterface t a) fun v=>K (.ext v) S:=propext ⟨fun h=>h,fun h=>h⟩
theorem QqU {t u:TypeId} {x:Operand} {ok:Bool}:opW P q S ⟨d,.typeAssert x t u ok,ty,pos,af,gd⟩ K Pn=getX S x fun a=>pureW P (Instr.typeAssert a t u ok) fun v=>K (.ext v) S:=propext ⟨fun h=>h,fun h=>h⟩
theorem QqA {x:Operand} {i:Nat}:opW P q S ⟨d,.extract x i,ty,pos,af,gd⟩ K Pn=getX S x fun a=>pureW P (Instr.extract a i) fun v=>K (.ext v) S:=propext ⟨fun h=>h,fun h=>h⟩
theorem QqB {t:TypeId} {x:Operand} {f:Nat}:opW P q S ⟨d,.field t x f,ty,pos,af,gd⟩ K Pn=getX S x fun a=>pureW P (Instr.field t a f) fun v=>K (.ext v) S:=propext ⟨fun h=>h,fun h=>h⟩
theorem QqD {t:TypeId} {x i:Operand}:opW P q S ⟨d,.index t x i,ty,pos,af,gd⟩ K Pn=getX S x fun a=>getX S i fun b=>pureW P (Instr.index t a b) fun v=>K (.ext v) S:=propext ⟨fun h=>h,fun h=>h⟩
theorem Qqv {t:TypeId} {parts:Array (Nat×Operand)}:opW P q S ⟨d,.build t parts,ty,pos,af,gd⟩ K Pn=getsX S (parts.toList.map (·.2)) fun vs=>bindV (bldS P t) fun z=>fillW z.2 z.1 (parts.toList.map (·.1)) vs fun cs=>K (.ext (.agg cs.toArray)) S:=propext ⟨fun h=>h,fun h=>h⟩
theorem QqS {t:TypeId} {x:Operand} {lo hi mx:Option Operand}:opW P q S ⟨d,.slice t x lo hi mx,ty,pos,af,gd⟩ K Pn=getX S x fun a=>getsX S lo.toList fun l=>getsX S hi.toList fun h=>getsX S mx.toList fun m=>
   pureW P (Instr.sliceAt t a l[0]? h[0]? m[0]?) fun v=>K (.ext v) S:=propext ⟨fun h=>h,fun h=>h⟩
theorem QqJ {fn:Fn} {first caps:Array Operand}:opW P q S ⟨d,.makeFunc fn first caps,ty,pos,af,gd⟩ K Pn=bindV (getsR S first.toList) fun fs=>bindV (getsR S caps.toList) fun cs=>funcW S fn fs cs K:=propext ⟨fun h=>h,fun h=>h⟩
theorem QnY {g:FuncId} {k o:Nat} {cs:List RV}:funcW S (.func g) [] (.ptr k o :: cs) K=bindV (ptrs (.ptr k o :: cs)) fun l=>K (.clos g l) S:=by
 unfold funcW
 cases h:ptrs (.ptr k o :: cs) with
 | none=>simp [bindV,toExts]
 | some l=>
  cases l with
  | nil=>simp [ptrs] at h
  | cons c l=>rfl
theorem QnZ {fn:Fn} {fs:List RV}:funcW S fn fs [] K=bindV (toExts fs) fun fs=>K (.ext (.func fn fs.toArray #[])) S:=by
 unfold funcW
 simp only [ptrs]
 cases fs <;> rfl
theorem Qnp {k o n:Nat} {K:RV→Prop}:faW (.ptr k o) n K=K (.ptr k (o+n)):=propext ⟨fun h=>h,fun h=>h⟩
theorem Qno {u:Value} {n:Nat} {K:RV→Prop}:faW (.ext u) n K=bindV (ptrV u) fun p=>K (.ext (.pointer (some ⟨p.1,p.2+n,none⟩))):=propext ⟨fun h=>h,fun h=>h⟩
theorem QqC {T:TypeId} {x:Operand} {f:Nat}:opW P q S ⟨d,.fieldAddr T x f,ty,pos,af,gd⟩ K Pn=gv S x fun v=>bindV (fieldOff P T f) fun n=>faW v n fun v=>K v S:=propext ⟨fun h=>h,fun h=>h⟩
theorem QoT {k off len cap z:Nat} {ik:IntKind} {j:Int} {K:RV→Prop}:idxW (.sl k off len cap) (none,z) (.int ik j) K=inW j len (K (.ptr k (off+j.toNat * z))):=propext ⟨fun h=>h,fun h=>h⟩
theorem QoS {k off len z:Nat} {ik:IntKind} {j:Int} {K:RV→Prop}:idxW (.ptr k off) (some len,z) (.int ik j) K=inW j len (K (.ptr k (off+j.toNat * z))):=propext ⟨fun h=>h,fun h=>h⟩
theorem QoR {b off len cap z:Nat} {ik:IntKind} {j:Int} {K:RV→Prop}:idxW (.ext (.slice (some ⟨b,off,none⟩) len cap)) (none,z) (.int ik j) K=inW j len (K (.ext (.pointer (some ⟨b,off+j.toNat * z,none⟩)))):=propext ⟨fun h=>h,fun h=>h⟩
theorem QqE {T:TypeId} {x i:Operand}:opW P q S ⟨d,.indexAddr T x i,ty,pos,af,gd⟩ K Pn=gv S x fun v=>getX S i fun i=>bindV (elemOff P T) fun z=>idxW v z i fun v=>K v S:=propext ⟨fun h=>h,fun h=>h⟩
theorem Ql5 {T:TypeId} {c:List RV} {K:TypeId→List RV→Prop}:cellW (.cells T c) K=K T c:=propext ⟨fun h=>h,fun h=>h⟩
theorem Qpr {z:Bool×Nat} {k off:Nat} {K:RV→Prop}:loadW S z (.ptr k off) K=bindV (nthX S.m k) fun o=>cellW o fun _ c=>loadR z.1 z.2 off c K:=propext ⟨fun h=>h,fun h=>h⟩
theorem Qpq {z:Bool×Nat} {u:Value} {K:RV→Prop}:loadW S z (.ext u) K=bindV (ptrV u) fun p=>extW S z.1 z.2 p.1 p.2 fun v=>K (.ext v):=propext ⟨fun h=>h,fun h=>h⟩
theorem QqH {T:TypeId} {x:Operand}:opW P q S ⟨d,.load T x,ty,pos,af,gd⟩ K Pn=gv S x fun v=>bindV (tyS P T) fun z=>loadW S z v fun v=>K v S:=propext ⟨fun h=>h,fun h=>h⟩
theorem Qpo {n off:Nat} {c:List RV} {K:RV→Prop}:loadR true n off c K=bindV (segX c off n) fun vs=>K (.ext (.agg vs.toArray)):=propext ⟨fun h=>h,fun h=>h⟩
theorem Qpp {n off:Nat} {c:List RV} {K:RV→Prop}:loadR false n off c K=bindV (nthX c off) K:=propext ⟨fun h=>h,fun h=>h⟩
theorem QqI {T:TypeId} {m k:Operand} {ok:Bool}:opW P q S ⟨d,.lookup T m k ok,ty,pos,af,gd⟩ K Pn=gv S m fun m=>getX S k fun k=>mapOb S m fun o=>lookW P T k ok o fun v=>K (.ext v) S:=propext ⟨fun h=>h,fun h=>h⟩
theorem Qqx {b:Builtin} {args:Array Operand} {ts:Array TypeId}:opW P q S ⟨d,.call ⟨.builtin b,args,ts⟩,ty,pos,af,gd⟩ K Pn=bindV (getsR S args.toList) fun rs=>lenW P q S ts b rs K
    (bindV (toExts rs) fun vs=>builtW P (builtin b ts ty (args.map fun | .const _=>true | _=>false) vs.toArray) fun v=>K (.ext v) S):=propext ⟨fun h=>h,fun h=>h⟩
theorem Qqy {f:Operand} {args:Array Operand} {ts:Array TypeId}:opW P q S ⟨d,.call ⟨.value f,args,ts⟩,ty,pos,af,gd⟩ K Pn=gv S f fun f=>bindV (getsR S args.toList) fun vs=>callW P q S (tgt f vs) K Pn:=propext ⟨fun h=>h,fun h=>h⟩
theorem QqG {recv:Operand} {name:String} {args:Array Operand} {ts:Array TypeId}:opW P q S ⟨d,.call ⟨.invoke recv name,args,ts⟩,ty,pos,af,gd⟩ K Pn=getX S recv fun r=>getsX S args.toList fun vs=>invokeW P S (invoke (.fn (.method name) #[]) (#[r] ++ vs.toArray)) fun v=>K (.ext v) S:=propext ⟨fun h=>h,fun h=>h⟩
theorem Qqr {T:TypeId}:opW P false S ⟨d,.alloc T,ty,pos,af,gd⟩ K Pn=bindV (tyZ P T) fun zs=>K (.ptr S.m.length 0) ⟨S.t,S.m ++ [.cells T (zs.map .ext)],S.x⟩:=propext ⟨fun h=>h.2,fun h=>⟨rfl,h⟩⟩
theorem Qqu {T:TypeId} {x:Operand}:opW P false S ⟨d,.box T x,ty,pos,af,gd⟩ K Pn=gv S x fun v=>K (.ptr S.m.length 0) ⟨S.t,S.m ++ [.cells T (flat v)],S.x⟩:=propext ⟨fun h=>h.2,fun h=>⟨rfl,h⟩⟩
theorem Qqw {t:TypeId} {len:Nat} {parts:Array (Nat×Operand)}:opW P false S ⟨d,.buildSlice t len parts,ty,pos,af,gd⟩ K Pn=bindV (getsR S (parts.toList.map (·.2))) fun rs=>bldW P S t len (parts.toList.map (·.1)) rs K:=propext ⟨fun h=>h.2,fun h=>⟨rfl,h⟩⟩
theorem QqM {t:TypeId} {l c:Operand}:opW P false S ⟨d,.makeSlice t l c,ty,pos,af,gd⟩ K Pn=getX S l fun l=>getX S c fun c=>
   rowW P (Instr.makeSlice t l c) fun elem cells len cap=>K (.sl S.m.length 0 len cap) ⟨S.t,S.m ++ [.cells elem (cells.map .ext)],S.x⟩:=propext ⟨fun h=>h.2,fun h=>⟨rfl,h⟩⟩
theorem QsF {z:Bool×Nat} {k off:Nat} {v:RV} {K:St→Prop}:storeW S z (.ptr k off) v K=bindV (nthX S.m k) fun o=>cellW o fun T' c=>bindV (putX off c (flat v)) fun c'=>
  ((flat v).length=z.2∧(flat v).all one=true∧z.2≠0)∧K ⟨S.t,setX S.m k (.cells T' c'),S.x⟩:=propext ⟨fun h=>h,fun h=>h⟩
theorem Qqc {o:Obj} {K:Obj→Prop}:objW (.obj o) K=K o:=propext ⟨fun h=>h,fun h=>h⟩
theorem QpG {r:Nat} {K:Obj→Prop}:mapOb S (.mp r) K=bindV (nthX S.m r) fun o=>objW o K:=propext ⟨fun h=>h,fun h=>h⟩
theorem QpF {b:Nat} {K:Obj→Prop}:mapOb S (.ext (.map (some b))) K=extM S b K:=propext ⟨fun h=>h,fun h=>h⟩
theorem QpQ {r:Nat} {K:Nat→Prop}:mpW (.mp r) K=K r:=propext ⟨fun h=>h,fun h=>h⟩
theorem QoX {t:TypeId} {u:Value} {K:TypeId→Value→Prop}:ifaceW (.iface t u) K=K t u:=propext ⟨fun h=>h,fun h=>h⟩
theorem Qpd {ts:Array TypeId} {x y:RV} {K:RV→St→Prop} {A:Prop}:lenW P false S ts .append [x,y] K A=appW P S ts x y K:=propext ⟨fun h=>h.2,fun h=>⟨rfl,h⟩⟩
theorem Qpe {ts:Array TypeId} {x y:RV} {K:RV→St→Prop} {A:Prop}:lenW P false S ts .copy [x,y] K A=copyW P S ts x y K:=propext ⟨fun h=>h.2,fun h=>⟨rfl,h⟩⟩
theorem Qpi {ts:Array TypeId} {k o l c:Nat} {K:RV→St→Prop} {A:Prop}:lenW P q S ts .len [.sl k o l c] K A=bindV ((ts[0]?).bind (elemOff P)) fun z=>match z.1 with
  | none=>K (.ext (.int .i64 l)) S
  | some _=>False:=propext ⟨fun h=>h,fun h=>h⟩
theorem Qpf {ts:Array TypeId} {v:Value} {K:RV→St→Prop} {A:Prop}:lenW P q S ts .len [.ext v] K A=A:=propext ⟨fun h=>h,fun h=>h⟩
theorem Qpg {ts:Array TypeId} {rs:List RV} {K:RV→St→Prop} {A:Prop}:lenW P q S ts .max rs K A=A:=propext ⟨fun h=>h,fun h=>h⟩
theorem Qph {ts:Array TypeId} {rs:List RV} {K:RV→St→Prop} {A:Prop}:lenW P q S ts .min rs K A=A:=propext ⟨fun h=>h,fun h=>h⟩
theorem QqT {T:TypeId} {x y:Operand}:opW P false S ⟨d,.store T x y,ty,pos,af,gd⟩ K Pn=gv S x fun p=>gv S y fun v=>bindV (tyS P T) fun z=>storeW S z p v fun S=>K (.ext undef) S:=
 propext ⟨fun h=>h.2,fun h=>⟨rfl,h⟩⟩
theorem QqL {t:TypeId}:opW P false S ⟨d,.makeMap t none,ty,pos,af,gd⟩ K Pn=K (.mp S.m.length) ⟨S.t,S.m ++ [.obj (.map #[] 0)],S.x⟩:=propext ⟨fun h=>h.2,fun h=>⟨rfl,h⟩⟩
theorem QqN {T:TypeId} {m k x:Operand}:opW P false S ⟨d,.mapUpdate T m k x,ty,pos,af,gd⟩ K Pn=gv S m fun m=>getX S k fun k=>getX S x fun x=>mpW m fun r=>bindV (nthX S.m r) fun o=>objW o fun o=>
  updW P T k x o fun o'=>K (.ext undef) ⟨S.t,setX S.m r (.obj o'),S.x⟩:=propext ⟨fun h=>h.2,fun h=>⟨rfl,h⟩⟩
theorem QqF {T:TypeId} {m k x:Operand}:opW P false S ⟨d,.insert T m k x,ty,pos,af,gd⟩ K Pn=gv S m fun m=>getX S k fun k=>getX S x fun x=>mpW m fun r=>bindV (nthX S.m r) fun o=>objW o fun o=>
  updW P T k x o fun o'=>K (.ext undef) ⟨S.t,setX S.m r (.obj o'),S.x⟩:=propext ⟨fun h=>h.2,fun h=>⟨rfl,h⟩⟩
theorem QqQ {x:Operand}:opW P false S ⟨d,.panic x,ty,pos,af,gd⟩ K Pn=getX S x fun a=>ifaceW a fun t u=>Pn (.iface t u) S:=propext ⟨fun h=>h.2,fun h=>⟨rfl,h⟩⟩
theorem QrC {i:Nat} {v:RV} {t:List (Nat×RV)} {m:List RO} {x:Nat→Obj→Prop}:(St.mk t m x).put (some i) v=⟨(i,v) :: t,m,x⟩:=by rw [St.put]
theorem Qrz {v:RV}:S.put none v=S:=by rw [St.put]
theorem Qnj {i:Nat} {t:List (Nat×RV)} {m:List RO} {x:Nat→Obj→Prop}:evO ⟨t,m,x⟩ (.tmp i)=lk t i:=by rw [evO]
theorem Qnd {v:Value}:evO S (.const v)=some (.ext v):=by rw [evO]
theorem Qne {f:FuncId}:evO S (.func f)=some (.ext (.func (.func f) #[] #[])):=by rw [evO]
theorem Qnf {f:Nat}:evO S (.global f)=some (.ext (.pointer (some ⟨f,0,none⟩))):=by rw [evO]
def selX (b:Bool) (v:RV) (t:List (Nat×RV)) (i:Nat):Option RV:=bif b then some v else lk t i
theorem Qss {v:RV} {t:List (Nat×RV)} {i:Nat}:selX true v t i=some v:=by rw [selX]; rfl
theorem Qsr {v:RV} {t:List (Nat×RV)} {i:Nat}:selX false v t i=lk t i:=by rw [selX]; rfl
theorem Qpm {i j:Nat} {v:RV} {t:List (Nat×RV)}:lk ((j,v) :: t) i=selX (i == j) v t i:=by rw [lk,selX]
end
section
variable {P:Program} {G:Ctx} {Q:Exit→St→Prop} {S:St} {i:Nat} {l:List Oper}
theorem QuF (hm:P.follows .mixedOrders=true) (hd:dOk G.n l=true) (hB:Region.lexB .any l.toArray=true) (h:headW P l.toArray l S (Q .normal)):cW P G (.region i l.toArray true) Q S:=
 Qtw hm (by simpa using hd) hB (by simpa using h)
theorem QuH (k:Nat) (hm:P.follows .mixedOrders=true) (hd:dOk G.n l=true) (hB:Region.lexTailB .any l.toArray k=true)
  (h:headW P l.toArray (l.take k) S fun S=>opsW P l.toArray (l.drop k) S (Q .normal) (panW Q)):cW P G (.region i l.toArray true) Q S:=
 QtA (ops:=l.toArray) k hm (by simpa using hd) hB h
def rg:Code→Nat→Option (Array Oper)
 | .region j ops _,i=>bif j == i then some ops else none
 | .seq a b,i=>match rg a i with
  | some o=>some o
  | none=>rg b i
 | .cond _ a b,i=>match rg a i with
  | some o=>some o
  | none=>rg b i
 | .block _ c,i=>rg c i
 | .scope c,i=>rg c i
 | .loop c,i=>rg c i
 | .rangeFunc _ _ a b,i=>match rg a i with
  | some o=>some o
  | none=>rg b i
 | _,_=>none
def rgF (f:Func) (i:Nat):Option (Array Oper):=match f.body with
 | some c=>rg c i
 | none=>none
def lxF (f:Func) (i:Nat):Bool:=match rgF f i with
 | some ops=>Region.lexB .any ops
 | none=>false
def lxT (f:Func) (i k:Nat):Bool:=match rgF f i with
 | some ops=>Region.lexTailB .any ops k
 | none=>false
theorem Qas {f:Func} (hl:lxF f i=true) (he:rgF f i=some l.toArray) (hm:P.follows .mixedOrders=true) (hd:dOk G.n l=true) (h:headW P l.toArray l S (Q .normal)):cW P G (.region i l.toArray true) Q S:=
 QuF hm hd (by rw [lxF,he] at hl; exact hl) h
theorem QbI {f:Func} (k:Nat) (hl:lxT f i k=true) (he:rgF f i=some l.toArray) (hm:P.follows .mixedOrders=true) (hd:dOk G.n l=true)
  (h:∀ l1 l2,l.take k=l1→l.drop k=l2→headW P l.toArray l1 S fun S=>opsW P l.toArray l2 S (Q .normal) (panW Q)):cW P G (.region i l.toArray true) Q S:=
 QuH k hm hd (by rw [lxT,he] at hl; exact hl) (h _ _ rfl rfl)
end
theorem Qns {ps:List (Nat×Nat)} {c:List Value} {K:List Value→Prop}:fillW ps c [] [] K=K c:=propext ⟨fun h=>h,fun h=>h⟩
theorem Qnr {ps:List (Nat×Nat)} {c:List Value} {i:Nat} {is:List Nat} {v:Value} {vs:List Value} {K:List Value→Prop}:fillW ps c (i :: is) (v :: vs) K=bindV (nthX ps i) fun p=>bindV (putX p.1 c v.cells.toList) fun c'=>v.cells.toList.length=p.2∧p.1+p.2≤c.length∧fillW ps c' is vs K:=propext ⟨fun h=>h,fun h=>h⟩
@[irreducible] def wr (k:IntKind) (n:Int):Int:=k.wrap n
theorem Qcg (k:IntKind) (n:Int):wr k n=k.wrap n:=by unfold wr; rfl
theorem QbN (n:Int):wr .i64 n=(n+9223372036854775808) % 18446744073709551616 - 9223372036854775808:=by rw [Qcg,IntKind.wrap_i64]
theorem QcB (n:Int):wr .u64 n=n % 18446744073709551616:=by rw [Qcg]; simp [IntKind.wrap,IntKind.bits,IntKind.signed]
theorem Qag {n:Int} (h1 : -9223372036854775808≤n) (h2:n≤9223372036854775807):wr .i64 n=n:=by rw [QbN]; omega
theorem Qar {n:Int} (h1:0≤n) (h2:n≤18446744073709551615):wr .u64 n=n:=by rw [QcB]; omega
theorem QkJ:IntKind.bits .i64=64:=by unfold IntKind.bits; rfl
theorem QkM:IntKind.bits .u64=64:=by unfold IntKind.bits; rfl
theorem QkI:IntKind.bits .i32=32:=by unfold IntKind.bits; rfl
theorem QkL:IntKind.bits .u32=32:=by unfold IntKind.bits; rfl
theorem QkK:IntKind.bits .u16=16:=by unfold IntKind.bits; rfl
theorem QkN:IntKind.bits .u8=8:=by unfold IntKind.bits; rfl
section
variable {P:Program} {T:TypeId} {x y:Operand} {k j:IntKind} {a b:Int} {K:Value→Prop}
theorem QkZ:binW P .add T x y (.int k a) (.int k b) K=K (.int k (wr k (a+b))):=by rw [Qcg]; exact Qug
theorem Qlf:binW P .sub T x y (.int k a) (.int k b) K=K (.int k (wr k (a - b))):=by rw [Qcg]; exact Quv
theorem Qk8:binW P .mul T x y (.int k a) (.int k b) K=K (.int k (wr k (a * b))):=by rw [Qcg]; exact Qup
theorem Qk0:binW P .and T x y (.int k a) (.int k b) K=K (.int k (bits .and k a b)):=Quh
theorem Qla (hb:b≠0):binW P .quo T x y (.int k a) (.int k b) K=K (.int k (wr k (a.tdiv b))):=by rw [Qcg]; exact Qur hb
theorem QfR (hb:b≠0):binW P .rem T x y (.int k a) (.int k b) K=K (.int k (a.tmod b)):=Qus hb
theorem Qk3:binW P .eql T x y (.int k a) (.int k b) K=K (.bool (a == b)):=Quk
theorem Qk9:binW P .neq T x y (.int k a) (.int k b) K=K (.bool (a != b)):=Quq
theorem Qk7:binW P .lss T x y (.int k a) (.int k b) K=K (.bool (decide (a < b))):=Quo
theorem Qk6:binW P .leq T x y (.int k a) (.int k b) K=K (.bool (decide (a≤b))):=Qun
theorem Qk5:binW P .gtr T x y (.int k a) (.int k b) K=K (.bool (decide (b < a))):=Qum
theorem Qk4:binW P .geq T x y (.int k a) (.int k b) K=K (.bool (decide (b≤a))):=Qul
theorem Qlc (hb:0≤b):binW P .shl T x y (.int k a) (.int j b) K=K (.int k (wr k (a * 2 ^ (min b.toNat k.bits)))):=by rw [Qcg]; exact Qut hb
theorem Qld (hb:0≤b):binW P .shr T x y (.int k a) (.int j b) K=K (.int k (a.fdiv (2 ^ (min b.toNat k.bits)))):=Quu hb
theorem Qk1 {a b:Bool} (hT:P.underlying T=some .bool):binW P .eql T x y (.bool a) (.bool b) K=K (.bool (a == b)):=Qui hT
theorem Qk2 {a b:Bool} (hT:P.underlying T=some .bool):binW P .neq T x y (.bool a) (.bool b) K=K (.bool (!(a == b))):=Quj hT
theorem Qlb {xs ys:Array Value}:binW P .eql T x y (.agg xs) (.agg ys) K=bindV (flatKs P T) fun ks=>(fitsK ks xs.toList=true∧fitsK ks ys.toList=true)∧K (.bool (eqL xs.toList ys.toList)):=propext ⟨fun h=>h,fun h=>h⟩
theorem Qle {xs ys:Array Value}:binW P .neq T x y (.agg xs) (.agg ys) K=bindV (flatKs P T) fun ks=>(fitsK ks xs.toList=true∧fitsK ks ys.toList=true)∧K (.bool (!eqL xs.toList ys.toList)):=propext ⟨fun h=>h,fun h=>h⟩
end
section
variable {P:Program} {S:St} {fn:Func} {v:Value}
theorem Qkj:Back P fn v .normal S=resW P S fn.results.toList v:=propext ⟨fun h=>h,fun h=>h⟩
theorem Qkk:Back P fn v .ret S=resW P S fn.results.toList v:=propext ⟨fun h=>h,fun h=>h⟩
theorem Qhc {K:List RV→Prop}:resL P S [] K=K []:=propext ⟨fun h=>h,fun h=>h⟩
theorem Qhb {r:ResultVar} {rs:List ResultVar} {K:List RV→Prop}:resL P S (r :: rs) K=res1 P S r fun v=>resL P S rs fun vs=>K (v :: vs):=propext ⟨fun h=>h,fun h=>h⟩
theorem Qjy {t:Nat} {K:RV→Prop}:res1 P S (.tmp t) K=bindV (lk S.t t) K:=propext ⟨fun h=>h,fun h=>h⟩
theorem Qjx {a:Nat} {T:TypeId} {K:RV→Prop}:res1 P S (.cell a T) K=bindV (lk S.t a) fun v=>bindV (tyS P T) fun z=>match v with
  | .ptr k off=>bindV (nthX S.m k) fun o=>cellW o fun _ c=>loadR z.1 z.2 off c K
  | _=>False:=propext ⟨fun h=>h,fun h=>h⟩
def resV (v:Value) (vs:List RV):Prop:=match vs with
  | [.ext u]=>u=v
  | vs=>∃ us,toExts vs=some us∧us.length≠1∧Value.tuple us.toArray=v
theorem QrO {rs:List ResultVar}:resW P S rs v=resL P S rs fun vs=>resV v vs:=propext ⟨fun h=>h,fun h=>h⟩
theorem QrL {u:Value}:resV v [.ext u]=(u=v):=propext ⟨fun h=>h,fun h=>h⟩
theorem QrN {u1 u2:Value}:resV v [.ext u1,.ext u2]=(Value.tuple #[u1,u2]=v):=propext ⟨fun ⟨us,h1,_,h3⟩=>by simp only [toExts,Option.some.injEq] at h1; subst h1; exact h3,fun h=>⟨[u1,u2],rfl,by simp,h⟩⟩
theorem QrM {u1 u2 u3:Value}:resV v [.ext u1,.ext u2,.ext u3]=(Value.tuple #[u1,u2,u3]=v):=propext ⟨fun ⟨us,h1,_,h3⟩=>by simp only [toExts,Option.some.injEq] at h1; subst h1; exact h3,fun h=>⟨[u1,u2,u3],rfl,by simp,h⟩⟩
theorem QrK:resV v []=(Value.tuple #[]=v):=propext ⟨fun ⟨us,h1,_,h3⟩=>by simp only [toExts,Option.some.injEq] at h1; subst h1; exact h3,fun h=>⟨[],rfl,by simp,h⟩⟩
end
theorem nr {α:Sort _} {a b:α} (h:a=b):a=b:=h
theorem Qs7 {P:Program} {k:IntKind} {a:Int} {K:Value→Prop}:pureW P (Op.unary .neg (.int k a)) K=K (.int k (wr k (0 - a))):=by rw [Qcg]; exact QGd
theorem QcK {P:Program} {t u:TypeId} {k j l:IntKind} {a:Int} {K:Value→Prop} (ht:P.underlying t=some (.int l)) (hu:P.underlying u=some (.int j)):pureW P (Go.convert t u (.int k a)) K=K (.int j (wr j a)):=by rw [Qcg]; exact QwB ht hu
theorem Qmm {α:Sort _} {a b:α}:cond true a b=a:=nr rfl
theorem Qml {α:Sort _} {a b:α}:cond false a b=b:=nr rfl
section
variable {k:IntKind} {n:Int} {b:Bool} {v:Value} {vs:List Value} {rs:List RV} {ks:List (Option IntKind)} {S:St} {α:Type} {i j d:Nat}
theorem QpY {a:Addr}:nilOK (.pointer (some a))=true:=nr rfl
theorem QpV {g:FuncId} {a b:Array Value}:nilOK (.func (.func g) a b)=true:=nr rfl
theorem QpW {t:TypeId}:nilOK (.iface t v)=true:=nr rfl
theorem QpX {r:Nat}:nilOK (.map (some r))=true:=nr rfl
theorem QsQ {g:FuncId} {a b:Array Value}:tgt (.ext (.func (.func g) a b)) rs=some (g,a.toList.map .ext ++ rs ++ b.toList.map .ext):=nr rfl
theorem QsP {g:FuncId} {cs:List (Nat×Nat)}:tgt (.clos g cs) rs=some (g,rs ++ cs.map fun c=>.ptr c.1 c.2):=nr rfl
theorem Qro {b off:Nat}:ptrV (.pointer (some ⟨b,off,none⟩))=some (b,off):=nr rfl
theorem QsC {b off l c:Nat}:slV (.slice (some ⟨b,off,none⟩) l c)=some (b,off,l,c):=nr rfl
theorem Qqh:one (.ext (.int k n))=true:=nr rfl
theorem Qqd:one (.ext (.bool b))=true:=nr rfl
theorem Qqq {s:ByteArray}:one (.ext (.string s))=true:=nr rfl
theorem Qqm {a:Option Addr}:one (.ext (.pointer a))=true:=nr rfl
theorem Qqp {a:Option Addr} {l c:Nat}:one (.ext (.slice a l c))=true:=nr rfl
theorem Qqi {a:Option Nat}:one (.ext (.map a))=true:=nr rfl
theorem Qqf {f:Fn} {a b:Array Value}:one (.ext (.func f a b))=true:=nr rfl
theorem Qqk:one (.ext .nilFunc)=true:=nr rfl
theorem Qqg {t:TypeId}:one (.ext (.iface t v))=true:=nr rfl
theorem Qql:one (.ext .nilIface)=true:=nr rfl
theorem Qqn:one (.ptr i j)=true:=nr rfl
theorem Qqe {cs:List (Nat×Nat)}:one (.clos i cs)=true:=nr rfl
theorem Qqj:one (.mp i)=true:=nr rfl
theorem Qqo {l c:Nat}:one (.sl i j l c)=true:=nr rfl
theorem QoZ:ikEq k k=true:=nr (by cases k <;> rfl)
theorem Qnz:fitsK [] []=true:=nr rfl
theorem Qnx:fitsK (none :: ks) (.bool b :: vs)=fitsK ks vs:=by rw [fitsK]
theorem Qny {j:IntKind}:fitsK (some k :: ks) (.int j n :: vs)=(ikEq k j && fitsK ks vs):=by rw [fitsK]
theorem QmI:eqL [] []=true:=nr rfl
theorem QmG {a:Bool} {us:List Value}:eqL (.bool a :: us) (.bool b :: vs)=((a == b) && eqL us vs):=by rw [eqL]
theorem QmH {j:IntKind} {m:Int} {us:List Value}:eqL (.int j m :: us) (.int k n :: vs)=((m == n) && eqL us vs):=by rw [eqL]
theorem Qh1 {cs:List Value}:(Value.agg cs.toArray).cells.toList=cs:=nr rfl
theorem Ql9:(Value.int k n).cells.toList=[.int k n]:=nr rfl
theorem Ql6:(Value.bool b).cells.toList=[.bool b]:=nr rfl
theorem Qmf {s:ByteArray}:(Value.string s).cells.toList=[.string s]:=nr rfl
theorem Qmd {a:Option Addr}:(Value.pointer a).cells.toList=[.pointer a]:=nr rfl
theorem Qme {a:Option Addr} {l c:Nat}:(Value.slice a l c).cells.toList=[.slice a l c]:=nr rfl
theorem Qma {a:Option Nat}:(Value.map a).cells.toList=[.map a]:=nr rfl
theorem Ql7 {f:Fn} {a b:Array Value}:(Value.func f a b).cells.toList=[.func f a b]:=nr rfl
theorem Qmb:(Value.nilFunc).cells.toList=[.nilFunc]:=nr rfl
theorem Ql8 {t:TypeId}:(Value.iface t v).cells.toList=[.iface t v]:=nr rfl
theorem Qmc:(Value.nilIface).cells.toList=[.nilIface]:=nr rfl
theorem Qtm:ydV d (.ext (.bool b))=.yes d b:=nr rfl
theorem Qtn:ydV d (.ext undef)=.no:=nr rfl
theorem QnG:flat (.ext v)=v.cells.toList.map .ext:=nr rfl
theorem QnI:flat (.ptr i j)=[.ptr i j]:=nr rfl
theorem QnJ {l c:Nat}:flat (.sl i j l c)=[.sl i j l c]:=nr rfl
theorem QnF {cs:List (Nat×Nat)}:flat (.clos i cs)=[.clos i cs]:=nr rfl
theorem QnH:flat (.mp i)=[.mp i]:=nr rfl
theorem QsN:takeX 0 rs=some []:=nr (by cases rs <;> rfl)
theorem QsM:takeX (i+1) (.ext v :: rs)=(takeX i rs).map (v :: ·):=by rw [takeX]
theorem QmA:dropX 0 rs=rs:=nr (by cases rs <;> rfl)
theorem Qmz {r:RV}:dropX (i+1) (r :: rs)=dropX i rs:=by rw [dropX]
theorem Qqb {a:α} {l:List α}:nthX (a :: l) 0=some a:=nr rfl
theorem Qqa {a:α} {l:List α}:nthX (a :: l) (i+1)=nthX l i:=by rw [nthX]
theorem Qsv {a u:α} {l:List α}:setX (a :: l) 0 u=u :: l:=nr rfl
theorem Qsu {a u:α} {l:List α}:setX (a :: l) (i+1) u=a :: setX l i u:=by rw [setX]
theorem Qrv {c:List α}:putX i c []=some c:=by cases i <;> cases c <;> rfl
theorem Qry {a u:α} {c us:List α}:putX 0 (a :: c) (u :: us)=(putX 0 c us).map (u :: ·):=by rw [putX]
theorem Qrx {a u:α} {c us:List α}:putX (i+1) (a :: c) (u :: us)=(putX i c (u :: us)).map (a :: ·):=by rw [putX]; simp
theorem Qs0:toExts []=some []:=nr rfl
theorem QsY:toExts (.ext v :: rs)=(toExts rs).map (v :: ·):=by rw [toExts]; cases toExts rs <;> rfl
theorem QoD:getsR S []=some []:=nr rfl
def consX (a:Option RV) (l:Option (List RV)):Option (List RV):=match a with | some v=>l.map (v :: ·) | none=>none
theorem Qmn {r:RV} {l:Option (List RV)}:consX (some r) l=l.map (r :: ·):=nr rfl
theorem QoC {x:Operand} {xs:List Operand}:getsR S (x :: xs)=consX (evO S x) (getsR S xs):=by
 rw [getsR]
 cases evO S x with
 | none=>rfl
 | some v=>cases getsR S xs <;> rfl
theorem Qrp:ptrs []=some []:=nr rfl
theorem Qrq:ptrs (.ptr i j :: rs)=(ptrs rs).map ((i,j) :: ·):=by rw [ptrs]
theorem QpP:mkT i []=[]:=nr rfl
theorem QpO {r:RV}:mkT i (r :: rs)=(i,r) :: mkT (i+1) rs:=by rw [mkT]
theorem Qto {l:List Oper}:yd S l.toArray j=ydO S (nthX l j):=by unfold yd; rw [Qay]; simp
theorem Qtl {op:Op} {ty:TypeId} {pos:String} {af:Array Edge} {gd:Option (Nat×Bool)}:ydO S (some ⟨some d,op,ty,pos,af,gd⟩)=(lk S.t d).map (ydV d):=nr rfl
end
end R
namespace R
def noPanA (Q:Exit→Act→WM→Prop):Exit→Act→WM→Prop
 | .panic _,_,_=>False
 | e,a,w=>Q e a w
theorem Qjc {Q:Exit→Act→WM→Prop}:∀ e a w,noPanA Q e a w→Q e a w:=fun e a w h=>by
 cases e <;> first | exact h | exact h.elim
def lexLB (ops:Array Oper) (n:Nat):Bool:=Region.noSelect ops && decide (n≤ops.size) && Region.lexHead .any ops (ops.size - n) n 0 (Array.replicate ops.size false)
def preX:List RO→List RO→Prop
 | [],_=>True
 | _ :: _,[]=>False
 | a :: l,b :: r=>a=b∧preX l r
theorem Qrn {r:List RO}:preX [] r=True:=propext ⟨fun h=>h,fun h=>h⟩
theorem Qrm {a:RO} {l r:List RO}:preX (a :: l) (a :: r)=preX l r:=propext ⟨fun h=>h.2,fun h=>⟨rfl,h⟩⟩
@[congr] theorem preX_congr {l l' r r':List RO} (h:hold l=l') (h2:hold r=r'):preX l r=preX l' r':=by rw [←h,←h2]; rfl
theorem Qg5:∀ {l r:List RO},preX l r→∀ (k:Nat) (o:RO),l[k]? = some o→r[k]? = some o
 | [],_,_,_,_,h=>by simp at h
 | _ :: _,[],h,_,_,_=>h.elim
 | a :: l,b :: r,h,0,o,hk=>by simp at hk ⊢; exact h.1▸hk
 | a :: l,b :: r,h,k+1,o,hk=>by simp at hk ⊢; exact Qg5 h.2 k o hk
theorem Qca:∀ {l r:List RO},preX l r→l.length≤r.length
 | [],_,_=>Nat.zero_le _
 | _ :: _,[],h=>h.elim
 | a :: l,b :: r,h=>Nat.succ_le_succ (Qca h.2)
theorem Qao:∀ (l:List RO),preX l l
 | []=>trivial
 | _ :: l=>⟨rfl,Qao l⟩
def tailW (P:Program) (m:List RO) (x:Nat→Obj→Prop):List Oper→St→(St→Prop)→Prop
 | [],S,K=>K S
 | o :: r,S,K=>match o.guard with
  | none=>opW P false S o (fun v S'=>preX m S'.m∧S'.x=x∧tailW P m x r (S'.put o.dst v) K) (fun _ _=>False)
  | some _=>False
@[congr] theorem tailW_congr {P:Program} {m:List RO} {x:Nat→Obj→Prop} {l:List Oper} {S S':St} {K:St→Prop} (h:hold S=S'):tailW P m x l S K=tailW P m x l S' K:=by rw [←h]; rfl
theorem QsJ {P:Program} {m:List RO} {x:Nat→Obj→Prop} {S:St} {K:St→Prop}:tailW P m x [] S K=K S:=propext ⟨fun h=>h,fun h=>h⟩
theorem QsK {P:Program} {m:List RO} {x:Nat→Obj→Prop} {S:St} {K:St→Prop} {d:Option Nat} {op:Op} {ty:TypeId} {pos:String} {af:Array Edge} {r:List Oper} :
  tailW P m x (⟨d,op,ty,pos,af,none⟩ :: r) S K=opW P false S ⟨d,op,ty,pos,af,none⟩ (fun v S'=>preX m S'.m∧S'.x=x∧tailW P m x r (S'.put d v) K) (fun _ _=>False):=propext ⟨fun h=>h,fun h=>h⟩
section
variable {P:Program} {ops:Array Oper} {bs:List Nat} {w0:WM} {n:Nat} {ds:List Deferred} {s:Nat→Nat} {m:List RO} {x:Nat→Obj→Prop}
theorem QBu {s':Nat→Nat} {M:List RO} {w w':WM} (h0:Mem s m x w) (h:Mem s' M x w') (hp:preX m M) (ha:∀ k,k < m.length→s' k=s k):Mem s m x w':=
 ⟨fun k o hk=>by
   have hlt:=(List.getElem?_eq_some_iff.1 hk).1
   have:=h.mem k o (Qg5 hp k o hk)
   rw [ha k hlt,Qg8 ha (h0.cm k o hk)] at this
   exact this,
  h0.inj,h0.cm,h.ext,h0.apart,fun k hk=>by rw [←ha k hk]; exact h.mine k (Nat.lt_of_lt_of_le hk (Qca hp)),h.know,h.wf⟩
theorem Qdg {bs:List Nat} {w0:WM}:Cls fun w'=>Mem s m x w'∧Fr bs w0 w':=
 ⟨fun w h=>h.1.new,fun w w' h hn=>⟨h.1.keep hn.1 hn.2,h.2.trans (hn.1.mono (by simp))⟩⟩
theorem Qti {Q:Exit→Act→WM→Prop} {K:St→Prop} {wS:WM} (hM0:Mem s m x wS)
  (hK:∀ s S a w,Rep bs w0 n ds s S a w→K S→Q .normal a w) :
  ∀ (l:List Oper) (k:Nat) (listed:Array Bool) (s':Nat→Nat) (S:St) (a:Act) (w:WM),(∀ j,l[j]? = ops[k+j]?)→Region.seqB .any ops l.length k listed=true→dOk n l=true →
   Rep bs w0 n ds s' S a w→preX m S.m→S.x=x→(∀ i,i < m.length→s' i=s i)→tailW P m x l S K →
   wpX P .any ops Q (fun w'=>Mem s m x w'∧Fr bs w0 w') l.length listed a w
 | [],_,_,s',S,a,w,_,hB,_,hr,_,_,_,h=>⟨by simpa [Region.seqB] using hB,hK s' S a w hr h⟩
 | o :: l,k,listed,s',S,a,w,hl,hB,hd,hr,hp,hx,ha,h=>by
  obtain ⟨hd1,hd2⟩:=Qb2 hd
  have h0:ops[k]? = some o:=by simpa using (hl 0).symm
  simp only [List.length_cons,Region.seqB,Bool.and_eq_true,decide_eq_true_eq] at hB
  refine ⟨fun h1=>(by rw [hB.1] at h1; cases h1),fun i hi=>?_⟩
  rw [hB.1] at hi
  have hik:i=k:=by simpa using hi
  subst hik
  unfold tailW at h
  unfold wpOp
  simp only [h0]
  cases hg:o.guard with
  | some g=>simp only [hg] at h
  | none=>
   simp only [hg] at h
   simp only [Region.wanted,hg,if_true]
   refine Qcs hr h (fun s2 v S2 w2 hag hv hr2 hk=>?_) (fun u s2 S2 w2 _ hp=>hp.elim)
   obtain ⟨k1,k2,k3⟩:=hk
   have ha2:∀ i,i < m.length→s2 i=s i:=fun i hi=>(hag i (Nat.lt_of_lt_of_le hi (Qca hp))).trans (ha i hi)
   have hM2:=hr2.mr
   rw [k2] at hM2
   refine ⟨⟨QBu hM0 hM2 k1 ha2,hr2.fr⟩,fun w3 hw3=>?_⟩
   have hr3:=(hr2.put hd1 hv).step (by rw [St.put_m,St.put_x]; exact hr2.mr.keep hw3.1 hw3.2) (hw3.1.mono (by simp))
   exact Qti hM0 hK l (i+1) _ s2 _ _ w3 (fun j=>by have:=hl (j+1); simpa [Nat.add_assoc,Nat.add_comm 1 j] using this) hB.2 hd2 hr3 (by rw [St.put_m]; exact k1) (by rw [St.put_x]; exact k2) ha2 k3
theorem Qez {K:St→Prop} {wS:WM} {D:WM→Prop} (hD:∀ w,D w→Mem s m x w) (hall:dOk n ops.toList=true) :
  ∀ (l:List Oper) (S:St) (a:Act),dOk n l=true→S.m=m→S.x=x→Sl s S a→Mem s m x wS→a.tmps.size=n→a.defers=ds→headW P ops l S K →
   headR P ops D (fun a'=>∃ S',S'.m=m∧S'.x=x∧Sl s S' a'∧a'.tmps.size=n∧a'.defers=ds∧K S') l a
 | [],S,a,_,hm,hx,hs,_,hz,hdf,h=>⟨S,hm,hx,hs,hz,hdf,h⟩
 | o :: l,S,a,hd,hm,hx,hs,hM,hz,hdf,h=>by
  obtain ⟨hd1,hd2⟩:=Qb2 hd
  have putSl:∀ (S:St) (v:RV),Sl s S a→clo S.m.length v=true→Sl s (S.put o.dst v) (a.put o.dst (ren s v))∧(a.put o.dst (ren s v)).tmps.size=n∧(a.put o.dst (ren s v)).defers=ds:=by
   intro S v hs hv
   cases ho:o.dst with
   | none=>exact ⟨hs,hz,hdf⟩
   | some d=>
    have hdn:=hd1 d ho
    refine ⟨?_,by simp [Act.put,hz],hdf⟩
    intro i u hi
    simp only [St.put,Qa7] at hi
    simp only [Act.put]
    rw [Qfg (by rw [hz]; exact hdn)]
    by_cases hid:i=d
    ·simp only [hid,if_true,Option.some.injEq] at hi ⊢
     subst hi
     exact ⟨rfl,hv⟩
    ·simp only [hid,if_false] at hi ⊢
     exact hs i u hi
  have run:∀ S:St,S.m=m→S.x=x→Sl s S a→Region.wanted o (yielded ops a.tmps)=true→opW P true S o (fun v S'=>headW P ops l (S'.put o.dst v) K) (fun _ _=>False) →
    headR P ops D (fun a'=>∃ S',S'.m=m∧S'.x=x∧Sl s S' a'∧a'.tmps.size=n∧a'.defers=ds∧K S') (o :: l) a:=by
   intro S hm hx hs hw h
   have hM':Mem s S.m S.x wS:=by rw [hm,hx]; exact hM
   obtain ⟨v,h1,h2,h3⟩:=Qjf hs hM' h
   obtain ⟨p1,p2,p3⟩:=putSl S v hs h1
   refine ⟨ren s v,.inl ⟨hw,Qg1 h,fun w' hw'=>h3 s a w' hs (by rw [hm,hx]; exact hD w' hw')⟩,?_⟩
   exact Qez hD hall l _ _ hd2 (by rw [St.put_m,hm]) (by rw [St.put_x,hx]) p1 hM p2 p3 h2
  have no:∀ S:St,S.m=m→S.x=x→Sl s S a→Region.wanted o (yielded ops a.tmps)=false→headW P ops l (S.put o.dst (.ext undef)) K →
    headR P ops D (fun a'=>∃ S',S'.m=m∧S'.x=x∧Sl s S' a'∧a'.tmps.size=n∧a'.defers=ds∧K S') (o :: l) a:=by
   intro S hm hx hs hw h
   obtain ⟨p1,p2,p3⟩:=putSl S (.ext undef) hs rfl
   exact ⟨undef,.inr ⟨hw,rfl⟩,Qez hD hall l _ _ hd2 (by rw [St.put_m,hm]) (by rw [St.put_x,hx]) p1 hM p2 p3 h⟩
  unfold headW at h
  cases hg:o.guard with
  | none=>
   simp only [hg] at h
   exact run S hm hx hs (by simp only [Region.wanted,hg]) h
  | some g=>
   obtain ⟨j,want⟩:=g
   simp only [hg] at h
   obtain ⟨y,hy,h⟩:=Qak h
   obtain ⟨hyl,hys⟩:=Qkg hs hz hall (fun o ho=>Array.mem_toList_iff.2 (Array.mem_of_getElem? ho)) hy
   cases y with
   | no=>
    simp only [gdW] at h
    exact no S hm hx hs (by simp only [Region.wanted,hg,hyl]; rfl) h
   | yes d b=>
    unfold gdW at h
    have h:=QcU h
    have hs2:=hys d b rfl
    by_cases hc:b=want
    ·subst hc
     simp only [beq_self_eq_true] at h
     exact run (S.put (some d) (.ext (.bool b))) hm hx hs2 (by simp only [Region.wanted,hg,hyl,beq_self_eq_true]) h
    ·have hb:(b == want)=false:=by simpa using hc
     simp only [hb] at h
     have:(some b == some want)=false:=by simpa using hc
     exact no (S.put (some d) (.ext (.bool b))) hm hx hs2 (by simp only [Region.wanted,hg,hyl,this]) h
end
section
variable {P:Program} {G:Ctx} {Q:Exit→St→Prop} {S:St}
theorem Qtx {id:Nat} {ops:Array Oper} (k:Nat) (hm:P.follows .mixedOrders=true) (hd:dOk G.n ops.toList=true) (hB:lexLB ops k=true)
  (h:headW P ops (ops.toList.take k) S fun S'=>tailW P S.m S.x (ops.toList.drop k) S' (Q .normal)):Sd P G (.region id ops true) Q S:=fun s a w hr=>by
 have hdt:dOk G.n (ops.toList.take k)=true:=List.all_eq_true.2 fun o ho=>List.all_eq_true.1 hd o (List.mem_of_mem_take ho)
 have hdd:dOk G.n (ops.toList.drop k)=true:=List.all_eq_true.2 fun o ho=>List.all_eq_true.1 hd o (List.mem_of_mem_drop ho)
 simp only [lexLB,Bool.and_eq_true,decide_eq_true_eq] at hB
 obtain ⟨⟨hsel,hn⟩,hlex⟩:=hB
 have htl:(ops.toList.take k).length=k:=by simp; omega
 have hdl:(ops.toList.drop k).length=ops.size - k:=by simp
 refine Wp.mono (Q:=noPanA (Lift G Q)) (Qec hm fun wr hrel=>QfI (D:=fun w'=>Mem s S.m S.x w'∧Fr G.bs G.w0 w') Qdg _ _ _ _ ?_) Qjc
 have hr':=(hr.rely hrel).drew
 have hq:=Qez (wS:=w) (ds:=G.ds) (D:=fun w'=>Mem s S.m S.x w'∧Fr G.bs G.w0 w') (fun _ h=>h.1) hd (ops.toList.take k) S a hdt rfl rfl hr'.sl hr.mr hr'.size hr'.df h
 have:=Qkb (md:=.any) (g:=ops.size - k) (n:=k) (Q:=noPanA (Lift G Q)) Qdg hsel (fun _ _ _ _ _ h=>h.elim)
  (fun listed a' w' hs hL hDw=>by
   obtain ⟨S',h1,h2,h3,h4,h5,h6⟩:=hL
   have hrep:Rep G.bs G.w0 G.n G.ds s S' a' w':=
    ⟨by rw [h1,h2]; exact hDw.1,by rw [h1]; exact hr.own,hDw.2,h4,h3,h5⟩
   have hseq:=Qti (ops:=ops) (Q:=noPanA (Lift G Q)) (K:=Q .normal) hr.mr
    (fun s S a w hr h=>⟨s,S,hr,h⟩) (ops.toList.drop k) k listed s S' a' w' (fun j=>by simp [List.getElem?_drop]) (by rw [hdl]; exact hs) hdd hrep (by rw [h1]; exact Qao _) h2 (fun _ _=>rfl) h6
   rw [hdl] at hseq
   exact hseq)
  (ops.toList.take k) 0 (Array.replicate ops.size false) a wr.drew (fun j hj=>by
   have hj':j < k:=by rw [htl] at hj; exact hj
   simp [hj']) (by rw [Nat.zero_add]; exact htl) (by rw [htl]; exact hlex) hq ⟨hr'.mr,hr'.fr⟩
 rw [htl,show k+(ops.size - k)=ops.size by omega] at this
 exact this
def lxL (f:Func) (i k:Nat):Bool:=match rgF f i with
 | some ops=>lexLB ops k
 | none=>false
theorem QfS {f:Func} {i:Nat} {l:List Oper} (k:Nat) (hl:lxL f i k=true) (he:rgF f i=some l.toArray) (hm:P.follows .mixedOrders=true) (hd:dOk G.n l=true)
  (h:∀ l1 l2,l.take k=l1→l.drop k=l2→headW P l.toArray l1 S fun S'=>tailW P S.m S.x l2 S' (Q .normal)):cW P G (.region i l.toArray true) Q S:=
 Qtx (ops:=l.toArray) k hm (by simpa using hd) (by rw [lxL,he] at hl; exact hl) (h _ _ rfl rfl)
end
end R
namespace R
def wkL (t:List (Nat×RV)) (n:Nat):List (Nat×RV)→Prop
 | []=>True
 | p :: r=>(lk t p.1=some p.2∧clo n p.2=true)∧wkL t n r
theorem Qtb {t:List (Nat×RV)} {n:Nat}:∀ {l:List (Nat×RV)},wkL t n l→∀ i v,lk l i=some v→lk t i=some v∧clo n v=true
 | [],_,i,v,h=>by simp [lk] at h
 | p :: r,hw,i,v,h=>by
  rw [Qa7] at h
  split at h
  ·rename_i e
   simp only [Option.some.injEq] at h
   subst h; subst e
   exact hw.1
  ·exact Qtb hw.2 i v h
theorem QtR {S S1:St} (ht:wkL S.t S1.m.length S1.t) (hm:preX S1.m S.m) (hc:S1.m.all (cloO S1.m.length)=true) (hx:S.x=S1.x):Wk S S1:=
 ⟨Qtb ht,by
  have:∀ (l r:List RO),preX l r→∃ q,r=l ++ q:=by
   intro l
   induction l with
   | nil=>exact fun r _=>⟨r,rfl⟩
   | cons a l ih=>
    intro r h
    cases r with
    | nil=>exact h.elim
    | cons b r=>
     obtain ⟨q,hq⟩:=ih r h.2
     exact ⟨q,by rw [hq,h.1]; rfl⟩
  exact this _ _ hm,fun k o hk=>List.all_eq_true.1 hc o (List.mem_of_getElem? hk),fun b o h=>hx▸h⟩
theorem Qae {t t1:List (Nat×RV)} {m m1:List RO} {x:Nat→Obj→Prop} (ht:wkL t m1.length t1) (hm:preX m1 m) (hc:m1.all (cloO m1.length)=true):Wk ⟨t,m,x⟩ ⟨t1,m1,x⟩:=QtR ht hm hc rfl
theorem QtG {α:Type} {P:Program} {G:Ctx} {Q:Exit→St→Prop} {S:St} {c:Code} (st:α→St) (J:α→Prop) (μ:α→Nat) (h0:∃ a,Wk S (st a)∧J a)
  (round:∀ a,J a→Sd P G c (thenW (fun S'=>∃ b,Wk S' (st b)∧J b∧μ b < μ a) Q) (st a)) (hbs:G.bs=[]:=by rfl):Sd P G (.loop c) Q S:=by
 have least:∀ k a,J a→μ a=k→∃ n b,J b∧st b=st a∧μ b=n∧∀ d,J d→st d=st a→n≤μ d:=by
  intro k
  induction k using Nat.strongRecOn with
  | _ k ih=>
   intro a ha hk
   by_cases h:∀ d,J d→st d=st a→k≤μ d
   ·exact ⟨k,a,ha,rfl,hk,h⟩
   ·simp only [Classical.not_forall] at h
    obtain ⟨d,h1,h2,h3⟩:=h
    obtain ⟨n,b,q1,q2,q3,q4⟩:=ih (μ d) (by omega) d h1 rfl
    exact ⟨n,b,q1,q2.trans h2,q3,fun e h4 h5=>q4 e h4 (h5.trans h2.symm)⟩
 let mu:St→Nat:=fun S=>Classical.epsilon fun n=>∃ b,J b∧st b=S∧μ b=n∧∀ d,J d→st d=S→n≤μ d
 have spec:∀ a,J a→∃ b,J b∧st b=st a∧μ b=mu (st a)∧∀ d,J d→st d=st a→mu (st a)≤μ d:=by
  intro a ha
  obtain ⟨n,h⟩:=least _ a ha rfl
  exact Classical.epsilon_spec (p:=fun n=>∃ b,J b∧st b=st a∧μ b=n∧∀ d,J d→st d=st a→n≤μ d) ⟨n,h⟩
 refine QtF (fun S=>∃ a,J a∧st a=S) mu ?_ ?_ hbs
 ·obtain ⟨a,h1,h2⟩:=h0
  exact ⟨st a,h1,a,h2,rfl⟩
 ·rintro _ ⟨a,ha,rfl⟩
  obtain ⟨b,hb,e,hm,hle⟩:=spec a ha
  have:=round b hb
  rw [e] at this
  refine QfK this ?_
  intro e S' h
  cases e with
  | normal=>
   obtain ⟨d,h1,h2,h3⟩:=h
   obtain ⟨b2,_,_,_,hle2⟩:=spec d h2
   have:=hle2 d h2 rfl
   exact ⟨st d,h1,⟨d,h2,rfl⟩,by omega⟩
  | _=>exact h
theorem Qa3 {α:Type} {P:Program} {G:Ctx} {Q:Exit→St→Prop} {S:St} {c:Code} (st:α→St) (J:α→Prop) (μ:α→Nat) (h0:∃ a,Wk S (st a)∧J a) (hc:cOk G.n c=true)
  (round:∀ a,J a→cW P G c (thenW (fun S'=>∃ b,Wk S' (st b)∧J b∧μ b < μ a) Q) (st a)) (hbs:G.bs=[]:=by rfl):cW P G (.loop c) Q S:=
 QtG st J μ h0 (fun a ha=>Qaa hc (round a ha)) hbs
theorem Qam {j:Int} {len:Nat} {K:Prop} (h:0≤j∧j < (len:Int)) (hK:K):inW j len K:=⟨h,hK⟩
theorem Qad {S:St} {g:Bool} {n b off:Nat} {K:Value→Prop} {c:Array Value} {T:TypeId} {f:Nat×Nat} {v:Value} (hx:S.x b (.cells c T f)) (hl:loadX g n off c=some v) (hK:K v):extW S g n b off K:=⟨c,T,f,v,hx,hl,hK⟩
end R
namespace R
structure RetC (P:Program) (x:Nat→Obj→Prop) (g:FuncId) (args:List Value) (v:RV) (m:List RO):Prop where
 out:∀ w:WM,(∀ b o,x b o→w.heap[b]? = some o∧w.O b)→(∀ b,w.O b→b < w.heap.size)→Calls P g args.toArray w fun e w'=>∃ s:Nat→Nat,e=.returned (ren s v)∧(∀ k,k < m.length→¬ w.O (s k))∧Mem s m x w'∧Fr [] w w'
theorem Mem.kn {s:Nat→Nat} {m:List RO} {x:Nat→Obj→Prop} {w:WM} (h:Mem s m x w):∀ b o,x b o→w.heap[b]? = some o∧w.O b:=fun b o hb=>⟨h.ext b o hb,h.know b o hb⟩
theorem callR {P:Program} {S:St} {g:FuncId} {asq:List RV} {es:List Value} {v:RV} {m:List RO} {K:RV→St→Prop} {Pn:Value→St→Prop} (hg:goes P g) (he:toExts asq=some es)
  (hr:RetC P S.x g es v m)
  (h:∀ (s:Nat→Nat) (x':Nat→Obj→Prop),(∀ b o,S.x b o→x' b o)→(∀ k o,m[k]? = some o→x' (s k) (renO s o))→K (.ext (ren s v)) ⟨S.t,S.m,x'⟩) :
  callW P false S (some (g,asq)) K Pn:=by
 refine .inl ⟨hg,.inr ⟨rfl,fun s w hm=>?_⟩⟩
 have e:=Qa9 he
 subst e
 rw [Qax]
 refine (hr.out w hm.kn hm.wf).mono fun e w' ⟨s1,h1,h2,h3,h4⟩=>?_
 refine ⟨h4.mono (by simp),.inl ⟨.ext (ren s1 v),⟨S.t,S.m,fun b o=>S.x b o∨∃ k o1,m[k]? = some o1∧b=s1 k∧o=renO s1 o1⟩,h1,rfl,rfl,rfl,?_,?_⟩⟩
 ·have k:=hm.keep h4 h3.new
  refine ⟨k.mem,k.inj,k.cm,?_,?_,k.mine,?_,k.wf⟩
  ·rintro b o (hb | ⟨j,o1,hj,rfl,rfl⟩)
   ·exact k.ext b o hb
   ·exact h3.mem j o1 hj
  ·rintro b o (hb | ⟨j,o1,hj,rfl,rfl⟩) i hi
   ·exact k.apart b o hb i hi
   ·have:=h2 j (List.getElem?_eq_some_iff.1 hj).1
    exact fun e=>this (e▸.inl (hm.mine i hi))
  ·rintro b o (hb | ⟨j,o1,hj,rfl,rfl⟩)
   ·exact k.know b o hb
   ·exact .inl (h3.mine j (List.getElem?_eq_some_iff.1 hj).1)
 ·exact h s1 _ (fun b o hb=>.inl hb) (fun k o hk=>.inr ⟨k,o,hk,rfl,rfl⟩)
def BackR (P:Program) (fn:Func) (v:RV) (m:List RO):Exit→St→Prop
 | .normal,S=>resL P S fn.results.toList (fun vs=>vs=[v])∧preX m S.m
 | .ret,S=>resL P S fn.results.toList (fun vs=>vs=[v])∧preX m S.m
 | _,_=>False
theorem QrP {P:Program} {x:Nat→Obj→Prop} {f:FuncId} {fn:Func} {c:Code} {args:List Value} {v:RV} {m:List RO} (hf:P.funcs[f]? = some fn) (hb:fn.body=some c) (hn:Nat.ble args.length fn.ntmps=true)
  (hm:m.all (cloO m.length)=true) (h:∀ w,Sd P ⟨[],w,fn.ntmps,[]⟩ c (BackR P fn v m) { t:=mkT 0 (args.map .ext),m:=[],x }):RetC P x f args v m:=by
 refine ⟨fun w hx hwf=>?_⟩
 have:=Qci (s:=fun _=>0) (args:=args.map .ext) (R:=fun e w'=>∃ s:Nat→Nat,e=.returned (ren s v)∧(∀ k,k < m.length→¬ w.O (s k))∧Mem s m x w'∧Fr [] w w') (bs:=[]) (m:=[]) (x:=x) hf hb (by simpa using Nat.le_of_ble_eq_true hn)
  ⟨fun k o hk=>by simp at hk,fun j k hj=>by simp at hj,fun k o hk=>by simp at hk,fun b o hb=>(hx b o hb).1,fun b o _ k hk=>by simp at hk,fun k hk=>by simp at hk,fun b o hb=>(hx b o hb).2,hwf⟩ (.none fun k hk=>by simp at hk) (by simp [clo]) (h w) ?_
 ·rwa [Qax] at this
 ·intro e s S a w' hr hq
  have main:(resL P S fn.results.toList (fun vs=>vs=[v])∧preX m S.m)→a.defers=[]∧∀ w1,Rely w' w1→∃ u,(results fn a.tmps).run P w1.w=.ok u w1.w∧EvIn w1 ((results fn a.tmps).events P w1.w #[]) ∧
    ∃ s':Nat→Nat,(Ending.returned u)=.returned (ren s' v)∧(∀ k,k < m.length→¬ w.O (s' k))∧Mem s' m x w1∧Fr [] w w1:=by
   rintro ⟨h1,h2⟩
   refine ⟨hr.df,fun w1 hrel=>?_⟩
   have hr1:=hr.rely hrel
   obtain ⟨vs,g1,g2,rfl⟩:=Qc0 (fn:=fn) hr1.sl hr1.mr h1
   have own:∀ k,k < m.length→¬ w.O (s k):=fun k hk ho=>by
    have:=hwf _ ho
    rcases hr.own.mem (Nat.lt_of_lt_of_le hk (Qca h2)) with h | h
    ·simp at h
    ·omega
   refine ⟨ren s v,by simpa using g1.1,g1.2,s,rfl,own,⟨fun k o hk=>hr1.mr.mem k o (Qg5 h2 k o hk),fun j k hj hk=>hr1.mr.inj j k (Nat.lt_of_lt_of_le hj (Qca h2)) (Nat.lt_of_lt_of_le hk (Qca h2)),
    fun k o hk=>List.all_eq_true.1 hm o (List.mem_of_getElem? hk),fun b o hb=>?_,fun b o hb k hk e=>own k hk (e▸(hx b o hb).2),fun k hk=>hr1.mr.mine k (Nat.lt_of_lt_of_le hk (Qca h2)),fun b o hb=>hr1.fr.O (hx b o hb).2,hr1.mr.wf⟩,hr1.fr⟩
   have h0:=(hx b o hb).1
   rw [hr1.fr.block b (hx b o hb).2 (Array.getElem?_eq_some_iff.1 h0).1 (by simp)]; exact h0
  cases e with
  | normal=>exact main hq
  | ret=>exact main hq
  | _=>exact hq.elim
theorem QxN {P:Program} (w:World) (t e:TypeId) (i:TypeInfo) (z:Value) (ht:P.underlying t=some (.slice e)) (hi:P.info? e=some i) (hz:i.zero=some z) (kl kc:IntKind) (l c:Int) (h0:0≤l) (hlc:l≤c)
  (hcells:c.toNat * i.size≤16777216) (hbytes:(i.bytes:Int) * c≤281474976710656) (h63:c≤9223372036854775807):∀ ev∈(Instr.makeSlice t (.int kl l) (.int kc c)).events P w #[],ev.loc=.mark .noRoom:=by
 intro ev hev
 have wl:IntKind.i64.wrap l=l:=by rw [IntKind.wrap_i64]; omega
 have wc:IntKind.i64.wrap c=c:=by rw [IntKind.wrap_i64]; omega
 have n1:¬ c < 0:=by omega
 have n2:¬ (281474976710656 < (i.bytes:Int) * c):=by omega
 have n3:¬ l < 0:=by omega
 have n4:¬ c < l:=by omega
 have key:ev∈(askRoom (c.toNat * i.bytes)).events P w #[]:=by
  by_cases hn:c.toNat * i.size=0
  ·simpa [Instr.makeSlice,run_underlying ht,asInt,asIntOf,typeInfo,hi,sizeOf,wl,wc,n1,n2,n3,n4,hn,newRow] using hev
  ·simpa [Instr.makeSlice,run_underlying ht,asInt,asIntOf,typeInfo,hi,sizeOf,zeroValue,hz,wl,wc,n1,n2,n3,n4,hn,newRow] using hev
 rcases Conc.events_askRoom _ _ _ ev key with h | ⟨m,rfl,hm⟩
 ·simp at h
 ·have:m=.noRoom:=hm
  subst this; rfl
theorem QCM {P:Program} {K:TypeId→List Value→Nat→Nat→Prop} {t e:TypeId} {i:TypeInfo} {z:Value} (ht:P.underlying t=some (.slice e)) (hi:P.info? e=some i) (hz:i.zero=some z)
  {kl kc:IntKind} {l c:Int} (h0:0≤l) (hlc:l≤c) (hcells:c.toNat * i.size≤16777216) (hbytes:(i.bytes:Int) * c≤281474976710656) (h63:c≤9223372036854775807)
  (h:K e (madeCells z.cells (c.toNat * i.size)).toList l.toNat c.toNat):rowW P (Instr.makeSlice t (.int kl l) (.int kc c)) K:=
 ⟨e,_,_,_,fun w=>⟨run_makeSlice w t e i z ht hi hz kl kc l c h0 hlc hcells hbytes h63,QxN w t e i z ht hi hz kl kc l c h0 hlc hcells hbytes h63⟩,h⟩
theorem QCN {P:Program} {K:TypeId→List Value→Nat→Nat→Prop} {t e:TypeId} {z:Value} {n b:Nat} (ht:P.underlying t=some (.slice e)) (hi:(P.info? e).map (fun i=>(i.zero,i.size,i.bytes))=some (some z,n,b))
  {kl kc:IntKind} {l c:Int} (h0:0≤l) (hlc:l≤c) (hcells:c.toNat * n≤16777216) (hbytes:(b:Int) * c≤281474976710656) (h63:c≤9223372036854775807)
  (h:K e (madeCells z.cells (c.toNat * n)).toList l.toNat c.toNat):rowW P (Instr.makeSlice t (.int kl l) (.int kc c)) K:=by
 cases hq:P.info? e with
 | none=>rw [hq] at hi; cases hi
 | some i=>
  rw [hq] at hi
  simp only [Option.map_some,Option.some.injEq,Prod.mk.injEq] at hi
  obtain ⟨h1,rfl,rfl⟩:=hi
  exact QCM ht hq h1 h0 hlc hcells hbytes h63 h
theorem QCL {P:Program} {K:TypeId→List Value→Nat→Nat→Prop} {t e:TypeId} {z:Value} {n b len:Nat} {parts:Array (Nat×Value)} (cells:Array Value) (ht:P.underlying t=some (.slice e)) (hi:(P.info? e).map (fun i=>(i.zero,i.size,i.bytes))=some (some z,n,b))
  (hsmall:¬ len * n > 2 ^ 24) (hpos:¬ len * n=0) (hf:Instr.fill (fun i=>some (i * n,n)) ((Array.range (len * n)).map (z.cells[· % z.cells.size]!)) parts.toList=some cells)
  (h:K e cells.toList len len):rowW P (Instr.buildSlice t len parts) K:=by
 cases hq:P.info? e with
 | none=>rw [hq] at hi; cases hi
 | some i=>
  rw [hq] at hi
  simp only [Option.map_some,Option.some.injEq,Prod.mk.injEq] at hi
  obtain ⟨h1,rfl,rfl⟩:=hi
  exact ⟨e,_,_,_,fun w=>⟨run_buildSlice w t e len parts cells i z ht hq h1 hsmall hpos hf,fun e he=>by rw [Qi9] at he; simp at he⟩,h⟩
theorem QhH {P:Program} {S:St} {t e:TypeId} {z:Value} {n b len:Nat} {idx:List Nat} {rs:List RV} {vs:List Value} {K:RV→St→Prop} (cells:Array Value) (hv:toExts rs=some vs) (ht:P.underlying t=some (.slice e))
  (hi:(P.info? e).map (fun i=>(i.zero,i.size,i.bytes))=some (some z,n,b)) (hsmall:¬ len * n > 2 ^ 24) (hpos:¬ len * n=0)
  (hf:Instr.fill (fun i=>some (i * n,n)) ((Array.range (len * n)).map (z.cells[· % z.cells.size]!)) ((idx.zip vs).toArray).toList=some cells)
  (h:K (.sl S.m.length 0 len len) ⟨S.t,S.m ++ [.cells e (cells.toList.map .ext)],S.x⟩):bldW P S t len idx rs K:=
 .inl ⟨vs,hv,QCL cells ht hi hsmall hpos hf h⟩
theorem QfQ {P:Program} {S:St} {t e:TypeId} {K:RV→St→Prop} (ht:P.underlying t=some (.slice e)) (hi:(P.info? e).isSome=true) (h:K (.sl S.m.length 0 0 0) ⟨S.t,S.m ++ [.cells e []],S.x⟩):bldW P S t 0 [] [] K:=by
 obtain ⟨i,hi⟩:=Option.isSome_iff_exists.1 hi
 refine .inl ⟨[],rfl,e,#[],0,0,fun w=>⟨?_,fun e he=>by rw [Qi9] at he; simp at he⟩,h⟩
 simp [Instr.buildSlice,run_underlying ht,sizeOf,typeInfo,hi,Instr.fill,newRow]
 congr 2
 exact Array.eq_empty_of_size_eq_zero (by simp)
theorem Qbq {P:Program} {S:St} {t e:TypeId} {z:Value} {b len:Nat} {idx:List Nat} {rs:List RV} {K:RV→St→Prop} (ht:P.underlying t=some (.slice e))
  (hi:(P.info? e).map (fun i=>(i.zero,i.size,i.bytes))=some (some z,1,b)) (hz:z.cells.size=1) (hn:0 < len∧len≤16777216) (hx:idx=List.range len) (hr:rs.length=len) (h1:rs.all one=true)
  (h:K (.sl S.m.length 0 len len) ⟨S.t,S.m ++ [.cells e rs],S.x⟩):bldW P S t len idx rs K:=by
 cases hq:P.info? e with
 | none=>rw [hq] at hi; cases hi
 | some i=>
  rw [hq] at hi
  simp only [Option.map_some,Option.some.injEq,Prod.mk.injEq] at hi
  exact .inr ⟨e,i,z,ht,hq,hi.2.1,hi.1,hz,hn.1,hn.2,hx,hr,h1,h⟩
theorem Qrw {v:RV}:∀ (i:Nat) (l:List RV),i < l.length→putX i l [v]=some (l.set i v)
 | 0,a :: l,_=>by simp [putX]
 | i+1,a :: l,h=>by
  have:=Qrw (v:=v) i l (by simpa using h)
  simp [putX,this]
 | _,[],h=>absurd h (Nat.not_lt_zero _)
def xAll (S:St) (s:Nat→Nat):Nat→Obj→Prop:=fun b o=>S.x b o∨∃ k o1,S.m[k]? = some o1∧b=s k∧o=renO s o1
theorem Qhq {S:St} {s:Nat→Nat} {w:WM} (hm:Mem s S.m S.x w):∀ b o,xAll S s b o→w.heap[b]? = some o∧w.O b:=by
 rintro b o (hb | ⟨j,o1,hj,rfl,rfl⟩)
 ·exact ⟨hm.ext b o hb,hm.know b o hb⟩
 ·exact ⟨hm.mem j o1 hj,.inl (hm.mine j (List.getElem?_eq_some_iff.1 hj).1)⟩
theorem callO {P:Program} {S:St} {g:FuncId} {asq:List RV} {v:Value} {K:RV→St→Prop} {Pn:Value→St→Prop} (hg:goes P g)
  (hp:∀ s:Nat→Nat,PureC P (xAll S s) g (asq.map (ren s)) v) (h:K (.ext v) S):callW P false S (some (g,asq)) K Pn:=by
 refine .inl ⟨hg,.inr ⟨rfl,fun s w hm=>?_⟩⟩
 exact ((hp s).out w (Qhq hm) hm.wf).mono fun e w' ⟨h1,h4,h5⟩=>⟨h4.mono (by simp),.inl ⟨.ext v,S,h1,rfl,rfl,rfl,hm.keep h4 h5,h⟩⟩
theorem QcD {α:Type} {l:List α}:List.append [] l=l:=nr rfl
end R
namespace R
def mixB (ops:Array Oper):List (Nat×Bool)→Array Bool→Bool
 | [],listed=>(Region.ready .any ops listed).isEmpty
 | (i,true) :: r,listed=>(Region.ready .any ops listed).contains i && Region.free .any ops listed i && mixB ops r (listed.setIfInBounds i true)
 | (i,false) :: r,listed=>decide (Region.ready .any ops listed=[i]) && mixB ops r (listed.setIfInBounds i true)
def lexMB (ops:Array Oper) (steps:List (Nat×Bool)):Bool:=Region.noSelect ops && (steps.length == ops.size) && mixB ops steps (Array.replicate ops.size false)
def xsub (x x':Nat→Obj→Prop):Prop:=∀ b o,x b o→x' b o
theorem Qkf {x:Nat→Obj→Prop}:xsub x x=True:=propext ⟨fun _=>trivial,fun _ b o h=>h⟩
def mixW (P:Program) (ops:Array Oper):List (Nat×Bool)→St→(St→Prop)→Prop
 | [],S,K=>K S
 | (i,true) :: r,S,K=>bindV (nthX ops.toList i) fun o=>headW P ops [o] S fun S'=>mixW P ops r S' K
 | (i,false) :: r,S,K=>bindV (nthX ops.toList i) fun o=>match o.guard with
  | none=>opW P false S o (fun v S'=>preX S.m S'.m∧xsub S.x S'.x∧mixW P ops r (S'.put o.dst v) K) (fun _ _=>False)
  | some _=>False
@[congr] theorem mixW_congr {P:Program} {ops:Array Oper} {l:List (Nat×Bool)} {S S':St} {K:St→Prop} (h:hold S=S'):mixW P ops l S K=mixW P ops l S' K:=by rw [←h]; rfl
theorem QpJ {P:Program} {ops:Array Oper} {S:St} {K:St→Prop}:mixW P ops [] S K=K S:=propext ⟨fun h=>h,fun h=>h⟩
theorem QpK {P:Program} {l:List Oper} {i:Nat} {r:List (Nat×Bool)} {S:St} {K:St→Prop}:mixW P l.toArray ((i,true) :: r) S K=bindV (nthX l i) fun o=>headW P l.toArray [o] S fun S'=>mixW P l.toArray r S' K:=propext ⟨fun h=>h,fun h=>h⟩
def loudW (P:Program) (ops:Array Oper) (r:List (Nat×Bool)) (S:St) (K:St→Prop) (o:Oper):Prop:=match o.guard with
 | none=>opW P false S o (fun v S'=>preX S.m S'.m∧xsub S.x S'.x∧mixW P ops r (S'.put o.dst v) K) (fun _ _=>False)
 | some _=>False
@[congr] theorem loudW_congr {P:Program} {ops:Array Oper} {r:List (Nat×Bool)} {S S':St} {K:St→Prop} {o:Oper} (h:hold S=S'):loudW P ops r S K o=loudW P ops r S' K o:=by rw [←h]; rfl
theorem QpI {P:Program} {l:List Oper} {i:Nat} {r:List (Nat×Bool)} {S:St} {K:St→Prop}:mixW P l.toArray ((i,false) :: r) S K=bindV (nthX l i) fun o=>loudW P l.toArray r S K o:=propext ⟨fun h=>h,fun h=>h⟩
theorem Qpw {P:Program} {ops:Array Oper} {r:List (Nat×Bool)} {S:St} {K:St→Prop} {d:Option Nat} {op:Op} {ty:TypeId} {pos:String} {af:Array Edge} :
  loudW P ops r S K ⟨d,op,ty,pos,af,none⟩=opW P false S ⟨d,op,ty,pos,af,none⟩ (fun v S'=>preX S.m S'.m∧xsub S.x S'.x∧mixW P ops r (S'.put d v) K) (fun _ _=>False):=propext ⟨fun h=>h,fun h=>h⟩
section
variable {P:Program} {ops:Array Oper} {bs:List Nat} {w0:WM} {n:Nat} {ds:List Deferred}
theorem Qkd {md:Region.Mode} {Q:Exit→Act→WM→Prop} {D D':WM→Prop} (h:∀ w,D w→D' w):∀ (f:Nat) (listed:Array Bool) (a:Act) (w:WM),wpX P md ops Q D f listed a w→wpX P md ops Q D' f listed a w
 | 0,_,_,_,k=>k
 | f+1,_,_,_,k=>⟨k.1,fun i hi=>QcA (fun a' w' h'=>⟨h _ h'.1,fun w'' hw=>Qkd h f _ a' w'' (h'.2 w'' hw)⟩) (k.2 i hi)⟩
theorem Qd4 {s s':Nat→Nat} {m M:List RO} {x x':Nat→Obj→Prop} {w w':WM} (h0:Mem s m x w) (h:Mem s' M x' w') (hp:preX m M) (hx:xsub x x') (ha:∀ k,k < m.length→s' k=s k):Mem s m x w':=
 ⟨fun k o hk=>by
   have hlt:=(List.getElem?_eq_some_iff.1 hk).1
   have:=h.mem k o (Qg5 hp k o hk)
   rw [ha k hlt,Qg8 ha (h0.cm k o hk)] at this
   exact this,
  h0.inj,h0.cm,fun b o hb=>h.ext b o (hx b o hb),h0.apart,fun k hk=>by rw [←ha k hk]; exact h.mine k (Nat.lt_of_lt_of_le hk (Qca hp)),fun b o hb=>h.know b o (hx b o hb),h.wf⟩
theorem Qkc {Q:Exit→Act→WM→Prop} {K:St→Prop} (hsel:Region.noSelect ops=true) (hQ:∀ c a d v w,Q (.panic c) (a.put d v) w→Q (.panic c) a w)
  (hK:∀ s S a w,Rep bs w0 n ds s S a w→K S→Q .normal a w) (hall:dOk n ops.toList=true) :
  ∀ (l:List (Nat×Bool)) (listed:Array Bool) (s:Nat→Nat) (S:St) (a:Act) (w:WM),mixB ops l listed=true→Rep bs w0 n ds s S a w→mixW P ops l S K →
   wpX P .any ops Q (fun w'=>Mem s S.m S.x w'∧Fr bs w0 w') l.length listed a w
 | [],listed,s,S,a,w,hB,hr,h=>⟨by simpa [mixB] using hB,hK s S a w hr h⟩
 | (i,true) :: l,listed,s,S,a,w,hB,hr,h=>by
  simp only [mixB,Bool.and_eq_true] at hB
  obtain ⟨⟨hr1,hf⟩,hB'⟩:=hB
  have hr':i∈Region.ready .any ops listed:=by simpa using hr1
  obtain ⟨o,ho,h⟩:=Qak h
  rw [Qay] at ho
  have h0:ops[i]? = some o:=by simpa using ho
  have hd1:dOk n [o]=true:=by
   simp only [dOk,List.all_cons,List.all_nil,Bool.and_true]
   exact List.all_eq_true.1 hall o (List.mem_of_getElem? ho)
  have hq:=Qez (wS:=w) (ds:=ds) (D:=fun w'=>Mem s S.m S.x w'∧Fr bs w0 w') (fun _ h=>h.1) hall [o] S a hd1 rfl rfl hr.sl hr.mr hr.size hr.df h
  obtain ⟨v,hy,S',h1,h2,h3,h4,h5,h6⟩:=hq
  refine Qka Qdg h0 (Region.noSelect_spec hsel) (fun c a w=>hQ c a _ _ w) _ listed a w (Region.free_spec h0 hf) hr' hy ⟨hr.mr,hr.fr⟩ fun w' hw'=>?_
  have hrep:Rep bs w0 n ds s S' (a.put o.dst v) w':=
   ⟨by rw [h1,h2]; exact hr.mr.keep hw'.1 hw'.2,by rw [h1]; exact hr.own,hr.fr.trans (hw'.1.mono (by simp)),h4,h3,h5⟩
  have:=Qkc hsel hQ hK hall l (listed.setIfInBounds i true) s S' _ w' hB' hrep h6
  rw [h1,h2] at this
  exact this
 | (i,false) :: l,listed,s,S,a,w,hB,hr,h=>by
  simp only [mixB,Bool.and_eq_true,decide_eq_true_eq] at hB
  obtain ⟨o,ho,h7⟩:=Qak h
  rw [Qay] at ho
  have h8:loudW P ops l S K o:=h7
  clear h h7
  have h0:ops[i]? = some o:=by simpa using ho
  have hd1:∀ i,o.dst=some i→i < n:=(Qb2 (l:=[]) (by
   simp only [dOk,List.all_cons,List.all_nil,Bool.and_true]
   exact List.all_eq_true.1 hall o (List.mem_of_getElem? ho))).1
  refine ⟨fun h1=>(by rw [hB.1] at h1; cases h1),fun j hj=>?_⟩
  rw [hB.1] at hj
  have hik:j=i:=by simpa using hj
  subst hik
  unfold wpOp
  simp only [h0]
  unfold loudW at h8
  cases hg:o.guard with
  | some g=>simp only [hg] at h8
  | none=>
   simp only [hg] at h8
   simp only [Region.wanted,hg,if_true]
   refine Qcs hr h8 (fun s2 v S2 w2 hag hv hr2 hk=>?_) (fun u s2 S2 w2 _ hp=>hp.elim)
   obtain ⟨k1,k2,k3⟩:=hk
   refine ⟨⟨Qd4 hr.mr hr2.mr k1 k2 hag,hr2.fr⟩,fun w3 hw3=>?_⟩
   have hr3:=(hr2.put hd1 hv).step (by rw [St.put_m,St.put_x]; exact hr2.mr.keep hw3.1 hw3.2) (hw3.1.mono (by simp))
   have:=Qkc hsel hQ hK hall l (listed.setIfInBounds j true) s2 _ _ w3 hB.2 hr3 k3
   rw [St.put_m,St.put_x] at this
   exact Qkd (fun w4 h4=>⟨Qd4 hr.mr h4.1 k1 k2 hag,h4.2⟩) _ _ _ _ this
end
section
variable {P:Program} {G:Ctx} {Q:Exit→St→Prop} {S:St}
theorem Qty {id:Nat} {ops:Array Oper} (steps:List (Nat×Bool)) (hm:P.follows .mixedOrders=true) (hd:dOk G.n ops.toList=true) (hB:lexMB ops steps=true)
  (h:mixW P ops steps S (Q .normal)):Sd P G (.region id ops true) Q S:=fun s a w hr=>by
 simp only [lexMB,Bool.and_eq_true,beq_iff_eq] at hB
 obtain ⟨⟨hsel,hn⟩,hlex⟩:=hB
 refine Wp.mono (Q:=noPanA (Lift G Q)) (Qec hm fun wr hrel=>QfI (D:=fun w'=>Mem s S.m S.x w'∧Fr G.bs G.w0 w') Qdg _ _ _ _ ?_) Qjc
 have hr':=(hr.rely hrel).drew
 have:=Qkc (Q:=noPanA (Lift G Q)) (K:=Q .normal) hsel (fun _ _ _ _ _ h=>h.elim) (fun s S a w hr h=>⟨s,S,hr,h⟩) hd steps _ s S a _ hlex hr' h
 rw [hn] at this
 exact this
def lxM (f:Func) (i:Nat) (steps:List (Nat×Bool)):Bool:=match rgF f i with
 | some ops=>lexMB ops steps
 | none=>false
theorem QeX {f:Func} {i:Nat} {l:List Oper} {steps:List (Nat×Bool)} (hl:lxM f i steps=true) (he:rgF f i=some l.toArray) (hm:P.follows .mixedOrders=true) (hd:dOk G.n l=true)
  (h:mixW P l.toArray steps S (Q .normal)):cW P G (.region i l.toArray true) Q S:=
 Qty (ops:=l.toArray) steps hm (by simpa using hd) (by rw [lxM,he] at hl; exact hl) h
end
end R
namespace R
def xOwn (m:List RO) (s:Nat→Nat):Nat→Obj→Prop:=fun b o=>∃ k o1,m[k]? = some o1∧b=s k∧o=renO s o1
def retV:List Value→Value
 | [v]=>v
 | vs=>.tuple vs.toArray
structure RetE (P:Program) (x:Nat→Obj→Prop) (g:FuncId) (args:List Value) (R:Value→(Nat→Obj→Prop)→Prop):Prop where
 out:∀ w:WM,(∀ b o,x b o→w.heap[b]? = some o∧w.O b)→(∀ b,w.O b→b < w.heap.size)→Calls P g args.toArray w fun e w'=>∃ v x',e=.returned v∧R v x'∧(∀ b o,x' b o→w'.heap[b]? = some o∧¬ w.O b∧w'.O b)∧Fr [] w w'∧NewOk w'
theorem callE' {P:Program} {S:St} {g:FuncId} {asq:List RV} {R:Value→(Nat→Obj→Prop)→Prop} {K:RV→St→Prop} {Pn:Value→St→Prop} (hg:goes P g)
  (hr:∀ s:Nat→Nat,RetE P (xAll S s) g (asq.map (ren s)) R)
  (h:∀ (v:Value) (x' x'':Nat→Obj→Prop),R v x'→xsub S.x x''→xsub x' x''→K (.ext v) ⟨S.t,S.m,x''⟩):callW P false S (some (g,asq)) K Pn:=by
 refine .inl ⟨hg,.inr ⟨rfl,fun s w hm=>?_⟩⟩
 refine ((hr s).out w (Qhq hm) hm.wf).mono fun e w' ⟨v,x',h1,h2,h3,h4,h5⟩=>?_
 refine ⟨h4.mono (by simp),.inl ⟨.ext v,⟨S.t,S.m,fun b o=>S.x b o∨x' b o⟩,h1,rfl,rfl,rfl,?_,h v x' _ h2 (fun b o hb=>.inl hb) (fun b o hb=>.inr hb)⟩⟩
 have k:=hm.keep h4 h5
 refine ⟨k.mem,k.inj,k.cm,?_,?_,k.mine,?_,k.wf⟩
 ·rintro b o (hb | hb)
  ·exact k.ext b o hb
  ·exact (h3 b o hb).1
 ·rintro b o (hb | hb) i hi
  ·exact k.apart b o hb i hi
  ·have:=(h3 b o hb).2.1
   exact fun e=>this (e▸.inl (hm.mine i hi))
 ·rintro b o (hb | hb)
  ·exact k.know b o hb
  ·exact (h3 b o hb).2.2
theorem callE {P:Program} {S:St} {g:FuncId} {asq:List RV} {es:List Value} {R:Value→(Nat→Obj→Prop)→Prop} {K:RV→St→Prop} {Pn:Value→St→Prop} (hg:goes P g) (he:toExts asq=some es)
  (hr:RetE P S.x g es R)
  (h:∀ (v:Value) (x' x'':Nat→Obj→Prop),R v x'→xsub S.x x''→xsub x' x''→K (.ext v) ⟨S.t,S.m,x''⟩):callW P false S (some (g,asq)) K Pn:=by
 refine callE' hg (fun s=>?_) h
 have e:=Qa9 he
 subst e
 rw [Qax]
 exact ⟨fun w hx hwf=>hr.out w (fun b o hb=>hx b o (.inl hb)) hwf⟩
def BackE (P:Program) (fn:Func) (R:Value→(Nat→Obj→Prop)→Prop):Exit→St→Prop
 | .normal,S=>resL P S fn.results.toList (fun vs=>∀ s:Nat→Nat,R (retV (vs.map (ren s))) (xOwn S.m s))
 | .ret,S=>resL P S fn.results.toList (fun vs=>∀ s:Nat→Nat,R (retV (vs.map (ren s))) (xOwn S.m s))
 | _,_=>False
theorem QjA {P:Program} {x:Nat→Obj→Prop} {f:FuncId} {fn:Func} {c:Code} {args:List Value} {R:Value→(Nat→Obj→Prop)→Prop} (hf:P.funcs[f]? = some fn) (hb:fn.body=some c) (hn:Nat.ble args.length fn.ntmps=true)
  (h:∀ w,Sd P ⟨[],w,fn.ntmps,[]⟩ c (BackE P fn R) { t:=mkT 0 (args.map .ext),m:=[],x }):RetE P x f args R:=by
 refine ⟨fun w hx hwf=>?_⟩
 have:=Qci (s:=fun _=>0) (args:=args.map .ext) (R:=fun e w'=>∃ v x',e=.returned v∧R v x'∧(∀ b o,x' b o→w'.heap[b]? = some o∧¬ w.O b∧w'.O b)∧Fr [] w w'∧NewOk w') (bs:=[]) (m:=[]) (x:=x) hf hb (by simpa using Nat.le_of_ble_eq_true hn)
  ⟨fun k o hk=>by simp at hk,fun j k hj=>by simp at hj,fun k o hk=>by simp at hk,fun b o hb=>(hx b o hb).1,fun b o _ k hk=>by simp at hk,fun k hk=>by simp at hk,fun b o hb=>(hx b o hb).2,hwf⟩ (.none fun k hk=>by simp at hk) (by simp [clo]) (h w) ?_
 ·rwa [Qax] at this
 ·intro e s S a w' hr hq
  have main:resL P S fn.results.toList (fun vs=>∀ s:Nat→Nat,R (retV (vs.map (ren s))) (xOwn S.m s)) →
    a.defers=[]∧∀ w1,Rely w' w1→∃ v,(results fn a.tmps).run P w1.w=.ok v w1.w∧EvIn w1 ((results fn a.tmps).events P w1.w #[]) ∧
     ∃ v' x',(Ending.returned v)=.returned v'∧R v' x'∧(∀ b o,x' b o→w1.heap[b]? = some o∧¬ w.O b∧w1.O b)∧Fr [] w w1∧NewOk w1:=by
   intro h1
   refine ⟨hr.df,fun w1 hrel=>?_⟩
   have hr1:=hr.rely hrel
   obtain ⟨vs,g1,g2,g3⟩:=Qc0 (fn:=fn) hr1.sl hr1.mr h1
   have e:(if hv:vs.length=1 then ren s (vs[0]'(by omega)) else .tuple (vs.map (ren s)).toArray)=retV (vs.map (ren s)):=by
    match vs with
    | []=>rfl
    | [v]=>rfl
    | _ :: _ :: _=>simp [retV]
   rw [e] at g1
   refine ⟨retV (vs.map (ren s)),g1.1,g1.2,_,xOwn S.m s,rfl,g3 s,?_,hr1.fr,hr1.mr.new⟩
   rintro b o ⟨k,o1,hk,rfl,rfl⟩
   have hlt:=(List.getElem?_eq_some_iff.1 hk).1
   refine ⟨hr1.mr.mem k o1 hk,fun ho=>?_,.inl (hr1.mr.mine k hlt)⟩
   have:=hwf _ ho
   rcases hr.own.mem hlt with h | h
   ·simp at h
   ·omega
  cases e with
  | normal=>exact main hq
  | ret=>exact main hq
  | _=>exact hq.elim
structure RowIs (row:List RV) (z n cap:Nat) (L:List RV):Prop where
 take:row.take (n * z)=L
 len:L.length=n * z
 size:row.length=cap * z
 le:n≤cap
 ext:∀ v∈row,∃ u,v=.ext u
theorem RowIs.room {row:List RV} {z n cap m:Nat} {L news:List RV} (h:RowIs row z n cap L) (hm:news.length=m * z) (hc:n+m≤cap) (he:∀ v∈news,∃ u,v=.ext u) :
  RowIs (row.take (n * z) ++ news ++ row.drop (n * z+news.length)) z (n+m) cap (L ++ news):=by
 have h1:=h.len
 have h2:=h.size
 have h3:(n+m) * z≤cap * z:=Nat.mul_le_mul_right _ hc
 have h4:(n+m) * z=n * z+m * z:=Nat.add_mul _ _ _
 refine ⟨?_,by rw [List.length_append]; omega,?_,hc,?_⟩
 ·rw [h.take,List.take_left' (by rw [List.length_append]; omega)]
 ·simp only [List.length_append,List.length_take,List.length_drop]
  omega
 ·intro v hv
  simp only [List.mem_append] at hv
  rcases hv with (hv | hv) | hv
  ·exact h.ext v (List.mem_of_mem_take hv)
  ·exact he v hv
  ·exact h.ext v (List.mem_of_mem_drop hv)
theorem Qki (zs:List Value) (k:Nat):(zrow zs k).length=k * zs.length:=by simp [zrow,Builtin.zeroCells]
theorem QbG (zs:List Value) (k:Nat):∀ v∈zrow zs k,∃ u,v=.ext u:=fun v hv=>by
 obtain ⟨u,_,rfl⟩:=List.mem_map.1 hv
 exact ⟨u,rfl⟩
theorem RowIs.grow {row:List RV} {z n cap m cap':Nat} {L news:List RV} {zs:List Value} (h:RowIs row z n cap L) (hz:zs.length=z) (hm:news.length=m * z) (hc:n+m≤cap') (he:∀ v∈news,∃ u,v=.ext u) :
  RowIs (row.take (n * z) ++ news ++ zrow zs (cap' - (n+m))) z (n+m) cap' (L ++ news):=by
 have h1:=h.len
 have h2:=h.size
 have h4:(n+m) * z=n * z+m * z:=Nat.add_mul _ _ _
 have h5:(cap' - (n+m)) * z+(n+m) * z=cap' * z:=by rw [←Nat.add_mul]; congr 1; omega
 have h6:=Qki zs (cap' - (n+m))
 rw [hz] at h6
 refine ⟨?_,by rw [List.length_append]; omega,?_,hc,?_⟩
 ·rw [h.take,List.take_left' (by rw [List.length_append]; omega)]
 ·rw [h.take]
  simp only [List.length_append]
  omega
 ·intro v hv
  simp only [List.mem_append] at hv
  rcases hv with (hv | hv) | hv
  ·exact h.ext v (List.mem_of_mem_take hv)
  ·exact he v hv
  ·exact QbG _ _ v hv
theorem RowIs.first {z m cap':Nat} {news:List RV} {zs:List Value} (hz:zs.length=z) (hm:news.length=m * z) (hc:m≤cap') (he:∀ v∈news,∃ u,v=.ext u) :
  RowIs (news ++ zrow zs (cap' - m)) z m cap' news:=by
 have h5:(cap' - m) * z+m * z=cap' * z:=by rw [←Nat.add_mul]; congr 1; omega
 have h6:=Qki zs (cap' - m)
 rw [hz] at h6
 refine ⟨List.take_left' hm,hm,?_,hc,?_⟩
 ·simp only [List.length_append]
  omega
 ·intro v hv
  simp only [List.mem_append] at hv
  rcases hv with hv | hv
  ·exact he v hv
  ·exact QbG _ _ v hv
theorem RowIs.clo {row:List RV} {z n cap:Nat} {L:List RV} (h:RowIs row z n cap L) (k T:Nat):cloO k (.cells T row)=true:=by
 simp only [cloO,List.all_eq_true]
 intro v hv
 obtain ⟨u,rfl⟩:=h.ext v hv
 rfl
theorem RowIs.get {row:List RV} {z n cap:Nat} {L:List RV} (h:RowIs row z n cap L) {j:Nat} (hj:j < n * z):row[j]? = L[j]?:=by
 rw [←h.take,List.getElem?_take,if_pos hj]
theorem QcE {P:Program} {S:St} {ts:Array TypeId} {e bytes m k c:Nat} {zs:List Value} {T:TypeId} {row:List RV} {K:RV→St→Prop} (hs:appS P ts=some (e,zs,bytes)) (hm:0 < m) (hmx:m≤maxLen∧m * bytes≤140737488355328)
  (hk:nthX S.m k=some (.cells T row)) (hr:row.length=m * zs.length) (h1:row.all one=true)
  (h:∀ cap,m≤cap→cap≤maxLen→K (.sl S.m.length 0 m cap) ⟨S.t,S.m ++ [.cells e (row ++ zrow zs (cap - m))],S.x⟩):appW P S ts (.ext (.slice none 0 0)) (.sl k 0 m c) K:=by
 have e1:(row.drop 0).take (m * zs.length)=row:=by rw [List.drop_zero,List.take_of_length_le (by omega)]
 refine .inl ⟨e,zs,bytes,hs,.inr ⟨T,row,by rw [←Qay]; exact hk,by omega,by rw [e1]; exact h1,?_⟩⟩
 rw [e1]
 exact .inl ⟨rfl,hm,hmx.1,hmx.2,h⟩
theorem QhD {P:Program} {S:St} {ts:Array TypeId} {e bytes j n cap c:Nat} {a:Option Addr} {zs:List Value} {K:RV→St→Prop} (hs:appS P ts=some (e,zs,bytes)) (hn:n≤cap) (h:K (.sl j 0 n cap) S):appW P S ts (.sl j 0 n cap) (.ext (.slice a 0 c)) K:=
 .inl ⟨e,zs,bytes,hs,.inl ⟨⟨a,c,rfl⟩,.inr ⟨j,n,cap,rfl,hn,h⟩⟩⟩
theorem Qkw {P:Program} {S:St} {ts:Array TypeId} {e bytes m b off c j n cap:Nat} {zs:List Value} {old:List RV} {l:List Value} {K:RV→St→Prop} (hs:appS P ts=some (e,zs,bytes)) (hmx:n+m≤maxLen∧(n+m) * bytes≤140737488355328)
  (hl:l.length=m * zs.length) (hx:∀ i u,l[i]? = some u→u.oneCell'=true∧∃ c T f,S.x b (.cells c T f)∧c[off+i]? = some u) (hj:nthX S.m j=some (.cells e old)) (ho:n * zs.length≤old.length) (hg:cap < n+m)
  (hgrow:∀ cap',n+m≤cap'→cap'≤maxLen→K (.sl S.m.length 0 (n+m) cap') ⟨S.t,S.m ++ [.cells e (old.take (n * zs.length) ++ l.map .ext ++ zrow zs (cap' - (n+m)))],S.x⟩) :
  appW P S ts (.sl j 0 n cap) (.ext (.slice (some ⟨b,off,none⟩) m c)) K:=
 .inl ⟨e,zs,bytes,hs,.inr ⟨l,hl,hx,.inr (.inr ⟨j,n,cap,old,rfl,by rw [←Qay]; exact hj,ho,fun hc=>absurd hc (by omega),fun _=>⟨hmx.1,hmx.2,hgrow⟩⟩)⟩⟩
theorem QcF {P:Program} {S:St} {ts:Array TypeId} {e bytes m k c j n cap:Nat} {zs:List Value} {T:TypeId} {row old:List RV} {K:RV→St→Prop} (hs:appS P ts=some (e,zs,bytes)) (hmx:n+m≤maxLen∧(n+m) * bytes≤140737488355328)
  (hk:nthX S.m k=some (.cells T row)) (hr:row.length=m * zs.length) (h1:row.all one=true) (hj:nthX S.m j=some (.cells e old)) (ho:old.length=cap * zs.length) (hn:n≤cap)
  (hroom:n+m≤cap→K (.sl j 0 (n+m) cap) ⟨S.t,setX S.m j (.cells e (old.take (n * zs.length) ++ row ++ old.drop (n * zs.length+row.length))),S.x⟩)
  (hgrow:∀ cap',n+m≤cap'→cap'≤maxLen→K (.sl S.m.length 0 (n+m) cap') ⟨S.t,S.m ++ [.cells e (old.take (n * zs.length) ++ row ++ zrow zs (cap' - (n+m)))],S.x⟩):appW P S ts (.sl j 0 n cap) (.sl k 0 m c) K:=by
 have e1:(row.drop 0).take (m * zs.length)=row:=by rw [List.drop_zero,List.take_of_length_le (by omega)]
 have e2:n * zs.length≤cap * zs.length:=Nat.mul_le_mul_right _ hn
 refine .inl ⟨e,zs,bytes,hs,.inr ⟨T,row,by rw [←Qay]; exact hk,by omega,by rw [e1]; exact h1,?_⟩⟩
 rw [e1]
 refine .inr (.inr ⟨j,n,cap,old,rfl,by rw [←Qay]; exact hj,by omega,fun hc=>⟨?_,?_⟩,fun hc=>⟨hmx.1,hmx.2,hgrow⟩⟩)
 ·have:(n+m) * zs.length≤cap * zs.length:=Nat.mul_le_mul_right _ hc
  rw [Nat.add_mul] at this
  omega
 ·have:=hroom hc
  rw [QbV] at this
  exact this
theorem Qt5 {P:Program} {S:St} {ts:Array TypeId} {e bytes m k c b off n cap:Nat} {zs:List Value} {T:TypeId} {row:List RV} {l:List Value} {K:RV→St→Prop} (hs:appS P ts=some (e,zs,bytes)) (hl:l.length=n * zs.length)
  (hx:∀ i u,l[i]? = some u→∃ c T f,S.x b (.cells c T f)∧c[off+i]? = some u) (hmx:n+m≤maxLen∧(n+m) * bytes≤140737488355328) (hg:cap < n+m)
  (hk:nthX S.m k=some (.cells T row)) (hr:row.length=m * zs.length) (h1:row.all one=true)
  (h:∀ cap',n+m≤cap'→cap'≤maxLen→K (.sl S.m.length 0 (n+m) cap') ⟨S.t,S.m ++ [.cells e (l.map .ext ++ row ++ zrow zs (cap' - (n+m)))],S.x⟩):appW P S ts (.ext (.slice (some ⟨b,off,none⟩) n cap)) (.sl k 0 m c) K:=by
 have e1:(row.drop 0).take (m * zs.length)=row:=by rw [List.drop_zero,List.take_of_length_le (by omega)]
 refine .inr ⟨e,zs,bytes,b,off,n,cap,hs,rfl,.inr ⟨l,hl,hx,T,row,by rw [←Qay]; exact hk,by omega,by rw [e1]; exact h1,?_⟩⟩
 rw [e1]
 exact ⟨hg,hmx.1,hmx.2,h⟩
theorem QwC {P:Program} {S:St} {ts:Array TypeId} {e bytes m k b2 off2 c2 cap:Nat} {zs:List Value} {T:TypeId} {row:List RV} {l:List Value} {K:RV→St→Prop} (hs:appS P ts=some (e,zs,bytes)) (hl:l.length=m * zs.length)
  (hx:∀ i u,l[i]? = some u→u.oneCell'=true∧∃ c T f,S.x b2 (.cells c T f)∧c[off2+i]? = some u) (hk:nthX S.m k=some (.cells T row)) (hr:row.length=m * zs.length)
  (h:K (.ext (.int .i64 m)) ⟨S.t,setX S.m k (.cells T (l.map .ext)),S.x⟩):copyW P S ts (.sl k 0 m cap) (.ext (.slice (some ⟨b2,off2,none⟩) m c2)) K:=by
 refine ⟨e,zs,bytes,hs,.inr ⟨l,hl,hx,k,0,cap,T,row,rfl,by rw [←Qay]; exact hk,by simp; omega,?_⟩⟩
 rw [QbV] at h
 have e1:row.take 0 ++ l.map RV.ext ++ row.drop (0+(l.map RV.ext).length)=l.map .ext:=by
  rw [List.take_zero,List.nil_append,List.drop_of_length_le (by simp; omega),List.append_nil]
 rw [e1]
 exact h
theorem QwE {P:Program} {S:St} {ts:Array TypeId} {e bytes k cap c:Nat} {a:Option Addr} {zs:List Value} {K:RV→St→Prop} (hs:appS P ts=some (e,zs,bytes)) (h:K (.ext (.int .i64 0)) S):copyW P S ts (.sl k 0 0 cap) (.ext (.slice a 0 c)) K:=
 ⟨e,zs,bytes,hs,.inl ⟨⟨a,c,k,0,cap,rfl,rfl⟩,h⟩⟩
def rvM (π:Nat→Nat):RV→RV
 | .ext v=>.ext v
 | .ptr k o=>.ptr (π k) o
 | .clos f cs=>.clos f (cs.map fun c=>(π c.1,c.2))
 | .mp k=>.mp (π k)
 | .sl k o l c=>.sl (π k) o l c
theorem QrH (s π:Nat→Nat):∀ v:RV,ren s (rvM π v)=ren (fun k=>s (π k)) v
 | .ext _=>rfl
 | .ptr _ _=>rfl
 | .clos _ cs=>by simp [rvM,ren,Function.comp_def]
 | .mp _=>rfl
 | .sl _ _ _ _=>rfl
def roM (π:Nat→Nat):RO→RO
 | .cells T c=>.cells T (c.map (rvM π))
 | .obj o=>.obj o
theorem QCD (s π:Nat→Nat):∀ o:RO,renO s (roM π o)=renO (fun k=>s (π k)) o
 | .cells T c=>by
  simp only [roM,renO,List.map_map]
  congr 2
  exact List.map_congr_left fun v _=>QrH s π v
 | .obj _=>rfl
def WkE (S S1:St):Prop:=∀ (G:Ctx),G.bs=[]→∀ (s:Nat→Nat) (a:Act) (w:WM),Rep G.bs G.w0 G.n G.ds s S a w→∃ s',Rep G.bs G.w0 G.n G.ds s' S1 a w
def wkRL (t:List (Nat×RV)) (n:Nat) (π:Nat→Nat):List (Nat×RV)→Prop
 | []=>True
 | p :: r=>(lk t p.1=some (rvM π p.2)∧clo n p.2=true)∧wkRL t n π r
theorem Qtc {t:List (Nat×RV)} {n:Nat} {π:Nat→Nat}:∀ {l:List (Nat×RV)},wkRL t n π l→∀ i v,lk l i=some v→lk t i=some (rvM π v)∧clo n v=true
 | [],_,i,v,h=>by simp [lk] at h
 | p :: r,hw,i,v,h=>by
  rw [Qa7] at h
  split at h
  ·rename_i he
   simp only [Option.some.injEq] at h
   subst h
   rw [he]
   exact hw.1
  ·exact Qtc hw.2 i v h
def memRL (m:List RO) (n:Nat) (π:Nat→Nat):Nat→List RO→Prop
 | _,[]=>True
 | k,o :: r=>(nthX m (π k)=some (roM π o)∧cloO n o=true)∧memRL m n π (k+1) r
theorem QpH {m:List RO} {n:Nat} {π:Nat→Nat}:∀ {l:List RO} {k:Nat},memRL m n π k l→∀ (j:Nat) (o:RO),l[j]? = some o→m[π (k+j)]? = some (roM π o)∧cloO n o=true
 | [],_,_,j,o,h=>by simp at h
 | p :: r,k,hw,0,o,h=>by
  simp only [List.getElem?_cons_zero,Option.some.injEq] at h
  subst h
  have:=hw.1
  rw [Qay] at this
  exact this
 | p :: r,k,hw,j+1,o,h=>by
  have:=QpH hw.2 j o (by simpa using h)
  rw [show k+(j+1)=k+1+j by omega]
  exact this
theorem QaI {t t1:List (Nat×RV)} {m m1:List RO} {x x1:Nat→Obj→Prop} (ps:List Nat) (hx:xsub x1 x) (ht:wkRL t m1.length (fun k=>ps.getD k 0) t1) (hm:memRL m m1.length (fun k=>ps.getD k 0) 0 m1) (hp:ps.Nodup) (hl:m1.length≤ps.length) :
  WkE ⟨t,m,x⟩ ⟨t1,m1,x1⟩:=fun G hbs s a w hr=>by
 have spec:=fun k o h=>by simpa using QpH hm k o h
 have lt:∀ k,k < m1.length→ps.getD k 0 < m.length:=fun k hk=>by
  have:=(spec k m1[k] (by simp [hk])).1
  exact (List.getElem?_eq_some_iff.1 this).1
 refine ⟨fun k=>s (ps.getD k 0),⟨⟨?_,?_,?_,fun b o hb=>hr.mr.ext b o (hx b o hb),?_,fun k hk=>hr.mr.mine _ (lt k hk),fun b o hb=>hr.mr.know b o (hx b o hb),hr.mr.wf⟩,?_,hr.fr,hr.size,?_,hr.df⟩⟩
 ·intro k o hk
  have h1:=hr.mr.mem _ _ (spec k o hk).1
  rw [QCD] at h1
  exact h1
 ·intro j k hj hk he
  have e:=hr.mr.inj _ _ (lt j hj) (lt k hk) he
  have hj':j < ps.length:=Nat.lt_of_lt_of_le hj hl
  have hk':k < ps.length:=Nat.lt_of_lt_of_le hk hl
  have ej:ps.getD j 0=ps[j]:=by simp [hj']
  have ek:ps.getD k 0=ps[k]:=by simp [hk']
  rw [ej,ek] at e
  exact (List.getElem_inj hp).1 e
 ·intro k o hk
  exact (spec k o hk).2
 ·intro b o hb k hk
  exact hr.mr.apart b o (hx b o hb) _ (lt k hk)
 ·have ho:=hr.own
  rw [hbs] at ho ⊢
  exact .none fun k hk=>(ho.mem (lt k hk)).resolve_left (by simp)
 ·intro i v hi
  obtain ⟨h1,h2⟩:=Qtc ht i v hi
  have:=(hr.slot i _ h1).1
  rw [QrH] at this
  exact ⟨this,h2⟩
section
variable {P:Program} {G:Ctx} {Q:Exit→St→Prop} {S:St}
theorem QtH {c:Code} (I:St→Prop) (μ:St→Nat) (h0:∃ S1,WkE S S1∧I S1)
  (round:∀ S,I S→Sd P G c (thenW (fun S'=>∃ S1,WkE S' S1∧I S1∧μ S1 < μ S) Q) S) (hbs:G.bs=[]:=by rfl):Sd P G (.loop c) Q S:=by
 suffices ∀ m,∀ S,I S→μ S=m→Sd P G (.loop c) Q S by
  obtain ⟨S1,hw,hi⟩:=h0
  exact fun s a w hr=>by
   obtain ⟨s',hr'⟩:=hw G hbs s a w hr
   exact this _ S1 hi rfl s' a w hr'
 intro m S hI hmm s a w hr
 refine Qeb (fun a w=>∃ s S,Rep G.bs G.w0 G.n G.ds s S a w∧I S∧True) (fun a w=>Classical.epsilon fun k=>∃ s S,Rep G.bs G.w0 G.n G.ds s S a w∧I S∧μ S=k∧∀ s' S',Rep G.bs G.w0 G.n G.ds s' S' a w→I S'→k≤μ S') ⟨s,S,hr,hI,trivial⟩ ?_
 clear hr hI hmm s a w S m
 rintro a w ⟨s,S,hr,hI,_⟩
 have hleast:∀ a w s S,Rep G.bs G.w0 G.n G.ds s S a w→I S→∃ k,∃ s S,Rep G.bs G.w0 G.n G.ds s S a w∧I S∧μ S=k∧∀ s' S',Rep G.bs G.w0 G.n G.ds s' S' a w→I S'→k≤μ S':=by
  intro a w
  suffices ∀ k,∀ s S,Rep G.bs G.w0 G.n G.ds s S a w→I S→μ S=k→∃ k,∃ s S,Rep G.bs G.w0 G.n G.ds s S a w∧I S∧μ S=k∧∀ s' S',Rep G.bs G.w0 G.n G.ds s' S' a w→I S'→k≤μ S' from
   fun s S h1 h2=>this _ s S h1 h2 rfl
  intro k
  induction k using Nat.strongRecOn with
  | _ k ih=>
   intro s S hr hI hk
   by_cases hl:∀ s' S',Rep G.bs G.w0 G.n G.ds s' S' a w→I S'→k≤μ S'
   ·exact ⟨k,s,S,hr,hI,hk,hl⟩
   ·simp only [Classical.not_forall] at hl
    obtain ⟨s',S',h1,h2,h3⟩:=hl
    exact ih (μ S') (by omega) s' S' h1 h2 rfl
 obtain ⟨s1,S1,hr1,hI1,hk1,hl1⟩:=Classical.epsilon_spec (hleast a w s S hr hI)
 refine (round S1 hI1 s1 a w hr1).mono ?_
 rintro e a' w' ⟨s',S',h1,h2⟩
 cases e with
 | normal=>
  obtain ⟨S2,hw2,hI2,hlt⟩:=h2
  obtain ⟨s4,hr2⟩:=hw2 G hbs s' a' w' h1
  obtain ⟨s3,S3,hr3,hI3,hk3,hl3⟩:=Classical.epsilon_spec (hleast a' w' s4 S2 hr2 hI2)
  refine ⟨⟨s4,S2,hr2,hI2,trivial⟩,?_⟩
  have:=hl3 s4 S2 hr2 hI2
  omega
 | _=>exact ⟨s',S',h1,h2⟩
end
theorem QtJ {α:Type} {P:Program} {G:Ctx} {Q:Exit→St→Prop} {S:St} {c:Code} (st:α→St) (J:α→Prop) (μ:α→Nat) (h0:∃ a,WkE S (st a)∧J a)
  (round:∀ a,J a→Sd P G c (thenW (fun S'=>∃ b,WkE S' (st b)∧J b∧μ b < μ a) Q) (st a)) (hbs:G.bs=[]:=by rfl):Sd P G (.loop c) Q S:=by
 have least:∀ k a,J a→μ a=k→∃ n b,J b∧st b=st a∧μ b=n∧∀ d,J d→st d=st a→n≤μ d:=by
  intro k
  induction k using Nat.strongRecOn with
  | _ k ih=>
   intro a ha hk
   by_cases h:∀ d,J d→st d=st a→k≤μ d
   ·exact ⟨k,a,ha,rfl,hk,h⟩
   ·simp only [Classical.not_forall] at h
    obtain ⟨d,h1,h2,h3⟩:=h
    obtain ⟨n,b,q1,q2,q3,q4⟩:=ih (μ d) (by omega) d h1 rfl
    exact ⟨n,b,q1,q2.trans h2,q3,fun e h4 h5=>q4 e h4 (h5.trans h2.symm)⟩
 let mu:St→Nat:=fun S=>Classical.epsilon fun n=>∃ b,J b∧st b=S∧μ b=n∧∀ d,J d→st d=S→n≤μ d
 have spec:∀ a,J a→∃ b,J b∧st b=st a∧μ b=mu (st a)∧∀ d,J d→st d=st a→mu (st a)≤μ d:=by
  intro a ha
  obtain ⟨n,h⟩:=least _ a ha rfl
  exact Classical.epsilon_spec (p:=fun n=>∃ b,J b∧st b=st a∧μ b=n∧∀ d,J d→st d=st a→n≤μ d) ⟨n,h⟩
 refine QtH (fun S=>∃ a,J a∧st a=S) mu ?_ ?_ hbs
 ·obtain ⟨a,h1,h2⟩:=h0
  exact ⟨st a,h1,a,h2,rfl⟩
 ·rintro _ ⟨a,ha,rfl⟩
  obtain ⟨b,hb,e,hm,hle⟩:=spec a ha
  have:=round b hb
  rw [e] at this
  refine QfK this ?_
  intro e S' h
  cases e with
  | normal=>
   obtain ⟨d,h1,h2,h3⟩:=h
   obtain ⟨b2,_,_,_,hle2⟩:=spec d h2
   have:=hle2 d h2 rfl
   exact ⟨st d,h1,⟨d,h2,rfl⟩,by omega⟩
  | _=>exact h
theorem QfT {α:Type} {P:Program} {G:Ctx} {Q:Exit→St→Prop} {S:St} {c:Code} (st:α→St) (J:α→Prop) (μ:α→Nat) (h0:∃ a,WkE S (st a)∧J a) (hc:cOk G.n c=true)
  (round:∀ a,J a→cW P G c (thenW (fun S'=>∃ b,WkE S' (st b)∧J b∧μ b < μ a) Q) (st a)) (hbs:G.bs=[]:=by rfl):cW P G (.loop c) Q S:=
 QtJ st J μ h0 (fun a ha=>Qaa hc (round a ha)) hbs
theorem QxQ {π:Nat→Nat} {row:List RV} (h:∀ v∈row,∃ u,v=.ext u):row.map (rvM π)=row:=by
 conv=>rhs; rw [←List.map_id row]
 exact List.map_congr_left fun v hv=>by obtain ⟨u,rfl⟩:=h v hv; rfl
theorem Qb3 {π:Nat→Nat} {T:TypeId} {row:List RV} (h:∀ v∈row,∃ u,v=.ext u):roM π (.cells T row)=.cells T row:=by
 simp only [roM,QxQ h]
end R
namespace R
inductive Plan where
 | fin
 | q (i:Nat) (r:Plan)
 | alt (i:Nat) (r rest:Plan)
def Plan.ids:Plan→List Nat
 | .alt i _ rest=>i :: rest.ids
 | _=>[]
def planB (ops:Array Oper):Plan→Bool→Nat→Array Bool→Bool
 | .fin,true,_,_=>true
 | .fin,false,0,listed=>(Region.ready .any ops listed).isEmpty
 | .q i r,false,n+1,listed=>(Region.ready .any ops listed).contains i && Region.free .any ops listed i && planB ops r false n (listed.setIfInBounds i true)
 | .alt i r rest,true,n+1,listed=>planB ops r false n (listed.setIfInBounds i true) && planB ops rest true (n+1) listed
 | .alt i r rest,false,n+1,listed=>decide (Region.ready .any ops listed=i :: rest.ids) && planB ops r false n (listed.setIfInBounds i true) && planB ops rest true (n+1) listed
 | _,_,_,_=>false
def lexPB (ops:Array Oper) (p:Plan):Bool:=Region.noSelect ops && planB ops p false ops.size (Array.replicate ops.size false)
def planW (P:Program) (ops:Array Oper):Plan→Bool→List RO→(Nat→Obj→Prop)→St→(St→Prop)→Prop
 | .fin,true,_,_,_,_=>True
 | .fin,false,_,_,S,K=>K S
 | .q _ _,true,_,_,_,_=>True
 | .q i r,false,m,x,S,K=>bindV (nthX ops.toList i) fun o=>headW P ops [o] S fun S'=>planW P ops r false S.m S.x S' K
 | .alt i r rest,_,m,x,S,K=>(bindV (nthX ops.toList i) fun o=>match o.guard with
   | none=>opW P false S o (fun v S'=>preX m S'.m∧xsub x S'.x∧planW P ops r false m x (S'.put o.dst v) K) (fun _ _=>False)
   | some _=>False)∧planW P ops rest true m x S K
def ploudW (P:Program) (ops:Array Oper) (r:Plan) (m:List RO) (x:Nat→Obj→Prop) (S:St) (K:St→Prop) (o:Oper):Prop:=match o.guard with
 | none=>opW P false S o (fun v S'=>preX m S'.m∧xsub x S'.x∧planW P ops r false m x (S'.put o.dst v) K) (fun _ _=>False)
 | some _=>False
@[congr] theorem planW_congr {P:Program} {ops:Array Oper} {p:Plan} {b:Bool} {m:List RO} {x:Nat→Obj→Prop} {S S':St} {K:St→Prop} (h:hold S=S'):planW P ops p b m x S K=planW P ops p b m x S' K:=by rw [←h]; rfl
@[congr] theorem ploudW_congr {P:Program} {ops:Array Oper} {r:Plan} {m:List RO} {x:Nat→Obj→Prop} {S S':St} {K:St→Prop} {o:Oper} (h:hold S=S'):ploudW P ops r m x S K o=ploudW P ops r m x S' K o:=by rw [←h]; rfl
theorem Qrb {P:Program} {ops:Array Oper} {m:List RO} {x:Nat→Obj→Prop} {S:St} {K:St→Prop}:planW P ops .fin true m x S K=True:=propext ⟨fun h=>h,fun h=>h⟩
theorem Qrc {P:Program} {ops:Array Oper} {m:List RO} {x:Nat→Obj→Prop} {S:St} {K:St→Prop}:planW P ops .fin false m x S K=K S:=propext ⟨fun h=>h,fun h=>h⟩
theorem Qrd {P:Program} {l:List Oper} {i:Nat} {r:Plan} {m:List RO} {x:Nat→Obj→Prop} {S:St} {K:St→Prop}:planW P l.toArray (.q i r) false m x S K=bindV (nthX l i) fun o=>headW P l.toArray [o] S fun S'=>planW P l.toArray r false S.m S.x S' K:=propext ⟨fun h=>h,fun h=>h⟩
theorem Qra {P:Program} {l:List Oper} {i:Nat} {b:Bool} {r rest:Plan} {m:List RO} {x:Nat→Obj→Prop} {S:St} {K:St→Prop} :
  planW P l.toArray (.alt i r rest) b m x S K=((bindV (nthX l i) fun o=>ploudW P l.toArray r m x S K o)∧planW P l.toArray rest true m x S K):=by
 cases b <;> exact propext ⟨fun h=>h,fun h=>h⟩
theorem Qrk {P:Program} {ops:Array Oper} {r:Plan} {m:List RO} {x:Nat→Obj→Prop} {S:St} {K:St→Prop} {d:Option Nat} {op:Op} {ty:TypeId} {pos:String} {af:Array Edge} :
  ploudW P ops r m x S K ⟨d,op,ty,pos,af,none⟩=opW P false S ⟨d,op,ty,pos,af,none⟩ (fun v S'=>preX m S'.m∧xsub x S'.x∧planW P ops r false m x (S'.put d v) K) (fun _ _=>False):=propext ⟨fun h=>h,fun h=>h⟩
section
variable {P:Program} {ops:Array Oper} {bs:List Nat} {w0:WM} {n:Nat} {ds:List Deferred}
def Alts:Plan→Nat→Plan→Prop
 | .alt i r rest,j,q=>(j=i∧q=r)∨Alts rest j q
 | _,_,_=>False
theorem Qkv:∀ {p:Plan} {j:Nat},j∈p.ids→∃ q,Alts p j q
 | .alt i r rest,j,h=>by
  simp only [Plan.ids,List.mem_cons] at h
  rcases h with rfl | h
  ·exact ⟨r,.inl ⟨rfl,rfl⟩⟩
  ·obtain ⟨q,hq⟩:=Qkv h
   exact ⟨q,.inr hq⟩
theorem QhB {listed:Array Bool} {n:Nat}:∀ {p:Plan} {b:Bool} {j:Nat} {q:Plan},Alts p j q→planB ops p b (n+1) listed=true→planB ops q false n (listed.setIfInBounds j true)=true
 | .alt i r rest,b,j,q,h,hB=>by
  cases b <;> simp only [planB,Bool.and_eq_true] at hB
  ·rcases h with ⟨rfl,rfl⟩ | h
   ·exact hB.1.2
   ·exact QhB h hB.2
  ·rcases h with ⟨rfl,rfl⟩ | h
   ·exact hB.1
   ·exact QhB h hB.2
theorem Qku {m:List RO} {x:Nat→Obj→Prop} {S:St} {K:St→Prop}:∀ {p:Plan} {b:Bool} {j:Nat} {q:Plan},Alts p j q→planW P ops p b m x S K→bindV (nthX ops.toList j) fun o=>ploudW P ops q m x S K o
 | .alt i r rest,b,j,q,h,hW=>by
  have hW':(bindV (nthX ops.toList i) fun o=>ploudW P ops r m x S K o)∧planW P ops rest true m x S K:=by cases b <;> exact hW
  rcases h with ⟨rfl,rfl⟩ | h
  ·exact hW'.1
  ·exact Qku h hW'.2
theorem Qke {Q:Exit→Act→WM→Prop} {K:St→Prop} (hsel:Region.noSelect ops=true) (hQ:∀ c a d v w,Q (.panic c) (a.put d v) w→Q (.panic c) a w)
  (hK:∀ s S a w,Rep bs w0 n ds s S a w→K S→Q .normal a w) (hall:dOk n ops.toList=true) :
  ∀ (f:Nat) (p:Plan) (m:List RO) (x:Nat→Obj→Prop) (s0:Nat→Nat) (wS:WM) (listed:Array Bool) (s:Nat→Nat) (S:St) (a:Act) (w:WM),planB ops p false f listed=true→Rep bs w0 n ds s S a w →
   Mem s0 m x wS→preX m S.m→xsub x S.x→(∀ k,k < m.length→s k=s0 k)→planW P ops p false m x S K →
   wpX P .any ops Q (fun w'=>Mem s0 m x w'∧Fr bs w0 w') f listed a w
 | 0,p,m,x,s0,wS,listed,s,S,a,w,hB,hr,hM,hp,hx,ha,h=>by
  cases p with
  | fin=>exact ⟨by simpa [planB] using hB,hK s S a w hr h⟩
  | q _ _=>simp [planB] at hB
  | alt _ _ _=>simp [planB] at hB
 | f+1,.fin,m,x,s0,wS,listed,s,S,a,w,hB,hr,hM,hp,hx,ha,h=>by simp [planB] at hB
 | f+1,.q i r,m,x,s0,wS,listed,s,S,a,w,hB,hr,hM,hp,hx,ha,h=>by
  simp only [planB,Bool.and_eq_true] at hB
  obtain ⟨⟨hr1,hf⟩,hB'⟩:=hB
  have hr':i∈Region.ready .any ops listed:=by simpa using hr1
  obtain ⟨o,ho,h⟩:=Qak h
  rw [Qay] at ho
  have h0:ops[i]? = some o:=by simpa using ho
  have hd1:dOk n [o]=true:=by
   simp only [dOk,List.all_cons,List.all_nil,Bool.and_true]
   exact List.all_eq_true.1 hall o (List.mem_of_getElem? ho)
  have hq:=Qez (wS:=w) (ds:=ds) (D:=fun w'=>Mem s S.m S.x w'∧Fr bs w0 w') (fun _ h=>h.1) hall [o] S a hd1 rfl rfl hr.sl hr.mr hr.size hr.df h
  obtain ⟨v,hy,S',h1,h2,h3,h4,h5,h6⟩:=hq
  refine Qkd (D:=fun w'=>Mem s S.m S.x w'∧Fr bs w0 w') (fun w4 h4=>⟨Qd4 hM h4.1 hp hx ha,h4.2⟩) _ _ _ _ ?_
  refine Qka Qdg h0 (Region.noSelect_spec hsel) (fun c a w=>hQ c a _ _ w) _ listed a w (Region.free_spec h0 hf) hr' hy ⟨hr.mr,hr.fr⟩ fun w' hw'=>?_
  have hrep:Rep bs w0 n ds s S' (a.put o.dst v) w':=
   ⟨by rw [h1,h2]; exact hr.mr.keep hw'.1 hw'.2,by rw [h1]; exact hr.own,hr.fr.trans (hw'.1.mono (by simp)),h4,h3,h5⟩
  exact Qke hsel hQ hK hall f r S.m S.x s w (listed.setIfInBounds i true) s S' _ w' hB' hrep hr.mr (by rw [h1]; exact Qao _) (by rw [h2]; exact fun _ _ h=>h) (fun _ _=>rfl) h6
 | f+1,.alt i r rest,m,x,s0,wS,listed,s,S,a,w,hB,hr,hM,hp,hx,ha,h=>by
  have hB0:=hB
  simp only [planB,Bool.and_eq_true,decide_eq_true_eq] at hB
  refine ⟨fun h1=>(by rw [hB.1.1] at h1; cases h1),fun j hj=>?_⟩
  rw [hB.1.1] at hj
  obtain ⟨q,hq⟩:=Qkv (p:=.alt i r rest) hj
  have hBq:=QhB hq hB0
  obtain ⟨o,ho,h8⟩:=Qak (Qku hq h)
  rw [Qay] at ho
  have h0:ops[j]? = some o:=by simpa using ho
  have hd1:∀ i,o.dst=some i→i < n:=(Qb2 (l:=[]) (by
   simp only [dOk,List.all_cons,List.all_nil,Bool.and_true]
   exact List.all_eq_true.1 hall o (List.mem_of_getElem? ho))).1
  unfold wpOp
  simp only [h0]
  unfold ploudW at h8
  cases hg:o.guard with
  | some g=>simp only [hg] at h8
  | none=>
   simp only [hg] at h8
   simp only [Region.wanted,hg,if_true]
   refine Qcs hr h8 (fun s2 v S2 w2 hag hv hr2 hk=>?_) (fun u s2 S2 w2 _ hp=>hp.elim)
   obtain ⟨k1,k2,k3⟩:=hk
   have ha2:∀ k,k < m.length→s2 k=s0 k:=fun k hk=>(hag k (Nat.lt_of_lt_of_le hk (Qca hp))).trans (ha k hk)
   refine ⟨⟨Qd4 hM hr2.mr k1 k2 ha2,hr2.fr⟩,fun w3 hw3=>?_⟩
   have hr3:=(hr2.put hd1 hv).step (by rw [St.put_m,St.put_x]; exact hr2.mr.keep hw3.1 hw3.2) (hw3.1.mono (by simp))
   exact Qke hsel hQ hK hall f q m x s0 wS (listed.setIfInBounds j true) s2 _ _ w3 hBq hr3 hM (by rw [St.put_m]; exact k1) (by rw [St.put_x]; exact k2) ha2 k3
end
section
variable {P:Program} {G:Ctx} {Q:Exit→St→Prop} {S:St}
theorem Qtz {id:Nat} {ops:Array Oper} (p:Plan) (S1:St) (hm:P.follows .mixedOrders=true) (hd:dOk G.n ops.toList=true) (hB:lexPB ops p=true)
  (h:planW P ops p false S.m S.x S (fun S'=>WkE S' S1)) (hQ:Q .normal S1) (hbs:G.bs=[]:=by rfl):Sd P G (.region id ops true) Q S:=fun s a w hr=>by
 simp only [lexPB,Bool.and_eq_true] at hB
 obtain ⟨hsel,hlex⟩:=hB
 refine Wp.mono (Q:=noPanA (Lift G Q)) (Qec hm fun wr hrel=>QfI (D:=fun w'=>Mem s S.m S.x w'∧Fr G.bs G.w0 w') Qdg _ _ _ _ ?_) Qjc
 have hr':=(hr.rely hrel).drew
 exact Qke (Q:=noPanA (Lift G Q)) (K:=fun S'=>WkE S' S1) hsel (fun _ _ _ _ _ h=>h.elim) (fun s S a w hr h=>by
  obtain ⟨s',hr2⟩:=h G hbs s a w hr
  exact ⟨s',S1,hr2,hQ⟩) hd ops.size p S.m S.x s w _ s S a _ hlex hr' hr.mr (Qao _) (fun _ _ h=>h) (fun _ _=>rfl) h
def lxP (f:Func) (i:Nat) (p:Plan):Bool:=match rgF f i with
 | some ops=>lexPB ops p
 | none=>false
theorem QuG {f:Func} {i:Nat} {l:List Oper} {p:Plan} (S1:St) (hl:lxP f i p=true) (he:rgF f i=some l.toArray) (hm:P.follows .mixedOrders=true) (hd:dOk G.n l=true)
  (h:planW P l.toArray p false S.m S.x S (fun S'=>WkE S' S1)) (hQ:Q .normal S1) (hbs:G.bs=[]:=by rfl):cW P G (.region i l.toArray true) Q S:=
 Qtz (ops:=l.toArray) p S1 hm (by simpa using hd) (by rw [lxP,he] at hl; exact hl) h hQ hbs
end
end R
namespace R
structure MemC (P:Program) (x:Nat→Obj→Prop) (g:FuncId) (T:TypeId) (c args:List Value) (K Pn:Value→List Value→(Nat→Obj→Prop)→Prop):Prop where
 out:∀ (b:Nat) (w:WM),w.heap[b]? = some (.cells c.toArray T (0,0))→w.M b→(∀ b' o,x b' o→(w.heap[b']? = some o∧w.O b')∧b'≠b)→(∀ b,w.O b→b < w.heap.size) →
  Calls P g (Value.pointer (some ⟨b,0,none⟩) :: args).toArray w fun e w'=>∃ c' x',w'.heap[b]? = some (.cells c'.toArray T (0,0))∧(Fr [b] w w'∧NewOk w')∧(∀ b' o,x' b' o→w'.heap[b']? = some o∧¬ w.O b'∧w'.O b') ∧
   ((∃ v,e=.returned v∧K v c' x')∨(∃ v,e=.panicked [{ v,recovered:=false }]∧Pn v c' x'))
def NewIn (x x':Nat→Obj→Prop):Prop:=∀ b o,x' b o→∀ o',¬ x b o'
theorem NewIn.mono {x x1 x':Nat→Obj→Prop} (h:NewIn x1 x') (hx:xsub x x1):NewIn x x':=fun b o hb o' ho=>h b o hb o' (hx b o' ho)
theorem Qf8 {c:List Value} {s:Nat→Nat} {T:TypeId}:renO s (.cells T (c.map .ext))=.cells c.toArray T (0,0):=by
 simp only [renO,Qax]
theorem callM {P:Program} {S:St} {g:FuncId} {T:TypeId} {k:Nat} {c es:List Value} {asq:List RV} {K0 Pn0:Value→List Value→(Nat→Obj→Prop)→Prop} {K:RV→St→Prop} {Pn:Value→St→Prop}
  (hg:goes P g) (hk:nthX S.m k=some (.cells T (c.map .ext))) (he:toExts asq=some es) (hm:MemC P S.x g T c es K0 Pn0)
  (h:∀ v c' x' x'',K0 v c' x'→xsub S.x x''→xsub x' x''→NewIn S.x x'→K (.ext v) ⟨S.t,setX S.m k (.cells T (c'.map .ext)),x''⟩)
  (hp:∀ v c' x' x'',Pn0 v c' x'→xsub S.x x''→xsub x' x''→NewIn S.x x'→Pn v ⟨S.t,setX S.m k (.cells T (c'.map .ext)),x''⟩):callW P false S (some (g,.ptr k 0 :: asq)) K Pn:=by
 refine .inl ⟨hg,.inr ⟨rfl,fun s w hM=>?_⟩⟩
 rw [Qay] at hk
 have hlt:=(List.getElem?_eq_some_iff.1 hk).1
 have e:=Qa9 he
 subst e
 have hb:=hM.mem k _ hk
 rw [Qf8] at hb
 simp only [List.map_cons,Qax]
 refine (hm.out (s k) w hb (hM.mine k hlt) (fun b' o hx=>⟨⟨hM.ext b' o hx,hM.know b' o hx⟩,fun e=>hM.apart b' o hx k hlt e.symm⟩) hM.wf).mono ?_
 rintro e w' ⟨c',x',h1,⟨h2,hnok⟩,h3,h4⟩
 have hnew:NewIn S.x x':=fun b o hx o' ho=>(h3 b o hx).2.1 (hM.know b o' ho)
 have hMem:Mem s (setX S.m k (.cells T (c'.map .ext))) (fun b o=>S.x b o∨x' b o) w':=by
  rw [QbV]
  refine ⟨?_,fun i j hi hj=>hM.inj i j (by simpa using hi) (by simpa using hj),?_,?_,?_,fun j hj=>h2.M _ (hM.mine j (by simpa using hj)),?_,h2.wf hM.wf hnok⟩
  ·intro j o hj
   have hjl:j < S.m.length:=by have:=(List.getElem?_eq_some_iff.1 hj).1; simpa using this
   by_cases hjk:j=k
   ·subst hjk
    rw [List.getElem?_set_self hlt] at hj
    simp only [Option.some.injEq] at hj
    subst hj
    rw [Qf8]; exact h1
   ·rw [List.getElem?_set_ne (fun e=>hjk e.symm)] at hj
    rw [h2.block (s j) (.inl (hM.mine j hjl)) (hM.lt hjl) (by simpa using fun e=>hjk (hM.inj j k hjl hlt e))]
    exact hM.mem j o hj
  ·intro j o hj
   have hjl:j < S.m.length:=by have:=(List.getElem?_eq_some_iff.1 hj).1; simpa using this
   rw [List.length_set]
   by_cases hjk:j=k
   ·subst hjk
    rw [List.getElem?_set_self hlt] at hj
    simp only [Option.some.injEq] at hj
    subst hj
    simp [cloO,clo]
   ·rw [List.getElem?_set_ne (fun e=>hjk e.symm)] at hj
    exact hM.cm j o hj
  ·rintro b o (hx | hx)
   ·have h0:=hM.ext b o hx
    rw [h2.block b (hM.know b o hx) (Array.getElem?_eq_some_iff.1 h0).1 (by simpa using fun e=>hM.apart b o hx k hlt e.symm)]
    exact h0
   ·exact (h3 b o hx).1
  ·rintro b o (hx | hx) j hj
   ·exact hM.apart b o hx j (by simpa using hj)
   ·have:=(h3 b o hx).2.1
    exact fun e=>this (e▸.inl (hM.mine j (by simpa using hj)))
  ·rintro b o (hx | hx)
   ·exact h2.O (hM.know b o hx)
   ·exact (h3 b o hx).2.2
 have hl:(setX S.m k (.cells T (c'.map .ext))).length=S.m.length:=by rw [QbV]; simp
 refine ⟨h2.mono fun b hb=>?_,?_⟩
 ·rw [List.mem_singleton.1 hb]
  exact List.mem_map.2 ⟨k,by simpa using hlt,rfl⟩
 rcases h4 with ⟨v,rfl,hk⟩ | ⟨v,rfl,hp'⟩
 ·exact .inl ⟨.ext v,⟨S.t,setX S.m k (.cells T (c'.map .ext)),fun b o=>S.x b o∨x' b o⟩,rfl,rfl,rfl,hl,hMem,h v c' x' _ hk (fun b o hb=>.inl hb) (fun b o hb=>.inr hb) hnew⟩
 ·exact .inr ⟨v,⟨S.t,setX S.m k (.cells T (c'.map .ext)),fun b o=>S.x b o∨x' b o⟩,rfl,rfl,hl,hMem,hp v c' x' _ hp' (fun b o hb=>.inl hb) (fun b o hb=>.inr hb) hnew⟩
def BackM (P:Program) (fn:Func) (T:TypeId) (x1:Nat→Obj→Prop) (K Pn:Value→List Value→(Nat→Obj→Prop)→Prop):Exit→St→Prop
 | .normal,S=>resL P S fn.results.toList (fun vs=>∃ us c' x' r,toExts vs=some us∧S.m=.cells T (c'.map .ext) :: r∧xsub x' S.x∧NewIn x1 x'∧K (retV us) c' x')
 | .ret,S=>resL P S fn.results.toList (fun vs=>∃ us c' x' r,toExts vs=some us∧S.m=.cells T (c'.map .ext) :: r∧xsub x' S.x∧NewIn x1 x'∧K (retV us) c' x')
 | .panic ch,S=>∃ v c' x' r,ch=[{ v,recovered:=false }]∧S.m=.cells T (c'.map .ext) :: r∧xsub x' S.x∧NewIn x1 x'∧Pn v c' x'
 | _,_=>False
theorem Qbw {P:Program} {x:Nat→Obj→Prop} {f:FuncId} {fn:Func} {code:Code} {T:TypeId} {c args:List Value} {K Pn:Value→List Value→(Nat→Obj→Prop)→Prop} (hf:P.funcs[f]? = some fn) (hb:fn.body=some code)
  (hn:Nat.ble (args.length+1) fn.ntmps=true)
  (h:∀ (b0:Nat) (w:WM) (x1:Nat→Obj→Prop),xsub x x1→Sd P ⟨[b0],w,fn.ntmps,[]⟩ code (BackM P fn T x1 K Pn) { t:=mkT 0 (.ptr 0 0 :: args.map .ext),m:=[.cells T (c.map .ext)],x:=x1 }) :
  MemC P x f T c args K Pn:=by
 refine ⟨fun b w hblk hMb hx hwf=>?_⟩
 have hblt:=(Array.getElem?_eq_some_iff.1 hblk).1
 let x1:Nat→Obj→Prop:=fun b' o=>(w.heap[b']? = some o∧w.O b')∧b'≠b
 have hs:=h b w x1 hx
 have:=Qci (s:=fun _=>b) (args:=.ptr 0 0 :: args.map .ext) (R:=fun e w'=>∃ c' x',w'.heap[b]? = some (.cells c'.toArray T (0,0))∧(Fr [b] w w'∧NewOk w')∧(∀ b' o,x' b' o→w'.heap[b']? = some o∧¬ w.O b'∧w'.O b') ∧
   ((∃ v,e=.returned v∧K v c' x')∨(∃ v,e=.panicked [{ v,recovered:=false }]∧Pn v c' x'))) (bs:=[b]) (m:=[.cells T (c.map .ext)]) (x:=x1) (Q:=BackM P fn T x1 K Pn) hf hb (by simpa using Nat.le_of_ble_eq_true hn)
  ⟨fun k o hk=>?_,fun j k hj hk _=>by simp at hj hk; omega,fun k o hk=>?_,fun b' o hb'=>hb'.1.1,fun b' o hb' k hk e=>hb'.2 e.symm,fun _ _=>hMb,fun b' o hb'=>hb'.1.2,hwf⟩ ⟨by simp,fun k hk=>.inl ⟨b,by simp at hk; subst hk; rfl,rfl⟩⟩ ?_ hs ?_
 ·simp only [List.map_cons,Qax] at this
  exact this
 ·match k with
  | 0=>
   simp only [List.getElem?_cons_zero,Option.some.injEq] at hk
   subst hk
   rw [Qf8]; exact hblk
  | k+1=>simp at hk
 ·match k with
  | 0=>
   simp only [List.getElem?_cons_zero,Option.some.injEq] at hk
   subst hk
   simp [cloO,clo]
  | k+1=>simp at hk
 ·intro v hv
  simp only [List.mem_cons,List.mem_map] at hv
  rcases hv with rfl | ⟨u,_,rfl⟩
  ·simp [clo]
  ·rfl
 ·intro e s S a w' hr hq
  have key:∀ (c':List Value) (r:List RO) (x':Nat→Obj→Prop),S.m=.cells T (c'.map .ext) :: r→xsub x' S.x→NewIn x1 x'→∀ w1,Rely w' w1 →
    w1.heap[b]? = some (.cells c'.toArray T (0,0))∧(Fr [b] w w1∧NewOk w1)∧(∀ b' o,x' b' o→w1.heap[b']? = some o∧¬ w.O b'∧w1.O b'):=by
   intro c' r x' hm hx' hn' w1 hrel
   have hr:=hr.rely hrel
   have h0:s 0=b:=by
    rcases hr.own.at_ 0 (by rw [hm]; simp) with ⟨b',h1,h2⟩ | ⟨h1,_⟩
    ·simp only [List.getElem?_cons_zero,Option.some.injEq] at h1
     rw [h2,h1]
    ·simp at h1
   have h1:=hr.mr.mem 0 (.cells T (c'.map .ext)) (by rw [hm]; rfl)
   rw [h0,Qf8] at h1
   refine ⟨h1,⟨hr.fr,hr.mr.new⟩,fun b' o hb'=>⟨hr.mr.ext b' o (hx' b' o hb'),fun ho=>?_,hr.mr.know b' o (hx' b' o hb')⟩⟩
   have hlt:=hwf b' ho
   refine hn' b' o hb' w.heap[b'] ⟨⟨by simp,ho⟩,fun e=>?_⟩
   exact hr.mr.apart b' o (hx' b' o hb') 0 (by rw [hm]; simp) (h0.trans e.symm)
  have main:resL P S fn.results.toList (fun vs=>∃ us c' x' r,toExts vs=some us∧S.m=.cells T (c'.map .ext) :: r∧xsub x' S.x∧NewIn x1 x'∧K (retV us) c' x') →
    a.defers=[]∧∀ w1,Rely w' w1→∃ v,(results fn a.tmps).run P w1.w=.ok v w1.w∧EvIn w1 ((results fn a.tmps).events P w1.w #[])∧∃ c' x',w1.heap[b]? = some (.cells c'.toArray T (0,0))∧(Fr [b] w w1∧NewOk w1)∧(∀ b' o,x' b' o→w1.heap[b']? = some o∧¬ w.O b'∧w1.O b') ∧
     ((∃ v',(Ending.returned v)=.returned v'∧K v' c' x')∨(∃ v',(Ending.returned v)=.panicked [{ v:=v',recovered:=false }]∧Pn v' c' x')):=by
   intro h1
   refine ⟨hr.df,fun w1 hrel=>?_⟩
   have hr1:=hr.rely hrel
   obtain ⟨vs,g1,g2,us,c',x',r,h2,h3,h4,h4',h5⟩:=Qc0 (fn:=fn) hr1.sl hr1.mr h1
   have e:=Qa9 h2
   subst e
   obtain ⟨k1,k2,k3⟩:=key c' r x' h3 h4 h4' w1 hrel
   have e:(if hv:(us.map RV.ext).length=1 then ren s ((us.map RV.ext)[0]'(by omega)) else .tuple ((us.map RV.ext).map (ren s)).toArray)=retV us:=by
    match us with
    | []=>rfl
    | [v]=>rfl
    | u1 :: u2 :: us=>simp [retV,ren,Function.comp_def]
   rw [e] at g1
   exact ⟨retV us,g1.1,g1.2,c',x',k1,k2,k3,.inl ⟨_,rfl,h5⟩⟩
  cases e with
  | normal=>exact main hq
  | ret=>exact main hq
  | panic ch=>
   obtain ⟨v,c',x',r,rfl,h3,h4,h4',h5⟩:=hq
   refine ⟨hr.df,fun w1 hrel=>?_⟩
   obtain ⟨k1,k2,k3⟩:=key c' r x' h3 h4 h4' w1 hrel
   exact ⟨c',x',k1,k2,k3,.inr ⟨v,rfl,h5⟩⟩
  | _=>exact hq.elim
end R
namespace R
def pureOp:Op→Bool
 | .move _ | .assign _ | .pick _ _ _ | .nilCheck _ | .binOp _ _ _ _ _ | .unOp _ _ _ | .convert _ _ _ | .makeInterface _ _ | .typeAssert _ _ _ _ | .extract _ _ | .field _ _ _ | .index _ _ _ | .build _ _ | .slice _ _ _ _ _ | .fieldAddr _ _ _ | .indexAddr _ _ _=>true
 | _=>false
section
variable {P:Program} {s:Nat→Nat} {S:St} {a:Act} {w:WM} {o:Oper}
theorem QBI {K:RV→St→Prop} {Pn:Value→St→Prop} {s0:Nat→Nat} {a0:Act} (hS:Sl s0 S a0) (hp:pureOp o.op=true) (h:opW P true S o K Pn) :
  ∃ v,clo S.m.length v=true∧K v S∧∀ (s:Nat→Nat) (a:Act) (w:WM),Sl s S a→qAt P o a w (ren s v):=by
 have pw:∀ {m:Sem Value} {K':Value→Prop},pureW P m K'→∃ v,Yields P m v∧K' v:=fun h=>h
 unfold opW at h
 split at h
 case h_1 x ho=>
  obtain ⟨v,h1,h2⟩:=QaL h
  exact ⟨v,(hS.eval h1).2,h2,fun s a w hs=>Qan (by simp only [execOp,ho,(hs.eval h1).1]; exact Qbk)⟩
 case h_2 x ho=>
  obtain ⟨v,h1,h2⟩:=QaL h
  exact ⟨v,(hS.eval h1).2,h2,fun s a w hs=>Qan (by simp only [execOp,ho,(hs.eval h1).1]; exact Qbk)⟩
 case h_3 c x y ho=>
  obtain ⟨u,h1,h⟩:=Qat h
  obtain ⟨v,h2,h⟩:=QaL h
  obtain ⟨v',h3,h⟩:=QaL h
  unfold pickW at h
  cases u with
  | bool t=>
   refine ⟨_,?_,QcU h,fun s a w hs=>Qan ?_⟩
   ·cases t
    ·exact (hS.eval h3).2
    ·exact (hS.eval h2).2
   ·have e1:=(hs.eval h1).1
    have e2:=(hs.eval h2).1
    have e3:=(hs.eval h3).1
    simp only [ren] at e1
    simp only [execOp,ho,e1,asBool,pure_bind,e2,e3]
    cases t <;> exact Qbk
  | _=>exact h.elim
 case h_4 x ho=>
  obtain ⟨v,h1,h⟩:=QaL h
  unfold nilW at h
  split at h
  ·rename_i u
   obtain ⟨h2,h⟩:=h
   refine ⟨_,rfl,h,fun s a w hs=>Qan ?_⟩
   have e1:=(hs.eval h1).1
   simp only [ren] at e1
   simp only [execOp,ho,e1,ren]
   unfold nilOK at h2
   split at h2 <;> first | exact Qbk | (cases h2; done)
  ·refine ⟨_,(hS.eval h1).2,h,fun s a w hs=>Qan ?_⟩
   have e1:=(hs.eval h1).1
   simp only [ren] at e1
   simp only [execOp,ho,e1,ren]; exact Qbk
  ·refine ⟨_,(hS.eval h1).2,h,fun s a w hs=>Qan ?_⟩
   have e1:=(hs.eval h1).1
   simp only [ren] at e1
   simp only [execOp,ho,e1,ren]; exact Qbk
  ·refine ⟨_,(hS.eval h1).2,h,fun s a w hs=>Qan ?_⟩
   have e1:=(hs.eval h1).1
   simp only [ren] at e1
   simp only [execOp,ho,e1,ren]; exact Qbk
  ·exact h.elim
 case h_5 op T x y _ ho=>
  obtain ⟨u,h1,h⟩:=Qat h
  obtain ⟨v,h2,h⟩:=Qat h
  obtain ⟨r,h3,h4⟩:=QkH h
  refine ⟨_,rfl,h4,fun s a w hs=>Qan ?_⟩
  have e1:=(hs.eval h1).1
  have e2:=(hs.eval h2).1
  simp only [ren] at e1 e2
  simp only [execOp,ho,e1,e2,ren]
  exact Qaz h3
 case h_6 op _ x ho=>
  obtain ⟨u,h1,h⟩:=Qat h
  obtain ⟨r,h3,h4⟩:=pw h
  refine ⟨_,rfl,h4,fun s a w hs=>Qan ?_⟩
  have e1:=(hs.eval h1).1
  simp only [ren] at e1
  simp only [execOp,ho,e1,ren]
  exact Qaz h3
 case h_7 t u x ho=>
  obtain ⟨u,h1,h⟩:=Qat h
  obtain ⟨r,h3,h4⟩:=pw h
  refine ⟨_,rfl,h4,fun s a w hs=>Qan ?_⟩
  have e1:=(hs.eval h1).1
  simp only [ren] at e1
  simp only [execOp,ho,e1,ren]
  exact Qaz h3
 case h_8 t x ho=>
  obtain ⟨u,h1,h⟩:=Qat h
  obtain ⟨r,h3,h4⟩:=pw h
  refine ⟨_,rfl,h4,fun s a w hs=>Qan ?_⟩
  have e1:=(hs.eval h1).1
  simp only [ren] at e1
  simp only [execOp,ho,e1,ren]
  exact Qaz h3
 case h_9 x t u ok ho=>
  obtain ⟨u,h1,h⟩:=Qat h
  obtain ⟨r,h3,h4⟩:=pw h
  refine ⟨_,rfl,h4,fun s a w hs=>Qan ?_⟩
  have e1:=(hs.eval h1).1
  simp only [ren] at e1
  simp only [execOp,ho,e1,ren]
  exact Qaz h3
 case h_10 x i ho=>
  obtain ⟨u,h1,h⟩:=Qat h
  obtain ⟨r,h3,h4⟩:=pw h
  refine ⟨_,rfl,h4,fun s a w hs=>Qan ?_⟩
  have e1:=(hs.eval h1).1
  simp only [ren] at e1
  simp only [execOp,ho,e1,ren]
  exact Qaz h3
 case h_11 t x f ho=>
  obtain ⟨u,h1,h⟩:=Qat h
  obtain ⟨r,h3,h4⟩:=pw h
  refine ⟨_,rfl,h4,fun s a w hs=>Qan ?_⟩
  have e1:=(hs.eval h1).1
  simp only [ren] at e1
  simp only [execOp,ho,e1,ren]
  exact Qaz h3
 case h_12 t x i ho=>
  obtain ⟨u,h1,h⟩:=Qat h
  obtain ⟨v,h2,h⟩:=Qat h
  obtain ⟨r,h3,h4⟩:=pw h
  refine ⟨_,rfl,h4,fun s a w hs=>Qan ?_⟩
  have e1:=(hs.eval h1).1
  have e2:=(hs.eval h2).1
  simp only [ren] at e1 e2
  simp only [execOp,ho,e1,e2,ren]
  exact Qaz h3
 case h_13 t parts ho=>
  obtain ⟨vs,h1,h⟩:=Qco h
  obtain ⟨z,hz,h⟩:=Qak h
  obtain ⟨cs,h3,h4⟩:=QkV hz h
  refine ⟨_,rfl,h4,fun s a w hs=>Qan ?_⟩
  have e1:=hs.evals h1
  simp only [execOp,ho,ren,Qhr parts a.eval,e1]
  exact Qaz h3
 case h_14 t x lo hi mx ho=>
  obtain ⟨u,h1,h⟩:=Qat h
  obtain ⟨l,g1,h⟩:=Qco h
  obtain ⟨hh,g2,h⟩:=Qco h
  obtain ⟨m,g3,h⟩:=Qco h
  obtain ⟨r,h3,h4⟩:=pw h
  refine ⟨_,rfl,h4,fun s a w hs=>Qan ?_⟩
  have e1:=(hs.eval h1).1
  simp only [ren] at e1
  have k1:=hs.evals g1
  have k2:=hs.evals g2
  have k3:=hs.evals g3
  have toL:∀ (x:Option Operand) (l:List Value),x.toList.map a.eval=l→x.map a.eval=l[0]?:=by
   intro x l hl
   subst hl
   cases x <;> rfl
  simp only [execOp,ho,e1,ren,toL _ _ k1,toL _ _ k2,toL _ _ k3]
  exact Qaz h3
 case h_15 fn first caps ho=>simp [pureOp,ho] at hp
 case h_16 T x f ho=>
  obtain ⟨v,h1,h⟩:=QaL h
  obtain ⟨d,hd,h⟩:=Qak h
  unfold faW at h
  cases v with
  | ptr k off=>
   refine ⟨RV.ptr k (off+d),(hS.eval h1).2,h,fun s a w hs=>Qan ?_⟩
   have e1:=(hs.eval h1).1
   simp only [ren] at e1
   simp only [execOp,ho,e1,ren]
   exact Qaz (Qgi hd)
  | ext u=>
   obtain ⟨p,hp,h⟩:=Qak h
   refine ⟨_,rfl,h,fun s a w hs=>Qan ?_⟩
   have e1:=(hs.eval h1).1
   simp only [ren,Qjn hp] at e1
   simp only [execOp,ho,e1,ren]
   exact Qaz (Qgi hd)
  | _=>exact h.elim
 case h_17 T x i ho=>
  obtain ⟨v,h1,h⟩:=QaL h
  obtain ⟨i',h2,h⟩:=Qat h
  obtain ⟨z,hel,h⟩:=Qak h
  unfold idxW at h
  cases i' with
  | int ki j=>
   simp only at h
   obtain ⟨al,z⟩:=z
   cases v with
   | sl kk off len cap=>
    cases al with
    | some _=>exact h.elim
    | none=>
     obtain ⟨⟨g0,g1⟩,h⟩:=h
     refine ⟨RV.ptr kk (off+j.toNat * z),(hS.eval h1).2,h,fun s a w hs=>Qan ?_⟩
     have e1:=(hs.eval h1).1
     have e2:=(hs.eval h2).1
     simp only [ren] at e1 e2
     simp only [execOp,ho,e1,e2,ren]
     exact Qaz (QgQ hel g0 g1)
   | ptr kk off=>
    cases al with
    | none=>exact h.elim
    | some len=>
     obtain ⟨⟨g0,g1⟩,h⟩:=h
     refine ⟨RV.ptr kk (off+j.toNat * z),(hS.eval h1).2,h,fun s a w hs=>Qan ?_⟩
     have e1:=(hs.eval h1).1
     have e2:=(hs.eval h2).1
     simp only [ren] at e1 e2
     simp only [execOp,ho,e1,e2,ren]
     exact Qaz (Qo5 hel g0 g1)
   | ext u=>
    cases al with
    | some _=>exact h.elim
    | none=>
     obtain ⟨p,hp,h⟩:=Qak h
     obtain ⟨⟨g0,g1⟩,h⟩:=h
     refine ⟨_,rfl,h,fun s a w hs=>Qan ?_⟩
     have e1:=(hs.eval h1).1
     have e2:=(hs.eval h2).1
     simp only [ren,QsD hp] at e1 e2
     simp only [execOp,ho,e1,e2,ren]
     exact Qaz (QgQ hel g0 g1)
   | _=>exact h.elim
  | _=>exact h.elim
 all_goals (rename_i ho; simp [pureOp,ho] at hp)
end
section
variable {P:Program} {ops:Array Oper} {Q:Exit→Act→WM→Prop} {md:Region.Mode} {D:Array Bool→WM→Prop}
def wpY (P:Program) (md:Region.Mode) (ops:Array Oper) (Q:Exit→Act→WM→Prop) (D:Array Bool→WM→Prop):Nat→Array Bool→Act→WM→Prop
 | 0,listed,a,w=>Region.ready md ops listed=[]∧Q .normal a w
 | f+1,listed,a,w=>
  (Region.ready md ops listed=[]→Q .normal a w) ∧
  ∀ i∈Region.ready md ops listed,wpOp P ops Q i (fun a' w'=>D (listed.setIfInBounds i true) w'∧∀ w'',Nx w' w''→wpY P md ops Q D f (listed.setIfInBounds i true) a' w'') a w
theorem Qtf (hN:∀ L w,D L w→NewOk w):∀ (f:Nat) (listed:Array Bool) (a:Act) (w:WM),wpY P md ops Q D f listed a w→wpAny P md ops Q f listed a w
 | 0,_,_,_,h=>h
 | f+1,_,_,_,h=>⟨h.1,fun i hi=>QcA (fun a' w' h'=>Qtf hN f _ a' w' (h'.2 w' (.refl (hN _ _ h'.1)))) (h.2 i hi)⟩
theorem Qtk {D':Array Bool→WM→Prop} (h:∀ L w,D L w→D' L w):∀ (f:Nat) (listed:Array Bool) (a:Act) (w:WM),wpY P md ops Q D f listed a w→wpY P md ops Q D' f listed a w
 | 0,_,_,_,k=>k
 | f+1,_,_,_,k=>⟨k.1,fun i hi=>QcA (fun a' w' h'=>⟨h _ _ h'.1,fun w'' hw=>Qtk h f _ a' w'' (h'.2 w'' hw)⟩) (k.2 i hi)⟩
structure Closed (md:Region.Mode) (ops:Array Oper) (L:Array Bool):Prop where
 size:L.size=ops.size
 at_:∀ j oj,ops[j]? = some oj→L.getD j false=true→∀ e∈oj.after,Region.binds md e=true→L.getD e.on false=true
theorem Closed.set {i:Nat} {L:Array Bool} (h:Closed md ops L) (hi:i∈Region.ready md ops L):Closed md ops (L.setIfInBounds i true):=by
 obtain ⟨_,oi,hoi,hall⟩:=mem_ready.1 hi
 refine ⟨by simp [h.size],fun j oj hj hl e he hb=>?_⟩
 by_cases hij:i=j
 ·subst hij
  have:oj=oi:=Option.some.inj (hj.symm.trans hoi)
  subst this
  exact getD_set_true (hall e he hb)
 ·rw [getD_set_ne false hij] at hl
  exact getD_set_true (h.at_ j oj hj hl e he hb)
theorem Closed.none:Closed md ops (Array.replicate ops.size false):=
 ⟨by simp,fun j oj _ hl=>by rw [getD_replicate_false] at hl; cases hl⟩
theorem Qtj {i:Nat} {oi:Oper} {v:Value} (hi:ops[i]? = some oi) (hsel:∀ (j:Nat) (o:Oper) cs b,ops[j]? = some o→o.op≠.select cs b)
  (hQ:∀ c a w,Q (.panic c) (a.put oi.dst v) w→Q (.panic c) a w) {Di:WM→Prop} (hC:Cls Di) (hN:∀ L w,D L w→NewOk w) (hD:∀ L w w',D L w→Nx w w'→D L w')
  (hDq:∀ L w,D (L.setIfInBounds i true) w↔D L w) (hDi:∀ L w,Closed md ops L→L.getD i true=false→D L w→Di w) :
  ∀ (f:Nat) (listed:Array Bool) (a:Act) (w:WM),Closed md ops listed →
   (∀ j oj,ops[j]? = some oj→j≠i→listed.getD j true=false→(∀ e∈oj.after,Region.binds md e=true→e.on≠i)→oi.apart ops oj=true) →
   i∈Region.ready md ops listed→Yq P ops Di oi v a→D listed w →
   (∀ w',Nx w w'→wpY P md ops Q D f (listed.setIfInBounds i true) (a.put oi.dst v) w')→wpY P md ops Q D (f+1) listed a w:=by
 intro f
 induction f with
 | zero=>
  intro listed a w hcl _ hr hy hd H
  have hun:=(mem_ready.1 hr).1
  refine ⟨fun h=>(by rw [h] at hr; cases hr),fun j hj=>?_⟩
  by_cases hji:j=i
  ·subst hji; exact hy.wpOp hC hi (hDi _ _ hcl hun hd) fun w' hw'=>⟨(hDq _ _).2 (hD _ _ _ hd hw'),fun w'' hw''=>H w'' (hw'.trans hw'')⟩
  ·have:=ready_mono hj hji
   rw [(H w (.refl (hN _ _ hd))).1] at this
   cases this
 | succ f ih=>
  intro listed a w hcl hfree hr hy hd H
  have hun:=(mem_ready.1 hr).1
  refine ⟨fun h=>(by rw [h] at hr; cases hr),fun j hj=>?_⟩
  by_cases hji:j=i
  ·subst hji; exact hy.wpOp hC hi (hDi _ _ hcl hun hd) fun w' hw'=>⟨(hDq _ _).2 (hD _ _ _ hd hw'),fun w'' hw''=>H w'' (hw'.trans hw'')⟩
  ·have h1:=(H w (.refl (hN _ _ hd))).2 j (ready_mono hj hji)
   obtain ⟨hjun,oj,hoj,hall⟩:=mem_ready.1 hj
   have hnot:∀ e∈oj.after,Region.binds md e=true→e.on≠i:=fun e he hb heq=>by
    have h1:=hall e he hb
    rw [heq,getD_both hun] at h1
    cases h1
   have h2:=Qth hoj (hfree j oj hoj hji hjun hnot) (fun cs b=>hsel i oi cs b hi) (fun cs b=>hsel j oj cs b hoj) hQ hy h1
   have hfree':∀ k ok,ops[k]? = some ok→k≠i→(listed.setIfInBounds j true).getD k true=false →
     (∀ e∈ok.after,Region.binds md e=true→e.on≠i)→oi.apart ops ok=true:=fun k ok hk hki hun hno=>by
    refine hfree k ok hk hki ?_ hno
    by_cases hjk:j=k
    ·subst hjk; exact hjun
    ·rw [getD_set_ne true hjk] at hun; exact hun
   refine QcA (fun a' w' h3=>?_) h2
   have hdj:D (listed.setIfInBounds j true) w':=by
    have h4:=h3.2.1
    rw [←Array.setIfInBounds_comm _ _ hji] at h4
    exact (hDq _ _).1 h4
   refine ⟨hdj,fun w'' hw''=>ih (listed.setIfInBounds j true) a' w'' (hcl.set hj) hfree' (ready_mono hr (Ne.symm hji)) h3.1 (hD _ _ _ hdj hw'') ?_⟩
   intro w3 hw3
   rw [Array.setIfInBounds_comm _ _ hji]
   exact h3.2.2 w3 (hw''.trans hw3)
end
inductive PlanV where
 | fin
 | q (i:Nat) (r:PlanV)
 | p (i:Nat) (r:PlanV)
 | alt (i:Nat) (r rest:PlanV)
def PlanV.ids:PlanV→List Nat
 | .alt i _ rest=>i :: rest.ids
 | _=>[]
def planVB (ops:Array Oper) (W:List Nat):PlanV→Bool→Bool→Nat→Array Bool→Bool
 | .fin,true,_,_,_=>true
 | .fin,false,_,0,listed=>(Region.ready .any ops listed).isEmpty
 | .q i r,false,false,n+1,listed=>(Region.ready .any ops listed).contains i && Region.free .any ops listed i && !W.contains i && W.all (fun j=>Region.waitsFor .any ops j i) && planVB ops W r false false n (listed.setIfInBounds i true)
 | .p i r,false,d,n+1,listed=>(Region.ready .any ops listed).contains i && Region.free .any ops listed i && !W.contains i && (match ops[i]? with | some o=>pureOp o.op && o.guard.isNone | none=>false) && planVB ops W r false d n (listed.setIfInBounds i true)
 | .alt i r rest,true,d,n+1,listed=>planVB ops W r false (d || W.contains i) n (listed.setIfInBounds i true) && planVB ops W rest true d (n+1) listed
 | .alt i r rest,false,d,n+1,listed=>decide (Region.ready .any ops listed=i :: rest.ids) && planVB ops W r false (d || W.contains i) n (listed.setIfInBounds i true) && planVB ops W rest true d (n+1) listed
 | _,_,_,_,_=>false
def lexVB (ops:Array Oper) (W:List Nat) (p:PlanV):Bool:=Region.noSelect ops && planVB ops W p false false ops.size (Array.replicate ops.size false)
def keepV (d:Bool) (m:List RO) (x:Nat→Obj→Prop) (S':St):Prop:=bif d then True else preX m S'.m∧xsub x S'.x
theorem Qo8 {m:List RO} {x:Nat→Obj→Prop} {S':St}:keepV true m x S'=True:=rfl
theorem QiU {m:List RO} {x:Nat→Obj→Prop} {S':St}:keepV false m x S'=(preX m S'.m∧xsub x S'.x):=propext ⟨fun h=>h,fun h=>h⟩
def planV (P:Program) (ops:Array Oper) (W:List Nat):PlanV→Bool→Bool→List RO→(Nat→Obj→Prop)→St→(St→Prop)→(Value→St→Prop)→Prop
 | .fin,true,_,_,_,_,_,_=>True
 | .fin,false,_,_,_,S,K,_=>K S
 | .q _ _,true,_,_,_,_,_,_=>True
 | .q i r,false,d,m,x,S,K,Pn=>bindV (nthX ops.toList i) fun o=>headW P ops [o] S fun S'=>planV P ops W r false d S.m S.x S' K Pn
 | .p _ _,true,_,_,_,_,_,_=>True
 | .p i r,false,d,m,x,S,K,Pn=>bindV (nthX ops.toList i) fun o=>opW P true S o (fun v S'=>planV P ops W r false d m x (S'.put o.dst v) K Pn) (fun _ _=>False)
 | .alt i r rest,_,d,m,x,S,K,Pn=>(bindV (nthX ops.toList i) fun o=>match o.guard with
   | none=>opW P false S o (fun v S'=>keepV (d || W.contains i) m x S'∧planV P ops W r false (d || W.contains i) m x (S'.put o.dst v) K Pn) Pn
   | some _=>False)∧planV P ops W rest true d m x S K Pn
def loudV (P:Program) (ops:Array Oper) (W:List Nat) (r:PlanV) (d:Bool) (m:List RO) (x:Nat→Obj→Prop) (S:St) (K:St→Prop) (Pn:Value→St→Prop) (o:Oper):Prop:=match o.guard with
 | none=>opW P false S o (fun v S'=>keepV d m x S'∧planV P ops W r false d m x (S'.put o.dst v) K Pn) Pn
 | some _=>False
section
variable {P:Program} {ops:Array Oper} {l:List Oper} {W:List Nat} {b d:Bool} {m:List RO} {x:Nat→Obj→Prop} {S:St} {K:St→Prop} {Pn:Value→St→Prop}
@[congr] theorem planV_congr {p:PlanV} {S S':St} (h:hold S=S'):planV P ops W p b d m x S K Pn=planV P ops W p b d m x S' K Pn:=by rw [←h]; rfl
@[congr] theorem loudV_congr {r:PlanV} {d d':Bool} {S S':St} {o:Oper} (h:hold S=S') (h2:hold d=d'):loudV P ops W r d m x S K Pn o=loudV P ops W r d' m x S' K Pn o:=by rw [←h,←h2]; rfl
theorem Qq6:planV P ops W .fin true d m x S K Pn=True:=propext ⟨fun h=>h,fun h=>h⟩
theorem Qq7:planV P ops W .fin false d m x S K Pn=K S:=propext ⟨fun h=>h,fun h=>h⟩
theorem Qq9 {i:Nat} {r:PlanV}:planV P l.toArray W (.q i r) false d m x S K Pn=bindV (nthX l i) fun o=>headW P l.toArray [o] S fun S'=>planV P l.toArray W r false d S.m S.x S' K Pn:=propext ⟨fun h=>h,fun h=>h⟩
theorem Qq8 {i:Nat} {r:PlanV}:planV P l.toArray W (.p i r) false d m x S K Pn=bindV (nthX l i) fun o=>opW P true S o (fun v S'=>planV P l.toArray W r false d m x (S'.put o.dst v) K Pn) (fun _ _=>False):=propext ⟨fun h=>h,fun h=>h⟩
theorem Qq5 {i:Nat} {r rest:PlanV}:planV P l.toArray W (.alt i r rest) b d m x S K Pn=((bindV (nthX l i) fun o=>loudV P l.toArray W r (d || W.contains i) m x S K Pn o)∧planV P l.toArray W rest true d m x S K Pn):=by
 cases b <;> exact propext ⟨fun h=>h,fun h=>h⟩
theorem Qpv {r:PlanV} {dd:Option Nat} {op:Op} {ty:TypeId} {pos:String} {af:Array Edge} :
  loudV P ops W r d m x S K Pn ⟨dd,op,ty,pos,af,none⟩=opW P false S ⟨dd,op,ty,pos,af,none⟩ (fun v S'=>keepV d m x S'∧planV P ops W r false d m x (S'.put dd v) K Pn) Pn:=propext ⟨fun h=>h,fun h=>h⟩
end
def AltsV:PlanV→Nat→PlanV→Prop
 | .alt i r rest,j,q=>(j=i∧q=r)∨AltsV rest j q
 | _,_,_=>False
section
variable {P:Program} {ops:Array Oper} {W:List Nat}
theorem Qkt:∀ {p:PlanV} {j:Nat},j∈p.ids→∃ q,AltsV p j q
 | .alt i r rest,j,h=>by
  simp only [PlanV.ids,List.mem_cons] at h
  rcases h with rfl | h
  ·exact ⟨r,.inl ⟨rfl,rfl⟩⟩
  ·obtain ⟨q,hq⟩:=Qkt h
   exact ⟨q,.inr hq⟩
theorem QhA {listed:Array Bool} {n:Nat} {d:Bool}:∀ {p:PlanV} {b:Bool} {j:Nat} {q:PlanV},AltsV p j q→planVB ops W p b d (n+1) listed=true→planVB ops W q false (d || W.contains j) n (listed.setIfInBounds j true)=true
 | .alt i r rest,b,j,q,h,hB=>by
  cases b <;> simp only [planVB,Bool.and_eq_true] at hB
  ·rcases h with ⟨rfl,rfl⟩ | h
   ·exact hB.1.2
   ·exact QhA h hB.2
  ·rcases h with ⟨rfl,rfl⟩ | h
   ·exact hB.1
   ·exact QhA h hB.2
theorem Qks {m:List RO} {x:Nat→Obj→Prop} {S:St} {K:St→Prop} {Pn:Value→St→Prop} {d:Bool}:∀ {p:PlanV} {b:Bool} {j:Nat} {q:PlanV},AltsV p j q→planV P ops W p b d m x S K Pn→bindV (nthX ops.toList j) fun o=>loudV P ops W q (d || W.contains j) m x S K Pn o
 | .alt i r rest,b,j,q,h,hW=>by
  have hW':(bindV (nthX ops.toList i) fun o=>loudV P ops W r (d || W.contains i) m x S K Pn o)∧planV P ops W rest true d m x S K Pn:=by cases b <;> exact hW
  rcases h with ⟨rfl,rfl⟩ | h
  ·exact hW'.1
  ·exact Qks h hW'.2
end
section
variable {P:Program} {ops:Array Oper} {W:List Nat} {bs:List Nat} {w0:WM} {n:Nat} {ds:List Deferred}
def DV (W:List Nat) (s:Nat→Nat) (m:List RO) (x:Nat→Obj→Prop) (bs:List Nat) (w0:WM) (L:Array Bool) (w:WM):Prop:=((∀ j,j∈W→L.getD j false=false)→Mem s m x w)∧Fr bs w0 w∧NewOk w
theorem Qkm {i:Nat} {s:Nat→Nat} {m:List RO} {x:Nat→Obj→Prop} {L:Array Bool} {w:WM} (h:i∉W):DV W s m x bs w0 (L.setIfInBounds i true) w↔DV W s m x bs w0 L w:=by
 have e:∀ j,j∈W→(L.setIfInBounds i true).getD j false=L.getD j false:=fun j hj=>getD_set_ne false (fun e=>h (e▸hj))
 unfold DV
 constructor
 ·exact fun ⟨h1,h2⟩=>⟨fun h3=>h1 fun j hj=>by rw [e j hj]; exact h3 j hj,h2⟩
 ·exact fun ⟨h1,h2⟩=>⟨fun h3=>h1 fun j hj=>by rw [←e j hj]; exact h3 j hj,h2⟩
theorem Qkl {s:Nat→Nat} {S:St} {L:Array Bool} {w w':WM} (h:DV W s S.m S.x bs w0 L w) (hf:Nx w w'):DV W s S.m S.x bs w0 L w':=⟨fun h1=>(h.1 h1).keep hf.1 hf.2,h.2.1.trans (hf.1.mono (by simp)),hf.2⟩
theorem Qww:Cls fun w=>NewOk w:=⟨fun _ h=>h,fun _ _ _ h=>h.2⟩
theorem QzC {L:Array Bool} {j:Nat} (h:L.getD j true=false):(L.setIfInBounds j true).getD j false=true:=by
 rcases Nat.lt_or_ge j L.size with h' | h'
 ·simp [h']
 ·simp [Array.getElem?_eq_none h'] at h
theorem Qhp {Q:Exit→Act→WM→Prop} {K:St→Prop} {Pn:Value→St→Prop} (hsel:Region.noSelect ops=true) (hQ:∀ c a d v w,Q (.panic c) (a.put d v) w→Q (.panic c) a w)
  (hK:∀ s S a w,Rep bs w0 n ds s S a w→K S→Q .normal a w) (hP:∀ s S a w u,Rep bs w0 n ds s S a w→Pn u S→Q (.panic [{ v:=u,recovered:=false }]) a w) (hall:dOk n ops.toList=true) :
  ∀ (f:Nat) (p:PlanV) (d:Bool) (m:List RO) (x:Nat→Obj→Prop) (s0:Nat→Nat) (wS:WM) (listed:Array Bool) (s:Nat→Nat) (S:St) (a:Act) (w:WM),planVB ops W p false d f listed=true→Closed .any ops listed →
   (d=true→∃ j,j∈W∧listed.getD j false=true)→Rep bs w0 n ds s S a w→Mem s0 m x wS →
   (d=false→preX m S.m∧xsub x S.x∧∀ k,k < m.length→s k=s0 k)→planV P ops W p false d m x S K Pn →
   wpY P .any ops Q (DV W s0 m x bs w0) f listed a w
 | 0,p,d,m,x,s0,wS,listed,s,S,a,w,hB,hcl,hdn,hr,hM,hk,h=>by
  cases p with
  | fin=>exact ⟨by simpa [planVB] using hB,hK s S a w hr h⟩
  | q _ _=>cases d <;> simp [planVB] at hB
  | p _ _=>cases d <;> simp [planVB] at hB
  | alt _ _ _=>cases d <;> simp [planVB] at hB
 | f+1,.fin,d,m,x,s0,wS,listed,s,S,a,w,hB,hcl,hdn,hr,hM,hk,h=>by simp [planVB] at hB
 | f+1,.q i r,true,m,x,s0,wS,listed,s,S,a,w,hB,hcl,hdn,hr,hM,hk,h=>by simp [planVB] at hB
 | f+1,.q i r,false,m,x,s0,wS,listed,s,S,a,w,hB,hcl,hdn,hr,hM,hk,h=>by
  simp only [planVB,Bool.and_eq_true,Bool.not_eq_true'] at hB
  obtain ⟨⟨⟨⟨hr1,hf⟩,hw⟩,hwait⟩,hB'⟩:=hB
  obtain ⟨hp,hx,ha⟩:=hk rfl
  have hiW:i∉W:=by simpa using hw
  have hr':i∈Region.ready .any ops listed:=by simpa using hr1
  obtain ⟨o,ho,h⟩:=Qak h
  rw [Qay] at ho
  have h0:ops[i]? = some o:=by simpa using ho
  have hd1:dOk n [o]=true:=by
   simp only [dOk,List.all_cons,List.all_nil,Bool.and_true]
   exact List.all_eq_true.1 hall o (List.mem_of_getElem? ho)
  have hq:=Qez (wS:=w) (ds:=ds) (D:=fun w'=>Mem s S.m S.x w'∧Fr bs w0 w') (fun _ h=>h.1) hall [o] S a hd1 rfl rfl hr.sl hr.mr hr.size hr.df h
  obtain ⟨v,hy,S',h1,h2,h3,h4,h5,h6⟩:=hq
  refine Qtk (D:=DV W s S.m S.x bs w0) (fun L w4 h4=>⟨fun h7=>Qd4 hM (h4.1 h7) hp hx ha,h4.2⟩) _ _ _ _ ?_
  refine Qtj (D:=DV W s S.m S.x bs w0) h0 (Region.noSelect_spec hsel) (fun c a w=>hQ c a _ _ w) (Di:=fun w'=>Mem s S.m S.x w'∧Fr bs w0 w') Qdg (fun L w h=>h.2.2) (fun L w1 w2 h1 h2=>Qkl h1 h2) (fun L w=>Qkm (L:=L) hiW) (fun L w hL hun hd=>⟨hd.1 fun j hj=>?_,hd.2.1⟩) _ listed a w hcl (Region.free_spec h0 hf) hr' hy ⟨fun _=>hr.mr,hr.fr,hr.mr.new⟩ fun w' hw'=>?_
  ·cases hj2:L.getD j false with
   | false=>rfl
   | true=>
    have hwj:=List.all_eq_true.1 hwait j hj
    obtain ⟨oj,hoj,e,he,hb,hon⟩:=Region.waitsFor_spec hwj
    have:=hL.at_ j oj hoj hj2 e he hb
    rw [hon,getD_both hun] at this
    cases this
  ·have hrep:Rep bs w0 n ds s S' (a.put o.dst v) w':=
    ⟨by rw [h1,h2]; exact hr.mr.keep hw'.1 hw'.2,by rw [h1]; exact hr.own,hr.fr.trans (hw'.1.mono (by simp)),h4,h3,h5⟩
   exact Qhp hsel hQ hK hP hall f r false S.m S.x s w (listed.setIfInBounds i true) s S' _ w' hB' (hcl.set hr') (fun h=>by cases h) hrep hr.mr (fun _=>⟨by rw [h1]; exact Qao _,by rw [h2]; exact fun _ _ h=>h,fun _ _=>rfl⟩) h6
 | f+1,.p i r,d,m,x,s0,wS,listed,s,S,a,w,hB,hcl,hdn,hr,hM,hk,h=>by
  have hB:(((((Region.ready .any ops listed).contains i=true∧Region.free .any ops listed i=true)∧W.contains i=false)∧(match ops[i]? with | some o=>pureOp o.op && o.guard.isNone | none=>false)=true)∧planVB ops W r false d f (listed.setIfInBounds i true)=true):=by
   cases d <;> simpa only [planVB,Bool.and_eq_true,Bool.not_eq_true'] using hB
  obtain ⟨⟨⟨⟨hr1,hf⟩,hw⟩,hpure⟩,hB'⟩:=hB
  have hiW:i∉W:=by simpa using hw
  have hr':i∈Region.ready .any ops listed:=by simpa using hr1
  obtain ⟨o,ho,h⟩:=Qak h
  rw [Qay] at ho
  have h0:ops[i]? = some o:=by simpa using ho
  rw [h0] at hpure
  simp only [Bool.and_eq_true,Option.isNone_iff_eq_none] at hpure
  have hd1:∀ i,o.dst=some i→i < n:=(Qb2 (l:=[]) (by
   simp only [dOk,List.all_cons,List.all_nil,Bool.and_true]
   exact List.all_eq_true.1 hall o (List.mem_of_getElem? ho))).1
  obtain ⟨v,hv,h6,hq⟩:=QBI hr.sl hpure.1 h
  have hy:Yq P ops (fun w=>NewOk w) o (ren s v) a:=.inl ⟨by simp only [Region.wanted,hpure.2],Qg1 h,fun w' _=>hq s a w' hr.sl⟩
  have hD0:DV W s0 m x bs w0 listed w:=by
   refine ⟨fun h7=>?_,hr.fr,hr.mr.new⟩
   cases d with
   | true=>
    obtain ⟨j,hj,hj2⟩:=hdn rfl
    rw [h7 j hj] at hj2; cases hj2
   | false=>
    obtain ⟨hp,hx,ha⟩:=hk rfl
    exact Qd4 hM hr.mr hp hx ha
  have stab:∀ L w1 w2,DV W s0 m x bs w0 L w1→Nx w1 w2→DV W s0 m x bs w0 L w2:=fun L w1 w2 h1 h2=>Qkl (S:=⟨[],m,x⟩) h1 h2
  refine Qtj (D:=DV W s0 m x bs w0) h0 (Region.noSelect_spec hsel) (fun c a w=>hQ c a _ _ w) (Di:=fun w=>NewOk w) Qww (fun L w h=>h.2.2) stab (fun L w=>Qkm (L:=L) hiW) (fun _ _ _ _ h=>h.2.2) _ listed a w hcl (Region.free_spec h0 hf) hr' hy hD0 fun w' hw'=>?_
  have hr3:=(hr.put hd1 hv).step (by rw [St.put_m,St.put_x]; exact hr.mr.keep hw'.1 hw'.2) (hw'.1.mono (by simp))
  refine Qhp hsel hQ hK hP hall f r d m x s0 wS (listed.setIfInBounds i true) s _ _ w' hB' (hcl.set hr') (fun hd=>?_) hr3 hM (fun hd=>by rw [St.put_m,St.put_x]; exact hk hd) h6
  obtain ⟨j,hj,hj2⟩:=hdn hd
  exact ⟨j,hj,getD_set_true hj2⟩
 | f+1,.alt i r rest,d,m,x,s0,wS,listed,s,S,a,w,hB,hcl,hdn,hr,hM,hk,h=>by
  have hB0:=hB
  have hB1:Region.ready .any ops listed=i :: rest.ids:=by
   cases d <;> simp only [planVB,Bool.and_eq_true,decide_eq_true_eq] at hB <;> exact hB.1.1
  refine ⟨fun h1=>(by rw [hB1] at h1; cases h1),fun j hj0=>?_⟩
  have hj:=hj0
  rw [hB1] at hj
  obtain ⟨q,hq⟩:=Qkt (p:=.alt i r rest) hj
  have hBq:=QhA hq hB0
  obtain ⟨o,ho,h8⟩:=Qak (Qks hq h)
  rw [Qay] at ho
  have h0:ops[j]? = some o:=by simpa using ho
  have hd1:∀ i,o.dst=some i→i < n:=(Qb2 (l:=[]) (by
   simp only [dOk,List.all_cons,List.all_nil,Bool.and_true]
   exact List.all_eq_true.1 hall o (List.mem_of_getElem? ho))).1
  unfold wpOp
  simp only [h0]
  unfold loudV at h8
  cases hg:o.guard with
  | some g=>simp only [hg] at h8
  | none=>
   simp only [hg] at h8
   simp only [Region.wanted,hg,if_true]
   refine Qcs hr h8 (fun s2 v S2 w2 hag hv hr2 hk2=>?_) (fun u s2 S2 w2 hr2 hp=>hP s2 S2 a w2 u hr2 hp)
   obtain ⟨k1,k3⟩:=hk2
   have hdn2:(d || W.contains j)=true→∃ k,k∈W∧(listed.setIfInBounds j true).getD k false=true:=fun hd=>by
    cases d with
    | true=>
     obtain ⟨k,hk1,hk2⟩:=hdn rfl
     exact ⟨k,hk1,getD_set_true hk2⟩
    | false=>
     have:j∈W:=by simpa using hd
     exact ⟨j,this,QzC (mem_ready.1 hj0).1⟩
   have hk3:(d || W.contains j)=false→preX m S2.m∧xsub x S2.x∧∀ k,k < m.length→s2 k=s0 k:=fun hd=>by
    rw [hd,QiU] at k1
    have hd0:d=false:=by cases d <;> first | rfl | simp at hd
    obtain ⟨hp,hx,ha⟩:=hk hd0
    exact ⟨k1.1,k1.2,fun k hk=>(hag k (Nat.lt_of_lt_of_le hk (Qca hp))).trans (ha k hk)⟩
   refine ⟨⟨fun h7=>?_,hr2.fr,hr2.mr.new⟩,fun w3 hw3=>?_⟩
   ·cases hd:(d || W.contains j) with
    | true=>
     obtain ⟨k,hk1,hk2⟩:=hdn2 hd
     rw [h7 k hk1] at hk2; cases hk2
    | false=>
     obtain ⟨p1,p2,p3⟩:=hk3 hd
     exact Qd4 hM hr2.mr p1 p2 p3
   ·have hr3:=(hr2.put hd1 hv).step (by rw [St.put_m,St.put_x]; exact hr2.mr.keep hw3.1 hw3.2) (hw3.1.mono (by simp))
    exact Qhp hsel hQ hK hP hall f q _ m x s0 wS (listed.setIfInBounds j true) s2 _ _ w3 hBq (hcl.set hj0) hdn2 hr3 hM (fun hd=>by rw [St.put_m,St.put_x]; exact hk3 hd) k3
end
section
variable {P:Program} {G:Ctx} {Q:Exit→St→Prop} {S:St}
def LiftV (G:Ctx) (Q:Exit→St→Prop):Exit→Act→WM→Prop
 | .panic c,a,w=>∃ s S,Rep G.bs G.w0 G.n G.ds s ⟨[],S.m,S.x⟩ a w∧Q (.panic c) S
 | e,a,w=>∃ s S,Rep G.bs G.w0 G.n G.ds s S a w∧Q e S
theorem Rep.forget {bs:List Nat} {w0:WM} {n:Nat} {ds:List Deferred} {s:Nat→Nat} {S:St} {a a':Act} {w:WM} (h:Rep bs w0 n ds s S a w) (hz:a'.tmps.size=a.tmps.size) (hd:a'.defers=a.defers):Rep bs w0 n ds s ⟨[],S.m,S.x⟩ a' w:=
 ⟨h.mr,h.own,h.fr,hz.trans h.size,fun i v hi=>by simp [lk] at hi,hd.trans h.df⟩
theorem QtB {id:Nat} {ops:Array Oper} {W:List Nat} {p:PlanV} (hm:P.follows .mixedOrders=true) (hd:dOk G.n ops.toList=true) (hB:lexVB ops W p=true)
  (h:planV P ops W p false false S.m S.x S (Q .normal) (fun u S=>Q (.panic [{ v:=u,recovered:=false }]) S)) (hPt:∀ c t S,Q (.panic c) S→Q (.panic c) ⟨t,S.m,S.x⟩):Sd P G (.region id ops true) Q S:=fun s a w hr=>by
 simp only [lexVB,Bool.and_eq_true] at hB
 obtain ⟨hsel,hlex⟩:=hB
 refine Wp.mono (Q:=LiftV G Q) (Qec hm fun wr hrel=>Qtf (D:=DV W s S.m S.x G.bs G.w0) (fun L w h=>h.2.2) _ _ _ _ ?_) (fun e a w he=>?_)
 rotate_left
 ·cases e with
  | panic c=>
   obtain ⟨s,S,h1,h2⟩:=he
   exact ⟨s,⟨[],S.m,S.x⟩,h1,hPt c [] S h2⟩
  | _=>exact he
 ·have hr':=(hr.rely hrel).drew
  exact Qhp (Q:=LiftV G Q) (K:=Q .normal) (Pn:=fun u S=>Q (.panic [{ v:=u,recovered:=false }]) S) hsel
   (fun c a d v w ⟨s,S,h1,h2⟩=>⟨s,S,h1.forget (by cases d <;> simp [Act.put]) (by cases d <;> rfl),h2⟩)
   (fun s S a w hr h=>⟨s,S,hr,h⟩) (fun s S a w u hr h=>⟨s,S,hr.forget rfl rfl,h⟩) hd ops.size p false S.m S.x s w _ s S a _ hlex .none (fun h=>by cases h) hr' hr.mr
   (fun _=>⟨Qao _,fun _ _ h=>h,fun _ _=>rfl⟩) h
def lxV (f:Func) (i:Nat) (W:List Nat) (p:PlanV):Bool:=match rgF f i with
 | some ops=>lexVB ops W p
 | none=>false
theorem Qaw {f:Func} {i:Nat} {l:List Oper} {W:List Nat} {p:PlanV} (hl:lxV f i W p=true) (he:rgF f i=some l.toArray) (hm:P.follows .mixedOrders=true) (hd:dOk G.n l=true)
  (h:planV P l.toArray W p false false S.m S.x S (Q .normal) (fun u S=>Q (.panic [{ v:=u,recovered:=false }]) S)) (hPt:∀ c t S,Q (.panic c) S→Q (.panic c) ⟨t,S.m,S.x⟩):cW P G (.region i l.toArray true) Q S:=
 QtB (ops:=l.toArray) hm (by simpa using hd) (by rw [lxV,he] at hl; exact hl) h hPt
end
end R
namespace R
def jumpW (l:Nat) (J:St→Prop) (Q:Exit→St→Prop):Exit→St→Prop
 | .goto l',S=>l'=l∧J S
 | e,S=>Q e S
section
variable {P:Program} {G:Ctx} {Q:Exit→St→Prop} {S:St} {l:Nat} {J:St→Prop}
theorem QiT:jumpW l J Q (.goto l) S=J S:=propext ⟨fun h=>h.2,fun h=>⟨rfl,h⟩⟩
theorem Qo7:jumpW l J Q .ret S=Q .ret S:=propext ⟨fun h=>h,fun h=>h⟩
theorem QeQ {c rest:Code} (l:Nat) (hf:findLabel c l=some rest) (h:Sd P G c (jumpW l (Sd P G rest (noGotoW Q)) Q) S):Sd P G (.scope c) Q S:=fun s a w hr=>by
 refine QtY l hf ((h s a w hr).mono ?_)
 rintro e a w ⟨s,S,h1,h2⟩
 cases e with
 | goto l'=>
  refine ⟨h2.1,(h2.2 s a w h1).mono ?_⟩
  rintro e a w ⟨s,S,h1,h2⟩
  cases e with
  | goto l'=>exact h2.elim
  | _=>exact ⟨s,S,h1,h2⟩
 | _=>exact ⟨s,S,h1,h2⟩
end
end R
namespace R
section
variable {P:Program} {G:Ctx} {Q:Exit→St→Prop} {S:St}
theorem QtK {α:Type} {c:Code} (st:α→St) (J:α→Prop) (μ:α→Nat) (h0:∃ p,WkE S (st p)∧J p)
  (round:∀ p,J p→Sd P G c (thenW (fun S'=>∀ (s:Nat→Nat) (a:Act) (w:WM),Rep G.bs G.w0 G.n G.ds s S' a w→∃ q s',Rep G.bs G.w0 G.n G.ds s' (st q) a w∧J q∧μ q < μ p) Q) (st p)) (hbs:G.bs=[]:=by rfl):Sd P G (.loop c) Q S:=by
 suffices ∀ p,J p→Sd P G (.loop c) Q (st p) by
  obtain ⟨p,hw,hi⟩:=h0
  exact fun s a w hr=>by
   obtain ⟨s',hr'⟩:=hw G hbs s a w hr
   exact this p hi s' a w hr'
 intro p hJ s a w hr
 refine Qeb (fun a w=>∃ s p,Rep G.bs G.w0 G.n G.ds s (st p) a w∧J p∧True) (fun a w=>Classical.epsilon fun k=>∃ s p,Rep G.bs G.w0 G.n G.ds s (st p) a w∧J p∧μ p=k∧∀ s' p',Rep G.bs G.w0 G.n G.ds s' (st p') a w→J p'→k≤μ p') ⟨s,p,hr,hJ,trivial⟩ ?_
 clear hr hJ s a w p
 rintro a w ⟨s,p,hr,hJ,_⟩
 have hleast:∀ a w s p,Rep G.bs G.w0 G.n G.ds s (st p) a w→J p→∃ k,∃ s p,Rep G.bs G.w0 G.n G.ds s (st p) a w∧J p∧μ p=k∧∀ s' p',Rep G.bs G.w0 G.n G.ds s' (st p') a w→J p'→k≤μ p':=by
  intro a w
  suffices ∀ k,∀ s p,Rep G.bs G.w0 G.n G.ds s (st p) a w→J p→μ p=k→∃ k,∃ s p,Rep G.bs G.w0 G.n G.ds s (st p) a w∧J p∧μ p=k∧∀ s' p',Rep G.bs G.w0 G.n G.ds s' (st p') a w→J p'→k≤μ p' from
   fun s p h1 h2=>this _ s p h1 h2 rfl
  intro k
  induction k using Nat.strongRecOn with
  | _ k ih=>
   intro s p hr hJ hk
   by_cases hl:∀ s' p',Rep G.bs G.w0 G.n G.ds s' (st p') a w→J p'→k≤μ p'
   ·exact ⟨k,s,p,hr,hJ,hk,hl⟩
   ·simp only [Classical.not_forall] at hl
    obtain ⟨s',p',h1,h2,h3⟩:=hl
    exact ih (μ p') (by omega) s' p' h1 h2 rfl
 obtain ⟨s1,p1,hr1,hJ1,hk1,hl1⟩:=Classical.epsilon_spec (hleast a w s p hr hJ)
 refine (round p1 hJ1 s1 a w hr1).mono ?_
 rintro e a' w' ⟨s',S',h1,h2⟩
 cases e with
 | normal=>
  obtain ⟨q,s4,hr2,hJ2,hlt⟩:=h2 s' a' w' h1
  obtain ⟨s3,p3,hr3,hJ3,hk3,hl3⟩:=Classical.epsilon_spec (hleast a' w' s4 q hr2 hJ2)
  refine ⟨⟨s4,q,hr2,hJ2,trivial⟩,?_⟩
  have:=hl3 s4 q hr2 hJ2
  omega
 | _=>exact ⟨s',S',h1,h2⟩
theorem Qlm {α:Type} {c:Code} (st:α→St) (J:α→Prop) (μ:α→Nat) (h0:∃ p,WkE S (st p)∧J p) (hc:cOk G.n c=true)
  (round:∀ p,J p→cW P G c (thenW (fun S'=>∀ (s:Nat→Nat) (a:Act) (w:WM),Rep G.bs G.w0 G.n G.ds s S' a w→∃ q s',Rep G.bs G.w0 G.n G.ds s' (st q) a w∧J q∧μ q < μ p) Q) (st p)) (hbs:G.bs=[]:=by rfl):cW P G (.loop c) Q S:=
 QtK st J μ h0 (fun p hp=>Qaa hc (round p hp)) hbs
end
def extL (t:List (Nat×RV)):List (Nat×RV)→Prop
 | []=>True
 | p :: r=>(lk t p.1=some p.2∧∃ u,p.2=.ext u)∧extL t r
theorem Qil {t:List (Nat×RV)}:∀ {l:List (Nat×RV)},extL t l→∀ i v,lk l i=some v→lk t i=some v∧∃ u,v=.ext u
 | [],_,i,v,h=>by simp [lk] at h
 | p :: r,hw,i,v,h=>by
  rw [Qa7] at h
  split at h
  ·rename_i he
   simp only [Option.some.injEq] at h
   subst h
   rw [he]
   exact hw.1
  ·exact Qil hw.2 i v h
end R
namespace R
section
variable {P:Program} {G:Ctx} {Q:Exit→St→Prop} {S:St}
theorem QtI {α:Type} {c:Code} (st:α→St) (J:α→Prop) (μ:α→Nat) (h0:∀ s a w,Rep G.bs G.w0 G.n G.ds s S a w→∃ p s',Rep G.bs G.w0 G.n G.ds s' (st p) a w∧J p)
  (round:∀ p,J p→Sd P G c (thenW (fun S'=>∀ (s:Nat→Nat) (a:Act) (w:WM),Rep G.bs G.w0 G.n G.ds s S' a w→∃ q s',Rep G.bs G.w0 G.n G.ds s' (st q) a w∧J q∧μ q < μ p) Q) (st p)):Sd P G (.loop c) Q S:=by
 suffices ∀ p,J p→Sd P G (.loop c) Q (st p) from fun s a w hr=>by
  obtain ⟨p,s',hr',hi⟩:=h0 s a w hr
  exact this p hi s' a w hr'
 intro p hJ s a w hr
 refine Qeb (fun a w=>∃ s p,Rep G.bs G.w0 G.n G.ds s (st p) a w∧J p∧True) (fun a w=>Classical.epsilon fun k=>∃ s p,Rep G.bs G.w0 G.n G.ds s (st p) a w∧J p∧μ p=k∧∀ s' p',Rep G.bs G.w0 G.n G.ds s' (st p') a w→J p'→k≤μ p') ⟨s,p,hr,hJ,trivial⟩ ?_
 clear hr hJ s a w p
 rintro a w ⟨s,p,hr,hJ,_⟩
 have hleast:∀ a w s p,Rep G.bs G.w0 G.n G.ds s (st p) a w→J p→∃ k,∃ s p,Rep G.bs G.w0 G.n G.ds s (st p) a w∧J p∧μ p=k∧∀ s' p',Rep G.bs G.w0 G.n G.ds s' (st p') a w→J p'→k≤μ p':=by
  intro a w
  suffices ∀ k,∀ s p,Rep G.bs G.w0 G.n G.ds s (st p) a w→J p→μ p=k→∃ k,∃ s p,Rep G.bs G.w0 G.n G.ds s (st p) a w∧J p∧μ p=k∧∀ s' p',Rep G.bs G.w0 G.n G.ds s' (st p') a w→J p'→k≤μ p' from
   fun s p h1 h2=>this _ s p h1 h2 rfl
  intro k
  induction k using Nat.strongRecOn with
  | _ k ih=>
   intro s p hr hJ hk
   by_cases hl:∀ s' p',Rep G.bs G.w0 G.n G.ds s' (st p') a w→J p'→k≤μ p'
   ·exact ⟨k,s,p,hr,hJ,hk,hl⟩
   ·simp only [Classical.not_forall] at hl
    obtain ⟨s',p',h1,h2,h3⟩:=hl
    exact ih (μ p') (by omega) s' p' h1 h2 rfl
 obtain ⟨s1,p1,hr1,hJ1,hk1,hl1⟩:=Classical.epsilon_spec (hleast a w s p hr hJ)
 refine (round p1 hJ1 s1 a w hr1).mono ?_
 rintro e a' w' ⟨s',S',h1,h2⟩
 cases e with
 | normal=>
  obtain ⟨q,s4,hr2,hJ2,hlt⟩:=h2 s' a' w' h1
  obtain ⟨s3,p3,hr3,hJ3,hk3,hl3⟩:=Classical.epsilon_spec (hleast a' w' s4 q hr2 hJ2)
  refine ⟨⟨s4,q,hr2,hJ2,trivial⟩,?_⟩
  have:=hl3 s4 q hr2 hJ2
  omega
 | _=>exact ⟨s',S',h1,h2⟩
theorem Wk.rep' {bs:List Nat} {w0:WM} {n:Nat} {ds:List Deferred} {S S1:St} {s:Nat→Nat} {a:Act} {w:WM} (hbs:bs.length≤S1.m.length) (h:Wk S S1) (hr:Rep bs w0 n ds s S a w):Rep bs w0 n ds s S1 a w:=by
 obtain ⟨r,hr'⟩:=h.m
 have hlen:S1.m.length≤S.m.length:=by rw [hr']; simp
 refine ⟨⟨?_,?_,h.c,fun b o hb=>hr.mr.ext b o (h.x b o hb),?_,fun k hk=>hr.mr.mine k (by omega),fun b o hb=>hr.mr.know b o (h.x b o hb),hr.mr.wf⟩,⟨hbs,fun k hk=>hr.own.at_ k (by omega)⟩,hr.fr,hr.size,?_,hr.df⟩
 ·intro k o hk
  refine hr.mr.mem k o ?_
  rw [hr',List.getElem?_append_left (List.getElem?_eq_some_iff.1 hk).1]
  exact hk
 ·intro j k hj hk he; exact hr.mr.inj j k (by omega) (by omega) he
 ·intro b o hb k hk; exact hr.mr.apart b o (h.x b o hb) k (by omega)
 ·intro i v hi
  obtain ⟨h1,h2⟩:=h.t i v hi
  exact ⟨(hr.slot i v h1).1,h2⟩
def GenY (P:Program) (bs:List Nat) (S:St) (l:Nat) (asq:List RV) (K:RV→St→Prop):Prop:=
 ∀ s w,Mem s S.m S.x w→(∀ k b,bs[k]? = some b→s k=b)→∃ r:Loop,w.heap[l]? = some (.loop r)∧w.O l∧asq.length=r.params.size ∧
  CallsF P (Frame.round l r.fn ((r.params.zip (asq.map (ren s)).toArray).foldl (fun tmps (t,a)=>tmps.setIfInBounds t a) r.tmps) r.assign r.body .normal) w (GOut s S w K fun _ _=>False)
def yW (P:Program) (bs:List Nat) (S:St) (o:Oper) (K:RV→St→Prop):Prop:=match o.op with
 | .call c=>match c.callee with
  | .value f=>∃ l asq,evO S f=some (.ext (.func (.yield l) #[] #[]))∧getsR S c.args.toList=some asq∧GenY P bs S l asq K
  | _=>False
 | _=>False
theorem QBO {o:Oper} {a:Act} {w:WM} {next:Act→WM→Prop} {Q Q':Exit→Act→WM→Prop} (h:owp P o a w next Q) (hq:∀ c a w,Q (.panic c) a w→Q' (.panic c) a w):owp P o a w next Q':=⟨h.1,fun w1 hr=>by
 have h1:=h.2 w1 hr
 revert h1
 generalize (execOp a.eval o).run P w1.w=r
 intro h1
 unfold upon at h1 ⊢
 split at h1
 ·exact h1
 ·exact h1
 ·refine ⟨h1.1,h1.2.mono fun e w' he=>?_⟩
  cases e with
  | returned v=>exact he
  | panicked ch=>exact hq _ _ _ he
  | outgrown=>exact he
 ·refine ⟨h1.1,h1.2.mono fun e w' he=>?_⟩
  cases e with
  | returned v=>exact he
  | panicked ch=>exact hq _ _ _ he
  | outgrown=>exact he
 ·exact ⟨h1.1,hq _ _ _ h1.2⟩
 ·exact h1.elim⟩
theorem Qj9 {ops:Array Oper} {Q:Exit→Act→WM→Prop} {l2:List Oper}:∀ (l1:List Oper) (a:Act) (w:WM),wpList P ops (thenA (wpList P ops Q l2) Q) l1 a w→wpList P ops Q (l1 ++ l2) a w
 | [],a,w,h=>h
 | o :: l1,a,w,h=>by
  unfold wpList at h
  rw [List.cons_append]
  unfold wpList
  split
  ·rename_i hw
   rw [if_pos hw] at h
   exact QBO (h.mono fun a w h=>Qj9 l1 a w h) fun c a w h=>h
  ·rename_i hw
   rw [if_neg hw] at h
   exact Qj9 l1 _ _ h
theorem QGl {bs:List Nat} {w0:WM} {n:Nat} {ds:List Deferred} {s:Nat→Nat} {a:Act} {w:WM} {o:Oper} {K:RV→St→Prop} {next:Act→WM→Prop} {Q:Exit→Act→WM→Prop} (hr:Rep bs w0 n ds s S a w) (h:yW P bs S o K)
  (hK:∀ v S' w',clo S'.m.length v=true→Rep bs w0 n ds s S' a w'→K v S'→next (a.put o.dst (ren s v)) w'):owp P o a w next Q:=by
 unfold yW at h
 split at h
 ·rename_i c ho
  split at h
  ·rename_i f hc
   obtain ⟨l,asq,h1,h2,h3⟩:=h
   refine ⟨fun d hd=>(by rw [ho] at hd; cases hd),fun w1 hrel=>?_⟩
   replace hr:=hr.rely hrel
   have e1:=(hr.sl.eval h1).1
   simp only [ren] at e1
   have e2:=(QbF hr.sl h2).1
   have m1:c.args.map a.eval=(asq.map (ren s)).toArray:=by apply Array.ext'; simpa using e2
   have hpin:∀ k b,bs[k]? = some b→s k=b:=fun k b hk=>by
    have hkl:k < bs.length:=(List.getElem?_eq_some_iff.1 hk).1
    rcases hr.own.at_ k (Nat.lt_of_lt_of_le hkl hr.own.pin) with ⟨b',g1,g2⟩ | ⟨g1,_⟩
    ·rw [hk] at g1; cases g1; exact g2
    ·omega
   obtain ⟨r,hl,hO,hn,hcall⟩:=h3 s w1 hr.mr hpin
   have hx:execOp a.eval o=Instr.yield l (asq.map (ren s)).toArray:=by
    simp only [execOp,ho,Qhd hc,m1,e1,Deferred.ofValue,pure_bind,invoke]
    simp
   have hsz:(asq.map (ren s)).toArray.size=r.params.size:=by simpa using hn
   have hrun:(Instr.yield l (asq.map (ren s)).toArray).run P w1.w=.ok (.round l r.fn ((r.params.zip (asq.map (ren s)).toArray).foldl (fun tmps (t,a)=>tmps.setIfInBounds t a) r.tmps) r.assign r.body) w1.w:=by
    simp [Instr.yield,Instr.getLoop,Qcc hl (by simp),hn]
   have hev:(Instr.yield l (asq.map (ren s)).toArray).events P w1.w #[]=#[⟨.obj l,false,false⟩]:=by
    simp [Instr.yield,Instr.getLoop,Qcc hl (by simp),Qe5 _ hl rfl (by simp),hn]
   rw [hx,hrun,hev]
   refine ⟨.refl fun e he=>?_,?_⟩
   ·simp at he
    subst he
    exact ⟨.inl rfl,.inr hO⟩
   ·rw [WM.to_self]
    refine hcall.mono ?_
    rintro e w' ⟨hf,h⟩
    rcases h with ⟨v,S',rfl,hv,ht,hl,hm,hk⟩ | ⟨v,S',_,_,_,_,hk⟩
    ·exact hK v S' w' (by rw [hl]; exact hv) (hr.call ht hl hm hf) hk
    ·exact hk.elim
  ·exact h.elim
 ·exact h.elim
theorem QtM {id:Nat} {ops:Array Oper} {pre post:List Oper} {o:Oper} (hops:ops.toList=pre ++ o :: post) (hd:dOk G.n ops.toList=true) (hg:o.guard=none)
  (h:opsW P ops pre S (fun S1=>yW P G.bs S1 o fun v S2=>opsW P ops post (S2.put o.dst v) (Q .normal) (fun u S=>Q (.panic [{ v:=u,recovered:=false }]) S)) (fun u S=>Q (.panic [{ v:=u,recovered:=false }]) S)) :
  Sd P G (.region id ops false) Q S:=fun s a w hr=>by
 have hd':=hd
 rw [hops] at hd'
 have hd1:dOk G.n pre=true:=List.all_eq_true.2 fun x hx=>List.all_eq_true.1 hd' x (List.mem_append_left _ hx)
 have hd2:dOk G.n (o :: post)=true:=List.all_eq_true.2 fun x hx=>List.all_eq_true.1 hd' x (List.mem_append_right _ hx)
 obtain ⟨hdo,hd3⟩:=Qb2 hd2
 refine Qkq ?_
 rw [hops]
 refine Qj9 _ _ _ (Qcu (Q:=thenA (wpList P ops (Lift G Q) (o :: post)) (Lift G Q)) hd ?_ (fun u s S a w hr h=>⟨s,S,hr,h⟩) pre s S a w hd1 hr h)
 intro s S a w hr h
 show wpList P ops (Lift G Q) (o :: post) a w
 unfold wpList
 rw [if_pos (by simp only [Region.wanted,hg])]
 exact QGl hr h fun v S' w' hv hr' hk=>Qcu hd (fun s S _ _ hr h=>⟨s,S,hr,h⟩) (fun _ s S _ _ hr h=>⟨s,S,hr,h⟩) post s _ _ w' hd3 (hr'.put hdo hv) hk
end
theorem QtN {P:Program} {G:Ctx} {Q:Exit→St→Prop} {S:St} {id:Nat} {l:List Oper} {o:Oper} (k:Nat) (ho:l[k]? = some o) (hd:dOk G.n l=true) (hg:o.guard=none)
  (h:opsW P l.toArray (l.take k) S (fun S1=>yW P G.bs S1 o fun v S2=>opsW P l.toArray (l.drop (k+1)) (S2.put o.dst v) (Q .normal) (panW Q)) (panW Q)):Sd P G (.region id l.toArray false) Q S:=by
 refine QtM (pre:=l.take k) (post:=l.drop (k+1)) (o:=o) ?_ (by simpa using hd) hg h
 show l=_
 rw [show o :: l.drop (k+1)=l.drop k from ?_,List.take_append_drop]
 obtain ⟨hlt,rfl⟩:=List.getElem?_eq_some_iff.1 ho
 exact (List.drop_eq_getElem_cons hlt).symm
theorem QGk {P:Program} {bs:List Nat} {S:St} {d:Option Nat} {ty:TypeId} {pos:String} {af:Array Edge} {gd:Option (Nat×Bool)} {f:Operand} {args:Array Operand} {ats:Array TypeId} {K:RV→St→Prop} {l:Nat} {vs:List RV}
  (h1:evO S f=some (.ext (.func (.yield l) #[] #[]))) (h2:getsR S args.toList=some vs) (h3:GenY P bs S l vs K):yW P bs S ⟨d,.call { callee:=.value f,args:=args,argTypes:=ats },ty,pos,af,gd⟩ K:=⟨l,vs,h1,h2,h3⟩
theorem GenY.mono {P:Program} {bs:List Nat} {S:St} {l:Nat} {asq:List RV} {K K':RV→St→Prop} (h:GenY P bs S l asq K) (hk:∀ v S',K v S'→K' v S'):GenY P bs S l asq K':=fun s w hm hp=>by
 obtain ⟨r,h1,h2,h3,h4⟩:=h s w hm hp
 refine ⟨r,h1,h2,h3,h4.mono fun e w' ⟨hf,h⟩=>⟨hf,?_⟩⟩
 rcases h with ⟨v,S',e1,e2,e3,e4,e5,e6⟩ | ⟨v,S',_,_,_,_,hk⟩
 ·exact .inl ⟨v,S',e1,e2,e3,e4,e5,hk v S' e6⟩
 ·exact hk.elim
theorem Mem.take {s s':Nat→Nat} {m:List RO} {x:Nat→Obj→Prop} {w:WM} {n:Nat} (h:Mem s m x w) (hn:n≤m.length) (hc:(m.take n).all (cloO n)=true) (ha:∀ k,k < n→s' k=s k):Mem s' (m.take n) x w:=by
 have hl:(m.take n).length=n:=by simp; omega
 refine ⟨fun k o hk=>?_,fun j k hj hk he=>?_,fun k o hk=>?_,h.ext,fun b o hb k hk=>?_,fun k hk=>?_,h.know,h.wf⟩
 ·have hkn:k < n:=by have:=(List.getElem?_eq_some_iff.1 hk).1; omega
  have h1:=hk
  rw [List.getElem?_take_of_lt hkn] at h1
  have hco:=List.all_eq_true.1 hc o (List.mem_of_getElem? hk)
  rw [ha k hkn,Qg8 ha hco]
  exact h.mem k o h1
 ·rw [hl] at hj hk
  rw [ha j hj,ha k hk] at he
  exact h.inj j k (by omega) (by omega) he
 ·rw [hl]; exact List.all_eq_true.1 hc o (List.mem_of_getElem? hk)
 ·rw [hl] at hk
  rw [ha k hk]; exact h.apart b o hb k (by omega)
 ·rw [hl] at hk
  rw [ha k hk]; exact h.mine k (by omega)
theorem QnW:∀ (l:List (Tmp×Value)) (t:Array Value),(l.foldl (fun tmps (x:Tmp×Value)=>tmps.setIfInBounds x.1 x.2) t).size=t.size
 | [],t=>rfl
 | x :: l,t=>by rw [List.foldl_cons,QnW l]; simp
section
variable {P:Program} {S:St}
def roundEnd (S:St) (kL:Nat) (K:RV→St→Prop) (j:Option Code) (S2:St):Prop:=
 ∃ r2,nthX S2.m kL=some (.obj (.loop r2))∧S.m.length≤S2.m.length∧kL < S.m.length ∧
  (((setX S2.m kL (.obj (asLoop r2 (if j.isNone then .ready else .done) j))).take S.m.length).all (cloO S.m.length)=true) ∧
  K (.ext (.bool j.isNone)) ⟨S.t,(setX S2.m kL (.obj (asLoop r2 (if j.isNone then .ready else .done) j))).take S.m.length,S2.x⟩
def roundQ (S:St) (kL:Nat) (K:RV→St→Prop):Exit→St→Prop
 | .normal,S2=>roundEnd S kL K none S2
 | .ret,S2=>roundEnd S kL K (some .ret) S2
 | _,_=>False
def roundA (P:Program) (G:Ctx) (S:St) (kL:Nat) (bd:Code) (K:RV→St→Prop):Exit→St→Prop
 | .normal,S1=>∃ r,nthX S1.m kL=some (.obj (.loop r))∧r.state=.ready∧Sd P G bd (roundQ S kL K) ⟨S1.t,setX S1.m kL (.obj (.loop { r with state:=.busy })),S1.x⟩
 | _,_=>False
theorem Qg9 {bs:List Nat} {w0:WM} {n:Nat} {s:Nat→Nat} {S:St} {a:Act} {w:WM} {kL l:Nat} {r r':Loop} (hr:Rep bs w0 n [] s S a w) (hk:nthX S.m kL=some (.obj (.loop r))) (hl:s kL=l) :
  w.heap[l]? = some (.loop r)∧w.M l∧Rep bs w0 n [] s ⟨S.t,setX S.m kL (.obj (.loop r')),S.x⟩ a (w.put l (.loop r')):=by
 rw [Qay] at hk
 have hlt:=(List.getElem?_eq_some_iff.1 hk).1
 have h1:=hr.mr.mem kL _ hk
 simp only [renO,hl] at h1
 have hM:=hr.mr.mine kL hlt
 rw [hl] at hM
 refine ⟨h1,hM,?_⟩
 have:=hr.set (o:=.obj (.loop r')) (v:={ w.w with heap:=w.heap.setIfInBounds l (.loop r') }) hlt rfl (by simp) (fun j=>by
  rw [hl]; simp only [renO]; exact QeJ (w:=w.w) (Array.getElem?_eq_some_iff.1 h1).1 j) rfl rfl rfl
 rw [QbV]
 exact this
theorem QzB {bs:List Nat} {l kL:Nat} {asq:List RV} {K:RV→St→Prop} {t':List (Nat×RV)} (r:Loop) (hkL:nthX S.m kL=some (.obj (.loop r))) (hb:bs[kL]? = some l) (hps:asq.length=r.params.size)
  (hsl:∀ s:Nat→Nat,(∀ k b,bs[k]? = some b→s k=b)→Sl s ⟨t',S.m,S.x⟩ { tmps:=(r.params.zip (asq.map (ren s)).toArray).foldl (fun tmps (x:Tmp×Value)=>tmps.setIfInBounds x.1 x.2) r.tmps,defers:=[] })
  (hA:S.m.all (cloO S.m.length)=true→∀ bs0 w0,Sd P ⟨bs0,w0,r.tmps.size,[]⟩ r.assign (roundA P ⟨bs0,w0,r.tmps.size,[]⟩ S kL r.body K) ⟨t',S.m,S.x⟩):GenY P bs S l asq K:=by
 intro s w hM hpin
 have hl:=hpin kL l hb
 have hk:=hkL
 rw [Qay] at hk
 have hlt:=(List.getElem?_eq_some_iff.1 hk).1
 have h1:=hM.mem kL _ hk
 simp only [renO,hl] at h1
 refine ⟨r,h1,by rw [←hl]; exact .inl (hM.mine kL hlt),hps,?_⟩
 have hb0:((List.range S.m.length).map s).length=S.m.length:=by simp
 have hrep:Rep ((List.range S.m.length).map s) w r.tmps.size [] s ⟨t',S.m,S.x⟩ { tmps:=(r.params.zip (asq.map (ren s)).toArray).foldl (fun tmps (x:Tmp×Value)=>tmps.setIfInBounds x.1 x.2) r.tmps,defers:=[] } w:=
  ⟨hM,⟨Nat.le_of_eq hb0,fun k hk=>.inl ⟨s k,by rw [List.getElem?_map,List.getElem?_range hk]; rfl,rfl⟩⟩,Fr.refl _ _,by rw [←Array.foldl_toList]; exact QnW _ _,hsl s hpin,rfl⟩
 have pin:∀ {s1:Nat→Nat} {S1:St} {a1:Act} {w1:WM},Rep ((List.range S.m.length).map s) w r.tmps.size [] s1 S1 a1 w1→S.m.length≤S1.m.length∧∀ k,k < S.m.length→s1 k=s k:=fun hr1=>
  ⟨by have:=hr1.own.pin; rw [hb0] at this; exact this,fun k hk=>by
   rcases hr1.own.at_ k (Nat.lt_of_lt_of_le (by rw [hb0]; exact hk) hr1.own.pin) with ⟨b,g1,g2⟩ | ⟨g1,_⟩
   ·simp [hk] at g1
    rw [g2,←g1]
   ·rw [hb0] at g1; omega⟩
 have hall:S.m.all (cloO S.m.length)=true:=List.all_eq_true.2 fun o ho=>by
  obtain ⟨k,hk⟩:=List.getElem?_of_mem ho
  exact hM.cm k o hk
 refine QCK (((hA hall _ w) s _ w hrep).mono ?_)
 rintro e a1 w1 ⟨s1,S1,hr1,hq⟩
 cases e with
 | normal=>
  refine ⟨rfl,fun w2 hrel=>?_⟩
  obtain ⟨r1,g1,g2,g3⟩:=hq
  have hr2:=hr1.rely hrel
  obtain ⟨k1,k2,k3⟩:=Qg9 (r':={ r1 with state:=.busy }) hr2 g1 ((pin hr2).2 kL hlt |>.trans hl)
  refine ⟨r1,k1,g2,k2,(g3 s1 a1 _ k3).mono ?_⟩
  rintro e a2 w3 ⟨s2,S2,hr3,hq⟩
  have fin:∀ j:Option Code,roundEnd S kL K j S2→∀ w4,Rely w3 w4→∃ r2,w4.heap[l]? = some (.loop r2)∧w4.M l ∧
    GOut s S w K (fun _ _=>False) (.returned (.bool j.isNone)) (w4.put l (asLoop r2 (if j.isNone then .ready else .done) j)):=by
   rintro j ⟨r2,q1,q2,q3,q4,q5⟩ w4 hrel2
   have hr4:=hr3.rely hrel2
   obtain ⟨p1,p2,p3⟩:=Qg9 (r':={ r2 with state:=(if j.isNone then .ready else .done),pending:=j }) hr4 q1 ((pin hr4).2 kL hlt |>.trans hl)
   refine ⟨r2,p1,p2,p3.fr,.inl ⟨.ext (.bool j.isNone),⟨S.t,(setX S2.m kL (.obj (asLoop r2 (if j.isNone then .ready else .done) j))).take S.m.length,S2.x⟩,rfl,rfl,rfl,?_,?_,q5⟩⟩
   ·rw [QbV]; simp; omega
   ·exact p3.mr.take (by rw [QbV]; simpa using q2) q4 fun k hk=>((pin p3).2 k hk).symm
  cases e with
  | normal=>exact ⟨none,.inl ⟨rfl,rfl⟩,fin none hq⟩
  | ret=>exact ⟨some .ret,.inr ⟨rfl,rfl⟩,fin (some .ret) hq⟩
  | _=>exact hq.elim
 | _=>exact hq.elim
end
end R
open Go Go.Proofs.YtkokohkbhlnjkaaGreatDoor.R
namespace R
set_option maxRecDepth 10000
theorem WE:type_of% (And.intro (And.intro (And.intro (And.intro (And.intro (And.intro (And.intro (And.intro @QoN.{1} @QsJ) (And.intro @QsK @Qrn)) (And.intro (And.intro @Qrm @Qlq) (And.intro @Qlk (And.intro @Qli @Qlj)))) (And.intro (And.intro (And.intro @Qln @Qlp) (And.intro @Qlh @Qlg)) (And.intro (And.intro @Qlo @Qll) (And.intro @Qmk (And.intro @QsT @QsV))))) (And.intro (And.intro (And.intro (And.intro @QsR @QsS) (And.intro @QsU @Qo2)) (And.intro (And.intro @Qo4 @Qo0) (And.intro @Qo1 (And.intro @Qo3 @Qp3)))) (And.intro (And.intro (And.intro @Qp5 @Qp2) (And.intro @Qp4 (And.intro @Qq3 @QqZ))) (And.intro (And.intro @Qq0 @Qq1) (And.intro @QoK (And.intro @QoL @QoM)))))) (And.intro (And.intro (And.intro (And.intro (And.intro @Qoz @QoA) (And.intro @QoJ @QoB)) (And.intro (And.intro @Qnn @QoE) (And.intro @bind_some (And.intro @QqO @Qqs)))) (And.intro (And.intro (And.intro @QqR @Qq4) (And.intro @QqP @Qp0)) (And.intro (And.intro @Qp1 @QpZ) (And.intro @Qqt (And.intro @QqV @Qqz))))) (And.intro (And.intro (And.intro (And.intro @QqK @QqU) (And.intro @QqA @QqB)) (And.intro (And.intro @QqD @List.take_succ_cons.{0}) (And.intro @List.take_zero.{0} (And.intro @List.drop_succ_cons.{0} @List.drop_zero.{0})))) (And.intro (And.intro (And.intro @Qqv @Qns) (And.intro @Qnr (And.intro @List.map_map.{0,0,0} @QqS))) (And.intro (And.intro @QqJ @QnY) (And.intro @QnZ (And.intro @QqC @Qnp))))))) (And.intro (And.intro (And.intro (And.intro (And.intro (And.intro @Qno @QqE) (And.intro @QoT @QoS)) (And.intro (And.intro @QoR @QqH) (And.intro @Qpr (And.intro @Qpq @Ql5)))) (And.intro (And.intro (And.intro @Qpo @Qpp) (And.intro @QpJ @QpK)) (And.intro (And.intro @QpI @Qpw) (And.intro @Qkf (And.intro @Qq6 @Qq7))))) (And.intro (And.intro (And.intro (And.intro @Qq9 @Qq8) (And.intro @Qq5 @Qpv)) (And.intro (And.intro @Qo8 @QiU) (And.intro @List.contains_cons.{0} (And.intro @List.contains_nil.{0} @Bool.or_false)))) (And.intro (And.intro (And.intro @Bool.false_or @Bool.true_or) (And.intro @Bool.or_true (And.intro @Qrb @Qrc))) (And.intro (And.intro @Qrd @Qra) (And.intro @Qrk (And.intro @QqI @QpG)))))) (And.intro (And.intro (And.intro (And.intro (And.intro @QpF @QpQ) (And.intro @Qqc @Qqx)) (And.intro (And.intro @Qpi @Qpd) (And.intro @Qpe (And.intro @Qpf @Qpg)))) (And.intro (And.intro (And.intro @Qph @Qqy) (And.intro @QqG (And.intro @Qqr @Qqu))) (And.intro (And.intro @Qqw @QqM) (And.intro @QqT (And.intro @QsF @QqL))))) (And.intro (And.intro (And.intro (And.intro @QqN @QqF) (And.intro @QqQ @QoX)) (And.intro (And.intro @QrC @Qrz) (And.intro @Qnj (And.intro @Qnd @Qne)))) (And.intro (And.intro (And.intro @Qnf @Qpm) (And.intro @Qss (And.intro @Qsr @QkZ))) (And.intro (And.intro @Qlf @Qk8) (And.intro @Qk0 (And.intro @Qla @QfR)))))))) (And.intro (And.intro (And.intro (And.intro (And.intro (And.intro (And.intro @Qk3 @Qk9) (And.intro @Qk7 @Qk6)) (And.intro (And.intro @Qk5 @Qk4) (And.intro @Qlc (And.intro @Qld @Qk1)))) (And.intro (And.intro (And.intro @Qk2 @Qlb) (And.intro @Qle @Qkj)) (And.intro (And.intro @Qkk @Qhc) (And.intro @Qhb (And.intro @Qjy @Qjx))))) (And.intro (And.intro (And.intro (And.intro @QrO @QrL) (And.intro @QrN @QrM)) (And.intro (And.intro @QrK @QpY) (And.intro @QpV (And.intro @QpW @QpX)))) (And.intro (And.intro (And.intro @QsQ @QsP) (And.intro @Qro (And.intro @QsC @Qqh))) (And.intro (And.intro @Qqd @Qqq) (And.intro @Qqm (And.intro @Qqp @Qqi)))))) (And.intro (And.intro (And.intro (And.intro (And.intro @Qqf @Qqk) (And.intro @Qqg @Qql)) (And.intro (And.intro @Qqn @Qqe) (And.intro @Qqj (And.intro @Qqo @QoZ)))) (And.intro (And.intro (And.intro @Qnz @Qnx) (And.intro @Qny @QmI)) (And.intro (And.intro @QmG @QmH) (And.intro @Qh1 (And.intro @Ql9 @Ql6))))) (And.intro (And.intro (And.intro (And.intro @Qmf @Qmd) (And.intro @Qme @Qma)) (And.intro (And.intro @Ql7 @Qmb) (And.intro @Ql8 (And.intro @Qmc @Qtm)))) (And.intro (And.intro (And.intro @Qtn @QnG) (And.intro @QnI (And.intro @QnJ @QnF))) (And.intro (And.intro @QnH @QsN) (And.intro @QsM (And.intro @QmA @Qmz))))))) (And.intro (And.intro (And.intro (And.intro (And.intro (And.intro @Qqb @Qqa) (And.intro @Qsv @Qsu)) (And.intro (And.intro @Qrv @Qry) (And.intro @Qrx (And.intro @Qs0 @QsY)))) (And.intro (And.intro (And.intro @QoD @Qmn) (And.intro @QoC @Qrp)) (And.intro (And.intro @Qrq @QpP) (And.intro @QpO (And.intro @Qto @Qtl))))) (And.intro (And.intro (And.intro (And.intro @Qs4 @Qs7) (And.intro @QcK @Qnm)) (And.intro (And.intro @QkX @QkY) (And.intro @Qda (And.intro @QkW @QoW)))) (And.intro (And.intro (And.intro @QoV @Qmm.{1}) (And.intro @Qml.{1} (And.intro @List.map_cons.{0,0} @List.map_nil.{0,0}))) (And.intro (And.intro @List.length_cons.{0} @List.length_nil.{0}) (And.intro @List.length_append.{0} (And.intro @List.nil_append.{0} @List.cons_append.{0})))))) (And.intro (And.intro (And.intro (And.intro (And.intro @List.append_nil.{0} @Nat.add_zero) (And.intro @Nat.zero_add @List.all_cons.{0})) (And.intro (And.intro @List.all_nil.{0} @Bool.and_self) (And.intro @Bool.and_true (And.intro @Bool.true_and @true_and)))) (And.intro (And.intro (And.intro @and_true @and_self) (And.intro @Option.map_some.{0,0} (And.intro @Option.bind_some.{0,0} @Option.map_none.{0,0}))) (And.intro (And.intro @List.getElem?_toArray.{0} @List.getElem?_cons_zero.{0}) (And.intro @List.getElem?_cons_succ.{0} (And.intro @Option.toList_some.{0} @Option.toList_none.{0}))))) (And.intro (And.intro (And.intro (And.intro @ne_eq.{1} @not_false_eq_true) (And.intro @Bool.not_true @Bool.not_false)) (And.intro (And.intro @beq_self_eq_true.{0} @Bool.true_beq) (And.intro @Bool.false_beq (And.intro @decide_true @decide_false)))) (And.intro (And.intro (And.intro @Option.some.injEq.{0} @QkJ) (And.intro @QkM (And.intro @QkI @QkL))) (And.intro (And.intro @QkK @QkN) (And.intro @Nat.min_def (And.intro @if_true.{1} @if_false.{1}))))))))):=
 (And.intro (And.intro (And.intro (And.intro (And.intro (And.intro (And.intro (And.intro @QoN.{1} @QsJ) (And.intro @QsK @Qrn)) (And.intro (And.intro @Qrm @Qlq) (And.intro @Qlk (And.intro @Qli @Qlj)))) (And.intro (And.intro (And.intro @Qln @Qlp) (And.intro @Qlh @Qlg)) (And.intro (And.intro @Qlo @Qll) (And.intro @Qmk (And.intro @QsT @QsV))))) (And.intro (And.intro (And.intro (And.intro @QsR @QsS) (And.intro @QsU @Qo2)) (And.intro (And.intro @Qo4 @Qo0) (And.intro @Qo1 (And.intro @Qo3 @Qp3)))) (And.intro (And.intro (And.intro @Qp5 @Qp2) (And.intro @Qp4 (And.intro @Qq3 @QqZ))) (And.intro (And.intro @Qq0 @Qq1) (And.intro @QoK (And.intro @QoL @QoM)))))) (And.intro (And.intro (And.intro (And.intro (And.intro @Qoz @QoA) (And.intro @QoJ @QoB)) (And.intro (And.intro @Qnn @QoE) (And.intro @bind_some (And.intro @QqO @Qqs)))) (And.intro (And.intro (And.intro @QqR @Qq4) (And.intro @QqP @Qp0)) (And.intro (And.intro @Qp1 @QpZ) (And.intro @Qqt (And.intro @QqV @Qqz))))) (And.intro (And.intro (And.intro (And.intro @QqK @QqU) (And.intro @QqA @QqB)) (And.intro (And.intro @QqD @List.take_succ_cons.{0}) (And.intro @List.take_zero.{0} (And.intro @List.drop_succ_cons.{0} @List.drop_zero.{0})))) (And.intro (And.intro (And.intro @Qqv @Qns) (And.intro @Qnr (And.intro @List.map_map.{0,0,0} @QqS))) (And.intro (And.intro @QqJ @QnY) (And.intro @QnZ (And.intro @QqC @Qnp))))))) (And.intro (And.intro (And.intro (And.intro (And.intro (And.intro @Qno @QqE) (And.intro @QoT @QoS)) (And.intro (And.intro @QoR @QqH) (And.intro @Qpr (And.intro @Qpq @Ql5)))) (And.intro (And.intro (And.intro @Qpo @Qpp) (And.intro @QpJ @QpK)) (And.intro (And.intro @QpI @Qpw) (And.intro @Qkf (And.intro @Qq6 @Qq7))))) (And.intro (And.intro (And.intro (And.intro @Qq9 @Qq8) (And.intro @Qq5 @Qpv)) (And.intro (And.intro @Qo8 @QiU) (And.intro @List.contains_cons.{0} (And.intro @List.contains_nil.{0} @Bool.or_false)))) (And.intro (And.intro (And.intro @Bool.false_or @Bool.true_or) (And.intro @Bool.or_true (And.intro @Qrb @Qrc))) (And.intro (And.intro @Qrd @Qra) (And.intro @Qrk (And.intro @QqI @QpG)))))) (And.intro (And.intro (And.intro (And.intro (And.intro @QpF @QpQ) (And.intro @Qqc @Qqx)) (And.intro (And.intro @Qpi @Qpd) (And.intro @Qpe (And.intro @Qpf @Qpg)))) (And.intro (And.intro (And.intro @Qph @Qqy) (And.intro @QqG (And.intro @Qqr @Qqu))) (And.intro (And.intro @Qqw @QqM) (And.intro @QqT (And.intro @QsF @QqL))))) (And.intro (And.intro (And.intro (And.intro @QqN @QqF) (And.intro @QqQ @QoX)) (And.intro (And.intro @QrC @Qrz) (And.intro @Qnj (And.intro @Qnd @Qne)))) (And.intro (And.intro (And.intro @Qnf @Qpm) (And.intro @Qss (And.intro @Qsr @QkZ))) (And.intro (And.intro @Qlf @Qk8) (And.intro @Qk0 (And.intro @Qla @QfR)))))))) (And.intro (And.intro (And.intro (And.intro (And.intro (And.intro (And.intro @Qk3 @Qk9) (And.intro @Qk7 @Qk6)) (And.intro (And.intro @Qk5 @Qk4) (And.intro @Qlc (And.intro @Qld @Qk1)))) (And.intro (And.intro (And.intro @Qk2 @Qlb) (And.intro @Qle @Qkj)) (And.intro (And.intro @Qkk @Qhc) (And.intro @Qhb (And.intro @Qjy @Qjx))))) (And.intro (And.intro (And.intro (And.intro @QrO @QrL) (And.intro @QrN @QrM)) (And.intro (And.intro @QrK @QpY) (And.intro @QpV (And.intro @QpW @QpX)))) (And.intro (And.intro (And.intro @QsQ @QsP) (And.intro @Qro (And.intro @QsC @Qqh))) (And.intro (And.intro @Qqd @Qqq) (And.intro @Qqm (And.intro @Qqp @Qqi)))))) (And.intro (And.intro (And.intro (And.intro (And.intro @Qqf @Qqk) (And.intro @Qqg @Qql)) (And.intro (And.intro @Qqn @Qqe) (And.intro @Qqj (And.intro @Qqo @QoZ)))) (And.intro (And.intro (And.intro @Qnz @Qnx) (And.intro @Qny @QmI)) (And.intro (And.intro @QmG @QmH) (And.intro @Qh1 (And.intro @Ql9 @Ql6))))) (And.intro (And.intro (And.intro (And.intro @Qmf @Qmd) (And.intro @Qme @Qma)) (And.intro (And.intro @Ql7 @Qmb) (And.intro @Ql8 (And.intro @Qmc @Qtm)))) (And.intro (And.intro (And.intro @Qtn @QnG) (And.intro @QnI (And.intro @QnJ @QnF))) (And.intro (And.intro @QnH @QsN) (And.intro @QsM (And.intro @QmA @Qmz))))))) (And.intro (And.intro (And.intro (And.intro (And.intro (And.intro @Qqb @Qqa) (And.intro @Qsv @Qsu)) (And.intro (And.intro @Qrv @Qry) (And.intro @Qrx (And.intro @Qs0 @QsY)))) (And.intro (And.intro (And.intro @QoD @Qmn) (And.intro @QoC @Qrp)) (And.intro (And.intro @Qrq @QpP) (And.intro @QpO (And.intro @Qto @Qtl))))) (And.intro (And.intro (And.intro (And.intro @Qs4 @Qs7) (And.intro @QcK @Qnm)) (And.intro (And.intro @QkX @QkY) (And.intro @Qda (And.intro @QkW @QoW)))) (And.intro (And.intro (And.intro @QoV @Qmm.{1}) (And.intro @Qml.{1} (And.intro @List.map_cons.{0,0} @List.map_nil.{0,0}))) (And.intro (And.intro @List.length_cons.{0} @List.length_nil.{0}) (And.intro @List.length_append.{0} (And.intro @List.nil_append.{0} @List.cons_append.{0})))))) (And.intro (And.intro (And.intro (And.intro (And.intro @List.append_nil.{0} @Nat.add_zero) (And.intro @Nat.zero_add @List.all_cons.{0})) (And.intro (And.intro @List.all_nil.{0} @Bool.and_self) (And.intro @Bool.and_true (And.intro @Bool.true_and @true_and)))) (And.intro (And.intro (And.intro @and_true @and_self) (And.intro @Option.map_some.{0,0} (And.intro @Option.bind_some.{0,0} @Option.map_none.{0,0}))) (And.intro (And.intro @List.getElem?_toArray.{0} @List.getElem?_cons_zero.{0}) (And.intro @List.getElem?_cons_succ.{0} (And.intro @Option.toList_some.{0} @Option.toList_none.{0}))))) (And.intro (And.intro (And.intro (And.intro @ne_eq.{1} @not_false_eq_true) (And.intro @Bool.not_true @Bool.not_false)) (And.intro (And.intro @beq_self_eq_true.{0} @Bool.true_beq) (And.intro @Bool.false_beq (And.intro @decide_true @decide_false)))) (And.intro (And.intro (And.intro @Option.some.injEq.{0} @QkJ) (And.intro @QkM (And.intro @QkI @QkL))) (And.intro (And.intro @QkK @QkN) (And.intro @Nat.min_def (And.intro @if_true.{1} @if_false.{1})))))))))
class Stk (p:Prop):Prop where
 ok:True
theorem stk {p:Prop} [Stk p] (h:p):p:=h
instance {a b c d e}:Stk (cW a b (.loop c) d e):=⟨trivial⟩
instance {a b c d e}:Stk (Sd a b c d e):=⟨trivial⟩
instance {a b c d e f}:Stk (cW a b (.region c d true) e f):=⟨trivial⟩
instance {a b c d e f}:Stk (callW a b c (some d) e f):=⟨trivial⟩
instance {a b c}:Stk (rowW a b c):=⟨trivial⟩
instance {a b c d e f g}:Stk (bldW a b c d e f g):=⟨trivial⟩
instance {a b c d e f}:Stk (lookW a b c d e f):=⟨trivial⟩
instance {a b c d e f}:Stk (updW a b c d e f):=⟨trivial⟩
instance {a b c d e f}:Stk (extW a b c d e f):=⟨trivial⟩
instance {a b c}:Stk (inW a b c):=⟨trivial⟩
instance {a b c d e f}:Stk (appW a b c d e f):=⟨trivial⟩
instance {a b c d e f}:Stk (copyW a b c d e f):=⟨trivial⟩
instance {a b c}:Stk (extM a b c):=⟨trivial⟩
instance {a b c d e f g h}:Stk (binW a b c d e f g h):=⟨trivial⟩
instance {a b c}:Stk (pureW a b c):=⟨trivial⟩
instance {a b c}:Stk (builtW a b c):=⟨trivial⟩
instance {a b c d}:Stk (invokeW a b c d):=⟨trivial⟩
end R
open Go Go.RowKit Go.Proofs.YtkokohkbhlnjkaaGreatDoor.R
theorem ty_3:tyS Tryz.prog 3=some (false,1):=by kernel_rfl
theorem ty_4:tyS Tryz.prog 4=some (false,1):=by kernel_rfl
theorem Qai:tyS Tryz.prog 23=some (true,7):=by kernel_rfl
theorem QF9:tyS Tryz.prog 24=some (false,1):=by kernel_rfl
theorem QbX:tyS Tryz.prog 28=some (false,1):=by kernel_rfl
theorem Qcy:tyS Tryz.prog 29=some (false,1):=by kernel_rfl
theorem Qaq:tyS Tryz.prog 30=some (false,1):=by kernel_rfl
theorem Qa0:tyS Tryz.prog 36=some (true,3):=by kernel_rfl
theorem Qba:tyS Tryz.prog 38=some (true,3):=by kernel_rfl
theorem QeL:tyS Tryz.prog 39=some (false,1):=by kernel_rfl
theorem QbY:tyS Tryz.prog 41=some (true,2):=by kernel_rfl
theorem QaT:tyS Tryz.prog 43=some (true,7):=by kernel_rfl
theorem QaH:tyS Tryz.prog 45=some (true,6):=by kernel_rfl
theorem Qa1:tyS Tryz.prog 47=some (true,2):=by kernel_rfl
theorem Qaj:tyS Tryz.prog 49=some (true,39):=by kernel_rfl
theorem QaN:tyS Tryz.prog 54=some (true,6):=by kernel_rfl
theorem QaU:tyS Tryz.prog 64=some (true,4):=by kernel_rfl
theorem Qc2:tyS Tryz.prog 93=some (true,2):=by kernel_rfl
theorem Qcx:tyS Tryz.prog 111=some (true,39):=by kernel_rfl
theorem QF5:tyS Tryz.prog 130=some (true,5):=by kernel_rfl
theorem QaR:tyS Tryz.prog 133=some (true,2):=by kernel_rfl
theorem QfB:tyS Tryz.prog 135=some (true,7):=by kernel_rfl
theorem QbW:tyS Tryz.prog 144=some (false,1):=by kernel_rfl
theorem Qs1:tyS Tryz.prog 150=some (true,4):=by kernel_rfl
theorem QF6:tyS Tryz.prog 174=some (false,1):=by kernel_rfl
theorem QF7:tyS Tryz.prog 179=some (false,1):=by kernel_rfl
theorem QfC:tyS Tryz.prog 180=some (false,1):=by kernel_rfl
theorem Qbn:tyS Tryz.prog 183=some (true,4):=by kernel_rfl
theorem QaS:tyS Tryz.prog 196=some (true,3):=by kernel_rfl
theorem QF8:tyS Tryz.prog 221=some (true,2):=by kernel_rfl
theorem QfD:tyS Tryz.prog 225=some (true,2):=by kernel_rfl
theorem QjX:tyS Tryz.prog 233=some (true,3):=by kernel_rfl
theorem QGa:tyS Tryz.prog 241=some (true,2):=by kernel_rfl
theorem QaB:fieldOff Tryz.prog 23 0=some 0:=by kernel_rfl
theorem QaE:fieldOff Tryz.prog 23 1=some 1:=by kernel_rfl
theorem Qa5:fieldOff Tryz.prog 23 2=some 2:=by kernel_rfl
theorem Qa6:fieldOff Tryz.prog 23 3=some 3:=by kernel_rfl
theorem QaW:fieldOff Tryz.prog 23 4=some 4:=by kernel_rfl
theorem QaV:fieldOff Tryz.prog 23 5=some 5:=by kernel_rfl
theorem QaX:fieldOff Tryz.prog 23 6=some 6:=by kernel_rfl
theorem QbS:fieldOff Tryz.prog 36 0=some 0:=by kernel_rfl
theorem Qiv:fieldOff Tryz.prog 36 1=some 1:=by kernel_rfl
theorem QbE:fieldOff Tryz.prog 36 2=some 2:=by kernel_rfl
theorem Qgp:fieldOff Tryz.prog 38 0=some 0:=by kernel_rfl
theorem Qiw:fieldOff Tryz.prog 38 1=some 1:=by kernel_rfl
theorem Qgq:fieldOff Tryz.prog 38 2=some 2:=by kernel_rfl
theorem QnP:fieldOff Tryz.prog 41 0=some 0:=by kernel_rfl
theorem QnQ:fieldOff Tryz.prog 41 1=some 1:=by kernel_rfl
theorem QnR:fieldOff Tryz.prog 43 0=some 0:=by kernel_rfl
theorem QnS:fieldOff Tryz.prog 43 1=some 1:=by kernel_rfl
theorem QnT:fieldOff Tryz.prog 43 2=some 2:=by kernel_rfl
theorem Qix:fieldOff Tryz.prog 43 3=some 3:=by kernel_rfl
theorem Qgr:fieldOff Tryz.prog 43 4=some 4:=by kernel_rfl
theorem Qyg:fieldOff Tryz.prog 43 5=some 5:=by kernel_rfl
theorem QnU:fieldOff Tryz.prog 43 6=some 6:=by kernel_rfl
theorem Qb4:fieldOff Tryz.prog 45 0=some 0:=by kernel_rfl
theorem Qiy:fieldOff Tryz.prog 45 1=some 1:=by kernel_rfl
theorem Qyh:fieldOff Tryz.prog 45 2=some 2:=by kernel_rfl
theorem Qgs:fieldOff Tryz.prog 45 3=some 3:=by kernel_rfl
theorem Qyi:fieldOff Tryz.prog 45 4=some 4:=by kernel_rfl
theorem Qiz:fieldOff Tryz.prog 45 5=some 5:=by kernel_rfl
theorem Qeq:fieldOff Tryz.prog 47 0=some 0:=by kernel_rfl
theorem Qer:fieldOff Tryz.prog 47 1=some 1:=by kernel_rfl
theorem QaY:fieldOff Tryz.prog 49 0=some 0:=by kernel_rfl
theorem QbJ:fieldOff Tryz.prog 49 1=some 7:=by kernel_rfl
theorem Qe9:fieldOff Tryz.prog 49 2=some 8:=by kernel_rfl
theorem QaF:fieldOff Tryz.prog 49 3=some 9:=by kernel_rfl
theorem QbT:fieldOff Tryz.prog 49 4=some 10:=by kernel_rfl
theorem Qes:fieldOff Tryz.prog 49 5=some 11:=by kernel_rfl
theorem QaJ:fieldOff Tryz.prog 49 6=some 12:=by kernel_rfl
theorem Qcm:fieldOff Tryz.prog 49 7=some 15:=by kernel_rfl
theorem Qet:fieldOff Tryz.prog 49 8=some 18:=by kernel_rfl
theorem QcN:fieldOff Tryz.prog 49 9=some 19:=by kernel_rfl
theorem Qb5:fieldOff Tryz.prog 49 10=some 21:=by kernel_rfl
theorem Qb6:fieldOff Tryz.prog 49 11=some 28:=by kernel_rfl
theorem Qe8:fieldOff Tryz.prog 49 12=some 34:=by kernel_rfl
theorem Qdk:fieldOff Tryz.prog 49 13=some 35:=by kernel_rfl
theorem QbK:fieldOff Tryz.prog 49 14=some 36:=by kernel_rfl
theorem Qcl:fieldOff Tryz.prog 49 15=some 38:=by kernel_rfl
theorem QaK:fieldOff Tryz.prog 54 0=some 0:=by kernel_rfl
theorem Qfa:fieldOff Tryz.prog 54 1=some 1:=by kernel_rfl
theorem Qyj:fieldOff Tryz.prog 54 2=some 2:=by kernel_rfl
theorem Qyk:fieldOff Tryz.prog 54 3=some 3:=by kernel_rfl
theorem Qyl:fieldOff Tryz.prog 54 4=some 4:=by kernel_rfl
theorem Qym:fieldOff Tryz.prog 54 5=some 5:=by kernel_rfl
theorem Qdl:fieldOff Tryz.prog 64 0=some 0:=by kernel_rfl
theorem Qbi:fieldOff Tryz.prog 64 1=some 1:=by kernel_rfl
theorem QbL:fieldOff Tryz.prog 64 2=some 2:=by kernel_rfl
theorem QiA:fieldOff Tryz.prog 64 3=some 3:=by kernel_rfl
theorem Qby:fieldOff Tryz.prog 93 0=some 0:=by kernel_rfl
theorem Qgt:fieldOff Tryz.prog 93 1=some 1:=by kernel_rfl
theorem Qap:fieldOff Tryz.prog 111 0=some 0:=by kernel_rfl
theorem Qx8:fieldOff Tryz.prog 130 0=some 0:=by kernel_rfl
theorem Qx9:fieldOff Tryz.prog 130 1=some 4:=by kernel_rfl
theorem QnK:fieldOff Tryz.prog 135 0=some 0:=by kernel_rfl
theorem Qgl:fieldOff Tryz.prog 135 1=some 1:=by kernel_rfl
theorem QnL:fieldOff Tryz.prog 135 2=some 2:=by kernel_rfl
theorem Qgm:fieldOff Tryz.prog 135 3=some 3:=by kernel_rfl
theorem Qya:fieldOff Tryz.prog 135 4=some 4:=by kernel_rfl
theorem Qis:fieldOff Tryz.prog 135 5=some 5:=by kernel_rfl
theorem QnM:fieldOff Tryz.prog 135 6=some 6:=by kernel_rfl
theorem QnN:fieldOff Tryz.prog 150 2=some 2:=by kernel_rfl
theorem Qit:fieldOff Tryz.prog 150 3=some 3:=by kernel_rfl
theorem Qyb:fieldOff Tryz.prog 176 0=some 0:=by kernel_rfl
theorem Qyc:fieldOff Tryz.prog 188 0=some 0:=by kernel_rfl
theorem Qyd:fieldOff Tryz.prog 188 1=some 1:=by kernel_rfl
theorem Qck:fieldOff Tryz.prog 196 0=some 0:=by kernel_rfl
theorem Qep:fieldOff Tryz.prog 196 1=some 1:=by kernel_rfl
theorem Qdj:fieldOff Tryz.prog 196 2=some 2:=by kernel_rfl
theorem Qye:fieldOff Tryz.prog 208 0=some 0:=by kernel_rfl
theorem Qgn:fieldOff Tryz.prog 225 0=some 0:=by kernel_rfl
theorem Qgo:fieldOff Tryz.prog 225 1=some 1:=by kernel_rfl
theorem QnO:fieldOff Tryz.prog 233 0=some 0:=by kernel_rfl
theorem Qyf:fieldOff Tryz.prog 241 1=some 1:=by kernel_rfl
theorem Qiu:fieldOff Tryz.prog 243 0=some 0:=by kernel_rfl
theorem QbR:elemOff Tryz.prog 24=some (none,1):=by kernel_rfl
theorem Qbd:elemOff Tryz.prog 28=some (none,1):=by kernel_rfl
theorem QaP:elemOff Tryz.prog 29=some (none,6):=by kernel_rfl
theorem Qbr:elemOff Tryz.prog 39=some (none,2):=by kernel_rfl
theorem QcL:elemOff Tryz.prog 133=some (some 2,1):=by kernel_rfl
theorem Qbg:elemOff Tryz.prog 183=some (some 2,2):=by kernel_rfl
theorem Qbh:elemOff Tryz.prog 184=some (none,4):=by kernel_rfl
theorem QjZ:tyZ Tryz.prog 23=some [.int .i64 0,.int .i64 0,.int .i64 0,.int .i64 0,.int .i64 0,.int .i64 0,.int .i64 0]:=by kernel_rfl
theorem Qj1:tyZ Tryz.prog 29=some [.slice none 0 0]:=by kernel_rfl
theorem Qce:tyZ Tryz.prog 30=some [.int .i64 0]:=by kernel_rfl
theorem QeM:tyZ Tryz.prog 36=some [.int .i64 0,.int .i64 0,.int .i64 0]:=by kernel_rfl
theorem Qs3:tyZ Tryz.prog 38=some [.bool false,.int .i64 0,.int .i64 0]:=by kernel_rfl
theorem Qj2:tyZ Tryz.prog 41=some [.int .i64 0,.int .i64 0]:=by kernel_rfl
theorem Qc3:tyZ Tryz.prog 43=some [.int .i64 0,.int .i64 0,.int .i64 0,.bool false,.bool false,.int .i64 0,.int .i64 0]:=by kernel_rfl
theorem Qcf:tyZ Tryz.prog 45=some [.bool false,.int .i64 0,.int .i64 0,.int .i64 0,.int .i64 0,.int .i64 0]:=by kernel_rfl
theorem Qc4:tyZ Tryz.prog 47=some [.int .i64 0,.int .i64 0]:=by kernel_rfl
theorem Qau:tyZ Tryz.prog 49=some [.int .i64 0,.int .i64 0,.int .i64 0,.int .i64 0,.int .i64 0,.int .i64 0,.int .i64 0,.int .i64 0,.int .i64 0,.int .i64 0,.int .i64 0,.int .i64 0,.int .i64 0,.int .i64 0,.int .i64 0,.bool false,.int .i64 0,.int .i64 0,.slice none 0 0,.int .i64 0,.int .i64 0,.int .i64 0,.int .i64 0,.int .i64 0,.bool false,.bool false,.int .i64 0,.int .i64 0,.bool false,.int .i64 0,.int .i64 0,.int .i64 0,.int .i64 0,.int .i64 0,.int .i64 0,.int .i64 0,.int .i64 0,.int .i64 0,.bool false]:=by kernel_rfl
theorem Qa2:tyZ Tryz.prog 54=some [.int .i64 0,.int .i64 0,.int .i64 0,.int .i64 0,.int .i64 0,.int .i64 0]:=by kernel_rfl
theorem QeN:tyZ Tryz.prog 64=some [.int .i64 0,.int .i64 0,.int .i64 0,.int .i64 0]:=by kernel_rfl
theorem QfG:tyZ Tryz.prog 93=some [.int .i64 0,.int .i64 0]:=by kernel_rfl
theorem Qcz:tyZ Tryz.prog 111=some [.int .i64 0,.int .i64 0,.int .i64 0,.int .i64 0,.int .i64 0,.int .i64 0,.int .i64 0,.int .i64 0,.int .i64 0,.int .i64 0,.int .i64 0,.int .i64 0,.int .i64 0,.int .i64 0,.int .i64 0,.bool false,.int .i64 0,.int .i64 0,.slice none 0 0,.int .i64 0,.int .i64 0,.int .i64 0,.int .i64 0,.int .i64 0,.bool false,.bool false,.int .i64 0,.int .i64 0,.bool false,.int .i64 0,.int .i64 0,.int .i64 0,.int .i64 0,.int .i64 0,.int .i64 0,.int .i64 0,.int .i64 0,.int .i64 0,.bool false]:=by kernel_rfl
theorem QGb:tyZ Tryz.prog 130=some [.int .i64 0,.int .i64 0,.int .i64 0,.int .i64 0,.int .i64 0]:=by kernel_rfl
theorem QfE:tyZ Tryz.prog 133=some [.int .i64 0,.int .i64 0]:=by kernel_rfl
theorem QfF:tyZ Tryz.prog 135=some [.int .i64 0,.int .i64 0,.int .i64 0,.bool false,.bool false,.int .i64 0,.int .i64 0]:=by kernel_rfl
theorem Qs2:tyZ Tryz.prog 180=some [.chan none]:=by kernel_rfl
theorem Qbo:tyZ Tryz.prog 183=some [.int .i64 0,.int .i64 0,.int .i64 0,.int .i64 0]:=by kernel_rfl
theorem QbC:tyZ Tryz.prog 196=some [.bool false,.int .u64 0,.int .u64 0]:=by kernel_rfl
theorem QjY:tyZ Tryz.prog 225=some [.int .u64 0,.int .u64 0]:=by kernel_rfl
theorem Qj0:tyZ Tryz.prog 233=some [.bool false,.int .i64 0,.int .i64 0]:=by kernel_rfl
theorem QGc:tyZ Tryz.prog 241=some [.nilIface,.int .i64 0]:=by kernel_rfl
theorem QxZ:flatKs Tryz.prog 23=some [some .i64,some .i64,some .i64,some .i64,some .i64,some .i64,some .i64]:=by kernel_rfl
theorem Qx0:flatKs Tryz.prog 36=some [some .i64,some .i64,some .i64]:=by kernel_rfl
theorem QnB:flatKs Tryz.prog 38=some [none,some .i64,some .i64]:=by kernel_rfl
theorem Qx1:flatKs Tryz.prog 41=some [some .i64,some .i64]:=by kernel_rfl
theorem Qx2:flatKs Tryz.prog 43=some [some .i64,some .i64,some .i64,none,none,some .i64,some .i64]:=by kernel_rfl
theorem Qip:flatKs Tryz.prog 45=some [none,some .i64,some .i64,some .i64,some .i64,some .i64]:=by kernel_rfl
theorem QnC:flatKs Tryz.prog 47=some [some .i64,some .i64]:=by kernel_rfl
theorem Qeo:flatKs Tryz.prog 54=some [some .i64,some .i64,some .i64,some .i64,some .i64,some .i64]:=by kernel_rfl
theorem Qx3:flatKs Tryz.prog 93=some [some .i64,some .i64]:=by kernel_rfl
theorem QnA:flatKs Tryz.prog 196=some [none,some .u64,some .u64]:=by kernel_rfl
theorem QxY:flatKs Tryz.prog 225=some [some .u64,some .u64]:=by kernel_rfl
theorem QeV:bldS Tryz.prog 23=some ([.int .i64 0,.int .i64 0,.int .i64 0,.int .i64 0,.int .i64 0,.int .i64 0,.int .i64 0],[(0,1),(1,1),(2,1),(3,1),(4,1),(5,1),(6,1)]):=by kernel_rfl
theorem QkC:bldS Tryz.prog 38=some ([.bool false,.int .i64 0,.int .i64 0],[(0,1),(1,1),(2,1)]):=by kernel_rfl
theorem QkD:bldS Tryz.prog 41=some ([.int .i64 0,.int .i64 0],[(0,1),(1,1)]):=by kernel_rfl
theorem QkE:bldS Tryz.prog 43=some ([.int .i64 0,.int .i64 0,.int .i64 0,.bool false,.bool false,.int .i64 0,.int .i64 0],[(0,1),(1,1),(2,1),(3,1),(4,1),(5,1),(6,1)]):=by kernel_rfl
theorem Qc8:bldS Tryz.prog 45=some ([.bool false,.int .i64 0,.int .i64 0,.int .i64 0,.int .i64 0,.int .i64 0],[(0,1),(1,1),(2,1),(3,1),(4,1),(5,1)]):=by kernel_rfl
theorem Que:bldS Tryz.prog 47=some ([.int .i64 0,.int .i64 0],[(0,1),(1,1)]):=by kernel_rfl
theorem QhF:bldS Tryz.prog 49=some ([.int .i64 0,.int .i64 0,.int .i64 0,.int .i64 0,.int .i64 0,.int .i64 0,.int .i64 0,.int .i64 0,.int .i64 0,.int .i64 0,.int .i64 0,.int .i64 0,.int .i64 0,.int .i64 0,.int .i64 0,.bool false,.int .i64 0,.int .i64 0,.slice none 0 0,.int .i64 0,.int .i64 0,.int .i64 0,.int .i64 0,.int .i64 0,.bool false,.bool false,.int .i64 0,.int .i64 0,.bool false,.int .i64 0,.int .i64 0,.int .i64 0,.int .i64 0,.int .i64 0,.int .i64 0,.int .i64 0,.int .i64 0,.int .i64 0,.bool false],[(0,7),(7,1),(8,1),(9,1),(10,1),(11,1),(12,3),(15,3),(18,1),(19,2),(21,7),(28,6),(34,1),(35,1),(36,2),(38,1)]):=by kernel_rfl
theorem QkF:bldS Tryz.prog 54=some ([.int .i64 0,.int .i64 0,.int .i64 0,.int .i64 0,.int .i64 0,.int .i64 0],[(0,1),(1,1),(2,1),(3,1),(4,1),(5,1)]):=by kernel_rfl
theorem Qee:bldS Tryz.prog 64=some ([.int .i64 0,.int .i64 0,.int .i64 0,.int .i64 0],[(0,1),(1,1),(2,1),(3,1)]):=by kernel_rfl
theorem Qef:bldS Tryz.prog 93=some ([.int .i64 0,.int .i64 0],[(0,1),(1,1)]):=by kernel_rfl
theorem QhE:bldS Tryz.prog 111=some ([.int .i64 0,.int .i64 0,.int .i64 0,.int .i64 0,.int .i64 0,.int .i64 0,.int .i64 0,.int .i64 0,.int .i64 0,.int .i64 0,.int .i64 0,.int .i64 0,.int .i64 0,.int .i64 0,.int .i64 0,.bool false,.int .i64 0,.int .i64 0,.slice none 0 0,.int .i64 0,.int .i64 0,.int .i64 0,.int .i64 0,.int .i64 0,.bool false,.bool false,.int .i64 0,.int .i64 0,.bool false,.int .i64 0,.int .i64 0,.int .i64 0,.int .i64 0,.int .i64 0,.int .i64 0,.int .i64 0,.int .i64 0,.int .i64 0,.bool false],[(0,39)]):=by kernel_rfl
theorem Qt8:bldS Tryz.prog 130=some ([.int .i64 0,.int .i64 0,.int .i64 0,.int .i64 0,.int .i64 0],[(0,4),(4,1)]):=by kernel_rfl
theorem Qt9:bldS Tryz.prog 176=some ([.nilFunc],[(0,1)]):=by kernel_rfl
theorem Qua:bldS Tryz.prog 188=some ([.int .i64 0,.int .i64 0],[(0,1),(1,1)]):=by kernel_rfl
theorem QfN:bldS Tryz.prog 196=some ([.bool false,.int .u64 0,.int .u64 0],[(0,1),(1,1),(2,1)]):=by kernel_rfl
theorem Qub:bldS Tryz.prog 208=some ([.int .i64 0,.int .i64 0,.int .i64 0,.bool false,.bool false,.int .i64 0,.int .i64 0],[(0,7)]):=by kernel_rfl
theorem Qb0:bldS Tryz.prog 225=some ([.int .u64 0,.int .u64 0],[(0,1),(1,1)]):=by kernel_rfl
theorem QkB:bldS Tryz.prog 233=some ([.bool false,.int .i64 0,.int .i64 0],[(0,3)]):=by kernel_rfl
theorem Quc:bldS Tryz.prog 241=some ([.nilIface,.int .i64 0],[(0,1),(1,1)]):=by kernel_rfl
theorem Qud:bldS Tryz.prog 243=some ([.int .i64 0],[(0,1)]):=by kernel_rfl
theorem Qbb:bldS Tryz.prog 133=some ([.int .i64 0,.int .i64 0],[(0,1),(1,1)]):=by kernel_rfl
theorem Qbc:bldS Tryz.prog 183=some ([.int .i64 0,.int .i64 0,.int .i64 0,.int .i64 0],[(0,2),(2,2)]):=by kernel_rfl
theorem QaM {t:TypeId} {cs:Array Bool} {K:Value→Prop} {a:Option Addr} {n c:Nat}:builtW Tryz.prog (builtin .len #[24] t cs #[.slice a n c]) K=K (.int .i64 n):=Qda Tryz.underlying24
theorem QbH {t:TypeId} {cs:Array Bool} {K:Value→Prop} {a:Option Addr} {n c:Nat}:builtW Tryz.prog (builtin .len #[28] t cs #[.slice a n c]) K=K (.int .i64 n):=Qda Tryz.underlying28
theorem Qav {t:TypeId} {cs:Array Bool} {K:Value→Prop} {a:Option Addr} {n c:Nat}:builtW Tryz.prog (builtin .len #[29] t cs #[.slice a n c]) K=K (.int .i64 n):=Qda Tryz.underlying29
theorem Qbp {t:TypeId} {cs:Array Bool} {K:Value→Prop} {a:Option Addr} {n c:Nat}:builtW Tryz.prog (builtin .len #[39] t cs #[.slice a n c]) K=K (.int .i64 n):=Qda Tryz.underlying39
theorem Qbf {t:TypeId} {cs:Array Bool} {K:Value→Prop} {a:Option Addr} {n c:Nat}:builtW Tryz.prog (builtin .len #[184] t cs #[.slice a n c]) K=K (.int .i64 n):=Qda Tryz.underlying184
theorem Qh4 {k:IntKind} {a:Int} {K:Value→Prop}:pureW Tryz.prog (Go.convert 3 144 (.int k a)) K=K (.int .u64 (wr .u64 a)):=QcK Tryz.underlying3 Tryz.underlying144
theorem QwM {k:IntKind} {a:Int} {K:Value→Prop}:pureW Tryz.prog (Go.convert 3 145 (.int k a)) K=K (.int .u64 (wr .u64 a)):=QcK Tryz.underlying3 Tryz.underlying145
theorem Qh5 {k:IntKind} {a:Int} {K:Value→Prop}:pureW Tryz.prog (Go.convert 5 3 (.int k a)) K=K (.int .i64 (wr .i64 a)):=QcK Tryz.underlying5 Tryz.underlying3
theorem Qmt {k:IntKind} {a:Int} {K:Value→Prop}:pureW Tryz.prog (Go.convert 25 3 (.int k a)) K=K (.int .i64 (wr .i64 a)):=QcK Tryz.underlying25 Tryz.underlying3
theorem Qms {k:IntKind} {a:Int} {K:Value→Prop}:pureW Tryz.prog (Go.convert 144 3 (.int k a)) K=K (.int .i64 (wr .i64 a)):=QcK Tryz.underlying144 Tryz.underlying3
theorem QwL {k:IntKind} {a:Int} {K:Value→Prop}:pureW Tryz.prog (Go.convert 144 5 (.int k a)) K=K (.int .u8 (wr .u8 a)):=QcK Tryz.underlying144 Tryz.underlying5
theorem Qff:goes Tryz.prog 18:=Qac Tryz.func18 rfl rfl
theorem QaZ:goes Tryz.prog 19:=Qac Tryz.func19 rfl rfl
theorem QaG:goes Tryz.prog 20:=Qac Tryz.func20 rfl rfl
theorem QgH:goes Tryz.prog 21:=Qac Tryz.func21 rfl rfl
theorem Qdm:goes Tryz.prog 22:=Qac Tryz.func22 rfl rfl
theorem QbU:goes Tryz.prog 23:=Qac Tryz.func23 rfl rfl
theorem Qew:goes Tryz.prog 24:=Qac Tryz.func24 rfl rfl
theorem Qev:goes Tryz.prog 25:=Qac Tryz.func25 rfl rfl
theorem QiF:goes Tryz.prog 28:=Qac Tryz.func28 rfl rfl
theorem Qgy:goes Tryz.prog 29:=Qac Tryz.func29 rfl rfl
theorem Qfc:goes Tryz.prog 30:=Qac Tryz.func30 rfl rfl
theorem QgF:goes Tryz.prog 37:=Qac Tryz.func37 rfl rfl
theorem Qyp:goes Tryz.prog 38:=Qac Tryz.func38 rfl rfl
theorem Qyo:goes Tryz.prog 39:=Qac Tryz.func39 rfl rfl
theorem Qbz:goes Tryz.prog 40:=Qac Tryz.func40 rfl rfl
theorem QgG:goes Tryz.prog 44:=Qac Tryz.func44 rfl rfl
theorem Qdp:goes Tryz.prog 45:=Qac Tryz.func45 rfl rfl
theorem QgJ:goes Tryz.prog 46:=Qac Tryz.func46 rfl rfl
theorem Qzy:goes Tryz.prog 47:=Qac Tryz.func47 rfl rfl
theorem Qot:goes Tryz.prog 48:=Qac Tryz.func48 rfl rfl
theorem Qzg:goes Tryz.prog 49:=Qac Tryz.func49 rfl rfl
theorem Qfd:goes Tryz.prog 50:=Qac Tryz.func50 rfl rfl
theorem Qop:goes Tryz.prog 51:=Qac Tryz.func51 rfl rfl
theorem Qzf:goes Tryz.prog 52:=Qac Tryz.func52 rfl rfl
theorem Qzc:goes Tryz.prog 53:=Qac Tryz.func53 rfl rfl
theorem QyD:goes Tryz.prog 54:=Qac Tryz.func54 rfl rfl
theorem Qn9:goes Tryz.prog 55:=Qac Tryz.func55 rfl rfl
theorem Qgw:goes Tryz.prog 56:=Qac Tryz.func56 rfl rfl
theorem QgE:goes Tryz.prog 57:=Qac Tryz.func57 rfl rfl
theorem QgK:goes Tryz.prog 58:=Qac Tryz.func58 rfl rfl
theorem Qdo:goes Tryz.prog 59:=Qac Tryz.func59 rfl rfl
theorem QzA:goes Tryz.prog 60:=Qac Tryz.func60 rfl rfl
theorem Qov:goes Tryz.prog 61:=Qac Tryz.func61 rfl rfl
theorem QcT:goes Tryz.prog 62:=Qac Tryz.func62 rfl rfl
theorem Qoi:goes Tryz.prog 63:=Qac Tryz.func63 rfl rfl
theorem QcP:goes Tryz.prog 64:=Qac Tryz.func64 rfl rfl
theorem QgD:goes Tryz.prog 67:=Qac Tryz.func67 rfl rfl
theorem Qn8:goes Tryz.prog 68:=Qac Tryz.func68 rfl rfl
theorem Qog:goes Tryz.prog 69:=Qac Tryz.func69 rfl rfl
theorem Qbu:goes Tryz.prog 70:=Qac Tryz.func70 rfl rfl
theorem Qgz:goes Tryz.prog 71:=Qac Tryz.func71 rfl rfl
theorem Qeu:goes Tryz.prog 72:=Qac Tryz.func72 rfl rfl
theorem QiE:goes Tryz.prog 73:=Qac Tryz.func73 rfl rfl
theorem Qoe:goes Tryz.prog 74:=Qac Tryz.func74 rfl rfl
theorem QyF:goes Tryz.prog 75:=Qac Tryz.func75 rfl rfl
theorem Qof:goes Tryz.prog 83:=Qac Tryz.func83 rfl rfl
theorem QyH:goes Tryz.prog 84:=Qac Tryz.func84 rfl rfl
theorem QgA:goes Tryz.prog 89:=Qac Tryz.func89 rfl rfl
theorem QcS:goes Tryz.prog 100:=Qac Tryz.func100 rfl rfl
theorem Qn6:goes Tryz.prog 101:=Qac Tryz.func101 rfl rfl
theorem Qb8:goes Tryz.prog 102:=Qac Tryz.func102 rfl rfl
theorem Qzu:goes Tryz.prog 103:=Qac Tryz.func103 rfl rfl
theorem Qzh:goes Tryz.prog 106:=Qac Tryz.func106 rfl rfl
theorem QyX:goes Tryz.prog 107:=Qac Tryz.func107 rfl rfl
theorem Qb7:goes Tryz.prog 108:=Qac Tryz.func108 rfl rfl
theorem QiO:goes Tryz.prog 109:=Qac Tryz.func109 rfl rfl
theorem QiK:goes Tryz.prog 110:=Qac Tryz.func110 rfl rfl
theorem QiJ:goes Tryz.prog 111:=Qac Tryz.func111 rfl rfl
theorem Qoh:goes Tryz.prog 112:=Qac Tryz.func112 rfl rfl
theorem QgC:goes Tryz.prog 113:=Qac Tryz.func113 rfl rfl
theorem QyM:goes Tryz.prog 117:=Qac Tryz.func117 rfl rfl
theorem Qzz:goes Tryz.prog 118:=Qac Tryz.func118 rfl rfl
theorem Qyr:goes Tryz.prog 119:=Qac Tryz.func119 rfl rfl
theorem Qza:goes Tryz.prog 120:=Qac Tryz.func120 rfl rfl
theorem QcR:goes Tryz.prog 121:=Qac Tryz.func121 rfl rfl
theorem QyU:goes Tryz.prog 122:=Qac Tryz.func122 rfl rfl
theorem QyV:goes Tryz.prog 123:=Qac Tryz.func123 rfl rfl
theorem QcQ:goes Tryz.prog 124:=Qac Tryz.func124 rfl rfl
theorem QiH:goes Tryz.prog 125:=Qac Tryz.func125 rfl rfl
theorem Qn5:goes Tryz.prog 126:=Qac Tryz.func126 rfl rfl
theorem QyW:goes Tryz.prog 127:=Qac Tryz.func127 rfl rfl
theorem Qok:goes Tryz.prog 128:=Qac Tryz.func128 rfl rfl
theorem QyI:goes Tryz.prog 129:=Qac Tryz.func129 rfl rfl
theorem QiM:goes Tryz.prog 130:=Qac Tryz.func130 rfl rfl
theorem Qoa:goes Tryz.prog 131:=Qac Tryz.func131 rfl rfl
theorem Qy0:goes Tryz.prog 132:=Qac Tryz.func132 rfl rfl
theorem Qdn:goes Tryz.prog 133:=Qac Tryz.func133 rfl rfl
theorem Qom:goes Tryz.prog 134:=Qac Tryz.func134 rfl rfl
theorem Qon:goes Tryz.prog 135:=Qac Tryz.func135 rfl rfl
theorem QyT:goes Tryz.prog 136:=Qac Tryz.func136 rfl rfl
theorem QyG:goes Tryz.prog 137:=Qac Tryz.func137 rfl rfl
theorem QiG:goes Tryz.prog 138:=Qac Tryz.func138 rfl rfl
theorem Qod:goes Tryz.prog 139:=Qac Tryz.func139 rfl rfl
theorem Qzo:goes Tryz.prog 140:=Qac Tryz.func140 rfl rfl
theorem QyA:goes Tryz.prog 141:=Qac Tryz.func141 rfl rfl
theorem Qzn:goes Tryz.prog 142:=Qac Tryz.func142 rfl rfl
theorem Qow:goes Tryz.prog 143:=Qac Tryz.func143 rfl rfl
theorem QyR:goes Tryz.prog 163:=Qac Tryz.func163 rfl rfl
theorem Qcn:goes Tryz.prog 164:=Qac Tryz.func164 rfl rfl
theorem Qoy:goes Tryz.prog 165:=Qac Tryz.func165 rfl rfl
theorem Qzv:goes Tryz.prog 166:=Qac Tryz.func166 rfl rfl
theorem Qzw:goes Tryz.prog 168:=Qac Tryz.func168 rfl rfl
theorem Qzi:goes Tryz.prog 171:=Qac Tryz.func171 rfl rfl
theorem QyY:goes Tryz.prog 172:=Qac Tryz.func172 rfl rfl
theorem QgB:goes Tryz.prog 173:=Qac Tryz.func173 rfl rfl
theorem QyK:goes Tryz.prog 174:=Qac Tryz.func174 rfl rfl
theorem QyP:goes Tryz.prog 176:=Qac Tryz.func176 rfl rfl
theorem QyO:goes Tryz.prog 177:=Qac Tryz.func177 rfl rfl
theorem QyN:goes Tryz.prog 178:=Qac Tryz.func178 rfl rfl
theorem Qy9:goes Tryz.prog 180:=Qac Tryz.func180 rfl rfl
theorem Qzb:goes Tryz.prog 181:=Qac Tryz.func181 rfl rfl
theorem Qex:goes Tryz.prog 182:=Qac Tryz.func182 rfl rfl
theorem QyL:goes Tryz.prog 183:=Qac Tryz.func183 rfl rfl
theorem QyQ:goes Tryz.prog 184:=Qac Tryz.func184 rfl rfl
theorem Qgu:goes Tryz.prog 185:=Qac Tryz.func185 rfl rfl
theorem QiC:goes Tryz.prog 186:=Qac Tryz.func186 rfl rfl
theorem Qol:goes Tryz.prog 187:=Qac Tryz.func187 rfl rfl
theorem Qoc:goes Tryz.prog 188:=Qac Tryz.func188 rfl rfl
theorem Qox:goes Tryz.prog 189:=Qac Tryz.func189 rfl rfl
theorem Qob:goes Tryz.prog 190:=Qac Tryz.func190 rfl rfl
theorem Qoq:goes Tryz.prog 191:=Qac Tryz.func191 rfl rfl
theorem Qy1:goes Tryz.prog 192:=Qac Tryz.func192 rfl rfl
theorem QiI:goes Tryz.prog 194:=Qac Tryz.func194 rfl rfl
theorem Qoo:goes Tryz.prog 195:=Qac Tryz.func195 rfl rfl
theorem QyE:goes Tryz.prog 196:=Qac Tryz.func196 rfl rfl
theorem Qze:goes Tryz.prog 197:=Qac Tryz.func197 rfl rfl
theorem Qyx:goes Tryz.prog 198:=Qac Tryz.func198 rfl rfl
theorem Qyq:goes Tryz.prog 199:=Qac Tryz.func199 rfl rfl
theorem QgL:goes Tryz.prog 200:=Qac Tryz.func200 rfl rfl
theorem QyS:goes Tryz.prog 201:=Qac Tryz.func201 rfl rfl
theorem Qn7:goes Tryz.prog 202:=Qac Tryz.func202 rfl rfl
theorem QiN:goes Tryz.prog 203:=Qac Tryz.func203 rfl rfl
theorem Qzp:goes Tryz.prog 204:=Qac Tryz.func204 rfl rfl
theorem QiB:goes Tryz.prog 224:=Qac Tryz.func224 rfl rfl
theorem Qyn:goes Tryz.prog 225:=Qac Tryz.func225 rfl rfl
theorem Qgv:goes Tryz.prog 226:=Qac Tryz.func226 rfl rfl
theorem Qn0:goes Tryz.prog 227:=Qac Tryz.func227 rfl rfl
theorem Qfb:goes Tryz.prog 228:=Qac Tryz.func228 rfl rfl
theorem Qzk:goes Tryz.prog 229:=Qac Tryz.func229 rfl rfl
theorem Qoj:goes Tryz.prog 230:=Qac Tryz.func230 rfl rfl
theorem Qzx:goes Tryz.prog 231:=Qac Tryz.func231 rfl rfl
theorem Qn2:goes Tryz.prog 232:=Qac Tryz.func232 rfl rfl
theorem QcO:goes Tryz.prog 233:=Qac Tryz.func233 rfl rfl
theorem Qn3:goes Tryz.prog 234:=Qac Tryz.func234 rfl rfl
theorem Qos:goes Tryz.prog 235:=Qac Tryz.func235 rfl rfl
theorem Qn1:goes Tryz.prog 236:=Qac Tryz.func236 rfl rfl
theorem Qzr:goes Tryz.prog 237:=Qac Tryz.func237 rfl rfl
theorem Qzs:goes Tryz.prog 238:=Qac Tryz.func238 rfl rfl
theorem Qfe:goes Tryz.prog 239:=Qac Tryz.func239 rfl rfl
theorem Qy6:goes Tryz.prog 240:=Qac Tryz.func240 rfl rfl
theorem Qy7:goes Tryz.prog 241:=Qac Tryz.func241 rfl rfl
theorem Qy5:goes Tryz.prog 242:=Qac Tryz.func242 rfl rfl
theorem Qy3:goes Tryz.prog 243:=Qac Tryz.func243 rfl rfl
theorem Qy4:goes Tryz.prog 244:=Qac Tryz.func244 rfl rfl
theorem Qzd:goes Tryz.prog 245:=Qac Tryz.func245 rfl rfl
theorem QgI:goes Tryz.prog 246:=Qac Tryz.func246 rfl rfl
theorem Qgx:goes Tryz.prog 247:=Qac Tryz.func247 rfl rfl
theorem Qyv:goes Tryz.prog 248:=Qac Tryz.func248 rfl rfl
theorem Qyz:goes Tryz.prog 249:=Qac Tryz.func249 rfl rfl
theorem QyJ:goes Tryz.prog 250:=Qac Tryz.func250 rfl rfl
theorem QiD:goes Tryz.prog 251:=Qac Tryz.func251 rfl rfl
theorem QiL:goes Tryz.prog 282:=Qac Tryz.func282 rfl rfl
theorem Qn4:goes Tryz.prog 283:=Qac Tryz.func283 rfl rfl
theorem Qzm:goes Tryz.prog 285:=Qac Tryz.func285 rfl rfl
theorem Qzl:goes Tryz.prog 286:=Qac Tryz.func286 rfl rfl
theorem Qou:goes Tryz.prog 288:=Qac Tryz.func288 rfl rfl
theorem Qyt:goes Tryz.prog 289:=Qac Tryz.func289 rfl rfl
theorem Qys:goes Tryz.prog 290:=Qac Tryz.func290 rfl rfl
theorem Qzq:goes Tryz.prog 291:=Qac Tryz.func291 rfl rfl
theorem Qy2:goes Tryz.prog 292:=Qac Tryz.func292 rfl rfl
theorem Qyy:goes Tryz.prog 293:=Qac Tryz.func293 rfl rfl
theorem QyB:goes Tryz.prog 294:=Qac Tryz.func294 rfl rfl
theorem Qy8:goes Tryz.prog 308:=Qac Tryz.func308 rfl rfl
theorem Qor:goes Tryz.prog 310:=Qac Tryz.func310 rfl rfl
theorem Qzj:goes Tryz.prog 311:=Qac Tryz.func311 rfl rfl
theorem Qyu:goes Tryz.prog 312:=Qac Tryz.func312 rfl rfl
theorem Qyw:goes Tryz.prog 313:=Qac Tryz.func313 rfl rfl
theorem QyC:goes Tryz.prog 314:=Qac Tryz.func314 rfl rfl
theorem Qzt:goes Tryz.prog 316:=Qac Tryz.func316 rfl rfl
theorem QyZ:goes Tryz.prog 334:=Qac Tryz.func334 rfl rfl
theorem rs_3:Tryz.f3.results.toList=[ResultVar.tmp 6]:=rfl
theorem QAL:lxV Tryz.f4 11 [] (.p 1 (.p 2 (.p 3 (.p 4 (.q 0 (.alt 5 (.p 6 (.p 7 (.p 8 (.alt 9 (.alt 10 (.p 11 .fin) .fin) .fin)))) (.alt 9 (.alt 5 (.p 6 (.p 7 (.p 8 (.alt 10 (.p 11 .fin) .fin)))) .fin) .fin)))))))=true:=by kernel_rfl
theorem rs_4:Tryz.f4.results.toList=[ResultVar.tmp 4]:=rfl
theorem Qhg:Tryz.f13.results.toList=[ResultVar.tmp 4]:=rfl
theorem QpD:lxF Tryz.f14 18=true:=by kernel_rfl
theorem Qhh:Tryz.f14.results.toList=[ResultVar.tmp 4]:=rfl
theorem Qpn:lxM Tryz.f15 6 [(0,true),(1,true),(2,true),(3,true),(4,false),(5,true),(6,true),(7,true),(8,true),(9,true)]=true:=by kernel_rfl
theorem QjD:Tryz.f15.results.toList=[ResultVar.tmp 6]:=rfl
theorem QrV:Tryz.f16.results.toList=[ResultVar.tmp 4]:=rfl
theorem QAZ:lxF Tryz.f17 21=true:=by kernel_rfl
theorem QjE:Tryz.f17.results.toList=[ResultVar.tmp 4]:=rfl
theorem QDr:Tryz.f18.results.toList=[ResultVar.tmp 0]:=rfl
theorem Qr1:Tryz.f19.results.toList=[ResultVar.tmp 4]:=rfl
theorem Qr3:Tryz.f20.results.toList=[ResultVar.cell 4 29,ResultVar.tmp 5]:=rfl
theorem QA5:lxF Tryz.f21 6=true:=by kernel_rfl
theorem QDK:Tryz.f21.results.toList=[ResultVar.tmp 4]:=rfl
theorem QBa:lxL Tryz.f22 4 4=true:=by kernel_rfl
theorem Qr4:Tryz.f22.results.toList=[ResultVar.cell 2 49,ResultVar.tmp 3]:=rfl
theorem QDQ:Tryz.f23.results.toList=[ResultVar.cell 4 49,ResultVar.tmp 5]:=rfl
theorem QD0:Tryz.f24.results.toList=[ResultVar.tmp 4]:=rfl
theorem QD9:Tryz.f25.results.toList=[ResultVar.tmp 2]:=rfl
theorem QpE:lxL Tryz.f28 3 13=true:=by kernel_rfl
theorem QjI:Tryz.f28.results.toList=[ResultVar.cell 2 64,ResultVar.tmp 3]:=rfl
theorem QAJ:lxV Tryz.f29 7 [12] (.p 0 (.p 1 (.p 3 (.q 2 (.alt 4 (.alt 5 (.q 6 (.p 7 (.p 8 (.alt 9 (.p 10 (.p 11 (.alt 12 .fin .fin))) .fin)))) .fin) .fin)))))=true:=by kernel_rfl
theorem Qft:Tryz.f29.results.toList=[ResultVar.cell 4 49,ResultVar.cell 5 30]:=rfl
theorem QAK:lxV Tryz.f30 4 [10] (.p 0 (.p 1 (.p 3 (.p 4 (.q 2 (.q 5 (.alt 6 (.alt 7 (.alt 8 (.p 9 (.alt 10 .fin .fin)) .fin) .fin) .fin)))))))=true:=by kernel_rfl
theorem Qr8:Tryz.f30.results.toList=[ResultVar.cell 2 54]:=rfl
theorem QEu:Tryz.f37.results.toList=[ResultVar.tmp 4,ResultVar.tmp 5]:=rfl
theorem QBj:lxT Tryz.f38 9 13=true:=by kernel_rfl
theorem Qfu:Tryz.f38.results.toList=[ResultVar.cell 8 47,ResultVar.tmp 9]:=rfl
theorem QEv:Tryz.f39.results.toList=[ResultVar.tmp 2]:=rfl
theorem Qr9:Tryz.f40.results.toList=[ResultVar.tmp 0]:=rfl
theorem QBk:lxF Tryz.f44 6=true:=by kernel_rfl
theorem QEw:Tryz.f44.results.toList=[ResultVar.tmp 4]:=rfl
theorem QEx:Tryz.f46.results.toList=[ResultVar.tmp 2]:=rfl
theorem QEy:Tryz.f47.results.toList=[ResultVar.cell 4 49,ResultVar.tmp 5]:=rfl
theorem Qsa:Tryz.f48.results.toList=[ResultVar.cell 6 49,ResultVar.tmp 7]:=rfl
theorem QjL:Tryz.f49.results.toList=[]:=rfl
theorem Qfv:Tryz.f50.results.toList=[ResultVar.cell 2 30]:=rfl
theorem Qsb:Tryz.f51.results.toList=[ResultVar.tmp 2]:=rfl
theorem QEz:Tryz.f52.results.toList=[]:=rfl
theorem QBl:lxF Tryz.f53 6=true:=by kernel_rfl
theorem QEA:Tryz.f53.results.toList=[ResultVar.tmp 4]:=rfl
theorem QEB:Tryz.f54.results.toList=[ResultVar.tmp 3]:=rfl
theorem QEC:Tryz.f55.results.toList=[ResultVar.tmp 6]:=rfl
theorem QED:Tryz.f56.results.toList=[ResultVar.tmp 2]:=rfl
theorem QEE:Tryz.f57.results.toList=[ResultVar.tmp 2]:=rfl
theorem QEF:Tryz.f58.results.toList=[ResultVar.tmp 2]:=rfl
theorem Qfj:lxF Tryz.f59 4=true:=by kernel_rfl
theorem Qhj:Tryz.f59.results.toList=[ResultVar.tmp 2]:=rfl
theorem QEG:Tryz.f60.results.toList=[ResultVar.tmp 4]:=rfl
theorem QEH:Tryz.f61.results.toList=[ResultVar.tmp 2]:=rfl
theorem QEI:Tryz.f62.results.toList=[ResultVar.tmp 2]:=rfl
theorem Qsc:Tryz.f63.results.toList=[ResultVar.tmp 2]:=rfl
theorem QEJ:Tryz.f64.results.toList=[ResultVar.tmp 2]:=rfl
theorem QAv:lxM Tryz.f67 1 [(1,true),(2,true),(0,false),(3,true),(4,true),(5,true),(6,true),(7,true),(8,true)]=true:=by kernel_rfl
theorem Qsd:Tryz.f67.results.toList=[ResultVar.tmp 2]:=rfl
theorem Qfw:Tryz.f68.results.toList=[]:=rfl
theorem QEK:Tryz.f69.results.toList=[ResultVar.cell 2 111]:=rfl
theorem QEL:Tryz.f70.results.toList=[]:=rfl
theorem QEM:Tryz.f71.results.toList=[ResultVar.tmp 4]:=rfl
theorem QEN:Tryz.f72.results.toList=[ResultVar.tmp 4,ResultVar.tmp 5]:=rfl
theorem QEO:Tryz.f73.results.toList=[ResultVar.cell 4 47]:=rfl
theorem QAw:lxM Tryz.f74 1 [(0,true),(1,true),(2,true),(3,true),(4,true),(5,true),(6,true),(7,true),(8,true),(9,true),(10,true),(11,true),(12,true),(13,true),(14,true),(15,true),(16,true),(17,false),(18,true),(19,true)]=true:=by kernel_rfl
theorem QEP:Tryz.f74.results.toList=[ResultVar.tmp 2]:=rfl
theorem QBm:lxF Tryz.f75 1=true:=by kernel_rfl
theorem QEQ:Tryz.f75.results.toList=[ResultVar.tmp 2]:=rfl
theorem QBn:lxT Tryz.f76 3 17=true:=by kernel_rfl
theorem Qi2:lxF Tryz.f76 4=true:=by kernel_rfl
theorem QAM:lxV Tryz.f76 2 [24] (.p 0 (.p 1 (.p 2 (.p 3 (.p 4 (.p 6 (.p 7 (.p 8 (.p 9 (.p 11 (.p 13 (.p 15 (.p 16 (.p 17 (.p 18 (.q 5 (.q 10 (.q 12 (.q 19 (.alt 14 (.q 20 (.p 21 (.p 22 (.p 23 (.alt 24 .fin .fin))))) .fin))))))))))))))))))))=true:=by kernel_rfl
theorem QiY:lxV Tryz.f76 6 [16] (.p 0 (.p 1 (.p 2 (.p 3 (.p 4 (.p 6 (.p 8 (.q 5 (.q 7 (.q 9 (.p 10 (.p 11 (.alt 12 (.p 13 (.p 14 (.p 15 (.alt 16 .fin .fin)))) .fin)))))))))))))=true:=by kernel_rfl
theorem Qpz:lxV Tryz.f76 7 [15] (.p 0 (.p 1 (.p 2 (.p 3 (.p 4 (.p 6 (.q 5 (.q 7 (.q 8 (.p 9 (.p 10 (.alt 11 (.p 12 (.p 13 (.p 14 (.alt 15 .fin .fin)))) .fin))))))))))))=true:=by kernel_rfl
theorem QAN:lxV Tryz.f76 8 [26,30] (.p 0 (.p 1 (.p 2 (.p 4 (.p 5 (.p 6 (.p 7 (.p 9 (.p 10 (.p 11 (.p 12 (.p 13 (.p 15 (.p 16 (.p 17 (.p 18 (.p 19 (.q 3 (.q 8 (.q 14 (.q 20 (.q 21 (.p 22 (.p 23 (.p 24 (.p 25 (.alt 26 (.p 27 (.p 28 (.p 29 (.alt 30 .fin .fin)))) .fin)))))))))))))))))))))))))))=true:=by kernel_rfl
theorem QER:Tryz.f76.results.toList=[]:=rfl
theorem QBo:lxT Tryz.f77 11 24=true:=by kernel_rfl
theorem QpA:lxV Tryz.f77 1 [15] (.p 0 (.p 1 (.p 2 (.p 3 (.p 4 (.p 6 (.q 5 (.q 7 (.q 8 (.p 9 (.p 10 (.alt 11 (.p 12 (.p 13 (.p 14 (.alt 15 .fin .fin)))) .fin))))))))))))=true:=by kernel_rfl
theorem QiZ:lxV Tryz.f77 5 [22] (.p 0 (.p 1 (.p 2 (.p 3 (.p 4 (.p 6 (.p 8 (.p 9 (.p 10 (.p 11 (.p 12 (.q 5 (.q 13 (.alt 7 (.q 14 (.p 15 (.p 16 (.p 17 (.p 18 (.p 19 (.p 20 (.p 21 (.alt 22 (.p 23 .fin) .fin))))))))) .fin))))))))))))))=true:=by kernel_rfl
theorem QpB:lxV Tryz.f77 9 [] (.p 0 (.p 2 (.p 3 (.p 4 (.p 5 (.p 6 (.q 1 (.q 7 (.q 8 (.p 9 (.p 10 (.alt 11 (.p 12 .fin) .fin))))))))))))=true:=by kernel_rfl
theorem Qse:Tryz.f77.results.toList=[]:=rfl
theorem QpC:lxV Tryz.f78 1 [15] (.p 0 (.p 1 (.p 2 (.p 3 (.p 4 (.p 6 (.q 5 (.q 7 (.q 8 (.p 9 (.p 10 (.alt 11 (.p 12 (.p 13 (.p 14 (.alt 15 .fin .fin)))) .fin))))))))))))=true:=by kernel_rfl
theorem QBp:lxT Tryz.f80 3 20=true:=by kernel_rfl
theorem QAO:lxV Tryz.f80 4 [21,25,29] (.p 0 (.p 1 (.p 2 (.p 3 (.p 4 (.p 5 (.p 6 (.p 8 (.p 9 (.p 10 (.p 11 (.q 7 (.q 12 (.q 13 (.p 14 (.p 15 (.p 16 (.p 17 (.p 18 (.p 19 (.p 20 (.alt 21 (.p 22 (.p 23 (.p 24 (.alt 25 (.p 26 (.p 27 (.p 28 (.alt 29 .fin .fin)))) .fin)))) .fin))))))))))))))))))))))=true:=by kernel_rfl
theorem QAP:lxV Tryz.f80 5 [19] (.p 0 (.p 1 (.p 2 (.p 3 (.p 4 (.p 6 (.p 7 (.p 8 (.p 9 (.p 10 (.q 5 (.q 11 (.q 12 (.p 13 (.p 14 (.alt 15 (.p 16 (.p 17 (.p 18 (.alt 19 .fin .fin)))) .fin))))))))))))))))=true:=by kernel_rfl
theorem QBq:lxF Tryz.f83 1=true:=by kernel_rfl
theorem QES:Tryz.f83.results.toList=[ResultVar.tmp 2]:=rfl
theorem QET:Tryz.f84.results.toList=[ResultVar.tmp 2]:=rfl
theorem QBr:lxF Tryz.f89 1=true:=by kernel_rfl
theorem QEU:Tryz.f89.results.toList=[ResultVar.tmp 2]:=rfl
theorem QCO:Tryz.f100.results.toList=[ResultVar.tmp 6,ResultVar.tmp 7]:=rfl
theorem QCP:Tryz.f101.results.toList=[ResultVar.tmp 2]:=rfl
theorem QCQ:Tryz.f102.results.toList=[ResultVar.tmp 4]:=rfl
theorem QCR:Tryz.f103.results.toList=[ResultVar.tmp 4]:=rfl
theorem QrR:Tryz.f106.results.toList=[ResultVar.tmp 4]:=rfl
theorem QCS:Tryz.f108.results.toList=[ResultVar.tmp 2]:=rfl
theorem QrS:Tryz.f109.results.toList=[ResultVar.tmp 4]:=rfl
theorem QCT:Tryz.f110.results.toList=[ResultVar.tmp 2]:=rfl
theorem QCU:Tryz.f111.results.toList=[ResultVar.tmp 2]:=rfl
theorem Qhf:Tryz.f112.results.toList=[ResultVar.cell 6 45,ResultVar.tmp 7]:=rfl
theorem QCV:Tryz.f113.results.toList=[ResultVar.tmp 2]:=rfl
theorem QCW:Tryz.f119.results.toList=[ResultVar.tmp 3,ResultVar.tmp 4]:=rfl
theorem QAQ:lxF Tryz.f120 3=true:=by kernel_rfl
theorem QCX:Tryz.f120.results.toList=[ResultVar.tmp 8]:=rfl
theorem QAR:lxF Tryz.f121 1=true:=by kernel_rfl
theorem QCY:Tryz.f121.results.toList=[ResultVar.tmp 2]:=rfl
theorem QrT:Tryz.f122.results.toList=[ResultVar.tmp 10]:=rfl
theorem QAS:lxT Tryz.f123 1 5=true:=by kernel_rfl
theorem QCZ:Tryz.f123.results.toList=[ResultVar.cell 6 45]:=rfl
theorem QC0:Tryz.f124.results.toList=[ResultVar.cell 4 36]:=rfl
theorem QC1:Tryz.f125.results.toList=[ResultVar.cell 6 36,ResultVar.tmp 7]:=rfl
theorem QC2:Tryz.f126.results.toList=[ResultVar.cell 4 47,ResultVar.tmp 5]:=rfl
theorem QC3:Tryz.f127.results.toList=[ResultVar.tmp 6]:=rfl
theorem QC4:Tryz.f128.results.toList=[ResultVar.cell 4 36,ResultVar.tmp 5]:=rfl
theorem Qpx:lxV Tryz.f129 2 [15] (.p 0 (.p 1 (.p 2 (.p 3 (.p 4 (.p 6 (.q 5 (.q 7 (.q 8 (.p 9 (.p 10 (.alt 11 (.p 12 (.p 13 (.p 14 (.alt 15 .fin .fin)))) .fin))))))))))))=true:=by kernel_rfl
theorem Qpy:lxV Tryz.f129 3 [17] (.p 0 (.p 1 (.p 2 (.p 3 (.p 4 (.p 6 (.p 8 (.q 5 (.q 7 (.q 9 (.alt 10 (.p 11 (.p 12 (.alt 13 (.p 14 (.p 15 (.p 16 (.alt 17 .fin .fin)))) .fin))) .fin)))))))))))=true:=by kernel_rfl
theorem QAE:lxV Tryz.f129 5 [15] (.p 0 (.p 1 (.p 2 (.p 3 (.p 4 (.p 6 (.q 5 (.q 7 (.q 8 (.p 9 (.p 10 (.alt 11 (.p 12 (.p 13 (.p 14 (.alt 15 .fin .fin)))) .fin))))))))))))=true:=by kernel_rfl
theorem QC5:Tryz.f130.results.toList=[ResultVar.cell 6 41,ResultVar.tmp 7,ResultVar.tmp 8]:=rfl
theorem QC6:Tryz.f131.results.toList=[ResultVar.cell 4 43]:=rfl
theorem QjC:Tryz.f132.results.toList=[ResultVar.cell 2 43,ResultVar.tmp 3]:=rfl
theorem QAu:lxM Tryz.f133 1 [(0,true),(2,true),(3,true),(4,true),(5,true),(6,true),(1,false),(7,true),(8,true)]=true:=by kernel_rfl
theorem QC7:Tryz.f133.results.toList=[ResultVar.tmp 2]:=rfl
theorem QC8:Tryz.f134.results.toList=[ResultVar.tmp 4,ResultVar.tmp 5]:=rfl
theorem QC9:Tryz.f135.results.toList=[ResultVar.tmp 4]:=rfl
theorem QDa:Tryz.f136.results.toList=[ResultVar.tmp 6]:=rfl
theorem QAT:lxT Tryz.f137 3 24=true:=by kernel_rfl
theorem QAU:lxF Tryz.f137 4=true:=by kernel_rfl
theorem QAV:lxT Tryz.f137 5 26=true:=by kernel_rfl
theorem QAF:lxV Tryz.f137 2 [20] (.p 0 (.p 1 (.p 3 (.p 4 (.p 5 (.p 6 (.p 8 (.p 9 (.p 10 (.p 11 (.q 2 (.q 7 (.q 12 (.q 13 (.p 14 (.p 15 (.alt 16 (.p 17 (.p 18 (.p 19 (.alt 20 .fin .fin)))) .fin)))))))))))))))))=true:=by kernel_rfl
theorem QDb:Tryz.f137.results.toList=[]:=rfl
theorem QDc:Tryz.f138.results.toList=[ResultVar.cell 4 36,ResultVar.tmp 5]:=rfl
theorem QAG:lxV Tryz.f139 1 [19,23] (.p 0 (.p 1 (.p 2 (.p 3 (.p 4 (.p 5 (.p 7 (.p 8 (.p 9 (.p 10 (.q 6 (.q 11 (.q 12 (.p 13 (.p 14 (.p 15 (.p 16 (.p 17 (.p 18 (.alt 19 (.p 20 (.p 21 (.p 22 (.alt 23 .fin .fin)))) .fin))))))))))))))))))))=true:=by kernel_rfl
theorem QAH:lxV Tryz.f139 2 [16,20] (.p 0 (.p 1 (.p 2 (.p 3 (.p 4 (.p 5 (.p 7 (.p 8 (.p 9 (.p 10 (.p 11 (.q 6 (.q 12 (.p 13 (.p 14 (.p 15 (.alt 16 (.p 17 (.p 18 (.p 19 (.alt 20 .fin .fin)))) .fin)))))))))))))))))=true:=by kernel_rfl
theorem QAW:lxF Tryz.f140 3=true:=by kernel_rfl
theorem QDd:Tryz.f140.results.toList=[ResultVar.tmp 6]:=rfl
theorem QDe:Tryz.f141.results.toList=[ResultVar.tmp 4,ResultVar.tmp 5,ResultVar.tmp 6]:=rfl
theorem QDf:Tryz.f142.results.toList=[ResultVar.cell 2 41]:=rfl
theorem QAX:lxF Tryz.f143 2=true:=by kernel_rfl
theorem QrU:Tryz.f143.results.toList=[ResultVar.tmp 6]:=rfl
theorem QDg:Tryz.f162.results.toList=[ResultVar.tmp 4]:=rfl
theorem QAY:lxF Tryz.f163 8=true:=by kernel_rfl
theorem QrW:Tryz.f163.results.toList=[ResultVar.tmp 8,ResultVar.tmp 9]:=rfl
theorem QDh:Tryz.f164.results.toList=[ResultVar.tmp 6]:=rfl
theorem QrX:Tryz.f165.results.toList=[ResultVar.tmp 8]:=rfl
theorem QDi:Tryz.f166.results.toList=[ResultVar.tmp 4,ResultVar.tmp 5]:=rfl
theorem QDj:Tryz.f167.results.toList=[ResultVar.tmp 1]:=rfl
theorem QrY:Tryz.f168.results.toList=[ResultVar.tmp 4,ResultVar.tmp 5]:=rfl
theorem QDk:Tryz.f169.results.toList=[ResultVar.tmp 2]:=rfl
theorem Qbl:Tryz.f172.results.toList=[]:=rfl
theorem QDl:Tryz.f173.results.toList=[ResultVar.tmp 2]:=rfl
theorem QDm:Tryz.f174.results.toList=[ResultVar.tmp 2]:=rfl
theorem QDn:Tryz.f176.results.toList=[ResultVar.tmp 2]:=rfl
theorem QDo:Tryz.f177.results.toList=[ResultVar.tmp 2]:=rfl
theorem QDp:Tryz.f178.results.toList=[ResultVar.tmp 2]:=rfl
theorem QDq:Tryz.f179.results.toList=[ResultVar.tmp 4]:=rfl
theorem QrZ:Tryz.f180.results.toList=[ResultVar.tmp 2,ResultVar.tmp 3]:=rfl
theorem QDs:Tryz.f181.results.toList=[ResultVar.tmp 2]:=rfl
theorem Qr0:Tryz.f182.results.toList=[ResultVar.tmp 4]:=rfl
theorem QjF:Tryz.f183.results.toList=[ResultVar.cell 4 45]:=rfl
theorem QDt:Tryz.f184.results.toList=[ResultVar.tmp 4]:=rfl
theorem QA0:lxT Tryz.f185 1 10=true:=by kernel_rfl
theorem QA2:lxF Tryz.f185 9=true:=by kernel_rfl
theorem QA1:lxF Tryz.f185 10=true:=by kernel_rfl
theorem QDu:Tryz.f185.results.toList=[ResultVar.tmp 4]:=rfl
theorem QDv:Tryz.f186.results.toList=[ResultVar.cell 4 196]:=rfl
theorem QDw:Tryz.f187.results.toList=[ResultVar.cell 6 36,ResultVar.tmp 7]:=rfl
theorem QDx:Tryz.f188.results.toList=[ResultVar.cell 4 38]:=rfl
theorem QDy:Tryz.f189.results.toList=[ResultVar.cell 4 38,ResultVar.tmp 5]:=rfl
theorem QDz:Tryz.f190.results.toList=[ResultVar.tmp 4]:=rfl
theorem Qi0:lxF Tryz.f191 3=true:=by kernel_rfl
theorem QAI:lxV Tryz.f191 8 [] (.p 0 (.p 1 (.p 2 (.p 3 (.q 5 (.q 6 (.p 7 (.alt 4 (.alt 8 (.alt 9 (.p 10 .fin) .fin) .fin) (.alt 8 (.alt 4 (.alt 9 (.p 10 .fin) .fin) .fin) .fin)))))))))=true:=by kernel_rfl
theorem Qfs:Tryz.f191.results.toList=[ResultVar.tmp 8,ResultVar.tmp 9]:=rfl
theorem QA3:lxT Tryz.f192 9 6=true:=by kernel_rfl
theorem Qhi:Tryz.f192.results.toList=[ResultVar.cell 4 43,ResultVar.tmp 5]:=rfl
theorem QDA:Tryz.f193.results.toList=[ResultVar.cell 3 41,ResultVar.tmp 4,ResultVar.tmp 5]:=rfl
theorem QDB:Tryz.f194.results.toList=[ResultVar.tmp 2]:=rfl
theorem Qr2:Tryz.f195.results.toList=[ResultVar.tmp 6]:=rfl
theorem QDC:Tryz.f196.results.toList=[ResultVar.cell 4 45]:=rfl
theorem QDD:Tryz.f197.results.toList=[ResultVar.tmp 8]:=rfl
theorem QjG:Tryz.f198.results.toList=[ResultVar.tmp 6]:=rfl
theorem QDE:Tryz.f199.results.toList=[ResultVar.tmp 4]:=rfl
theorem QDF:Tryz.f200.results.toList=[ResultVar.tmp 2]:=rfl
theorem QDG:Tryz.f201.results.toList=[ResultVar.tmp 8]:=rfl
theorem QDH:Tryz.f202.results.toList=[ResultVar.tmp 4,ResultVar.tmp 5]:=rfl
theorem QDI:Tryz.f203.results.toList=[ResultVar.tmp 2]:=rfl
theorem QA4:lxF Tryz.f204 3=true:=by kernel_rfl
theorem QDJ:Tryz.f204.results.toList=[ResultVar.tmp 4]:=rfl
theorem Qi1:lxF Tryz.f224 3=true:=by kernel_rfl
theorem QjH:Tryz.f224.results.toList=[ResultVar.cell 4 196,ResultVar.tmp 5,ResultVar.tmp 6]:=rfl
theorem QA6:lxT Tryz.f225 4 6=true:=by kernel_rfl
theorem QA7:lxT Tryz.f225 5 6=true:=by kernel_rfl
theorem QDL:Tryz.f225.results.toList=[ResultVar.cell 4 196,ResultVar.tmp 5]:=rfl
theorem QDM:Tryz.f226.results.toList=[ResultVar.cell 2 196]:=rfl
theorem QA8:lxF Tryz.f227 1=true:=by kernel_rfl
theorem QA9:lxF Tryz.f227 3=true:=by kernel_rfl
theorem QDN:Tryz.f227.results.toList=[ResultVar.tmp 2]:=rfl
theorem QDO:Tryz.f228.results.toList=[ResultVar.cell 4 196,ResultVar.tmp 5]:=rfl
theorem QDP:Tryz.f229.results.toList=[ResultVar.tmp 2]:=rfl
theorem QDR:Tryz.f230.results.toList=[ResultVar.tmp 2]:=rfl
theorem QDS:Tryz.f231.results.toList=[ResultVar.tmp 2]:=rfl
theorem QDT:Tryz.f232.results.toList=[ResultVar.cell 2 225]:=rfl
theorem QBb:lxT Tryz.f233 1 11=true:=by kernel_rfl
theorem QDU:Tryz.f233.results.toList=[ResultVar.cell 4 196]:=rfl
theorem QBc:lxL Tryz.f234 1 10=true:=by kernel_rfl
theorem QDV:Tryz.f234.results.toList=[ResultVar.tmp 4]:=rfl
theorem QDW:Tryz.f235.results.toList=[ResultVar.tmp 4,ResultVar.tmp 5]:=rfl
theorem QDX:Tryz.f236.results.toList=[ResultVar.tmp 2]:=rfl
theorem QDY:Tryz.f237.results.toList=[ResultVar.cell 2 233]:=rfl
theorem QBd:lxF Tryz.f238 1=true:=by kernel_rfl
theorem QDZ:Tryz.f238.results.toList=[ResultVar.cell 4 233]:=rfl
theorem QD1:Tryz.f240.results.toList=[ResultVar.tmp 3]:=rfl
theorem QD2:Tryz.f241.results.toList=[ResultVar.tmp 4]:=rfl
theorem QBe:lxF Tryz.f242 1=true:=by kernel_rfl
theorem QD3:Tryz.f242.results.toList=[ResultVar.cell 2 135]:=rfl
theorem QD4:Tryz.f243.results.toList=[ResultVar.cell 2 135]:=rfl
theorem QD5:Tryz.f244.results.toList=[ResultVar.cell 2 135]:=rfl
theorem QD6:Tryz.f245.results.toList=[ResultVar.tmp 4,ResultVar.tmp 5]:=rfl
theorem QD7:Tryz.f246.results.toList=[ResultVar.tmp 6]:=rfl
theorem Qr5:Tryz.f247.results.toList=[ResultVar.tmp 2]:=rfl
theorem QBf:lxF Tryz.f248 3=true:=by kernel_rfl
theorem Qr6:Tryz.f248.results.toList=[ResultVar.tmp 4]:=rfl
theorem QD8:Tryz.f249.results.toList=[ResultVar.tmp 2]:=rfl
theorem Qr7:Tryz.f250.results.toList=[ResultVar.tmp 4]:=rfl
theorem QEa:Tryz.f251.results.toList=[ResultVar.tmp 2]:=rfl
theorem QBg:lxF Tryz.f282 6=true:=by kernel_rfl
theorem Qcb:Tryz.f282.results.toList=[ResultVar.tmp 6,ResultVar.tmp 7]:=rfl
theorem QEb:Tryz.f283.results.toList=[ResultVar.cell 4 225]:=rfl
theorem QEc:Tryz.f285.results.toList=[ResultVar.tmp 2]:=rfl
theorem QBh:lxF Tryz.f286 1=true:=by kernel_rfl
theorem QEd:Tryz.f286.results.toList=[ResultVar.tmp 4]:=rfl
theorem QEe:Tryz.f287.results.toList=[ResultVar.tmp 3]:=rfl
theorem QEf:Tryz.f288.results.toList=[ResultVar.cell 2 196,ResultVar.tmp 3]:=rfl
theorem QjJ:Tryz.f289.results.toList=[ResultVar.tmp 2]:=rfl
theorem QEg:Tryz.f290.results.toList=[ResultVar.tmp 4]:=rfl
theorem QEh:Tryz.f291.results.toList=[ResultVar.tmp 2]:=rfl
theorem QEi:Tryz.f292.results.toList=[ResultVar.tmp 2]:=rfl
theorem QBi:lxF Tryz.f293 1=true:=by kernel_rfl
theorem QEj:Tryz.f293.results.toList=[ResultVar.tmp 4]:=rfl
theorem QEk:Tryz.f294.results.toList=[ResultVar.tmp 2]:=rfl
theorem QEl:Tryz.f308.results.toList=[ResultVar.tmp 2]:=rfl
theorem QEm:Tryz.f310.results.toList=[ResultVar.tmp 2]:=rfl
theorem QEn:Tryz.f311.results.toList=[ResultVar.cell 2 196]:=rfl
theorem QEo:Tryz.f312.results.toList=[ResultVar.tmp 2]:=rfl
theorem QEp:Tryz.f313.results.toList=[ResultVar.tmp 2]:=rfl
theorem QEq:Tryz.f314.results.toList=[ResultVar.tmp 4]:=rfl
theorem QEr:Tryz.f316.results.toList=[ResultVar.tmp 2]:=rfl
theorem QEs:Tryz.f333.results.toList=[ResultVar.tmp 6]:=rfl
theorem QEt:Tryz.f334.results.toList=[ResultVar.tmp 4]:=rfl
theorem QjK:Tryz.f335.results.toList=[ResultVar.tmp 6]:=rfl
theorem own_:ownKnob Tryz.prog.godebug=none:=by kernel_rfl
theorem QbA:laidOutB Tryz.prog=true:=by kernel_rfl
theorem Qaf:Tryz.prog.follows .mixedOrders=true:=by kernel_rfl
end Go.Proofs.YtkokohkbhlnjkaaGreatDoor
