/- The framework and the contracts of the program's functions, part 3: what each answers. Conditions: those that each names. -/
import Derived.Test.YtkokohkbhlnjkaaGreatDoorMa2
import Derived.WalkKit
import Derived.ProofKit
import Derived.OpenShut
import Derived.ShutString
import Derived.ChangeOld
import Derived.Below
import Derived.SizedLaws
import Derived.Laws.MathBits
import Derived.Conc.AtomicLaws
import Derived.Shelf.Spec.BitsCarry
import Derived.Laws.Bits64b
import Derived.MapKept
namespace Go.Proofs.YtkokohkbhlnjkaaGreatDoor.R
open Go Go.RowKit Go.ChangeShapes Go.WideShapes
mutual
inductive Ty where
 | i (k:IntKind)
 | b
 | s
 | r (l:Tys)
 | v (n:Nat) (e:Ty)
inductive Tys where
 | nil
 | cons (n:Nat) (t:Ty) (r:Tys)
end
def fieldsOf (P:Program) (F:TypeId→Option Ty) (tot:Nat):Nat→List Field→Option Tys
 | off,[]=>if off=tot then some .nil else none
 | off,f :: fs=>if f.offset=off then match F f.type,fieldsOf P F tot (off+P.cellsOf f.type) fs with
   | some t,some r=>some (.cons (P.cellsOf f.type) t r)
   | _,_=>none
  else none
def tyOf (P:Program):Nat→TypeId→Option Ty
 | 0,_=>none
 | n+1,t=>match P.underlying t with
  | some .bool=>some .b
  | some (.int k)=>some (.i k)
  | some .string=>some .s
  | some (.slice e)=>match tyOf P n e with
   | some y=>some (.v (P.cellsOf e) y)
   | none=>none
  | some (.struct fs)=>match fieldsOf P (tyOf P n) (P.cellsOf t) 0 fs.toList with
   | some l=>some (.r l)
   | none=>none
  | _=>none
mutual
def Sh (x:Nat→Obj→Prop):Ty→List Value→Prop
 | .i k,cs=>∃ n,cs=[.int k n]∧(Lit.int k n).wf=true
 | .b,cs=>∃ b,cs=[.bool b]
 | .s,cs=>∃ s:ByteArray,cs=[.string s]∧s.size≤maxLen
 | .r l,cs=>Shs x l cs
 | .v n e,cs=>∃ a len cap,cs=[.slice a len cap]∧len≤cap∧cap≤maxLen ∧
   ∀ i,i < len→∃ ds,ds.length=n∧Sh x e ds∧∀ j,j < n→∃ b off c T f,a=some ⟨b,off,none⟩∧x b (.cells c T f)∧c[off+i * n+j]? = ds[j]?
def Shs (x:Nat→Obj→Prop):Tys→List Value→Prop
 | .nil,cs=>cs=[]
 | .cons n t r,cs=>∃ a b,cs=a ++ b∧a.length=n∧Sh x t a∧Shs x r b
end
section
variable {H:Type} {enc:TypeId×Value→H} {P:Program} {w:World} {base:Nat} {sp:Nat→Bool} {held:Bool}
theorem Qt1 (b o n:Nat):Addr.add ⟨b,o,none⟩ n=⟨b,o+n,none⟩:=by
 unfold Addr.add
 split
 ·subst_vars; rfl
 ·rfl
theorem Qwt {b o:Nat} {u:Value} (h:w.cell? ⟨b,o,none⟩=some u):∃ c T f,w.heap[b]? = some (.cells c T f)∧c[o]? = some u:=by
 unfold World.cell? at h
 simp only at h
 split at h
 ·rename_i c T f hb
  exact ⟨c,T,f,hb,by simpa using h⟩
 ·cases h
theorem QFy:∀ (fuel m:Nat) (t:TypeId) (y:Ty) (cs:List Value) (z:DataW H×List MemPlace),tyOf P m t=some y→DataW.trod enc P w base sp held fuel t cs=some z →
  Sh (fun b o=>w.heap[b]? = some o) y cs:=by
 intro fuel
 induction fuel with
 | zero=>intro m t y cs z _ h; simp [DataW.trod] at h
 | succ fuel ih=>
  intro m t y cs z hy h
  cases m with
  | zero=>simp [tyOf] at hy
  | succ m=>
   unfold tyOf at hy
   split at hy
   ·rename_i ht
    cases hy
    obtain ⟨b,rfl,_⟩:=DataW.trod_bool ht h
    exact ⟨b,rfl⟩
   ·rename_i k ht
    cases hy
    obtain ⟨n,rfl,_,hw⟩:=DataW.trod_int ht h
    exact ⟨n,rfl,hw⟩
   ·rename_i ht
    cases hy
    obtain ⟨s,rfl,_,hw⟩:=DataW.trod_string ht h
    exact ⟨s,rfl,hw⟩
   ·rename_i e ht
    split at hy
    ·rename_i y' hy'
     cases hy
     rcases DataW.trod_slice ht h with ⟨rfl,_⟩ | ⟨a,len,cap,elems,rest,n,hn,rfl,_,_,hl,hm,hlen,hel,_⟩
     ·exact ⟨none,0,0,rfl,Nat.le_refl _,Nat.zero_le _,fun i hi=>absurd hi (Nat.not_lt_zero _)⟩
     ·cases hn
      have at1:∀ i,i < len→∃ ds q,World.cells? w base (a.add (i * P.cellsOf e)) (P.cellsOf e)=some ds∧DataW.trod enc P w base sp held fuel e ds=some q:=fun i hi=>by
       have h1:=hel i hi
       cases hz:elems[i]? with
       | none=>rw [List.getElem?_eq_none_iff] at hz; omega
       | some q=>
        rw [hz,Option.bind_eq_some_iff] at h1
        obtain ⟨ds,hd,hq⟩:=h1
        exact ⟨ds,q,hd,hq⟩
      have at2:∀ i,i < len→∀ ds,World.cells? w base (a.add (i * P.cellsOf e)) (P.cellsOf e)=some ds→ds.length=P.cellsOf e∧∀ j,j < P.cellsOf e→w.cell? ((a.add (i * P.cellsOf e)).add j)=ds[j]?:=fun i hi ds hd=>by
       unfold World.cells? at hd
       split at hd
       ·have hln:=mapM_some_length hd
        simp only [List.length_range] at hln
        exact ⟨hln,fun j hj=>mapM_some_get hd j j (by rw [List.getElem?_range hj])⟩
       ·cases hd
      have spot:0 < len→0 < P.cellsOf e→a.spot=none:=fun h1 h2=>by
       obtain ⟨ds,q,hd,_⟩:=at1 0 h1
       obtain ⟨hln,hg⟩:=at2 0 h1 ds hd
       have hg0:=hg 0 h2
       rw [List.getElem?_eq_getElem (by omega)] at hg0
       have:=World.cell?_spot hg0
       simpa [Addr.add] using this
      refine ⟨some a,len,cap,rfl,hl,hm,fun i hi=>?_⟩
      obtain ⟨ds,q,hd,hq⟩:=at1 i hi
      obtain ⟨hln,hg⟩:=at2 i hi ds hd
      refine ⟨ds,hln,ih m e y' ds q hy' hq,fun j hj=>?_⟩
      have hsp:=spot (by omega) (by omega)
      obtain ⟨ab,ao,asp⟩:=a
      simp only at hsp
      subst hsp
      have hgj:=hg j hj
      have hdj:ds[j]? = some ds[j]:=List.getElem?_eq_getElem (by omega)
      rw [hdj] at hgj
      have e0:(Addr.add (Addr.add ⟨ab,ao,none⟩ (i * P.cellsOf e)) j)=⟨ab,ao+i * P.cellsOf e+j,none⟩:=by
       simp only [Qt1]
      rw [e0] at hgj
      obtain ⟨c,T,f,hb,hc⟩:=Qwt hgj
      exact ⟨ab,ao,c,T,f,rfl,hb,by rw [hdj]; exact hc⟩
    ·cases hy
   ·rename_i fs ht
    split at hy
    ·rename_i l hl
     cases hy
     obtain ⟨xs,n,hn,_,hlen,hxl,hf⟩:=DataW.trod_struct ht h
     cases hn
     have key:∀ (gs:List Field) (off k:Nat) (l:Tys),fieldsOf P (tyOf P m) (P.cellsOf t) off gs=some l→gs=fs.toList.drop k→Shs (fun b o=>w.heap[b]? = some o) l (cs.drop off):=by
      intro gs
      induction gs with
      | nil=>
       intro off k l hl' _
       unfold fieldsOf at hl'
       split at hl'
       ·cases hl'
        subst off
        simp only [Shs]
        rw [←hlen,List.drop_length]
       ·cases hl'
      | cons g gs ihg=>
       intro off k l hl' hk
       unfold fieldsOf at hl'
       split at hl'
       ·rename_i hoff
        split at hl'
        ·rename_i t' r' ht' hr'
         cases hl'
         have hgk:fs[k]? = some g:=by
          have:=congrArg (·[0]?) hk
          simpa using this.symm
         have hkx:∃ q,xs[k]? = some q:=by
          have:k < fs.size:=by
           rcases Nat.lt_or_ge k fs.size with h' | h'
           ·exact h'
           ·rw [Array.getElem?_eq_none h'] at hgk; cases hgk
          exact ⟨xs[k],List.getElem?_eq_getElem (by omega)⟩
         obtain ⟨q,hq⟩:=hkx
         have h1:=hf k g hgk
         rw [hq] at h1
         have h2:=ih m g.type t' _ q ht' h1
         have h3:=ihg _ (k+1) _ hr' (by have:=congrArg List.tail hk; simpa using this)
         refine ⟨(cs.drop off).take (P.cellsOf g.type),(cs.drop off).drop (P.cellsOf g.type),(List.take_append_drop _ _).symm,?_,by rw [←hoff]; exact h2,by rw [List.drop_drop]; exact h3⟩
         have:off+P.cellsOf g.type≤cs.length:=by
          rw [hlen]
          clear h3 ihg h2 h1 hq hgk hk
          have:∀ (gs:List Field) (off:Nat) (l:Tys),fieldsOf P (tyOf P m) (P.cellsOf t) off gs=some l→off≤P.cellsOf t:=by
           intro gs
           induction gs with
           | nil=>intro off l h; unfold fieldsOf at h; split at h <;> simp_all
           | cons g gs ihg=>
            intro off l h
            unfold fieldsOf at h
            split at h
            ·split at h
             ·rename_i hr; have:=ihg _ _ hr; omega
             ·cases h
            ·cases h
          exact this _ _ _ hr'
         simp; omega
        ·cases hl'
       ·cases hl'
     exact key _ 0 0 _ hl rfl
    ·cases hy
   ·cases hy
end
def Shv (x:Nat→Obj→Prop):Ty→Value→Prop
 | .i k,v=>∃ n,v=.int k n∧(Lit.int k n).wf=true
 | .b,v=>∃ b,v=.bool b
 | .s,v=>∃ s:ByteArray,v=.string s∧s.size≤maxLen
 | .r l,v=>∃ cs,v=.agg cs∧Shs x l cs.toList
 | .v n e,v=>∃ a len cap,v=.slice a len cap∧len≤cap∧cap≤maxLen ∧
   ∀ i,i < len→∃ ds,ds.length=n∧Sh x e ds∧∀ j,j < n→∃ b off c T f,a=some ⟨b,off,none⟩∧x b (.cells c T f)∧c[off+i * n+j]? = ds[j]?
theorem shv {H:Type} {enc:TypeId×Value→H} {P:Program} {w:World} {r:Reach} {b0 base:Nat} {sp:Nat→Bool} {held:Bool} {m:Nat} {t:TypeId} {y:Ty} {v:Value} {d:DataW H} {ps:List MemPlace}
  (hy:tyOf P m t=some y) (hval:Value.okWide P w r b0 t v) (hd:DataW.Trod enc P w base sp held t v d ps):Shv (fun b o=>w.heap[b]? = some o) y v:=by
 obtain ⟨fuel,hf⟩:=hd
 have hs:=QFy fuel m t y _ _ hy hf
 cases m with
 | zero=>simp [tyOf] at hy
 | succ m=>
  unfold tyOf at hy
  split at hy
  ·rename_i ht
   cases hy
   obtain ⟨b,rfl⟩:=okWide_bool ht hval
   exact ⟨b,rfl⟩
  ·rename_i k ht
   cases hy
   obtain ⟨n,rfl⟩:=okWide_int ht hval
   obtain ⟨n',h1,h2⟩:=hs
   simp [Value.cells] at h1
   subst h1
   exact ⟨n,rfl,h2⟩
  ·rename_i ht
   cases hy
   obtain ⟨s,rfl⟩:=okWide_string ht hval
   obtain ⟨n',h1,h2⟩:=hs
   simp [Value.cells] at h1
   subst h1
   exact ⟨s,rfl,h2⟩
  ·rename_i e ht
   split at hy
   ·cases hy
    obtain ⟨a,len,cap,rfl⟩:=okWide_slice ht hval
    obtain ⟨a',len',cap',h1,h2⟩:=hs
    simp [Value.cells] at h1
    obtain ⟨rfl,rfl,rfl⟩:=h1
    exact ⟨a,len,cap,rfl,h2⟩
   ·cases hy
  ·rename_i fs ht
   split at hy
   ·cases hy
    unfold Value.okWide at hval
    rw [ht] at hval
    obtain ⟨cs,rfl,_⟩:=hval
    exact ⟨cs,rfl,hs⟩
   ·cases hy
  ·cases hy
def Shvs (x:Nat→Obj→Prop):List Ty→List Value→Prop
 | [],[]=>True
 | t :: ts,v :: vs=>Shv x t v∧Shvs x ts vs
 | _,_=>False
def tysOf (P:Program):List TypeId→Option (List Ty)
 | []=>some []
 | t :: ts=>match tyOf P 9 t,tysOf P ts with
  | some y,some ys=>some (y :: ys)
  | _,_=>none
section
variable {H:Type} {enc:TypeId×Value→H} {P:Program} {w:World}
theorem shvs:∀ (ts:List TypeId) (vs:List Value) (ds:List (DataW H)) (ps:List MemPlace) (ys:List Ty) (base:Nat),tysOf P ts=some ys →
  (∀ (j:Nat) t v,ts[j]? = some t→vs[j]? = some v→Value.okWide P w .any base t v)→DataW.TrodAll enc P w 0 (fun _=>true) true ts vs ds ps→Shvs (fun b o=>w.heap[b]? = some o) ys vs:=by
 intro ts
 induction ts with
 | nil=>
  intro vs ds ps ys base hy _ h
  cases hy
  cases vs with
  | nil=>trivial
  | cons _ _=>cases ds <;> simp [DataW.TrodAll] at h
 | cons t ts ih=>
  intro vs ds ps ys base hy hval h
  obtain ⟨v,vs',d,ds',p,q,rfl,rfl,_,h1,h2⟩:=trodAll_cons h
  unfold tysOf at hy
  split at hy
  ·rename_i y ys' e1 e2
   cases hy
   exact ⟨shv e1 (hval 0 t v rfl rfl) h1,ih vs' ds' q ys' base e2 (fun j t' v' ha hb=>hval (j+1) t' v' (by simpa using ha) (by simpa using hb)) h2⟩
  ·cases hy
theorem QF4:∀ (ts:List TypeId) (vs:List Value) (ds:List (DataW H)) (ps:List MemPlace),DataW.TrodAll enc P w 0 (fun _=>true) true ts vs ds ps→ds.length=ts.length:=by
 intro ts
 induction ts with
 | nil=>intro vs ds ps h; cases vs <;> cases ds <;> simp_all [DataW.TrodAll]
 | cons t ts ih=>
  intro vs ds ps h
  obtain ⟨v,vs',d,ds',p,q,rfl,rfl,_,h1,h2⟩:=trodAll_cons h
  simp [ih _ _ _ h2]
theorem QF3 (hl:laidOutB P=true) {w':World} (bel:Below w.heap.size w w'):∀ (ts:List TypeId) (vs:List Value) (ds:List (DataW H)) (ps:List MemPlace),
  ts.all (fun t=>P.readableRec t && decide (t < P.types.size))=true→DataW.TrodAll enc P w 0 (fun _=>true) true ts vs ds ps→DataW.TrodAll enc P w' 0 (fun b=>decide (b < w.heap.size)) true ts vs ds ps:=by
 intro ts
 induction ts with
 | nil=>intro vs ds ps _ h; cases vs <;> cases ds <;> simp_all [DataW.TrodAll]
 | cons t ts ih=>
  intro vs ds ps hr h
  obtain ⟨v,vs',d,ds',p,q,rfl,rfl,rfl,h1,h2⟩:=trodAll_cons h
  simp only [List.all_cons,Bool.and_eq_true,decide_eq_true_eq] at hr
  exact ⟨p,q,Below.trod hl hr.1.1 hr.1.2 h1 bel (by obtain ⟨m,hm⟩:=h1; exact DataW.trod_lt m _ _ _ hm),ih _ _ _ (by simpa using hr.2) h2,rfl⟩
end
theorem QFE {x:Nat→Obj→Prop} {k:IntKind} {v:Value} (h:Shv x (.v 1 (.i k)) v):∃ a len cap,v=.slice a len cap∧len≤cap∧cap≤maxLen ∧
  ∃ zs:Nat→Int,∀ i,i < len→(Lit.int k (zs i)).wf=true∧∃ b off c T f,a=some ⟨b,off,none⟩∧x b (.cells c T f)∧loadX false 1 (off+(i:Int).toNat * 1) c=some (.int k (zs i)):=by
 obtain ⟨a,len,cap,rfl,h1,h2,h3⟩:=h
 have h4:∀ i,∃ z,i < len→(Lit.int k z).wf=true∧∃ b off c T f,a=some ⟨b,off,none⟩∧x b (.cells c T f)∧loadX false 1 (off+(i:Int).toNat * 1) c=some (.int k z):=fun i=>by
  by_cases hi:i < len
  ·obtain ⟨ds,hl,⟨z,hz,hw⟩,hj⟩:=h3 i hi
   obtain ⟨b,off,c,T,f,q1,q2,q3⟩:=hj 0 (by decide)
   refine ⟨z,fun _=>⟨hw,b,off,c,T,f,q1,q2,?_⟩⟩
   rw [hz] at q3
   simpa [loadX] using q3
  ·exact ⟨0,fun h=>absurd h hi⟩
 exact ⟨a,len,cap,rfl,h1,h2,fun i=>Classical.choose (h4 i),fun i hi=>Classical.choose_spec (h4 i) hi⟩
theorem QGf {k:IntKind} {n:Int} (h:(Lit.int k n).wf=true):k.min≤n∧n≤k.max:=by
 simpa [Lit.wf] using h
theorem QGe {n:Int} (h:(Lit.int .i64 n).wf=true) : -9223372036854775808≤n∧n≤9223372036854775807:=by
 have:=QGf h; simp [IntKind.min,IntKind.max,IntKind.signed,IntKind.bits] at this; exact this
end Go.Proofs.YtkokohkbhlnjkaaGreatDoor.R
namespace Go.Proofs.YtkokohkbhlnjkaaGreatDoor
set_option linter.unusedVariables false
set_option linter.unusedSimpArgs false
open Go Go.RowKit Go.Proofs.YtkokohkbhlnjkaaGreatDoor.R
set_option maxRecDepth 50000
set_option maxHeartbeats 1000000
theorem Qim (a:Int):a.fdiv 4294967296=a / 4294967296:=Int.fdiv_eq_ediv_of_nonneg a (by omega)
theorem QxT (a:Int):a.fdiv 65536=a / 65536:=Int.fdiv_eq_ediv_of_nonneg a (by omega)
theorem fd_8 (a:Int):a.fdiv 256=a / 256:=Int.fdiv_eq_ediv_of_nonneg a (by omega)
theorem QlY {x:Nat→Obj→Prop} (a b:Int) (ha:0≤a) (ha1:a < 18446744073709551616) (hb:0≤b) (hb1:b < 18446744073709551616):PureC Tryz.prog x 235 [.int .u64 a,.int .u64 b]
  (.tuple #[.int .u64 (a * b / 18446744073709551616),.int .u64 (a * b % 18446744073709551616)]):=by
 have al:∀ z:Int,bits .and .u64 (z % 18446744073709551616) 4294967295=(z % 18446744073709551616) % 4294967296:=fun z=>and_low32 _ (by omega) (by omega)
 have la:=and_low32 a ha ha1
 have lb:=and_low32 b hb hb1
 refine Qab Tryz.func235 rfl rfl fun w=>?_
 refine Qaa (by kernel_rfl) ?_
 repeat' (first|((fail_if_success (with_reducible refine stk ?_));simp only [WE,Nat.reduceLeDiff,Nat.reduceBEq,Nat.reduceAdd,Int.reduceLE,Int.reduceToNat,Int.reducePow,QDW,Qim,QcB,al,la,lb]))
 rw [mul64_arith a b ha ha1 hb hb1]
theorem Qnk {P : Program} {f : FuncId} {fn : Func} {e : Array Value → Sem Value} {es : List Value} {v : Value} (hf : P.funcs[f]? = some fn) (hname : (fn.name == "runtime.NumGoroutine") = false) (hb : fn.body.isNone = true)
  (hn:Extern.findNext fn=none) (he:Extern.find fn=some e) (h:∀ w,(e es.toArray).run P w=.ok v w∧∀ ev,(e es.toArray).events P w ev=ev):ExtC P f es v:=fun w=>by
 refine ⟨?_,fun ev hev=>?_⟩
 ·rw [run_callFunc_extern hf hname hb hn he,(h w).1]; rfl
 ·rw [Go.Conc.events_callFunc_extern hf hname hb hn he,(h w).2] at hev
  simp at hev
  exact ⟨f,by rw [hev]⟩
theorem QhV (a b c:Int) (ha:0≤a) (hb:0≤b) (hc:0≤c) (hc1:c≤1):ExtC Tryz.prog 284 [.int .u64 a,.int .u64 b,.int .u64 c]
  (.tuple #[.int .u64 ((a+b+c) % 18446744073709551616),.int .u64 ((a+b+c) / 18446744073709551616)]):=
 Qnk Tryz.func284 (by kernel_rfl) (by kernel_rfl) (by kernel_rfl) (e:=add64Entry) (by kernel_rfl) fun w=>⟨run_add64 a b c ha hb hc hc1 w,fun ev=>by
  have:c=0∨c=1:=by omega
  rcases this with rfl | rfl <;> rfl⟩
theorem tab256 (t:ByteArray) (h:((List.range 256).all fun i=>t[i]? == some (UInt8.ofNat (bitLen i)))=true) (i:Nat) (hi:i < 256):t[i]? = some (UInt8.ofNat (bitLen i)):=by
 have:=List.all_eq_true.1 h i (by simpa using hi)
 simpa using this
theorem bitLen8 (i:Nat) (hi:i < 256):(UInt8.ofNat (bitLen i)).toNat=bitLen i:=by
 have:=bitLen_le8 i hi
 simp only [UInt8.toNat_ofNat']
 omega
theorem cv8 (a:Int):wr .u8 a=a % 256:=by rw [Qcg,IntKind.wrap_u8]
theorem QgW {a:Int} {d k:Nat} (h0:0≤a) (hd:d=2 ^ k) (h:(d:Int)≤a):bitLen a.toNat=k+bitLen (a / (d:Int)).toNat:=by
 obtain ⟨n,rfl⟩:=Int.eq_ofNat_of_zero_le h0
 have h1:d≤n:=by omega
 have hp:0 < d:=by rw [hd]; exact Nat.two_pow_pos k
 have e:(((n:Nat):Int) / (d:Int)).toNat=n / d:=by rw [←Int.natCast_ediv,Int.toNat_natCast]
 rw [e,Int.toNat_natCast,bitLen_shift n k (by rw [←hd]; have:=Nat.div_pos h1 hp; omega),←hd]
theorem QgU {a:Int} (h0:0≤a) (h:4294967296≤a):bitLen a.toNat=32+bitLen (a / 4294967296).toNat:=QgW (d:=4294967296) (k:=32) h0 (by decide) h
theorem QgT {a:Int} (h0:0≤a) (h:65536≤a):bitLen a.toNat=16+bitLen (a / 65536).toNat:=QgW (d:=65536) (k:=16) h0 (by decide) h
theorem QgV {a:Int} (h0:0≤a) (h:256≤a):bitLen a.toNat=8+bitLen (a / 256).toNat:=QgW (d:=256) (k:=8) h0 (by decide) h
theorem QAr {z:Int} {n m:Nat} (hn:n≤8) (h:z+n=m∧0≤z∧z≤64):wr .i64 (z+wr .i64 (n:Int))=(m:Int):=by
 rw [Qag (n:=(n:Int)) (by omega) (by omega),Qag (by omega) (by omega),h.1]
theorem QlX {x:Nat→Obj→Prop} (a:Int) (ha:0≤a) (ha1:a < 18446744073709551616):PureC Tryz.prog x 310 [.int .u64 a] (.int .i64 (bitLen a.toNat:Nat)):=by
 have wl:∀ z:Int,-1000≤z∧z≤1000→wr .i64 z=z:=fun z h=>Qag (by omega) (by omega)
 refine Qab Tryz.func310 rfl rfl fun w=>?_
 refine Qaa (by kernel_rfl) ?_
 repeat' (first|(with_reducible refine (QzS Tryz.underlying9 (UInt8.ofNat (bitLen (Int.toNat _))) ?_ (tab256 _ (by kernel_rfl) _ ?_)).symm▸?_)|(with_reducible refine Qah (fun _=>?_) (fun _=>?_))|((fail_if_success (with_reducible refine stk ?_));simp only [WE,Nat.reduceLeDiff,Nat.reduceBEq,Int.reduceLE,Int.reduceToNat,Int.reducePow,Qh5,QwL,QEm,Qim,QxT,fd_8,cv8]))
 all_goals simp only [decide_eq_true_eq,decide_eq_false_iff_not] at *
 all_goals first | omega | skip
 all_goals rw [Int.emod_eq_of_lt (by omega) (by omega)]
 all_goals simp (disch:=omega) only [bitLen8,wl (32+16),wl (32+16+8),wl (0+16),wl (0+16+8),wl (32+8),wl (0+8)]
 all_goals refine congrArg (Value.int .i64) (QAr (bitLen_le8 _ (by omega)) ⟨?_,by omega,by omega⟩)
 all_goals (first
  | rw [QgU ha (by omega),QgT (a:=a / 4294967296) (by omega) (by omega),QgV (a:=a / 4294967296 / 65536) (by omega) (by omega)]
  | rw [QgU ha (by omega),QgT (a:=a / 4294967296) (by omega) (by omega)]
  | rw [QgU ha (by omega),QgV (a:=a / 4294967296) (by omega) (by omega)]
  | rw [QgU ha (by omega)]
  | rw [QgT ha (by omega),QgV (a:=a / 65536) (by omega) (by omega)]
  | rw [QgT ha (by omega)]
  | rw [QgV ha (by omega)]
  | skip)
 all_goals omega
theorem QuT {x:Nat→Obj→Prop} (a:Int):PureC Tryz.prog x 312 [.int .u64 a] (.bool false):=by
 refine Qab Tryz.func312 rfl rfl fun w=>?_
 refine Qaa (by kernel_rfl) ?_
 repeat' (first|((fail_if_success (with_reducible refine stk ?_));simp only [WE,Nat.reduceBEq,QEo]))
 simp
def cmpI (a b:Int):Int:=if a < b then -1 else if b < a then 1 else 0
theorem QuR {x:Nat→Obj→Prop} (a b:Int):PureC Tryz.prog x 290 [.int .u64 a,.int .u64 b] (.int .i64 (cmpI a b)):=by
 refine Qab Tryz.func290 rfl rfl fun w=>?_
 refine Qaa (by kernel_rfl) ?_
 repeat' (first|(with_reducible refine Qah (fun _=>?_) (fun _=>?_))|((with_reducible show callW _ _ _ (some (312,_)) _ _);refine callP Qyu rfl (QuT ..) ?_)|((fail_if_success (with_reducible refine stk ?_));simp only [WE,Nat.reduceBEq,Nat.reduceAdd,Int.reduceNeg,QEg]))
 all_goals (simp only [decide_eq_true_eq,decide_eq_false_iff_not] at *)
 all_goals (unfold cmpI; simp only [*,if_true,if_false])
theorem QuS {x:Nat→Obj→Prop} {b T:Nat} {f:Nat×Nat} (p q:Int) (hx:x b (.cells #[.int .i64 p,.int .i64 q] T f)):PureC Tryz.prog x 289 [.slice (some ⟨b,0,none⟩) 2 2] (.int .i64 (if p=0 then q else p)):=by
 refine Qab Tryz.func289 rfl rfl fun w=>?_
 refine Qaa (by kernel_rfl) ?_
 repeat' (first|((fail_if_success (with_reducible refine stk ?_));simp only [WE,Nat.reduceBEq,QbH]))
 refine Qa3 (α:=Nat) (fun j=>⟨[(3,.ext (.int .i64 0)),(6,.ext (.slice (some ⟨b,0,none⟩) 2 2)),(7,.ext (.int .i64 2)),(8,.ext (.int .i64 j))],[],x⟩)
  (fun j=>j≤2∧(1≤j→p=0)∧(2≤j→q=0)) (fun j=>2 - j)
  ⟨0,Qae ⟨⟨rfl,rfl⟩,⟨rfl,rfl⟩,⟨rfl,rfl⟩,⟨rfl,rfl⟩,trivial⟩ trivial rfl,by omega,by omega,by omega⟩ (by kernel_rfl) ?_
 rintro j ⟨hj,hp,hq⟩
 have hl0:loadX false 1 0 #[.int .i64 p,.int .i64 q]=some (.int .i64 p):=rfl
 have hl1:loadX false 1 1 #[.int .i64 p,.int .i64 q]=some (.int .i64 q):=rfl
 rcases (by omega:j=0∨j=1∨j=2) with rfl | rfl | rfl
 ·have ht:decide (((0:Nat):Int) < 2)=true:=by decide
  have h0:0+(((0:Nat):Int)).toNat * 1=0:=rfl
  have e:wr .i64 (((0:Nat):Int)+1)=((1:Nat):Int):=Qag (by omega) (by omega)
  repeat' (first|(with_reducible refine Qam ⟨by omega,by omega⟩ ?_)|(with_reducible refine Qad hx hl0 ?_)|(with_reducible refine Qah (fun _=>?_) (fun _=>?_))|((fail_if_success (with_reducible refine stk ?_));simp only [WE,Nat.reduceBEq,ty_3,Qbd,QjJ,ht,h0,e]))
  ·rename_i h; simp only [bne_iff_ne,ne_eq] at h; simp only [h,if_false]
  ·rename_i h
   have h:p=0:=by simpa using h
   exact ⟨1,Qae ⟨⟨rfl,rfl⟩,⟨rfl,rfl⟩,⟨rfl,rfl⟩,⟨rfl,rfl⟩,trivial⟩ trivial rfl,⟨by omega,fun _=>h,by omega⟩,by omega⟩
 ·have hp:=hp (by omega)
  have ht:decide (((1:Nat):Int) < 2)=true:=by decide
  have h0:0+(((1:Nat):Int)).toNat * 1=1:=rfl
  have e:wr .i64 (((1:Nat):Int)+1)=((2:Nat):Int):=Qag (by omega) (by omega)
  repeat' (first|(with_reducible refine Qam ⟨by omega,by omega⟩ ?_)|(with_reducible refine Qad hx hl1 ?_)|(with_reducible refine Qah (fun _=>?_) (fun _=>?_))|((fail_if_success (with_reducible refine stk ?_));simp only [WE,Nat.reduceBEq,ty_3,Qbd,QjJ,ht,h0,e]))
  ·simp only [hp,if_true]
  ·rename_i h
   have h:q=0:=by simpa using h
   exact ⟨2,Qae ⟨⟨rfl,rfl⟩,⟨rfl,rfl⟩,⟨rfl,rfl⟩,⟨rfl,rfl⟩,trivial⟩ trivial rfl,⟨by omega,fun _=>hp,fun _=>h⟩,by omega⟩
 ·have hp:=hp (by omega)
  have hq:=hq (by omega)
  have ht:decide (((2:Nat):Int) < 2)=false:=by decide
  repeat' (first|((fail_if_success (with_reducible refine stk ?_));simp only [WE,Nat.reduceBEq,QjJ,ht]))
  simp only [hp,hq,if_true]
theorem Qlv {x:Nat→Obj→Prop} (g:Bool) (h l:Int):PureC Tryz.prog x 232 [.agg #[.bool g,.int .u64 h,.int .u64 l]] (.agg #[.int .u64 h,.int .u64 l]):=by
 refine Qab Tryz.func232 rfl rfl fun w=>?_
 refine Qaa (by kernel_rfl) ?_
 repeat' (first|((fail_if_success (with_reducible refine stk ?_));simp only [WE,Nat.reduceLeDiff,segX,Nat.reduceBEq,Nat.reduceAdd,Nat.reduceEqDiff,QbW,QfD,Qep,Qdj,QjY,Qb0,QDT]))
theorem QcG {x:Nat→Obj→Prop} (g:Bool) (h l:Int):PureC Tryz.prog x 233 [.agg #[.int .u64 h,.int .u64 l],.bool g] (.agg #[.bool (g && !(h == 0 && l == 0)),.int .u64 h,.int .u64 l]):=by
 refine Qab Tryz.func233 rfl rfl fun w=>?_
 refine Qaa (by kernel_rfl) ?_
 repeat' (first|(with_reducible refine Qah (fun _=>?_) (fun _=>?_))|((with_reducible show cW _ _ (.region 1 _ true) _ _);refine QbI 11 QBb (by kernel_rfl) Qaf (by kernel_rfl) ?_; intro l1 l2 e1 e2; simp only [List.take_succ_cons,List.take_zero,List.drop_succ_cons,List.drop_zero] at e1 e2; subst e1; subst e2)|((fail_if_success (with_reducible refine stk ?_));simp only [WE,Nat.reduceLeDiff,segX,Nat.reduceBEq,Nat.reduceAdd,Nat.reduceEqDiff,QbW,QaS,QfD,Qgn,Qgo,QbC,QxY,QfN,Qb0,QDU]))
 all_goals simp only [*,Bool.true_and,Bool.false_and]
def cmp2 (h l k m:Int):Int:=if cmpI h k=0 then cmpI l m else cmpI h k
theorem Qlw {x:Nat→Obj→Prop} (h l k m:Int):PureC Tryz.prog x 234 [.agg #[.int .u64 h,.int .u64 l],.agg #[.int .u64 k,.int .u64 m]] (.int .i64 (cmp2 h l k m)):=by
 refine Qab Tryz.func234 rfl rfl fun w=>?_
 refine Qaa (by kernel_rfl) ?_
 repeat' (first|(((with_reducible show bldW _ _ _ _ _ _ _);refine Qbq (z:=.int .i64 0) (b:=8) Tryz.underlying28 (by kernel_rfl) rfl (by decide) rfl rfl rfl ?_))|(((with_reducible show callW _ _ _ (some (289,_)) _ _);refine callO Qyt (fun s=>QuS _ _ (.inr ⟨2,_,rfl,rfl,rfl⟩)) ?_))|((with_reducible show callW _ _ _ (some (290,_)) _ _);refine callP Qys rfl (QuR ..) ?_)|((with_reducible show cW _ _ (.region 1 _ true) _ _);refine QfS 10 QBc (by kernel_rfl) Qaf (by kernel_rfl) ?_; intro l1 l2 e1 e2; simp only [List.take_succ_cons,List.take_zero,List.drop_succ_cons,List.drop_zero] at e1 e2; subst e1; subst e2)|((fail_if_success (with_reducible refine stk ?_));simp only [WE,Nat.reduceBEq,Nat.reduceAdd,QbW,Qgn,Qgo,QDV]))
 rfl
theorem Qlu {x:Nat→Obj→Prop} (n:Int) (h0 : -9223372036854775808≤n) (h1:n≤9223372036854775807):PureC Tryz.prog x 236 [.int .i64 n] (.int .u64 n.natAbs):=by
 refine Qab Tryz.func236 rfl rfl fun w=>?_
 refine Qaa (by kernel_rfl) ?_
 repeat' (first|(with_reducible refine Qah (fun _=>?_) (fun _=>?_))|((fail_if_success (with_reducible refine stk ?_));simp only [WE,Nat.reduceBEq,Qh4,QDX]))
 all_goals simp only [decide_eq_true_eq,decide_eq_false_iff_not] at *
 all_goals refine congrArg (Value.int .u64) ?_
 all_goals simp only [QcB]
 all_goals omega
theorem QhL {x:Nat→Obj→Prop} (n:Int) (h0 : -9223372036854775808≤n) (h1:n≤9223372036854775807):PureC Tryz.prog x 226 [.int .i64 n] (.agg #[.bool (decide (n < 0)),.int .u64 0,.int .u64 n.natAbs]):=by
 refine Qab Tryz.func226 rfl rfl fun w=>?_
 refine Qaa (by kernel_rfl) ?_
 repeat' (first|((with_reducible show callW _ _ _ (some (233,_)) _ _);refine callP QcO rfl (QcG ..) ?_)|((with_reducible show callW _ _ _ (some (236,_)) _ _);refine callP Qn1 rfl (Qlu _ h0 h1) ?_)|((fail_if_success (with_reducible refine stk ?_));simp only [WE,Nat.reduceLeDiff,segX,Nat.reduceBEq,Nat.reduceAdd,Nat.reduceEqDiff,QaS,QbC,Qb0,QDM]))
 have e:(decide (n < 0) && !((n.natAbs:Int) == 0))=decide (n < 0):=by
  by_cases h:n < 0
  ·have:((n.natAbs:Int) == 0)=false:=by simp; omega
   rw [this]; simp
  ·simp [h]
 rw [e]
def ovr (Y:Int):Bool:=decide (340282366920938463463374607431768211456≤Y)
def bG (g:Bool) (Y:Int):Bool:=bif ovr Y then false else g && !(Y == 0)
def bH (Y:Int):Int:=bif ovr Y then 0 else Y / 18446744073709551616
def bL (Y:Int):Int:=bif ovr Y then 0 else Y % 18446744073709551616
def bE (Y:Int):Int:=bif ovr Y then 10 else 0
theorem QfV {x:Nat→Obj→Prop} (g:Bool) (h l n:Int) (hh:0≤h) (hh1:h < 18446744073709551616) (hl:0≤l) (hl1:l < 18446744073709551616) (hn:0≤n) (hn1:n < 18446744073709551616) :
  PureC Tryz.prog x 228 [.agg #[.bool g,.int .u64 h,.int .u64 l],.int .u64 n]
   (.tuple #[.agg #[.bool (bG g ((h * 18446744073709551616+l) * n)),.int .u64 (bH ((h * 18446744073709551616+l) * n)),.int .u64 (bL ((h * 18446744073709551616+l) * n))],.int .i64 (bE ((h * 18446744073709551616+l) * n))]):=by
 have pA:0≤h * n:=Int.mul_nonneg hh hn
 have pB:0≤l * n:=Int.mul_nonneg hl hn
 have eY:(h * 18446744073709551616+l) * n=h * n * 18446744073709551616+l * n:=by rw [Int.add_mul,Int.mul_right_comm]
 rw [eY]
 refine Qab Tryz.func228 rfl rfl fun w=>?_
 refine Qaa (by kernel_rfl) ?_
 repeat' (first|(with_reducible refine Qah (fun _=>?_) (fun _=>?_))|((with_reducible show callW _ _ _ (some (233,_)) _ _);refine callP QcO rfl (QcG ..) ?_)|((with_reducible show callW _ _ _ (some (235,_)) _ _);refine callP Qos rfl (QlY _ _ (by assumption) (by assumption) (by assumption) (by assumption)) ?_)|((with_reducible show callW _ _ _ (some (284,_)) _ _);refine callN rfl (QhV _ _ _ (by omega) (by omega) (by decide) (by decide)) ?_)|((fail_if_success (with_reducible refine stk ?_));simp only [WE,Nat.reduceLeDiff,segX,Nat.reduceBEq,Nat.reduceAdd,Nat.reduceEqDiff,ty_4,QbW,QaS,Qck,Qep,Qdj,QbC,QfN,Qb0,QDO]))
 all_goals simp only [decide_eq_true_eq,decide_eq_false_iff_not] at *
 all_goals unfold bG bH bL bE ovr
 all_goals generalize h * n=A at *
 all_goals generalize l * n=B at *
 ·rw [decide_eq_true (by omega)]; rfl
 ·rw [decide_eq_true (by omega)]; rfl
 ·rw [decide_eq_false (by omega)]
  simp only [cond_false]
  have e1:(A % 18446744073709551616+B / 18446744073709551616+0) % 18446744073709551616=(A * 18446744073709551616+B) / 18446744073709551616:=by omega
  have e2:B % 18446744073709551616=(A * 18446744073709551616+B) % 18446744073709551616:=by omega
  have e3:((A * 18446744073709551616+B) / 18446744073709551616 == 0 && (A * 18446744073709551616+B) % 18446744073709551616 == 0)=(A * 18446744073709551616+B == 0):=by
   rw [Bool.eq_iff_iff]; simp only [Bool.and_eq_true,beq_iff_eq]; omega
  rw [e1,e2,e3]
def sv (g:Bool) (h l:Int):Int:=bif g then -(h * 18446744073709551616+l) else h * 18446744073709551616+l
theorem QfU {x:Nat→Obj→Prop} (g g':Bool) (h l h' l':Int) (hh:0≤h) (hh1:h < 18446744073709551616) (hl:0≤l) (hl1:l < 18446744073709551616) (kh:0≤h') (kh1:h' < 18446744073709551616) (kl:0≤l') (kl1:l' < 18446744073709551616) :
  PureC Tryz.prog x 185 [.agg #[.bool g,.int .u64 h,.int .u64 l],.agg #[.bool g',.int .u64 h',.int .u64 l']] (.int .i64 (cmpI (sv g h l) (sv g' h' l'))):=by
 refine Qab Tryz.func185 rfl rfl fun w=>?_
 refine Qaa (by kernel_rfl) ?_
 repeat' (first|(with_reducible refine Qah (fun _=>?_) (fun _=>?_))|((with_reducible show callW _ _ _ (some (232,_)) _ _);refine callP Qn2 rfl (Qlv ..) ?_)|((with_reducible show callW _ _ _ (some (233,_)) _ _);refine callP QcO rfl (QcG ..) ?_)|((with_reducible show callW _ _ _ (some (234,_)) _ _);refine callP Qn3 rfl (Qlw ..) ?_)|((with_reducible show cW _ _ (.region 1 _ true) _ _);refine QbI 10 QA0 (by kernel_rfl) Qaf (by kernel_rfl) ?_; intro l1 l2 e1 e2; simp only [List.take_succ_cons,List.take_zero,List.drop_succ_cons,List.drop_zero] at e1 e2; subst e1; subst e2)|((with_reducible show cW _ _ (.region 9 _ true) _ _);refine Qas QA2 (by kernel_rfl) Qaf (by kernel_rfl) ?_)|((with_reducible show cW _ _ (.region 10 _ true) _ _);refine Qas QA1 (by kernel_rfl) Qaf (by kernel_rfl) ?_)|((fail_if_success (with_reducible refine stk ?_));simp only [WE,segX,Nat.reduceBEq,Nat.reduceAdd,Nat.reduceEqDiff,Int.reduceNeg,ty_4,QaS,Qck,QnA,Tryz.underlying4,QDu]))
 all_goals refine congrArg (Value.int .i64) ?_
 all_goals generalize hz:(h == 0 && l == 0)=z at *
 all_goals generalize hz':(h' == 0 && l' == 0)=z' at *
 all_goals generalize he:(h == h' && l == l')=e at *
 all_goals cases g <;> cases g' <;> cases z <;> cases z' <;> cases e
 all_goals first | contradiction | skip
 all_goals simp only [Bool.and_eq_true,Bool.and_eq_false_iff,beq_iff_eq,beq_eq_false_iff_ne,ne_eq] at hz hz' he
 all_goals (unfold sv; try unfold cmp2)
 all_goals simp only [cond_true,cond_false,cmpI]
 all_goals first | omega | skip
 all_goals trace_state
set_option linter.unusedVariables false
set_option linter.unusedSimpArgs false
open Go Go.RowKit Go.Proofs.YtkokohkbhlnjkaaGreatDoor.R
set_option maxRecDepth 50000
set_option maxHeartbeats 1000000
theorem QlZ (a b c:Int) (ha:0≤a) (hb:0≤b) (hb1:b < 18446744073709551616) (hc:0≤c) (hc1:c≤1):ExtC Tryz.prog 309 [.int .u64 a,.int .u64 b,.int .u64 c]
  (.tuple #[.int .u64 ((a - b - c) % 18446744073709551616),.int .u64 (if a < b+c then 1 else 0)]):=by
 obtain ⟨x,rfl⟩:=Int.eq_ofNat_of_zero_le ha
 obtain ⟨y,rfl⟩:=Int.eq_ofNat_of_zero_le hb
 obtain ⟨z,rfl⟩:=Int.eq_ofNat_of_zero_le hc
 have h:ExtC Tryz.prog 309 [.int .u64 (x:Int),.int .u64 (y:Int),.int .u64 (z:Int)] _:=Qnk Tryz.func309 (by kernel_rfl) (by kernel_rfl) (by kernel_rfl) (e:=sub64Entry) (by kernel_rfl) fun w=>⟨run_sub64 x y z (by omega) w,fun ev=>by
  have:z=0∨z=1:=by omega
  rcases this with rfl | rfl <;> rfl⟩
 have e1:(((x+18446744073709551616 - y - z) % 18446744073709551616:Nat):Int)=((x:Int) - y - z) % 18446744073709551616:=by omega
 have e2:((if x < y+z then 1 else 0:Nat):Int)=if (x:Int) < y+z then 1 else 0:=by
  by_cases h:x < y+z
  ·rw [if_pos h,if_pos (by omega)]; rfl
  ·rw [if_neg h,if_neg (by omega)]; rfl
 rw [e1,e2] at h
 exact h
theorem Qlx {x:Nat→Obj→Prop} (h l k m:Int) (hh:0≤h) (hh1:h < 18446744073709551616) (hl:0≤l) (hl1:l < 18446744073709551616) (kh:0≤k) (kh1:k < 18446744073709551616) (kl:0≤m) (kl1:m < 18446744073709551616)
  (hle:k * 18446744073709551616+m≤h * 18446744073709551616+l) :
  PureC Tryz.prog x 283 [.agg #[.int .u64 h,.int .u64 l],.agg #[.int .u64 k,.int .u64 m]]
   (.agg #[.int .u64 ((h * 18446744073709551616+l - (k * 18446744073709551616+m)) / 18446744073709551616),.int .u64 ((h * 18446744073709551616+l - (k * 18446744073709551616+m)) % 18446744073709551616)]):=by
 have hc:0≤(if l < m+0 then (1:Int) else 0)∧(if l < m+0 then (1:Int) else 0)≤1:=by split <;> omega
 refine Qab Tryz.func283 rfl rfl fun w=>?_
 refine Qaa (by kernel_rfl) ?_
 repeat' (first|((with_reducible show callW _ _ _ (some (309,_)) _ _);refine callN rfl (QlZ l m 0 hl kl kl1 (by decide) (by decide)) ?_)|((with_reducible show callW _ _ _ (some (309,_)) _ _);refine callN rfl (QlZ h k _ hh kh kh1 hc.1 hc.2) ?_)|((fail_if_success (with_reducible refine stk ?_));simp only [WE,Nat.reduceLeDiff,segX,Nat.reduceBEq,Nat.reduceAdd,Nat.reduceEqDiff,QbW,QfD,Qgn,Qgo,QjY,Qb0,QEb]))
 have e1:(h - k - if l < m+0 then 1 else 0) % 18446744073709551616=(h * 18446744073709551616+l - (k * 18446744073709551616+m)) / 18446744073709551616:=by split <;> omega
 have e2:(l - m - 0) % 18446744073709551616=(h * 18446744073709551616+l - (k * 18446744073709551616+m)) % 18446744073709551616:=by omega
 rw [e1,e2]
theorem QAB:lxP Tryz.f225 1 (.q 0 (.q 1 (.q 2 (.q 3 (.alt 4 (.alt 5 (.alt 6 (.alt 7 .fin .fin) .fin) .fin) (.alt 5 (.alt 4 (.alt 6 (.alt 7 .fin .fin) .fin) .fin) .fin))))))=true:=by kernel_rfl
def aG (Z:Int):Bool:=bif ovr Z.natAbs then false else decide (Z < 0)
theorem Qwx {h l k m:Int} (hl:0≤l) (hl1:l < 18446744073709551616) (kl:0≤m) (kl1:m < 18446744073709551616):decide (cmp2 h l k m < 0)=decide (h * 18446744073709551616+l < k * 18446744073709551616+m):=by
 refine decide_eq_decide.2 ?_
 unfold cmp2 cmpI
 by_cases h1:h < k
 ·rw [if_pos h1,if_neg (by omega)]; omega
 ·by_cases h2:k < h
  ·rw [if_neg h1,if_pos h2,if_neg (by omega)]; omega
  ·rw [if_neg h1,if_neg h2,if_pos rfl]
   by_cases h3:l < m
   ·rw [if_pos h3]; omega
   ·by_cases h4:m < l
    ·rw [if_neg h3,if_pos h4]; omega
    ·rw [if_neg h3,if_neg h4]; omega
theorem Qhz {Z D:Int} {q:Bool} (hD:(Z.natAbs:Int)=D) (h1:D < 340282366920938463463374607431768211456) (hq':D≠0→(q=true↔Z < 0)) :
  Value.tuple #[.agg #[.bool (q && !(D / 18446744073709551616 == 0 && D % 18446744073709551616 == 0)),.int .u64 (D / 18446744073709551616),.int .u64 (D % 18446744073709551616)],.int .i64 0] =
  .tuple #[.agg #[.bool (aG Z),.int .u64 (bH Z.natAbs),.int .u64 (bL Z.natAbs)],.int .i64 (bE Z.natAbs)]:=by
 have hq:D≠0→q=decide (Z < 0):=fun h=>by rw [Bool.eq_iff_iff,hq' h,decide_eq_true_eq]
 rw [hD]
 unfold aG bH bL bE
 rw [hD,show ovr D=false by unfold ovr; exact decide_eq_false (by omega)]
 simp only [cond_false]
 by_cases h0:D=0
 ·have:Z=0:=by omega
  subst this; rw [h0]; simp
 ·have e:(D / 18446744073709551616 == 0 && D % 18446744073709551616 == 0)=false:=by
   rw [Bool.and_eq_false_iff]; simp only [beq_eq_false_iff_ne,ne_eq]; omega
  rw [e,hq h0]; simp
theorem QAC {a b:Int} (h:decide (a < b)=true):a≤b:=by simp only [decide_eq_true_eq] at h; omega
theorem QAD {a b:Int} (h:decide (a < b)=false):b≤a:=by simp only [decide_eq_false_iff_not] at h; omega
theorem QuI {x:Nat→Obj→Prop} (g g':Bool) (h l h' l':Int) (hh:0≤h) (hh1:h < 18446744073709551616) (hl:0≤l) (hl1:l < 18446744073709551616) (kh:0≤h') (kh1:h' < 18446744073709551616) (kl:0≤l') (kl1:l' < 18446744073709551616) :
  PureC Tryz.prog x 225 [.agg #[.bool g,.int .u64 h,.int .u64 l],.agg #[.bool g',.int .u64 h',.int .u64 l']]
   (.tuple #[.agg #[.bool (aG (sv g h l+sv g' h' l')),.int .u64 (bH (sv g h l+sv g' h' l').natAbs),.int .u64 (bL (sv g h l+sv g' h' l').natAbs)],.int .i64 (bE (sv g h l+sv g' h' l').natAbs)]):=by
 have hlt:=Qwx (h:=h) (k:=h') hl hl1 kl kl1
 refine Qab Tryz.func225 rfl rfl fun w=>?_
 refine Qaa (by kernel_rfl) ?_
 repeat' (first|((fail_if_success (with_reducible refine stk ?_));simp only [WE,Nat.reduceBEq,Nat.reduceAdd,QbC]))
 refine QuG ⟨[(2,.ptr 0 0),(3,.ptr 1 0),(4,.ptr 2 0),(5,.ext (.int .i64 0)),(6,.ptr 3 0),(7,.ptr 4 0)],[.cells 196 [.ext (.bool g),.ext (.int .u64 h),.ext (.int .u64 l)],.cells 196 [.ext (.bool g'),.ext (.int .u64 h'),.ext (.int .u64 l')],.cells 196 [.ext (.bool false),.ext (.int .u64 0),.ext (.int .u64 0)],.cells 225 [.ext (.int .u64 h),.ext (.int .u64 l)],.cells 225 [.ext (.int .u64 h'),.ext (.int .u64 l')]],x⟩ QAB (by kernel_rfl) Qaf (by kernel_rfl) ?_ ?_
 ·repeat' (first|((with_reducible show callW _ _ _ (some (232,_)) _ _);refine callP Qn2 rfl (Qlv ..) ?_)|((fail_if_success (with_reducible refine stk ?_));simp only [WE,segX,Nat.reduceBEq,Nat.reduceAdd,Nat.reduceEqDiff,QaS,QfD,QjY]))
  refine ⟨QaI [0,1,2,3,4] (fun _ _ h=>h) ⟨⟨rfl,rfl⟩,⟨rfl,rfl⟩,⟨rfl,rfl⟩,⟨rfl,rfl⟩,⟨rfl,rfl⟩,⟨rfl,rfl⟩,trivial⟩ ⟨⟨rfl,rfl⟩,⟨rfl,rfl⟩,⟨rfl,rfl⟩,⟨rfl,rfl⟩,⟨rfl,rfl⟩,trivial⟩ (by decide) (Nat.le_refl _),
   QaI [0,1,2,4,3] (fun _ _ h=>h) ⟨⟨rfl,rfl⟩,⟨rfl,rfl⟩,⟨rfl,rfl⟩,⟨rfl,rfl⟩,⟨rfl,rfl⟩,⟨rfl,rfl⟩,trivial⟩ ⟨⟨rfl,rfl⟩,⟨rfl,rfl⟩,⟨rfl,rfl⟩,⟨rfl,rfl⟩,⟨rfl,rfl⟩,trivial⟩ (by decide) (Nat.le_refl _)⟩
 repeat' (first|(with_reducible refine Qah (fun _=>?_) (fun _=>?_))|((with_reducible show callW _ _ _ (some (233,_)) _ _);refine callP QcO rfl (QcG ..) ?_)|((with_reducible show callW _ _ _ (some (234,_)) _ _);refine callP Qn3 rfl (Qlw ..) ?_)|((with_reducible show callW _ _ _ (some (283,_)) _ _);refine callP Qn4 rfl (Qlx _ _ _ _ (by assumption) (by assumption) (by assumption) (by assumption) (by assumption) (by assumption) (by assumption) (by assumption) (QAC (by assumption))) ?_)|((with_reducible show callW _ _ _ (some (283,_)) _ _);refine callP Qn4 rfl (Qlx _ _ _ _ (by assumption) (by assumption) (by assumption) (by assumption) (by assumption) (by assumption) (by assumption) (by assumption) (QAD (by assumption))) ?_)|((with_reducible show callW _ _ _ (some (284,_)) _ _);refine callN rfl (QhV l l' 0 hl kl (by decide) (by decide)) ?_)|((with_reducible show callW _ _ _ (some (284,_)) _ _);refine callN rfl (QhV h h' _ hh kh (by omega) (by omega)) ?_)|((with_reducible show cW _ _ (.region 4 _ true) _ _);refine QbI 6 QA6 (by kernel_rfl) Qaf (by kernel_rfl) ?_; intro l1 l2 e1 e2; simp only [List.take_succ_cons,List.take_zero,List.drop_succ_cons,List.drop_zero] at e1 e2; subst e1; subst e2)|((with_reducible show cW _ _ (.region 5 _ true) _ _);refine QbI 6 QA7 (by kernel_rfl) Qaf (by kernel_rfl) ?_; intro l1 l2 e1 e2; simp only [List.take_succ_cons,List.take_zero,List.drop_succ_cons,List.drop_zero] at e1 e2; subst e1; subst e2)|((fail_if_success (with_reducible refine stk ?_));simp only [WE,Nat.reduceLeDiff,segX,Nat.reduceBEq,Nat.reduceAdd,Nat.reduceEqDiff,ty_4,QbW,QaS,QfD,Qck,Qgn,Qgo,QfN,Qb0,Tryz.underlying4,QDL,hlt]))
 all_goals simp only [decide_eq_true_eq,decide_eq_false_iff_not] at *
 ·refine Qhz ?_ (by omega) ?_ <;> cases g <;> cases g' <;> first | contradiction | skip
  all_goals simp only [sv,cond_true,cond_false]
  all_goals first | omega | (intro h0; first | (refine iff_of_true (by decide) ?_; omega) | (refine iff_of_false (by decide) ?_; omega))
 ·refine Qhz ?_ (by omega) ?_ <;> cases g <;> cases g' <;> first | contradiction | skip
  all_goals simp only [sv,cond_true,cond_false]
  all_goals first | omega | (intro h0; first | (refine iff_of_true (by decide) ?_; omega) | (refine iff_of_false (by decide) ?_; omega))
 ·have e:ovr ((sv g h l+sv g' h' l').natAbs)=true:=by
   unfold ovr
   refine decide_eq_true ?_
   cases g <;> cases g' <;> first | contradiction | (simp only [sv,cond_true,cond_false]; omega)
  unfold aG bH bL bE
  rw [e]; rfl
 ·have hq:¬ 340282366920938463463374607431768211456≤h * 18446744073709551616+l+(h' * 18446744073709551616+l'):=by omega
  have e1:(h+h'+(l+l'+0) / 18446744073709551616) % 18446744073709551616=(h * 18446744073709551616+l+(h' * 18446744073709551616+l')) / 18446744073709551616:=by omega
  have e2:(l+l'+0) % 18446744073709551616=(h * 18446744073709551616+l+(h' * 18446744073709551616+l')) % 18446744073709551616:=by omega
  rw [e1,e2]
  refine Qhz ?_ (by omega) ?_ <;> cases g <;> cases g' <;> first | contradiction | skip
  all_goals simp only [sv,cond_true,cond_false]
  all_goals first | omega | (intro h0; first | (refine iff_of_true (by decide) ?_; omega) | (refine iff_of_false (by decide) ?_; omega))
def rtN (p:Nat→Nat) (N:Nat):Nat→Nat
 | 0=>0
 | b+1=>if p (b+1)≤N then b+1 else rtN p N b
theorem Qsi {p:Nat→Nat} (hm:∀ a b,a≤b→p a≤p b) (h0:p 0=0) {N:Nat}:∀ {b:Nat},(N < p (b+1))→∀ n,n≤rtN p N b↔p n≤N
 | 0,hb,n=>by
  simp only [rtN]
  constructor
  ·intro h
   have:n=0:=by omega
   subst this; omega
  ·intro h
   rcases Nat.eq_zero_or_pos n with h1 | h1
   ·omega
   ·have:=hm 1 n h1
    simp only [Nat.zero_add] at hb
    omega
 | b+1,hb,n=>by
  simp only [rtN]
  by_cases h:p (b+1)≤N
  ·rw [if_pos h]
   constructor
   ·intro h1
    exact Nat.le_trans (hm _ _ h1) h
   ·intro h1
    rcases Nat.lt_or_ge (b+1) n with h2 | h2
    ·have:=hm (b+1+1) n h2
     omega
    ·exact h2
  ·rw [if_neg h]
   exact Qsi hm h0 (by omega) n
def cuN (n:Nat):Nat:=n * n * n
theorem QwH (a b:Nat) (h:a≤b):cuN a≤cuN b:=Nat.mul_le_mul (Nat.mul_le_mul h h) h
def rt3 (N:Int):Int:=rtN cuN N.toNat 8796093022207
theorem Qsh (N:Int):0≤rt3 N:=Int.natCast_nonneg _
theorem Qsf {N:Int} (h0:0≤N) (h1:N < 340282366920938463463374607431768211456) (n:Int) (hn:0≤n):n≤rt3 N↔n * n * n≤N:=by
 obtain ⟨M,rfl⟩:=Int.eq_ofNat_of_zero_le h0
 obtain ⟨m,rfl⟩:=Int.eq_ofNat_of_zero_le hn
 unfold rt3
 rw [Int.toNat_natCast,←Int.natCast_mul,←Int.natCast_mul,Int.ofNat_le,Int.ofNat_le]
 refine Qsi QwH rfl ?_ m
 have:cuN (8796093022207+1)=680564733841876926926749214863536422912:=by decide
 rw [this]
 omega
theorem QBz {a b c d:Int} (h0:0≤a) (h:a≤b) (h1:0≤c) (h2:c≤d):a * c≤b * d:=
 Int.le_trans (Int.mul_le_mul_of_nonneg_right h h1) (Int.mul_le_mul_of_nonneg_left h2 (Int.le_trans h0 h))
theorem QFJ {a b:Int} (h0:0≤a) (h:a≤b):a * a≤b * b:=QBz h0 h h0 h
theorem QwI (a:Int) (h:0≤a):0≤a * a * a:=Int.mul_nonneg (Int.mul_nonneg h h) h
theorem Qsg {N:Int} {b:Int} (h0:0≤N) (h1:N < 340282366920938463463374607431768211456) (hb:0≤b) (h:N < b * b * b):rt3 N < b:=by
 have:=Qsf h0 h1 b hb
 omega
theorem QeE {Y:Int} (h:Y < 340282366920938463463374607431768211456):ovr Y=false:=by unfold ovr; exact decide_eq_false (by omega)
theorem Qkz (Y:Int):bG false Y=false:=by unfold bG; cases ovr Y <;> rfl
theorem QsE {n:Int} (h0:0≤n) (h1:n < 18446744073709551616):0≤n * n∧n * n < 340282366920938463463374607431768211456:=by
 have:=QFJ (b:=18446744073709551615) h0 (by omega)
 exact ⟨Int.mul_nonneg h0 h0,by omega⟩
theorem QvY {x:Nat→Obj→Prop} (n:Int) (h0:0≤n) (h1:n < 18446744073709551616) :
  PureC Tryz.prog x 311 [.int .u64 n] (.agg #[.bool false,.int .u64 (n * n / 18446744073709551616),.int .u64 (n * n % 18446744073709551616)]):=by
 have hs:=QsE h0 h1
 have e1:bH ((0 * 18446744073709551616+n) * n)=n * n / 18446744073709551616:=by rw [Int.zero_mul,Int.zero_add]; unfold bH; rw [QeE hs.2]; rfl
 have e2:bL ((0 * 18446744073709551616+n) * n)=n * n % 18446744073709551616:=by rw [Int.zero_mul,Int.zero_add]; unfold bL; rw [QeE hs.2]; rfl
 refine Qab Tryz.func311 rfl rfl fun w=>?_
 refine Qaa (by kernel_rfl) ?_
 repeat' (first|((with_reducible show callW _ _ _ (some (228,_)) _ _);refine callP Qfb rfl (QfV false 0 n n (by omega) (by omega) h0 h1 h0 h1) ?_)|((fail_if_success (with_reducible refine stk ?_));simp only [WE,Nat.reduceLeDiff,segX,Nat.reduceBEq,Nat.reduceAdd,Nat.reduceEqDiff,QaS,QbC,QfN,QEn]))
 rw [Qkz,e1,e2]
theorem Ql1 {x:Nat→Obj→Prop} (n:Int) (h0:0≤n) (h1:n < 18446744073709551616) :
  PureC Tryz.prog x 288 [.int .u64 n] (.tuple #[.agg #[.bool false,.int .u64 (bH (n * n * n)),.int .u64 (bL (n * n * n))],.int .i64 (bE (n * n * n))]):=by
 have hs:=QsE h0 h1
 have e:n * n / 18446744073709551616 * 18446744073709551616+n * n % 18446744073709551616=n * n:=by omega
 refine Qab Tryz.func288 rfl rfl fun w=>?_
 refine Qaa (by kernel_rfl) ?_
 repeat' (first|((with_reducible show callW _ _ _ (some (228,_)) _ _);refine callP Qfb rfl (QfV false _ _ n (by omega) (by omega) (by omega) (by omega) h0 h1) ?_)|((with_reducible show callW _ _ _ (some (311,_)) _ _);refine callP Qzj rfl (QvY n h0 h1) ?_)|((fail_if_success (with_reducible refine stk ?_));simp only [WE,segX,Nat.reduceBEq,Nat.reduceAdd,Nat.reduceEqDiff,QaS,QbC,QEf]))
 rw [Qkz,e]
theorem QhG {n k:Nat} (h:n < 2 ^ k):bitLen n≤k:=by
 rcases Nat.lt_or_ge k (bitLen n) with h1 | h1
 ·have h2:=(bitLen_spec n).2 (by intro h3; subst h3; simp [bitLen] at h1)
  have:=Nat.pow_le_pow_right (n:=2) (by decide) (show k≤bitLen n - 1 by omega)
  omega
 ·exact h1
theorem Qv2 {x:Nat→Obj→Prop} (g:Bool) (h l:Int) (hh:0≤h) (hh1:h < 18446744073709551616) (hl:0≤l) (hl1:l < 18446744073709551616) :
  PureC Tryz.prog x 285 [.agg #[.bool g,.int .u64 h,.int .u64 l]] (.int .i64 (bitLen (h * 18446744073709551616+l).toNat:Nat)):=by
 refine Qab Tryz.func285 rfl rfl fun w=>?_
 refine Qaa (by kernel_rfl) ?_
 repeat' (first|(with_reducible refine Qah (fun _=>?_) (fun _=>?_))|((with_reducible show callW _ _ _ (some (310,_)) _ _);refine callP Qor rfl (QlX _ (by assumption) (by assumption)) ?_)|((fail_if_success (with_reducible refine stk ?_));simp only [WE,Nat.reduceBEq,QbW,Qep,Qdj,QEc]))
 all_goals refine congrArg (Value.int .i64) ?_
 all_goals simp only [decide_eq_true_eq,decide_eq_false_iff_not] at *
 ·have hb:bitLen h.toNat≤64:=QhG (k:=64) (by omega)
  rw [Qag (by omega) (by omega),QgW (a:=h * 18446744073709551616+l) (d:=18446744073709551616) (k:=64) (by omega) (by decide) (by omega)]
  have:(h * 18446744073709551616+l) / ((18446744073709551616:Nat):Int)=h:=by omega
  rw [this]
  omega
 ·have:h=0:=by omega
  subst this
  rw [Int.zero_mul,Int.zero_add]
theorem Qv1 {x:Nat→Obj→Prop} (m:Nat) (f:FuncId) (p:Value) (v:Int) (hm:m≤64) (h0:0≤v) (h1:v < 2 ^ m) (hg:goes Tryz.prog f)
  (hR:∀ n,0≤n→n < 18446744073709551616→PureC Tryz.prog x f [.int .u64 n,p] (.bool (decide (n≤v)))) :
  PureC Tryz.prog x 286 [.int .i64 (m:Int),.func (.func f) #[] #[p]] (.int .u64 v):=by
 have hp:(2:Int) ^ m≤18446744073709551616:=by
  have:=Nat.pow_le_pow_right (n:=2) (by decide) hm
  have e:((2 ^ m:Nat):Int)=(2:Int) ^ m:=by simp
  omega
 have hp1:(1:Int)≤2 ^ m:=by have:=Int.pow_pos (n:=2) (m:=m) (by decide); omega
 have hbm:(0:Int)≤(m:Int):=Int.natCast_nonneg m
 have e1:wr .u64 (1 * 2 ^ m)=2 ^ m % 18446744073709551616:=by rw [QcB,Int.one_mul]
 have e2:wr .u64 ((2:Int) ^ m % 18446744073709551616 - 1)=2 ^ m - 1:=by rw [QcB]; generalize (2:Int) ^ m=M at *; omega
 refine Qab Tryz.func286 rfl rfl fun w=>?_
 refine Qaa (by kernel_rfl) ?_
 repeat' (first|((with_reducible show cW _ _ (.region 1 _ true) _ _);refine Qas QBh (by kernel_rfl) Qaf (by kernel_rfl) ?_)|((fail_if_success (with_reducible refine stk ?_));simp only [WE,Nat.reduceBEq,Nat.reduceAdd,hbm,Int.toNat_natCast,hm,e1,e2]))
 refine Qa3 (α:=Nat×Int×Int) (fun q=>⟨[(1,.ext (.func (.func f) #[] #[p])),(4,.ext (.int .u64 0)),(5,.ext (.int .u64 q.2.1)),(6,.ext (.int .u64 q.2.2)),(11,.ext (.int .i64 (m:Int))),(12,.ext (.int .i64 (q.1:Int)))],[],x⟩)
  (fun q=>q.1≤m∧0≤q.2.1∧q.2.1≤v∧v≤q.2.2∧q.2.2 < 18446744073709551616∧q.2.2 - q.2.1+1≤2 ^ (m - q.1)) (fun q=>m - q.1)
  ⟨(0,0,2 ^ m - 1),Qae ⟨⟨rfl,rfl⟩,⟨rfl,rfl⟩,⟨rfl,rfl⟩,⟨rfl,rfl⟩,⟨rfl,rfl⟩,⟨rfl,rfl⟩,trivial⟩ trivial rfl,by simp,Int.le_refl 0,h0,by simp only; omega,by simp only; omega,by simp⟩ (by kernel_rfl) ?_
 rintro ⟨k,lo,hi⟩ ⟨hk,hl,hlv,hvh,hh,hw⟩
 simp only at hk hl hlv hvh hh hw
 have e3:wr .u64 (hi - lo)=hi - lo:=Qar (by omega) (by omega)
 have e4:wr .u64 ((hi - lo).tdiv 2)=(hi - lo) / 2:=by rw [Int.tdiv_eq_ediv_of_nonneg (by omega)]; exact Qar (by omega) (by omega)
 have e5:wr .u64 (hi - (hi - lo) / 2)=hi - (hi - lo) / 2:=Qar (by omega) (by omega)
 have e7:wr .i64 ((k:Int)+1)=((k+1:Nat):Int):=Qag (by omega) (by omega)
 repeat' (first|(((with_reducible show callW _ _ _ (some (f,_)) _ _);refine callP hg rfl (hR _ (by omega) (by omega)) ?_))|(with_reducible refine Qah (fun _=>?_) (fun _=>?_))|((fail_if_success (with_reducible refine stk ?_));simp only [WE,Nat.reduceBEq,Nat.reduceEqDiff,Int.reduceEq,QEd,e3,e4,e5,e7]))
 all_goals simp only [decide_eq_true_eq,decide_eq_false_iff_not,beq_iff_eq,beq_eq_false_iff_ne,ne_eq] at *
 ·refine congrArg (Value.int .u64) (by omega)
 ·have e:(2:Int) ^ (m - k)=2 ^ (m - (k+1)) * 2:=by rw [show m - k=m - (k+1)+1 by omega,Int.pow_succ]
  exact ⟨(k+1,hi - (hi - lo) / 2,hi),Qae ⟨⟨rfl,rfl⟩,⟨rfl,rfl⟩,⟨rfl,rfl⟩,⟨rfl,rfl⟩,⟨rfl,rfl⟩,⟨rfl,rfl⟩,trivial⟩ trivial rfl,⟨by simp only; omega,by simp only; omega,by simp only; omega,by simp only; omega,by simp only; omega,by simp only; omega⟩,by simp only; omega⟩
 ·have e:(2:Int) ^ (m - k)=2 ^ (m - (k+1)) * 2:=by rw [show m - k=m - (k+1)+1 by omega,Int.pow_succ]
  have e6:wr .u64 (hi - (hi - lo) / 2 - 1)=hi - (hi - lo) / 2 - 1:=Qar (by omega) (by omega)
  rw [e6]
  exact ⟨(k+1,lo,hi - (hi - lo) / 2 - 1),Qae ⟨⟨rfl,rfl⟩,⟨rfl,rfl⟩,⟨rfl,rfl⟩,⟨rfl,rfl⟩,⟨rfl,rfl⟩,⟨rfl,rfl⟩,trivial⟩ trivial rfl,⟨by simp only; omega,by simp only; omega,by simp only; omega,by simp only; omega,by simp only; omega,by simp only; omega⟩,by simp only; omega⟩
 ·have:k=m:=by omega
  subst this
  rw [Nat.sub_self] at hw
  refine congrArg (Value.int .u64) (by omega)
theorem QsG (h l:Int):sv false h l=h * 18446744073709551616+l:=rfl
theorem Qwy {a b:Int}:decide (cmpI a b≤0)=decide (a≤b):=by
 refine decide_eq_decide.2 ?_
 unfold cmpI
 by_cases h:a < b
 ·rw [if_pos h]; omega
 ·by_cases h2:b < a
  ·rw [if_neg h,if_pos h2]; omega
  ·rw [if_neg h,if_neg h2]; omega
theorem Qt7 {Y:Int}:(bE Y == 0)=decide (Y < 340282366920938463463374607431768211456):=by
 unfold bE ovr
 by_cases h:340282366920938463463374607431768211456≤Y
 ·rw [decide_eq_true h,decide_eq_false (by omega)]; rfl
 ·rw [decide_eq_false h,decide_eq_true (by omega)]; rfl
theorem bHL {Y:Int} (h:Y < 340282366920938463463374607431768211456):bH Y * 18446744073709551616+bL Y=Y:=by
 unfold bH bL; rw [QeE h]; simp only [cond_false]; omega
theorem QkA {Y:Int} (h0:0≤Y):(0≤bH Y∧bH Y < 18446744073709551616)∧0≤bL Y∧bL Y < 18446744073709551616:=by
 unfold bH bL ovr
 by_cases hY:340282366920938463463374607431768211456≤Y
 ·simp [hY]
 ·rw [decide_eq_false hY]; simp only [cond_false]; omega
theorem Qv0 {x:Nat→Obj→Prop} {b T:Nat} {fr:Nat×Nat} (n h l:Int) (h0:0≤n) (h1:n < 18446744073709551616) (hh:0≤h) (hh1:h < 18446744073709551616) (hl:0≤l) (hl1:l < 18446744073709551616)
  (hx:x b (.cells #[.bool false,.int .u64 h,.int .u64 l] T fr)) :
  PureC Tryz.prog x 287 [.int .u64 n,.pointer (some ⟨b,0,none⟩)] (.bool (decide (n≤rt3 (h * 18446744073709551616+l)))):=by
 have hc:loadX true 3 0 #[.bool false,.int .u64 h,.int .u64 l]=some (.agg #[.bool false,.int .u64 h,.int .u64 l]):=rfl
 have hb:=QkA (QwI n h0)
 refine Qab Tryz.func287 rfl rfl fun w=>?_
 refine Qaa (by kernel_rfl) ?_
 repeat' (first|(with_reducible refine Qad hx hc ?_)|(with_reducible refine Qah (fun _=>?_) (fun _=>?_))|((with_reducible show callW _ _ _ (some (185,_)) _ _);refine callP Qgu rfl (QfU _ _ _ _ _ _ hb.1.1 hb.1.2 hb.2.1 hb.2.2 hh hh1 hl hl1) ?_)|((with_reducible show callW _ _ _ (some (288,_)) _ _);refine callP Qou rfl (Ql1 n h0 h1) ?_)|((fail_if_success (with_reducible refine stk ?_));simp only [WE,segX,Nat.reduceBEq,Nat.reduceAdd,Nat.reduceEqDiff,QaS,QbC,QEe]))
 all_goals rename_i hE
 all_goals rw [Qt7] at hE
 all_goals simp only [decide_eq_true_eq,decide_eq_false_iff_not] at hE
 all_goals refine congrArg Value.bool ?_
 all_goals have hq:=Qsf (N:=h * 18446744073709551616+l) (by omega) (by omega) n h0
 ·rw [Qwy,QsG,QsG,bHL hE]
  exact decide_eq_decide.2 hq.symm
 ·rw [eq_comm,decide_eq_false_iff_not,hq]; omega
theorem QEV {N:Int} (h0:0≤N) (h1:N < 340282366920938463463374607431768211456) {k:Nat} (hk:bitLen N.toNat≤3 * k):rt3 N < 2 ^ k:=by
 refine Qsg h0 h1 (Int.le_of_lt (Int.pow_pos (by decide))) ?_
 have a:=(bitLen_spec N.toNat).1
 have b:=Nat.pow_le_pow_right (n:=2) (by decide) hk
 have e:(2:Int) ^ k * 2 ^ k * 2 ^ k=((2 ^ (3 * k):Nat):Int):=by
  rw [←Int.pow_add,←Int.pow_add,show k+k+k=3 * k by omega]; simp
 rw [e]; omega
theorem QvZ {x:Nat→Obj→Prop} (g:Bool) (h l:Int) (hh:0≤h) (hh1:h < 18446744073709551616) (hl:0≤l) (hl1:l < 18446744073709551616) :
  PureC Tryz.prog x 229 [.agg #[.bool g,.int .u64 h,.int .u64 l]] (.int .u64 (rt3 (h * 18446744073709551616+l))):=by
 have hL:bitLen (h * 18446744073709551616+l).toNat≤128:=QhG (by omega)
 have hb:=QEV (N:=h * 18446744073709551616+l) (by omega) (by omega) (k:=(bitLen (h * 18446744073709551616+l).toNat+2) / 3) (by omega)
 have e1:wr .i64 (((bitLen (h * 18446744073709551616+l).toNat:Nat):Int)+2)=((bitLen (h * 18446744073709551616+l).toNat:Nat):Int)+2:=Qag (by omega) (by omega)
 have e2:wr .i64 ((((bitLen (h * 18446744073709551616+l).toNat:Nat):Int)+2).tdiv 3)=(((bitLen (h * 18446744073709551616+l).toNat+2) / 3:Nat):Int):=by
  rw [Int.tdiv_eq_ediv_of_nonneg (by omega),Qag (by omega) (by omega)]; omega
 refine Qab Tryz.func229 rfl rfl fun w=>?_
 refine Qaa (by kernel_rfl) ?_
 repeat' (first|(((with_reducible show callW _ _ _ (some (286,_)) _ _);refine callO Qzl (fun s=>Qv1 _ _ _ (rt3 (h * 18446744073709551616+l)) (by omega) (Qsh _) hb (Qac Tryz.func287 rfl rfl) fun n hn hn1=>Qv0 n h l hn hn1 hh hh1 hl hl1 (.inr ⟨0,_,rfl,rfl,rfl⟩)) ?_))|((with_reducible show callW _ _ _ (some (285,_)) _ _);refine callP Qzm rfl (Qv2 false _ _ hh hh1 hl hl1) ?_)|((fail_if_success (with_reducible refine stk ?_));simp only [WE,segX,Nat.reduceBEq,Nat.reduceEqDiff,Int.reduceEq,ty_4,QaS,Qck,QDP,e1,e2]))
structure DI (u d y1 y0 q r:Int):Prop where
 er:r=u - q * y1
 lt:u * 4294967296+d < (q+1) * (y1 * 4294967296+y0)
 q0:0≤q
 q1:q≤4294967297
 r0:0≤r
 r1:r < 4294967296
structure DY (u d y1 y0:Int):Prop where
 u0:0≤u
 u1:u < y1 * 4294967296+y0
 d0:0≤d
 d1:d < 4294967296
 a1:2147483648≤y1
 a2:y1 < 4294967296
 b1:0≤y0
 b2:y0 < 4294967296
theorem DI.start {u d y1 y0:Int} (h:DY u d y1 y0):DI u d y1 y0 (u / y1) (u - u / y1 * y1):=by
 obtain ⟨h1,h2,h3,h4,h5,h6,h7,h8⟩:=h
 have e:=Int.mul_ediv_add_emod u y1
 have e1:=Int.emod_nonneg u (show y1≠0 by omega)
 have e2:=Int.emod_lt_of_pos u (show 0 < y1 by omega)
 have hq0:0≤u / y1:=Int.ediv_nonneg h1 (by omega)
 rw [Int.mul_comm] at e
 refine ⟨rfl,?_,hq0,?_,by omega,by omega⟩
 ·have:(u / y1+1) * (y1 * 4294967296+y0)=(u / y1 * y1) * 4294967296+y1 * 4294967296+(u / y1+1) * y0:=by
   rw [Int.mul_add,Int.add_mul,←Int.mul_assoc,Int.one_mul]
  rw [this]
  have:0≤(u / y1+1) * y0:=Int.mul_nonneg (by omega) h7
  omega
 ·have h9:u < 4294967298 * y1:=by omega
  have:=Int.ediv_lt_of_lt_mul (show 0 < y1 by omega) h9
  omega
theorem DI.prod {u d y1 y0 q r:Int} (h:DI u d y1 y0 q r):q * (y1 * 4294967296+y0)=(u - r) * 4294967296+q * y0:=by
 have:=h.er
 rw [Int.mul_add,←Int.mul_assoc,this]
 generalize q * y1=A
 omega
theorem DI.small {u d y1 y0 q r:Int} (h:DI u d y1 y0 q r) (hy:DY u d y1 y0) (hq:q < 4294967296):0≤q * y0∧q * y0 < 18446744073709551616:=by
 obtain ⟨h1,h2,h3,h4,h5,h6,h7,h8⟩:=hy
 have a:=Int.mul_nonneg h.q0 h7
 have b:q * y0≤4294967295 * 4294967295:=Int.mul_le_mul (by omega) (by omega) h7 (by omega)
 omega
theorem Qga {N y q:Int} (hy:0 < y) (h1:q * y≤N) (h2:N < (q+1) * y):N / y=q:=by
 have a:=(Int.le_ediv_iff_mul_le hy).2 h1
 have b:=Int.ediv_lt_of_lt_mul hy h2
 omega
theorem DI.done {u d y1 y0 q r:Int} (h:DI u d y1 y0 q r) (hy:DY u d y1 y0) (hle:q * y0≤4294967296 * r+d):(u * 4294967296+d) / (y1 * 4294967296+y0)=q:=by
 have hp:=h.prod
 refine Qga (by have:=hy.a1; have:=hy.b1; omega) ?_ h.lt
 rw [hp]
 have:=h.er
 omega
theorem DI.more {u d y1 y0 q r:Int} (h:DI u d y1 y0 q r) (hy:DY u d y1 y0) (hc:4294967296≤q∨4294967296 * r+d < q * y0) :
  u * 4294967296+d < q * (y1 * 4294967296+y0)∧1≤q:=by
 have hp:=h.prod
 obtain ⟨h1,h2,h3,h4,h5,h6,h7,h8⟩:=hy
 rcases hc with hc | hc
 ·have:4294967296 * (y1 * 4294967296+y0)≤q * (y1 * 4294967296+y0):=Int.mul_le_mul_of_nonneg_right hc (by omega)
  exact ⟨by omega,by omega⟩
 ·refine ⟨by rw [hp]; omega,?_⟩
  rcases Int.lt_or_le 0 q with h9 | h9
  ·omega
  ·have:q=0:=by have:=h.q0; omega
   subst this
   have:=h.r0
   rw [Int.zero_mul] at hc
   omega
theorem DI.next {u d y1 y0 q r:Int} (h:DI u d y1 y0 q r) (hy:DY u d y1 y0) (hc:4294967296≤q∨4294967296 * r+d < q * y0) (hr:r+y1 < 4294967296):DI u d y1 y0 (q - 1) (r+y1):=by
 obtain ⟨k1,k2⟩:=h.more hy hc
 have h5:=hy.a1
 have h6:=h.er
 have h7:=h.q1
 have h8:=h.r0
 refine ⟨by rw [Int.sub_mul,Int.one_mul]; omega,by rw [show q - 1+1=q by omega]; exact k1,by omega,by omega,by omega,hr⟩
theorem DI.last {u d y1 y0 q r:Int} (h:DI u d y1 y0 q r) (hy:DY u d y1 y0) (hc:4294967296≤q∨4294967296 * r+d < q * y0) (hr:4294967296≤r+y1):(u * 4294967296+d) / (y1 * 4294967296+y0)=q - 1:=by
 obtain ⟨k1,k2⟩:=h.more hy hc
 have h6:=h.er
 have h7:=h.q1
 obtain ⟨h1,h2,h3,h4,h5,h5',h8,h9⟩:=hy
 refine Qga (by omega) ?_ (by rw [show q - 1+1=q by omega]; exact k1)
 have hb:(q - 1) * y0≤4294967296 * 4294967295:=Int.mul_le_mul (by omega) (by omega) h8 (by omega)
 have:(q - 1) * (y1 * 4294967296+y0)=(q * y1 - y1) * 4294967296+(q - 1) * y0:=by
  rw [Int.mul_add,←Int.mul_assoc,Int.sub_mul q 1 y1,Int.one_mul]
 rw [this]
 generalize q * y1=A at *
 omega
theorem QwO {U y q p u1 u2 d1 d0:Int} (hy:0 < y) (e:U=u1 * 18446744073709551616+d1 * 4294967296+d0) (h1:(u1 * 4294967296+d1) / y=q) (h2:u2=u1 * 4294967296+d1 - q * y) (h3:(u2 * 4294967296+d0) / y=p) :
  U / y=q * 4294967296+p∧U % y=u2 * 4294967296+d0 - p * y:=by
 have e2:=Int.mul_ediv_add_emod (u2 * 4294967296+d0) y
 have e3:=Int.emod_nonneg (u2 * 4294967296+d0) (show y≠0 by omega)
 have e4:=Int.emod_lt_of_pos (u2 * 4294967296+d0) hy
 rw [h3,Int.mul_comm] at e2
 have eU:U=(q * 4294967296+p) * y+(u2 * 4294967296+d0) % y:=by
  rw [Int.add_mul,Int.mul_right_comm]
  generalize q * y=A at *
  generalize p * y=B at *
  omega
 have hq:U / y=q * 4294967296+p:=Qga hy (by omega) (by rw [Int.add_mul (q * 4294967296+p) 1 y]; omega)
 refine ⟨hq,?_⟩
 have e5:=Int.mul_ediv_add_emod U y
 rw [hq,Int.mul_comm] at e5
 omega
theorem QBM {a b k:Nat} (hk:k≤64) (ha:a * 2 ^ k < 18446744073709551616) (hb:b < 2 ^ k):bits .or .u64 ((a * 2 ^ k:Nat):Int) ((b:Nat):Int)=((a * 2 ^ k+b:Nat):Int):=by
 have h64:(18446744073709551616:Nat)=2 ^ 64:=by decide
 have hs:2 ^ 64=2 ^ (64 - k) * 2 ^ k:=by rw [←Nat.pow_add]; congr 1; omega
 have hb2:b < 18446744073709551616:=by
  have:=Nat.pow_le_pow_right (n:=2) (by decide) hk
  omega
 rw [bits_or_u64_nat _ _ ha hb2]
 congr 1
 rw [Nat.mul_comm,←Nat.two_pow_add_eq_or_of_lt hb]
theorem QuD {P:Program} {T:TypeId} {x y:Operand} {k:IntKind} {a b:Int} {K:Value→Prop}:binW P .or T x y (.int k a) (.int k b) K=K (.int k (bits .or k a b)):=by
 have h:pureW P (do eqGuard .or T x y (.int k a) (.int k b); binOp .or T (.int k a) (.int k b)) K=K (.int k (bits .or k a b)):=by
  refine QaD fun w=>?_
  rw [Sem.run_bind,Sem.events_bind,Qbs,Qbt]
  simp only [binOp_or,intBits_or]
  constructor <;> simp
 exact h
theorem QvN {x:Nat→Obj→Prop} (a:Int) (k:Nat) (ha:0≤a) (ha1:a < 18446744073709551616) (hk:bitLen a.toNat+k=64):PureC Tryz.prog x 308 [.int .u64 a] (.int .i64 (k:Int)):=by
 have e:wr .i64 (64 - ((bitLen a.toNat:Nat):Int))=(k:Int):=by rw [Qag (by omega) (by omega)]; omega
 refine Qab Tryz.func308 rfl rfl fun w=>?_
 refine Qaa (by kernel_rfl) ?_
 repeat' (first|((with_reducible show callW _ _ _ (some (310,_)) _ _);refine callP Qor rfl (QlX a ha ha1) ?_)|((fail_if_success (with_reducible refine stk ?_));simp only [WE,Nat.reduceBEq,QEl,e]))
theorem QFA {y:Int} (h0:1≤y) (h1:y < 18446744073709551616):∃ k,bitLen y.toNat+k=64∧k≤63∧9223372036854775808≤y * 2 ^ k∧y * 2 ^ k < 18446744073709551616:=by
 obtain ⟨n,rfl⟩:=Int.eq_ofNat_of_zero_le (show 0≤y by omega)
 have hs:=bitLen_spec n
 have hb:bitLen n≤64:=QhG (k:=64) (by omega)
 have hn:n≠0:=by omega
 have hb1:1≤bitLen n:=by
  rcases Nat.eq_zero_or_pos (bitLen n) with h | h
  ·rw [h] at hs; omega
  ·exact h
 have h2:=hs.2 hn
 rw [Int.toNat_natCast]
 refine ⟨64 - bitLen n,by omega,by omega,?_,?_⟩
 ·have:2 ^ (bitLen n - 1) * 2 ^ (64 - bitLen n)≤n * 2 ^ (64 - bitLen n):=Nat.mul_le_mul_right _ h2
  rw [←Nat.pow_add,show bitLen n - 1+(64 - bitLen n)=63 by omega] at this
  have e:((n * 2 ^ (64 - bitLen n):Nat):Int)=(n:Int) * 2 ^ (64 - bitLen n):=by simp
  have h63:(2 ^ 63:Nat)=9223372036854775808:=by decide
  omega
 ·have:n * 2 ^ (64 - bitLen n) < 2 ^ bitLen n * 2 ^ (64 - bitLen n):=Nat.mul_lt_mul_of_pos_right hs.1 (Nat.two_pow_pos _)
  rw [←Nat.pow_add,show bitLen n+(64 - bitLen n)=64 by omega] at this
  have e:((n * 2 ^ (64 - bitLen n):Nat):Int)=(n:Int) * 2 ^ (64 - bitLen n):=by simp
  have h64:(2 ^ 64:Nat)=18446744073709551616:=by decide
  omega
theorem QFB {a l y Y:Int} {k:Nat} (ha:0≤a) (hl:0≤l) (hl1:l < 18446744073709551616) (hay:a < y) (hk:k≤63) (hY:Y=y * 2 ^ k) (hY1:Y < 18446744073709551616) :
  ∃ U,bits .or .u64 (wr .u64 (a * 2 ^ k)) (l.fdiv (2 ^ (64 - k)))=U∧0≤U∧U < Y∧(a * 18446744073709551616+l) * 2 ^ k=U * 18446744073709551616+wr .u64 (l * 2 ^ k)∧0≤wr .u64 (l * 2 ^ k)∧wr .u64 (l * 2 ^ k) < 18446744073709551616:=by
 obtain ⟨n,rfl⟩:=Int.eq_ofNat_of_zero_le ha
 obtain ⟨m,rfl⟩:=Int.eq_ofNat_of_zero_le hl
 have hp:2 ^ 64=2 ^ (64 - k) * 2 ^ k:=by rw [←Nat.pow_add]; congr 1; omega
 have h64:(2 ^ 64:Nat)=18446744073709551616:=by decide
 have hp0:0 < 2 ^ (64 - k):=Nat.two_pow_pos _
 have hpk:0 < 2 ^ k:=Nat.two_pow_pos _
 obtain ⟨d,hd⟩:∃ d,d=2 ^ (64 - k):=⟨_,rfl⟩
 obtain ⟨e,he⟩:∃ e,e=2 ^ k:=⟨_,rfl⟩
 have ed:(2:Int) ^ (64 - k)=(d:Int):=by rw [hd]; simp
 have ee:(2:Int) ^ k=(e:Int):=by rw [he]; simp
 rw [←hd,←he] at hp
 rw [←hd] at hp0
 rw [←he] at hpk
 rw [ee] at hY
 have hle:(n:Int) * e+e≤Y:=by
  have:((n:Int)+1) * e≤y * e:=Int.mul_le_mul_of_nonneg_right (by omega) (by omega)
  rw [Int.add_mul,Int.one_mul] at this
  omega
 have hne:((n * e:Nat):Int)=(n:Int) * e:=by simp
 have hne1:n * e < 18446744073709551616:=by omega
 have hde:=Nat.div_add_mod m d
 have hdm:=Nat.mod_lt m hp0
 have hq:m / d < e:=Nat.div_lt_of_lt_mul (by rw [←hp,h64]; omega)
 have e1:wr .u64 ((n:Int) * 2 ^ k)=((n * 2 ^ k:Nat):Int):=by
  rw [ee,←he,Qar (by omega) (by omega),hne]
 have e2:((m:Nat):Int).fdiv (2 ^ (64 - k))=((m / d:Nat):Int):=by
  rw [ed,Int.fdiv_eq_ediv_of_nonneg _ (by omega)]; simp
 refine ⟨_,rfl,?_⟩
 rw [e1,e2,QBM (k:=k) (by omega) (by rw [←he]; exact hne1) (by rw [←he]; exact hq),←he]
 have hme:(m:Int) * e=((m / d * (d * e)+m % d * e:Nat):Int):=by
  rw [←Nat.mul_assoc,←Nat.add_mul,Nat.mul_comm (m / d) d,hde]; simp
 have hmd:m % d * e < d * e:=Nat.mul_lt_mul_of_pos_right hdm hpk
 rw [←hp,h64] at hme hmd
 have ew:wr .u64 ((m:Int) * 2 ^ k)=((m % d * e:Nat):Int):=by
  rw [ee,hme,QcB]
  omega
 rw [ew]
 refine ⟨by omega,by omega,?_,by omega,by omega⟩
 rw [ee,Int.add_mul,hme,Int.mul_right_comm,←hne]
 omega
theorem QhW {x:Nat→Obj→Prop} (a l y:Int) (ha:0≤a) (hl:0≤l) (hl1:l < 18446744073709551616) (hay:a < y) (hy1:y < 18446744073709551616) :
  PureC Tryz.prog x 282 [.int .u64 a,.int .u64 l,.int .u64 y] (.tuple #[.int .u64 ((a * 18446744073709551616+l) / y),.int .u64 ((a * 18446744073709551616+l) % y)]):=by
 obtain ⟨k,hk,hk63,hY0,hY1⟩:=QFA (show 1≤y by omega) hy1
 obtain ⟨Y,hY⟩:∃ Y,Y=y * 2 ^ k:=⟨_,rfl⟩
 rw [←hY] at hY0 hY1
 obtain ⟨U,hU,hU0,hU1,hUe,hl0,hl2⟩:=QFB ha hl hl1 hay hk63 hY hY1
 obtain ⟨L,hL⟩:∃ L,wr .u64 (l * 2 ^ k)=L:=⟨_,rfl⟩
 rw [hL] at hUe hl0 hl2
 have f0:y≠0:=by omega
 have f1:(y == 0)=false:=beq_eq_false_iff_ne.2 (by omega)
 have f2:decide (y≤a)=false:=decide_eq_false (by omega)
 have k0:(0:Int)≤(k:Int):=Int.natCast_nonneg k
 have k1:k≤64:=by omega
 have k2:wr .u64 (k:Int)=(k:Int):=Qar (by omega) (by omega)
 have k3:wr .u64 (64 - (k:Int))=((64 - k:Nat):Int):=by rw [Qar (by omega) (by omega)]; omega
 have k4:(0:Int)≤((64 - k:Nat):Int):=Int.natCast_nonneg _
 have k5:64 - k≤64:=by omega
 have e1:wr .u64 (y * 2 ^ k)=Y:=by rw [←hY]; exact Qar (by omega) (by omega)
 have e2:=and_low32 Y (by omega) hY1
 have e3:=and_low32 L hl0 hl2
 by_cases h0:a=0
 ·subst h0
  have g1:wr .u64 (l.tdiv y)=l / y:=by
   rw [Int.tdiv_eq_ediv_of_nonneg hl]
   have:=Int.ediv_nonneg hl (show 0≤y by omega)
   have:=Int.ediv_le_self y hl
   exact Qar (by omega) (by omega)
  have g2:l.tmod y=l % y:=Int.tmod_eq_emod_of_nonneg hl
  refine Qab Tryz.func282 rfl rfl fun w=>?_
  refine Qaa (by kernel_rfl) ?_
  repeat' (first|((with_reducible show cW _ _ (.region 6 _ true) _ _);refine Qas QBg (by kernel_rfl) Qaf (by kernel_rfl) ?_)|((fail_if_success (with_reducible refine stk ?_));simp only [WE,Nat.reduceBEq,Nat.reduceAdd,Qcb,f0,f1,f2,g1,g2]))
  simp only [Int.zero_mul,Int.zero_add]
 have f3:(a == 0)=false:=beq_eq_false_iff_ne.2 h0
 obtain ⟨y1,hy1e⟩:∃ y1,Y / 4294967296=y1:=⟨_,rfl⟩
 obtain ⟨y0,hy0e⟩:∃ y0,Y % 4294967296=y0:=⟨_,rfl⟩
 obtain ⟨d1,hd1e⟩:∃ d1,L / 4294967296=d1:=⟨_,rfl⟩
 obtain ⟨d0,hd0e⟩:∃ d0,L % 4294967296=d0:=⟨_,rfl⟩
 rw [hy0e] at e2
 rw [hd0e] at e3
 have hYe:Y=y1 * 4294967296+y0:=by omega
 have hy:DY U d1 y1 y0:=⟨hU0,by omega,by omega,by omega,by omega,by omega,by omega,by omega⟩
 have y10:y1≠0:=by have:=hy.a1; omega
 obtain ⟨q,hq⟩:∃ q,(U * 4294967296+d1) / Y=q:=⟨_,rfl⟩
 have hYp:0 < Y:=by omega
 have hN1:=Int.mul_ediv_add_emod (U * 4294967296+d1) Y
 have hN2:=Int.emod_nonneg (U * 4294967296+d1) (show Y≠0 by omega)
 have hN3:=Int.emod_lt_of_pos (U * 4294967296+d1) hYp
 rw [hq,Int.mul_comm] at hN1
 obtain ⟨V,hV⟩:∃ V,V=U * 4294967296+d1 - q * Y:=⟨_,rfl⟩
 have hz:DY V d0 y1 y0:=⟨by omega,by omega,by omega,by omega,hy.a1,hy.a2,hy.b1,hy.b2⟩
 obtain ⟨p,hp⟩:∃ p,(V * 4294967296+d0) / Y=p:=⟨_,rfl⟩
 obtain ⟨hQ,hR⟩:=QwO hYp (show (a * 18446744073709551616+l) * 2 ^ k=U * 18446744073709551616+d1 * 4294967296+d0 by omega) hq hV hp
 have hp2:(0:Int) < 2 ^ k:=Int.pow_pos (by decide)
 rw [hY,Int.mul_ediv_mul_of_pos_left _ _ hp2] at hQ
 rw [hY,Int.mul_comm _ (2 ^ k),Int.mul_comm y (2 ^ k),Int.mul_emod_mul_of_pos _ _ hp2,Int.mul_comm (2 ^ k) y,←hY] at hR
 have eV:wr .u64 (wr .u64 (wr .u64 (U * 4294967296)+d1) - wr .u64 (q * Y))=V:=by
  have h1:=hz.u0
  have h2:=hz.u1
  simp only [QcB]
  generalize q * Y=A at *
  omega
 have eq0:wr .u64 (V.tdiv y1)=V / y1:=by
  have h1:=hz.u0
  have h2:=hy.a1
  rw [Int.tdiv_eq_ediv_of_nonneg h1]
  have:=Int.ediv_nonneg h1 (show 0≤y1 by omega)
  have:=Int.ediv_le_self y1 h1
  have:=hz.u1
  exact Qar (by omega) (by omega)
 have er0:wr .u64 (V - wr .u64 (V / y1 * y1))=V - V / y1 * y1:=by
  have h:=(DI.start hz)
  have h1:=h.er
  have h2:=h.r0
  have h3:=h.r1
  have h4:=Int.mul_nonneg h.q0 (show 0≤y1 by have:=hy.a1; omega)
  have h5:=hz.u1
  have h6:=hz.u0
  generalize V / y1 * y1=A at *
  rw [Qar (n:=A) (by omega) (by omega),Qar (by omega) (by omega)]
 have eQ:wr .u64 (wr .u64 (q * 4294967296)+p)=(a * 18446744073709551616+l) / y:=by
  rw [hQ]
  have b1:0≤(a * 18446744073709551616+l) / y:=Int.ediv_nonneg (by omega) (by omega)
  have b2:(a * 18446744073709551616+l) / y < 18446744073709551616:=Int.ediv_lt_of_lt_mul (by omega) (by
   have:(a+1) * 18446744073709551616≤y * 18446744073709551616:=by omega
   omega)
  rw [hQ] at b1 b2
  simp only [QcB]
  omega
 have eR:(wr .u64 (wr .u64 (wr .u64 (V * 4294967296)+d0) - wr .u64 (p * Y))).fdiv (2 ^ k)=(a * 18446744073709551616+l) % y:=by
  have hN4:=Int.mul_ediv_add_emod (V * 4294967296+d0) Y
  have hN5:=Int.emod_nonneg (V * 4294967296+d0) (show Y≠0 by omega)
  have hN6:=Int.emod_lt_of_pos (V * 4294967296+d0) hYp
  rw [hp,Int.mul_comm] at hN4
  have e:wr .u64 (wr .u64 (wr .u64 (V * 4294967296)+d0) - wr .u64 (p * Y))=V * 4294967296+d0 - p * Y:=by
   simp only [QcB]
   generalize p * Y=A at *
   omega
  rw [e,←hR,Int.fdiv_eq_ediv_of_nonneg _ (by omega),Int.mul_ediv_cancel_left _ (by omega)]
 have eq1:wr .u64 (U.tdiv y1)=U / y1:=by
  have h2:=hy.a1
  rw [Int.tdiv_eq_ediv_of_nonneg hU0]
  have:=Int.ediv_nonneg hU0 (show 0≤y1 by omega)
  have:=Int.ediv_le_self y1 hU0
  exact Qar (by omega) (by omega)
 have er1:wr .u64 (U - wr .u64 (U / y1 * y1))=U - U / y1 * y1:=by
  have h:=(DI.start hy)
  have h1:=h.er
  have h2:=h.r0
  have h3:=h.r1
  have h4:=Int.mul_nonneg h.q0 (show 0≤y1 by have:=hy.a1; omega)
  generalize U / y1 * y1=A at *
  rw [Qar (n:=A) (by omega) (by omega),Qar (by omega) (by omega)]
 refine Qab Tryz.func282 rfl rfl fun w=>?_
 refine Qaa (by kernel_rfl) ?_
 repeat' (first|((with_reducible show callW _ _ _ (some (308,_)) _ _);refine callP Qy8 rfl (QvN y k (by omega) hy1 hk) ?_)|((fail_if_success (with_reducible refine stk ?_));simp only [WE,Nat.reduceLeDiff,Nat.reduceBEq,Nat.reduceAdd,Int.reduceLE,Int.reduceToNat,Int.reducePow,QwM,QuD,f1,f2,f3,k0,k1,k2,k3,k4,k5,e1,Qim,hy1e,e2,Int.toNat_natCast,hL,hU,hd1e,e3,y10,eq1,er1]))
 refine Qa3 (α:=Int×Int) (fun z=>⟨[(2,.ext (.int .u64 Y)),(8,.ext (.int .u64 k)),(9,.ext (.int .u64 y1)),(10,.ext (.int .u64 y0)),(11,.ext (.int .u64 U)),(13,.ext (.int .u64 d1)),(14,.ext (.int .u64 d0)),(15,.ext (.int .u64 z.1)),(16,.ext (.int .u64 z.2))],[],x⟩)
  (fun z=>DI U d1 y1 y0 z.1 z.2) (fun z=>(4294967296 - z.2).toNat)
  ⟨(U / y1,U - U / y1 * y1),Qae ⟨⟨rfl,rfl⟩,⟨rfl,rfl⟩,⟨rfl,rfl⟩,⟨rfl,rfl⟩,⟨rfl,rfl⟩,⟨rfl,rfl⟩,⟨rfl,rfl⟩,⟨rfl,rfl⟩,⟨rfl,rfl⟩,trivial⟩ trivial rfl,DI.start hy⟩ (by kernel_rfl) ?_
 rintro ⟨q',r'⟩ hD
 dsimp only at hD ⊢
 have g1:=hD.q0
 have g2:=hD.q1
 have g3:=hD.r0
 have g4:=hD.r1
 have g5:=hy.a1
 have g6:=hy.a2
 have g7:=hy.d0
 have g8:=hy.d1
 have er:wr .u64 (r'+y1)=r'+y1:=Qar (by omega) (by omega)
 by_cases hc1:4294967296≤q'
 ·have t1:decide (4294967296≤q')=true:=decide_eq_true hc1
  have e9:wr .u64 (q' - 1)=q' - 1:=by have:=(hD.more hy (.inl hc1)).2; exact Qar (by omega) (by omega)
  by_cases hr:r'+y1 < 4294967296
  ·have t3:decide (4294967296≤r'+y1)=false:=decide_eq_false (by omega)
   repeat' (first|((fail_if_success (with_reducible refine stk ?_));simp only [WE,Nat.reduceBEq,t1,e9,er,t3]))
   exact ⟨(q' - 1,r'+y1),Qae ⟨⟨rfl,rfl⟩,⟨rfl,rfl⟩,⟨rfl,rfl⟩,⟨rfl,rfl⟩,⟨rfl,rfl⟩,⟨rfl,rfl⟩,⟨rfl,rfl⟩,⟨rfl,rfl⟩,⟨rfl,rfl⟩,trivial⟩ trivial rfl,hD.next hy (.inl hc1) hr,by dsimp only; omega⟩
  ·have t3:decide (4294967296≤r'+y1)=true:=decide_eq_true (by omega)
   have e8:wr .u64 (q' - 1)=q:=e9.trans ((hD.last hy (.inl hc1) (by omega)).symm.trans (by rw [←hYe]; exact hq))
   repeat' (first|((fail_if_success (with_reducible refine stk ?_));simp only [WE,Nat.reduceBEq,Nat.reduceEqDiff,t1,er,t3,e8,eV,eq0,er0,y10]))
   refine Qa3 (α:=Int×Int) (fun z=>⟨[(2,.ext (.int .u64 Y)),(8,.ext (.int .u64 k)),(9,.ext (.int .u64 y1)),(10,.ext (.int .u64 y0)),(14,.ext (.int .u64 d0)),(15,.ext (.int .u64 q)),(16,.ext (.int .u64 z.2)),(17,.ext (.int .u64 V)),(18,.ext (.int .u64 z.1))],[],x⟩)
    (fun z=>DI V d0 y1 y0 z.1 z.2) (fun z=>(4294967296 - z.2).toNat)
    ⟨(V / y1,V - V / y1 * y1),Qae ⟨⟨rfl,rfl⟩,⟨rfl,rfl⟩,⟨rfl,rfl⟩,⟨rfl,rfl⟩,⟨rfl,rfl⟩,⟨rfl,rfl⟩,⟨rfl,rfl⟩,⟨rfl,rfl⟩,⟨rfl,rfl⟩,trivial⟩ trivial rfl,DI.start hz⟩ (by kernel_rfl) ?_
   rintro ⟨p',s'⟩ hE
   dsimp only at hE ⊢
   have g1:=hE.q0
   have g2:=hE.q1
   have g3:=hE.r0
   have g4:=hE.r1
   have g5:=hy.a1
   have g6:=hy.a2
   have g7:=hz.d0
   have g8:=hz.d1
   have er:wr .u64 (s'+y1)=s'+y1:=Qar (by omega) (by omega)
   by_cases hc1:4294967296≤p'
   ·have t1:decide (4294967296≤p')=true:=decide_eq_true hc1
    have e9:wr .u64 (p' - 1)=p' - 1:=by have:=(hE.more hz (.inl hc1)).2; exact Qar (by omega) (by omega)
    by_cases hr:s'+y1 < 4294967296
    ·have t3:decide (4294967296≤s'+y1)=false:=decide_eq_false (by omega)
     repeat' (first|((fail_if_success (with_reducible refine stk ?_));simp only [WE,Nat.reduceBEq,t1,e9,er,t3]))
     exact ⟨(p' - 1,s'+y1),Qae ⟨⟨rfl,rfl⟩,⟨rfl,rfl⟩,⟨rfl,rfl⟩,⟨rfl,rfl⟩,⟨rfl,rfl⟩,⟨rfl,rfl⟩,⟨rfl,rfl⟩,⟨rfl,rfl⟩,⟨rfl,rfl⟩,trivial⟩ trivial rfl,hE.next hz (.inl hc1) hr,by dsimp only; omega⟩
    ·have t3:decide (4294967296≤s'+y1)=true:=decide_eq_true (by omega)
     have e8:wr .u64 (p' - 1)=p:=e9.trans ((hE.last hz (.inl hc1) (by omega)).symm.trans (by rw [←hYe]; exact hp))
     repeat' (first|((fail_if_success (with_reducible refine stk ?_));simp only [WE,Nat.reduceBEq,Nat.reduceEqDiff,Qcb,t1,er,t3,e8,k0,k1,Int.toNat_natCast,eQ,eR]))
     skip
   ·have t1:decide (4294967296≤p')=false:=decide_eq_false hc1
    have hs:=hE.small hz (by omega)
    have w1:wr .u64 (p' * y0)=p' * y0:=Qar (by omega) (by omega)
    have w2:wr .u64 (4294967296 * s')=4294967296 * s':=Qar (by omega) (by omega)
    have w3:wr .u64 (4294967296 * s'+d0)=4294967296 * s'+d0:=Qar (by omega) (by omega)
    by_cases hc2:4294967296 * s'+d0 < p' * y0
    ·have t2:decide (4294967296 * s'+d0 < p' * y0)=true:=decide_eq_true hc2
     have e9:wr .u64 (p' - 1)=p' - 1:=by have:=(hE.more hz (.inr hc2)).2; exact Qar (by omega) (by omega)
     by_cases hr:s'+y1 < 4294967296
     ·have t3:decide (4294967296≤s'+y1)=false:=decide_eq_false (by omega)
      repeat' (first|((fail_if_success (with_reducible refine stk ?_));simp only [WE,Nat.reduceBEq,t1,t2,w1,w2,w3,e9,er,t3]))
      exact ⟨(p' - 1,s'+y1),Qae ⟨⟨rfl,rfl⟩,⟨rfl,rfl⟩,⟨rfl,rfl⟩,⟨rfl,rfl⟩,⟨rfl,rfl⟩,⟨rfl,rfl⟩,⟨rfl,rfl⟩,⟨rfl,rfl⟩,⟨rfl,rfl⟩,trivial⟩ trivial rfl,hE.next hz (.inr hc2) hr,by dsimp only; omega⟩
     ·have t3:decide (4294967296≤s'+y1)=true:=decide_eq_true (by omega)
      have e8:wr .u64 (p' - 1)=p:=e9.trans ((hE.last hz (.inr hc2) (by omega)).symm.trans (by rw [←hYe]; exact hp))
      repeat' (first|((fail_if_success (with_reducible refine stk ?_));simp only [WE,Nat.reduceBEq,Nat.reduceEqDiff,Qcb,t1,t2,w1,w2,w3,er,t3,e8,k0,k1,Int.toNat_natCast,eQ,eR]))
      skip
    ·have t2:decide (4294967296 * s'+d0 < p' * y0)=false:=decide_eq_false hc2
     have e8:p'=p:=((hE.done hz (by omega)).symm.trans (by rw [←hYe]; exact hp))
     rw [e8] at t1 t2 w1 ⊢
     repeat' (first|((fail_if_success (with_reducible refine stk ?_));simp only [WE,Nat.reduceBEq,Qcb,t1,t2,w1,w2,w3,k0,k1,Int.toNat_natCast,eQ,eR]))
     skip
 ·have t1:decide (4294967296≤q')=false:=decide_eq_false hc1
  have hs:=hD.small hy (by omega)
  have w1:wr .u64 (q' * y0)=q' * y0:=Qar (by omega) (by omega)
  have w2:wr .u64 (4294967296 * r')=4294967296 * r':=Qar (by omega) (by omega)
  have w3:wr .u64 (4294967296 * r'+d1)=4294967296 * r'+d1:=Qar (by omega) (by omega)
  by_cases hc2:4294967296 * r'+d1 < q' * y0
  ·have t2:decide (4294967296 * r'+d1 < q' * y0)=true:=decide_eq_true hc2
   have e9:wr .u64 (q' - 1)=q' - 1:=by have:=(hD.more hy (.inr hc2)).2; exact Qar (by omega) (by omega)
   by_cases hr:r'+y1 < 4294967296
   ·have t3:decide (4294967296≤r'+y1)=false:=decide_eq_false (by omega)
    repeat' (first|((fail_if_success (with_reducible refine stk ?_));simp only [WE,Nat.reduceBEq,t1,t2,w1,w2,w3,e9,er,t3]))
    exact ⟨(q' - 1,r'+y1),Qae ⟨⟨rfl,rfl⟩,⟨rfl,rfl⟩,⟨rfl,rfl⟩,⟨rfl,rfl⟩,⟨rfl,rfl⟩,⟨rfl,rfl⟩,⟨rfl,rfl⟩,⟨rfl,rfl⟩,⟨rfl,rfl⟩,trivial⟩ trivial rfl,hD.next hy (.inr hc2) hr,by dsimp only; omega⟩
   ·have t3:decide (4294967296≤r'+y1)=true:=decide_eq_true (by omega)
    have e8:wr .u64 (q' - 1)=q:=e9.trans ((hD.last hy (.inr hc2) (by omega)).symm.trans (by rw [←hYe]; exact hq))
    repeat' (first|((fail_if_success (with_reducible refine stk ?_));simp only [WE,Nat.reduceBEq,Nat.reduceEqDiff,t1,t2,w1,w2,w3,er,t3,e8,eV,eq0,er0,y10]))
    refine Qa3 (α:=Int×Int) (fun z=>⟨[(2,.ext (.int .u64 Y)),(8,.ext (.int .u64 k)),(9,.ext (.int .u64 y1)),(10,.ext (.int .u64 y0)),(14,.ext (.int .u64 d0)),(15,.ext (.int .u64 q)),(16,.ext (.int .u64 z.2)),(17,.ext (.int .u64 V)),(18,.ext (.int .u64 z.1))],[],x⟩)
     (fun z=>DI V d0 y1 y0 z.1 z.2) (fun z=>(4294967296 - z.2).toNat)
     ⟨(V / y1,V - V / y1 * y1),Qae ⟨⟨rfl,rfl⟩,⟨rfl,rfl⟩,⟨rfl,rfl⟩,⟨rfl,rfl⟩,⟨rfl,rfl⟩,⟨rfl,rfl⟩,⟨rfl,rfl⟩,⟨rfl,rfl⟩,⟨rfl,rfl⟩,trivial⟩ trivial rfl,DI.start hz⟩ (by kernel_rfl) ?_
    rintro ⟨p',s'⟩ hE
    dsimp only at hE ⊢
    have g1:=hE.q0
    have g2:=hE.q1
    have g3:=hE.r0
    have g4:=hE.r1
    have g5:=hy.a1
    have g6:=hy.a2
    have g7:=hz.d0
    have g8:=hz.d1
    have er:wr .u64 (s'+y1)=s'+y1:=Qar (by omega) (by omega)
    by_cases hc1:4294967296≤p'
    ·have t1:decide (4294967296≤p')=true:=decide_eq_true hc1
     have e9:wr .u64 (p' - 1)=p' - 1:=by have:=(hE.more hz (.inl hc1)).2; exact Qar (by omega) (by omega)
     by_cases hr:s'+y1 < 4294967296
     ·have t3:decide (4294967296≤s'+y1)=false:=decide_eq_false (by omega)
      repeat' (first|((fail_if_success (with_reducible refine stk ?_));simp only [WE,Nat.reduceBEq,t1,e9,er,t3]))
      exact ⟨(p' - 1,s'+y1),Qae ⟨⟨rfl,rfl⟩,⟨rfl,rfl⟩,⟨rfl,rfl⟩,⟨rfl,rfl⟩,⟨rfl,rfl⟩,⟨rfl,rfl⟩,⟨rfl,rfl⟩,⟨rfl,rfl⟩,⟨rfl,rfl⟩,trivial⟩ trivial rfl,hE.next hz (.inl hc1) hr,by dsimp only; omega⟩
     ·have t3:decide (4294967296≤s'+y1)=true:=decide_eq_true (by omega)
      have e8:wr .u64 (p' - 1)=p:=e9.trans ((hE.last hz (.inl hc1) (by omega)).symm.trans (by rw [←hYe]; exact hp))
      repeat' (first|((fail_if_success (with_reducible refine stk ?_));simp only [WE,Nat.reduceBEq,Nat.reduceEqDiff,Qcb,t1,er,t3,e8,k0,k1,Int.toNat_natCast,eQ,eR]))
      skip
    ·have t1:decide (4294967296≤p')=false:=decide_eq_false hc1
     have hs:=hE.small hz (by omega)
     have w1:wr .u64 (p' * y0)=p' * y0:=Qar (by omega) (by omega)
     have w2:wr .u64 (4294967296 * s')=4294967296 * s':=Qar (by omega) (by omega)
     have w3:wr .u64 (4294967296 * s'+d0)=4294967296 * s'+d0:=Qar (by omega) (by omega)
     by_cases hc2:4294967296 * s'+d0 < p' * y0
     ·have t2:decide (4294967296 * s'+d0 < p' * y0)=true:=decide_eq_true hc2
      have e9:wr .u64 (p' - 1)=p' - 1:=by have:=(hE.more hz (.inr hc2)).2; exact Qar (by omega) (by omega)
      by_cases hr:s'+y1 < 4294967296
      ·have t3:decide (4294967296≤s'+y1)=false:=decide_eq_false (by omega)
       repeat' (first|((fail_if_success (with_reducible refine stk ?_));simp only [WE,Nat.reduceBEq,t1,t2,w1,w2,w3,e9,er,t3]))
       exact ⟨(p' - 1,s'+y1),Qae ⟨⟨rfl,rfl⟩,⟨rfl,rfl⟩,⟨rfl,rfl⟩,⟨rfl,rfl⟩,⟨rfl,rfl⟩,⟨rfl,rfl⟩,⟨rfl,rfl⟩,⟨rfl,rfl⟩,⟨rfl,rfl⟩,trivial⟩ trivial rfl,hE.next hz (.inr hc2) hr,by dsimp only; omega⟩
      ·have t3:decide (4294967296≤s'+y1)=true:=decide_eq_true (by omega)
       have e8:wr .u64 (p' - 1)=p:=e9.trans ((hE.last hz (.inr hc2) (by omega)).symm.trans (by rw [←hYe]; exact hp))
       repeat' (first|((fail_if_success (with_reducible refine stk ?_));simp only [WE,Nat.reduceBEq,Nat.reduceEqDiff,Qcb,t1,t2,w1,w2,w3,er,t3,e8,k0,k1,Int.toNat_natCast,eQ,eR]))
       skip
     ·have t2:decide (4294967296 * s'+d0 < p' * y0)=false:=decide_eq_false hc2
      have e8:p'=p:=((hE.done hz (by omega)).symm.trans (by rw [←hYe]; exact hp))
      rw [e8] at t1 t2 w1 ⊢
      repeat' (first|((fail_if_success (with_reducible refine stk ?_));simp only [WE,Nat.reduceBEq,Qcb,t1,t2,w1,w2,w3,k0,k1,Int.toNat_natCast,eQ,eR]))
      skip
  ·have t2:decide (4294967296 * r'+d1 < q' * y0)=false:=decide_eq_false hc2
   have e8:q'=q:=((hD.done hy (by omega)).symm.trans (by rw [←hYe]; exact hq))
   rw [e8] at t1 t2 w1 ⊢
   repeat' (first|((fail_if_success (with_reducible refine stk ?_));simp only [WE,Nat.reduceBEq,t1,t2,w1,w2,w3,eV,eq0,er0,y10]))
   refine Qa3 (α:=Int×Int) (fun z=>⟨[(2,.ext (.int .u64 Y)),(8,.ext (.int .u64 k)),(9,.ext (.int .u64 y1)),(10,.ext (.int .u64 y0)),(14,.ext (.int .u64 d0)),(15,.ext (.int .u64 q)),(16,.ext (.int .u64 z.2)),(17,.ext (.int .u64 V)),(18,.ext (.int .u64 z.1))],[],x⟩)
    (fun z=>DI V d0 y1 y0 z.1 z.2) (fun z=>(4294967296 - z.2).toNat)
    ⟨(V / y1,V - V / y1 * y1),Qae ⟨⟨rfl,rfl⟩,⟨rfl,rfl⟩,⟨rfl,rfl⟩,⟨rfl,rfl⟩,⟨rfl,rfl⟩,⟨rfl,rfl⟩,⟨rfl,rfl⟩,⟨rfl,rfl⟩,⟨rfl,rfl⟩,trivial⟩ trivial rfl,DI.start hz⟩ (by kernel_rfl) ?_
   rintro ⟨p',s'⟩ hE
   dsimp only at hE ⊢
   have g1:=hE.q0
   have g2:=hE.q1
   have g3:=hE.r0
   have g4:=hE.r1
   have g5:=hy.a1
   have g6:=hy.a2
   have g7:=hz.d0
   have g8:=hz.d1
   have er:wr .u64 (s'+y1)=s'+y1:=Qar (by omega) (by omega)
   by_cases hc1:4294967296≤p'
   ·have t1:decide (4294967296≤p')=true:=decide_eq_true hc1
    have e9:wr .u64 (p' - 1)=p' - 1:=by have:=(hE.more hz (.inl hc1)).2; exact Qar (by omega) (by omega)
    by_cases hr:s'+y1 < 4294967296
    ·have t3:decide (4294967296≤s'+y1)=false:=decide_eq_false (by omega)
     repeat' (first|((fail_if_success (with_reducible refine stk ?_));simp only [WE,Nat.reduceBEq,t1,e9,er,t3]))
     exact ⟨(p' - 1,s'+y1),Qae ⟨⟨rfl,rfl⟩,⟨rfl,rfl⟩,⟨rfl,rfl⟩,⟨rfl,rfl⟩,⟨rfl,rfl⟩,⟨rfl,rfl⟩,⟨rfl,rfl⟩,⟨rfl,rfl⟩,⟨rfl,rfl⟩,trivial⟩ trivial rfl,hE.next hz (.inl hc1) hr,by dsimp only; omega⟩
    ·have t3:decide (4294967296≤s'+y1)=true:=decide_eq_true (by omega)
     have e8:wr .u64 (p' - 1)=p:=e9.trans ((hE.last hz (.inl hc1) (by omega)).symm.trans (by rw [←hYe]; exact hp))
     repeat' (first|((fail_if_success (with_reducible refine stk ?_));simp only [WE,Nat.reduceBEq,Nat.reduceEqDiff,Qcb,t1,er,t3,e8,k0,k1,Int.toNat_natCast,eQ,eR]))
     skip
   ·have t1:decide (4294967296≤p')=false:=decide_eq_false hc1
    have hs:=hE.small hz (by omega)
    have w1:wr .u64 (p' * y0)=p' * y0:=Qar (by omega) (by omega)
    have w2:wr .u64 (4294967296 * s')=4294967296 * s':=Qar (by omega) (by omega)
    have w3:wr .u64 (4294967296 * s'+d0)=4294967296 * s'+d0:=Qar (by omega) (by omega)
    by_cases hc2:4294967296 * s'+d0 < p' * y0
    ·have t2:decide (4294967296 * s'+d0 < p' * y0)=true:=decide_eq_true hc2
     have e9:wr .u64 (p' - 1)=p' - 1:=by have:=(hE.more hz (.inr hc2)).2; exact Qar (by omega) (by omega)
     by_cases hr:s'+y1 < 4294967296
     ·have t3:decide (4294967296≤s'+y1)=false:=decide_eq_false (by omega)
      repeat' (first|((fail_if_success (with_reducible refine stk ?_));simp only [WE,Nat.reduceBEq,t1,t2,w1,w2,w3,e9,er,t3]))
      exact ⟨(p' - 1,s'+y1),Qae ⟨⟨rfl,rfl⟩,⟨rfl,rfl⟩,⟨rfl,rfl⟩,⟨rfl,rfl⟩,⟨rfl,rfl⟩,⟨rfl,rfl⟩,⟨rfl,rfl⟩,⟨rfl,rfl⟩,⟨rfl,rfl⟩,trivial⟩ trivial rfl,hE.next hz (.inr hc2) hr,by dsimp only; omega⟩
     ·have t3:decide (4294967296≤s'+y1)=true:=decide_eq_true (by omega)
      have e8:wr .u64 (p' - 1)=p:=e9.trans ((hE.last hz (.inr hc2) (by omega)).symm.trans (by rw [←hYe]; exact hp))
      repeat' (first|((fail_if_success (with_reducible refine stk ?_));simp only [WE,Nat.reduceBEq,Nat.reduceEqDiff,Qcb,t1,t2,w1,w2,w3,er,t3,e8,k0,k1,Int.toNat_natCast,eQ,eR]))
      skip
    ·have t2:decide (4294967296 * s'+d0 < p' * y0)=false:=decide_eq_false hc2
     have e8:p'=p:=((hE.done hz (by omega)).symm.trans (by rw [←hYe]; exact hp))
     rw [e8] at t1 t2 w1 ⊢
     repeat' (first|((fail_if_success (with_reducible refine stk ?_));simp only [WE,Nat.reduceBEq,Qcb,t1,t2,w1,w2,w3,k0,k1,Int.toNat_natCast,eQ,eR]))
     skip
def in64 (n:Int):Prop:=-9223372036854775808≤n∧n≤9223372036854775807
theorem i64k {n:Int} (h1 : -9223372036854775808≤n) (h2:n≤9223372036854775807):in64 n:=⟨h1,h2⟩
def sat (n:Int):Int:=if n < -9223372036854775808 then -9223372036854775808 else if 9223372036854775807 < n then 9223372036854775807 else n
theorem QeI (n:Int):in64 (sat n):=by unfold in64 sat; (repeat' split) <;> omega
theorem Qcd {n:Int} (h:in64 n):sat n=n:=by unfold in64 at h; unfold sat; (repeat' split) <;> omega
def fitV (n:Int):Int:=if -9223372036854775808≤n∧n≤9223372036854775807 then n else 0
def fitE (n:Int):Int:=if -9223372036854775808≤n∧n≤9223372036854775807 then 0 else 10
theorem Qwg {x:Nat→Obj→Prop} (a b:Int) (ha:in64 a) (hb:in64 b):PureC Tryz.prog x 166 [.int .i64 a,.int .i64 b] (.tuple #[.int .i64 (fitV (a+b)),.int .i64 (fitE (a+b))]):=by
 unfold in64 at ha hb
 refine Qab Tryz.func166 rfl rfl fun w=>?_
 refine Qaa (by kernel_rfl) ?_
 repeat' (first|(with_reducible refine Qah (fun _=>?_) (fun _=>?_))|((fail_if_success (with_reducible refine stk ?_));simp only [WE,Nat.reduceBEq,Nat.reduceAdd,Tryz.underlying4,QDi]))
 all_goals simp only [decide_eq_true_eq,decide_eq_false_iff_not,QbN] at *
 all_goals simp only [beq_iff_eq,beq_eq_false_iff_ne,ne_eq,decide_eq_decide,Bool.not_eq_true',Bool.not_eq_false'] at *
 all_goals unfold fitV fitE
 ·rw [if_neg (by omega),if_neg (by omega)]
 ·rw [if_pos (by omega),if_pos (by omega),show (a+b+9223372036854775808) % 18446744073709551616 - 9223372036854775808=a+b by omega]
 ·rw [if_pos (by omega),if_pos (by omega),show (a+b+9223372036854775808) % 18446744073709551616 - 9223372036854775808=a+b by omega]
theorem QFU {a b n:Int} (hb:b≠0) (hb1:b≤9223372036854775808) (hb2 : -9223372036854775808≤b) (h:n.tdiv b=a) (hd:n - a * b≤-18446744073709551616∨18446744073709551616≤n - a * b):False:=by
 have h1:=Int.mul_tdiv_add_tmod n b
 rw [h,Int.mul_comm b a] at h1
 have h2:(n.tmod b).natAbs < b.natAbs:=by
  rw [Int.natAbs_tmod]; exact Nat.mod_lt _ (Int.natAbs_pos.2 hb)
 generalize a * b=P at *
 omega
theorem Qwh {x:Nat→Obj→Prop} (a b:Int) (ha:in64 a) (hb:in64 b):PureC Tryz.prog x 168 [.int .i64 a,.int .i64 b] (.tuple #[.int .i64 (fitV (a * b)),.int .i64 (fitE (a * b))]):=by
 unfold in64 at ha hb
 by_cases hb0:b=0
 ·subst hb0
  have e0:wr .i64 (a * 0)=0:=by rw [Int.mul_zero]; exact Qag (by omega) (by omega)
  refine Qab Tryz.func168 rfl rfl fun w=>?_
  refine Qaa (by kernel_rfl) ?_
  repeat' (first|(with_reducible refine Qah (fun _=>?_) (fun _=>?_))|((fail_if_success (with_reducible refine stk ?_));simp only [WE,Nat.reduceBEq,Nat.reduceAdd,Int.reduceNeg,Int.reduceBEq,Int.reduceBNe,QrY,e0]))
  all_goals simp only [Int.mul_zero] at *
  all_goals unfold fitV fitE
  all_goals first | rfl | (exfalso; simp_all; done)
 ·obtain ⟨n,hn⟩:∃ n,wr .i64 (a * b)=n:=⟨_,rfl⟩
  have hn1:=hn
  rw [QbN] at hn1
  have m1:a = -1→a * b = -b:=fun h=>by subst h; omega
  have m2:b = -1→a * b = -a:=fun h=>by subst h; omega
  have hOK:(-9223372036854775808≤a * b∧a * b≤9223372036854775807)→n=a * b∧wr .i64 (n.tdiv b)=a:=fun h=>by
   have e:n=a * b:=by omega
   refine ⟨e,?_⟩
   rw [e,Int.mul_tdiv_cancel _ hb0]
   exact Qag ha.1 ha.2
  have hNO:¬ (-9223372036854775808≤a * b∧a * b≤9223372036854775807)→(a = -1∧b = -9223372036854775808)∨(b = -1∧a = -9223372036854775808)∨¬ wr .i64 (n.tdiv b)=a:=fun h=>by
   rcases Classical.em (wr .i64 (n.tdiv b)=a) with hw | hw
   ·by_cases h1:b = -1
    ·have:=m2 h1
     right; left; exact ⟨h1,by omega⟩
    ·exfalso
     have hq:(n.tdiv b).natAbs≤n.natAbs:=by rw [Int.natAbs_tdiv]; exact Nat.div_le_self _ _
     have hq2:n.tdiv b≠9223372036854775808:=fun hz=>by
      have h2:9223372036854775808=n.natAbs / b.natAbs:=by
       have:=Int.natAbs_tdiv n b
       rw [hz] at this
       exact this
      have h3:n.natAbs≤9223372036854775808:=by omega
      have h4:1≤b.natAbs:=by omega
      rcases Nat.lt_or_ge 1 b.natAbs with h5 | h5
      ·have:=Nat.div_lt_self (n:=n.natAbs) (k:=b.natAbs) (by omega) h5
       omega
      ·have h6:b=1:=by omega
       subst h6
       rw [Int.tdiv_one] at hz
       omega
     rw [Qag (by omega) (by omega)] at hw
     exact QFU hb0 (by omega) (by omega) hw (by omega)
   ·right; right; exact hw
  refine Qab Tryz.func168 rfl rfl fun w=>?_
  refine Qaa (by kernel_rfl) ?_
  repeat' (first|(with_reducible refine Qah (fun _=>?_) (fun _=>?_))|((fail_if_success (with_reducible refine stk ?_));simp only [WE,Nat.reduceBEq,Nat.reduceAdd,Int.reduceNeg,QrY,hn,hb0]))
  all_goals simp only [beq_iff_eq,beq_eq_false_iff_ne,bne_iff_ne,bne_eq_false_iff_eq,ne_eq] at *
  all_goals unfold fitV fitE
  all_goals by_cases hin:(-9223372036854775808≤a * b∧a * b≤9223372036854775807)
  all_goals first
   | (rw [if_pos hin,if_pos hin,(hOK hin).1]; done)
   | (exfalso; have:=hOK hin; omega)
   | (rw [if_neg hin,if_neg hin]; done)
   | (exfalso; have:=hNO hin; omega)
def lim (n:Int):Int:=if n < 0 then -9223372036854775808 else 9223372036854775807
theorem Qwi {x:Nat→Obj→Prop} (g h:FuncId) (p:Value) (a b n e:Int) (t:Bool) (hg:goes Tryz.prog g) (hG:PureC Tryz.prog x g [.int .i64 a,.int .i64 b] (.tuple #[.int .i64 n,.int .i64 e])) (hh:goes Tryz.prog h) (hH:PureC Tryz.prog x h [p] (.bool t)) :
  PureC Tryz.prog x 165 [.func (.func g) #[] #[],.int .i64 a,.int .i64 b,.func (.func h) #[] #[p]] (.int .i64 (if e=0 then n else bif t then -9223372036854775808 else 9223372036854775807)):=by
 refine Qab Tryz.func165 rfl rfl fun w=>?_
 refine Qaa (by kernel_rfl) ?_
 repeat' (first|(((with_reducible show callW _ _ _ (some (g,_)) _ _);refine callP hg rfl hG ?_))|(((with_reducible show callW _ _ _ (some (h,_)) _ _);refine callP hh rfl hH ?_))|(with_reducible refine Qah (fun _=>?_) (fun _=>?_))|((fail_if_success (with_reducible refine stk ?_));simp only [WE,Nat.reduceBEq,Nat.reduceAdd,Int.reduceNeg,QrX]))
 all_goals simp_all
theorem Qwj {x:Nat→Obj→Prop} (g h:FuncId) (p q:Value) (a b n e:Int) (t:Bool) (hg:goes Tryz.prog g) (hG:PureC Tryz.prog x g [.int .i64 a,.int .i64 b] (.tuple #[.int .i64 n,.int .i64 e])) (hh:goes Tryz.prog h) (hH:PureC Tryz.prog x h [p,q] (.bool t)) :
  PureC Tryz.prog x 165 [.func (.func g) #[] #[],.int .i64 a,.int .i64 b,.func (.func h) #[] #[p,q]] (.int .i64 (if e=0 then n else bif t then -9223372036854775808 else 9223372036854775807)):=by
 refine Qab Tryz.func165 rfl rfl fun w=>?_
 refine Qaa (by kernel_rfl) ?_
 repeat' (first|(((with_reducible show callW _ _ _ (some (g,_)) _ _);refine callP hg rfl hG ?_))|(((with_reducible show callW _ _ _ (some (h,_)) _ _);refine callP hh rfl hH ?_))|(with_reducible refine Qah (fun _=>?_) (fun _=>?_))|((fail_if_success (with_reducible refine stk ?_));simp only [WE,Nat.reduceBEq,Nat.reduceAdd,Int.reduceNeg,QrX]))
 all_goals simp_all
theorem Qwd {x:Nat→Obj→Prop} {b T:Nat} {f:Nat×Nat} (n:Int) (hx:x b (.cells #[.int .i64 n] T f)):PureC Tryz.prog x 167 [.pointer (some ⟨b,0,none⟩)] (.bool (decide (n < 0))):=by
 have hl:loadX false 1 0 #[.int .i64 n]=some (.int .i64 n):=rfl
 refine Qab Tryz.func167 rfl rfl fun w=>?_
 refine Qaa (by kernel_rfl) ?_
 repeat' (first|(with_reducible refine Qad hx hl ?_)|((fail_if_success (with_reducible refine stk ?_));simp only [WE,Nat.reduceBEq,ty_3,QDj]))
theorem Qwf {x:Nat→Obj→Prop} {b T c U:Nat} {f f':Nat×Nat} (n m:Int) (hx:x b (.cells #[.int .i64 n] T f)) (hy:x c (.cells #[.int .i64 m] U f')):PureC Tryz.prog x 169 [.pointer (some ⟨b,0,none⟩),.pointer (some ⟨c,0,none⟩)] (.bool (!(decide (n < 0) == decide (m < 0)))):=by
 have hl:loadX false 1 0 #[.int .i64 n]=some (.int .i64 n):=rfl
 have hm:loadX false 1 0 #[.int .i64 m]=some (.int .i64 m):=rfl
 refine Qab Tryz.func169 rfl rfl fun w=>?_
 refine Qaa (by kernel_rfl) ?_
 repeat' (first|(with_reducible refine Qad hx hl ?_)|(with_reducible refine Qad hy hm ?_)|((fail_if_success (with_reducible refine stk ?_));simp only [WE,Nat.reduceBEq,Nat.reduceAdd,ty_3,Tryz.underlying4,QDk]))
theorem Qnw {n:Int} {t:Bool} (h:¬ (-9223372036854775808≤n∧n≤9223372036854775807)→t=decide (n < 0)):(if fitE n=0 then fitV n else bif t then -9223372036854775808 else 9223372036854775807)=sat n:=by
 by_cases hin:(-9223372036854775808≤n∧n≤9223372036854775807)
 ·have e1:fitE n=0:=if_pos hin
  have e2:fitV n=n:=if_pos hin
  rw [e1,e2,if_pos rfl,Qcd hin]
 ·have e1:fitE n=10:=if_neg hin
  rw [e1,if_neg (by decide),h hin]
  unfold sat
  by_cases h0:n < 0
  ·rw [decide_eq_true h0,if_pos (by omega)]; rfl
  ·rw [decide_eq_false h0,if_neg (by omega),if_pos (by omega)]; rfl
theorem Qb1 {x:Nat→Obj→Prop} (a b:Int) (ha:in64 a) (hb:in64 b):PureC Tryz.prog x 102 [.int .i64 a,.int .i64 b] (.int .i64 (sat (a+b))):=by
 rw [←Qnw (t:=decide (a < 0)) (fun h=>by unfold in64 at ha hb; exact decide_eq_decide.2 (by omega))]
 refine Qab Tryz.func102 rfl rfl fun w=>?_
 refine Qaa (by kernel_rfl) ?_
 repeat' (first|(((with_reducible show callW _ _ _ (some (165,_)) _ _);refine callO Qoy (fun s=>Qwi _ _ _ a b _ _ _ Qzv (Qwg a b ha hb) (Qac Tryz.func167 rfl rfl) (Qwd a (.inr ⟨0,_,rfl,rfl,rfl⟩))) ?_))|((fail_if_success (with_reducible refine stk ?_));simp only [WE,Nat.reduceBEq,Nat.reduceAdd,Int.reduceNeg,ty_3,QCQ]))
theorem mul_neg {a b:Int} (h:a * b≠0):(!(decide (a < 0) == decide (b < 0)))=decide (a * b < 0):=by
 have ha:a≠0:=fun z=>h (by rw [z,Int.zero_mul])
 have hb:b≠0:=fun z=>h (by rw [z,Int.mul_zero])
 by_cases h1:a < 0 <;> by_cases h2:b < 0
 ·have:=Int.mul_pos_of_neg_of_neg h1 h2
  rw [decide_eq_true h1,decide_eq_true h2,decide_eq_false (by omega)]; rfl
 ·have:=Int.mul_neg_of_neg_of_pos h1 (show 0 < b by omega)
  rw [decide_eq_true h1,decide_eq_false h2,decide_eq_true this]; rfl
 ·have:=Int.mul_neg_of_pos_of_neg (show 0 < a by omega) h2
  rw [decide_eq_false h1,decide_eq_true h2,decide_eq_true this]; rfl
 ·have:=Int.mul_pos (show 0 < a by omega) (show 0 < b by omega)
  rw [decide_eq_false h1,decide_eq_false h2,decide_eq_false (by omega)]; rfl
theorem Qwe {x:Nat→Obj→Prop} (a b:Int) (ha:in64 a) (hb:in64 b):PureC Tryz.prog x 103 [.int .i64 a,.int .i64 b] (.int .i64 (sat (a * b))):=by
 rw [←Qnw (t:=!(decide (a < 0) == decide (b < 0))) (fun h=>mul_neg (by omega))]
 refine Qab Tryz.func103 rfl rfl fun w=>?_
 refine Qaa (by kernel_rfl) ?_
 repeat' (first|(((with_reducible show callW _ _ _ (some (165,_)) _ _);refine callO Qoy (fun s=>Qwj _ _ _ _ a b _ _ _ Qzw (Qwh a b ha hb) (Qac Tryz.func169 rfl rfl) (Qwf a b (.inr ⟨0,_,rfl,rfl,rfl⟩) (.inr ⟨1,_,rfl,rfl,rfl⟩))) ?_))|((fail_if_success (with_reducible refine stk ?_));simp only [WE,Nat.reduceBEq,Nat.reduceAdd,Int.reduceNeg,ty_3,QCR]))
theorem Qwk {x:Nat→Obj→Prop} (a:Int):PureC Tryz.prog x 231 [.int .i64 a] (.int .i64 (if a < 0 then 1 else 0)):=by
 refine Qab Tryz.func231 rfl rfl fun w=>?_
 refine Qaa (by kernel_rfl) ?_
 repeat' (first|(with_reducible refine Qah (fun _=>?_) (fun _=>?_))|((fail_if_success (with_reducible refine stk ?_));simp only [WE,Nat.reduceBEq,QDS]))
 all_goals simp_all
theorem Qek {x:Nat→Obj→Prop} (a b:Int) (ha:in64 a) (hb:in64 b):PureC Tryz.prog x 182 [.int .i64 a,.int .i64 b] (.int .i64 (sat (a - b))):=by
 have ha':=ha
 have hb':=hb
 unfold in64 at ha' hb'
 by_cases hl:b = -9223372036854775808
 ·subst hl
  have u1:in64 (if a < 0 then 1 else 0):=by split <;> exact i64k (by omega) (by omega)
  have e1:wr .i64 (1 * if a < 0 then 1 else 0)=if a < 0 then 1 else 0:=by rw [Int.one_mul]; exact Qag (by split <;> omega) (by split <;> omega)
  refine Qab Tryz.func182 rfl rfl fun w=>?_
  refine Qaa (by kernel_rfl) ?_
  repeat' (first|((with_reducible show callW _ _ _ (some (102,_)) _ _);refine callP Qb8 rfl (Qb1 _ _ ha (i64k (by omega) (by omega))) ?_)|((with_reducible show callW _ _ _ (some (102,_)) _ _);refine callP Qb8 rfl (Qb1 _ _ (QeI _) u1) ?_)|((with_reducible show callW _ _ _ (some (231,_)) _ _);refine callP Qzx rfl (Qwk ..) ?_)|((fail_if_success (with_reducible refine stk ?_));simp only [WE,Nat.reduceBEq,Nat.reduceAdd,Int.reduceNeg,Qr0,e1]))
  refine congrArg (Value.int .i64) ?_
  unfold sat
  (repeat' split) <;> omega
 ·have e1:(b == -9223372036854775808)=false:=by simpa using hl
  have e2:wr .i64 (0 - b) = -b:=by rw [Qag (by omega) (by omega)]; omega
  refine Qab Tryz.func182 rfl rfl fun w=>?_
  refine Qaa (by kernel_rfl) ?_
  repeat' (first|((with_reducible show callW _ _ _ (some (102,_)) _ _);refine callP Qb8 rfl (Qb1 _ _ ha (i64k (by omega) (by omega))) ?_)|((fail_if_success (with_reducible refine stk ?_));simp only [WE,Nat.reduceBEq,Nat.reduceAdd,Int.reduceNeg,Qr0,e1,e2]))
  rw [Int.sub_eq_add_neg]
theorem Qwc {x:Nat→Obj→Prop} (a:Int) (ha:in64 a):PureC Tryz.prog x 316 [.int .i64 a] (.int .i64 (sat a.natAbs)):=by
 refine Qab Tryz.func316 rfl rfl fun w=>?_
 refine Qaa (by kernel_rfl) ?_
 repeat' (first|((with_reducible show callW _ _ _ (some (182,_)) _ _);refine callP Qex rfl (Qek 0 a (i64k (by omega) (by omega)) ha) ?_)|((fail_if_success (with_reducible refine stk ?_));simp only [WE,Nat.reduceBEq,QEr]))
 all_goals refine congrArg (Value.int .i64) ?_
 unfold in64 at ha
 unfold mx sat
 (repeat' split) <;> omega
theorem Qch {x:Nat→Obj→Prop} (a l h:Int):PureC Tryz.prog x 164 [.int .i64 a,.int .i64 l,.int .i64 h] (.int .i64 (if a < l then l else mn a h)):=by
 refine Qab Tryz.func164 rfl rfl fun w=>?_
 refine Qaa (by kernel_rfl) ?_
 repeat' (first|(with_reducible refine Qah (fun _=>?_) (fun _=>?_))|((fail_if_success (with_reducible refine stk ?_));simp only [WE,Nat.reduceBEq,Nat.reduceAdd,QDh]))
 all_goals simp_all
 all_goals omega
theorem QgX {a b:Int} (ha:in64 a) (hb:in64 b):0≤(a.natAbs:Int) * b.natAbs∧(a.natAbs:Int) * b.natAbs≤85070591730234615865843651857942052864∧((a * b).natAbs:Int)=(a.natAbs:Int) * b.natAbs:=by
 unfold in64 at ha hb
 have h1:(a.natAbs:Int) * b.natAbs≤9223372036854775808 * 9223372036854775808:=Int.mul_le_mul (by omega) (by omega) (by omega) (by omega)
 have h2:0≤(a.natAbs:Int) * b.natAbs:=Int.mul_nonneg (by omega) (by omega)
 refine ⟨h2,by omega,?_⟩
 rw [Int.natAbs_mul]; simp
def bigV (Z:Int):Value:=.agg #[.bool (decide (Z < 0)),.int .u64 ((Z.natAbs:Int) / 18446744073709551616),.int .u64 ((Z.natAbs:Int) % 18446744073709551616)]
theorem QhK {x:Nat→Obj→Prop} (a b:Int) (ha:in64 a) (hb:in64 b):PureC Tryz.prog x 186 [.int .i64 a,.int .i64 b] (bigV (a * b)):=by
 obtain ⟨h1,h2,h3⟩:=QgX ha hb
 have ha':=ha
 have hb':=hb
 unfold in64 at ha' hb'
 refine Qab Tryz.func186 rfl rfl fun w=>?_
 refine Qaa (by kernel_rfl) ?_
 repeat' (first|((with_reducible show callW _ _ _ (some (233,_)) _ _);refine callP QcO rfl (QcG ..) ?_)|((with_reducible show callW _ _ _ (some (235,_)) _ _);refine callP Qos rfl (QlY _ _ (by omega) (by omega) (by omega) (by omega)) ?_)|((with_reducible show callW _ _ _ (some (236,_)) _ _);refine callP Qn1 rfl (Qlu _ (by omega) (by omega)) ?_)|((fail_if_success (with_reducible refine stk ?_));simp only [WE,Nat.reduceLeDiff,segX,Nat.reduceBEq,Nat.reduceAdd,Nat.reduceEqDiff,QaS,QbC,Qb0,Tryz.underlying4,QDv]))
 unfold bigV
 rw [h3]
 generalize hP:(a.natAbs:Int) * b.natAbs=P at *
 have e0:(P / 18446744073709551616 == 0 && P % 18446744073709551616 == 0)=(a * b == 0):=by
  rw [Bool.eq_iff_iff]; simp only [Bool.and_eq_true,beq_iff_eq]; omega
 rw [e0]
 congr 3
 by_cases h0:a * b=0
 ·rw [h0]; simp
 ·have:=mul_neg (a:=a) (b:=b) h0
  simp only [this,beq_eq_false_iff_ne.2 h0,Bool.not_false,Bool.and_true]
theorem QuK {x:Nat→Obj→Prop} (g:Bool) (h l d:Int) (hh:0≤h) (hh1:h < 18446744073709551616) (hl:0≤l) (hl1:l < 18446744073709551616) (hd:0 < d) (hd1:d < 18446744073709551616) :
  PureC Tryz.prog x 224 [.agg #[.bool g,.int .u64 h,.int .u64 l],.int .u64 d] (.tuple #[bigV (sv g h l / d),.int .u64 (sv g h l % d),.int .i64 0]):=by
 have f1:(d == 0)=false:=beq_eq_false_iff_ne.2 (by omega)
 have f2:d≠0:=by omega
 have a1:=Int.mul_ediv_add_emod h d
 have a2:=Int.emod_nonneg h f2
 have a3:=Int.emod_lt_of_pos h hd
 have a4:=Int.ediv_nonneg hh (show 0≤d by omega)
 have a5:=Int.ediv_le_self d hh
 have e1:wr .u64 (h.tdiv d)=h / d:=by rw [Int.tdiv_eq_ediv_of_nonneg hh]; exact Qar (by omega) (by omega)
 have e2:h.tmod d=h % d:=Int.tmod_eq_emod_of_nonneg hh
 obtain ⟨X,hX⟩:∃ X,X=h * 18446744073709551616+l:=⟨_,rfl⟩
 obtain ⟨q,hq⟩:∃ q,X / d=q:=⟨_,rfl⟩
 obtain ⟨r,hr⟩:∃ r,X % d=r:=⟨_,rfl⟩
 have b1:=Int.mul_ediv_add_emod X d
 have b2:=Int.emod_nonneg X f2
 have b3:=Int.emod_lt_of_pos X hd
 have b4:0≤X / d:=Int.ediv_nonneg (by omega) (by omega)
 have b5:=Int.ediv_le_self d (show 0≤X by omega)
 rw [hq,hr,Int.mul_comm] at b1
 rw [hr] at b2 b3
 rw [hq] at b4 b5
 obtain ⟨c,hc⟩:∃ c,(h % d * 18446744073709551616+l) / d=c:=⟨_,rfl⟩
 have eX:X=h / d * 18446744073709551616 * d+(h % d * 18446744073709551616+l):=by
  rw [Int.mul_right_comm,Int.mul_comm (h / d) d]
  omega
 have c1:q=h / d * 18446744073709551616+c:=by rw [←hq,←hc,eX,Int.add_comm (h / d * 18446744073709551616 * d),Int.add_mul_ediv_right _ _ f2]; omega
 have c2:(h % d * 18446744073709551616+l) % d=r:=by rw [←hr,eX,Int.add_comm (h / d * 18446744073709551616 * d),Int.add_mul_emod_self_right]
 have c3:0≤c:=by rw [←hc]; exact Int.ediv_nonneg (by omega) (by omega)
 have c4:c < 18446744073709551616:=by rw [←hc]; exact Int.ediv_lt_of_lt_mul hd (by
  have:(h % d+1) * 18446744073709551616≤d * 18446744073709551616:=by omega
  omega)
 obtain ⟨t,ht⟩:∃ t,h / d=t:=⟨_,rfl⟩
 rw [ht] at c1 a4 a5 e1
 have hz:(t == 0 && c == 0)=(q == 0):=by
  rw [Bool.eq_iff_iff]; simp only [Bool.and_eq_true,beq_iff_eq]; omega
 have q1:q / 18446744073709551616=t:=by omega
 have q2:q % 18446744073709551616=c:=by omega
 have m1:(((-1:Int)).natAbs:Int)=1:=rfl
 have out:∀ Z,Z=q∨Z = -q→bigV Z=.agg #[.bool (decide (Z < 0)),.int .u64 t,.int .u64 c]:=by
  intro Z hZ
  have:(Z.natAbs:Int)=q:=by omega
  unfold bigV
  rw [this,q1,q2]
 cases g
 ·have e3:sv false h l=X:=hX.symm
  have n1:decide (q < 0)=false:=decide_eq_false (by omega)
  refine Qab Tryz.func224 rfl rfl fun w=>?_
  refine Qaa (by kernel_rfl) ?_
  repeat' (first|((with_reducible show callW _ _ _ (some (233,_)) _ _);refine callP QcO rfl (QcG ..) ?_)|((with_reducible show callW _ _ _ (some (282,_)) _ _);refine callP QiL rfl (QhW (h % d) l d a2 hl hl1 a3 hd1) ?_)|((with_reducible show cW _ _ (.region 3 _ true) _ _);refine Qas Qi1 (by kernel_rfl) Qaf (by kernel_rfl) ?_)|((fail_if_success (with_reducible refine stk ?_));simp only [WE,Nat.reduceLeDiff,segX,Nat.reduceBEq,Nat.reduceAdd,Nat.reduceEqDiff,ty_4,QbW,QaS,Qck,Qep,Qdj,QbC,Qb0,QjH,f1,f2,e1,e2,hc,c2]))
  rw [e3,hq,hr,out q (.inl rfl),n1]
  rfl
 ·have e3:sv true h l = -X:=by rw [hX]; rfl
  by_cases hr0:r=0
  ·have g1:(r == 0)=true:=beq_iff_eq.2 hr0
   have k1:(-X) / d = -q:=by rw [←b1,hr0,Int.add_zero,←Int.neg_mul,Int.mul_ediv_cancel _ f2]
   have k2:(-X) % d=r:=by rw [←b1,hr0,Int.add_zero,←Int.neg_mul,Int.mul_emod_left]
   refine Qab Tryz.func224 rfl rfl fun w=>?_
   refine Qaa (by kernel_rfl) ?_
   repeat' (first|((with_reducible show callW _ _ _ (some (233,_)) _ _);refine callP QcO rfl (QcG ..) ?_)|((with_reducible show callW _ _ _ (some (282,_)) _ _);refine callP QiL rfl (QhW (h % d) l d a2 hl hl1 a3 hd1) ?_)|((with_reducible show cW _ _ (.region 3 _ true) _ _);refine Qas Qi1 (by kernel_rfl) Qaf (by kernel_rfl) ?_)|((fail_if_success (with_reducible refine stk ?_));simp only [WE,Nat.reduceLeDiff,segX,Nat.reduceBEq,Nat.reduceAdd,Nat.reduceEqDiff,ty_4,QbW,QaS,Qck,Qep,Qdj,QbC,Qb0,QjH,f1,f2,e1,e2,hc,c2,g1]))
   rw [e3,k1,k2,out (-q) (.inr rfl),hz]
   have:(!(q == 0))=decide (-q < 0):=by
    by_cases h0:q=0
    ·rw [h0]; rfl
    ·rw [beq_eq_false_iff_ne.2 h0,decide_eq_true (by omega)]; rfl
   rw [this]
  ·have g1:(r == 0)=false:=beq_eq_false_iff_ne.2 hr0
   have k1:(-X) / d = -q - 1:=by
    refine Qga hd ?_ ?_
    ·rw [Int.sub_mul,Int.neg_mul,Int.one_mul]; omega
    ·rw [show -q - 1+1 = -q by omega,Int.neg_mul]; omega
   have k2:(-X) % d=d - r:=by
    have:=Int.mul_ediv_add_emod (-X) d
    rw [k1,Int.mul_sub,Int.mul_comm d (-q),Int.neg_mul,Int.mul_one] at this
    omega
   have k3:wr .u64 (d - r)=d - r:=Qar (by omega) (by omega)
   have k4:q * 2≤q * d:=Int.mul_le_mul_of_nonneg_left (by omega) b4
   have hs:sv (!(t == 0 && c == 0)) t c+sv true 0 1 = -q - 1:=by
    unfold sv
    rw [hz]
    by_cases h0:q=0
    ·rw [beq_iff_eq.2 h0]; simp only [Bool.not_true,cond_false,cond_true]; omega
    ·rw [beq_eq_false_iff_ne.2 h0]; simp only [Bool.not_false,cond_true]; omega
   have hn:((-q - 1).natAbs:Int)=q+1:=by omega
   have ho:ovr (q+1)=false:=QeE (by omega)
   have hAdd:=QuI (x:=x) (!(t == 0 && c == 0)) true t c 0 1 (by omega) (by omega) (by omega) (by omega) (by omega) (by omega) (by omega) (by omega)
   rw [hs] at hAdd
   unfold aG bH bL bE at hAdd
   rw [hn,ho] at hAdd
   simp only [cond_false] at hAdd
   refine Qab Tryz.func224 rfl rfl fun w=>?_
   refine Qaa (by kernel_rfl) ?_
   repeat' (first|((with_reducible show callW _ _ _ (some (225,_)) _ _);refine callP Qyn rfl (hAdd) ?_)|((with_reducible show callW _ _ _ (some (226,_)) _ _);refine callP Qgv rfl (QhL (-1) (by omega) (by omega)) ?_)|((with_reducible show callW _ _ _ (some (233,_)) _ _);refine callP QcO rfl (QcG ..) ?_)|((with_reducible show callW _ _ _ (some (282,_)) _ _);refine callP QiL rfl (QhW (h % d) l d a2 hl hl1 a3 hd1) ?_)|((with_reducible show cW _ _ (.region 3 _ true) _ _);refine Qas Qi1 (by kernel_rfl) Qaf (by kernel_rfl) ?_)|((fail_if_success (with_reducible refine stk ?_));simp only [WE,Nat.reduceLeDiff,segX,Nat.reduceBEq,Nat.reduceAdd,Nat.reduceEqDiff,Int.reduceNeg,Int.reduceLT,Int.reduceBNe,ty_4,QbW,QaS,Qck,Qep,Qdj,QbC,Qb0,QjH,f1,f2,e1,e2,hc,c2,g1,m1,k3]))
   rw [e3,k1,k2]
   unfold bigV
   rw [hn]
theorem QwA {a b:Int}:0 < cmpI a b↔b < a:=by
 unfold cmpI; (repeat' split) <;> omega
theorem Qwz {a b:Int}:cmpI a b < 0↔a < b:=by
 unfold cmpI; (repeat' split) <;> omega
theorem QuL {x:Nat→Obj→Prop} (g:Bool) (h l:Int) (hh:0≤h) (hh1:h < 18446744073709551616) (hl:0≤l) (hl1:l < 18446744073709551616) :
  PureC Tryz.prog x 227 [.agg #[.bool g,.int .u64 h,.int .u64 l]] (.int .i64 (sat (sv g h l))):=by
 have s1:sv (decide ((9223372036854775807:Int) < 0)) 0 ((9223372036854775807:Int).natAbs)=9223372036854775807:=rfl
 have s2:sv (decide ((-9223372036854775808:Int) < 0)) 0 ((-9223372036854775808:Int).natAbs) = -9223372036854775808:=rfl
 have hC1:=QfU (x:=x) g false h l 0 9223372036854775807 hh hh1 hl hl1 (by omega) (by omega) (by omega) (by omega)
 have hC2:=QfU (x:=x) g true h l 0 9223372036854775808 hh hh1 hl hl1 (by omega) (by omega) (by omega) (by omega)
 have n1:(((9223372036854775807:Int)).natAbs:Int)=9223372036854775807:=rfl
 have n2:(((-9223372036854775808:Int)).natAbs:Int)=9223372036854775808:=rfl
 refine Qab Tryz.func227 rfl rfl fun w=>?_
 refine Qaa (by kernel_rfl) ?_
 repeat' (first|(with_reducible refine Qah (fun _=>?_) (fun _=>?_))|((with_reducible show callW _ _ _ (some (185,_)) _ _);refine callP Qgu rfl (hC1) ?_)|((with_reducible show callW _ _ _ (some (185,_)) _ _);refine callP Qgu rfl (hC2) ?_)|((with_reducible show callW _ _ _ (some (226,_)) _ _);refine callP Qgv rfl (QhL _ (by omega) (by omega)) ?_)|((with_reducible show cW _ _ (.region 1 _ true) _ _);refine Qas QA8 (by kernel_rfl) Qaf (by kernel_rfl) ?_)|((with_reducible show cW _ _ (.region 3 _ true) _ _);refine Qas QA9 (by kernel_rfl) Qaf (by kernel_rfl) ?_)|((fail_if_success (with_reducible refine stk ?_));simp only [WE,segX,Nat.reduceBEq,Int.reduceNeg,Int.reduceLT,ty_4,QbW,QaS,Qck,Qdj,Qms,QDN,n1,n2]))
 all_goals refine congrArg (Value.int .i64) ?_
 all_goals simp only [decide_eq_true_eq,decide_eq_false_iff_not] at *
 all_goals simp only [QwA,Qwz,QbN,sat] at *
 all_goals (repeat' split)
 all_goals first
  | omega
  | (cases g <;> first | contradiction | (simp only [sv,cond_true,cond_false] at * <;> omega))
theorem QeB {Z:Int} (h:(Z.natAbs:Int) < 340282366920938463463374607431768211456):(0≤(Z.natAbs:Int) / 18446744073709551616∧(Z.natAbs:Int) / 18446744073709551616 < 18446744073709551616)∧0≤(Z.natAbs:Int) % 18446744073709551616∧(Z.natAbs:Int) % 18446744073709551616 < 18446744073709551616:=by
 have h0:0≤(Z.natAbs:Int):=Int.natCast_nonneg _
 generalize (Z.natAbs:Int)=N at *
 exact ⟨⟨Int.ediv_nonneg h0 (by decide),Int.ediv_lt_of_lt_mul (by decide) (by omega)⟩,Int.emod_nonneg _ (by decide),Int.emod_lt_of_pos _ (by decide)⟩
theorem Qhn (Z:Int):sv (decide (Z < 0)) ((Z.natAbs:Int) / 18446744073709551616) ((Z.natAbs:Int) % 18446744073709551616)=Z:=by
 have e:=Int.mul_ediv_add_emod (Z.natAbs:Int) 18446744073709551616
 rw [Int.mul_comm] at e
 unfold sv
 rw [e]
 by_cases h:Z < 0
 ·rw [decide_eq_true h]
  show -(Z.natAbs:Int)=Z
  omega
 ·rw [decide_eq_false h]
  show (Z.natAbs:Int)=Z
  omega
theorem QhJ {x:Nat→Obj→Prop} (Z d:Int) (hZ:(Z.natAbs:Int) < 340282366920938463463374607431768211456) (hd:0 < d) (hd1:d < 18446744073709551616) :
  PureC Tryz.prog x 224 [bigV Z,.int .u64 d] (.tuple #[bigV (Z / d),.int .u64 (Z % d),.int .i64 0]):=by
 have h:=QeB hZ
 have:=QuK (x:=x) (decide (Z < 0)) _ _ d h.1.1 h.1.2 h.2.1 h.2.2 hd hd1
 rw [Qhn] at this
 exact this
theorem Qlr {x:Nat→Obj→Prop} (Z:Int) (hZ:(Z.natAbs:Int) < 340282366920938463463374607431768211456):PureC Tryz.prog x 227 [bigV Z] (.int .i64 (sat Z)):=by
 have h:=QeB hZ
 have:=QuL (x:=x) (decide (Z < 0)) _ _ h.1.1 h.1.2 h.2.1 h.2.2
 rw [Qhn] at this
 exact this
theorem Qls {x:Nat→Obj→Prop} (n:Int) (h:in64 n):PureC Tryz.prog x 226 [.int .i64 n] (bigV n):=by
 have:=QhL (x:=x) n h.1 h.2
 have e1:(n.natAbs:Int) / 18446744073709551616=0:=by unfold in64 at h; omega
 have e2:(n.natAbs:Int) % 18446744073709551616=n.natAbs:=by unfold in64 at h; omega
 unfold bigV
 rw [e1,e2]
 exact this
theorem Quf {a b:Int}:bigV a=bigV b↔a=b:=by
 constructor
 ·intro h
  unfold bigV at h
  simp only [Value.agg.injEq,Array.mk.injEq,List.cons.injEq,Value.bool.injEq,Value.int.injEq,true_and,and_true,decide_eq_decide] at h
  omega
 ·exact fun h=>h▸rfl
def floN (a b c:Int):Int:=if c < 1 then 0 else fitV (a * b / c)
def floE (a b c:Int):Int:=if c < 1 then 20 else fitE (a * b / c)
theorem Qvf {x:Nat→Obj→Prop} (r d:Int):PureC Tryz.prog x 162 [.int .u64 r,.int .u64 d] (.bool false):=by
 refine Qab Tryz.func162 rfl rfl fun w=>?_
 refine Qaa (by kernel_rfl) ?_
 repeat' (first|((fail_if_success (with_reducible refine stk ?_));simp only [WE,Nat.reduceAdd,QDg]))
theorem Qvh {x:Nat→Obj→Prop} (a b c:Int) (ha:in64 a) (hb:in64 b) (hc:in64 c) :
  PureC Tryz.prog x 163 [.agg #[.func (.func 162) #[] #[]],.int .i64 a,.int .i64 b,.int .i64 c] (.tuple #[.int .i64 (floN a b c),.int .i64 (floE a b c)]):=by
 have hc':=hc
 unfold in64 at hc'
 unfold floN floE
 by_cases h0:c < 1
 ·have f0:decide (c < 1)=true:=decide_eq_true h0
  refine Qab Tryz.func163 rfl rfl fun w=>?_
  refine Qaa (by kernel_rfl) ?_
  repeat' (first|((fail_if_success (with_reducible refine stk ?_));simp only [WE,Nat.reduceBEq,Nat.reduceAdd,QrW,f0]))
  rw [if_pos h0,if_pos h0]
 ·have f0:decide (c < 1)=false:=decide_eq_false h0
  have w1:wr .u64 c=c:=Qar (by omega) (by omega)
  obtain ⟨h1,h2,h3⟩:=QgX ha hb
  have hq:((a * b / c).natAbs:Int) < 340282366920938463463374607431768211456:=by
   have:=Int.mul_ediv_add_emod (a * b) c
   have:=Int.emod_nonneg (a * b) (show c≠0 by omega)
   have:=Int.emod_lt_of_pos (a * b) (show 0 < c by omega)
   have b1:a * b / c≤85070591730234615865843651857942052864:=Int.ediv_le_of_le_mul (by omega) (by
    have:85070591730234615865843651857942052864 * 1≤85070591730234615865843651857942052864 * c:=Int.mul_le_mul_of_nonneg_left (by omega) (by omega)
    omega)
   have b2 : -85070591730234615865843651857942052864≤a * b / c:=(Int.le_ediv_iff_mul_le (by omega)).2 (by
    have : -85070591730234615865843651857942052864 * c≤-85070591730234615865843651857942052864 * 1:=Int.mul_le_mul_of_nonpos_left (by omega) (by omega)
    omega)
   omega
  rw [if_neg h0,if_neg h0]
  generalize hQ:a * b / c=q at *
  have eS:fitV q=if q=sat q then sat q else 0:=by
   unfold fitV sat
   (repeat' split) <;> omega
  have eE:fitE q=if q=sat q then 0 else 10:=by
   unfold fitE sat
   (repeat' split) <;> omega
  have hD:=QhJ (x:=x) (a * b) c (by omega) (by omega) (by omega)
  rw [hQ] at hD
  refine Qab Tryz.func163 rfl rfl fun w=>?_
  refine Qaa (by kernel_rfl) ?_
  repeat' (first|(((with_reducible show callW _ _ _ (some (162,_)) _ _);refine callP (Qac Tryz.func162 rfl rfl) rfl (Qvf _ _) ?_))|(with_reducible refine Qah (fun _=>?_) (fun _=>?_))|((with_reducible show callW _ _ _ (some (186,_)) _ _);refine callP QiC rfl (QhK a b ha hb) ?_)|((with_reducible show callW _ _ _ (some (224,_)) _ _);refine callP QiB rfl (hD) ?_)|((with_reducible show callW _ _ _ (some (226,_)) _ _);refine callP Qgv rfl (Qls _ (QeI q)) ?_)|((with_reducible show callW _ _ _ (some (227,_)) _ _);refine callP Qn0 rfl (Qlr q hq) ?_)|((with_reducible show cW _ _ (.region 8 _ true) _ _);refine Qas QAY (by kernel_rfl) Qaf (by kernel_rfl) ?_)|((fail_if_success (with_reducible refine stk ?_));simp only [WE,segX,Nat.reduceBEq,Nat.reduceAdd,Nat.reduceEqDiff,Int.reduceBNe,QF6,QaS,Qyb,QbC,QnA,Qh4,QrW,f0,w1,bigV]))
  all_goals rename_i hE
  all_goals rw [eS,eE]
  all_goals simp only [Bool.not_eq_true',Bool.not_eq_false',Bool.and_eq_false_iff,Bool.and_eq_true,beq_iff_eq,beq_eq_false_iff_ne,ne_eq,decide_eq_decide] at hE
  ·have:q≠sat q:=fun e=>by rw [←e] at hE; simp at hE
   rw [if_neg this,if_neg this]
  ·have hh:bigV q=bigV (sat q):=by
    unfold bigV
    rw [hE.2.1,hE.2.2,decide_eq_decide.2 hE.1]
   have:q=sat q:=Quf.1 hh
   rw [if_pos this,if_pos this]
theorem Qdd {x:Nat→Obj→Prop} (a b c:Int) (ha:in64 a) (hb:in64 b) (hc:in64 c) :
  PureC Tryz.prog x 100 [.int .i64 a,.int .i64 b,.int .i64 c] (.tuple #[.int .i64 (floN a b c),.int .i64 (floE a b c)]):=by
 refine Qab Tryz.func100 rfl rfl fun w=>?_
 refine Qaa (by kernel_rfl) ?_
 repeat' (first|((with_reducible show callW _ _ _ (some (163,_)) _ _);refine callP QyR rfl (Qvh a b c ha hb hc) ?_)|((fail_if_success (with_reducible refine stk ?_));simp only [WE,Nat.reduceLeDiff,Nat.reduceBEq,Nat.reduceAdd,Qt9,QCO]))
theorem Qvg {x:Nat→Obj→Prop} (a b:Int) (ha:in64 a) (hb:in64 b) :
  PureC Tryz.prog x 134 [.int .i64 a,.int .i64 b] (.tuple #[.int .i64 (floN a 65536 b),.int .i64 (floE a 65536 b)]):=by
 refine Qab Tryz.func134 rfl rfl fun w=>?_
 refine Qaa (by kernel_rfl) ?_
 repeat' (first|((with_reducible show callW _ _ _ (some (100,_)) _ _);refine callP QcS rfl (Qdd _ _ _ ha (i64k (by omega) (by omega)) hb) ?_)|((fail_if_success (with_reducible refine stk ?_));simp only [WE,Nat.reduceBEq,Nat.reduceAdd,QC8]))
theorem QlP {x:Nat→Obj→Prop} (a b:Int) (ha:in64 a) (hb:in64 b) :
  PureC Tryz.prog x 37 [.int .i64 a,.int .i64 b] (.tuple #[.int .i64 (floN a b 65536),.int .i64 (floE a b 65536)]):=by
 refine Qab Tryz.func37 rfl rfl fun w=>?_
 refine Qaa (by kernel_rfl) ?_
 repeat' (first|((with_reducible show callW _ _ _ (some (100,_)) _ _);refine callP QcS rfl (Qdd _ _ _ ha hb (i64k (by omega) (by omega))) ?_)|((fail_if_success (with_reducible refine stk ?_));simp only [WE,Nat.reduceBEq,Nat.reduceAdd,QEu]))
theorem QxX (n:Int):in64 (fitV n):=by unfold fitV in64; split <;> omega
theorem Qx7 (a b c:Int):in64 (floN a b c):=by
 unfold floN; split
 ·exact i64k (by omega) (by omega)
 ·exact QxX _
set_option maxHeartbeats 400000
def clkCheck (t:Int):Bool:=decide (0≤t) && decide (t≤1099511627776)
def clkStep (now at_:Int):Int×Int:=bif !clkCheck at_ then (now,51) else bif decide (at_ < now) then (now,50) else (at_,0)
theorem QfW {x:Nat→Obj→Prop} (t:Int):PureC Tryz.prog x 56 [.int .i64 t] (.bool (clkCheck t)):=by
 refine Qab Tryz.func56 rfl rfl fun w=>?_
 refine Qaa (by kernel_rfl) ?_
 repeat' (first|(with_reducible refine Qah (fun _=>?_) (fun _=>?_))|((fail_if_success (with_reducible refine stk ?_));simp only [WE,Nat.reduceBEq,QED]))
 all_goals (simp only [clkCheck, *,Bool.true_and,Bool.false_and]; try rfl)
theorem QuQ {x:Nat→Obj→Prop} {b T:Nat} {f:Nat×Nat} (n e:Int) (hx:x b (.cells #[.int .i64 n] T f)):PureC Tryz.prog x 119 [.int .i64 e,.pointer (some ⟨b,0,none⟩)] (.tuple #[.int .i64 n,.int .i64 e]):=by
 refine Qab Tryz.func119 rfl rfl fun w=>?_
 refine Qaa (by kernel_rfl) ?_
 have hl:loadX false 1 0 #[.int .i64 n]=some (.int .i64 n):=rfl
 repeat' (first|(with_reducible refine Qad hx hl ?_)|((fail_if_success (with_reducible refine stk ?_));simp only [WE,Nat.reduceBEq,Nat.reduceAdd,ty_3,QCW]))
theorem Qlz {x:Nat→Obj→Prop} (now at_:Int):PureC Tryz.prog x 72 [.int .i64 now,.int .i64 at_] (.tuple #[.int .i64 (clkStep now at_).1,.int .i64 (clkStep now at_).2]):=by
 refine Qab Tryz.func72 rfl rfl fun w=>?_
 refine Qaa (by kernel_rfl) ?_
 repeat' (first|(((with_reducible show callW _ _ _ (some (119,_)) _ _);refine callO Qyr (fun s=>QuQ now _ (.inr ⟨0,_,rfl,rfl,rfl⟩)) ?_))|(with_reducible refine Qah (fun _=>?_) (fun _=>?_))|((with_reducible show callW _ _ _ (some (56,_)) _ _);refine callP Qgw rfl (QfW ..) ?_)|((fail_if_success (with_reducible refine stk ?_));simp only [WE,Nat.reduceBEq,Nat.reduceAdd,ty_3,QEN]))
 all_goals (simp only [clkStep, *,cond_true,cond_false]; try rfl)
def clkAfter (now by_:Int):Int:=mx (mn (now+by_) 1099511627776) 0
theorem QuP {x:Nat→Obj→Prop} (now by_:Int) (h1 : -9223372036854775808≤now∧now≤9223372036854775807) (h2 : -9223372036854775808≤by_∧by_≤9223372036854775807) :
  PureC Tryz.prog x 199 [.int .i64 now,.int .i64 by_] (.int .i64 (clkAfter now by_)):=by
 refine Qab Tryz.func199 rfl rfl fun w=>?_
 refine Qaa (by kernel_rfl) ?_
 repeat' (first|(with_reducible refine Qah (fun _=>?_) (fun _=>?_))|((fail_if_success (with_reducible refine stk ?_));simp only [WE,Nat.reduceBEq,Nat.reduceAdd,Int.reduceNeg,QDE]))
 all_goals (simp only [decide_eq_true_eq,decide_eq_false_iff_not,QbN] at *)
 all_goals (unfold clkAfter; congr 1; unfold mx mn; (repeat' split) <;> omega)
structure Fl where
 sent:Int
 told:Int
 out:Int
def Fl.v (f:Fl):Value:=.agg #[.int .i64 f.sent,.int .i64 f.told,.int .i64 f.out]
def flOk (f:Fl):Prop:=0≤f.sent∧0≤f.told∧0≤f.out∧f.told≤f.sent∧f.out≤f.sent - f.told
instance (f:Fl):Decidable (flOk f):=by unfold flOk; infer_instance
structure FlIn (f:Fl):Prop where
 sent:in64 f.sent
 told:in64 f.told
 out:in64 f.out
def flRoom (f:Fl) (r:Int):Int:=if flOk f∧f.out≤r then r - f.out else 0
def flSend (f:Fl) (n r:Int):Fl×Int:=
 if ¬ (flOk f∧1≤n) then (f,201) else if 9223372036854775807 - n < f.sent then (f,10) else if flRoom f r < n then (f,203) else (⟨f.sent+n,f.told,f.out+n⟩,0)
def flBack (f:Fl) (n t:Int):Fl×Int:=
 if ¬ (flOk f∧1≤n) then (f,201) else if f.out < n then (f,202) else (⟨f.sent,f.told+t,f.out - n⟩,0)
theorem Qf0 {x:Nat→Obj→Prop} (f:Fl) (h:FlIn f):PureC Tryz.prog x 57 [f.v] (.bool (decide (flOk f))):=by
 obtain ⟨a,b,c⟩:=f
 have h0:=h
 obtain ⟨h1,h2,h3⟩:=h
 unfold in64 at h1 h2 h3
 unfold Fl.v
 simp only at *
 refine Qab Tryz.func57 rfl rfl fun w=>?_
 refine Qaa (by kernel_rfl) ?_
 repeat' (first|(with_reducible refine Qah (fun _=>?_) (fun _=>?_))|((fail_if_success (with_reducible refine stk ?_));simp only [WE,Nat.reduceBEq,ty_3,QbS,Qiv,QbE,QEE,QbN]))
 all_goals refine congrArg Value.bool ?_
 all_goals simp only [decide_eq_true_eq,decide_eq_false_iff_not] at *
 all_goals unfold flOk
 all_goals first
  | exact decide_eq_decide.2 (by dsimp only; omega)
  | exact (decide_eq_false (by dsimp only; omega)).symm
theorem Qvd {x:Nat→Obj→Prop} (f:Fl) (r:Int) (h:FlIn f) (hr:in64 r):PureC Tryz.prog x 184 [f.v,.int .i64 r] (.int .i64 (flRoom f r)):=by
 obtain ⟨a,b,c⟩:=f
 have h0:=h
 obtain ⟨h1,h2,h3⟩:=h
 have hr0:=hr
 unfold in64 at h1 h2 h3 hr
 unfold Fl.v
 simp only at *
 refine Qab Tryz.func184 rfl rfl fun w=>?_
 refine Qaa (by kernel_rfl) ?_
 repeat' (first|(with_reducible refine Qah (fun _=>?_) (fun _=>?_))|((with_reducible show callW _ _ _ (some (57,_)) _ _);refine callP QgE rfl (Qf0 ⟨a,b,c⟩ h0) ?_)|((fail_if_success (with_reducible refine stk ?_));simp only [WE,segX,Nat.reduceBEq,Nat.reduceAdd,ty_3,Qa0,QbE,QDt,QbN]))
 all_goals refine congrArg (Value.int .i64) ?_
 all_goals simp only [decide_eq_true_eq,decide_eq_false_iff_not,Bool.not_eq_true',Bool.not_eq_false',bne_iff_ne,ne_eq,bne_eq_false_iff_eq,beq_iff_eq,beq_eq_false_iff_ne,Bool.and_eq_true,Bool.and_eq_false_iff,Bool.or_eq_true,Bool.or_eq_false_iff,not_true_eq_false,not_false_eq_true] at *
 all_goals simp only [flOk] at *
 all_goals unfold flRoom flOk
 all_goals dsimp only
 all_goals split <;> omega
theorem Qve {x:Nat→Obj→Prop} (f:Fl) (n r:Int) (h:FlIn f) (hn:in64 n) (hr:in64 r):PureC Tryz.prog x 125 [f.v,.int .i64 n,.int .i64 r] (.tuple #[(flSend f n r).1.v,.int .i64 (flSend f n r).2]):=by
 obtain ⟨a,b,c⟩:=f
 have h0:=h
 obtain ⟨h1,h2,h3⟩:=h
 have hr0:=hr
 unfold in64 at h1 h2 h3 hr hn
 unfold Fl.v
 simp only at *
 refine Qab Tryz.func125 rfl rfl fun w=>?_
 refine Qaa (by kernel_rfl) ?_
 repeat' (first|(with_reducible refine Qah (fun _=>?_) (fun _=>?_))|((with_reducible show callW _ _ _ (some (57,_)) _ _);refine callP QgE rfl (Qf0 ⟨a,b,c⟩ h0) ?_)|((with_reducible show callW _ _ _ (some (184,_)) _ _);refine callP QyQ rfl (Qvd ⟨a,b,c⟩ r h0 hr0) ?_)|((fail_if_success (with_reducible refine stk ?_));simp only [WE,segX,Nat.reduceBEq,Nat.reduceAdd,Nat.reduceEqDiff,ty_3,Qa0,QbS,QbE,QeM,QC1,QbN]))
 all_goals simp only [decide_eq_true_eq,decide_eq_false_iff_not,Bool.not_eq_true',Bool.not_eq_false',bne_iff_ne,ne_eq,bne_eq_false_iff_eq,beq_iff_eq,beq_eq_false_iff_ne,Bool.and_eq_true,Bool.and_eq_false_iff,Bool.or_eq_true,Bool.or_eq_false_iff,not_true_eq_false,not_false_eq_true] at *
 all_goals unfold flSend
 all_goals dsimp only [Fl.v]
 ·rw [if_pos (fun h=>by first | exact absurd h.1 (by assumption) | exact absurd h.2 (by omega))]
 ·rw [if_pos (fun h=>by first | exact absurd h.1 (by assumption) | exact absurd h.2 (by omega))]
 ·rw [if_neg (fun h=>h ⟨by assumption,by omega⟩),if_pos (by omega)]
 ·rw [if_neg (fun h=>h ⟨by assumption,by omega⟩),if_neg (by omega),if_pos (by assumption)]
 ·rename_i k1 k2 k3 k4
  have k5:c+n≤9223372036854775807:=by unfold flOk at k1; dsimp only at k1; omega
  rw [if_neg (fun h=>h ⟨by assumption,by omega⟩),if_neg (by omega),if_neg (by assumption)]
  unfold flOk at k1
  dsimp only at k1
  rw [show (a+n+9223372036854775808) % 18446744073709551616 - 9223372036854775808=a+n by omega,show (c+n+9223372036854775808) % 18446744073709551616 - 9223372036854775808=c+n by omega]
theorem QlO {x:Nat→Obj→Prop} (f:Fl) (n r:Int) (h:FlIn f) (hn:in64 n) (hr:r=n∨r=0):PureC Tryz.prog x 187 [f.v,.int .i64 n,.int .i64 r] (.tuple #[(flBack f n r).1.v,.int .i64 (flBack f n r).2]):=by
 obtain ⟨a,b,c⟩:=f
 have h0:=h
 obtain ⟨h1,h2,h3⟩:=h
 unfold in64 at h1 h2 h3 hn
 unfold Fl.v
 simp only at *
 refine Qab Tryz.func187 rfl rfl fun w=>?_
 refine Qaa (by kernel_rfl) ?_
 repeat' (first|(with_reducible refine Qah (fun _=>?_) (fun _=>?_))|((with_reducible show callW _ _ _ (some (57,_)) _ _);refine callP QgE rfl (Qf0 ⟨a,b,c⟩ h0) ?_)|((fail_if_success (with_reducible refine stk ?_));simp only [WE,segX,Nat.reduceBEq,Nat.reduceAdd,Nat.reduceEqDiff,ty_3,Qa0,Qiv,QbE,QeM,QDw,QbN]))
 all_goals simp only [decide_eq_true_eq,decide_eq_false_iff_not,Bool.not_eq_true',Bool.not_eq_false',bne_iff_ne,ne_eq,bne_eq_false_iff_eq,beq_iff_eq,beq_eq_false_iff_ne,Bool.and_eq_true,Bool.and_eq_false_iff,Bool.or_eq_true,Bool.or_eq_false_iff,not_true_eq_false,not_false_eq_true] at *
 all_goals unfold flBack
 all_goals dsimp only [Fl.v]
 ·rw [if_pos (fun h=>by first | exact absurd h.1 (by assumption) | exact absurd h.2 (by omega))]
 ·rw [if_pos (fun h=>by first | exact absurd h.1 (by assumption) | exact absurd h.2 (by omega))]
 ·rw [if_neg (fun h=>h ⟨by assumption,by omega⟩),if_pos (by omega)]
 ·rename_i k1 k2 k3
  rw [if_neg (fun h=>h ⟨by assumption,by omega⟩),if_neg (by omega)]
  unfold flOk at k1
  dsimp only at k1
  rw [show (c - n+9223372036854775808) % 18446744073709551616 - 9223372036854775808=c - n by omega,show (b+r+9223372036854775808) % 18446744073709551616 - 9223372036854775808=b+r by omega]
theorem QlN {x:Nat→Obj→Prop} (f:Fl) (n:Int) (h:FlIn f) (hn:in64 n):PureC Tryz.prog x 128 [f.v,.int .i64 n] (.tuple #[(flBack f n n).1.v,.int .i64 (flBack f n n).2]):=by
 obtain ⟨a,b,c⟩:=f
 unfold Fl.v
 refine Qab Tryz.func128 rfl rfl fun w=>?_
 refine Qaa (by kernel_rfl) ?_
 repeat' (first|((with_reducible show callW _ _ _ (some (187,_)) _ _);refine callP Qol rfl (QlO ⟨a,b,c⟩ n n h hn (.inl rfl)) ?_)|((fail_if_success (with_reducible refine stk ?_));simp only [WE,segX,Nat.reduceBEq,Nat.reduceAdd,Nat.reduceEqDiff,Qa0,QeM,QC4,Fl.v]))
theorem Qf1 {x:Nat→Obj→Prop} (f:Fl) (n:Int) (h:FlIn f) (hn:in64 n):PureC Tryz.prog x 138 [f.v,.int .i64 n] (.tuple #[(flBack f n 0).1.v,.int .i64 (flBack f n 0).2]):=by
 obtain ⟨a,b,c⟩:=f
 unfold Fl.v
 refine Qab Tryz.func138 rfl rfl fun w=>?_
 refine Qaa (by kernel_rfl) ?_
 repeat' (first|((with_reducible show callW _ _ _ (some (187,_)) _ _);refine callP Qol rfl (QlO ⟨a,b,c⟩ n 0 h hn (.inr rfl)) ?_)|((fail_if_success (with_reducible refine stk ?_));simp only [WE,segX,Nat.reduceBEq,Nat.reduceAdd,Nat.reduceEqDiff,Qa0,QeM,QDc,Fl.v]))
structure Rd where
 id:Int
 end_:Int
def Rd.v (r:Rd):Value:=.agg #[.int .i64 r.id,.int .i64 r.end_]
def rdOk (r:Rd):Prop:=0≤r.id∧0≤r.end_
instance (r:Rd):Decidable (rdOk r):=by unfold rdOk; infer_instance
def rdBegin (s:Int):Rd:=⟨0,mx s 0⟩
def rdAck (r:Rd) (told sent:Int):Rd×Bool×Int:=
 if ¬ (rdOk r∧0≤told∧told≤sent) then (r,false,201) else if told < r.end_ then (r,false,0) else if r.id=9223372036854775807 then (r,false,201) else (⟨r.id+1,sent⟩,true,0)
theorem Ql2 {x:Nat→Obj→Prop} (r:Rd):PureC Tryz.prog x 61 [r.v] (.bool (decide (rdOk r))):=by
 obtain ⟨a,b⟩:=r
 unfold Rd.v
 refine Qab Tryz.func61 rfl rfl fun w=>?_
 refine Qaa (by kernel_rfl) ?_
 repeat' (first|(with_reducible refine Qah (fun _=>?_) (fun _=>?_))|((fail_if_success (with_reducible refine stk ?_));simp only [WE,Nat.reduceBEq,ty_3,QnP,QnQ,QEH]))
 all_goals refine congrArg Value.bool ?_
 all_goals simp only [decide_eq_true_eq,decide_eq_false_iff_not,Bool.not_eq_true',Bool.not_eq_false',bne_iff_ne,ne_eq,bne_eq_false_iff_eq,beq_iff_eq,beq_eq_false_iff_ne,Bool.and_eq_true,Bool.and_eq_false_iff,Bool.or_eq_true,Bool.or_eq_false_iff,not_true_eq_false,not_false_eq_true] at *
 all_goals unfold rdOk
 all_goals first
  | exact decide_eq_decide.2 (by dsimp only; omega)
  | exact (decide_eq_false (by dsimp only; omega)).symm
theorem Qv5 {x:Nat→Obj→Prop} (s:Int):PureC Tryz.prog x 142 [.int .i64 s] (rdBegin s).v:=by
 refine Qab Tryz.func142 rfl rfl fun w=>?_
 refine Qaa (by kernel_rfl) ?_
 repeat' (first|((fail_if_success (with_reducible refine stk ?_));simp only [WE,Nat.reduceLeDiff,segX,Nat.reduceBEq,Nat.reduceAdd,Nat.reduceEqDiff,QbY,Qj2,QkD,QDf]))
 rfl
theorem Qv4 {x:Nat→Obj→Prop} {b T:Nat} {f:Nat×Nat} (r:Rd) (e:Int) (hx:x b (.cells #[.int .i64 r.id,.int .i64 r.end_] T f)):PureC Tryz.prog x 193 [.int .i64 e,.pointer (some ⟨b,0,none⟩)] (.tuple #[r.v,.bool false,.int .i64 e]):=by
 have hl:loadX true 2 0 #[.int .i64 r.id,.int .i64 r.end_]=some r.v:=rfl
 refine Qab Tryz.func193 rfl rfl fun w=>?_
 refine Qaa (by kernel_rfl) ?_
 repeat' (first|(with_reducible refine Qad hx hl ?_)|((fail_if_success (with_reducible refine stk ?_));simp only [WE,segX,Nat.reduceBEq,Nat.reduceAdd,Nat.reduceEqDiff,QbY,Qj2,QDA,Rd.v]))
theorem Qv3 {x:Nat→Obj→Prop} (r:Rd) (t s:Int) (h1:in64 r.id):PureC Tryz.prog x 130 [r.v,.int .i64 t,.int .i64 s] (.tuple #[(rdAck r t s).1.v,.bool (rdAck r t s).2.1,.int .i64 (rdAck r t s).2.2]):=by
 obtain ⟨a,b⟩:=r
 unfold in64 at h1
 unfold Rd.v
 refine Qab Tryz.func130 rfl rfl fun w=>?_
 refine Qaa (by kernel_rfl) ?_
 repeat' (first|(((with_reducible show callW _ _ _ (some (193,_)) _ _);refine callO (Qac Tryz.func193 rfl rfl) (fun s=>Qv4 ⟨a,b⟩ _ (.inr ⟨0,_,rfl,rfl,rfl⟩)) ?_))|(with_reducible refine Qah (fun _=>?_) (fun _=>?_))|((with_reducible show callW _ _ _ (some (61,_)) _ _);refine callP Qov rfl (Ql2 ⟨a,b⟩) ?_)|((fail_if_success (with_reducible refine stk ?_));simp only [WE,Nat.reduceLeDiff,segX,Nat.reduceBEq,Nat.reduceAdd,Nat.reduceEqDiff,ty_3,QbY,QnP,QnQ,Qj2,QkD,QC5,QbN,Rd.v]))
 all_goals simp only [decide_eq_true_eq,decide_eq_false_iff_not,Bool.not_eq_true',Bool.not_eq_false',bne_iff_ne,ne_eq,bne_eq_false_iff_eq,beq_iff_eq,beq_eq_false_iff_ne,Bool.and_eq_true,Bool.and_eq_false_iff,Bool.or_eq_true,Bool.or_eq_false_iff,not_true_eq_false,not_false_eq_true] at *
 all_goals unfold rdAck
 all_goals dsimp only [Rd.v] at *
 ·rw [if_pos (fun h=>absurd h.1 (by assumption))]
 ·rw [if_pos (fun h=>absurd h.2.1 (by omega))]
 ·rw [if_pos (fun h=>absurd h.2.2 (by omega))]
 ·rw [if_neg (fun h=>h ⟨by assumption,by omega,by omega⟩),if_pos (by omega)]
 ·rw [if_neg (fun h=>h ⟨by assumption,by omega,by omega⟩),if_neg (by omega),if_pos (by omega)]
 ·rw [if_neg (fun h=>h ⟨by assumption,by omega,by omega⟩),if_neg (by omega),if_neg (by omega)]
  rw [show (a+1+9223372036854775808) % 18446744073709551616 - 9223372036854775808=a+1 by omega]
def lim3 (n l h:Int):Int:=mn (mx n l) h
theorem Qf4 {x:Nat→Obj→Prop} (n l h:Int):PureC Tryz.prog x 246 [.int .i64 n,.int .i64 l,.int .i64 h] (.int .i64 (lim3 n l h)):=by
 refine Qab Tryz.func246 rfl rfl fun w=>?_
 refine Qaa (by kernel_rfl) ?_
 repeat' (first|((fail_if_success (with_reducible refine stk ?_));simp only [WE,Nat.reduceBEq,Nat.reduceAdd,QD7]))
 rfl
theorem QvT {x:Nat→Obj→Prop} (e p:Int):PureC Tryz.prog x 245 [.int .i64 e,.int .i64 p] (.tuple #[.int .i64 (if e < p then 9 else 1),.int .i64 (if e < p then 17 else 1)]):=by
 refine Qab Tryz.func245 rfl rfl fun w=>?_
 refine Qaa (by kernel_rfl) ?_
 repeat' (first|(with_reducible refine Qah (fun _=>?_) (fun _=>?_))|((fail_if_success (with_reducible refine stk ?_));simp only [WE,Nat.reduceBEq,Nat.reduceAdd,QD6]))
 all_goals simp only [decide_eq_true_eq,decide_eq_false_iff_not,Bool.not_eq_true',Bool.not_eq_false',bne_iff_ne,ne_eq,bne_eq_false_iff_eq,beq_iff_eq,beq_eq_false_iff_ne,Bool.and_eq_true,Bool.and_eq_false_iff,Bool.or_eq_true,Bool.or_eq_false_iff,not_true_eq_false,not_false_eq_true] at *
 all_goals simp only [*,if_true,if_false]
def renoStep (est prior window told:Int):Int:=
 lim3 (lim3 est 0 68719476736+lim3 told 0 68719476736 * (if est < prior then 9 else 1) * 65536 / (lim3 window 65536 68719476736 * (if est < prior then 17 else 1))) 0 68719476736
theorem Qe7 {a b c:Int} (hc:1≤c) (h:in64 (a * b / c)):floN a b c=a * b / c:=by
 unfold in64 at h
 unfold floN fitV
 rw [if_neg (by omega),if_pos h]
theorem Qgk {a b c:Int} (hc:1≤c) (h:in64 (a * b / c)):floE a b c=0:=by
 unfold in64 at h
 unfold floE fitE
 rw [if_neg (by omega),if_pos h]
theorem Qh6 {a c:Int} (h0:0≤a) (h1:a≤9223372036854775807) (hc:1≤c):0≤a / c∧a / c≤9223372036854775807∧in64 (a / c):=by
 have p1:=Int.ediv_nonneg h0 (show 0≤c by omega)
 have p2:=Int.ediv_le_self c h0
 exact ⟨p1,by omega,i64k (by omega) (by omega)⟩
theorem QvU {x:Nat→Obj→Prop} (e p w t:Int):PureC Tryz.prog x 197 [.int .i64 e,.int .i64 p,.int .i64 w,.int .i64 t] (.int .i64 (renoStep e p w t)):=by
 have b1:0≤lim3 e 0 68719476736∧lim3 e 0 68719476736≤68719476736:=by unfold lim3 mn mx; (repeat' split) <;> omega
 have b2:65536≤lim3 w 65536 68719476736∧lim3 w 65536 68719476736≤68719476736:=by unfold lim3 mn mx; (repeat' split) <;> omega
 have b3:0≤lim3 t 0 68719476736∧lim3 t 0 68719476736≤68719476736:=by unfold lim3 mn mx; (repeat' split) <;> omega
 unfold renoStep
 obtain ⟨E,hE⟩:∃ E,lim3 e 0 68719476736=E:=⟨_,rfl⟩
 obtain ⟨W,hW⟩:∃ W,lim3 w 65536 68719476736=W:=⟨_,rfl⟩
 obtain ⟨T,hT⟩:∃ T,lim3 t 0 68719476736=T:=⟨_,rfl⟩
 rw [hE] at b1 ⊢
 rw [hW] at b2 ⊢
 rw [hT] at b3 ⊢
 obtain ⟨n,hn⟩:∃ n,(if e < p then (9:Int) else 1)=n:=⟨_,rfl⟩
 obtain ⟨d,hd⟩:∃ d,(if e < p then (17:Int) else 1)=d:=⟨_,rfl⟩
 have n1:1≤n∧n≤9:=by rw [←hn]; split <;> omega
 have d1:1≤d∧d≤17:=by rw [←hd]; split <;> omega
 rw [hn,hd]
 have t1:0≤T * n∧T * n≤68719476736 * 9:=⟨Int.mul_nonneg b3.1 (by omega),Int.mul_le_mul b3.2 n1.2 (by omega) (by omega)⟩
 have t2:65536≤W * d∧W * d≤68719476736 * 17:=⟨by
  have:65536 * 1≤W * d:=Int.mul_le_mul b2.1 d1.1 (by omega) (by omega)
  omega,Int.mul_le_mul b2.2 d1.2 (by omega) (by omega)⟩
 have w1:wr .i64 (T * n)=T * n:=Qag (by omega) (by omega)
 have w2:wr .i64 (W * d)=W * d:=Qag (by omega) (by omega)
 have q1:=Qh6 (a:=T * n * 65536) (c:=W * d) (by omega) (by omega) (by omega)
 have q2:T * n * 65536 / (W * d)≤4503599627370496:=by
  have:=Int.ediv_le_self (W * d) (show 0≤T * n * 65536 by omega)
  have h3:T * n * 65536 / (W * d)≤T * n:=by
   refine Int.ediv_le_of_le_mul (by omega) ?_
   exact Int.mul_le_mul_of_nonneg_left t2.1 t1.1
  omega
 have q3:=Qe7 (a:=T * n) (b:=65536) (c:=W * d) (by omega) q1.2.2
 have q4:sat (E+T * n * 65536 / (W * d))=E+T * n * 65536 / (W * d):=Qcd (i64k (by omega) (by omega))
 have hB:=Qf4 (x:=x) e 0 68719476736
 rw [hE] at hB
 have hB2:=Qf4 (x:=x) w 65536 68719476736
 rw [hW] at hB2
 have hB3:=Qf4 (x:=x) t 0 68719476736
 rw [hT] at hB3
 have hP:=QvT (x:=x) e p
 rw [hn,hd] at hP
 have hF:=Qdd (x:=x) (T * n) 65536 (W * d) (i64k (by omega) (by omega)) (i64k (by omega) (by omega)) (i64k (by omega) (by omega))
 rw [q3] at hF
 have hA:=Qb1 (x:=x) E (T * n * 65536 / (W * d)) (i64k (by omega) (by omega)) q1.2.2
 rw [q4] at hA
 refine Qab Tryz.func197 rfl rfl fun w=>?_
 refine Qaa (by kernel_rfl) ?_
 repeat' (first|((with_reducible show callW _ _ _ (some (100,_)) _ _);refine callP QcS rfl (hF) ?_)|((with_reducible show callW _ _ _ (some (102,_)) _ _);refine callP Qb8 rfl (hA) ?_)|((with_reducible show callW _ _ _ (some (245,_)) _ _);refine callP Qzd rfl (hP) ?_)|((with_reducible show callW _ _ _ (some (246,_)) _ _);refine callP QgI rfl (hB) ?_)|((with_reducible show callW _ _ _ (some (246,_)) _ _);refine callP QgI rfl (hB2) ?_)|((with_reducible show callW _ _ _ (some (246,_)) _ _);refine callP QgI rfl (hB3) ?_)|((with_reducible show callW _ _ _ (some (246,_)) _ _);refine callP QgI rfl (Qf4 _ _ _) ?_)|((fail_if_success (with_reducible refine stk ?_));simp only [WE,Nat.reduceBEq,Nat.reduceAdd,QDD,w1,w2]))
def cutOf (n:Int):Int:=if n < 131072 then 131072 else mn n 68719476736
theorem Qem (n:Int):131072≤cutOf n∧cutOf n≤68719476736:=by unfold cutOf mn; (repeat' split) <;> omega
def cutLeast (n:Int):Int:=cutOf (cutOf n * 7 / 10)
def epFast (last now:Int):Int:=if last≤now then now else mx now 0 * 17 / 20
theorem Qu6 {x:Nat→Obj→Prop} (l n:Int) (hl:in64 l) (hn:in64 n):PureC Tryz.prog x 250 [.int .i64 l,.int .i64 n] (.int .i64 (epFast l n)):=by
 unfold in64 at hl hn
 unfold epFast
 by_cases h:l≤n
 ·have f:decide (l≤n)=true:=decide_eq_true h
  refine Qab Tryz.func250 rfl rfl fun w=>?_
  refine Qaa (by kernel_rfl) ?_
  repeat' (first|((fail_if_success (with_reducible refine stk ?_));simp only [WE,Nat.reduceBEq,Nat.reduceAdd,Qr7,f]))
  rw [if_pos h]
 ·have f:decide (l≤n)=false:=decide_eq_false h
  have hm:0≤mx n 0∧mx n 0≤9223372036854775807:=by unfold mx; split <;> omega
  rw [if_neg h]
  obtain ⟨M,hM⟩:∃ M,mx n 0=M:=⟨_,rfl⟩
  rw [hM] at hm ⊢
  have hq:in64 (M * 17 / 20):=i64k (by omega) (by omega)
  have hF:=Qdd (x:=x) M 17 20 (i64k (by omega) (by omega)) (i64k (by omega) (by omega)) (i64k (by omega) (by omega))
  rw [Qe7 (by omega) hq] at hF
  refine Qab Tryz.func250 rfl rfl fun w=>?_
  refine Qaa (by kernel_rfl) ?_
  repeat' (first|((with_reducible show callW _ _ _ (some (100,_)) _ _);refine callP QcS rfl (hF) ?_)|((fail_if_success (with_reducible refine stk ?_));simp only [WE,Nat.reduceBEq,Nat.reduceAdd,Qr7,f,hM]))
theorem QhM {x:Nat→Obj→Prop} (n:Int):PureC Tryz.prog x 251 [.int .i64 n] (.int .i64 (cutOf n)):=by
 refine Qab Tryz.func251 rfl rfl fun w=>?_
 refine Qaa (by kernel_rfl) ?_
 repeat' (first|((with_reducible show callW _ _ _ (some (164,_)) _ _);refine callP Qcn rfl (Qch _ _ _) ?_)|((fail_if_success (with_reducible refine stk ?_));simp only [WE,Nat.reduceBEq,QEa]))
 rfl
theorem Qu1 {x:Nat→Obj→Prop} (n:Int) (h0:0≤n) (h1:n≤68719476736):PureC Tryz.prog x 314 [.int .i64 n,.int .i64 7] (.int .i64 (cutOf (n * 7 / 10))):=by
 have hF:=Qdd (x:=x) n 7 10 (i64k (by omega) (by omega)) (i64k (by omega) (by omega)) (i64k (by omega) (by omega))
 rw [Qe7 (by omega) (i64k (by omega) (by omega))] at hF
 refine Qab Tryz.func314 rfl rfl fun w=>?_
 refine Qaa (by kernel_rfl) ?_
 repeat' (first|((with_reducible show callW _ _ _ (some (100,_)) _ _);refine callP QcS rfl (hF) ?_)|((with_reducible show callW _ _ _ (some (251,_)) _ _);refine callP QiD rfl (QhM ..) ?_)|((fail_if_success (with_reducible refine stk ?_));simp only [WE,Nat.reduceBEq,Nat.reduceAdd,QEq]))
theorem Qu0 {x:Nat→Obj→Prop} (n:Int) (h0:0≤n) (h1:n≤68719476736):PureC Tryz.prog x 294 [.int .i64 n] (.int .i64 (cutOf (n * 7 / 10))):=by
 refine Qab Tryz.func294 rfl rfl fun w=>?_
 refine Qaa (by kernel_rfl) ?_
 repeat' (first|((with_reducible show callW _ _ _ (some (314,_)) _ _);refine callP QyC rfl (Qu1 n h0 h1) ?_)|((fail_if_success (with_reducible refine stk ?_));simp only [WE,Nat.reduceBEq,QEk]))
theorem QuY {x:Nat→Obj→Prop} (n:Int):PureC Tryz.prog x 249 [.int .i64 n] (.int .i64 (cutLeast n)):=by
 have h:=Qem n
 refine Qab Tryz.func249 rfl rfl fun w=>?_
 refine Qaa (by kernel_rfl) ?_
 repeat' (first|((with_reducible show callW _ _ _ (some (251,_)) _ _);refine callP QiD rfl (QhM ..) ?_)|((with_reducible show callW _ _ _ (some (294,_)) _ _);refine callP QyB rfl (Qu0 _ (by omega) h.2) ?_)|((fail_if_success (with_reducible refine stk ?_));simp only [WE,Nat.reduceBEq,QD8]))
 rfl
theorem QlB {x:Nat→Obj→Prop} (n l:Int) (hl:in64 l):PureC Tryz.prog x 202 [.int .i64 n,.int .i64 l] (.tuple #[.int .i64 (cutLeast n),.int .i64 (epFast l (cutOf n))]):=by
 have h:=Qem n
 refine Qab Tryz.func202 rfl rfl fun w=>?_
 refine Qaa (by kernel_rfl) ?_
 repeat' (first|((with_reducible show callW _ _ _ (some (249,_)) _ _);refine callP Qyz rfl (QuY ..) ?_)|((with_reducible show callW _ _ _ (some (250,_)) _ _);refine callP QyJ rfl (Qu6 _ _ hl (i64k (by omega) (by omega))) ?_)|((with_reducible show callW _ _ _ (some (251,_)) _ _);refine callP QiD rfl (QhM ..) ?_)|((fail_if_success (with_reducible refine stk ?_));simp only [WE,Nat.reduceBEq,Nat.reduceAdd,QDH]))
theorem QuZ {x:Nat→Obj→Prop} (n l:Int) (hl:in64 l):PureC Tryz.prog x 141 [.int .i64 n,.int .i64 l] (.tuple #[.int .i64 131072,.int .i64 (cutLeast n),.int .i64 (epFast l (cutOf n))]):=by
 refine Qab Tryz.func141 rfl rfl fun w=>?_
 refine Qaa (by kernel_rfl) ?_
 repeat' (first|((with_reducible show callW _ _ _ (some (202,_)) _ _);refine callP Qn7 rfl (QlB n l hl) ?_)|((fail_if_success (with_reducible refine stk ?_));simp only [WE,Nat.reduceBEq,Nat.reduceAdd,QDe]))
structure Bk where
 at_:Int
 have_:Int
def Bk.v (b:Bk):Value:=.agg #[.int .i64 b.at_,.int .i64 b.have_]
def bkOk (b:Bk):Prop:=0≤b.at_∧b.at_≤1099511627776∧0≤b.have_∧b.have_≤1152921504606846976
instance (b:Bk):Decidable (bkOk b):=by unfold bkOk; infer_instance
def bkTaken (n:Int):Int:=if n < 0 then 0 else mn n 1099511627776
theorem QfO (n:Int):0≤bkTaken n∧bkTaken n≤1099511627776:=by unfold bkTaken mn; (repeat' split) <;> omega
def bkBytes (b:Bk):Int:=if bkOk b then b.have_ / 1000000 else 0
def bkTake (b:Bk) (n:Int):Bk×Int:=if ¬ (bkOk b∧1≤n) then (b,201) else if bkBytes b < n then (b,203) else (⟨b.at_,b.have_ - n * 1000000⟩,0)
def bkFill (b:Bk) (t rate most:Int):Bk×Int:=
 if ¬ bkOk b then (b,201) else if ¬ (0≤t∧t≤1099511627776) then (b,51) else if t < b.at_ then (b,50)
 else (⟨t,if b.have_ < bkTaken most * 1000000 then mn (sat (b.have_+sat (bkTaken rate * (t - b.at_)))) (bkTaken most * 1000000) else b.have_⟩,0)
theorem Qly {x:Nat→Obj→Prop} (n:Int):PureC Tryz.prog x 101 [.int .i64 n] (.int .i64 (bkTaken n)):=by
 refine Qab Tryz.func101 rfl rfl fun w=>?_
 refine Qaa (by kernel_rfl) ?_
 repeat' (first|((with_reducible show callW _ _ _ (some (164,_)) _ _);refine callP Qcn rfl (Qch _ _ _) ?_)|((fail_if_success (with_reducible refine stk ?_));simp only [WE,Nat.reduceBEq,QCP]))
 rfl
theorem QeY {x:Nat→Obj→Prop} (b:Bk):PureC Tryz.prog x 64 [b.v] (.bool (decide (bkOk b))):=by
 obtain ⟨a,c⟩:=b
 unfold Bk.v
 refine Qab Tryz.func64 rfl rfl fun w=>?_
 refine Qaa (by kernel_rfl) ?_
 repeat' (first|(with_reducible refine Qah (fun _=>?_) (fun _=>?_))|((with_reducible show callW _ _ _ (some (56,_)) _ _);refine callP Qgw rfl (QfW ..) ?_)|((fail_if_success (with_reducible refine stk ?_));simp only [WE,Nat.reduceBEq,ty_3,Qeq,Qer,QEJ]))
 all_goals refine congrArg Value.bool ?_
 all_goals simp only [clkCheck] at *
 all_goals simp only [decide_eq_true_eq,decide_eq_false_iff_not,Bool.not_eq_true',Bool.not_eq_false',bne_iff_ne,ne_eq,bne_eq_false_iff_eq,beq_iff_eq,beq_eq_false_iff_ne,Bool.and_eq_true,Bool.and_eq_false_iff,Bool.or_eq_true,Bool.or_eq_false_iff,not_true_eq_false,not_false_eq_true] at *
 all_goals unfold bkOk
 all_goals first
  | exact decide_eq_decide.2 (by dsimp only; omega)
  | exact (decide_eq_false (by dsimp only; omega)).symm
theorem QuM {x:Nat→Obj→Prop} (b:Bk):PureC Tryz.prog x 39 [b.v] (.int .i64 (bkBytes b)):=by
 obtain ⟨a,c⟩:=b
 unfold Bk.v
 refine Qab Tryz.func39 rfl rfl fun w=>?_
 refine Qaa (by kernel_rfl) ?_
 repeat' (first|(with_reducible refine Qah (fun _=>?_) (fun _=>?_))|((with_reducible show callW _ _ _ (some (64,_)) _ _);refine callP QcP rfl (QeY ⟨a,c⟩) ?_)|((fail_if_success (with_reducible refine stk ?_));simp only [WE,segX,Nat.reduceBEq,Int.reduceEq,ty_3,Qa1,Qer,QnC,Que,QEv]))
 all_goals refine congrArg (Value.int .i64) ?_
 all_goals simp only [decide_eq_true_eq,decide_eq_false_iff_not,Bool.not_eq_true',Bool.not_eq_false',bne_iff_ne,ne_eq,bne_eq_false_iff_eq,beq_iff_eq,beq_eq_false_iff_ne,Bool.and_eq_true,Bool.and_eq_false_iff,Bool.or_eq_true,Bool.or_eq_false_iff,not_true_eq_false,not_false_eq_true] at *
 all_goals unfold bkBytes
 all_goals dsimp only
 ·rename_i h
  rw [h.2]; split <;> rfl
 ·rename_i h1 h2
  rw [if_neg h2]
 ·rename_i h1 h2
  rw [if_pos h2]
  unfold bkOk at h2
  dsimp only at h2
  rw [Int.tdiv_eq_ediv_of_nonneg h2.2.2.1,Qag (by omega) (by omega)]
theorem Quw (b:Bk):0≤bkBytes b∧bkBytes b≤1152921504606:=by
 unfold bkBytes
 by_cases h:bkOk b
 ·rw [if_pos h]; unfold bkOk at h; omega
 ·rw [if_neg h]; omega
theorem QuO {x:Nat→Obj→Prop} (b:Bk) (n:Int):PureC Tryz.prog x 126 [b.v,.int .i64 n] (.tuple #[(bkTake b n).1.v,.int .i64 (bkTake b n).2]):=by
 obtain ⟨a,c⟩:=b
 unfold Bk.v
 refine Qab Tryz.func126 rfl rfl fun w=>?_
 refine Qaa (by kernel_rfl) ?_
 repeat' (first|(with_reducible refine Qah (fun _=>?_) (fun _=>?_))|((with_reducible show callW _ _ _ (some (39,_)) _ _);refine callP Qyo rfl (QuM ⟨a,c⟩) ?_)|((with_reducible show callW _ _ _ (some (64,_)) _ _);refine callP QcP rfl (QeY ⟨a,c⟩) ?_)|((fail_if_success (with_reducible refine stk ?_));simp only [WE,segX,Nat.reduceBEq,Nat.reduceAdd,Nat.reduceEqDiff,ty_3,Qa1,Qer,Qc4,QC2,QbN]))
 all_goals simp only [decide_eq_true_eq,decide_eq_false_iff_not,Bool.not_eq_true',Bool.not_eq_false',bne_iff_ne,ne_eq,bne_eq_false_iff_eq,beq_iff_eq,beq_eq_false_iff_ne,Bool.and_eq_true,Bool.and_eq_false_iff,Bool.or_eq_true,Bool.or_eq_false_iff,not_true_eq_false,not_false_eq_true] at *
 all_goals unfold bkTake
 all_goals dsimp only [Bk.v]
 ·rw [if_pos (fun h=>absurd h.1 (by assumption))]
 ·rw [if_pos (fun h=>absurd h.2 (by omega))]
 ·rw [if_neg (fun h=>h ⟨by assumption,by omega⟩),if_pos (by assumption)]
 ·rename_i k1 k2 k3
  rw [if_neg (fun h=>h ⟨by assumption,by omega⟩),if_neg (by assumption)]
  have:=Quw ⟨a,c⟩
  unfold bkBytes at k3
  rw [if_pos k1] at k3
  unfold bkOk at k1
  dsimp only at k1 k3
  rw [show (c - ((n * 1000000+9223372036854775808) % 18446744073709551616 - 9223372036854775808)+9223372036854775808) % 18446744073709551616 - 9223372036854775808=c - n * 1000000 by omega]
theorem QuN {x:Nat→Obj→Prop} (b:Bk) (t r m:Int) (ht:in64 t):PureC Tryz.prog x 38 [b.v,.int .i64 t,.int .i64 r,.int .i64 m] (.tuple #[(bkFill b t r m).1.v,.int .i64 (bkFill b t r m).2]):=by
 obtain ⟨a,c⟩:=b
 have hr:=QfO r
 have hm:=QfO m
 have w1:wr .i64 (bkTaken m * 1000000)=bkTaken m * 1000000:=Qag (by omega) (by omega)
 unfold Bk.v bkFill
 dsimp only
 by_cases hok:bkOk ⟨a,c⟩
 ·have hok':=hok
  unfold bkOk at hok
  dsimp only at hok
  have f1:decide (bkOk ⟨a,c⟩)=true:=decide_eq_true hok'
  have hSt:clkStep a t=if ¬ (0≤t∧t≤1099511627776) then (a,51) else if t < a then (a,50) else (t,0):=by
   unfold clkStep clkCheck
   by_cases h1:0≤t∧t≤1099511627776
   ·rw [decide_eq_true h1.1,decide_eq_true h1.2,if_neg (fun h=>h h1)]
    by_cases h2:t < a
    ·rw [decide_eq_true h2,if_pos h2]; rfl
    ·rw [decide_eq_false h2,if_neg h2]; rfl
   ·rw [if_pos h1]
    have:(decide (0≤t) && decide (t≤1099511627776))=false:=by
     rw [Bool.and_eq_false_iff,decide_eq_false_iff_not,decide_eq_false_iff_not]; omega
    rw [this]; rfl
  rw [if_neg (fun h=>h hok')]
  have hS:=Qlz (x:=x) a t
  rw [hSt] at hS
  have hc:=QeY (x:=x) ⟨a,c⟩
  rw [f1] at hc
  by_cases h1:0≤t∧t≤1099511627776
  ·rw [if_neg (fun h=>h h1)] at hS ⊢
   by_cases h2:t < a
   ·rw [if_pos h2] at hS ⊢
    refine Qab Tryz.func38 rfl rfl fun w=>?_
    refine Qal ?_
    repeat' (first|((with_reducible show Sd _ _ (.scope _) _ _);refine QeQ 0 (by rfl) ?_)|((with_reducible show Sd _ _ _ _ _);refine Qaa (by kernel_rfl) ?_)|((with_reducible show callW _ _ _ (some (64,_)) _ _);refine callP QcP rfl (hc) ?_)|((with_reducible show callW _ _ _ (some (72,_)) _ _);refine callP Qeu rfl (hS) ?_)|((fail_if_success (with_reducible refine stk ?_));simp only [WE,segX,Nat.reduceBEq,Nat.reduceAdd,Nat.reduceEqDiff,Int.reduceBNe,ty_3,Qa1,Qeq,Qc4,Qfu,QiT]))
   ·rw [if_neg h2] at hS ⊢
    have w2:wr .i64 (t - a)=t - a:=Qag (by omega) (by omega)
    by_cases h3:c < bkTaken m * 1000000
    ·have f3:decide (c < bkTaken m * 1000000)=true:=decide_eq_true h3
     rw [if_pos h3]
     refine Qab Tryz.func38 rfl rfl fun w=>?_
     refine Qal ?_
     repeat' (first|((with_reducible show Sd _ _ (.scope _) _ _);refine QeQ 0 (by rfl) ?_)|((with_reducible show Sd _ _ _ _ _);refine Qaa (by kernel_rfl) ?_)|((with_reducible show callW _ _ _ (some (64,_)) _ _);refine callP QcP rfl (hc) ?_)|((with_reducible show callW _ _ _ (some (72,_)) _ _);refine callP Qeu rfl (hS) ?_)|((with_reducible show callW _ _ _ (some (101,_)) _ _);refine callP Qn6 rfl (Qly ..) ?_)|((with_reducible show callW _ _ _ (some (102,_)) _ _);refine callP Qb8 rfl (Qb1 _ _ (i64k (by omega) (by omega)) (QeI _)) ?_)|((with_reducible show callW _ _ _ (some (103,_)) _ _);refine callP Qzu rfl (Qwe _ _ (i64k (by omega) (by omega)) (i64k (by omega) (by omega))) ?_)|((with_reducible show cW _ _ (.region 9 _ true) _ _);refine QbI 13 QBj (by kernel_rfl) Qaf (by kernel_rfl) ?_; intro l1 l2 e1 e2; simp only [List.take_succ_cons,List.take_zero,List.drop_succ_cons,List.drop_zero] at e1 e2; subst e1; subst e2)|((fail_if_success (with_reducible refine stk ?_));simp only [WE,segX,Nat.reduceBEq,Nat.reduceAdd,Nat.reduceEqDiff,Int.reduceBNe,ty_3,Qa1,Qeq,Qer,Qc4,Qfu,Qo7,w1,w2,f3]))
    ·have f3:decide (c < bkTaken m * 1000000)=false:=decide_eq_false h3
     rw [if_neg h3]
     refine Qab Tryz.func38 rfl rfl fun w=>?_
     refine Qal ?_
     repeat' (first|((with_reducible show Sd _ _ (.scope _) _ _);refine QeQ 0 (by rfl) ?_)|((with_reducible show Sd _ _ _ _ _);refine Qaa (by kernel_rfl) ?_)|((with_reducible show callW _ _ _ (some (64,_)) _ _);refine callP QcP rfl (hc) ?_)|((with_reducible show callW _ _ _ (some (72,_)) _ _);refine callP Qeu rfl (hS) ?_)|((with_reducible show callW _ _ _ (some (101,_)) _ _);refine callP Qn6 rfl (Qly ..) ?_)|((fail_if_success (with_reducible refine stk ?_));simp only [WE,segX,Nat.reduceBEq,Nat.reduceAdd,Nat.reduceEqDiff,Int.reduceBNe,ty_3,Qa1,Qeq,Qer,Qc4,Qfu,Qo7,w1,f3]))
  ·rw [if_pos h1] at hS ⊢
   refine Qab Tryz.func38 rfl rfl fun w=>?_
   refine Qal ?_
   repeat' (first|((with_reducible show Sd _ _ (.scope _) _ _);refine QeQ 0 (by rfl) ?_)|((with_reducible show Sd _ _ _ _ _);refine Qaa (by kernel_rfl) ?_)|((with_reducible show callW _ _ _ (some (64,_)) _ _);refine callP QcP rfl (hc) ?_)|((with_reducible show callW _ _ _ (some (72,_)) _ _);refine callP Qeu rfl (hS) ?_)|((fail_if_success (with_reducible refine stk ?_));simp only [WE,segX,Nat.reduceBEq,Nat.reduceAdd,Nat.reduceEqDiff,Int.reduceBNe,ty_3,Qa1,Qeq,Qc4,Qfu,QiT]))
 ·have f1:decide (bkOk ⟨a,c⟩)=false:=decide_eq_false hok
  have hc:=QeY (x:=x) ⟨a,c⟩
  rw [f1] at hc
  rw [if_pos hok]
  refine Qab Tryz.func38 rfl rfl fun w=>?_
  refine Qal ?_
  repeat' (first|((with_reducible show Sd _ _ (.scope _) _ _);refine QeQ 0 (by rfl) ?_)|((with_reducible show Sd _ _ _ _ _);refine Qaa (by kernel_rfl) ?_)|((with_reducible show callW _ _ _ (some (64,_)) _ _);refine callP QcP rfl (hc) ?_)|((fail_if_success (with_reducible refine stk ?_));simp only [WE,segX,Nat.reduceBEq,Nat.reduceAdd,Nat.reduceEqDiff,Qa1,Qc4,Qfu,QiT]))
abbrev w64 (n:Int):Int:=wr .i64 n
structure Rtt where
 has:Bool
 mean:Int
 far:Int
 deriving DecidableEq
def rttCheck (r:Rtt):Bool:=bif r.has then decide (8≤r.mean) && decide (r.mean≤8589934592) && decide (0≤r.far) && decide (r.far≤4294967296) else r.mean == 0 && r.far == 0
def rttMean (r:Rtt):Int:=w64 (r.mean.tdiv 8)
def rttFar (r:Rtt):Int:=w64 (r.far.tdiv 4)
def rttFirst (t:Int):Rtt:=⟨true,w64 (t * 8),w64 ((w64 (t * 4)).tdiv 2)⟩
def rttNext (r:Rtt) (t:Int):Rtt:=⟨r.has,w64 (r.mean+w64 (t - rttMean r)),w64 (r.far+w64 (mx (w64 (t - rttMean r)) (w64 (rttMean r - t)) - rttFar r))⟩
def rttSample (r:Rtt) (t:Int):Rtt×Int:=
 bif !rttCheck r then (r,201) else bif decide (t < 1) then (r,201) else bif decide (1073741824 < t) then (r,201) else bif !r.has then (rttFirst t,0) else (rttNext r t,0)
theorem Qf6 {x:Nat→Obj→Prop} (h:Bool) (m f:Int):PureC Tryz.prog x 200 [.agg #[.bool h,.int .i64 m,.int .i64 f]] (.int .i64 (rttMean ⟨h,m,f⟩)):=by
 refine Qab Tryz.func200 rfl rfl fun w=>?_
 refine Qaa (by kernel_rfl) ?_
 repeat' (first|((fail_if_success (with_reducible refine stk ?_));simp only [WE,Nat.reduceBEq,Int.reduceEq,ty_3,Qiw,QDF]))
 rfl
theorem Qv8 {x:Nat→Obj→Prop} (h:Bool) (m f:Int):PureC Tryz.prog x 291 [.agg #[.bool h,.int .i64 m,.int .i64 f]] (.int .i64 (rttFar ⟨h,m,f⟩)):=by
 refine Qab Tryz.func291 rfl rfl fun w=>?_
 refine Qaa (by kernel_rfl) ?_
 repeat' (first|((fail_if_success (with_reducible refine stk ?_));simp only [WE,Nat.reduceBEq,Int.reduceEq,ty_3,Qgq,QEh]))
 rfl
theorem Qf5 {x:Nat→Obj→Prop} (h:Bool) (m f:Int):PureC Tryz.prog x 58 [.agg #[.bool h,.int .i64 m,.int .i64 f]] (.bool (rttCheck ⟨h,m,f⟩)):=by
 refine Qab Tryz.func58 rfl rfl fun w=>?_
 refine Qaa (by kernel_rfl) ?_
 repeat' (first|(with_reducible refine Qah (fun _=>?_) (fun _=>?_))|((fail_if_success (with_reducible refine stk ?_));simp only [WE,segX,Nat.reduceBEq,ty_3,ty_4,Qba,Qgp,Qiw,Qgq,QnB,QkC,QEF]))
 all_goals (refine congrArg Value.bool ?_; simp_all [rttCheck])
 all_goals omega
theorem Qwa {x:Nat→Obj→Prop} (t:Int):PureC Tryz.prog x 237 [.int .i64 t] (.agg #[.bool (rttFirst t).has,.int .i64 (rttFirst t).mean,.int .i64 (rttFirst t).far]):=by
 refine Qab Tryz.func237 rfl rfl fun w=>?_
 refine Qaa (by kernel_rfl) ?_
 repeat' (first|((fail_if_success (with_reducible refine stk ?_));simp only [WE,Nat.reduceLeDiff,segX,Nat.reduceBEq,Nat.reduceAdd,Nat.reduceEqDiff,Int.reduceEq,Int.reduceLE,Int.reduceToNat,Int.reducePow,QjX,Qj0,QkC,QkB,QDY]))
 rfl
theorem Qwb {x:Nat→Obj→Prop} (h:Bool) (m f t:Int):PureC Tryz.prog x 238 [.agg #[.bool h,.int .i64 m,.int .i64 f],.int .i64 t]
  (.agg #[.bool (rttNext ⟨h,m,f⟩ t).has,.int .i64 (rttNext ⟨h,m,f⟩ t).mean,.int .i64 (rttNext ⟨h,m,f⟩ t).far]):=by
 refine Qab Tryz.func238 rfl rfl fun w=>?_
 refine Qaa (by kernel_rfl) ?_
 repeat' (first|((with_reducible show callW _ _ _ (some (200,_)) _ _);refine callP QgL rfl (Qf6 ..) ?_)|((with_reducible show callW _ _ _ (some (291,_)) _ _);refine callP Qzq rfl (Qv8 ..) ?_)|((with_reducible show cW _ _ (.region 1 _ true) _ _);refine Qas QBd (by kernel_rfl) Qaf (by kernel_rfl) ?_)|((fail_if_success (with_reducible refine stk ?_));simp only [WE,segX,Nat.reduceBEq,Nat.reduceAdd,Nat.reduceEqDiff,ty_3,Qba,QjX,Qiw,Qgq,QnO,Qj0,QDZ]))
 rfl
theorem Qv9 {x:Nat→Obj→Prop} (h:Bool) (m f t:Int):PureC Tryz.prog x 189 [.agg #[.bool h,.int .i64 m,.int .i64 f],.int .i64 t]
  (.tuple #[.agg #[.bool (rttSample ⟨h,m,f⟩ t).1.has,.int .i64 (rttSample ⟨h,m,f⟩ t).1.mean,.int .i64 (rttSample ⟨h,m,f⟩ t).1.far],.int .i64 (rttSample ⟨h,m,f⟩ t).2]):=by
 refine Qab Tryz.func189 rfl rfl fun w=>?_
 refine Qaa (by kernel_rfl) ?_
 repeat' (first|(with_reducible refine Qah (fun _=>?_) (fun _=>?_))|((with_reducible show callW _ _ _ (some (58,_)) _ _);refine callP QgK rfl (Qf5 ..) ?_)|((with_reducible show callW _ _ _ (some (237,_)) _ _);refine callP Qzr rfl (Qwa ..) ?_)|((with_reducible show callW _ _ _ (some (238,_)) _ _);refine callP Qzs rfl (Qwb ..) ?_)|((fail_if_success (with_reducible refine stk ?_));simp only [WE,Nat.reduceLeDiff,segX,Nat.reduceBEq,Nat.reduceAdd,Nat.reduceEqDiff,ty_4,Qba,QjX,Qgp,QnO,Qs3,Qj0,QkB,QDy]))
 all_goals (simp only [rttSample, *,cond_true,cond_false]; try rfl)
theorem QbM {n:Int} (h1 : -9223372036854775808≤n) (h2:n≤9223372036854775807):w64 n=n:=Qag h1 h2
theorem Qcw (r:Rtt):rttCheck r=true↔(r.has=true∧8≤r.mean∧r.mean≤8589934592∧0≤r.far∧r.far≤4294967296)∨(r.has=false∧r.mean=0∧r.far=0):=by
 obtain ⟨h,m,f⟩:=r
 cases h <;> simp [rttCheck,and_assoc]
theorem QeH (r:Rtt) (h1:0≤r.mean) (h2:r.mean≤9223372036854775807):rttMean r=r.mean / 8:=by
 unfold rttMean
 rw [Int.tdiv_eq_ediv_of_nonneg h1,QbM] <;> omega
theorem QE2 (r:Rtt) (h1:0≤r.far) (h2:r.far≤9223372036854775807):rttFar r=r.far / 4:=by
 unfold rttFar
 rw [Int.tdiv_eq_ediv_of_nonneg h1,QbM] <;> omega
theorem Qsn (r:Rtt) (t:Int) (h:¬ (rttCheck r=true∧1≤t∧t≤1073741824)):rttSample r t=(r,201):=by
 unfold rttSample
 cases hc:rttCheck r
 ·simp
 ·simp only [Bool.not_true,cond_false]
  by_cases h1:t < 1
  ·simp [h1]
  ·by_cases h2:1073741824 < t
   ·simp [h2]
   ·exact absurd ⟨hc,by omega,by omega⟩ h
theorem QE9 (r:Rtt) (t:Int) (hc:rttCheck r=true) (hh:r.has=false) (h1:1≤t) (h2:t≤1073741824):rttSample r t=(⟨true,8 * t,2 * t⟩,0):=by
 unfold rttSample
 have e1:decide (t < 1)=false:=by simp; omega
 have e2:decide (1073741824 < t)=false:=by simp; omega
 simp only [hc,hh,e1,e2,Bool.not_true,Bool.not_false,cond_false,cond_true,rttFirst]
 have a1:w64 (t * 8)=8 * t:=by rw [QbM] <;> omega
 have a2:w64 (t * 4)=4 * t:=by rw [QbM] <;> omega
 have a3:w64 ((4 * t).tdiv 2)=2 * t:=by rw [Int.tdiv_eq_ediv_of_nonneg (by omega),QbM] <;> omega
 rw [a1,a2,a3]
def gapOf (r:Rtt) (t:Int):Int:=if t - r.mean / 8 < 0 then r.mean / 8 - t else t - r.mean / 8
theorem QFa (r:Rtt) (t:Int) (hc:rttCheck r=true) (hh:r.has=true) (h1:1≤t) (h2:t≤1073741824) :
  rttSample r t=(⟨true,r.mean+(t - r.mean / 8),r.far+(gapOf r t - r.far / 4)⟩,0):=by
 unfold rttSample
 have e1:decide (t < 1)=false:=by simp; omega
 have e2:decide (1073741824 < t)=false:=by simp; omega
 have hc':=(Qcw r).1 hc
 rw [hh] at hc'
 simp only [true_and,Bool.true_eq_false,false_and,or_false] at hc'
 obtain ⟨b1,b2,b3,b4⟩:=hc'
 have hM:rttMean r=r.mean / 8:=QeH _ (by omega) (by omega)
 have hF:rttFar r=r.far / 4:=QE2 _ (by omega) (by omega)
 simp only [hc,hh,e1,e2,Bool.not_true,cond_false,rttNext,hM,hF]
 have a1:w64 (t - r.mean / 8)=t - r.mean / 8:=by rw [QbM] <;> omega
 have a2:w64 (r.mean / 8 - t)=r.mean / 8 - t:=by rw [QbM] <;> omega
 have a3:mx (t - r.mean / 8) (r.mean / 8 - t)=gapOf r t:=by
  unfold mx gapOf
  (repeat' split) <;> omega
 have hg:0≤gapOf r t∧gapOf r t≤1073741824:=by
  unfold gapOf
  split <;> omega
 rw [a1,a2,a3]
 have a4:w64 (gapOf r t - r.far / 4)=gapOf r t - r.far / 4:=by rw [QbM] <;> omega
 rw [a4]
 have a5:w64 (r.far+(gapOf r t - r.far / 4))=r.far+(gapOf r t - r.far / 4):=by rw [QbM] <;> omega
 have a6:w64 (r.mean+(t - r.mean / 8))=r.mean+(t - r.mean / 8):=by rw [QbM] <;> omega
 rw [a5,a6]
theorem Qsp (r:Rtt) (t:Int) (hc:rttCheck r=true):rttCheck (rttSample r t).1=true:=by
 by_cases hb:1≤t∧t≤1073741824
 ·cases hh:r.has
  ·rw [QE9 r t hc hh hb.1 hb.2,Qcw]; left; dsimp only; exact ⟨rfl,by omega,by omega,by omega,by omega⟩
  ·rw [QFa r t hc hh hb.1 hb.2,Qcw]
   left
   have hc':=(Qcw r).1 hc
   rw [hh] at hc'
   simp only [true_and,Bool.true_eq_false,false_and,or_false] at hc'
   unfold gapOf
   dsimp only
   refine ⟨rfl,?_⟩
   split <;> omega
 ·rw [Qsn r t (fun h=>hb h.2)]; exact hc
theorem QFb {r:Rtt} {t:Int} (e:(rttSample r t).2=0):rttCheck r=true∧1≤t∧t≤1073741824:=by
 by_cases ha:rttCheck r=true∧1≤t∧t≤1073741824
 ·exact ha
 ·rw [Qsn r t ha] at e; simp at e
def TensX (x:Nat→Obj→Prop):Prop:=∃ T f,x 0 (.cells #[.int .u64 1000000000,.int .u64 10000000000] T f)
theorem TensX.mono {x x':Nat→Obj→Prop} (h:TensX x) (hx:xsub x x'):TensX x':=let ⟨T,f,h⟩:=h; ⟨T,f,hx _ _ h⟩
theorem TensX.all {S:St} {s:Nat→Nat} (h:TensX S.x):TensX (xAll S s):=h.mono fun _ _ h=>.inl h
theorem QoU {P:Program} {K:Value→Prop} {T e:TypeId} {cs:Array Value} {n:Nat} {ik:IntKind} {j:Int} {v:Value} {kd:IntKind} (hT:P.underlying T=some (.array n e)) (hd':(P.info? e).map (·.size)=some 1) (he:P.underlying e=some (.int kd))
  (h0:0≤j) (hj:j < (n:Int)) (hv:cs[j.toNat]? = some v):pureW P (Instr.index T (.agg cs) (.int ik j)) K=K v:=by
 obtain ⟨d,hd,h1⟩:=Option.map_eq_some_iff.1 hd'
 refine QaD fun w=>?_
 have hs:(sizeOf e).run P w=.ok 1 w:=by simp [sizeOf,typeInfo,hd,h1]
 have ha:(isAgg e).run P w=.ok false w:=by simp [isAgg,run_underlying he]
 simp [Instr.index,asIntOf,run_underlying hT,h0,hj,hs,part,ha,hv]
theorem QkG (g:Bool) {Y:Int} (h0:0≤Y) (h1:Y < 340282366920938463463374607431768211456):Value.agg #[.bool (bG g Y),.int .u64 (bH Y),.int .u64 (bL Y)]=bigV (bif g then -Y else Y):=by
 have ho:=QeE h1
 have e:(((bif g then -Y else Y):Int).natAbs:Int)=Y:=by cases g <;> (simp only [cond_true,cond_false]; omega)
 have e2:(g && !(Y == 0))=decide ((bif g then -Y else Y) < 0):=by
  cases g
  ·simp only [cond_false,Bool.false_and]; exact (decide_eq_false (by omega)).symm
  ·simp only [cond_true,Bool.true_and]
   by_cases h:Y=0
   ·rw [h]; rfl
   ·rw [beq_eq_false_iff_ne.2 h]; exact (decide_eq_true (by omega)).symm
 unfold bigV bG bH bL
 rw [ho,e]
 simp only [cond_false,e2]
theorem Qky {Y:Int} (h:Y < 340282366920938463463374607431768211456):bE Y=0:=by unfold bE; rw [QeE h]; rfl
theorem Qlt {x:Nat→Obj→Prop} (Z n:Int) (hZ:0≤Z) (hZ1:Z < 340282366920938463463374607431768211456) (hn:0≤n) (hn1:n < 18446744073709551616) (hb:Z * n < 340282366920938463463374607431768211456) :
  PureC Tryz.prog x 228 [bigV Z,.int .u64 n] (.tuple #[bigV (Z * n),.int .i64 0]):=by
 have e0:(Z.natAbs:Int)=Z:=by omega
 have h:=QeB (Z:=Z) (by omega)
 have:=QfV (x:=x) (decide (Z < 0)) _ _ n h.1.1 h.1.2 h.2.1 h.2.2 hn hn1
 have e1:(Z.natAbs:Int) / 18446744073709551616 * 18446744073709551616+(Z.natAbs:Int) % 18446744073709551616=Z:=by
  have e:=Int.mul_ediv_add_emod (Z.natAbs:Int) 18446744073709551616
  rw [Int.mul_comm] at e
  rw [e,e0]
 have pn:=Int.mul_nonneg hZ hn
 rw [e1,QkG _ pn hb,Qky hb,decide_eq_false (show ¬ Z < 0 by omega)] at this
 unfold bigV
 rw [decide_eq_false (show ¬ Z < 0 by omega)]
 exact this
structure Ep where
 on:Bool
 start:Int
 first:Int
 max:Int
 k:Int
 est:Int
 deriving DecidableEq
def Ep.v (e:Ep):Value:=.agg #[.bool e.on,.int .i64 e.start,.int .i64 e.first,.int .i64 e.max,.int .i64 e.k,.int .i64 e.est]
def Ep.zero:Ep:=⟨false,0,0,0,0,0⟩
def epGap (g:Int):Int:=if g < 0 then 0 else mn g 68719476736
def epK (g:Int):Int:=rt3 (epGap g * 1000000000 * 10000000000 / 262144)
def epWin (n:Int):Prop:=0≤n∧n≤68719476736
instance (n:Int):Decidable (epWin n):=by unfold epWin; infer_instance
def epTime (n:Int):Prop:=0≤n∧n≤1099511627776
instance (n:Int):Decidable (epTime n):=by unfold epTime; infer_instance
def epBegin (t n h:Int):Ep×Int:=if epTime t∧epWin n∧epWin h then (⟨true,t,n,mx h n,epK (mx h n - n),n⟩,0) else (Ep.zero,201)
def epOk (e:Ep):Prop:=if e.on=true then epTime e.start∧epWin e.first∧epWin e.max∧epWin e.est∧e.first≤e.max∧e.k=epK (e.max - e.first) else e=Ep.zero
instance (e:Ep):Decidable (epOk e):=by unfold epOk; infer_instance
def epShift (e:Ep) (by_:Int):Ep:=if e.on=true∧0 < by_ then ⟨e.on,mn (sat (e.start+by_)) 1099511627776,e.first,e.max,e.k,e.est⟩ else e
theorem QmD (g:Int):0≤epGap g∧epGap g≤68719476736:=by unfold epGap mn; (repeat' split) <;> omega
theorem QmE (g:Int):0≤epK g∧epK g≤8796093022207:=by
 have h:=QmD g
 unfold epK
 generalize hN:epGap g * 1000000000 * 10000000000 / 262144=N
 have b:0≤N∧N≤2621440000000000000000000:=by omega
 exact ⟨Qsh N,by have:=Qsg (N:=N) (b:=8796093022208) b.1 (by omega) (by omega) (by omega); omega⟩
theorem Qu7 {x:Nat→Obj→Prop} (hT:TensX x) (g:Int):PureC Tryz.prog x 174 [.int .i64 g] (.int .i64 (epK g)):=by
 obtain ⟨T,f,hx⟩:=hT
 have hG:=QmD g
 have hK:=QmE g
 have e0:(if g < 0 then 0 else mn g 68719476736)=epGap g:=rfl
 obtain ⟨G,hGe⟩:∃ G,epGap g=G:=⟨_,rfl⟩
 have hKe:epK g=rt3 (G * 1000000000 * 10000000000 / 262144):=by rw [←hGe]; rfl
 rw [hGe] at hG e0
 have hb:(((G * 1000000000 * 10000000000 / 262144:Int)).natAbs:Int) < 340282366920938463463374607431768211456:=by omega
 have hl:=QeB hb
 have hTh:=QvZ (x:=x) (decide (G * 1000000000 * 10000000000 / 262144 < 0)) _ _ hl.1.1 hl.1.2 hl.2.1 hl.2.2
 have eN:((G * 1000000000 * 10000000000 / 262144:Int).natAbs:Int) / 18446744073709551616 * 18446744073709551616+((G * 1000000000 * 10000000000 / 262144:Int).natAbs:Int) % 18446744073709551616=G * 1000000000 * 10000000000 / 262144:=by
  have e:=Int.mul_ediv_add_emod (((G * 1000000000 * 10000000000 / 262144:Int)).natAbs:Int) 18446744073709551616
  rw [Int.mul_comm] at e
  rw [e]; omega
 rw [eN,←hKe] at hTh
 have w1:wr .i64 (epK g)=epK g:=Qag (by omega) (by omega)
 have hl2:loadX true 2 0 #[Value.int .u64 1000000000,.int .u64 10000000000]=some (.agg #[.int .u64 1000000000,.int .u64 10000000000]):=rfl
 refine Qab Tryz.func174 rfl rfl fun w=>?_
 refine Qaa (by kernel_rfl) ?_
 repeat' (first|(with_reducible refine Qad hx hl2 ?_)|((with_reducible show callW _ _ _ (some (164,_)) _ _);refine callP Qcn rfl (Qch _ _ _) ?_)|((with_reducible show callW _ _ _ (some (226,_)) _ _);refine callP Qgv rfl (Qls G (i64k (by omega) (by omega))) ?_)|((fail_if_success (with_reducible refine stk ?_));simp only [WE,Nat.reduceBEq,Nat.reduceAdd,Nat.reduceEqDiff,QaS,QF8,QbC,e0,bigV]))
 refine Qa3 (α:=Nat×Int) (fun p=>⟨[(3,.ptr 0 0),(9,.ext (.agg #[.int .u64 1000000000,.int .u64 10000000000])),(10,.ext (.int .i64 (p.1:Int)))],[.cells 196 [.ext (.bool (decide (p.2 < 0))),.ext (.int .u64 ((p.2.natAbs:Int) / 18446744073709551616)),.ext (.int .u64 ((p.2.natAbs:Int) % 18446744073709551616))]],x⟩)
  (fun p=>(p.1=0∧p.2=G)∨(p.1=1∧p.2=G * 1000000000)∨(p.1=2∧p.2=G * 1000000000 * 10000000000)) (fun p=>2 - p.1)
  ⟨(0,G),Qae ⟨⟨rfl,rfl⟩,⟨rfl,rfl⟩,⟨rfl,rfl⟩,trivial⟩ ⟨rfl,trivial⟩ rfl,.inl ⟨rfl,rfl⟩⟩ (by kernel_rfl) ?_
 rintro ⟨j,Z⟩ hJ
 dsimp only at hJ ⊢
 rcases hJ with ⟨rfl,rfl⟩ | ⟨rfl,rfl⟩ | ⟨rfl,rfl⟩
 ·have ht:decide (((0:Nat):Int) < 2)=true:=by decide
  have hix:∀ K:Value→Prop,pureW Tryz.prog (Instr.index 221 (.agg #[.int .u64 1000000000,.int .u64 10000000000]) (.int .i64 ((0:Nat):Int))) K=K (.int .u64 1000000000):=fun K=>QoU Tryz.underlying221 (by kernel_rfl) Tryz.underlying144 (by omega) (by omega) rfl
  have e:wr .i64 (((0:Nat):Int)+1)=((1:Nat):Int):=Qag (by omega) (by omega)
  repeat' (first|(rw [hix])|((with_reducible show callW _ _ _ (some (228,_)) _ _);refine callP Qfb rfl (Qlt (Z) 1000000000 (by omega) (by omega) (by omega) (by omega) (by omega)) ?_)|((fail_if_success (with_reducible refine stk ?_));simp only [WE,segX,Nat.reduceBEq,Nat.reduceAdd,Nat.reduceEqDiff,QaS,ht,e,bigV]))
  exact ⟨(1,Z * 1000000000),Qae ⟨⟨rfl,rfl⟩,⟨rfl,rfl⟩,⟨rfl,rfl⟩,trivial⟩ ⟨rfl,trivial⟩ rfl,.inr (.inl ⟨rfl,rfl⟩),by dsimp only; omega⟩
 ·have ht:decide (((1:Nat):Int) < 2)=true:=by decide
  have hix:∀ K:Value→Prop,pureW Tryz.prog (Instr.index 221 (.agg #[.int .u64 1000000000,.int .u64 10000000000]) (.int .i64 ((1:Nat):Int))) K=K (.int .u64 10000000000):=fun K=>QoU Tryz.underlying221 (by kernel_rfl) Tryz.underlying144 (by omega) (by omega) rfl
  have e:wr .i64 (((1:Nat):Int)+1)=((2:Nat):Int):=Qag (by omega) (by omega)
  repeat' (first|(rw [hix])|((with_reducible show callW _ _ _ (some (228,_)) _ _);refine callP Qfb rfl (Qlt (G * 1000000000) 10000000000 (by omega) (by omega) (by omega) (by omega) (by omega)) ?_)|((fail_if_success (with_reducible refine stk ?_));simp only [WE,segX,Nat.reduceBEq,Nat.reduceAdd,Nat.reduceEqDiff,QaS,ht,e,bigV]))
  exact ⟨(2,G * 1000000000 * 10000000000),Qae ⟨⟨rfl,rfl⟩,⟨rfl,rfl⟩,⟨rfl,rfl⟩,trivial⟩ ⟨rfl,trivial⟩ rfl,.inr (.inr ⟨rfl,rfl⟩),by dsimp only; omega⟩
 ·have ht:decide (((2:Nat):Int) < 2)=false:=by decide
  repeat' (first|((with_reducible show callW _ _ _ (some (224,_)) _ _);refine callP QiB rfl (QhJ (G * 1000000000 * 10000000000) 262144 (by omega) (by omega) (by omega)) ?_)|((with_reducible show callW _ _ _ (some (229,_)) _ _);refine callP Qzk rfl (hTh) ?_)|((fail_if_success (with_reducible refine stk ?_));simp only [WE,segX,Nat.reduceBEq,Nat.reduceAdd,Nat.reduceEqDiff,QaS,Qms,QDm,ht,bigV,w1]))
theorem QfZ {x:Nat→Obj→Prop} (n:Int):PureC Tryz.prog x 113 [.int .i64 n] (.bool (decide (epWin n))):=by
 refine Qab Tryz.func113 rfl rfl fun w=>?_
 refine Qaa (by kernel_rfl) ?_
 repeat' (first|(with_reducible refine Qah (fun _=>?_) (fun _=>?_))|((fail_if_success (with_reducible refine stk ?_));simp only [WE,Nat.reduceBEq,QCV]))
 all_goals refine congrArg Value.bool ?_
 all_goals simp only [decide_eq_true_eq,decide_eq_false_iff_not,Bool.not_eq_true',Bool.not_eq_false',bne_iff_ne,ne_eq,bne_eq_false_iff_eq,beq_iff_eq,beq_eq_false_iff_ne,Bool.and_eq_true,Bool.and_eq_false_iff,Bool.or_eq_true,Bool.or_eq_false_iff,not_true_eq_false,not_false_eq_true] at *
 all_goals unfold epWin
 all_goals first
  | exact decide_eq_decide.2 (by omega)
  | exact (decide_eq_false (by omega)).symm
theorem QfY {x:Nat→Obj→Prop} (n:Int):PureC Tryz.prog x 173 [.int .i64 n] (.bool (decide (epTime n))):=by
 refine Qab Tryz.func173 rfl rfl fun w=>?_
 refine Qaa (by kernel_rfl) ?_
 repeat' (first|(with_reducible refine Qah (fun _=>?_) (fun _=>?_))|((fail_if_success (with_reducible refine stk ?_));simp only [WE,Nat.reduceBEq,QDl]))
 all_goals refine congrArg Value.bool ?_
 all_goals simp only [decide_eq_true_eq,decide_eq_false_iff_not,Bool.not_eq_true',Bool.not_eq_false',bne_iff_ne,ne_eq,bne_eq_false_iff_eq,beq_iff_eq,beq_eq_false_iff_ne,Bool.and_eq_true,Bool.and_eq_false_iff,Bool.or_eq_true,Bool.or_eq_false_iff,not_true_eq_false,not_false_eq_true] at *
 all_goals unfold epTime
 all_goals first
  | exact decide_eq_decide.2 (by omega)
  | exact (decide_eq_false (by omega)).symm
theorem QlJ {x:Nat→Obj→Prop} (hT:TensX x) (t n h:Int):PureC Tryz.prog x 112 [.int .i64 t,.int .i64 n,.int .i64 h] (.tuple #[(epBegin t n h).1.v,.int .i64 (epBegin t n h).2]):=by
 unfold epBegin
 by_cases h1:epTime t
 ·have f1:=decide_eq_true h1
  by_cases h2:epWin n
  ·have f2:=decide_eq_true h2
   by_cases h3:epWin h
   ·have f3:=decide_eq_true h3
    rw [if_pos ⟨h1,h2,h3⟩]
    have w1:wr .i64 (mx h n - n)=mx h n - n:=by unfold epWin at h2 h3; unfold mx; exact Qag (by split <;> omega) (by split <;> omega)
    refine Qab Tryz.func112 rfl rfl fun w=>?_
    refine Qaa (by kernel_rfl) ?_
    repeat' (first|((with_reducible show callW _ _ _ (some (113,_)) _ _);refine callP QgC rfl (QfZ ..) ?_)|((with_reducible show callW _ _ _ (some (173,_)) _ _);refine callP QgB rfl (QfY ..) ?_)|((with_reducible show callW _ _ _ (some (174,_)) _ _);refine callP QyK rfl (Qu7 hT _) ?_)|((fail_if_success (with_reducible refine stk ?_));simp only [WE,Nat.reduceLeDiff,segX,Nat.reduceBEq,Nat.reduceAdd,Nat.reduceEqDiff,QaH,Qcf,Qc8,Qhf,f1,f2,f3,w1,Ep.v]))
   ·have f3:=decide_eq_false h3
    rw [if_neg (fun h=>h3 h.2.2)]
    refine Qab Tryz.func112 rfl rfl fun w=>?_
    refine Qaa (by kernel_rfl) ?_
    repeat' (first|((with_reducible show callW _ _ _ (some (113,_)) _ _);refine callP QgC rfl (QfZ ..) ?_)|((with_reducible show callW _ _ _ (some (173,_)) _ _);refine callP QgB rfl (QfY ..) ?_)|((fail_if_success (with_reducible refine stk ?_));simp only [WE,segX,Nat.reduceBEq,Nat.reduceAdd,Nat.reduceEqDiff,QaH,Qcf,Qc8,Qhf,f1,f2,f3,Ep.v,Ep.zero]))
  ·have f2:=decide_eq_false h2
   rw [if_neg (fun h=>h2 h.2.1)]
   refine Qab Tryz.func112 rfl rfl fun w=>?_
   refine Qaa (by kernel_rfl) ?_
   repeat' (first|((with_reducible show callW _ _ _ (some (113,_)) _ _);refine callP QgC rfl (QfZ ..) ?_)|((with_reducible show callW _ _ _ (some (173,_)) _ _);refine callP QgB rfl (QfY ..) ?_)|((fail_if_success (with_reducible refine stk ?_));simp only [WE,segX,Nat.reduceBEq,Nat.reduceAdd,Nat.reduceEqDiff,QaH,Qcf,Qc8,Qhf,f1,f2,Ep.v,Ep.zero]))
 ·have f1:=decide_eq_false h1
  rw [if_neg (fun h=>h1 h.1)]
  refine Qab Tryz.func112 rfl rfl fun w=>?_
  refine Qaa (by kernel_rfl) ?_
  repeat' (first|((with_reducible show callW _ _ _ (some (173,_)) _ _);refine callP QgB rfl (QfY ..) ?_)|((fail_if_success (with_reducible refine stk ?_));simp only [WE,segX,Nat.reduceBEq,Nat.reduceAdd,Nat.reduceEqDiff,QaH,Qcf,Qc8,Qhf,f1,Ep.v,Ep.zero]))
theorem QlK {x:Nat→Obj→Prop} (hT:TensX x) (e:Ep):PureC Tryz.prog x 63 [e.v] (.bool (decide (epOk e))):=by
 obtain ⟨o,a,b,c,k,d⟩:=e
 unfold Ep.v
 refine Qab Tryz.func63 rfl rfl fun w=>?_
 refine Qaa (by kernel_rfl) ?_
 cases o
 ·repeat' (first|((fail_if_success (with_reducible refine stk ?_));simp only [WE,segX,Nat.reduceBEq,ty_4,QaH,Qb4,Qip,Qc8,Qsc]))
  refine congrArg Value.bool ?_
  unfold epOk Ep.zero
  rw [Bool.eq_iff_iff]
  simp only [Bool.and_eq_true,beq_iff_eq,decide_eq_true_eq,Bool.false_eq_true,if_false,Ep.mk.injEq,true_and]
 ·repeat' (first|(with_reducible refine Qah (fun _=>?_) (fun _=>?_))|((with_reducible show callW _ _ _ (some (112,_)) _ _);refine callP Qoh rfl (QlJ hT _ _ _) ?_)|((with_reducible show callW _ _ _ (some (113,_)) _ _);refine callP QgC rfl (QfZ _) ?_)|((fail_if_success (with_reducible refine stk ?_));simp only [WE,segX,Nat.reduceBEq,Nat.reduceAdd,Nat.reduceEqDiff,ty_3,ty_4,QaH,Qb4,Qiy,Qyh,Qgs,Qiz,Qcf,Qip,Qsc,Ep.v]))
  all_goals refine congrArg Value.bool ?_
  all_goals unfold epBegin at *
  all_goals by_cases hB:epTime a∧epWin b∧epWin c
  all_goals first | rw [if_pos hB] at * | rw [if_neg hB] at * | skip
  all_goals simp only [decide_eq_true_eq,decide_eq_false_iff_not,Bool.not_eq_true',Bool.not_eq_false',bne_iff_ne,ne_eq,bne_eq_false_iff_eq,beq_iff_eq,beq_eq_false_iff_ne,Bool.and_eq_true,Bool.and_eq_false_iff,Bool.or_eq_true,Bool.or_eq_false_iff,not_true_eq_false,not_false_eq_true] at *
  all_goals unfold epOk
  all_goals simp only [if_true]
  ·rw [Bool.eq_iff_iff]
   simp only [Bool.true_and,Bool.and_eq_true,beq_iff_eq,decide_eq_true_eq]
   constructor
   ·rintro ⟨_,_,h1,h2⟩
    have h3:b≤c:=by unfold mx at h1; split at h1 <;> omega
    exact ⟨hB.1,hB.2.1,hB.2.2,by assumption,h3,by rw [h2,←h1]⟩
   ·rintro ⟨_,_,_,_,h1,h2⟩
    have h3:mx c b=c:=by unfold mx; split <;> omega
    rw [h3]
    exact ⟨trivial,trivial,rfl,h2⟩
  ·rename_i h _; exact absurd h (by decide)
  ·exact (decide_eq_false (fun h=>absurd h.2.2.2.1 (by assumption))).symm
  ·rename_i h _; exact absurd h (by decide)
  ·exact (decide_eq_false (fun h=>hB ⟨h.1,h.2.1,h.2.2.1⟩)).symm
theorem Qu8 {x:Nat→Obj→Prop} (e:Ep) (n:Int) (h:in64 e.start) (hn:in64 n):PureC Tryz.prog x 183 [e.v,.int .i64 n] (epShift e n).v:=by
 obtain ⟨o,a,b,c,k,d⟩:=e
 unfold Ep.v
 refine Qab Tryz.func183 rfl rfl fun w=>?_
 refine Qaa (by kernel_rfl) ?_
 unfold epShift
 cases o
 ·repeat' (first|((fail_if_success (with_reducible refine stk ?_));simp only [WE,segX,Nat.reduceBEq,Nat.reduceAdd,Nat.reduceEqDiff,ty_4,QaH,Qb4,Qcf,QjF]))
  rfl
 ·by_cases h0:0 < n
  ·have f:=decide_eq_true h0
   rw [if_pos ⟨rfl,h0⟩]
   repeat' (first|((with_reducible show callW _ _ _ (some (102,_)) _ _);refine callP Qb8 rfl (Qb1 _ _ h hn) ?_)|((fail_if_success (with_reducible refine stk ?_));simp only [WE,segX,Nat.reduceBEq,Nat.reduceAdd,Nat.reduceEqDiff,ty_3,ty_4,QaH,Qb4,Qiy,Qcf,QjF,f]))
  ·have f:=decide_eq_false h0
   rw [if_neg (fun h=>h0 h.2)]
   repeat' (first|((fail_if_success (with_reducible refine stk ?_));simp only [WE,segX,Nat.reduceBEq,Nat.reduceAdd,Nat.reduceEqDiff,ty_4,QaH,Qb4,Qcf,QjF,f]))
def clampI (a l h:Int):Int:=if a < l then l else mn a h
theorem Qmg {a l h:Int} (hl:l≤h):l≤clampI a l h∧clampI a l h≤h:=by unfold clampI mn; (repeat' split) <;> omega
def rise (d:Int):Int:=clampI d (-2147483648) 2147483648 * clampI d (-2147483648) 2147483648 * clampI d (-2147483648) 2147483648 * 262144 / 10000000000000000000
def cubLaw (e:Ep) (t:Int):Int:=clampI (sat (e.max+rise (sat (t - e.k)))) 0 68719476736
def cubAt (e:Ep) (now:Int):Int:=if e.on=true∧epOk e then cubLaw e (sat (now - e.start)) else 0
def cubTarget (e:Ep) (now w:Int):Int:=if 0≤w∧e.on=true∧epOk e then clampI (cubAt e now) w (sat (w+w / 2)) else w
theorem Qmp (D:Int) (h0 : -2147483648≤D) (h1:D≤2147483648):(D.natAbs:Int) * D.natAbs * D.natAbs≤9903520314283042199192993792∧0≤(D.natAbs:Int) * D.natAbs * D.natAbs∧D * D * D=(bif decide (D < 0) then -((D.natAbs:Int) * D.natAbs * D.natAbs) else (D.natAbs:Int) * D.natAbs * D.natAbs):=by
 have h2:(D.natAbs:Int)≤2147483648:=by omega
 have h3:0≤(D.natAbs:Int):=by omega
 have h4:(D.natAbs:Int) * D.natAbs≤2147483648 * 2147483648:=Int.mul_le_mul h2 h2 h3 (by omega)
 have h5:0≤(D.natAbs:Int) * D.natAbs:=Int.mul_nonneg h3 h3
 refine ⟨?_,Int.mul_nonneg h5 h3,?_⟩
 ·have:(D.natAbs:Int) * D.natAbs * D.natAbs≤2147483648 * 2147483648 * 2147483648:=Int.mul_le_mul h4 h2 h3 (by omega)
  omega
 ·by_cases h:D < 0
  ·have e:(D.natAbs:Int) = -D:=by omega
   rw [decide_eq_true h,e]
   simp only [cond_true,Int.neg_mul,Int.mul_neg,Int.neg_neg]
  ·have e:(D.natAbs:Int)=D:=by omega
   rw [decide_eq_false h,e]
   rfl
theorem QuV {x:Nat→Obj→Prop} (d:Int) (hd:in64 d):PureC Tryz.prog x 313 [.int .i64 d] (.int .i64 (rise d)):=by
 have hC : -2147483648≤clampI d (-2147483648) 2147483648∧clampI d (-2147483648) 2147483648≤2147483648:=Qmg (by omega)
 have hS:=Qch (x:=x) d (-2147483648) 2147483648
 unfold rise
 have e0:(if d < -2147483648 then -2147483648 else mn d 2147483648)=clampI d (-2147483648) 2147483648:=rfl
 rw [e0] at hS
 generalize clampI d (-2147483648) 2147483648=D at *
 obtain ⟨hc1,hc0,hc2⟩:=Qmp D hC.1 hC.2
 have hA:=Qwc (x:=x) D (i64k (by omega) (by omega))
 rw [Qcd (i64k (by omega) (by omega))] at hA
 obtain ⟨n,hn⟩:∃ n,(D.natAbs:Int)=n:=⟨_,rfl⟩
 rw [hn] at hA hc1 hc0 hc2
 have hn0:0≤n∧n≤2147483648:=by omega
 have w1:wr .u64 n=n:=Qar (by omega) (by omega)
 obtain ⟨N,hN⟩:∃ N,n * n * n=N:=⟨_,rfl⟩
 have hCu:=Ql1 (x:=x) n (by omega) (by omega)
 rw [hN] at hCu hc1 hc0 hc2
 have hb:=QkA hc0
 have hbe:bH N * 18446744073709551616+bL N=N:=bHL (by omega)
 have hSc:=QfV (x:=x) (decide (D < 0)) (bH N) (bL N) 262144 hb.1.1 hb.1.2 hb.2.1 hb.2.2 (by omega) (by omega)
 rw [hbe,QkG _ (by omega) (by omega),Qky (by omega)] at hSc
 have eZ:(bif decide (D < 0) then -(N * 262144) else N * 262144)=D * D * D * 262144:=by
  rw [hc2]; cases decide (D < 0)
  ·rfl
  ·simp only [cond_true]; omega
 rw [eZ] at hSc
 obtain ⟨Z,hZ⟩:∃ Z,D * D * D * 262144=Z:=⟨_,rfl⟩
 rw [hZ] at hSc eZ ⊢
 have hZ1 : -2596148429267413814265248164610048≤Z∧Z≤2596148429267413814265248164610048:=by
  rw [←eZ]; cases decide (D < 0)
  ·simp only [cond_false]; omega
  ·simp only [cond_true]; omega
 have hDi:=QhJ (x:=x) Z 10000000000000000000 (by omega) (by omega) (by omega)
 have hIn:=Qlr (x:=x) (Z / 10000000000000000000) (by omega)
 rw [Qcd (i64k (by omega) (by omega))] at hIn
 refine Qab Tryz.func313 rfl rfl fun w=>?_
 refine Qaa (by kernel_rfl) ?_
 repeat' (first|((with_reducible show callW _ _ _ (some (164,_)) _ _);refine callP Qcn rfl (hS) ?_)|((with_reducible show callW _ _ _ (some (224,_)) _ _);refine callP QiB rfl (hDi) ?_)|((with_reducible show callW _ _ _ (some (227,_)) _ _);refine callP Qn0 rfl (hIn) ?_)|((with_reducible show callW _ _ _ (some (228,_)) _ _);refine callP Qfb rfl (hSc) ?_)|((with_reducible show callW _ _ _ (some (288,_)) _ _);refine callP Qou rfl (hCu) ?_)|((with_reducible show callW _ _ _ (some (316,_)) _ _);refine callP Qzt rfl (hA) ?_)|((fail_if_success (with_reducible refine stk ?_));simp only [WE,segX,Nat.reduceBEq,Nat.reduceAdd,Nat.reduceEqDiff,Int.reduceNeg,ty_4,QaS,Qck,QbC,Qh4,QEp,w1,bigV]))
theorem QCJ (d:Int):in64 (rise d):=by
 have hC : -2147483648≤clampI d (-2147483648) 2147483648∧clampI d (-2147483648) 2147483648≤2147483648:=Qmg (by omega)
 unfold rise
 generalize clampI d (-2147483648) 2147483648=D at *
 obtain ⟨hc1,hc0,hc2⟩:=Qmp D hC.1 hC.2
 rw [hc2]
 generalize (D.natAbs:Int) * D.natAbs * D.natAbs=N at *
 cases decide (D < 0)
 ·simp only [cond_false]; exact i64k (by omega) (by omega)
 ·simp only [cond_true]; exact i64k (by omega) (by omega)
structure EpIn (e:Ep):Prop where
 start:in64 e.start
 first:in64 e.first
 max:in64 e.max
 k:in64 e.k
 est:in64 e.est
theorem QuX {x:Nat→Obj→Prop} (e:Ep) (t:Int) (he:EpIn e) (ht:in64 t):PureC Tryz.prog x 293 [e.v,.int .i64 t] (.int .i64 (cubLaw e t)):=by
 obtain ⟨o,a,b,c,k,d⟩:=e
 unfold Ep.v
 refine Qab Tryz.func293 rfl rfl fun w=>?_
 refine Qaa (by kernel_rfl) ?_
 repeat' (first|((with_reducible show callW _ _ _ (some (102,_)) _ _);refine callP Qb8 rfl (Qb1 _ _ he.max (QCJ _)) ?_)|((with_reducible show callW _ _ _ (some (164,_)) _ _);refine callP Qcn rfl (Qch _ _ _) ?_)|((with_reducible show callW _ _ _ (some (182,_)) _ _);refine callP Qex rfl (Qek _ _ ht he.k) ?_)|((with_reducible show callW _ _ _ (some (313,_)) _ _);refine callP Qyw rfl (QuV _ (QeI _)) ?_)|((with_reducible show cW _ _ (.region 1 _ true) _ _);refine Qas QBi (by kernel_rfl) Qaf (by kernel_rfl) ?_)|((fail_if_success (with_reducible refine stk ?_));simp only [WE,Nat.reduceBEq,Nat.reduceAdd,ty_3,Qgs,Qyi,QEj]))
 rfl
theorem QlA {x:Nat→Obj→Prop} (hT:TensX x) (e:Ep):PureC Tryz.prog x 247 [e.v] (.bool (decide (e.on=true∧epOk e))):=by
 have hc:=QlK hT e
 obtain ⟨o,a,b,c,k,d⟩:=e
 unfold Ep.v
 refine Qab Tryz.func247 rfl rfl fun w=>?_
 refine Qaa (by kernel_rfl) ?_
 cases o
 ·repeat' (first|((fail_if_success (with_reducible refine stk ?_));simp only [WE,Nat.reduceBEq,ty_4,Qb4,Qr5]))
  refine congrArg Value.bool ?_
  exact (decide_eq_false (fun h=>by cases h.1)).symm
 ·repeat' (first|((with_reducible show callW _ _ _ (some (63,_)) _ _);refine callP Qoi rfl (hc) ?_)|((fail_if_success (with_reducible refine stk ?_));simp only [WE,segX,Nat.reduceBEq,ty_4,QaH,Qb4,Qr5]))
theorem QuU {x:Nat→Obj→Prop} (hT:TensX x) (e:Ep) (t:Int) (he:EpIn e) (ht:in64 t):PureC Tryz.prog x 248 [e.v,.int .i64 t] (.int .i64 (cubAt e t)):=by
 have hi:=QlA hT e
 have hl:=QuX (x:=x) e (sat (t - e.start)) he (QeI _)
 obtain ⟨o,a,b,c,k,d⟩:=e
 unfold cubAt
 unfold Ep.v
 by_cases h:o=true∧epOk ⟨o,a,b,c,k,d⟩
 ·have f:=decide_eq_true h
  rw [if_pos h]
  refine Qab Tryz.func248 rfl rfl fun w=>?_
  refine Qaa (by kernel_rfl) ?_
  repeat' (first|((with_reducible show callW _ _ _ (some (182,_)) _ _);refine callP Qex rfl (Qek _ _ ht he.start) ?_)|((with_reducible show callW _ _ _ (some (247,_)) _ _);refine callP Qgx rfl (hi) ?_)|((with_reducible show callW _ _ _ (some (293,_)) _ _);refine callP Qyy rfl (hl) ?_)|((with_reducible show cW _ _ (.region 3 _ true) _ _);refine Qas QBf (by kernel_rfl) Qaf (by kernel_rfl) ?_)|((fail_if_success (with_reducible refine stk ?_));simp only [WE,segX,Nat.reduceBEq,Nat.reduceAdd,ty_3,QaH,Qiy,Qr6,f]))
 ·have f:=decide_eq_false h
  rw [if_neg h]
  refine Qab Tryz.func248 rfl rfl fun w=>?_
  refine Qaa (by kernel_rfl) ?_
  repeat' (first|((with_reducible show callW _ _ _ (some (247,_)) _ _);refine callP Qgx rfl (hi) ?_)|((fail_if_success (with_reducible refine stk ?_));simp only [WE,segX,Nat.reduceBEq,Nat.reduceAdd,QaH,Qr6,f]))
theorem QuW {x:Nat→Obj→Prop} (hT:TensX x) (e:Ep) (t n:Int) (he:EpIn e) (ht:in64 t) (hn:in64 n):PureC Tryz.prog x 198 [e.v,.int .i64 t,.int .i64 n] (.int .i64 (cubTarget e t n)):=by
 have hi:=QlA hT e
 have hl:=QuU hT e t he ht
 obtain ⟨o,a,b,c,k,d⟩:=e
 unfold cubTarget
 have hn':=hn
 unfold in64 at hn'
 unfold Ep.v at *
 by_cases h0:0≤n
 ·have f0:decide (n < 0)=false:=decide_eq_false (by omega)
  have w1:wr .i64 (n.tdiv 2)=n / 2:=by rw [Int.tdiv_eq_ediv_of_nonneg h0,Qag (by omega) (by omega)]
  by_cases h:o=true∧epOk ⟨o,a,b,c,k,d⟩
  ·have f:=decide_eq_true h
   rw [if_pos ⟨h0,h⟩]
   refine Qab Tryz.func198 rfl rfl fun w=>?_
   refine Qaa (by kernel_rfl) ?_
   repeat' (first|((with_reducible show callW _ _ _ (some (102,_)) _ _);refine callP Qb8 rfl (Qb1 _ _ hn (i64k (by omega) (by omega))) ?_)|((with_reducible show callW _ _ _ (some (164,_)) _ _);refine callP Qcn rfl (Qch _ _ _) ?_)|((with_reducible show callW _ _ _ (some (247,_)) _ _);refine callP Qgx rfl (hi) ?_)|((with_reducible show callW _ _ _ (some (248,_)) _ _);refine callP Qyv rfl (hl) ?_)|((fail_if_success (with_reducible refine stk ?_));simp only [WE,segX,Nat.reduceBEq,Nat.reduceAdd,Int.reduceEq,QaH,QjG,f,f0,w1]))
   rfl
  ·have f:=decide_eq_false h
   rw [if_neg (fun h'=>h h'.2)]
   refine Qab Tryz.func198 rfl rfl fun w=>?_
   refine Qaa (by kernel_rfl) ?_
   repeat' (first|((with_reducible show callW _ _ _ (some (247,_)) _ _);refine callP Qgx rfl (hi) ?_)|((fail_if_success (with_reducible refine stk ?_));simp only [WE,segX,Nat.reduceBEq,Nat.reduceAdd,QaH,QjG,f,f0]))
 ·have f0:decide (n < 0)=true:=decide_eq_true (by omega)
  rw [if_neg (fun h'=>h0 h'.1)]
  refine Qab Tryz.func198 rfl rfl fun w=>?_
  refine Qaa (by kernel_rfl) ?_
  repeat' (first|((fail_if_success (with_reducible refine stk ?_));simp only [WE,Nat.reduceBEq,Nat.reduceAdd,QjG,f0]))
def rtTime (r:Rtt):Int:=if r.has=true∧rttCheck r=true then rttMean r else 100000
def rtNum (slow:Bool):Int:=bif slow then 2 else 5
def rtDen (slow:Bool):Int:=bif slow then 1 else 4
def rateOf (w s:Int) (r:Rtt) (slow:Bool):Int:=mx (lim3 w 0 68719476736 * rtNum slow * (lim3 s 1 65535 * 1000000) / (rtDen slow * 65536 * rtTime r)) 1
theorem QEW (r:Rtt):1≤rtTime r∧rtTime r≤1073741824:=by
 unfold rtTime
 by_cases h:r.has=true∧rttCheck r=true
 ·rw [if_pos h]
  rcases (Qcw r).1 h.2 with h1 | h1
  ·rw [QeH r (by omega) (by omega)]; omega
  ·rw [h1.1] at h; cases h.1
 ·rw [if_neg h]; omega
theorem QvR {x:Nat→Obj→Prop} (r:Rtt):PureC Tryz.prog x 181 [.agg #[.bool r.has,.int .i64 r.mean,.int .i64 r.far]] (.int .i64 (rtTime r)):=by
 obtain ⟨h,m,f⟩:=r
 unfold rtTime
 refine Qab Tryz.func181 rfl rfl fun w=>?_
 refine Qaa (by kernel_rfl) ?_
 repeat' (first|(with_reducible refine Qah (fun _=>?_) (fun _=>?_))|((with_reducible show callW _ _ _ (some (58,_)) _ _);refine callP QgK rfl (Qf5 ..) ?_)|((with_reducible show callW _ _ _ (some (200,_)) _ _);refine callP QgL rfl (Qf6 ..) ?_)|((fail_if_success (with_reducible refine stk ?_));simp only [WE,segX,Nat.reduceBEq,ty_4,Qba,Qgp,QDs]))
 all_goals refine congrArg (Value.int .i64) ?_
 all_goals simp_all
theorem QvP {x:Nat→Obj→Prop} (s:Bool):PureC Tryz.prog x 180 [.bool s] (.tuple #[.int .i64 (rtNum s),.int .i64 (rtDen s)]):=by
 refine Qab Tryz.func180 rfl rfl fun w=>?_
 refine Qaa (by kernel_rfl) ?_
 cases s
 ·repeat' (first|((fail_if_success (with_reducible refine stk ?_));simp only [WE,Nat.reduceBEq,QrZ]))
  rfl
 ·repeat' (first|((fail_if_success (with_reducible refine stk ?_));simp only [WE,Nat.reduceBEq,QrZ]))
  rfl
theorem Ql0 {x:Nat→Obj→Prop} (l h n:Int):PureC Tryz.prog x 179 [.agg #[.int .i64 l,.int .i64 h],.int .i64 n] (.int .i64 (lim3 n l h)):=by
 refine Qab Tryz.func179 rfl rfl fun w=>?_
 refine Qaa (by kernel_rfl) ?_
 repeat' (first|((fail_if_success (with_reducible refine stk ?_));simp only [WE,Nat.reduceBEq,Nat.reduceAdd,ty_3,Qyc,Qyd,QDq]))
 rfl
theorem QvQ {x:Nat→Obj→Prop} (w s:Int) (r:Rtt) (slow:Bool):PureC Tryz.prog x 120 [.int .i64 w,.int .i64 s,.agg #[.bool r.has,.int .i64 r.mean,.int .i64 r.far],.bool slow] (.int .i64 (rateOf w s r slow)):=by
 have hT:=QEW r
 have b1:0≤lim3 w 0 68719476736∧lim3 w 0 68719476736≤68719476736:=by unfold lim3 mn mx; (repeat' split) <;> omega
 have b2:1≤lim3 s 1 65535∧lim3 s 1 65535≤65535:=by unfold lim3 mn mx; (repeat' split) <;> omega
 have b3:2≤rtNum slow∧rtNum slow≤5:=by unfold rtNum; cases slow <;> decide
 have b4:1≤rtDen slow∧rtDen slow≤4:=by unfold rtDen; cases slow <;> decide
 have hTk1:=Ql0 (x:=x) 0 68719476736 w
 have hTk2:=Ql0 (x:=x) 1 65535 s
 have hG:=QvP (x:=x) slow
 have hTi:=QvR (x:=x) r
 unfold rateOf
 generalize lim3 w 0 68719476736=W at *
 generalize lim3 s 1 65535=Sg at *
 generalize rtNum slow=N at *
 generalize rtDen slow=D at *
 generalize rtTime r=T at *
 have p1:0≤W * N∧W * N≤68719476736 * 5:=⟨Int.mul_nonneg b1.1 (by omega),Int.mul_le_mul b1.2 b3.2 (by omega) (by omega)⟩
 have p2:65536≤D * 65536 * T∧D * 65536 * T≤262144 * 1073741824:=⟨by
  have:65536 * 1≤D * 65536 * T:=Int.mul_le_mul (by omega) hT.1 (by omega) (by omega)
  omega,Int.mul_le_mul (by omega) hT.2 (by omega) (by omega)⟩
 have w1:wr .i64 (W * N)=W * N:=Qag (by omega) (by omega)
 have w2:wr .i64 (Sg * 1000000)=Sg * 1000000:=Qag (by omega) (by omega)
 have w3:wr .i64 (D * 65536)=D * 65536:=Qag (by omega) (by omega)
 have w4:wr .i64 (D * 65536 * T)=D * 65536 * T:=Qag (by omega) (by omega)
 have p3:0≤W * N * (Sg * 1000000)∧W * N * (Sg * 1000000)≤343597383680 * 65535000000:=⟨Int.mul_nonneg p1.1 (by omega),Int.mul_le_mul (by omega) (by omega) (by omega) (by omega)⟩
 have p4:0≤W * N * (Sg * 1000000) / (D * 65536 * T)∧W * N * (Sg * 1000000) / (D * 65536 * T)≤9223372036854775807:=⟨Int.ediv_nonneg p3.1 (by omega),by
  refine Int.ediv_le_of_le_mul (by omega) ?_
  have:9223372036854775807 * 65536≤9223372036854775807 * (D * 65536 * T):=Int.mul_le_mul_of_nonneg_left p2.1 (by omega)
  omega⟩
 have hF:=Qdd (x:=x) (W * N) (Sg * 1000000) (D * 65536 * T) (i64k (by omega) (by omega)) (i64k (by omega) (by omega)) (i64k (by omega) (by omega))
 rw [Qe7 (by omega) (i64k (by omega) (by omega)),Qgk (by omega) (i64k (by omega) (by omega))] at hF
 refine Qab Tryz.func120 rfl rfl fun w=>?_
 refine Qaa (by kernel_rfl) ?_
 repeat' (first|(((with_reducible show callW _ _ _ (some (179,_)) _ _);refine callP (Qac Tryz.func179 rfl rfl) rfl hTk1 ?_))|(((with_reducible show callW _ _ _ (some (179,_)) _ _);refine callP (Qac Tryz.func179 rfl rfl) rfl hTk2 ?_))|((with_reducible show callW _ _ _ (some (100,_)) _ _);refine callP QcS rfl (hF) ?_)|((with_reducible show callW _ _ _ (some (180,_)) _ _);refine callP Qy9 rfl (hG) ?_)|((with_reducible show callW _ _ _ (some (181,_)) _ _);refine callP Qzb rfl (hTi) ?_)|((with_reducible show cW _ _ (.region 3 _ true) _ _);refine Qas QAQ (by kernel_rfl) Qaf (by kernel_rfl) ?_)|((fail_if_success (with_reducible refine stk ?_));simp only [WE,Nat.reduceLeDiff,segX,Nat.reduceBEq,Nat.reduceAdd,Int.reduceBNe,Qba,Qua,QCX,w1,w2,w3,w4]))
open Go Go.RowKit
namespace R
theorem Qik {P:Program} {w:World} {r:Nat} {l:Array MapEntry} {c:Nat} (es:Array Event) (hb:w.heap[r]? = some (.map l c)):(getObj r).events P w es=es.push ⟨.obj r,false,false⟩:=by
 simp [getObj,Sem.events,Sem.runT,hb,Obj.isChan,-Sem.runT_eq]
theorem QxO {P:Program} {w:World} {r:Nat} {l l':Array MapEntry} {c c':Nat} (es:Array Event) (hb:w.heap[r]? = some (.map l c)):(setObj r (.map l' c')).events P w es=es.push ⟨.obj r,true,false⟩:=by
 simp [setObj,Sem.events,Sem.runT,hb,Obj.isChan,-Sem.runT_eq]
theorem Qih {P:Program} {w:World} {kt:TypeId} {kd k:IntKind} {z:Int} (hk:P.underlying kt=some (.int kd)) (e:Bool) (n:Nat) (es:Array Event):(Instr.checkKey e (n+1) kt (.int k z)).events P w es=es:=by
 unfold Instr.checkKey
 simp [Sem.events_bind,run_underlying hk]
theorem Qij {P:Program} {w:World} {kt:TypeId} {d:TypeDesc} {k:Value} {l:List MapEntry} {a:Option (Nat×Value)} (hd:P.underlying kt=some d) (h:Instr.findNow d k l 0=some a) (es:Array Event):(Instr.findKey kt k l).events P w es=es:=by
 simp [Instr.findKey,run_underlying hd,h]
theorem Qj4 {P:Program} {T kt et:TypeId} {kd k:IntKind} {z:Int} {v:Value} {es:Array MapEntry} {n:Nat} {K:Obj→Prop} (ht:P.underlying T=some (.map kt et)) (hk:P.underlying kt=some (.int kd))
  (hf:Instr.findNow (.int kd) (.int k z) es.toList 0=some none) (hkd:MapKept.IsKey (.int kd) (.int k z)) (h:K (.map (es.push ⟨.int k z,v,n⟩) (n+1))):updW P T (.int k z) v (.map es n) K:=by
 refine ⟨_,fun r w hb=>⟨?_,fun e he=>?_⟩,h⟩
 ·simp [Instr.mapUpdate,run_underlying ht,MapKept.run_getObj_map hb,MapKept.run_checkKey hk hkd,MapKept.run_findKey hk hf,MapKept.run_setObj_map _ hb,Result.andThen]
 ·simp [Instr.mapUpdate,run_underlying ht,MapKept.run_getObj_map hb,MapKept.run_checkKey hk hkd,MapKept.run_findKey hk hf,Qik _ hb,Qih hk,Qij hk hf,QxO _ hb] at he
  rcases he with rfl | rfl <;> exact ⟨rfl,rfl⟩
theorem Qpt {P:Program} {T kt et:TypeId} {kd k:IntKind} {z:Int} {ok:Bool} {es:Array MapEntry} {n i:Nat} {v:Value} {K:Value→Prop} (ht:P.underlying T=some (.map kt et)) (hk:P.underlying kt=some (.int kd))
  (hf:Instr.findNow (.int kd) (.int k z) es.toList 0=some (some (i,v))) (hkd:MapKept.IsKey (.int kd) (.int k z)) (h:K (if ok=true then .tuple #[v,.bool true] else v)):lookW P T (.int k z) ok (.map es n) K:=by
 refine ⟨_,fun r w hb=>⟨?_,fun e he=>?_⟩,h⟩
 ·simp [Instr.lookup,run_underlying ht,MapKept.run_getObj_map hb,MapKept.run_checkKey hk hkd,MapKept.run_findKey hk hf,Result.andThen]
 ·have he:e∈#[(⟨.obj r,false,false⟩:Event)]:=by
   cases ok <;> simpa [Instr.lookup,run_underlying ht,MapKept.run_getObj_map hb,MapKept.run_checkKey hk hkd,MapKept.run_findKey hk hf,Qik _ hb,Qih hk,Qij hk hf] using he
  simp at he
  subst he
  exact ⟨rfl,rfl,rfl⟩
theorem QAz {P:Program} {T kt et:TypeId} {kd k:IntKind} {z:Int} {ok:Bool} {es:Array MapEntry} {n:Nat} {v:Value} {K:Value→Prop} (ht:P.underlying T=some (.map kt et)) (hk:P.underlying kt=some (.int kd))
  (hz:(P.info? et).bind (·.zero)=some v) (hf:Instr.findNow (.int kd) (.int k z) es.toList 0=some none) (hkd:MapKept.IsKey (.int kd) (.int k z)) (h:K (if ok=true then .tuple #[v,.bool false] else v)):lookW P T (.int k z) ok (.map es n) K:=by
 refine ⟨_,fun r w hb=>?_,h⟩
 obtain ⟨i,hi,hv⟩:=Option.bind_eq_some_iff.1 hz
 refine ⟨?_,fun e he=>?_⟩
 ·simp [Instr.lookup,run_underlying ht,MapKept.run_getObj_map hb,MapKept.run_checkKey hk hkd,MapKept.run_findKey hk hf,Result.andThen,zeroValue,typeInfo,hi,hv]
 ·have he:e∈#[(⟨.obj r,false,false⟩:Event)]:=by
   cases ok <;> simpa [Instr.lookup,run_underlying ht,MapKept.run_getObj_map hb,MapKept.run_checkKey hk hkd,MapKept.run_findKey hk hf,Qik _ hb,Qih hk,Qij hk hf,zeroValue,typeInfo,hi,hv] using he
  simp at he
  subst he
  exact ⟨rfl,rfl,rfl⟩
theorem QxW {k:IntKind} {z:Int} {i:Nat}:Instr.findNow (.int k) (.int k z) [] i=some none:=rfl
theorem QxV {k:IntKind} {z y:Int} {v:Value} {n i:Nat} {l:List MapEntry}:Instr.findNow (.int k) (.int k z) (⟨.int k y,v,n⟩ :: l) i=if z=y then some (some (i,v)) else Instr.findNow (.int k) (.int k z) l (i+1):=by
 by_cases h:z=y
 ·subst h; simp [Instr.findNow,Instr.sameNow]
 ·have e:(z == y)=false:=by simpa using h
  rw [if_neg h]; simp only [Instr.findNow,Instr.sameNow,if_true,e]
theorem Qjp {α:Type} {l:List α} {a:α}:(l.toArray).push a=(l ++ [a]).toArray:=by simp
end R
structure Hy where
 last:Int
 least:Int
 many:Int
 gentle:Bool
 done:Bool
 base:Int
 rounds:Int
def hyOk (h:Hy):Prop:=0≤h.last∧h.last≤1073741824∧0≤h.least∧h.least≤1073741824∧0≤h.many∧h.many≤8∧(h.many=0↔h.least=0) ∧
 ((h.gentle=false∧h.base=0∧h.rounds=0)∨(h.gentle=true∧h.done=false∧1≤h.base∧h.base≤1073741824∧0≤h.rounds∧h.rounds≤5))
instance (h:Hy):Decidable (hyOk h):=by unfold hyOk; infer_instance
def hyCheck (h:Hy):Bool:=decide (hyOk h)
def hyThresh (l:Int):Int:=mn (mx (wr .i64 (l.tdiv 8)) 4000) 16000
def hyMay (t:Int):Bool:=decide (0≤t) && decide (t≤1073741824)
def hyPhase (g d:Bool):Int:=bif d then 3 else bif g then 2 else 1
def hySwift (h:Hy):Hy:=if 0 < h.last∧h.last+hyThresh h.last≤h.least then ⟨h.last,h.least,h.many,true,h.done,h.least,h.rounds⟩ else h
def hyMild (h:Hy):Hy:=if h.least < h.base then ⟨h.last,h.least,h.many,false,h.done,0,0⟩ else h
def hyAct (h:Hy):Hy:=if h.many=8 then (bif h.done then h else bif h.gentle then hyMild h else hySwift h) else h
def hyCount (h:Hy) (t:Int):Hy:=⟨h.last,if h.least=0∨t < h.least then t else h.least,mn (h.many+1) 8,h.gentle,h.done,h.base,h.rounds⟩
def hySample (h:Hy) (t:Int):Hy×Int:=if hyOk h∧1≤t∧t≤1073741824 then (hyAct (hyCount h t),0) else (h,201)
def hyRound (h:Hy):Hy×Int:=if hyOk h then (if h.gentle=true then (if 5≤h.rounds+1 then ⟨h.least,0,0,false,true,0,0⟩ else ⟨h.least,0,0,true,h.done,h.base,h.rounds+1⟩) else ⟨h.least,0,0,false,h.done,h.base,h.rounds⟩,0) else (h,201)
def hyPart (h:Hy) (n:Int):Int:=bif h.done then 0 else bif h.gentle then wr .i64 ((mx n 0).tdiv 4) else mx n 0
theorem beqq {a b:Int}:(((a == 0) == (b == 0))=true)=(a=0↔b=0):=by
 rw [beq_iff_eq,Bool.eq_iff_iff,beq_iff_eq,beq_iff_eq]
theorem beqr {a b:Int}:((a == 0)=(b == 0))=(a=0↔b=0):=by
 rw [Bool.eq_iff_iff,beq_iff_eq,beq_iff_eq]
theorem QhS {x:Nat→Obj→Prop} (t:Int):PureC Tryz.prog x 111 [.int .i64 t] (.bool (hyMay t)):=by
 refine Qab Tryz.func111 rfl rfl fun w=>?_
 refine Qaa (by kernel_rfl) ?_
 repeat' (first|(with_reducible refine Qah (fun _=>?_) (fun _=>?_))|((fail_if_success (with_reducible refine stk ?_));simp only [WE,Nat.reduceBEq,QCU]))
 all_goals (simp only [hyMay, *,Bool.true_and,Bool.false_and]; try rfl)
theorem QhT {x:Nat→Obj→Prop} (a b c:Int) (g d:Bool) (p r:Int):PureC Tryz.prog x 110 [.agg #[.int .i64 a,.int .i64 b,.int .i64 c,.bool g,.bool d,.int .i64 p,.int .i64 r]] (.int .i64 (hyPhase g d)):=by
 refine Qab Tryz.func110 rfl rfl fun w=>?_
 refine Qaa (by kernel_rfl) ?_
 repeat' (first|(with_reducible refine Qah (fun _=>?_) (fun _=>?_))|((fail_if_success (with_reducible refine stk ?_));simp only [WE,Nat.reduceBEq,ty_4,Qgm,Qya,QCT]))
 all_goals (simp only [hyPhase, *,cond_true,cond_false]; try rfl)
theorem Qvw {x:Nat→Obj→Prop} (t:Int):PureC Tryz.prog x 292 [.int .i64 t] (.int .i64 (hyThresh t)):=by
 refine Qab Tryz.func292 rfl rfl fun w=>?_
 refine Qaa (by kernel_rfl) ?_
 repeat' (first|((fail_if_success (with_reducible refine stk ?_));simp only [WE,Nat.reduceBEq,Int.reduceEq,QEi]))
 all_goals rfl
theorem QcH {x:Nat→Obj→Prop} (a b c:Int) (g d:Bool) (p r:Int):PureC Tryz.prog x 62 [.agg #[.int .i64 a,.int .i64 b,.int .i64 c,.bool g,.bool d,.int .i64 p,.int .i64 r]] (.bool (hyCheck ⟨a,b,c,g,d,p,r⟩)):=by
 refine Qab Tryz.func62 rfl rfl fun w=>?_
 refine Qaa (by kernel_rfl) ?_
 cases d <;> cases g
 repeat' (first|(with_reducible refine Qah (fun _=>?_) (fun _=>?_))|((with_reducible show callW _ _ _ (some (110,_)) _ _);refine callP QiK rfl (QhT ..) ?_)|((with_reducible show callW _ _ _ (some (111,_)) _ _);refine callP QiJ rfl (QhS ..) ?_)|((fail_if_success (with_reducible refine stk ?_));simp only [WE,segX,Nat.reduceBEq,Nat.reduceAdd,Nat.reduceEqDiff,Int.reduceBEq,ty_3,ty_4,QaT,QfB,QnK,Qgl,QnL,Qgm,Qis,QnM,QfF,Tryz.underlying4,QEI,hyPhase]))
 all_goals (refine congrArg Value.bool (Bool.eq_iff_iff.2 ?_))
 all_goals (simp only [hyCheck,hyOk,hyMay,beqq,beqr,Bool.and_eq_true,Bool.and_eq_false_iff,decide_eq_true_eq,decide_eq_false_iff_not,bne_iff_ne,ne_eq,bne_eq_false_iff_eq,Bool.not_eq_true',Bool.not_eq_false',beq_iff_eq,Bool.false_eq_true,Bool.true_eq_false,reduceCtorEq,true_and,false_and,and_false,or_false,false_or,false_iff,true_iff,iff_true,iff_false] at *)
 all_goals omega
theorem Qvz {x:Nat→Obj→Prop} (a b c:Int) (g d:Bool) (p r:Int) (h1:0≤a∧a≤1073741824):PureC Tryz.prog x 242 [.agg #[.int .i64 a,.int .i64 b,.int .i64 c,.bool g,.bool d,.int .i64 p,.int .i64 r]]
  (.agg #[.int .i64 (hySwift ⟨a,b,c,g,d,p,r⟩).last,.int .i64 (hySwift ⟨a,b,c,g,d,p,r⟩).least,.int .i64 (hySwift ⟨a,b,c,g,d,p,r⟩).many,.bool (hySwift ⟨a,b,c,g,d,p,r⟩).gentle,.bool (hySwift ⟨a,b,c,g,d,p,r⟩).done,.int .i64 (hySwift ⟨a,b,c,g,d,p,r⟩).base,.int .i64 (hySwift ⟨a,b,c,g,d,p,r⟩).rounds]):=by
 have k1:4000≤hyThresh a∧hyThresh a≤16000:=by unfold hyThresh mn mx; (repeat' split) <;> omega
 have k2:wr .i64 (a+hyThresh a)=a+hyThresh a:=Qag (by omega) (by omega)
 refine Qab Tryz.func242 rfl rfl fun w=>?_
 refine Qaa (by kernel_rfl) ?_
 repeat' (first|(with_reducible refine Qah (fun _=>?_) (fun _=>?_))|((with_reducible show callW _ _ _ (some (292,_)) _ _);refine callP Qy2 rfl (Qvw ..) ?_)|((with_reducible show cW _ _ (.region 1 _ true) _ _);refine Qas QBe (by kernel_rfl) Qaf (by kernel_rfl) ?_)|((fail_if_success (with_reducible refine stk ?_));simp only [WE,segX,Nat.reduceBEq,Nat.reduceAdd,Nat.reduceEqDiff,ty_3,ty_4,QfB,QnK,Qgl,Qgm,Qis,QfF,QD3,k2]))
 all_goals (simp only [decide_eq_true_eq,decide_eq_false_iff_not] at *)
 all_goals (unfold hySwift; first | rw [if_pos ⟨by assumption,by assumption⟩] | rw [if_neg (fun h=>absurd h.1 (by assumption))] | rw [if_neg (fun h=>absurd h.2 (by assumption))])
theorem Qvx {x:Nat→Obj→Prop} (a b c:Int) (g d:Bool) (p r:Int):PureC Tryz.prog x 243 [.agg #[.int .i64 a,.int .i64 b,.int .i64 c,.bool g,.bool d,.int .i64 p,.int .i64 r]]
  (.agg #[.int .i64 (hyMild ⟨a,b,c,g,d,p,r⟩).last,.int .i64 (hyMild ⟨a,b,c,g,d,p,r⟩).least,.int .i64 (hyMild ⟨a,b,c,g,d,p,r⟩).many,.bool (hyMild ⟨a,b,c,g,d,p,r⟩).gentle,.bool (hyMild ⟨a,b,c,g,d,p,r⟩).done,.int .i64 (hyMild ⟨a,b,c,g,d,p,r⟩).base,.int .i64 (hyMild ⟨a,b,c,g,d,p,r⟩).rounds]):=by
 refine Qab Tryz.func243 rfl rfl fun w=>?_
 refine Qaa (by kernel_rfl) ?_
 repeat' (first|(with_reducible refine Qah (fun _=>?_) (fun _=>?_))|((fail_if_success (with_reducible refine stk ?_));simp only [WE,segX,Nat.reduceBEq,Nat.reduceAdd,Nat.reduceEqDiff,ty_3,ty_4,QfB,Qgl,Qgm,Qis,QnM,QfF,QD4]))
 all_goals (simp only [decide_eq_true_eq,decide_eq_false_iff_not] at *)
 all_goals (unfold hyMild; first | rw [if_pos (by assumption)] | rw [if_neg (by assumption)])
theorem Qvy {x:Nat→Obj→Prop} (a b c:Int) (g d:Bool) (p r:Int):PureC Tryz.prog x 244 [.agg #[.int .i64 a,.int .i64 b,.int .i64 c,.bool g,.bool d,.int .i64 p,.int .i64 r]]
  (.agg #[.int .i64 a,.int .i64 b,.int .i64 c,.bool g,.bool d,.int .i64 p,.int .i64 r]):=by
 refine Qab Tryz.func244 rfl rfl fun w=>?_
 refine Qaa (by kernel_rfl) ?_
 repeat' (first|((fail_if_success (with_reducible refine stk ?_));simp only [WE,segX,Nat.reduceBEq,Nat.reduceAdd,Nat.reduceEqDiff,QfB,QfF,QD5]))
theorem Qpu {P:Program} {T kt et:TypeId} {kd k:IntKind} {z:Int} {es:Array MapEntry} {n i:Nat} {v:Value} {K:Value→Prop} (ht:P.underlying T=some (.map kt et)) (hk:P.underlying kt=some (.int kd))
  (hf:Instr.findNow (.int kd) (.int k z) es.toList 0=some (some (i,v))) (hkd:MapKept.IsKey (.int kd) (.int k z)) (h:K v):lookW P T (.int k z) false (.map es n) K:=Qpt ht hk hf hkd h
theorem Qvv {x:Nat→Obj→Prop} (a b c:Int) (g d:Bool) (p r:Int) (t:Int):PureC Tryz.prog x 192 [.agg #[.int .i64 a,.int .i64 b,.int .i64 c,.bool g,.bool d,.int .i64 p,.int .i64 r],.int .i64 t]
  (.tuple #[.agg #[.int .i64 (hySample ⟨a,b,c,g,d,p,r⟩ t).1.last,.int .i64 (hySample ⟨a,b,c,g,d,p,r⟩ t).1.least,.int .i64 (hySample ⟨a,b,c,g,d,p,r⟩ t).1.many,.bool (hySample ⟨a,b,c,g,d,p,r⟩ t).1.gentle,.bool (hySample ⟨a,b,c,g,d,p,r⟩ t).1.done,.int .i64 (hySample ⟨a,b,c,g,d,p,r⟩ t).1.base,.int .i64 (hySample ⟨a,b,c,g,d,p,r⟩ t).1.rounds],.int .i64 (hySample ⟨a,b,c,g,d,p,r⟩ t).2]):=by
 refine Qab Tryz.func192 rfl rfl fun w=>?_
 refine Qaa (by kernel_rfl) ?_
 by_cases hok:hyOk ⟨a,b,c,g,d,p,r⟩∧1≤t∧t≤1073741824
 ·have e0:hySample ⟨a,b,c,g,d,p,r⟩ t=(hyAct (hyCount ⟨a,b,c,g,d,p,r⟩ t),0):=if_pos hok
  rw [e0]
  obtain ⟨ho,t1,t2⟩:=hok
  have k1:hyCheck ⟨a,b,c,g,d,p,r⟩=true:=decide_eq_true ho
  have k2:decide (t < 1)=false:=decide_eq_false (by omega)
  have k3:hyMay t=true:=by unfold hyMay; rw [decide_eq_true (by omega),decide_eq_true t2]; rfl
  unfold hyOk at ho
  dsimp only at ho
  have k4:wr .i64 (c+1)=c+1:=Qag (by omega) (by omega)
  cases d <;> cases g
  repeat' (first|(with_reducible refine Qj4 Tryz.underlying237 Tryz.underlying136 (by with_unfolding_all exact rfl) (by with_unfolding_all exact rfl) ?_)|(with_reducible refine Qpu Tryz.underlying237 Tryz.underlying136 (by with_unfolding_all exact rfl) (by with_unfolding_all exact rfl) ?_)|(with_reducible refine Qah (fun _=>?_) (fun _=>?_))|((with_reducible show callW _ _ _ (some (62,_)) _ _);refine callP QcT rfl (QcH ..) ?_)|((with_reducible show callW _ _ _ (some (110,_)) _ _);refine callP QiK rfl (QhT ..) ?_)|((with_reducible show callW _ _ _ (some (111,_)) _ _);refine callP QiJ rfl (QhS ..) ?_)|((with_reducible show callW _ _ _ (some (242,_)) _ _);refine callP Qy5 rfl (Qvz _ _ _ _ _ _ _ (by omega)) ?_)|((with_reducible show callW _ _ _ (some (243,_)) _ _);refine callP Qy3 rfl (Qvx ..) ?_)|((with_reducible show callW _ _ _ (some (244,_)) _ _);refine callP Qy4 rfl (Qvy ..) ?_)|((with_reducible show cW _ _ (.region 9 _ true) _ _);refine QbI 6 QA3 (by kernel_rfl) Qaf (by kernel_rfl) ?_; intro l1 l2 e1 e2; simp only [List.take_succ_cons,List.take_zero,List.drop_succ_cons,List.drop_zero] at e1 e2; subst e1; subst e2)|((fail_if_success (with_reducible refine stk ?_));simp only [WE,segX,Nat.reduceBEq,Nat.reduceAdd,Nat.reduceEqDiff,ty_3,QaT,QfB,Qgl,QnL,Qc3,QfF,Qhi,k1,k2,k3,k4,hyPhase,Qjp]))
  all_goals (simp only [beq_iff_eq,beq_eq_false_iff_ne,decide_eq_true_eq,decide_eq_false_iff_not,ne_eq] at *)
  all_goals (unfold hyAct hyCount; dsimp only)
  all_goals ((repeat' split) <;> first | rfl|(exfalso; omega))
 ·have e0:hySample ⟨a,b,c,g,d,p,r⟩ t=(⟨a,b,c,g,d,p,r⟩,201):=if_neg hok
  rw [e0]
  cases hc:hyCheck ⟨a,b,c,g,d,p,r⟩
  ·repeat' (first|((with_reducible show callW _ _ _ (some (62,_)) _ _);refine callP QcT rfl (QcH ..) ?_)|((fail_if_success (with_reducible refine stk ?_));simp only [WE,segX,Nat.reduceBEq,Nat.reduceAdd,Nat.reduceEqDiff,QaT,Qc3,Qhi,hc]))
  ·have ho:=of_decide_eq_true hc
   by_cases h1:t < 1
   ·have k2:decide (t < 1)=true:=decide_eq_true h1
    repeat' (first|((with_reducible show callW _ _ _ (some (62,_)) _ _);refine callP QcT rfl (QcH ..) ?_)|((fail_if_success (with_reducible refine stk ?_));simp only [WE,segX,Nat.reduceBEq,Nat.reduceAdd,Nat.reduceEqDiff,QaT,Qc3,Qhi,hc,k2]))
   ·have k2:decide (t < 1)=false:=decide_eq_false h1
    have k3:hyMay t=false:=by
     unfold hyMay
     rw [decide_eq_false (show ¬ t≤1073741824 from fun h=>hok ⟨ho,by omega,h⟩),Bool.and_false]
    repeat' (first|((with_reducible show callW _ _ _ (some (62,_)) _ _);refine callP QcT rfl (QcH ..) ?_)|((with_reducible show callW _ _ _ (some (111,_)) _ _);refine callP QiJ rfl (QhS ..) ?_)|((fail_if_success (with_reducible refine stk ?_));simp only [WE,segX,Nat.reduceBEq,Nat.reduceAdd,Nat.reduceEqDiff,QaT,Qc3,Qhi,hc,k2,k3]))
theorem Qvu {x:Nat→Obj→Prop} (a b c:Int) (g d:Bool) (p r:Int):PureC Tryz.prog x 132 [.agg #[.int .i64 a,.int .i64 b,.int .i64 c,.bool g,.bool d,.int .i64 p,.int .i64 r]]
  (.tuple #[.agg #[.int .i64 (hyRound ⟨a,b,c,g,d,p,r⟩).1.last,.int .i64 (hyRound ⟨a,b,c,g,d,p,r⟩).1.least,.int .i64 (hyRound ⟨a,b,c,g,d,p,r⟩).1.many,.bool (hyRound ⟨a,b,c,g,d,p,r⟩).1.gentle,.bool (hyRound ⟨a,b,c,g,d,p,r⟩).1.done,.int .i64 (hyRound ⟨a,b,c,g,d,p,r⟩).1.base,.int .i64 (hyRound ⟨a,b,c,g,d,p,r⟩).1.rounds],.int .i64 (hyRound ⟨a,b,c,g,d,p,r⟩).2]):=by
 refine Qab Tryz.func132 rfl rfl fun w=>?_
 refine Qaa (by kernel_rfl) ?_
 cases hc:hyCheck ⟨a,b,c,g,d,p,r⟩
 ·have ho:=of_decide_eq_false hc
  rw [show hyRound ⟨a,b,c,g,d,p,r⟩=(⟨a,b,c,g,d,p,r⟩,201) from if_neg ho]
  repeat' (first|((with_reducible show callW _ _ _ (some (62,_)) _ _);refine callP QcT rfl (QcH ..) ?_)|((fail_if_success (with_reducible refine stk ?_));simp only [WE,segX,Nat.reduceBEq,Nat.reduceAdd,Nat.reduceEqDiff,QaT,Qc3,QjC,hc]))
 ·have ho:=of_decide_eq_true hc
  have h0:=ho
  unfold hyOk at ho
  dsimp only at ho
  have k4:wr .i64 (r+1)=r+1:=Qag (by omega) (by omega)
  cases g
  ·have hr0:decide (5≤r)=false:=decide_eq_false (by simp only [Bool.false_eq_true,false_and,or_false,true_and] at ho; omega)
   unfold hyRound
   rw [if_pos h0,if_neg (by simp)]
   repeat' (first|((with_reducible show callW _ _ _ (some (62,_)) _ _);refine callP QcT rfl (QcH ..) ?_)|((fail_if_success (with_reducible refine stk ?_));simp only [WE,segX,Nat.reduceBEq,Nat.reduceAdd,Nat.reduceEqDiff,ty_3,ty_4,QaT,QnR,QnS,QnT,Qix,QnU,Qc3,QjC,hc,hr0]))
  ·unfold hyRound
   rw [if_pos h0,if_pos rfl]
   repeat' (first|(with_reducible refine Qah (fun _=>?_) (fun _=>?_))|((with_reducible show callW _ _ _ (some (62,_)) _ _);refine callP QcT rfl (QcH ..) ?_)|((fail_if_success (with_reducible refine stk ?_));simp only [WE,segX,Nat.reduceBEq,Nat.reduceAdd,Nat.reduceEqDiff,ty_3,ty_4,QaT,QnR,QnS,QnT,Qix,Qgr,Qyg,QnU,Qc3,QjC,hc,k4]))
   all_goals (simp only [decide_eq_true_eq,decide_eq_false_iff_not] at *)
   all_goals (first | rw [if_pos (by assumption)] | rw [if_neg (by assumption)])
theorem Qvt {x:Nat→Obj→Prop} (a b c:Int) (g d:Bool) (p r n:Int):PureC Tryz.prog x 334 [.agg #[.int .i64 a,.int .i64 b,.int .i64 c,.bool g,.bool d,.int .i64 p,.int .i64 r],.int .i64 n] (.int .i64 (hyPart ⟨a,b,c,g,d,p,r⟩ n)):=by
 refine Qab Tryz.func334 rfl rfl fun w=>?_
 refine Qaa (by kernel_rfl) ?_
 cases d <;> cases g
 repeat' (first|((with_reducible show callW _ _ _ (some (110,_)) _ _);refine callP QiK rfl (QhT ..) ?_)|((fail_if_success (with_reducible refine stk ?_));simp only [WE,segX,Nat.reduceBEq,Nat.reduceAdd,Int.reduceEq,Int.reduceBEq,QaT,QEt,hyPhase]))
 all_goals rfl
theorem QhR {x:Nat→Obj→Prop} (n:Int):PureC Tryz.prog x 194 [.int .i64 n] (.int .i64 (cutOf n)):=by
 refine Qab Tryz.func194 rfl rfl fun w=>?_
 refine Qaa (by kernel_rfl) ?_
 repeat' (first|((with_reducible show callW _ _ _ (some (164,_)) _ _);refine callP Qcn rfl (Qch _ _ _) ?_)|((fail_if_success (with_reducible refine stk ?_));simp only [WE,Nat.reduceBEq,QDB]))
 rfl
theorem QlQ {x:Nat→Obj→Prop} (n h:Int):PureC Tryz.prog x 135 [.int .i64 n,.int .i64 h] (.int .i64 (mn (cutOf n) (cutOf h))):=by
 refine Qab Tryz.func135 rfl rfl fun w=>?_
 refine Qaa (by kernel_rfl) ?_
 repeat' (first|((with_reducible show callW _ _ _ (some (194,_)) _ _);refine callP QiI rfl (QhR _) ?_)|((fail_if_success (with_reducible refine stk ?_));simp only [WE,Nat.reduceBEq,Nat.reduceAdd,QC9]))
def Hy.v (h:Hy):Value:=.agg #[.int .i64 h.last,.int .i64 h.least,.int .i64 h.many,.bool h.gentle,.bool h.done,.int .i64 h.base,.int .i64 h.rounds]
theorem Qvn {x:Nat→Obj→Prop} (h:Hy) (w t:Int):PureC Tryz.prog x 333 [.agg #[.int .i64 h.last,.int .i64 h.least,.int .i64 h.many,.bool h.gentle,.bool h.done,.int .i64 h.base,.int .i64 h.rounds],.int .i64 w,.int .i64 t] (.int .i64 (hyPart h (mn t 524288))):=by
 obtain ⟨a,b,c,g,d,p,r⟩:=h
 refine Qab Tryz.func333 rfl rfl fun w=>?_
 refine Qaa (by kernel_rfl) ?_
 repeat' (first|((with_reducible show callW _ _ _ (some (334,_)) _ _);refine callP QyZ rfl (Qvt ..) ?_)|((fail_if_success (with_reducible refine stk ?_));simp only [WE,segX,Nat.reduceBEq,Nat.reduceAdd,QaT,Qye,QEs]))
def calmBy (target w t:Int):Int:=if target≤w then 0 else mn (t * (target - w) / w) (target - w)
theorem Qvm {x:Nat→Obj→Prop} (g w t:Int) (hg:in64 g) (hw:131072≤w∧w≤68719476736) (ht:0≤t∧t≤68719476736):PureC Tryz.prog x 335 [.agg #[.int .i64 g],.int .i64 w,.int .i64 t] (.int .i64 (calmBy g w t)):=by
 unfold in64 at hg
 unfold calmBy
 by_cases h:g≤w
 ·have f:=decide_eq_true h
  rw [if_pos h]
  refine Qab Tryz.func335 rfl rfl fun w=>?_
  refine Qaa (by kernel_rfl) ?_
  repeat' (first|((fail_if_success (with_reducible refine stk ?_));simp only [WE,Nat.reduceBEq,Nat.reduceAdd,ty_3,Qiu,QjK,f]))
 ·have f:=decide_eq_false h
  rw [if_neg h]
  have w1:wr .i64 (g - w)=g - w:=Qag (by omega) (by omega)
  have hF:=Qdd (x:=x) t (g - w) w (i64k (by omega) (by omega)) (i64k (by omega) (by omega)) (i64k (by omega) (by omega))
  by_cases hq:in64 (t * (g - w) / w)
  ·rw [Qe7 (by omega) hq,Qgk (by omega) hq] at hF
   refine Qab Tryz.func335 rfl rfl fun w=>?_
   refine Qaa (by kernel_rfl) ?_
   repeat' (first|((with_reducible show callW _ _ _ (some (100,_)) _ _);refine callP QcS rfl (hF) ?_)|((fail_if_success (with_reducible refine stk ?_));simp only [WE,Nat.reduceBEq,Nat.reduceAdd,Int.reduceBNe,ty_3,Qiu,QjK,f,w1]))
  ·have e1:floE t (g - w) w=10:=by
    unfold floE fitE; unfold in64 at hq; rw [if_neg (by omega),if_neg hq]
   have q0:0≤t * (g - w) / w:=Int.ediv_nonneg (Int.mul_nonneg ht.1 (by omega)) (by omega)
   have e2:mn (t * (g - w) / w) (g - w)=g - w:=by
    unfold in64 at hq; unfold mn; rw [if_pos (by omega)]
   rw [e1] at hF
   rw [e2]
   refine Qab Tryz.func335 rfl rfl fun w=>?_
   refine Qaa (by kernel_rfl) ?_
   repeat' (first|((with_reducible show callW _ _ _ (some (100,_)) _ _);refine callP QcS rfl (hF) ?_)|((fail_if_success (with_reducible refine stk ?_));simp only [WE,Nat.reduceBEq,Nat.reduceAdd,Int.reduceBNe,ty_3,Qiu,QjK,f,w1]))
def tld (t:Int):Int:=if t < 0 then 0 else mn t 68719476736
theorem QsX (t:Int):0≤tld t∧tld t≤68719476736:=by unfold tld mn; (repeat' split) <;> omega
def growSlow (w t:Int) (h:Hy):Int:=cutOf (sat (cutOf w+hyPart h (mn (tld t) 524288)))
def growBoth (w g est t:Int):Int:=cutOf (mx (sat (cutOf w+calmBy g (cutOf w) (tld t))) est)
theorem Qws {g w t:Int} (hg:in64 g) (hw:131072≤w∧w≤68719476736) (ht:0≤t∧t≤68719476736):0≤calmBy g w t∧in64 (calmBy g w t):=by
 unfold in64 at hg
 unfold calmBy
 by_cases h:g≤w
 ·rw [if_pos h]; exact ⟨by omega,i64k (by omega) (by omega)⟩
 ·rw [if_neg h]
  have q0:0≤t * (g - w) / w:=Int.ediv_nonneg (Int.mul_nonneg ht.1 (by omega)) (by omega)
  generalize t * (g - w) / w=Q at *
  unfold mn
  split
  ·exact ⟨by omega,i64k (by omega) (by omega)⟩
  ·exact ⟨by omega,i64k (by omega) (by omega)⟩
theorem QzV (g e a b : Int) : R.Yields Tryz.prog (invoke (Target.fn (Fn.method "sawtooth/grow.by") #[]) (#[Value.iface 241 (.agg #[.iface 243 (.agg #[.int .i64 g]), .int .i64 e])] ++ #[.int .i64 a, .int .i64 b])) (.enter 335 #[.agg #[.int .i64 g], .int .i64 a, .int .i64 b]) := fun w => by
 exact ⟨rfl,rfl⟩
theorem QzX (l1 l2 l3 l4 l5 a b : Int) (c d : Bool) : R.Yields Tryz.prog (invoke (Target.fn (Fn.method "sawtooth/grow.by") #[]) (#[Value.iface 208 (.agg #[.int .i64 l1, .int .i64 l2, .int .i64 l3, .bool c, .bool d, .int .i64 l4, .int .i64 l5])] ++ #[.int .i64 a, .int .i64 b])) (.enter 333 #[.agg #[.int .i64 l1, .int .i64 l2, .int .i64 l3, .bool c, .bool d, .int .i64 l4, .int .i64 l5], .int .i64 a, .int .i64 b]) := fun w => by
 exact ⟨rfl,rfl⟩
theorem QFR {K:Value→Prop} (g e:Int):pureW Tryz.prog (Instr.typeAssert (.iface 241 (.agg #[.iface 243 (.agg #[.int .i64 g]),.int .i64 e])) 239 241 true) K=K (.tuple #[.agg #[.iface 243 (.agg #[.int .i64 g]),.int .i64 e],.bool true]):=
 QaD fun w=>⟨by rfl,by rfl⟩
theorem QFS {K:Value→Prop} (v:Value):pureW Tryz.prog (Instr.typeAssert (.iface 208 v) 239 241 true) K=K (.tuple #[.agg #[.nilIface,.int .i64 0],.bool false]):=
 QaD fun w=>⟨by rfl,by rfl⟩
theorem QFT {K:Value→Prop} (v:Value):pureW Tryz.prog (Instr.typeAssert (.iface 208 v) 239 243 true) K=K (.tuple #[.agg #[.int .i64 0],.bool false]):=
 QaD fun w=>⟨by rfl,by rfl⟩
theorem Qvk {x:Nat→Obj→Prop} (w t g e:Int) (hg:in64 g):PureC Tryz.prog x 195 [.int .i64 w,.int .i64 t,.iface 241 (.agg #[.iface 243 (.agg #[.int .i64 g]),.int .i64 e])] (.int .i64 (growBoth w g e t)):=by
 have hw:=Qem w
 have ht:=QsX t
 have hC:=Qch (x:=x) t 0 68719476736
 have e0:(if t < 0 then 0 else mn t 68719476736)=tld t:=rfl
 rw [e0] at hC
 have hB:=Qvm (x:=x) g (cutOf w) (tld t) hg hw ht
 have hi:=Qws hg hw ht
 unfold growBoth
 refine Qab Tryz.func195 rfl rfl fun w=>?_
 refine Qaa (by kernel_rfl) ?_
 repeat' (first|(((with_reducible show invokeW _ _ _ _);refine ⟨_,_,_,QzV _ _ _ _,hB,?_⟩))|(rw [QFR])|((with_reducible show callW _ _ _ (some (102,_)) _ _);refine callP Qb8 rfl (Qb1 _ _ (i64k (by omega) (by omega)) hi.2) ?_)|((with_reducible show callW _ _ _ (some (164,_)) _ _);refine callP Qcn rfl (hC) ?_)|((with_reducible show callW _ _ _ (some (194,_)) _ _);refine callP QiI rfl (QhR _) ?_)|((fail_if_success (with_reducible refine stk ?_));simp only [WE,Nat.reduceBEq,Nat.reduceAdd,Nat.reduceEqDiff,ty_3,QGa,Qyf,QGc,Qr2]))
theorem QzM {h:Hy} {t:Int} (ht:0≤t∧t≤68719476736):0≤hyPart h t∧hyPart h t≤t:=by
 unfold hyPart mx
 have e1:wr .i64 (t.tdiv 4)=t / 4:=by rw [Int.tdiv_eq_ediv_of_nonneg ht.1,Qag (by omega) (by omega)]
 rw [if_neg (by omega)]
 cases h.done <;> cases h.gentle <;> simp only [cond_true,cond_false,e1] <;> omega
theorem Qvl {x:Nat→Obj→Prop} (w t:Int) (h:Hy):PureC Tryz.prog x 195 [.int .i64 w,.int .i64 t,.iface 208 (.agg #[.int .i64 h.last,.int .i64 h.least,.int .i64 h.many,.bool h.gentle,.bool h.done,.int .i64 h.base,.int .i64 h.rounds])] (.int .i64 (growSlow w t h)):=by
 have hw:=Qem w
 have ht:=QsX t
 have hC:=Qch (x:=x) t 0 68719476736
 have e0:(if t < 0 then 0 else mn t 68719476736)=tld t:=rfl
 rw [e0] at hC
 have hB:=Qvn (x:=x) h (cutOf w) (tld t)
 have hm:0≤mn (tld t) 524288∧mn (tld t) 524288≤68719476736:=by unfold mn; split <;> omega
 have hi:=QzM (h:=h) hm
 unfold growSlow
 refine Qab Tryz.func195 rfl rfl fun w=>?_
 refine Qaa (by kernel_rfl) ?_
 repeat' (first|(((with_reducible show invokeW _ _ _ _);refine ⟨_,_,_,QzX _ _ _ _ _ _ _ _ _,hB,?_⟩))|(rw [QFS])|(rw [QFT])|((with_reducible show callW _ _ _ (some (102,_)) _ _);refine callP Qb8 rfl (Qb1 _ _ (i64k (by omega) (by omega)) (i64k (by omega) (by omega))) ?_)|((with_reducible show callW _ _ _ (some (164,_)) _ _);refine callP Qcn rfl (hC) ?_)|((with_reducible show callW _ _ _ (some (194,_)) _ _);refine callP QiI rfl (QhR _) ?_)|((fail_if_success (with_reducible refine stk ?_));simp only [WE,Nat.reduceBEq,Nat.reduceAdd,Qr2]))
theorem Qvj {x:Nat→Obj→Prop} (w t:Int) (h:Hy):PureC Tryz.prog x 136 [.int .i64 w,.int .i64 t,h.v] (.int .i64 (growSlow w t h)):=by
 have hA:=Qvl (x:=x) w t h
 obtain ⟨a,b,c,g,d,p,r⟩:=h
 unfold Hy.v
 refine Qab Tryz.func136 rfl rfl fun w=>?_
 refine Qaa (by kernel_rfl) ?_
 repeat' (first|(((with_reducible show pureW _ (Instr.makeInterface _ _) _);refine ⟨_,fun w=>⟨rfl,rfl⟩,?_⟩))|((with_reducible show callW _ _ _ (some (195,_)) _ _);refine callP Qoo rfl (hA) ?_)|((fail_if_success (with_reducible refine stk ?_));simp only [WE,Nat.reduceLeDiff,segX,Nat.reduceBEq,Nat.reduceAdd,QaT,Qub,QDa]))
theorem Qvi {x:Nat→Obj→Prop} (w g e t:Int) (hg:in64 g):PureC Tryz.prog x 201 [.int .i64 w,.int .i64 g,.int .i64 e,.int .i64 t] (.int .i64 (growBoth w g e t)):=by
 have hA:=Qvk (x:=x) w t g e hg
 refine Qab Tryz.func201 rfl rfl fun w=>?_
 refine Qaa (by kernel_rfl) ?_
 repeat' (first|(((with_reducible show pureW _ (Instr.makeInterface _ _) _);refine ⟨_,fun w=>⟨rfl,rfl⟩,?_⟩))|((with_reducible show callW _ _ _ (some (195,_)) _ _);refine callP Qoo rfl (hA) ?_)|((fail_if_success (with_reducible refine stk ?_));simp only [WE,Nat.reduceLeDiff,Nat.reduceBEq,Nat.reduceAdd,Quc,Qud,QDG]))
theorem QuJ {x:Nat→Obj→Prop} (a b:Int) (ha:(a.natAbs:Int) < 340282366920938463463374607431768211456) (hb:(b.natAbs:Int) < 340282366920938463463374607431768211456):PureC Tryz.prog x 185 [bigV a,bigV b] (.int .i64 (cmpI a b)):=by
 have h1:=QeB ha
 have h2:=QeB hb
 have:=QfU (x:=x) (decide (a < 0)) (decide (b < 0)) _ _ _ _ h1.1.1 h1.1.2 h1.2.1 h1.2.2 h2.1.1 h2.1.2 h2.2.1 h2.2.2
 rw [Qhn,Qhn] at this
 exact this
def used (w o s:Int):Bool:=decide (0≤w∧0≤o∧0≤s∧w * s≤o * 131072)
theorem QuC {P:Program} {ts:Array TypeId} {t:TypeId} {k:IntKind} {cs:Array Bool} {K:Value→Prop} {a b c:Int}:builtW P (builtin .min ts t cs #[.int k a,.int k b,.int k c]) K=K (.int k (mn (mn a b) c)):=
 QeW fun w=>by
  constructor <;> simp [builtin,Builtin.min_,Builtin.min2,mn]
  (repeat' split) <;> first | rfl | omega
theorem Qvq {x:Nat→Obj→Prop} (w o s:Int) (hw:in64 w) (ho:in64 o) (hs:in64 s):PureC Tryz.prog x 127 [.int .i64 w,.int .i64 o,.int .i64 s] (.bool (used w o s)):=by
 have m1:=QgX ho (show in64 131072 from i64k (by omega) (by omega))
 have m2:=QgX hw hs
 have hm:0≤mn (mn w o) s↔0≤w∧0≤o∧0≤s:=by unfold mn; (repeat' split) <;> omega
 have hM1:=QhK (x:=x) o 131072 ho (i64k (by omega) (by omega))
 have hM2:=QhK (x:=x) w s hw hs
 have hCm:=QuJ (x:=x) (o * 131072) (w * s) (by omega) (by omega)
 unfold used
 refine Qab Tryz.func127 rfl rfl fun _=>?_
 refine Qaa (by kernel_rfl) ?_
 repeat' (first|(with_reducible refine Qah (fun _=>?_) (fun _=>?_))|((with_reducible show callW _ _ _ (some (185,_)) _ _);refine callP Qgu rfl (hCm) ?_)|((with_reducible show callW _ _ _ (some (186,_)) _ _);refine callP QiC rfl (hM1) ?_)|((with_reducible show callW _ _ _ (some (186,_)) _ _);refine callP QiC rfl (hM2) ?_)|((fail_if_success (with_reducible refine stk ?_));simp only [WE,Nat.reduceBEq,Nat.reduceAdd,QC3,QuC]))
 all_goals refine congrArg Value.bool ?_
 all_goals simp only [decide_eq_true_eq,decide_eq_false_iff_not,Bool.not_eq_true',Bool.not_eq_false',bne_iff_ne,ne_eq,bne_eq_false_iff_eq,beq_iff_eq,beq_eq_false_iff_ne,Bool.and_eq_true,Bool.and_eq_false_iff,Bool.or_eq_true,Bool.or_eq_false_iff,not_true_eq_false,not_false_eq_true] at *
 ·rename_i h
  refine decide_eq_decide.2 ?_
  have hc:0≤cmpI (o * 131072) (w * s)↔w * s≤o * 131072:=by
   unfold cmpI; (repeat' split) <;> omega
  rw [hc]
  have:=hm.1 h
  exact ⟨fun h=>⟨this.1,this.2.1,this.2.2,h⟩,fun h=>h.2.2.2⟩
 ·rename_i h
  exact (decide_eq_false (fun h'=>h (hm.2 ⟨h'.1,h'.2.1,h'.2.2.1⟩))).symm
end Go.Proofs.YtkokohkbhlnjkaaGreatDoor
