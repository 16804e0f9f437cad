/- The framework and the contracts of the program's functions, part 1: what each answers. Conditions: those that each names. -/
import Derived.Conc.Own
import Derived.Conc.Listed
import Derived.Conc.Events
import Derived.Conc.Script
import Derived.Conc.AppendEvents3
import Derived.AtR
import Derived.Orders
import Derived.Deep.Quiet
import Derived.Tactics
import Derived.Below
import Derived.KernelRfl
import Derived.StillTail
import Derived.Laws.CopyRow
import Derived.Laws.Rows
import Derived.Laws.StructEq
import Derived.Laws.Tables
import Derived.Laws.AppendOwn
import Derived.Great.BuildSlice
import Derived.Scope
import Derived.ScopeJumps
namespace Go.Proofs.YtkokohkbhlnjkaaGreatDoor
set_option linter.unusedVariables false
set_option linter.unusedSimpArgs false
open Go Go.RowKit
namespace R
structure Conn where
 c:Nat
 q:Nat
 vs:List Value
 kid:Nat
 X0:Nat→Prop
 F:Nat→Prop
structure Feed where
 c:Nat
 q:Nat
 vs:List Value
structure Gh where
 id:Nat
 conn:List Conn
 feed:Option Feed
 quits:Bool
structure WM where
 w:World
 M:Nat→Prop
 X:Nat→Prop
 gh:Gh
abbrev WM.main (w:WM):Bool:=w.gh.id == 0
abbrev WM.heap (w:WM):Array Obj:=w.w.heap
abbrev WM.os (w:WM):Os:=w.w.os
abbrev WM.tape (w:WM):Nat→Question→Nat:=w.w.tape
abbrev WM.output (w:WM):Array (Nat×ByteArray):=w.w.output
def WM.O (w:WM) (b:Nat):Prop:=w.M b∨w.X b
def WM.to (w:WM) (v:World):WM:=⟨v,fun b=>w.M b∨(w.heap.size≤b∧b < v.heap.size),w.X,w.gh⟩
theorem WM.to_self (w:WM):w.to w.w=w:=by
 unfold WM.to
 cases w with
 | mk v M X m=>
  simp only [WM.mk.injEq,true_and,and_true]
  funext b
  exact propext ⟨fun h=>h.elim id fun h=>absurd h.2 (by simp only [WM.heap] at h; omega),.inl⟩
def okEv (w:WM) (e:Event):Prop:=
 match e.loc with
 | .cell a=>False∨(if e.write=true then w.M a.block else w.O a.block)
 | .obj r=>(e.sync=false∨True)∧(False∨(if e.write=true then w.M r else w.O r))
 | .mark (.extern _)=>True
 | .mark .noRoom=>True
 | _=>False
def EvIn (w:WM) (es:Array Event):Prop:=∀ e∈es,okEv w e
theorem EvIn.nil (w:WM):EvIn w #[]:=fun e h=>by simp at h
structure Rely (w w1:WM):Prop where
 M:w1.M=w.M
 X:w1.X=w.X
 gh:w1.gh=w.gh
 os:w1.os=w.os
 tape:w1.tape=w.tape
 output:w1.output=w.output
 size:w.heap.size≤w1.heap.size
 block:∀ b,w.O b→b < w.heap.size→w1.heap[b]? = w.heap[b]?
theorem Rely.refl (w:WM):Rely w w:=⟨rfl,rfl,rfl,rfl,rfl,rfl,Nat.le_refl _,fun _ _ _=>rfl⟩
theorem Rely.O {w w1:WM} (h:Rely w w1) (b:Nat):w1.O b↔w.O b:=by unfold WM.O; rw [h.M,h.X]
theorem Rely.trans {a b c:WM} (h:Rely a b) (k:Rely b c):Rely a c:=
 ⟨k.M.trans h.M,k.X.trans h.X,k.gh.trans h.gh,k.os.trans h.os,k.tape.trans h.tape,k.output.trans h.output,Nat.le_trans h.size k.size,
  fun i hi hs=>(k.block i ((h.O i).2 hi) (Nat.lt_of_lt_of_le hs h.size)).trans (h.block i hi hs)⟩
structure Guar (w:WM) (v:World) (es:Array Event):Prop where
 os:v.os=w.os
 tape:v.tape=w.tape
 output:v.output=w.output
 size:w.heap.size≤v.heap.size
 block:∀ b,b < w.heap.size→¬ w.M b→v.heap[b]? = w.heap[b]?
 ev:EvIn w es
theorem Guar.refl {w:WM} {es:Array Event} (h:EvIn w es):Guar w w.w es:=⟨rfl,rfl,rfl,Nat.le_refl _,fun _ _ _=>rfl,h⟩
theorem Guar.none (w:WM):Guar w w.w #[]:=.refl (.nil w)
theorem Guar.sub {w:WM} {v:World} {es es':Array Event} (h:Guar w v es) (hs:∀ e∈es',e∈es):Guar w v es':=
 ⟨h.os,h.tape,h.output,h.size,h.block,fun e he=>h.ev e (hs e he)⟩
theorem Guar.drew (w:WM):Guar w { w.w with drawn:=w.w.drawn+1 } #[]:=⟨rfl,rfl,rfl,Nat.le_refl _,fun _ _ _=>rfl,.nil w⟩
def NoX (es:Array Event):Prop:=∀ e∈es,∀ f,e.loc≠.mark (.extern f)
theorem NoX.nil:NoX #[]:=fun e h=>by simp at h
def GuarT (w:WM) (v:World) (es:Array Event):Prop:=Guar w v es∧NoX es
theorem GuarT.none (w:WM):GuarT w w.w #[]:=⟨.none w,.nil⟩
theorem GuarT.drew (w:WM):GuarT w { w.w with drawn:=w.w.drawn+1 } #[]:=⟨.drew w,.nil⟩
theorem Qp6 {P:Program} {fn:FuncId} {es:Array Event}:NoX (seen P fn es):=by
 have key:∀ (l:List Event) (q:Bool) (kept:Array Event),NoX kept→NoX (l.foldl (fun (z:Bool×Array Event) e=>match e.loc with
   | .mark (.extern f)=>((P.funcs[f]?).any (·.norace),z.2)
   | _=>(z.1,if z.1 && !e.sync then z.2 else z.2.push e)) (q,kept)).2:=by
  intro l
  induction l with
  | nil=>exact fun q kept h=>h
  | cons e l ih=>
   intro q kept h
   rw [List.foldl_cons]
   split
   ·exact ih _ _ h
   ·rename_i hne
    refine ih _ _ ?_
    show NoX (if q && !e.sync then kept else kept.push e)
    split
    ·exact h
    ·intro e' he' f hf
     rcases Array.mem_push.1 he' with he' | rfl
     ·exact h e' he' f hf
     ·exact hne f hf
 have:=key es.toList ((P.funcs[fn]?).any (·.norace)) #[] .nil
 rw [Array.foldl_toList] at this
 exact this
theorem Guar.seen {P:Program} {fn:FuncId} {w:WM} {v:World} {es:Array Event} (h:Guar w v es):GuarT w v (Go.seen P fn es):=⟨h.sub fun e he=>Go.Conc.mem_seen he,Qp6⟩
def WM.lend (w:WM) (c q:Nat) (vs:List Value) (F:Nat→Prop) (i:Nat):WM:=
 ⟨w.w,fun b=>w.M b∧¬ F b∧b≠c∧b≠q,fun b=>w.X b∨F b,{ w.gh with conn:=⟨c,q,vs,i,w.X,F⟩ :: w.gh.conn }⟩
def star:Nat:=0
def WM.kid (w:WM) (c q:Nat) (vs:List Value) (F:Nat→Prop) (i:Nat):WM:=
 ⟨w.w,fun _=>False,fun b=>(w.X b∨F b)∧b≠star,⟨i,[],some ⟨c,q,vs⟩,false⟩⟩
def WM.got (w:WM) (k:Conn) (vs:List Value) (rest:List Conn):WM:=⟨w.w,w.M,w.X,{ w.gh with conn:={ k with vs } :: rest }⟩
def WM.pop (w:WM) (k:Conn) (rest:List Conn):WM:=⟨w.w,fun b=>w.M b∨k.F b∨b=k.q,k.X0,{ w.gh with conn:=rest }⟩
def WM.sent (w:WM) (f:Feed) (vs:List Value):WM:=⟨w.w,w.M,w.X,{ w.gh with feed:=some { f with vs } }⟩
def WM.quit (w:WM):WM:=⟨w.w,fun _=>False,fun _=>False,{ w.gh with feed:=none,quits:=true }⟩
open Go.Conc (rcase scase core QuitsIn)
abbrev Elem:=Goroutine×WM
def openCh (w:World) (c:Nat):Prop:=∃ s r tm,w.heap[c]? = some (.chan 0 #[] false s r tm)
def shutCh (w:World) (c:Nat):Prop:=∃ s r tm,w.heap[c]? = some (.chan 0 #[] true s r tm)
inductive Moves (P:Program) (Stop:Goroutine→WM→Prop) (g:Goroutine) (w:WM) (K:List Elem→Prop):Prop
 | stop (hs:g.status=.running) (h:∀ w1,Rely w w1→Stop g w1)
 | step (hs:g.status=.running) (h:∀ w1,Rely w w1→∃ g' v es,stepG P w1.main g w1.w=.go g' v es∧GuarT w1 v es∧K [(g',w1.to v)])
 | fork (hs:g.status=.running) (c q:Nat) (vs:List Value) (F:Nat→Prop) (hc:w.M c) (hq:w.M q) (hcq:c≠q) (hF:∀ b,F b→w.M b∧b≠c∧b≠q) (ho:w.O star)
   (h:∀ w1,Rely w w1→openCh w1.w c∧openCh w1.w q∧∃ g' child,stepG P w1.main g w1.w=.spawn g' child w1.w #[]∧∀ i,i≠0→K [(g',w1.lend c q vs F i),(child,w1.kid c q vs F i)])
 | recv (hs:g.status=.running) (k:Conn) (rest:List Conn) (hk:w.gh.conn=k :: rest) (z:Value) (sh:CommShape)
   (h:∀ w1,Rely w w1→stepG P w1.main g w1.w=.comm (core g) #[rcase k.c z] true sh w1.w #[])
   (hv:∀ v vs,k.vs=v :: vs→∀ w1,Rely w w1→K [((core g).finishComm P #[rcase k.c z] sh 0 v true,w1.got k vs rest)])
   (hn:k.vs=[]→∀ w1,Rely w w1→openCh w1.w k.q→K [((core g).finishComm P #[rcase k.c z] sh 0 z false,w1.pop k rest)])
 | send (hs:g.status=.running) (f:Feed) (hf:w.gh.feed=some f) (v:Value) (vs:List Value) (hv:f.vs=v :: vs) (z z':Value) (sh:CommShape)
   (h:∀ w1,Rely w w1→stepG P w1.main g w1.w=.comm (core g) #[scase f.c v z,rcase f.q z'] true sh w1.w #[])
   (hk:∀ w1,Rely w w1→K [((core g).finishComm P #[scase f.c v z,rcase f.q z'] sh 0 undef false,w1.sent f vs)])
 | close (hs:g.status=.running) (f:Feed) (hf:w.gh.feed=some f) (hv:f.vs=[]) (hm:mayWake P g=true) (g':Goroutine) (n:Nat) (hq:QuitsIn P n g')
   (h:∀ w1,Rely w w1→∀ s r tm,w1.heap[f.c]? = some (.chan 0 #[] false s r tm)→stepG P w1.main g w1.w=.go g' (w1.w.shut f.c s r tm) #[⟨.obj f.c,false,true⟩,⟨.obj f.c,true,true⟩])
   (hk:∀ w1,Rely w w1→K [(g',w1.quit)])
 | done (hs:g.status=.finished) (hq:w.gh.quits=true)
theorem Moves.mono {P:Program} {Stop:Goroutine→WM→Prop} {g:Goroutine} {w:WM} {K K':List Elem→Prop} (h:Moves P Stop g w K) (hK:∀ l,K l→K' l):Moves P Stop g w K':=by
 cases h with
 | stop hs h=>exact .stop hs h
 | step hs h=>exact .step hs fun w1 hr=>by obtain ⟨g',v,es,h1,h2,h3⟩:=h w1 hr; exact ⟨g',v,es,h1,h2,hK _ h3⟩
 | fork hs c q vs F hc hq hcq hF ho h=>exact .fork hs c q vs F hc hq hcq hF ho fun w1 hr=>by obtain ⟨h1,h2,g',child,h3,h4⟩:=h w1 hr; exact ⟨h1,h2,g',child,h3,fun i hi=>hK _ (h4 i hi)⟩
 | recv hs k rest hk z sh h hv hn=>exact .recv hs k rest hk z sh h (fun v vs e w1 hr=>hK _ (hv v vs e w1 hr)) (fun e w1 hr ho=>hK _ (hn e w1 hr ho))
 | send hs f hf v vs hv z z' sh h hk=>exact .send hs f hf v vs hv z z' sh h fun w1 hr=>hK _ (hk w1 hr)
 | close hs f hf hv hm g' n hq h hk=>exact .close hs f hf hv hm g' n hq h fun w1 hr=>hK _ (hk w1 hr)
 | done hs hq=>exact .done hs hq
theorem Moves.rely {P:Program} {Stop:Goroutine→WM→Prop} {g:Goroutine} {w w1:WM} {K:List Elem→Prop} (h:Moves P Stop g w K) (hr:Rely w w1):Moves P Stop g w1 K:=by
 have hg:=hr.gh
 cases h with
 | stop hs h=>exact .stop hs fun w2 h2=>h w2 (hr.trans h2)
 | step hs h=>exact .step hs fun w2 h2=>h w2 (hr.trans h2)
 | fork hs c q vs F hc hq hcq hF ho h=>exact .fork hs c q vs F (by rw [hr.M]; exact hc) (by rw [hr.M]; exact hq) hcq (by rw [hr.M]; exact hF) ((hr.O _).2 ho) fun w2 h2=>h w2 (hr.trans h2)
 | recv hs k rest hk z sh h hv hn=>exact .recv hs k rest (by rw [hg]; exact hk) z sh (fun w2 h2=>h w2 (hr.trans h2)) (fun v vs e w2 h2=>hv v vs e w2 (hr.trans h2)) (fun e w2 h2 ho=>hn e w2 (hr.trans h2) ho)
 | send hs f hf v vs hv z z' sh h hk=>exact .send hs f (by rw [hg]; exact hf) v vs hv z z' sh (fun w2 h2=>h w2 (hr.trans h2)) fun w2 h2=>hk w2 (hr.trans h2)
 | close hs f hf hv hm g' n hq h hk=>exact .close hs f (by rw [hg]; exact hf) hv hm g' n hq (fun w2 h2=>h w2 (hr.trans h2)) fun w2 h2=>hk w2 (hr.trans h2)
 | done hs hq=>exact .done hs (by rw [hg]; exact hq)
inductive Run (P:Program) (Stop:Goroutine→WM→Prop):Goroutine→WM→Prop
 | mk {g:Goroutine} {w:WM} (K:List Elem→Prop) (h:Moves P Stop g w K) (hk:∀ l,K l→∀ e∈l,Run P Stop e.1 e.2):Run P Stop g w
section
variable {P:Program} {Stop:Goroutine→WM→Prop} {g g':Goroutine} {w:WM}
def AllRun (P:Program) (Stop:Goroutine→WM→Prop) (l:List Elem):Prop:=∀ e∈l,Run P Stop e.1 e.2
theorem Run.of (h:Moves P Stop g w (AllRun P Stop)):Run P Stop g w:=.mk _ h fun _ h=>h
theorem QeS (h:Run P Stop g w):AllRun P Stop [(g,w)]:=fun e he=>by
 simp only [List.mem_singleton] at he
 subst he
 exact h
theorem Run.stop (hs:g.status=.running) (h:∀ w1,Rely w w1→Stop g w1):Run P Stop g w:=.of (.stop hs h)
theorem Run.go (hs:g.status=.running) (h:∀ w1,Rely w w1→∃ g' v es,stepG P w1.main g w1.w=.go g' v es∧GuarT w1 v es∧Run P Stop g' (w1.to v)):Run P Stop g w:=
 .of (.step hs fun w1 hr=>by obtain ⟨g',v,es,h1,h2,h3⟩:=h w1 hr; exact ⟨g',v,es,h1,h2,QeS h3⟩)
theorem Run.rely (h:Run P Stop g w) {w1:WM} (hr:Rely w w1):Run P Stop g w1:=by
 cases h with
 | mk K h hk=>exact .mk K (h.rely hr) hk
theorem Run.ctl (hs:g.status=.running) (h:∀ m v,stepG P m g v=.go g' v #[]) (h2:Run P Stop g' w):Run P Stop g w:=
 .go hs fun w1 hr=>⟨g',w1.w,#[],h _ _,.none w1,by rw [WM.to_self]; exact h2.rely hr⟩
end
open Go.Conc (G)
section moves
variable {P:Program} {main:Bool} {b:Frame} {a:Act} {k:List Item} {cs:List Frame} {w:World} {ops:Array Oper}
theorem QFr:stepG P main (G (b.atR a (.code .skip :: k)) cs) w=.go (G (b.atR a k) cs) w #[]:=by simp [G,stepG,stepG.exec,Frame.atR]
theorem QFo {l:Nat}:stepG P main (G (b.atR a (.code (.label l) :: k)) cs) w=.go (G (b.atR a k) cs) w #[]:=by simp [G,stepG,stepG.exec,Frame.atR]
theorem QFm {id:Nat}:stepG P main (G (b.atR a (.inBlock id :: k)) cs) w=.go (G (b.atR a k) cs) w #[]:=by simp [G,stepG,stepG.exec,Frame.atR]
theorem QjP {c:Code}:stepG P main (G (b.atR a (.inScope c :: k)) cs) w=.go (G (b.atR a k) cs) w #[]:=by simp [G,stepG,stepG.exec,Frame.atR]
theorem Qsz {x y:Code}:stepG P main (G (b.atR a (.code (.seq x y) :: k)) cs) w=.go (G (b.atR a (.code x :: .code y :: k)) cs) w #[]:=by simp [G,stepG,stepG.exec,Frame.atR]
theorem QFi {c:Operand} {x y:Code} {t:Bool} (h:a.eval c=.bool t):stepG P main (G (b.atR a (.code (.cond c x y) :: k)) cs) w=.go (G (b.atR a (.code (if t then x else y) :: k)) cs) w #[]:=by
 have:=congrFun (Frame.eval_atR b a (.code (.cond c x y) :: k)) c
 simp only [Frame.atR] at this
 simp [G,stepG,stepG.exec,Frame.atR,this,h]
theorem QFh {id:Nat} {c:Code}:stepG P main (G (b.atR a (.code (.block id c) :: k)) cs) w=.go (G (b.atR a (.code c :: .inBlock id :: k)) cs) w #[]:=by simp [G,stepG,stepG.exec,Frame.atR]
theorem Qsy {c:Code}:stepG P main (G (b.atR a (.code (.scope c) :: k)) cs) w=.go (G (b.atR a (.code c :: .inScope c :: k)) cs) w #[]:=by simp [G,stepG,stepG.exec,Frame.atR]
theorem QFp {c:Code}:stepG P main (G (b.atR a (.code (.loop c) :: k)) cs) w=.go (G (b.atR a (.code c :: .inLoop c :: k)) cs) w #[]:=by simp [G,stepG,stepG.exec,Frame.atR]
theorem QFn {c:Code}:stepG P main (G (b.atR a (.inLoop c :: k)) cs) w=.go (G (b.atR a (.code c :: .inLoop c :: k)) cs) w #[]:=by simp [G,stepG,stepG.exec,Frame.atR]
theorem QFk {id:Nat} {k':List Item} (h:exitTo id k=some k'):stepG P main (G (b.atR a (.code (.exit id) :: k)) cs) w=.go (G (b.atR a k') cs) w #[]:=by simp [G,stepG,stepG.exec,Frame.atR,h]
theorem QFl {l:Nat} {k':List Item} (h:gotoIn l k=some k'):stepG P main (G (b.atR a (.code (.goto l) :: k)) cs) w=.go (G (b.atR a k') cs) w #[]:=by simp [G,stepG,stepG.exec,Frame.atR,h]
theorem Qfy (hb:b.roundOf=none):stepG P main (G (b.atR a (.code .ret :: k)) cs) w=.go (G { b.atR a (.code .ret :: k) with mode:=.returning } cs) w #[]:=by simp [G,stepG,stepG.exec,Frame.atR,hb]
theorem QeK (hb:b.roundOf=none):stepG P main (G (b.atR a []) cs) w=.go (G { b.atR a [] with mode:=.returning } cs) w #[]:=by simp [G,stepG,stepG.exec,Frame.atR,hb]
theorem QjQ {id:Nat}:stepG P main (G (b.atR a (.code (.region id ops false) :: k)) cs) w=.go (G (b.atR a (.inRegion ops (List.range ops.size) :: k)) cs) w #[]:=by simp [G,stepG,stepG.exec,Frame.atR]
theorem QFj {id:Nat}:stepG P main (G (b.atR a (.code (.region id ops true) :: k)) cs) w =
  .go (G (b.atR a (.inRegion ops (Region.schedule (P.follows .mixedOrders) ops (w.tape w.drawn (.order b.fn id))) :: k)) cs) { w with drawn:=w.drawn+1 } #[]:=by
 simp [G,stepG,stepG.exec,Frame.atR,choose,Sem.run,Question.forced,Question.cut]
theorem QFq:stepG P main (G (b.atR a (.inRegion ops [] :: k)) cs) w=.go (G (b.atR a k) cs) w #[]:=by simp [G,stepG,stepG.exec,Frame.atR]
theorem Qsx {i:Nat} {rest:List Nat} (h:((ops[i]?).map (Region.wanted · (yielded ops a.tmps))).getD false=false) :
  stepG P main (G (b.atR a (.inRegion ops (i :: rest) :: k)) cs) w=.go (G (b.atR (a.put ((ops[i]?).bind (·.dst)) undef) (.inRegion ops rest :: k)) cs) w #[]:=by
 rw [←Frame.finish_atR]
 have h':=h
 simp only [Frame.atR] at *
 simp [G,stepG,stepG.exec,h']
theorem Qfx {i:Nat} {rest:List Nat} {o:Oper} (ho:ops[i]? = some o) (hw:Region.wanted o (yielded ops a.tmps)=true) :
  stepG P main (G (b.atR a (.inRegion ops (i :: rest) :: k)) cs) w=stepG.apply P true (b.atR a (.inRegion ops (i :: rest) :: k)) cs none (o.semAt b.roundOf a.eval) w:=by
 have he:=Frame.eval_atR b a (.inRegion ops (i :: rest) :: k)
 simp only [Frame.atR] at he
 simp only [G,stepG,stepG.exec,stepG.oper,Frame.oper?,Frame.atR,ho,hw,he,Option.map_some,Option.getD_some,if_true,Oper.semAt]
 cases b.roundOf <;> cases o.op <;> rfl
end moves
def After (P:Program) (Stop:Goroutine→WM→Prop) (b:Frame) (k:List Item) (cs:List Frame):Exit→Act→WM→Prop
 | .normal,a,w=>Run P Stop (G (b.atR a k) cs) w
 | .ret,a,w=>∀ k',Run P Stop (G (b.atR a (.code .ret :: k')) cs) w
 | .exit id,a,w=>∀ k',exitTo id k'=exitTo id k→Run P Stop (G (b.atR a (.code (.exit id) :: k')) cs) w
 | .goto l,a,w=>∀ k',gotoIn l k'=gotoIn l k→Run P Stop (G (b.atR a (.code (.goto l) :: k')) cs) w
 | .panic ch,a,w=>∀ k',Run P Stop (G { b.atR a k' with mode:=.panicking ch } cs) w
 | .outgrown,_,_=>False
def Wp (P:Program) (rn:Bool) (c:Code) (Q:Exit→Act→WM→Prop) (a:Act) (w:WM):Prop:=
 ∀ (b:Frame) (k:List Item) (cs:List Frame) (Stop:Goroutine→WM→Prop),b.kind≠.early→(rn=true→b.roundOf=none) →
  (∀ e a' w',Q e a' w'→After P Stop b k cs e a' w')→Run P Stop (G (b.atR a (.code c :: k)) cs) w
section
variable {P:Program} {rn:Bool} {Q:Exit→Act→WM→Prop} {a:Act} {w:WM}
theorem Wp.mono {c:Code} {Q':Exit→Act→WM→Prop} (h:Wp P rn c Q a w) (hq:∀ e a w,Q e a w→Q' e a w):Wp P rn c Q' a w:=
 fun b k cs Stop hb hr hc=>h b k cs Stop hb hr fun e a' w' hQ=>hc e a' w' (hq e a' w' hQ)
theorem Wp.rely {c:Code} (h:Wp P rn c Q a w) {w1:WM} (hr:Rely w w1):Wp P rn c Q a w1:=fun b k cs Stop hb hn hc=>(h b k cs Stop hb hn hc).rely hr
theorem Wp.any {c:Code} (h:Wp P false c Q a w):Wp P rn c Q a w:=fun b k cs Stop hb _ hc=>h b k cs Stop hb (fun h=>by cases h) hc
theorem QfL (h:Q .normal a w):Wp P rn .skip Q a w:=fun b k cs Stop _ _ hc=>.ctl rfl (fun _ _=>QFr) (hc _ _ _ h)
theorem QtT {l:Nat} (h:Q .normal a w):Wp P rn (.label l) Q a w:=fun b k cs Stop _ _ hc=>.ctl rfl (fun _ _=>QFo) (hc _ _ _ h)
theorem Qhw {i:Nat} (h:Q (.exit i) a w):Wp P rn (.exit i) Q a w:=fun b k cs Stop _ _ hc=>hc _ _ _ h k rfl
theorem QtS {i:Nat} (h:Q (.goto i) a w):Wp P rn (.goto i) Q a w:=fun b k cs Stop _ _ hc=>hc _ _ _ h k rfl
theorem Qhx (h:Q .ret a w):Wp P rn .ret Q a w:=fun b k cs Stop _ _ hc=>hc _ _ _ h k
def thenA (K:Act→WM→Prop) (Q:Exit→Act→WM→Prop):Exit→Act→WM→Prop
 | .normal,a,w=>K a w
 | e,a,w=>Q e a w
theorem After.push {Stop:Goroutine→WM→Prop} {b:Frame} {k:List Item} {cs:List Frame} {e:Exit} {x:Item} (he:e≠.normal) (h1:∀ id,exitTo id (x :: k)=exitTo id k) (h2:∀ l,gotoIn l (x :: k)=gotoIn l k)
  (h:After P Stop b k cs e a w):After P Stop b (x :: k) cs e a w:=by
 cases e with
 | normal=>exact absurd rfl he
 | exit id=>exact fun k' hk=>h k' (hk.trans (h1 id))
 | goto l=>exact fun k' hk=>h k' (hk.trans (h2 l))
 | ret=>exact h
 | panic ch=>exact h
 | outgrown=>exact h
theorem QaO {x y:Code} (h:Wp P rn x (thenA (fun a w=>Wp P rn y Q a w) Q) a w):Wp P rn (.seq x y) Q a w:=fun b k cs Stop hb hn hc=>
 .ctl rfl (fun _ _=>Qsz) (h b (.code y :: k) cs Stop hb hn fun e a' w' hq=>by
  cases e with
  | normal=>exact hq b k cs Stop hb hn hc
  | exit id=>exact After.push (by simp) (fun _=>rfl) (fun _=>rfl) (hc _ _ _ hq)
  | goto l=>exact After.push (by simp) (fun _=>rfl) (fun _=>rfl) (hc _ _ _ hq)
  | ret=>exact hc _ _ _ hq
  | panic ch=>exact hc _ _ _ hq
  | outgrown=>exact hc _ _ _ hq)
theorem QeR {c:Operand} {x y:Code} {t:Bool} (hc:a.eval c=.bool t) (h:Wp P rn (if t then x else y) Q a w):Wp P rn (.cond c x y) Q a w:=fun b k cs Stop hb hn hk=>
 .ctl rfl (fun _ _=>QFi hc) (h b k cs Stop hb hn hk)
def inBlockA (id:Nat) (Q:Exit→Act→WM→Prop):Exit→Act→WM→Prop
 | .exit i,a,w=>if i=id then Q .normal a w else Q (.exit i) a w
 | e,a,w=>Q e a w
theorem Qc6 {id:Nat} {c:Code} (h:Wp P rn c (inBlockA id Q) a w):Wp P rn (.block id c) Q a w:=fun b k cs Stop hb hn hc=>
 .ctl rfl (fun _ _=>QFh) (h b (.inBlock id :: k) cs Stop hb hn fun e a' w' hq=>by
  cases e with
  | normal=>exact .ctl rfl (fun _ _=>QFm) (hc _ _ _ hq)
  | exit i=>
   simp only [inBlockA] at hq
   by_cases hi:i=id
   ·rw [if_pos hi] at hq
    subst hi
    intro k' hk
    have:exitTo i (.inBlock i :: k)=some k:=by simp [exitTo]
    exact .ctl rfl (fun _ _=>QFk (hk.trans this)) (hc _ _ _ hq)
   ·rw [if_neg hi] at hq
    intro k' hk
    have:exitTo i (.inBlock id :: k)=exitTo i k:=by
     have:(id == i)=false:=by simpa using fun e=>hi e.symm
     simp [exitTo,this]
    exact hc _ _ _ hq k' (hk.trans this)
  | goto l=>exact fun k' hk=>hc _ _ _ hq k' hk
  | ret=>exact hc _ _ _ hq
  | panic ch=>exact hc _ _ _ hq
  | outgrown=>exact hc _ _ _ hq)
theorem Qeb {c:Code} (I:Act→WM→Prop) (μ:Act→WM→Nat) (h0:I a w)
  (round:∀ a w,I a w→Wp P rn c (thenA (fun a' w'=>I a' w'∧μ a' w' < μ a w) Q) a w):Wp P rn (.loop c) Q a w:=by
 suffices ∀ n a w,μ a w=n→I a w→∀ (b:Frame) (k:List Item) (cs:List Frame) (Stop:Goroutine→WM→Prop),b.kind≠.early→(rn=true→b.roundOf=none) →
   (∀ e a' w',Q e a' w'→After P Stop b k cs e a' w')→Run P Stop (G (b.atR a (.code c :: .inLoop c :: k)) cs) w from
  fun b k cs Stop hb hn hc=>.ctl rfl (fun _ _=>QFp) (this _ a w rfl h0 b k cs Stop hb hn hc)
 intro n
 induction n using Nat.strongRecOn with
 | _ n ih=>
  intro a w hm hI b k cs Stop hb hn hc
  refine round a w hI b (.inLoop c :: k) cs Stop hb hn fun e a' w' hq=>?_
  cases e with
  | normal=>exact .ctl rfl (fun _ _=>QFn) (ih _ (by have:=hq.2; omega) a' w' rfl hq.1 b k cs Stop hb hn hc)
  | exit id=>exact fun k' hk=>hc _ _ _ hq k' hk
  | goto l=>exact fun k' hk=>hc _ _ _ hq k' hk
  | ret=>exact hc _ _ _ hq
  | panic ch=>exact hc _ _ _ hq
  | outgrown=>exact hc _ _ _ hq
def noGotoA (Q:Exit→Act→WM→Prop):Exit→Act→WM→Prop
 | .goto _,_,_=>False
 | e,a,w=>Q e a w
theorem QtX {c:Code} (h:Wp P rn c (noGotoA Q) a w):Wp P rn (.scope c) Q a w:=fun b k cs Stop hb hn hc=>
 .ctl rfl (fun _ _=>Qsy) (h b (.inScope c :: k) cs Stop hb hn fun e a' w' hq=>by
  cases e with
  | normal=>exact .ctl rfl (fun _ _=>QjP) (hc _ _ _ hq)
  | exit i=>exact fun k' hk=>hc _ _ _ hq k' hk
  | goto l=>exact hq.elim
  | ret=>exact hc _ _ _ hq
  | panic ch=>exact hc _ _ _ hq
  | outgrown=>exact hc _ _ _ hq)
def jumpA (l:Nat) (J:Act→WM→Prop) (Q:Exit→Act→WM→Prop):Exit→Act→WM→Prop
 | .goto l',a,w=>l'=l∧J a w
 | e,a,w=>Q e a w
theorem QtY {c rest:Code} (l:Nat) (hf:findLabel c l=some rest) (h:Wp P rn c (jumpA l (fun a w=>Wp P rn rest (noGotoA Q) a w) Q) a w):Wp P rn (.scope c) Q a w:=fun b k cs Stop hb hn hc=>by
 have hg:gotoIn l (.inScope c :: k)=some (.code rest :: .inScope c :: k):=by simp [gotoIn,hf]
 refine .ctl rfl (fun _ _=>Qsy) (h b (.inScope c :: k) cs Stop hb hn fun e a' w' hq=>?_)
 cases e with
 | normal=>exact .ctl rfl (fun _ _=>QjP) (hc _ _ _ hq)
 | exit i=>exact fun k' hk=>hc _ _ _ hq k' hk
 | goto l'=>
  obtain ⟨rfl,hq⟩:=hq
  intro k' hk
  refine .ctl rfl (fun _ _=>QFl (hk.trans hg)) (hq b (.inScope c :: k) cs Stop hb hn fun e a' w' hq=>?_)
  cases e with
  | normal=>exact .ctl rfl (fun _ _=>QjP) (hc _ _ _ hq)
  | exit i=>exact fun k' hk=>hc _ _ _ hq k' hk
  | goto l=>exact hq.elim
  | ret=>exact hc _ _ _ hq
  | panic ch=>exact hc _ _ _ hq
  | outgrown=>exact hc _ _ _ hq
 | ret=>exact hc _ _ _ hq
 | panic ch=>exact hc _ _ _ hq
 | outgrown=>exact hc _ _ _ hq
end
def leaves (P:Program) (fr:Frame) (w:WM):Ending→Prop
 | .returned v=>fr.mode=.returning∧fr.defers=[]∧fr.kind=.normal∧∃ fn,P.funcs[fr.fn]? = some fn∧(results fn fr.tmps).run P w.w=.ok v w.w∧EvIn w ((results fn fr.tmps).events P w.w #[])
 | .panicked ch=>fr.mode=.panicking ch∧fr.defers=[]∧∃ fn,P.funcs[fr.fn]? = some fn
 | .outgrown=>False
def Leave (P:Program) (f:FuncId) (fr:Frame) (w:WM) (R:Ending→WM→Prop):Prop:=fr.fn=f∧∀ w1,Rely w w1→∃ e,leaves P fr w1 e∧R e w1
theorem Leave.mono {P:Program} {f:FuncId} {fr:Frame} {w:WM} {R R':Ending→WM→Prop} (h:Leave P f fr w R) (hr:∀ e w',R e w'→R' e w'):Leave P f fr w R':=
 ⟨h.1,fun w1 hw=>by obtain ⟨e,h1,h2⟩:=h.2 w1 hw; exact ⟨e,h1,hr e w1 h2⟩⟩
def AfterC (P:Program) (Stop:Goroutine→WM→Prop) (c:Frame) (cs:List Frame):Ending→WM→Prop
 | .returned v,w=>Run P Stop (G (c.finish v) cs) w
 | .panicked ch,w=>Run P Stop (G (c.raise ch) cs) w
 | .outgrown,_=>False
def Calls (P:Program) (f:FuncId) (args:Array Value) (w:WM) (R:Ending→WM→Prop):Prop:=
 ∀ (cs:List Frame) (Stop:Goroutine→WM→Prop),(∀ fr w',Leave P f fr w' R→Run P Stop (G fr cs) w')→Run P Stop (G (Frame.enter P f args .normal) cs) w
theorem Leave.run {P:Program} {f:FuncId} {fr c:Frame} {cs:List Frame} {w:WM} {R:Ending→WM→Prop} {Stop:Goroutine→WM→Prop} (h:Leave P f fr w R) (hc:∀ e w',R e w'→AfterC P Stop c cs e w'):Run P Stop (G fr (c :: cs)) w:=by
 refine .go rfl fun w1 hr=>?_
 obtain ⟨e,h1,h2⟩:=h.2 w1 hr
 cases e with
 | returned v=>
  obtain ⟨g1,g2,g3,fn,g4,g5,g6⟩:=h1
  refine ⟨G (c.finish v) cs,w1.w,seen P fr.fn ((results fn fr.tmps).events P w1.w #[]),?_,(Guar.refl g6).seen,?_⟩
  ·simp [Go.Conc.G,stepG,unwind,doReturn,g1,g2,g3,g4,g5,GStep.after]
  ·rw [WM.to_self]; exact hc _ _ h2
 | panicked ch=>
  obtain ⟨g1,g2,fn,g4⟩:=h1
  refine ⟨G (c.raise ch) cs,w1.w,#[],?_,.none w1,?_⟩
  ·simp [Go.Conc.G,stepG,unwind,Frame.catches,g1,g2,g4]
  ·rw [WM.to_self]; exact hc _ _ h2
 | outgrown=>exact h1.elim
def CallsF (P:Program) (fr:Frame) (w:WM) (R:Ending→WM→Prop):Prop:=
 ∀ (c:Frame) (cs:List Frame) (Stop:Goroutine→WM→Prop),(∀ e w',R e w'→AfterC P Stop c cs e w')→Run P Stop (G fr (c :: cs)) w
theorem CallsF.mono {P:Program} {fr:Frame} {w:WM} {R R':Ending→WM→Prop} (h:CallsF P fr w R) (hr:∀ e w',R e w'→R' e w'):CallsF P fr w R':=
 fun c cs Stop hc=>h c cs Stop fun e w' hR=>hc e w' (hr e w' hR)
theorem CallsF.rely {P:Program} {fr:Frame} {w w1:WM} {R:Ending→WM→Prop} (h:CallsF P fr w R) (hr:Rely w w1):CallsF P fr w1 R:=
 fun c cs Stop hc=>(h c cs Stop hc).rely hr
theorem Calls.mono {P:Program} {f:FuncId} {args:Array Value} {w:WM} {R R':Ending→WM→Prop} (h:Calls P f args w R) (hr:∀ e w',R e w'→R' e w'):Calls P f args w R':=
 fun cs Stop hc=>h cs Stop fun fr w' hR=>hc fr w' (hR.mono hr)
theorem Calls.rely {P:Program} {f:FuncId} {args:Array Value} {w w1:WM} {R:Ending→WM→Prop} (h:Calls P f args w R) (hr:Rely w w1):Calls P f args w1 R:=
 fun cs Stop hc=>(h cs Stop hc).rely hr
def upon (P:Program) (o:Oper) (a:Act) (w:WM) (next:Act→WM→Prop) (Q:Exit→Act→WM→Prop) (es:Array Event):Result Next→Prop
 | .ok (.value v) w'=>Guar w w' es∧next (a.put o.dst v) (w.to w')
 | .ok .skip w'=>Guar w w' es∧next (a.put o.dst undef) (w.to w')
 | .ok (.enter f args) w'=>Guar w w' es∧Calls P f args (w.to w') fun
   | .returned v,w''=>next (a.put o.dst v) w''
   | .panicked ch,w''=>Q (.panic ch) a w''
   | .outgrown,_=>False
 | .ok (.round l f tmps asq bd) w'=>Guar w w' es∧CallsF P (Frame.round l f tmps asq bd .normal) (w.to w') fun
   | .returned v,w''=>next (a.put o.dst v) w''
   | .panicked ch,w''=>Q (.panic ch) a w''
   | .outgrown,_=>False
 | .halt (.panic v) w'=>Guar w w' es∧Q (.panic [{ v,recovered:=false }]) a (w.to w')
 | _=>False
def owp (P:Program) (o:Oper) (a:Act) (w:WM) (next:Act→WM→Prop) (Q:Exit→Act→WM→Prop):Prop:=
 (∀ c,o.op≠.defer c)∧∀ w1,Rely w w1→upon P o a w1 next Q ((execOp a.eval o).events P w1.w #[]) ((execOp a.eval o).run P w1.w)
section
variable {P:Program} {rn:Bool} {Q:Exit→Act→WM→Prop} {a:Act} {w:WM} {o:Oper} {next:Act→WM→Prop}
theorem owp.mono {next':Act→WM→Prop} (h:owp P o a w next Q) (hn:∀ a w,next a w→next' a w):owp P o a w next' Q:=⟨h.1,fun w1 hr=>by
 have h1:=h.2 w1 hr
 revert h1
 generalize (execOp a.eval o).run P w1.w=r
 intro h1
 unfold upon at h1 ⊢
 split at h1
 ·exact ⟨h1.1,hn _ _ h1.2⟩
 ·exact ⟨h1.1,hn _ _ h1.2⟩
 ·refine ⟨h1.1,h1.2.mono fun e w' he=>?_⟩
  cases e with
  | returned v=>exact hn _ _ he
  | panicked ch=>exact he
  | outgrown=>exact he
 ·refine ⟨h1.1,h1.2.mono fun e w' he=>?_⟩
  cases e with
  | returned v=>exact hn _ _ he
  | panicked ch=>exact he
  | outgrown=>exact he
 ·exact h1
 ·exact h1.elim⟩
theorem owp.rely (h:owp P o a w next Q) {w1:WM} (hr:Rely w w1):owp P o a w1 next Q:=⟨h.1,fun w2 h2=>h.2 w2 (hr.trans h2)⟩
theorem owp.run {ops:Array Oper} {i:Nat} {rest:List Nat} {b:Frame} {k:List Item} {cs:List Frame} {Stop:Goroutine→WM→Prop} (ho:ops[i]? = some o) (hw:Region.wanted o (yielded ops a.tmps)=true) (hb:b.kind≠.early)
  (h:owp P o a w next Q) (hn:∀ a' w',next a' w'→Run P Stop (G (b.atR a' (.inRegion ops rest :: k)) cs) w') (hQ:∀ ch w',Q (.panic ch) a w'→After P Stop b k cs (.panic ch) a w') :
  Run P Stop (G (b.atR a (.inRegion ops (i :: rest) :: k)) cs) w:=by
 refine .go rfl fun w1 hr=>?_
 have h1:=h.2 w1 hr
 have hb':(b.kind == CallKind.early)=false:=by simpa using hb
 have hs:o.semAt b.roundOf a.eval=execOp a.eval o:=Oper.semAt_eq _ _ _ h.1
 rw [Qfx ho hw,hs]
 have hfin:∀ v,(b.atR a (.inRegion ops (i :: rest) :: k)).finish v=b.atR (a.put o.dst v) (.inRegion ops rest :: k):=fun v=>by rw [Frame.finish_atR,ho]; rfl
 have hev:∀ e∈seen P b.fn ((execOp a.eval o).events P w1.w #[]),e∈(execOp a.eval o).events P w1.w #[]:=fun e he=>Go.Conc.mem_seen he
 unfold upon at h1
 split at h1
 ·rename_i v w' hrun
  refine ⟨G (b.atR (a.put o.dst v) (.inRegion ops rest :: k)) cs,w',seen P b.fn ((execOp a.eval o).events P w1.w #[]),?_,h1.1.seen,hn _ _ h1.2⟩
  rw [←hfin]
  simp [stepG.apply,Go.Conc.G,Frame.atR,hb',hrun,GStep.after]
 ·rename_i w' hrun
  refine ⟨G (b.atR (a.put o.dst undef) (.inRegion ops rest :: k)) cs,w',seen P b.fn ((execOp a.eval o).events P w1.w #[]),?_,h1.1.seen,hn _ _ h1.2⟩
  rw [←hfin]
  simp [stepG.apply,Go.Conc.G,Frame.atR,hb',hrun,GStep.after]
 ·rename_i f args w' hrun
  refine ⟨G (Frame.enter P f args .normal) (b.atR a (.inRegion ops (i :: rest) :: k) :: cs),w',seen P b.fn ((execOp a.eval o).events P w1.w #[]),?_,h1.1.seen,h1.2 _ _ fun fr w2 hl=>hl.run fun e w'' he=>?_⟩
  ·simp [stepG.apply,Go.Conc.G,Frame.atR,hb',hrun,GStep.after]
  ·cases e with
   | returned v=>show Run _ _ _ _; rw [hfin]; exact hn _ _ he
   | panicked ch=>show Run _ _ _ _; rw [Frame.raise_atR]; exact hQ _ _ he _
   | outgrown=>exact he.elim
 ·rename_i l f tmps asq bd w' hrun
  refine ⟨G (Frame.round l f tmps asq bd .normal) (b.atR a (.inRegion ops (i :: rest) :: k) :: cs),w',seen P b.fn ((execOp a.eval o).events P w1.w #[]),?_,h1.1.seen,h1.2 _ _ _ fun e w'' he=>?_⟩
  ·simp [stepG.apply,Go.Conc.G,Frame.atR,hb',hrun,GStep.after]
  ·cases e with
   | returned v=>show Run _ _ _ _; rw [hfin]; exact hn _ _ he
   | panicked ch=>show Run _ _ _ _; rw [Frame.raise_atR]; exact hQ _ _ he _
   | outgrown=>exact he.elim
 ·rename_i v w' hrun
  refine ⟨G { b.atR a (.inRegion ops (i :: rest) :: k) with mode:=.panicking [{ v,recovered:=false }] } cs,w',seen P b.fn ((execOp a.eval o).events P w1.w #[]),?_,h1.1.seen,hQ _ _ h1.2 _⟩
  rw [←Frame.raise_atR]
  simp [stepG.apply,Go.Conc.G,Frame.atR,hb',hrun,GStep.after]
 ·exact h1.elim
def OpsR (P:Program) (rn:Bool) (ops:Array Oper) (todo:List Nat) (Q:Exit→Act→WM→Prop) (a:Act) (w:WM):Prop:=
 ∀ (b:Frame) (k:List Item) (cs:List Frame) (Stop:Goroutine→WM→Prop),b.kind≠.early→(rn=true→b.roundOf=none) →
  (∀ e a' w',Q e a' w'→After P Stop b k cs e a' w')→Run P Stop (G (b.atR a (.inRegion ops todo :: k)) cs) w
variable {ops:Array Oper}
theorem Qct (h:Q .normal a w):OpsR P rn ops [] Q a w:=fun b k cs Stop _ _ hc=>.ctl rfl (fun _ _=>QFq) (hc _ _ _ h)
def wpOp (P:Program) (ops:Array Oper) (Q:Exit→Act→WM→Prop) (i:Nat) (K:Act→WM→Prop) (a:Act) (w:WM):Prop:=
 match ops[i]? with
 | none=>K a w
 | some o=>if Region.wanted o (yielded ops a.tmps)=true then owp P o a w K Q else K (a.put o.dst undef) w
theorem QcA {i:Nat} {K K':Act→WM→Prop} (h:∀ a w,K a w→K' a w) (hh:wpOp P ops Q i K a w):wpOp P ops Q i K' a w:=by
 unfold wpOp at *
 split
 ·rename_i ho; simp only [ho] at hh; exact h _ _ hh
 ·rename_i o ho
  simp only [ho] at hh
  split
  ·rename_i hw; rw [if_pos hw] at hh; exact hh.mono h
  ·rename_i hw; rw [if_neg hw] at hh; exact h _ _ hh
theorem Qji {i:Nat} {rest:List Nat} (h:wpOp P ops Q i (fun a' w'=>OpsR P rn ops rest Q a' w') a w):OpsR P rn ops (i :: rest) Q a w:=fun b k cs Stop hb hn hc=>by
 unfold wpOp at h
 cases ho:ops[i]? with
 | none=>
  simp only [ho] at h
  have hs:=fun m v=>Qsx (P:=P) (main:=m) (b:=b) (a:=a) (k:=k) (cs:=cs) (w:=v) (ops:=ops) (i:=i) (rest:=rest) (by simp [ho])
  simp only [ho,Option.bind_none,Act.put] at hs
  exact .ctl rfl hs (h b k cs Stop hb hn hc)
 | some o=>
  simp only [ho] at h
  by_cases hw:Region.wanted o (yielded ops a.tmps)=true
  ·rw [if_pos hw] at h
   exact h.run ho hw hb (fun a' w' hk=>hk b k cs Stop hb hn hc) (fun ch w' hq=>hc _ _ _ hq)
  ·rw [if_neg hw] at h
   have hs:=fun m v=>Qsx (P:=P) (main:=m) (b:=b) (a:=a) (k:=k) (cs:=cs) (w:=v) (ops:=ops) (i:=i) (rest:=rest) (by simp [ho]; simpa using hw)
   simp only [ho,Option.bind_some] at hs
   exact .ctl rfl hs (h b k cs Stop hb hn hc)
def wpList (P:Program) (ops:Array Oper) (Q:Exit→Act→WM→Prop):List Oper→Act→WM→Prop
 | [],a,w=>Q .normal a w
 | o :: rest,a,w=>if Region.wanted o (yielded ops a.tmps)=true then owp P o a w (wpList P ops Q rest) Q else wpList P ops Q rest (a.put o.dst undef) w
theorem Qg2:∀ (l:List Oper) (k:Nat) (a:Act) (w:WM),(∀ j,l[j]? = ops[k+j]?)→wpList P ops Q l a w→OpsR P rn ops (List.range' k l.length) Q a w
 | [],k,a,w,_,h=>Qct h
 | o :: l,k,a,w,hl,h=>by
  have h0:ops[k]? = some o:=by simpa using (hl 0).symm
  rw [List.length_cons,List.range'_succ]
  refine Qji ?_
  have ih:∀ a w,wpList P ops Q l a w→OpsR P rn ops (List.range' (k+1) l.length) Q a w:=fun a w=>Qg2 l (k+1) a w fun j=>by
   have:=hl (j+1)
   simpa [Nat.add_assoc,Nat.add_comm 1 j] using this
  unfold wpList at h
  unfold wpOp
  simp only [h0]
  by_cases hw:Region.wanted o (yielded ops a.tmps)=true
  ·rw [if_pos hw] at h ⊢; exact h.mono ih
  ·rw [if_neg hw] at h ⊢; exact ih _ _ h
theorem Qkq {id:Nat} (h:wpList P ops Q ops.toList a w):Wp P rn (.region id ops false) Q a w:=fun b k cs Stop hb hn hc=>by
 have:=Qg2 (rn:=rn) ops.toList 0 a w (by simp) h
 rw [←List.range_eq_range',Array.length_toList] at this
 exact .ctl rfl (fun _ _=>QjQ) (this b k cs Stop hb hn hc)
def wpAny (P:Program) (md:Region.Mode) (ops:Array Oper) (Q:Exit→Act→WM→Prop):Nat→Array Bool→Act→WM→Prop
 | 0,listed,a,w=>Region.ready md ops listed=[]∧Q .normal a w
 | f+1,listed,a,w=>(Region.ready md ops listed=[]→Q .normal a w)∧∀ i∈Region.ready md ops listed,wpOp P ops Q i (wpAny P md ops Q f (listed.setIfInBounds i true)) a w
theorem QGh {md:Region.Mode}:∀ (f t:Nat) (listed:Array Bool) (a:Act) (w:WM),wpAny P md ops Q f listed a w→OpsR P rn ops (Region.linearise.go md ops f t listed []) Q a w:=by
 intro f
 induction f with
 | zero=>intro t listed a w h; simpa [Region.linearise.go] using Qct h.2
 | succ f ih=>
  intro t listed a w h
  obtain ⟨h₀,h₁⟩:=h
  simp only [Region.linearise.go]
  change OpsR P rn ops (match (Region.ready md ops listed)[t % (Region.ready md ops listed).length]? with
   | some i=>Region.linearise.go md ops f (t / (Region.ready md ops listed).length) (listed.setIfInBounds i true) [i]
   | none=>[].reverse) Q a w
  cases hi:(Region.ready md ops listed)[t % (Region.ready md ops listed).length]? with
  | none=>
   have hnil:Region.ready md ops listed=[]:=by
    cases hr:Region.ready md ops listed with
    | nil=>rfl
    | cons x xs=>
     rw [hr] at hi
     have hlt:t % (x :: xs).length < (x :: xs).length:=Nat.mod_lt _ (by simp)
     simp at hi
     simp at hlt
     omega
   simpa using Qct (h₀ hnil)
  | some i=>
   simp only []
   rw [linearise_go_acc,List.reverse_singleton,List.singleton_append]
   exact Qji (QcA (fun a' w' x=>ih _ _ a' w' x) (h₁ i (List.mem_of_getElem? hi)))
def WM.drew (w:WM):WM:=⟨{ w.w with drawn:=w.w.drawn+1 },w.M,w.X,w.gh⟩
theorem Qec {id:Nat} (hm:P.follows .mixedOrders=true) (h:∀ w1,Rely w w1→wpAny P .any ops Q ops.size (Array.replicate ops.size false) a w1.drew):Wp P rn (.region id ops true) Q a w:=fun b k cs Stop hb hn hc=>by
 refine .go rfl fun w1 hr=>⟨_,_,#[],QFj,.drew w1,?_⟩
 simp only [Region.schedule,hm,Bool.true_or,if_true]
 have e:w1.to { w1.w with drawn:=w1.w.drawn+1 }=w1.drew:=by
  unfold WM.to WM.drew
  simp only [WM.mk.injEq,true_and,and_true]
  funext b
  exact propext ⟨fun h=>h.elim (fun h=>h) fun h=>absurd h.2 (by simp only [WM.heap] at h; omega),.inl⟩
 rw [e]
 exact QGh ops.size _ _ a _ (h w1 hr) b k cs Stop hb hn hc
def bodyPost (P:Program) (fn:Func) (R:Ending→WM→Prop):Exit→Act→WM→Prop
 | .normal,a,w | .ret,a,w=>a.defers=[]∧∀ w1,Rely w w1→∃ v,(results fn a.tmps).run P w1.w=.ok v w1.w∧EvIn w1 ((results fn a.tmps).events P w1.w #[])∧R (.returned v) w1
 | .panic ch,a,w=>a.defers=[]∧∀ w1,Rely w w1→R (.panicked ch) w1
 | _,_,_=>False
theorem Qf7 {f:FuncId} {fn:Func} {c:Code} {args:Array Value} {R:Ending→WM→Prop} (hf:P.funcs[f]? = some fn) (hb:fn.body=some c)
  (h:Wp P true c (bodyPost P fn R) { tmps:=args ++ Array.replicate (fn.ntmps - args.size) undef,defers:=[] } w):Calls P f args w R:=by
 intro cs Stop hc
 let b:Frame:={ (default:Frame) with fn:=f,kind:=.normal,roundOf:=none }
 have henter:Frame.enter P f args .normal=b.atR { tmps:=args ++ Array.replicate (fn.ntmps - args.size) undef,defers:=[] } [.code c]:=by
  simp [Frame.enter,Frame.atR,hf,hb,b]
 rw [henter]
 have ret:∀ (a':Act) (todo:List Item) (w':WM),(a'.defers=[]∧∀ w1,Rely w' w1→∃ v,(results fn a'.tmps).run P w1.w=.ok v w1.w∧EvIn w1 ((results fn a'.tmps).events P w1.w #[])∧R (.returned v) w1) →
   Run P Stop (G { b.atR a' todo with mode:=.returning } cs) w':=fun a' todo w' hq=>hc _ _ ⟨rfl,fun w1 hr=>by
  obtain ⟨v,h1,h2,h3⟩:=hq.2 w1 hr
  exact ⟨.returned v,⟨rfl,hq.1,rfl,fn,hf,h1,h2⟩,h3⟩⟩
 refine h b [] cs Stop (by simp [b]) (fun _=>rfl) fun e a' w' hq=>?_
 cases e with
 | normal=>exact .ctl rfl (fun _ _=>QeK rfl) (ret _ _ _ hq)
 | ret=>exact fun k'=>.ctl rfl (fun _ _=>Qfy rfl) (ret _ _ _ hq)
 | panic ch=>exact fun k'=>hc _ _ ⟨rfl,fun w1 hr=>⟨.panicked ch,⟨rfl,hq.1,fn,hf⟩,hq.2 w1 hr⟩⟩
 | exit id=>exact hq.elim
 | goto l=>exact hq.elim
 | outgrown=>exact hq.elim
def asLoop (r:Loop) (st:LoopState) (j:Option Code):Obj:=.loop { r with state:=st,pending:=j }
theorem Qe5 {v:World} {r:Nat} {o:Obj} (es:Array Event) (hb:v.heap[r]? = some o) (hc:o.isChan=false) (hn:∀ c t f,o≠.cells c t f):(getObj r).events P v es=es.push ⟨.obj r,false,false⟩:=by
 cases o <;> first | (simp [Obj.isChan] at hc; done) | (exact absurd rfl (hn _ _ _)) | simp [getObj,Sem.events,Sem.runT,hb,Obj.isChan,-Sem.runT_eq]
theorem Qcc {v:World} {r:Nat} {o:Obj} (hb:v.heap[r]? = some o) (hn:∀ c t f,o≠.cells c t f):(getObj r).run P v=.ok o v:=by
 cases o <;> first | (exact absurd rfl (hn _ _ _)) | simp [getObj,Sem.run,hb]
theorem Qgh {v:World} {r:Nat} {o o':Obj} (es:Array Event) (hb:v.heap[r]? = some o) (hc:o'.isChan=false) (hn:∀ c t f,o≠.cells c t f):(setObj r o').events P v es=es.push ⟨.obj r,true,false⟩:=by
 cases o <;> first | (exact absurd rfl (hn _ _ _)) | simp [setObj,Sem.events,Sem.runT,hb,hc,-Sem.runT_eq]
theorem Qc1 {v:World} {r:Nat} {o:Obj} (o':Obj) (hb:v.heap[r]? = some o) (hn:∀ c t f,o≠.cells c t f):(setObj r o').run P v=.ok () { v with heap:=v.heap.setIfInBounds r o' }:=by
 cases o <;> first | (exact absurd rfl (hn _ _ _)) | simp [setObj,Sem.run,hb]
def WM.put (w:WM) (r:Nat) (o:Obj):WM:=w.to { w.w with heap:=w.heap.setIfInBounds r o }
theorem Qey {r:Nat} {o o0:Obj} {es:Array Event} (hb:w.heap[r]? = some o0) (hM:w.M r) (he:EvIn w es):Guar w { w.w with heap:=w.heap.setIfInBounds r o } es:=by
 refine ⟨rfl,rfl,rfl,by simp,fun b hlt hn=>?_,he⟩
 show (w.heap.setIfInBounds r o)[b]? = _
 have hne:r≠b:=fun e=>hn (e▸hM)
 rw [Array.getElem?_setIfInBounds,if_neg hne]
theorem QcM {r:Nat} {wr:Bool} {es:Array Event} (hM:w.M r) (h:EvIn w es):EvIn w (es.push ⟨.obj r,wr,false⟩):=fun e he=>by
 rcases Array.mem_push.1 he with he | rfl
 ·exact h e he
 ·refine ⟨.inl rfl,.inr ?_⟩
  show if wr=true then _ else _
  split
  ·exact hM
  ·exact .inl hM
end
section
variable {P:Program} {Q:Exit→Act→WM→Prop} {a:Act} {w:WM}
theorem QCK {l:Nat} {f:FuncId} {tmps:Array Value} {asq bd:Code} {R:Ending→WM→Prop}
  (h:Wp P false asq (fun e a1 w1=>e=.normal∧∀ w2,Rely w1 w2→∃ r,w2.heap[l]? = some (.loop r)∧r.state=.ready∧w2.M l ∧
   Wp P false bd (fun e a2 w3=>∃ j,(e=.normal∧j=none∨e=.ret∧j=some .ret)∧∀ w4,Rely w3 w4→∃ r2,w4.heap[l]? = some (.loop r2)∧w4.M l ∧
    R (.returned (.bool j.isNone)) (w4.put l (asLoop r2 (if j.isNone then .ready else .done) j))) a1 (w2.put l (.loop { r with state:=.busy }))) { tmps,defers:=[] } w) :
  CallsF P (Frame.round l f tmps asq bd .normal) w R:=by
 intro c cs Stop hc
 let b:Frame:={ (default:Frame) with fn:=f,kind:=.normal,roundOf:=some l }
 have e0:Frame.round l f tmps asq bd .normal=b.atR { tmps,defers:=[] } [.code asq,.beginRound,.code bd]:=by simp [Frame.round,Frame.atR,b]
 rw [e0]
 have leave:∀ (j:Option Code) (a2:Act) (todo:List Item) (w3:WM),(∀ w4,Rely w3 w4→∃ r2,w4.heap[l]? = some (.loop r2)∧w4.M l∧R (.returned (.bool j.isNone)) (w4.put l (asLoop r2 (if j.isNone then .ready else .done) j))) →
   (todo=[]∧j=none∨(∃ k',todo=.code .ret :: k')∧j=some .ret)→Run P Stop (G (b.atR a2 todo) (c :: cs)) w3:=by
  intro j a2 todo w3 hq hj
  refine .go rfl fun w4 hr=>?_
  obtain ⟨r2,h1,h2,h3⟩:=hq w4 hr
  have hrun:(Instr.endRound l j).run P w4.w=.ok (.bool j.isNone) { w4.w with heap:=w4.heap.setIfInBounds l (asLoop r2 (if j.isNone then .ready else .done) j) }:=by
   simp [Instr.endRound,Instr.getLoop,Qcc h1 (by simp),Qc1 _ h1 (by simp),asLoop]
  have hev:(Instr.endRound l j).events P w4.w #[]=#[⟨.obj l,false,false⟩,⟨.obj l,true,false⟩]:=by
   simp [Instr.endRound,Instr.getLoop,Qcc h1 (by simp),Qc1 _ h1 (by simp),Qe5 _ h1 rfl (by simp),Qgh _ h1 (o':=.loop _) rfl (by simp)]
  refine ⟨G (c.finish (.bool j.isNone)) cs,_,seen P b.fn ((Instr.endRound l j).events P w4.w #[]),?_,(Qey h1 h2 (by rw [hev]; exact QcM h2 (QcM h2 (.nil _)))).seen,hc _ _ h3⟩
  rcases hj with ⟨rfl,rfl⟩ | ⟨⟨k',rfl⟩,rfl⟩
  ·simp [G,stepG,stepG.exec,Frame.atR,b,doReturn,hrun,GStep.after]
  ·simp [G,stepG,stepG.exec,Frame.atR,b,doReturn,hrun,GStep.after]
 refine h b [.beginRound,.code bd] (c :: cs) Stop (by simp [b]) (fun h=>by cases h) fun e a1 w1 hq=>?_
 obtain ⟨rfl,hq⟩:=hq
 refine .go rfl fun w2 hr=>?_
 obtain ⟨r,h1,h2,h3,h4⟩:=hq w2 hr
 have hrun:(Instr.beginRound l).run P w2.w=.ok () { w2.w with heap:=w2.heap.setIfInBounds l (.loop { r with state:=.busy }) }:=by
  simp [Instr.beginRound,Instr.getLoop,Qcc h1 (by simp),Qc1 _ h1 (by simp),h2]
 have hev:(Instr.beginRound l).events P w2.w #[]=#[⟨.obj l,false,false⟩,⟨.obj l,true,false⟩]:=by
  simp [Instr.beginRound,Instr.getLoop,Qcc h1 (by simp),Qc1 _ h1 (by simp),Qe5 _ h1 rfl (by simp),Qgh _ h1 (o':=.loop _) rfl (by simp),h2]
 refine ⟨G (b.atR a1 [.code bd]) (c :: cs),{ w2.w with heap:=w2.heap.setIfInBounds l (.loop { r with state:=.busy }) },seen P b.fn ((Instr.beginRound l).events P w2.w #[]),?_,(Qey h1 h3 (by rw [hev]; exact QcM h3 (QcM h3 (.nil _)))).seen,?_⟩
 ·simp [G,stepG,stepG.exec,stepG.apply,Frame.atR,b,hrun,hev,Frame.finish,GStep.after]
 ·refine h4 b [] (c :: cs) Stop (by simp [b]) (fun h=>by cases h) fun e a2 w3 hq=>?_
  obtain ⟨j,hj,hq⟩:=hq
  rcases hj with ⟨rfl,rfl⟩ | ⟨rfl,rfl⟩
  ·exact leave none a2 [] w3 hq (.inl ⟨rfl,rfl⟩)
  ·exact fun k'=>leave (some .ret) a2 _ w3 hq (.inr ⟨⟨k',rfl⟩,rfl⟩)
def loopW (w:WM) (fn:FuncId) (a:Act) (ps:Array Tmp) (asq bd:Code):WM:=
 let w2:=w.to (w.w.alloc (.deferred (some [])))
 w2.to (w2.w.alloc (.loop { state:=.ready,pending:=none,fn,tmps:=a.tmps,params:=ps,assign:=asq,body:=bd,defers:=w.heap.size }))
def mark (r:Nat):Deferred:={ target:=.collected r,args:=#[] }
theorem QtW {fo:Operand} {ps:Array Tmp} {asq bd:Code} {g:FuncId} {first caps:Array Value} (hf:a.eval fo=.func (.func g) first caps)
  (hg:∀ args v,(callFunc g args).run P v=.ok (.enter g args) v∧(callFunc g args).events P v #[]=#[])
  (h:∀ fn w1,Rely w w1→Calls P g (first ++ #[.func (.yield (w1.heap.size+1)) #[] #[]] ++ caps) (loopW w1 fn a ps asq bd) fun e w3=>∃ v,e=.returned v∧∀ w4,Rely w3 w4→∃ r,w4.heap[w1.heap.size+1]? = some (.loop r)∧w4.M (w1.heap.size+1)∧r.state≠.busy ∧
   ((r.pending=none∧Q .normal { a with defers:=mark w1.heap.size :: a.defers } (w4.put (w1.heap.size+1) (asLoop r .exhausted r.pending))) ∨
    (r.pending=some .ret∧Q .ret { a with defers:=mark w1.heap.size :: a.defers } (w4.put (w1.heap.size+1) (asLoop r .exhausted r.pending))))) :
  Wp P true (.rangeFunc fo ps asq bd) Q a w:=by
 intro b k cs Stop hb hrn hc
 have hro:=hrn rfl
 refine .go rfl fun w1 hr=>?_
 have hb':(b.kind == CallKind.early)=false:=by simpa using hb
 have he:=Frame.eval_atR b a (.code (.rangeFunc fo ps asq bd) :: k)
 let fr:Frame:=b.atR { a with defers:=mark w1.heap.size :: a.defers } (.inRangeFunc (w1.heap.size+1) :: k)
 refine ⟨G (Frame.enter P g (first ++ #[.func (.yield (w1.heap.size+1)) #[] #[]] ++ caps) .normal) (fr :: cs),(loopW w1 b.fn a ps asq bd).w,#[],?_,?_,?_⟩
 ·have hrun:=hg (first ++ #[.func (.yield (w1.heap.size+1)) #[] #[]] ++ caps) (loopW w1 b.fn a ps asq bd).w
  have hd:(do let d ←resolve fr.eval { callee:=.value fo,args:=#[.const (.func (.yield (w1.heap.size+1)) #[] #[])],argTypes:=#[] } 0; invoke d.target d.args:Sem Next)=callFunc g (first ++ #[.func (.yield (w1.heap.size+1)) #[] #[]] ++ caps):=by
   have e1:fr.eval fo=.func (.func g) first caps:=by
    rw [show fr.eval fo=Act.eval { a with defers:=mark w1.heap.size :: a.defers } fo from congrFun (Frame.eval_atR b _ _) fo,←hf]
    cases fo <;> rfl
   have e2:(#[Operand.const (.func (.yield (w1.heap.size+1)) #[] #[])]).map fr.eval=#[.func (.yield (w1.heap.size+1)) #[] #[]]:=by simp [Frame.eval]
   simp only [resolve,e1,e2,Deferred.ofValue,pure_bind,invoke]
  have hent:(Instr.enterLoop b.fn a.tmps ps asq bd none).run P w1.w=.ok (w1.heap.size+1,[mark w1.heap.size]) (loopW w1 b.fn a ps asq bd).w:=by
   simp [Instr.enterLoop,loopW,WM.to,mark]
  have hev:(Instr.enterLoop b.fn a.tmps ps asq bd none).events P w1.w #[]=#[]:=by
   simp [Instr.enterLoop]
  have hs0:∀ fn,seen P fn #[]=#[]:=fun fn=>by rw [Go.Conc.seen_def]; rfl
  have happ:stepG.apply P true fr cs none (callFunc g (first ++ #[.func (.yield (w1.heap.size+1)) #[] #[]] ++ caps)) (loopW w1 b.fn a ps asq bd).w =
    .go (G (Frame.enter P g (first ++ #[.func (.yield (w1.heap.size+1)) #[] #[]] ++ caps) .normal) (fr :: cs)) (loopW w1 b.fn a ps asq bd).w #[]:=by
   simp only [stepG.apply,Sem.runT_eq,hrun.1,hrun.2,if_true]
   simp [GStep.after,G,fr,Frame.atR,hb',hs0]
  rw [←hd] at happ
  simp only [fr,Frame.atR,hro] at happ
  simp only [G,stepG,stepG.exec,Frame.atR,hro,Sem.runT_eq,hent,hev,hs0,List.singleton_append]
  simp only [G] at happ
  rw [happ]
  simp [GStep.after,fr,Frame.atR,hro]
 ·refine ⟨⟨rfl,rfl,rfl,?_,?_,.nil _⟩,.nil⟩
  ·simp [loopW,WM.to]
   simp only [WM.heap]
   omega
  ·intro b hb _
   have h1:b < (w1.w.alloc (.deferred (some []))).heap.size:=by rw [World.size_alloc]; simp only [WM.heap] at hb; omega
   show ((w1.w.alloc (.deferred (some []))).alloc _).heap[b]? = _
   rw [Below.heap_alloc _ _ _ h1,Below.heap_alloc _ _ _ hb]
 ·rw [show w1.to (loopW w1 b.fn a ps asq bd).w=loopW w1 b.fn a ps asq bd from ?_]
  ·refine h b.fn w1 hr (fr :: cs) Stop fun fr2 w3 hl=>hl.run fun e w4 he=>?_
   obtain ⟨v,rfl,hq⟩:=he
   show Run P Stop (G (fr.finish v) cs) w4
   refine .go rfl fun w5 hr5=>?_
   obtain ⟨r,h1,h2,h3,h4⟩:=hq w5 hr5
   have hfin:fr.finish v=b.atR { a with defers:=mark w1.heap.size :: a.defers } (.endRangeFunc (w1.heap.size+1) :: k):=by simp [fr,Frame.finish,Frame.atR]
   have hrun:(Instr.endLoop (w1.heap.size+1)).run P w5.w=.ok r.pending { w5.w with heap:=w5.heap.setIfInBounds (w1.heap.size+1) (asLoop r .exhausted r.pending) }:=by
    simp [Instr.endLoop,Instr.getLoop,Qcc h1 (by simp),Qc1 _ h1 (by simp),h3,asLoop]
   have hev:(Instr.endLoop (w1.heap.size+1)).events P w5.w #[]=#[⟨.obj (w1.heap.size+1),false,false⟩,⟨.obj (w1.heap.size+1),true,false⟩]:=by
    simp [Instr.endLoop,Instr.getLoop,Qcc h1 (by simp),Qc1 _ h1 (by simp),Qe5 _ h1 rfl (by simp),Qgh _ h1 (o':=.loop _) rfl (by simp),h3]
   refine ⟨G (b.atR { a with defers:=mark w1.heap.size :: a.defers } ((r.pending.map Item.code).toList ++ k)) cs,{ w5.w with heap:=w5.heap.setIfInBounds (w1.heap.size+1) (asLoop r .exhausted r.pending) },seen P b.fn ((Instr.endLoop (w1.heap.size+1)).events P w5.w #[]),?_,
    (Qey h1 h2 (by rw [hev]; exact QcM h2 (QcM h2 (.nil _)))).seen,?_⟩
   ·rw [hfin]
    simp [G,stepG,stepG.exec,Frame.atR,hrun,hev,GStep.after]
   ·rcases h4 with ⟨hp,hq⟩ | ⟨hp,hq⟩
    ·have:=hc _ _ _ hq
     rw [hp] at this ⊢
     exact this
    ·have:=hc _ _ _ hq k
     rw [hp] at this ⊢
     exact this
  ·unfold loopW WM.to
   simp only [WM.mk.injEq,true_and,and_true]
   funext b
   apply propext
   simp only [WM.heap,World.size_alloc]
   constructor
   ·rintro (h | h)
    ·exact .inl (.inl h)
    ·by_cases hb:b < w1.w.heap.size+1
     ·exact .inl (.inr (by omega))
     ·exact .inr (by omega)
   ·rintro ((h | h) | h)
    ·exact .inl h
    ·exact .inr (by omega)
    ·exact .inr (by omega)
def bodyPostD (P:Program) (fn:Func) (R:Ending→WM→Prop):Exit→Act→WM→Prop
 | .normal,a,w | .ret,a,w=>(a.defers=[]∧∀ w1,Rely w w1→∃ v,(results fn a.tmps).run P w1.w=.ok v w1.w∧EvIn w1 ((results fn a.tmps).events P w1.w #[])∧R (.returned v) w1) ∨
   ∃ r,a.defers=[mark r]∧∀ w1,Rely w w1→w1.heap[r]? = some (.deferred (some []))∧w1.M r ∧
    ∀ w2,Rely (w1.put r (.deferred none)) w2→∃ v,(results fn a.tmps).run P w2.w=.ok v w2.w∧EvIn w2 ((results fn a.tmps).events P w2.w #[])∧R (.returned v) w2
 | .panic ch,a,w=>a.defers=[]∧∀ w1,Rely w w1→R (.panicked ch) w1
 | _,_,_=>False
theorem Qwq {f:FuncId} {fn:Func} {c:Code} {args:Array Value} {R:Ending→WM→Prop} (hf:P.funcs[f]? = some fn) (hb:fn.body=some c)
  (h:Wp P true c (bodyPostD P fn R) { tmps:=args ++ Array.replicate (fn.ntmps - args.size) undef,defers:=[] } w):Calls P f args w R:=by
 intro cs Stop hc
 let b:Frame:={ (default:Frame) with fn:=f,kind:=.normal,roundOf:=none }
 have henter:Frame.enter P f args .normal=b.atR { tmps:=args ++ Array.replicate (fn.ntmps - args.size) undef,defers:=[] } [.code c]:=by
  simp [Frame.enter,Frame.atR,hf,hb,b]
 rw [henter]
 have ret:∀ (a':Act) (todo:List Item) (w':WM),bodyPostD P fn R .ret a' w'→Run P Stop (G { b.atR a' todo with mode:=.returning } cs) w':=fun a' todo w' hq=>by
  rcases hq with hq | ⟨r,hd,hq⟩
  ·exact hc _ _ ⟨rfl,fun w1 hr=>by
    obtain ⟨v,h1,h2,h3⟩:=hq.2 w1 hr
    exact ⟨.returned v,⟨rfl,hq.1,rfl,fn,hf,h1,h2⟩,h3⟩⟩
  ·refine .go rfl fun w1 hr=>?_
   obtain ⟨h1,h2,h3⟩:=hq w1 hr
   have hrun:(Instr.takeDeferred r).run P w1.w=.ok [] { w1.w with heap:=w1.heap.setIfInBounds r (.deferred none) }:=by
    simp [Instr.takeDeferred,Qcc h1 (by simp),Qc1 _ h1 (by simp)]
   have hev:(Instr.takeDeferred r).events P w1.w #[]=#[⟨.obj r,false,false⟩,⟨.obj r,true,false⟩]:=by
    simp [Instr.takeDeferred,Qcc h1 (by simp),Qc1 _ h1 (by simp),Qe5 _ h1 rfl (by simp),Qgh _ h1 (o':=.deferred none) rfl (by simp)]
   refine ⟨G { b.atR { a' with defers:=[] } todo with mode:=.returning } cs,{ w1.w with heap:=w1.heap.setIfInBounds r (.deferred none) },seen P b.fn ((Instr.takeDeferred r).events P w1.w #[]),?_,
    (Qey h1 h2 (by rw [hev]; exact QcM h2 (QcM h2 (.nil _)))).seen,?_⟩
   ·simp [G,stepG,unwind,Frame.atR,hd,mark,hrun,hev,GStep.after]
   ·exact hc _ _ ⟨rfl,fun w2 hr2=>by
     obtain ⟨v,g1,g2,g3⟩:=h3 w2 hr2
     exact ⟨.returned v,⟨rfl,rfl,rfl,fn,hf,g1,g2⟩,g3⟩⟩
 refine h b [] cs Stop (by simp [b]) (fun _=>rfl) fun e a' w' hq=>?_
 cases e with
 | normal=>exact .ctl rfl (fun _ _=>QeK rfl) (ret _ _ _ hq)
 | ret=>exact fun k'=>.ctl rfl (fun _ _=>Qfy rfl) (ret _ _ _ hq)
 | panic ch=>exact fun k'=>hc _ _ ⟨rfl,fun w1 hr=>⟨.panicked ch,⟨rfl,hq.1,fn,hf⟩,hq.2 w1 hr⟩⟩
 | exit id=>exact hq.elim
 | goto l=>exact hq.elim
 | outgrown=>exact hq.elim
end
end R
set_option linter.unusedVariables false
set_option linter.unusedSimpArgs false
open Go Go.RowKit
namespace R
def hold {α:Sort _} (a:α):α:=a
theorem QoN {α:Sort _} (a:α):hold a=a:=by unfold hold; rfl
inductive RV where
 | ext (v:Value)
 | ptr (k off:Nat)
 | sl (k off len cap:Nat)
 | clos (f:FuncId) (caps:List (Nat×Nat))
 | mp (k:Nat)
def ren (s:Nat→Nat):RV→Value
 | .ext v=>v
 | .ptr k o=>.pointer (some ⟨s k,o,none⟩)
 | .sl k o l c=>.slice (some ⟨s k,o,none⟩) l c
 | .clos f cs=>.func (.func f) #[] (cs.map fun c=>Value.pointer (some ⟨s c.1,c.2,none⟩)).toArray
 | .mp k=>.map (some (s k))
def clo (n:Nat):RV→Bool
 | .ext _=>true
 | .ptr k _=>decide (k < n)
 | .sl k _ _ _=>decide (k < n)
 | .mp k=>decide (k < n)
 | .clos _ cs=>cs.all fun c=>decide (c.1 < n)
theorem Qel {n m:Nat} (h:n≤m):∀ {v:RV},clo n v=true→clo m v=true
 | .ext _,_=>rfl
 | .ptr k _,h'=>by simp only [clo,decide_eq_true_eq] at *; omega
 | .sl k _ _ _,h'=>by simp only [clo,decide_eq_true_eq] at *; omega
 | .mp k,h'=>by simp only [clo,decide_eq_true_eq] at *; omega
 | .clos _ cs,h'=>by
  simp only [clo,List.all_eq_true,decide_eq_true_eq] at *
  intro c hc
  have:=h' c hc
  omega
theorem QeG {s s':Nat→Nat} {n:Nat} (h:∀ k,k < n→s' k=s k):∀ {v:RV},clo n v=true→ren s' v=ren s v
 | .ext _,_=>rfl
 | .ptr k _,h'=>by simp only [clo,decide_eq_true_eq] at h'; simp only [ren,h k h']
 | .sl k _ _ _,h'=>by simp only [clo,decide_eq_true_eq] at h'; simp only [ren,h k h']
 | .mp k,h'=>by simp only [clo,decide_eq_true_eq] at h'; simp only [ren,h k h']
 | .clos _ cs,h'=>by
  simp only [clo,List.all_eq_true,decide_eq_true_eq] at h'
  simp only [ren]
  congr 2
  apply List.map_congr_left
  intro c hc
  rw [h c.1 (h' c hc)]
inductive RO where
 | cells (T:TypeId) (c:List RV)
 | obj (o:Obj)
def renO (s:Nat→Nat):RO→Obj
 | .cells T c=>.cells (c.map (ren s)).toArray T (0,0)
 | .obj o=>o
def cloO (n:Nat):RO→Bool
 | .cells _ c=>c.all (clo n)
 | .obj _=>true
theorem Qe3 {n m:Nat} (h:n≤m):∀ {o:RO},cloO n o=true→cloO m o=true
 | .cells _ c,h'=>by
  simp only [cloO,List.all_eq_true] at *
  exact fun v hv=>Qel h (h' v hv)
 | .obj _,_=>rfl
theorem Qg8 {s s':Nat→Nat} {n:Nat} (h:∀ k,k < n→s' k=s k):∀ {o:RO},cloO n o=true→renO s' o=renO s o
 | .cells _ c,h'=>by
  simp only [cloO,List.all_eq_true] at h'
  simp only [renO]
  congr 2
  exact List.map_congr_left fun v hv=>QeG h (h' v hv)
 | .obj _,_=>rfl
structure St where
 t:List (Nat×RV)
 m:List RO
 x:Nat→Obj→Prop
def lk:List (Nat×RV)→Nat→Option RV
 | [],_=>none
 | p :: r,i=>bif i == p.1 then some p.2 else lk r i
theorem Qa7 (p:Nat×RV) (r:List (Nat×RV)) (i:Nat):lk (p :: r) i=if i=p.1 then some p.2 else lk r i:=by
 rw [lk]
 by_cases h:i=p.1
 ·simp [h]
 ·have:(i == p.1)=false:=by simpa using h
  rw [this,if_neg h]
  rfl
theorem QiX (i:Nat):lk [] i=none:=rfl
def St.put (S:St) (d:Option Nat) (v:RV):St:=
 match d with
 | none=>S
 | some d=>{ S with t:=(d,v) :: S.t }
theorem St.put_m (S:St) (d:Option Nat) (v:RV):(S.put d v).m=S.m:=by cases d <;> rfl
theorem St.put_x (S:St) (d:Option Nat) (v:RV):(S.put d v).x=S.x:=by cases d <;> rfl
structure Fr (bs:List Nat) (w w':WM):Prop where
 os:w'.os=w.os
 tape:w'.tape=w.tape
 output:w'.output=w.output
 gh:w'.gh=w.gh
 X:w'.X=w.X
 M:∀ b,w.M b→w'.M b
 new:∀ b,w'.M b→w.M b∨w.heap.size≤b
 size:w.heap.size≤w'.heap.size
 block:∀ k,w.O k→k < w.heap.size→k∉bs→w'.heap[k]? = w.heap[k]?
theorem Fr.O {bs:List Nat} {w w':WM} (h:Fr bs w w') {b:Nat} (hb:w.O b):w'.O b:=hb.elim (fun h1=>.inl (h.M b h1)) fun h1=>.inr (by rw [h.X]; exact h1)
theorem Fr.refl (bs:List Nat) (w:WM):Fr bs w w:=⟨rfl,rfl,rfl,rfl,rfl,fun _ h=>h,fun _ h=>.inl h,Nat.le_refl _,fun _ _ _ _=>rfl⟩
theorem Fr.trans {bs:List Nat} {a b c:WM} (h:Fr bs a b) (k:Fr bs b c):Fr bs a c:=
 ⟨k.os.trans h.os,k.tape.trans h.tape,k.output.trans h.output,k.gh.trans h.gh,k.X.trans h.X,fun b hb=>k.M b (h.M b hb),
  fun b hb=>(k.new b hb).elim (fun h1=>h.new b h1) (fun h1=>.inr (Nat.le_trans h.size h1)),Nat.le_trans h.size k.size,
  fun i ho hi hn=>(k.block i (h.O ho) (Nat.lt_of_lt_of_le hi h.size) hn).trans (h.block i ho hi hn)⟩
theorem Fr.mono {bs cs:List Nat} {w w':WM} (h:Fr bs w w') (hs:∀ b,b∈bs→b∈cs):Fr cs w w':=
 ⟨h.os,h.tape,h.output,h.gh,h.X,h.M,h.new,h.size,fun k ho hk hn=>h.block k ho hk (fun hb=>hn (hs k hb))⟩
theorem Fr.drew (bs:List Nat) (w:WM):Fr bs w w.drew:=⟨rfl,rfl,rfl,rfl,rfl,fun _ h=>h,fun _ h=>.inl h,Nat.le_refl _,fun _ _ _ _=>rfl⟩
theorem Fr.rely {w w1:WM} (bs:List Nat) (h:Rely w w1):Fr bs w w1:=
 ⟨h.os,h.tape,h.output,h.gh,h.X,fun b hb=>by rw [h.M]; exact hb,fun b hb=>.inl (by rw [h.M] at hb; exact hb),h.size,fun k ho hk _=>h.block k ho hk⟩
theorem Fr.own {bs:List Nat} {w:WM} {v:World} {es:Array Event} (h:Guar w v es) (hb:∀ k,w.O k→k < w.heap.size→k∉bs→v.heap[k]? = w.heap[k]?):Fr bs w (w.to v):=
 ⟨h.os,h.tape,h.output,rfl,rfl,fun b hb=>.inl hb,fun b hb=>hb.elim .inl fun h1=>.inr h1.1,h.size,hb⟩
structure Mem (s:Nat→Nat) (m:List RO) (x:Nat→Obj→Prop) (w:WM):Prop where
 mem:∀ (k:Nat) (o:RO),m[k]? = some o→w.heap[s k]? = some (renO s o)
 inj:∀ j k,j < m.length→k < m.length→s j=s k→j=k
 cm:∀ (k:Nat) (o:RO),m[k]? = some o→cloO m.length o=true
 ext:∀ b o,x b o→w.heap[b]? = some o
 apart:∀ b o,x b o→∀ k,k < m.length→s k≠b
 mine:∀ k,k < m.length→w.M (s k)
 know:∀ b o,x b o→w.O b
 wf:∀ b,w.O b→b < w.heap.size
theorem Mem.lt {s:Nat→Nat} {m:List RO} {x:Nat→Obj→Prop} {w:WM} (h:Mem s m x w) {k:Nat} (hk:k < m.length):s k < w.heap.size:=by
 have:=h.mem k m[k] (by simp [hk])
 exact (Array.getElem?_eq_some_iff.1 this).1
structure Own (bs:List Nat) (N:Nat) (s:Nat→Nat) (n:Nat):Prop where
 pin:bs.length≤n
 at_:∀ k,k < n→(∃ b,bs[k]? = some b∧s k=b)∨(bs.length≤k∧N≤s k)
theorem Own.mem {bs:List Nat} {N:Nat} {s:Nat→Nat} {n k:Nat} (h:Own bs N s n) (hk:k < n):s k∈bs∨N≤s k:=by
 rcases h.at_ k hk with ⟨b,h1,h2⟩ | h1
 ·exact .inl (h2▸List.mem_of_getElem? h1)
 ·exact .inr h1.2
theorem Own.none {N:Nat} {s:Nat→Nat} {n:Nat} (h:∀ k,k < n→N≤s k):Own [] N s n:=⟨Nat.zero_le _,fun k hk=>.inr ⟨Nat.zero_le _,h k hk⟩⟩
structure Rep (bs:List Nat) (w0:WM) (n:Nat) (ds:List Deferred) (s:Nat→Nat) (S:St) (a:Act) (w:WM):Prop where
 mr:Mem s S.m S.x w
 own:Own bs w0.heap.size s S.m.length
 fr:Fr bs w0 w
 size:a.tmps.size=n
 slot:∀ i v,lk S.t i=some v→a.tmps.getD i undef=ren s v∧clo S.m.length v=true
 df:a.defers=ds
section
variable {bs:List Nat} {w0:WM} {n:Nat} {ds:List Deferred} {s:Nat→Nat} {S:St} {a:Act} {w:WM}
theorem Qfg {xs:Array Value} {d i:Nat} {v u:Value} (hd:d < xs.size):(xs.setIfInBounds d v).getD i u=if i=d then v else xs.getD i u:=by
 simp only [Array.getD_eq_getD_getElem?,Array.getElem?_setIfInBounds]
 by_cases h:d=i
 ·subst h; simp [hd]
 ·rw [if_neg h,if_neg (fun e=>h e.symm)]
theorem Rep.put (h:Rep bs w0 n ds s S a w) {d:Option Nat} {v:RV} (hd:∀ i,d=some i→i < n) (hv:clo S.m.length v=true) :
  Rep bs w0 n ds s (S.put d v) (a.put d (ren s v)) w:=by
 cases d with
 | none=>exact h
 | some d=>
  have hd:=hd d rfl
  refine ⟨h.mr,h.own,h.fr,by simp [Act.put,h.size],?_,h.df⟩
  intro i u hi
  simp only [St.put,Qa7] at hi
  simp only [Act.put]
  rw [Qfg (by rw [h.size]; exact hd)]
  by_cases hid:i=d
  ·simp only [hid,if_true,Option.some.injEq] at hi ⊢
   subst hi
   exact ⟨rfl,hv⟩
  ·simp only [hid,if_false] at hi ⊢
   exact h.slot i u hi
theorem Rep.step (h:Rep bs w0 n ds s S a w) {w':WM} (hm:Mem s S.m S.x w') (hf:Fr bs w w'):Rep bs w0 n ds s S a w':=
 ⟨hm,h.own,h.fr.trans hf,h.size,h.slot,h.df⟩
theorem Fr.wf {bs:List Nat} {w w':WM} (hf:Fr bs w w') (hm:∀ b,w.O b→b < w.heap.size) (hn:∀ b,w'.M b→b < w'.heap.size):∀ b,w'.O b→b < w'.heap.size:=fun b hb=>by
 rcases hb with hb | hb
 ·exact hn b hb
 ·rw [hf.X] at hb
  exact Nat.lt_of_lt_of_le (hm b (.inr hb)) hf.size
def NewOk (w':WM):Prop:=∀ b,w'.M b→b < w'.heap.size
theorem Mem.new {m:List RO} {x:Nat→Obj→Prop} (h:Mem s m x w):NewOk w:=fun b hb=>h.wf b (.inl hb)
theorem NewOk.rely {w1:WM} (h:NewOk w) (hr:Rely w w1):NewOk w1:=fun b hb=>by
 rw [hr.M] at hb
 exact Nat.lt_of_lt_of_le (h b hb) hr.size
theorem NewOk.to {v:World} (h:NewOk w) (hs:w.heap.size≤v.heap.size):NewOk (w.to v):=fun b hb=>by
 rcases hb with hb | hb
 ·exact Nat.lt_of_lt_of_le (h b hb) hs
 ·exact hb.2
theorem Mem.keep {m:List RO} {x:Nat→Obj→Prop} (h:Mem s m x w) {w':WM} (hf:Fr [] w w') (hn:NewOk w'):Mem s m x w':=
 ⟨fun k o hk=>by
   have hl:=(List.getElem?_eq_some_iff.1 hk).1
   rw [hf.block (s k) (.inl (h.mine k hl)) (h.lt hl) (by simp)]; exact h.mem k o hk,
  h.inj,h.cm,fun b o hb=>by
   have h0:=h.ext b o hb
   rw [hf.block b (h.know b o hb) (Array.getElem?_eq_some_iff.1 h0).1 (by simp)]; exact h0,h.apart,
  fun k hk=>hf.M _ (h.mine k hk),fun b o hb=>hf.O (h.know b o hb),hf.wf h.wf hn⟩
theorem Mem.rely {m:List RO} {x:Nat→Obj→Prop} (h:Mem s m x w) {w1:WM} (hr:Rely w w1):Mem s m x w1:=h.keep (Fr.rely [] hr) (h.new.rely hr)
theorem Rep.rely (h:Rep bs w0 n ds s S a w) {w1:WM} (hr:Rely w w1):Rep bs w0 n ds s S a w1:=h.step (h.mr.rely hr) (Fr.rely bs hr)
theorem QiQ (w:WM) (o:Obj):Guar w (w.w.alloc o) #[]:=⟨rfl,rfl,rfl,by simp,fun b hb _=>Below.heap_alloc _ _ _ hb,.nil w⟩
theorem QjV (w:WM) (o:Obj) (b:Nat):(w.to (w.w.alloc o)).M b↔w.M b∨b=w.heap.size:=by
 unfold WM.to
 simp only [WM.heap,World.size_alloc]
 constructor
 ·rintro (h | h)
  ·exact .inl h
  ·exact .inr (by omega)
 ·rintro (h | h)
  ·exact .inl h
  ·exact .inr (by omega)
theorem Mem.alloc (h:Mem s S.m S.x w) (o:RO) (ho:cloO (S.m.length+1) o=true) :
  Mem (fun k=>if k=S.m.length then w.heap.size else s k) (S.m ++ [o]) S.x (w.to (w.w.alloc (renO (fun k=>if k=S.m.length then w.heap.size else s k) o))):=by
 have hag:∀ k,k < S.m.length→(fun k=>if k=S.m.length then w.heap.size else s k) k=s k:=fun k hk=>by
  simp only [show k≠S.m.length by omega,if_false]
 have hlen:(S.m ++ [o]).length=S.m.length+1:=by simp
 refine ⟨?_,?_,?_,?_,?_,?_,?_,?_⟩
 ·intro k p hk
  by_cases hkl:k < S.m.length
  ·rw [List.getElem?_append_left hkl] at hk
   simp only [show k≠S.m.length by omega,if_false]
   show (w.w.alloc _).heap[s k]? = _
   rw [Below.heap_alloc _ _ _ (h.lt hkl),←WM.heap,h.mem k p hk,Qg8 hag (h.cm k p hk)]
  ·have:k=S.m.length:=by
    have:=(List.getElem?_eq_some_iff.1 hk).1
    simp at this; omega
   subst this
   rw [List.getElem?_append_right (Nat.le_refl _)] at hk
   simp at hk
   subst hk
   show (w.heap.push _)[if S.m.length=S.m.length then w.heap.size else s S.m.length]? = _
   simp
 ·intro j k hj hk he
  rw [hlen] at hj hk
  by_cases h1:j=S.m.length <;> by_cases h2:k=S.m.length
  ·omega
  ·simp only [h1,if_true,h2,if_false] at he
   have:=h.lt (k:=k) (by omega)
   omega
  ·simp only [h1,if_false,h2,if_true] at he
   have:=h.lt (k:=j) (by omega)
   omega
  ·simp only [h1,h2,if_false] at he
   exact h.inj j k (by omega) (by omega) he
 ·intro k p hk
  rw [hlen]
  by_cases hkl:k < S.m.length
  ·rw [List.getElem?_append_left hkl] at hk
   exact Qe3 (by omega) (h.cm k p hk)
  ·have:k=S.m.length:=by
    have:=(List.getElem?_eq_some_iff.1 hk).1
    simp at this; omega
   subst this
   rw [List.getElem?_append_right (Nat.le_refl _)] at hk
   simp at hk
   subst hk
   exact ho
 ·intro b p hb
  have h0:=h.ext b p hb
  show (w.w.alloc _).heap[b]? = _
  rw [Below.heap_alloc _ _ _ (Array.getElem?_eq_some_iff.1 h0).1]
  exact h0
 ·intro b p hb k hk
  rw [hlen] at hk
  by_cases h1:k=S.m.length
  ·simp only [h1,if_true]
   have h0:=(Array.getElem?_eq_some_iff.1 (h.ext b p hb)).1
   omega
  ·simp only [h1,if_false]
   exact h.apart b p hb k (by omega)
 ·intro k hk
  rw [hlen] at hk
  rw [QjV]
  by_cases h1:k=S.m.length
  ·simp only [h1,if_true]; exact .inr trivial
  ·simp only [h1,if_false]; exact .inl (h.mine k (by omega))
 ·intro b p hb
  exact (h.know b p hb).elim (fun h1=>.inl ((QjV ..).2 (.inl h1))) .inr
 ·intro b hb
  show b < (w.w.alloc _).heap.size
  rw [World.size_alloc]
  rcases hb with hb | hb
  ·rcases (QjV ..).1 hb with h1 | h1
   ·have:=h.wf b (.inl h1); simp only [WM.heap] at this; omega
   ·simp only [WM.heap] at h1; omega
  ·have:=h.wf b (.inr hb); simp only [WM.heap] at this; omega
theorem Fr.alloc (bs:List Nat) (w:WM) (o:Obj):Fr bs w (w.to (w.w.alloc o)):=Fr.own (QiQ w o) fun k _ hk _=>Below.heap_alloc _ _ _ hk
theorem Rep.alloc (h:Rep bs w0 n ds s S a w) (o:RO) (ho:cloO (S.m.length+1) o=true) :
  Rep bs w0 n ds (fun k=>if k=S.m.length then w.heap.size else s k) { S with m:=S.m ++ [o] } a
   (w.to (w.w.alloc (renO (fun k=>if k=S.m.length then w.heap.size else s k) o))):=by
 have hag:∀ k,k < S.m.length→(fun k=>if k=S.m.length then w.heap.size else s k) k=s k:=fun k hk=>by
  simp only [show k≠S.m.length by omega,if_false]
 refine ⟨h.mr.alloc o ho,?_,h.fr.trans (Fr.alloc _ _ _),h.size,?_,h.df⟩
 ·refine ⟨by have:=h.own.pin; simp; omega,fun k hk=>?_⟩
  have hk:k < S.m.length+1:=by simpa using hk
  by_cases h1:k=S.m.length
  ·simp only [h1,if_true]
   exact .inr ⟨h.own.pin,h.fr.size⟩
  ·simp only [h1,if_false]
   exact h.own.at_ k (by omega)
 ·intro i v hi
  obtain ⟨h1,h2⟩:=h.slot i v hi
  exact ⟨by rw [h1,QeG hag h2],Qel (by simp) h2⟩
theorem Mem.set (h:Mem s S.m S.x w) {k:Nat} {o:RO} (hk:k < S.m.length) (ho:cloO S.m.length o=true) {w':WM}
  (hb:∀ j,w'.heap[j]? = if j=s k then some (renO s o) else w.heap[j]?) (hM:w'.M=w.M) (hX:w'.X=w.X) (hs:w'.heap.size=w.heap.size):Mem s (S.m.set k o) S.x w':=by
 have hO:∀ b,w'.O b↔w.O b:=fun b=>by unfold WM.O; rw [hM,hX]
 refine ⟨?_,?_,?_,?_,?_,?_,?_,?_⟩
 ·intro j p hj
  have hjl:j < S.m.length:=by have:=(List.getElem?_eq_some_iff.1 hj).1; simpa using this
  rw [hb]
  by_cases hjk:j=k
  ·subst hjk
   rw [List.getElem?_set_self hk] at hj
   simp only [Option.some.injEq] at hj
   subst hj
   simp
  ·rw [List.getElem?_set_ne (fun e=>hjk e.symm)] at hj
   rw [if_neg (fun e=>hjk (h.inj j k hjl hk e))]
   exact h.mem j p hj
 ·intro i j hi hj he
  exact h.inj i j (by simpa using hi) (by simpa using hj) he
 ·intro j p hj
  have hjl:j < S.m.length:=by have:=(List.getElem?_eq_some_iff.1 hj).1; simpa using this
  rw [List.length_set]
  by_cases hjk:j=k
  ·subst hjk
   rw [List.getElem?_set_self hk] at hj
   simp only [Option.some.injEq] at hj
   subst hj
   exact ho
  ·rw [List.getElem?_set_ne (fun e=>hjk e.symm)] at hj
   exact h.cm j p hj
 ·intro b p hbp
  rw [hb,if_neg (fun e=>h.apart b p hbp k hk e.symm)]
  exact h.ext b p hbp
 ·intro b p hbp j hj
  exact h.apart b p hbp j (by simpa using hj)
 ·intro j hj
  rw [hM]; exact h.mine j (by simpa using hj)
 ·intro b p hbp
  exact (hO b).2 (h.know b p hbp)
 ·intro b hbb
  rw [hs]; exact h.wf b ((hO b).1 hbb)
theorem QF1 {v:World} (hs:v.heap.size=w.heap.size):(w.to v).M=w.M:=by
 funext b
 exact propext ⟨fun h=>h.elim (fun h=>h) fun h=>absurd h.2 (by rw [hs]; omega),.inl⟩
theorem Qfh {k:Nat} {o:Obj} {v:World} {es:Array Event} (hk:w.M k) (hs:v.heap.size=w.heap.size) (hb:∀ j,v.heap[j]? = if j=k then some o else w.heap[j]?)
  (h1:v.os=w.os) (h2:v.tape=w.tape) (h3:v.output=w.output) (he:EvIn w es):Guar w v es:=
 ⟨h1,h2,h3,by rw [hs]; exact Nat.le_refl _,fun b _ hn=>by rw [hb,if_neg (fun e=>hn (by rw [e]; exact hk))],he⟩
theorem Rep.set (h:Rep bs w0 n ds s S a w) {k:Nat} {o:RO} (hk:k < S.m.length) (ho:cloO S.m.length o=true) {v:World}
  (hs:v.heap.size=w.heap.size) (hb:∀ j,v.heap[j]? = if j=s k then some (renO s o) else w.heap[j]?)
  (h1:v.os=w.os) (h2:v.tape=w.tape) (h3:v.output=w.output) :
  Rep bs w0 n ds s { S with m:=S.m.set k o } a (w.to v):=by
 have hM:=QF1 (w:=w) hs
 refine ⟨h.mr.set hk ho hb hM rfl hs,?_,⟨h1.trans h.fr.os,h2.trans h.fr.tape,h3.trans h.fr.output,h.fr.gh,h.fr.X,fun b hb=>by rw [hM]; exact h.fr.M b hb,fun b hb=>by rw [hM] at hb; exact h.fr.new b hb,by show _≤v.heap.size; rw [hs]; exact h.fr.size,?_⟩,h.size,?_,h.df⟩
 ·simpa using h.own
 ·intro j hO hj hn
  show v.heap[j]? = _
  rw [hb]
  by_cases e:j=s k
  ·exfalso
   rcases h.own.mem hk with h4 | h4
   ·exact hn (e▸h4)
   ·omega
  ·rw [if_neg e]
   exact h.fr.block j hO hj hn
 ·intro i v hi
  obtain ⟨h1,h2⟩:=h.slot i v hi
  exact ⟨h1,by simpa using h2⟩
end
end R
namespace R
def evO (S:St):Operand→Option RV
 | .tmp t=>lk S.t t
 | .const v=>some (.ext v)
 | .global g=>some (.ext (.pointer (some ⟨g,0,none⟩)))
 | .func f=>some (.ext (.func (.func f) #[] #[]))
def Sl (s:Nat→Nat) (S:St) (a:Act):Prop:=∀ i v,lk S.t i=some v→a.tmps.getD i undef=ren s v∧clo S.m.length v=true
theorem Sl.eval {s:Nat→Nat} {S:St} {a:Act} (h:Sl s S a) {x:Operand} {v:RV} (hx:evO S x=some v):a.eval x=ren s v∧clo S.m.length v=true:=by
 cases x with
 | tmp t=>exact h t v hx
 | const u=>simp only [evO,Option.some.injEq] at hx; subst hx; exact ⟨rfl,rfl⟩
 | global g=>simp only [evO,Option.some.injEq] at hx; subst hx; exact ⟨rfl,rfl⟩
 | func f=>simp only [evO,Option.some.injEq] at hx; subst hx; exact ⟨rfl,rfl⟩
def bindV {α:Type} (o:Option α) (K:α→Prop):Prop:=match o with | some v=>K v | none=>False
@[congr] theorem bindV_congr {α:Type} {a b:Option α} {K:α→Prop} (h:hold a=b):bindV a K=bindV b K:=by rw [←h]; rfl
theorem Qc9 {α:Type} (v:α) (K:α→Prop):bindV (some v) K=K v:=rfl
theorem Qak {α:Type} {o:Option α} {K:α→Prop} (h:bindV o K):∃ v,o=some v∧K v:=by
 cases o with
 | none=>exact h.elim
 | some v=>exact ⟨v,rfl,h⟩
def ifB (b:Bool) (f:Bool→Prop):Prop:=(b=true→f true)∧(b=false→f false)
@[congr] theorem condP_congr {a b:Bool} {x y:Prop} (h:hold a=b):(bif a then x else y)=(bif b then x else y):=by rw [←h]; rfl
@[congr] theorem ifB_congr {a b:Bool} {f:Bool→Prop} (h:hold a=b):ifB a f=ifB b f:=by rw [←h]; rfl
theorem QoW (f:Bool→Prop):ifB true f=f true:=by simp [ifB]
theorem QoV (f:Bool→Prop):ifB false f=f false:=by simp [ifB]
theorem QcU {b:Bool} {f:Bool→Prop} (h:ifB b f):f b:=by
 cases b
 ·exact h.2 rfl
 ·exact h.1 rfl
def gv (S:St) (x:Operand) (K:RV→Prop):Prop:=bindV (evO S x) K
@[congr] theorem gv_congr {S:St} {x:Operand} {K:RV→Prop} {x':Operand} (h:hold x=x'):gv S x K=gv S x' K:=by rw [←h]; rfl
theorem QaL {S:St} {x:Operand} {K:RV→Prop} (h:gv S x K):∃ v,evO S x=some v∧K v:=Qak h
def exv (v:RV) (K:Value→Prop):Prop:=match v with | .ext v=>K v | _=>False
@[congr] theorem exv_congr {v:RV} {K:Value→Prop} {v':RV} (h:hold v=v'):exv v K=exv v' K:=by rw [←h]; rfl
theorem QxS {v:RV} {K:Value→Prop} (h:exv v K):∃ u,v=.ext u∧K u:=by
 cases v <;> first | exact ⟨_,rfl,h⟩ | exact h.elim
def getX (S:St) (x:Operand) (K:Value→Prop):Prop:=gv S x fun v=>exv v K
@[congr] theorem getX_congr {S:St} {x:Operand} {K:Value→Prop} {x':Operand} (h:hold x=x'):getX S x K=getX S x' K:=by rw [←h]; rfl
theorem Qat {S:St} {x:Operand} {K:Value→Prop} (h:getX S x K):∃ u,evO S x=some (.ext u)∧K u:=by
 obtain ⟨v,h1,h2⟩:=QaL h
 obtain ⟨u,rfl,h3⟩:=QxS h2
 exact ⟨u,h1,h3⟩
def getsR (S:St):List Operand→Option (List RV)
 | []=>some []
 | x :: xs=>match evO S x with
  | some v=>match getsR S xs with
   | some vs=>some (v :: vs)
   | none=>none
  | none=>none
theorem QbF {s:Nat→Nat} {S:St} {a:Act} (h:Sl s S a):∀ {xs:List Operand} {vs:List RV},getsR S xs=some vs→xs.map a.eval=vs.map (ren s)∧∀ v∈vs,clo S.m.length v=true
 | [],vs,hx=>by simp only [getsR,Option.some.injEq] at hx; subst hx; simp
 | x :: xs,vs,hx=>by
  simp only [getsR] at hx
  split at hx
  ·rename_i v hv
   split at hx
   ·rename_i us hus
    simp only [Option.some.injEq] at hx
    subst hx
    obtain ⟨h1,h2⟩:=QbF h hus
    obtain ⟨h3,h4⟩:=h.eval hv
    exact ⟨by simp [h1,h3],by simpa using ⟨h4,h2⟩⟩
   ·cases hx
  ·cases hx
def toExts:List RV→Option (List Value)
 | []=>some []
 | .ext v :: r=>match toExts r with
  | some vs=>some (v :: vs)
  | none=>none
 | _ :: _=>none
theorem Qa9:∀ {l:List RV} {vs:List Value},toExts l=some vs→l=vs.map .ext
 | [],vs,h=>by simp only [toExts,Option.some.injEq] at h; subst h; rfl
 | .ext v :: r,vs,h=>by
  simp only [toExts] at h
  split at h
  ·rename_i us hus
   simp only [Option.some.injEq] at h
   subst h
   rw [Qa9 hus]; rfl
  ·cases h
 | .ptr _ _ :: _,vs,h=>by cases h
 | .sl _ _ _ _ :: _,vs,h=>by cases h
 | .clos _ _ :: _,vs,h=>by cases h
 | .mp _ :: _,vs,h=>by cases h
theorem Qax (s:Nat→Nat) (vs:List Value):(vs.map RV.ext).map (ren s)=vs:=by
 rw [List.map_map]; exact List.map_id' vs
def getsX (S:St) (xs:List Operand) (K:List Value→Prop):Prop:=bindV (getsR S xs) fun rs=>bindV (toExts rs) K
@[congr] theorem getsX_congr {S:St} {xs:List Operand} {K:List Value→Prop} {xs':List Operand} (h:hold xs=xs'):getsX S xs K=getsX S xs' K:=by rw [←h]; rfl
theorem Qco {S:St} {xs:List Operand} {K:List Value→Prop} (h:getsX S xs K):∃ vs,getsR S xs=some (vs.map .ext)∧K vs:=by
 obtain ⟨rs,hrs,h⟩:=Qak h
 obtain ⟨vs,hvs,h⟩:=Qak h
 rw [Qa9 hvs] at hrs
 exact ⟨vs,hrs,h⟩
theorem Sl.evals {s:Nat→Nat} {S:St} {a:Act} (h:Sl s S a) {xs:List Operand} {vs:List Value} (hx:getsR S xs=some (vs.map .ext)):xs.map a.eval=vs:=by
 rw [(QbF h hx).1,Qax]
def Yields {α:Type} (P:Program) (m:Sem α) (v:α):Prop:=∀ w,m.run P w=.ok v w∧m.events P w #[]=#[]
def pureW (P:Program) (m:Sem Value) (K:Value→Prop):Prop:=∃ v,Yields P m v∧K v
def tyS (P:Program) (t:TypeId):Option (Bool×Nat):=
 match P.underlying t,P.info? t with
 | some d,some i=>some ((match d with | .struct _ | .array _ _=>true | _=>false),i.size)
 | _,_=>none
def fieldOff (P:Program) (T:TypeId) (f:Nat):Option Nat:=
 match P.underlying T with
 | some (.struct fs)=>match fs[f]? with
  | some fld=>match P.info? fld.type with
   | some i=>if i.size=0 then none else some fld.offset
   | none=>none
  | none=>none
 | _=>none
def elemOff (P:Program) (T:TypeId):Option (Option Nat×Nat):=
 match P.underlying T with
 | some (.slice e)=>match P.info? e with
  | some i=>some (none,i.size)
  | none=>none
 | some (.array n e)=>match P.info? e with
  | some i=>some (some n,i.size)
  | none=>none
 | _=>none
def tyZ (P:Program) (t:TypeId):Option (List Value):=
 match P.info? t with
 | some i=>match i.zero with
  | some v=>some v.cells.toList
  | none=>none
 | none=>none
def flat:RV→List RV
 | .ext v=>v.cells.toList.map .ext
 | v=>[v]
def one:RV→Bool
 | .ext v=>v.oneCell'
 | _=>true
def takeX:Nat→List RV→Option (List Value)
 | 0,_=>some []
 | n+1,.ext v :: r=>(takeX n r).map (v :: ·)
 | _+1,_=>none
theorem QsL:∀ {n:Nat} {l:List RV} {vs:List Value},takeX n l=some vs→l.take n=vs.map .ext∧vs.length=n
 | 0,l,vs,h=>by simp only [takeX,Option.some.injEq] at h; subst h; simp
 | n+1,[],vs,h=>by simp [takeX] at h
 | n+1,.ext v :: r,vs,h=>by
  simp only [takeX,Option.map_eq_some_iff] at h
  obtain ⟨us,h1,rfl⟩:=h
  obtain ⟨h2,h3⟩:=QsL h1
  simp [h2,h3]
 | n+1,.ptr _ _ :: _,vs,h=>by simp [takeX] at h
 | n+1,.sl _ _ _ _ :: _,vs,h=>by simp [takeX] at h
 | n+1,.clos _ _ :: _,vs,h=>by simp [takeX] at h
 | n+1,.mp _ :: _,vs,h=>by simp [takeX] at h
def dropX:Nat→List RV→List RV
 | 0,l=>l
 | n+1,_ :: r=>dropX n r
 | _+1,[]=>[]
theorem Qmy:∀ (n:Nat) (l:List RV),dropX n l=l.drop n
 | 0,l=>rfl
 | n+1,[]=>by simp [dropX]
 | n+1,v :: r=>by simp [dropX,Qmy n r]
def nthX {α:Type}:List α→Nat→Option α
 | [],_=>none
 | v :: _,0=>some v
 | _ :: r,n+1=>nthX r n
theorem Qay {α:Type}:∀ (l:List α) (n:Nat),nthX l n=l[n]?
 | [],n=>by simp [nthX]
 | v :: r,0=>by simp [nthX]
 | v :: r,n+1=>by simp [nthX,Qay r n]
def setX {α:Type}:List α→Nat→α→List α
 | [],_,_=>[]
 | _ :: r,0,u=>u :: r
 | v :: r,n+1,u=>v :: setX r n u
theorem QbV {α:Type}:∀ (l:List α) (n:Nat) (u:α),setX l n u=l.set n u
 | [],n,u=>by simp [setX]
 | v :: r,0,u=>by simp [setX]
 | v :: r,n+1,u=>by simp [setX,QbV r n u]
def putX {α:Type}:Nat→List α→List α→Option (List α)
 | _,c,[]=>some c
 | 0,_ :: c,u :: us=>(putX 0 c us).map (u :: ·)
 | n+1,v :: c,us=>(putX n c us).map (v :: ·)
 | _,[],_ :: _=>none
theorem Qg6 {α:Type}:∀ {n:Nat} {c us c':List α},putX n c us=some c'→us=[]∧c'=c∨n+us.length≤c.length∧c'=c.take n ++ us ++ c.drop (n+us.length)
 | n,c,[],c',h=>by
  have:c'=c:=by cases n <;> cases c <;> simpa [putX] using h.symm
  exact .inl ⟨rfl,this⟩
 | 0,v :: c,u :: us,c',h=>by
  simp only [putX,Option.map_eq_some_iff] at h
  obtain ⟨d,h1,rfl⟩:=h
  rcases Qg6 h1 with ⟨rfl,rfl⟩ | ⟨h2,rfl⟩
  ·exact .inr (by simp)
  ·exact .inr (by simp at h2 ⊢; omega)
 | n+1,v :: c,u :: us,c',h=>by
  simp only [putX,Option.map_eq_some_iff] at h
  obtain ⟨d,h1,rfl⟩:=h
  rcases Qg6 h1 with ⟨h2,_⟩ | ⟨h2,rfl⟩
  ·cases h2
  ·refine .inr ⟨by simp at h2 ⊢; omega,?_⟩
   rw [show n+1+(u :: us).length=(n+(u :: us).length)+1 by omega]
   simp
 | 0,[],u :: us,c',h=>by simp [putX] at h
 | n+1,[],u :: us,c',h=>by simp [putX] at h
def segX (c:List RV) (off n:Nat):Option (List Value):=takeX n (dropX off c)
def loadR (g:Bool) (n off:Nat) (c:List RV) (K:RV→Prop):Prop:=
 match g with
 | true=>bindV (segX c off n) fun vs=>K (.ext (.agg vs.toArray))
 | false=>bindV (nthX c off) K
def loadX (g:Bool) (n off:Nat) (c:Array Value):Option Value:=
 match g with
 | true=>if off+n≤c.size then some (.agg (c.extract off (off+n))) else none
 | false=>c[off]?
@[congr] theorem loadR_congr {g g':Bool} {n n' off:Nat} {c:List RV} {K:RV→Prop} (h:hold g=g') (h2:hold n=n'):loadR g n off c K=loadR g' n' off c K:=by rw [←h,←h2]; rfl
def nilOK:Value→Bool
 | .pointer (some _)=>true
 | .func (.func _) _ _=>true
 | .iface _ _=>true
 | .map (some _)=>true
 | .chan (some _)=>true
 | _=>false
def tgt (f:RV) (vs:List RV):Option (FuncId×List RV):=
 match f with
 | .ext (.func (.func g) first caps)=>some (g,first.toList.map .ext ++ vs ++ caps.toList.map .ext)
 | .clos g cs=>some (g,vs ++ cs.map fun c=>.ptr c.1 c.2)
 | _=>none
def goes (P:Program) (g:FuncId):Prop:=∀ args,Yields P (callFunc g args) (.enter g args)
structure PureC (P:Program) (x:Nat→Obj→Prop) (g:FuncId) (args:List Value) (v:Value):Prop where
 out:∀ w:WM,(∀ b o,x b o→w.heap[b]? = some o∧w.O b)→(∀ b,w.O b→b < w.heap.size)→Calls P g args.toArray w fun e w'=>e=.returned v∧Fr [] w w'∧NewOk w'
def GOut (s:Nat→Nat) (S:St) (w:WM) (K:RV→St→Prop) (Pn:Value→St→Prop) (e:Ending) (w':WM):Prop:=
 Fr ((List.range S.m.length).map s) w w' ∧
 ((∃ v S',e=.returned (ren s v)∧clo S.m.length v=true∧S'.t=S.t∧S'.m.length=S.m.length∧Mem s S'.m S'.x w'∧K v S') ∨
  (∃ v S',e=.panicked [{ v,recovered:=false }]∧S'.t=S.t∧S'.m.length=S.m.length∧Mem s S'.m S'.x w'∧Pn v S'))
def GenC (P:Program) (S:St) (g:FuncId) (asq:List RV) (K:RV→St→Prop) (Pn:Value→St→Prop):Prop:=
 ∀ s w,Mem s S.m S.x w→Calls P g (asq.map (ren s)).toArray w (GOut s S w K Pn)
def ExtC (P:Program) (g:FuncId) (es:List Value) (v:Value):Prop:=∀ w,(callFunc g es.toArray).run P w=.ok (.value v) w∧∀ e∈(callFunc g es.toArray).events P w #[],∃ f,e.loc=.mark (.extern f)
def callW (P:Program) (q:Bool) (S:St) (t:Option (FuncId×List RV)) (K:RV→St→Prop) (Pn:Value→St→Prop):Prop:=
 match t with
 | none=>False
 | some (g,asq)=>(goes P g∧((∃ es v,toExts asq=some es∧PureC P S.x g es v∧K (.ext v) S)∨(q=false∧GenC P S g asq K Pn)))∨(∃ es v,toExts asq=some es∧ExtC P g es v∧K (.ext v) S)
@[congr] theorem callW_congr {P:Program} {q:Bool} {S:St} {t u:Option (FuncId×List RV)} {K:RV→St→Prop} {Pn:Value→St→Prop} (h:hold t=u):callW P q S t K Pn=callW P q S u K Pn:=by rw [←h]; rfl
@[congr] theorem pureW_congr {P:Program} {m:Sem Value} {K:Value→Prop} {P':Program} (h:hold P=P'):pureW P m K=pureW P' m K:=by rw [←h]; rfl
def builtW (P:Program) (m:Sem Next) (K:Value→Prop):Prop:=∃ v,Yields P m (.value v)∧K v
@[congr] theorem builtW_congr {P:Program} {m:Sem Next} {K:Value→Prop} {P':Program} (h:hold P=P'):builtW P m K=builtW P' m K:=by rw [←h]; rfl
def invokeW (P:Program) (S:St) (m:Sem Next) (K:Value→Prop):Prop:=∃ g es v,Yields P m (.enter g es)∧PureC P S.x g es.toList v∧K v
@[congr] theorem invokeW_congr {P:Program} {S:St} {m:Sem Next} {K:Value→Prop} {P':Program} (h:hold P=P'):invokeW P S m K=invokeW P' S m K:=by rw [←h]; rfl
def extW (S:St) (g:Bool) (n b off:Nat) (K:Value→Prop):Prop:=∃ c T' f v,S.x b (.cells c T' f)∧loadX g n off c=some v∧K v
@[congr] theorem extW_congr {S:St} {g g':Bool} {n n' b b' off off':Nat} {K:Value→Prop} (h:hold g=g') (h2:hold n=n') (h3:hold b=b') (h4:hold off=off'):extW S g n b off K=extW S g' n' b' off' K:=by rw [←h,←h2,←h3,←h4]; rfl
def lookW (P:Program) (T:TypeId) (k:Value) (ok:Bool) (o:Obj) (K:Value→Prop):Prop:=∃ v,(∀ (r:Nat) (w:World),w.heap[r]? = some o→(Instr.lookup T (.map (some r)) k ok).run P w=.ok v w∧∀ e∈(Instr.lookup T (.map (some r)) k ok).events P w #[],e.loc=.obj r∧e.sync=false∧e.write=false)∧K v
@[congr] theorem lookW_congr {P:Program} {T:TypeId} {k:Value} {ok:Bool} {o:Obj} {K:Value→Prop} {T':TypeId} (h:hold T=T'):lookW P T k ok o K=lookW P T' k ok o K:=by rw [←h]; rfl
def updW (P:Program) (T:TypeId) (k x:Value) (o:Obj) (K:Obj→Prop):Prop:=∃ o',(∀ (r:Nat) (w:World),w.heap[r]? = some o→(Instr.mapUpdate T (.map (some r)) k x).run P w=.ok () { w with heap:=w.heap.setIfInBounds r o' }∧∀ e∈(Instr.mapUpdate T (.map (some r)) k x).events P w #[],e.loc=.obj r∧e.sync=false)∧K o'
@[congr] theorem updW_congr {P:Program} {T:TypeId} {k x:Value} {o:Obj} {K:Obj→Prop} {T':TypeId} (h:hold T=T'):updW P T k x o K=updW P T' k x o K:=by rw [←h]; rfl
def rowW (P:Program) (m:Sem Value) (K:TypeId→List Value→Nat→Nat→Prop):Prop:=
 ∃ elem cells len cap,(∀ w:World,m.run P w=.ok (.slice (some ⟨w.heap.size,0,none⟩) len cap) (w.alloc (.cells cells elem))∧∀ e∈m.events P w #[],e.loc=.mark .noRoom)∧K elem cells.toList len cap
@[congr] theorem rowW_congr {P:Program} {m:Sem Value} {K:TypeId→List Value→Nat→Nat→Prop} {P':Program} (h:hold P=P'):rowW P m K=rowW P' m K:=by rw [←h]; rfl
def inW (j:Int) (len:Nat) (K:Prop):Prop:=(0≤j∧j < (len:Int))∧K
@[congr] theorem inW_congr {j:Int} {len:Nat} {K:Prop} {len':Nat} (h:hold len=len'):inW j len K=inW j len' K:=by rw [←h]; rfl
def ptrs:List RV→Option (List (Nat×Nat))
 | []=>some []
 | .ptr k o :: r=>(ptrs r).map ((k,o) :: ·)
 | _ :: _=>none
theorem Qjo:∀ {l:List RV} {ps:List (Nat×Nat)},ptrs l=some ps→l=ps.map fun c=>.ptr c.1 c.2
 | [],ps,h=>by simp only [ptrs,Option.some.injEq] at h; subst h; rfl
 | .ptr k o :: r,ps,h=>by
  simp only [ptrs,Option.map_eq_some_iff] at h
  obtain ⟨qs,h1,rfl⟩:=h
  rw [Qjo h1]; rfl
 | .ext _ :: _,ps,h=>by simp [ptrs] at h
 | .sl _ _ _ _ :: _,ps,h=>by simp [ptrs] at h
 | .clos _ _ :: _,ps,h=>by simp [ptrs] at h
 | .mp _ :: _,ps,h=>by simp [ptrs] at h
def ptrV (v:Value):Option (Nat×Nat):=match v with | .pointer (some ⟨b,off,none⟩)=>some (b,off) | _=>none
theorem Qjn {v:Value} {p:Nat×Nat} (h:ptrV v=some p):v=.pointer (some ⟨p.1,p.2,none⟩):=by
 unfold ptrV at h
 split at h
 ·simp only [Option.some.injEq] at h; subst h; rfl
 ·cases h
def slV (v:Value):Option (Nat×Nat×Nat×Nat):=match v with | .slice (some ⟨b,off,none⟩) l c=>some (b,off,l,c) | _=>none
theorem QsD {v:Value} {p:Nat×Nat×Nat×Nat} (h:slV v=some p):v=.slice (some ⟨p.1,p.2.1,none⟩) p.2.2.1 p.2.2.2:=by
 unfold slV at h
 split at h
 ·simp only [Option.some.injEq] at h; subst h; rfl
 ·cases h
def ikEq:IntKind→IntKind→Bool
 | .i8,.i8=>true | .i16,.i16=>true | .i32,.i32=>true | .i64,.i64=>true
 | .u8,.u8=>true | .u16,.u16=>true | .u32,.u32=>true | .u64,.u64=>true
 | _,_=>false
theorem QoY {a b:IntKind} (h:ikEq a b=true):a=b:=by cases a <;> cases b <;> first | rfl | cases h
def fitsK:List (Option IntKind)→List Value→Bool
 | [],[]=>true
 | none :: ks,.bool _ :: xs=>fitsK ks xs
 | some k :: ks,.int j _ :: xs=>ikEq k j && fitsK ks xs
 | _,_=>false
def eqL:List Value→List Value→Bool
 | .bool a :: xs,.bool b :: ys=>(a == b) && eqL xs ys
 | .int _ a :: xs,.int _ b :: ys=>(a == b) && eqL xs ys
 | _,_=>true
def kindsL (P:Program):Nat→List Field→Option (List (Option IntKind))
 | _,[]=>some []
 | i, f :: fs => if f.name = "_" ∨ f.offset ≠ i then none else match P.underlying f.type with
  | some .bool=>(kindsL P (i+1) fs).map (none :: ·)
  | some (.int k)=>(kindsL P (i+1) fs).map (some k :: ·)
  | _=>none
def flatKs (P:Program) (T:TypeId):Option (List (Option IntKind)):=
 match P.underlying T with
 | some (.struct fs)=>if P.stoodInHeld T || P.eqGuardType P.depth T then none else kindsL P 0 fs.toList
 | _=>none
def Mute {α:Type} (P:Program) (m:Sem α):Prop:=∀ w es,m.events P w es=es
theorem Mute.bind {α β:Type} {P:Program} {x:Sem α} {f:α→Sem β} (h:Mute P x) (k:∀ a,Mute P (f a)):Mute P (x >>= f):=fun w es=>by
 rw [Sem.events_bind,h w es]
 cases x.run P w with
 | ok a w'=>exact k a w' es
 | halt h w'=>rfl
theorem Mute.pure {α:Type} {P:Program} (a:α):Mute P (Pure.pure a:Sem α):=fun w es=>rfl
theorem Mute.halt {α:Type} {P:Program} (h:Halt):Mute P (Sem.halt h:Sem α):=fun w es=>rfl
theorem Mute.stuck {α:Type} {P:Program} (h:String):Mute P (Go.stuck h:Sem α):=fun w es=>rfl
theorem Mute.unsupported {α:Type} {P:Program} (h:Unsupported):Mute P (Go.unsupported h:Sem α):=fun w es=>rfl
theorem Mute.ite {α:Type} {P:Program} {c:Prop} [Decidable c] {x y:Sem α} (h:Mute P x) (k:Mute P y):Mute P (if c then x else y):=by split; exact h; exact k
theorem Mute.mapML {α β:Type} {P:Program} {f:α→Sem β} (h:∀ a,Mute P (f a)):∀ l:List α,Mute P (l.mapM f)
 | []=>by rw [List.mapM_nil]; exact .pure _
 | a :: l=>by rw [List.mapM_cons]; exact (h a).bind fun b=>(mapML h l).bind fun bs=>.pure _
theorem Mute.mapM {α β:Type} {P:Program} {f:α→Sem β} (h:∀ a,Mute P (f a)) (l:Array α):Mute P (l.mapM f):=by
 rw [Array.mapM_eq_mapM_toList]
 exact fun w es=>by rw [Sem.events_map]; exact mapML h _ w es
theorem QpR {P:Program} (t:TypeId):Mute P (underlying t):=fun w es=>events_underlying ..
theorem Qja {P:Program} (t:TypeId):Mute P (sizeOf t):=fun w es=>events_sizeOf ..
theorem QpS {P:Program} (t:TypeId):Mute P (zeroValue t):=fun w es=>events_zeroValue ..
theorem QBA {P:Program} (t:TypeId) (parts:Array (Nat×Value)):Mute P (Instr.build t parts):=by
 unfold Instr.build
 refine (QpS t).bind fun z=>(QpR t).bind fun d=>?_
 split
 ·refine (Mute.mapM (fun f=>(Qja _).bind fun n=>.pure _) _).bind fun ps=>?_
  split <;> exact fun w es=>rfl
 ·refine (Qja _).bind fun n=>?_
  split <;> exact fun w es=>rfl
 ·exact .stuck _
theorem Qni {P:Program} (w:World) (T:TypeId) (Z:Array Value) (n:Nat) (es:Array Event):(part T Z n).events P w es=es:=by
 unfold part
 rw [Sem.events_bind]
 simp only [events_isAgg]
 cases (isAgg T).run P w with
 | halt h w'=>rfl
 | ok t w'=>
  cases t
  ·simp only [Result.evThen_ok,Bool.false_eq_true,if_false]
   split <;> rfl
  ·simp only [Result.evThen_ok,if_true]
   rw [Sem.events_bind,events_sizeOf]
   cases (sizeOf T).run P w' <;> rfl
theorem QxL {P:Program} (w:World) (d:Nat) (t:TypeId) (xs ys:Array Value) (es:Array Event) (ht:P.underlying t=some (.struct (P.fieldsOf t))) (hp:P.stoodInHeld t=false) :
  (Op.equalIn (d+1) t (.agg xs) (.agg ys)).events P w es=(Op.eqFields d xs ys (P.fieldsOf t).toList).events P w es:=by
 simp only [Op.equalIn,Sem.events_bind,Sem.run_bind,run_underlying ht,events_underlying,Result.andThen_ok,Result.evThen_ok,run_program,events_program,hp,Bool.false_eq_true,if_false]
 rw [←Array.forIn_toList]
 generalize (P.fieldsOf t).toList=fs
 clear ht
 induction fs generalizing w es with
 | nil=>simp [Op.eqFields]
 | cons f fs ih=>
  simp only [List.forIn_cons,Op.eqFields,Sem.events_bind,Sem.run_bind,Sem.run_ite,Sem.events_ite]
  split
  ·generalize (part f.type xs f.offset).events P w es=es1
   generalize (part f.type xs f.offset).run P w=r1
   cases r1 with
   | ok a w1=>
    simp only [Result.andThen_ok,Result.evThen_ok]
    generalize (part f.type ys f.offset).events P w1 es1=es2
    generalize (part f.type ys f.offset).run P w1=r2
    cases r2 with
    | ok b w2=>
     simp only [Result.andThen_ok,Result.evThen_ok]
     generalize (Op.equalIn d f.type a b).events P w2 es2=es3
     generalize (Op.equalIn d f.type a b).run P w2=r3
     cases r3 with
     | ok r w3=>
      cases r
      ·simp only [Result.andThen_ok,Result.evThen_ok,Bool.not_false,if_true,Sem.run_pure,Sem.events_pure]
      ·simp only [Result.andThen_ok,Result.evThen_ok,Bool.not_true,Bool.false_eq_true,if_false,Sem.run_pure,Sem.events_pure]
       exact ih w3 es3
     | halt x w3=>simp [Result.andThen,Result.evThen]
    | halt x w2=>simp [Result.andThen,Result.evThen]
   | halt x w1=>simp [Result.andThen,Result.evThen]
  ·simp only [Sem.run_pure,Result.andThen_ok,Result.evThen_ok,Sem.events_pure]
   exact ih w es
theorem QxK {P:Program} (w:World) (d:Nat) (t:TypeId) (k k':IntKind) (a b:Int) (es:Array Event) (h:P.underlying t=some (.int k')):(Op.equalIn (d+1) t (.int k a) (.int k b)).events P w es=es:=by
 simp [Op.equalIn,run_underlying h]
theorem Qii {P:Program} (w:World) (d:Nat) (t:TypeId) (a b:Bool) (es:Array Event) (h:P.underlying t=some .bool):(Op.equalIn (d+1) t (.bool a) (.bool b)).events P w es=es:=by
 simp [Op.equalIn,run_underlying h]
theorem QjN {P:Program} (w:World) (d:Nat) (X Y:Array Value):∀ (fs:List Field) (i:Nat) (ks:List (Option IntKind)) (xs ys:List Value),kindsL P i fs=some ks →
  X.toList.drop i=xs→Y.toList.drop i=ys→fitsK ks xs=true→fitsK ks ys=true→(Op.eqFields (d+1) X Y fs).run P w=.ok (eqL xs ys) w∧∀ es,(Op.eqFields (d+1) X Y fs).events P w es=es
 | [],i,ks,xs,ys,hk,hx,hy,fx,fy=>by
  simp only [kindsL,Option.some.injEq] at hk
  subst hk
  cases xs <;> simp [fitsK] at fx
  cases ys <;> simp [fitsK] at fy
  simp [Op.eqFields,eqL]
 | f :: fs,i,ks,xs,ys,hk,hx,hy,fx,fy=>by
  simp only [kindsL] at hk
  split at hk
  ·cases hk
  ·rename_i hn
   have hn1 : ¬ f.name = "_" := fun e => hn (.inl e)
   have hn2:f.offset=i:=Classical.byContradiction fun e=>hn (.inr e)
   have hget:∀ (Z:Array Value) (z:Value) (zs:List Value),Z.toList.drop i=z :: zs→Z[i]? = some z∧Z.toList.drop (i+1)=zs:=by
    intro Z z zs h
    refine ⟨?_,?_⟩
    ·have:=congrArg (·[0]?) h
     simpa [List.getElem?_drop] using this
    ·rw [←List.drop_drop,h]; rfl
   have hpart:∀ (Z:Array Value) (z:Value) (D:TypeDesc),P.underlying f.type=some D→(match D with | .struct _ | .array _ _=>true | _=>false)=false→Z[i]? = some z→(part f.type Z f.offset).run P w=.ok z w:=by
    intro Z z D hD hd hz
    have hagg:(isAgg f.type).run P w=.ok false w:=by
     unfold isAgg
     rw [Sem.run_bind,run_underlying hD w]
     cases D <;> simp_all
    unfold part
    rw [Sem.run_bind,hagg]
    simp [hn2,hz]
   split at hk
   ·rename_i hu
    simp only [Option.map_eq_some_iff] at hk
    obtain ⟨ks,hks,rfl⟩:=hk
    cases xs with
    | nil=>simp [fitsK] at fx
    | cons x xs=>
     cases ys with
     | nil=>simp [fitsK] at fy
     | cons y ys=>
      cases x <;> simp only [fitsK,Bool.false_eq_true] at fx
      cases y <;> simp only [fitsK,Bool.false_eq_true] at fy
      rename_i a b
      obtain ⟨x1,x2⟩:=hget _ _ _ hx
      obtain ⟨y1,y2⟩:=hget _ _ _ hy
      have ih:=QjN w d X Y fs (i+1) ks xs ys hks x2 y2 fx fy
      simp only [Op.eqFields,ne_eq,hn1,not_false_eq_true,if_true,Sem.run_bind,Sem.events_bind,Qni,hpart X _ _ hu rfl x1,hpart Y _ _ hu rfl y1,Result.andThen_ok,Result.evThen_ok,run_equalIn_bool w d f.type a b hu,fun es=>Qii w d f.type a b es hu,eqL]
      cases hab:a == b
      ·simp
      ·simp [ih]
   ·rename_i k hu
    simp only [Option.map_eq_some_iff] at hk
    obtain ⟨ks,hks,rfl⟩:=hk
    cases xs with
    | nil=>simp [fitsK] at fx
    | cons x xs=>
     cases ys with
     | nil=>simp [fitsK] at fy
     | cons y ys=>
      cases x <;> simp only [fitsK,Bool.false_eq_true,Bool.and_eq_true] at fx
      cases y <;> simp only [fitsK,Bool.false_eq_true,Bool.and_eq_true] at fy
      rename_i ka a kb b
      obtain ⟨x1,x2⟩:=hget _ _ _ hx
      obtain ⟨y1,y2⟩:=hget _ _ _ hy
      have e1:=QoY fx.1
      have e2:=QoY fy.1
      subst e1
      subst e2
      have ih:=QjN w d X Y fs (i+1) ks xs ys hks x2 y2 fx.2 fy.2
      have hev:∀ es,(Op.equalIn (d+1) f.type (.int k a) (.int k b)).events P w es=es:=fun es=>QxK w d f.type k k a b es hu
      simp only [Op.eqFields,ne_eq,hn1,not_false_eq_true,if_true,Sem.run_bind,Sem.events_bind,Qni,hpart X _ _ hu rfl x1,hpart Y _ _ hu rfl y1,Result.andThen_ok,Result.evThen_ok,run_equalIn_int w d f.type _ _ a b hu,hev,eqL]
      cases hab:a == b
      ·simp
      ·simp [ih]
   ·cases hk
theorem Qgc {P:Program} {T:TypeId} {op:BinOp} {x y:Operand} {a b:Array Value} (h:P.eqGuardType P.depth T=false) (w:World):(eqGuard op T x y (.agg a) (.agg b)).run P w=.ok () w∧∀ es,(eqGuard op T x y (.agg a) (.agg b)).events P w es=es:=by
 unfold eqGuard
 cases op <;> simp [h]
theorem Qsm {P:Program} {T:TypeId} {ks:List (Option IntKind)} {xs ys:Array Value} (h:flatKs P T=some ks) (hx:fitsK ks xs.toList=true) (hy:fitsK ks ys.toList=true) (w:World) :
  P.eqGuardType P.depth T=false∧(Op.equal T (.agg xs) (.agg ys)).run P w=.ok (eqL xs.toList ys.toList) w∧∀ es,(Op.equal T (.agg xs) (.agg ys)).events P w es=es:=by
 unfold flatKs at h
 split at h
 ·rename_i fs hu
  split at h
  ·cases h
  ·rename_i hc
   simp only [Bool.or_eq_true,not_or,Bool.not_eq_true] at hc
   refine ⟨hc.2,?_⟩
   have hf:P.fieldsOf T=fs:=by simp [Program.fieldsOf,hu]
   have:=run_equalIn_struct (P:=P) w 9999 T xs ys (by rw [hf,hu]) hc.1
   unfold Op.equal
   show (Op.equalIn (9999+1) T (.agg xs) (.agg ys)).run P w=_∧∀ es,(Op.equalIn (9999+1) T (.agg xs) (.agg ys)).events P w es=es
   have h2:=QjN w 9998 xs ys fs.toList 0 ks _ _ h (by simp) (by simp) hx hy
   rw [this,hf]
   refine ⟨h2.1,fun es=>?_⟩
   rw [QxL w 9999 T xs ys es (by rw [hf,hu]) hc.1,hf]
   exact h2.2 es
 ·cases h
def binW (P:Program) (op:BinOp) (T:TypeId) (x y:Operand) (a b:Value) (K:Value→Prop):Prop:=
 match a,b,op with
 | .agg xs,.agg ys,.eql=>bindV (flatKs P T) fun ks=>(fitsK ks xs.toList=true∧fitsK ks ys.toList=true)∧K (.bool (eqL xs.toList ys.toList))
 | .agg xs,.agg ys,.neq=>bindV (flatKs P T) fun ks=>(fitsK ks xs.toList=true∧fitsK ks ys.toList=true)∧K (.bool (!eqL xs.toList ys.toList))
 | a,b,op=>pureW P (do eqGuard op T x y a b; binOp op T a b) K
@[congr] theorem binW_congr {P:Program} {op:BinOp} {T:TypeId} {x y:Operand} {a b:Value} {K:Value→Prop} {op':BinOp} (h:hold op=op'):binW P op T x y a b K=binW P op' T x y a b K:=by rw [←h]; rfl
theorem QkH {P:Program} {op:BinOp} {T:TypeId} {x y:Operand} {a b:Value} {K:Value→Prop} (h:binW P op T x y a b K):∃ v,Yields P (do eqGuard op T x y a b; binOp op T a b:Sem Value) v∧K v:=by
 unfold binW at h
 split at h
 ·obtain ⟨ks,hk,⟨h1,h2⟩,h3⟩:=Qak h
  refine ⟨_,fun w=>?_,h3⟩
  obtain ⟨g1,g2,g3⟩:=Qsm hk h1 h2 w
  rw [Sem.run_bind,Sem.events_bind,(Qgc g1 w).1,(Qgc g1 w).2]
  constructor <;> simp [binOp,g2,g3]
 ·obtain ⟨ks,hk,⟨h1,h2⟩,h3⟩:=Qak h
  refine ⟨_,fun w=>?_,h3⟩
  obtain ⟨g1,g2,g3⟩:=Qsm hk h1 h2 w
  rw [Sem.run_bind,Sem.events_bind,(Qgc g1 w).1,(Qgc g1 w).2]
  constructor <;> simp [binOp,g2,g3]
 ·exact h
def pickW (v:Value) (a b:RV) (K:RV→Prop):Prop:=match v with | .bool t=>ifB t fun t=>K (bif t then a else b) | _=>False
@[congr] theorem pickW_congr {v:Value} {a b:RV} {K:RV→Prop} {v':Value} (h:hold v=v'):pickW v a b K=pickW v' a b K:=by rw [←h]; rfl
def nilW (v:RV) (A:Prop):Prop:=match v with | .ext u=>nilOK u=true∧A | .ptr _ _=>A | .clos _ _=>A | .mp _=>A | .sl _ _ _ _=>False
@[congr] theorem nilW_congr {v:RV} {A:Prop} {v':RV} (h:hold v=v'):nilW v A=nilW v' A:=by rw [←h]; rfl
def funcW (S:St) (fn:Fn) (fs cs:List RV) (K:RV→St→Prop):Prop:=match fs,ptrs cs,fn with
   | [],some (c :: l),.func g=>K (.clos g (c :: l)) S
   | fs,_,fn=>bindV (toExts fs) fun fs=>bindV (toExts cs) fun cs=>K (.ext (.func fn fs.toArray cs.toArray)) S
@[congr] theorem funcW_congr {S:St} {K:RV→St→Prop} {fn:Fn} {fs cs:List RV} {fn':Fn} (h:hold fn=fn'):funcW S fn fs cs K=funcW S fn' fs cs K:=by rw [←h]; rfl
def faW (v:RV) (n:Nat) (K:RV→Prop):Prop:=match v with
  | .ptr k off=>K (.ptr k (off+n))
  | .ext u=>bindV (ptrV u) fun p=>K (.ext (.pointer (some ⟨p.1,p.2+n,none⟩)))
  | _=>False
@[congr] theorem faW_congr {v:RV} {n:Nat} {K:RV→Prop} {n':Nat} (h:hold n=n'):faW v n K=faW v n' K:=by rw [←h]; rfl
def idxW (v:RV) (z:Option Nat×Nat) (i:Value) (K:RV→Prop):Prop:=match i with
  | .int _ j=>match v,z.1 with
   | .sl k off len _,none=>inW j len (K (.ptr k (off+j.toNat * z.2)))
   | .ptr k off,some len=>inW j len (K (.ptr k (off+j.toNat * z.2)))
   | .ext u,none=>bindV (slV u) fun p=>inW j p.2.2.1 (K (.ext (.pointer (some ⟨p.1,p.2.1+j.toNat * z.2,none⟩))))
   | _,_=>False
  | _=>False
@[congr] theorem idxW_congr {v:RV} {z:Option Nat×Nat} {i:Value} {K:RV→Prop} {z':Option Nat×Nat} (h:hold z=z'):idxW v z i K=idxW v z' i K:=by rw [←h]; rfl
def cellW (o:RO) (K:TypeId→List RV→Prop):Prop:=match o with | .cells T c=>K T c | _=>False
@[congr] theorem cellW_congr {o:RO} {K:TypeId→List RV→Prop} {o':RO} (h:hold o=o'):cellW o K=cellW o' K:=by rw [←h]; rfl
def loadW (S:St) (z:Bool×Nat) (v:RV) (K:RV→Prop):Prop:=match v with
  | .ptr k off=>bindV (nthX S.m k) fun o=>cellW o fun _ c=>loadR z.1 z.2 off c K
  | .ext u=>bindV (ptrV u) fun p=>extW S z.1 z.2 p.1 p.2 fun v=>K (.ext v)
  | _=>False
@[congr] theorem loadW_congr {S:St} {z:Bool×Nat} {v:RV} {K:RV→Prop} {z':Bool×Nat} (h:hold z=z'):loadW S z v K=loadW S z' v K:=by rw [←h]; rfl
def storeW (S:St) (z:Bool×Nat) (p v:RV) (K:St→Prop):Prop:=match p with
  | .ptr k off=>bindV (nthX S.m k) fun o=>cellW o fun T' c=>bindV (putX off c (flat v)) fun c'=>((flat v).length=z.2∧(flat v).all one=true∧z.2≠0)∧K ⟨S.t,setX S.m k (.cells T' c'),S.x⟩
  | _=>False
@[congr] theorem storeW_congr {S:St} {z:Bool×Nat} {p v:RV} {K:St→Prop} {z':Bool×Nat} (h:hold z=z'):storeW S z p v K=storeW S z' p v K:=by rw [←h]; rfl
def condW (v:Value) (A B:Prop):Prop:=match v with | .bool t=>ifB t fun t=>bif t then A else B | _=>False
@[congr] theorem condW_congr {v:Value} {A B:Prop} {v':Value} (h:hold v=v'):condW v A B=condW v' A B:=by rw [←h]; rfl
def bldS (P:Program) (T:TypeId):Option (List Value×List (Nat×Nat)):=
 match P.info? T,P.underlying T with
 | some it,some (.struct fields)=>match it.zero,fields.toList.mapM (fun f=>(P.info? f.type).map fun i=>(f.offset,i.size)) with
  | some z,some places=>some (z.cells.toList,places)
  | _,_=>none
 | some it,some (.array n e)=>match it.zero,P.info? e with
  | some z,some ie=>some (z.cells.toList,(List.range n).map fun i=>(i * ie.size,ie.size))
  | _,_=>none
 | _,_=>none
theorem Qnu {f g:Nat→Option (Nat×Nat)} (h:∀ i p,g i=some p→f i=some p):∀ (l:List (Nat×Value)) (c cs:Array Value),Instr.fill g c l=some cs→Instr.fill f c l=some cs
 | [],c,cs,hf=>hf
 | (i,v) :: l,c,cs,hf=>by
  simp only [Instr.fill] at hf ⊢
  cases hg:g i with
  | none=>simp [hg] at hf
  | some p=>
   rw [h i p hg]
   simp only [hg] at hf ⊢
   split at hf
   ·cases hf
   ·rename_i hc
    rw [if_neg hc]
    exact Qnu h l _ _ hf
def fillW:List (Nat×Nat)→List Value→List Nat→List Value→(List Value→Prop)→Prop
 | _,c,[],[],K=>K c
 | ps,c,i :: is,v :: vs,K=>bindV (nthX ps i) fun p=>bindV (putX p.1 c v.cells.toList) fun c'=>v.cells.toList.length=p.2∧p.1+p.2≤c.length∧fillW ps c' is vs K
 | _,_,_,_,_=>False
@[congr] theorem fillW_congr {ps:List (Nat×Nat)} {c:List Value} {is:List Nat} {vs:List Value} {K:List Value→Prop} {is':List Nat} (h:hold is=is'):fillW ps c is vs K=fillW ps c is' vs K:=by rw [←h]; rfl
theorem QnV (off:Nat):∀ (l:List Value) (k:Nat) (c:Array Value),off+k+l.length≤c.size →
  ((l.zipIdx k).foldl (fun cs x=>cs.setIfInBounds (off+x.2) x.1) c).toList=c.toList.take (off+k) ++ l ++ c.toList.drop (off+k+l.length)
 | [],k,c,_=>by simp
 | v :: l,k,c,h=>by
  have h':off+k < c.size:=by simp at h; omega
  rw [List.zipIdx_cons,List.foldl_cons,QnV off l (k+1) _ (by simp at h ⊢; omega)]
  apply List.ext_getElem?
  intro j
  simp only [Array.toList_setIfInBounds,List.getElem?_append,List.length_take,List.length_set,Array.length_toList,List.length_append,List.length_cons,List.getElem?_take,List.getElem?_set,List.getElem?_drop]
  by_cases h1:j < off+k
  ·have:j < min (off+(k+1)) c.size:=by omega
   have h2:j < min (off+k) c.size:=by omega
   simp only [this,h2,show j < min (off+(k+1)) c.size+l.length by omega,show j < min (off+k) c.size+(l.length+1) by omega,if_true,show off+k≠j by omega,if_false,show j < off+(k+1) by omega,h1]
  ·by_cases h2:j=off+k
   ·subst h2
    simp only [show off+k < min (off+(k+1)) c.size by omega,show off+k < min (off+(k+1)) c.size+l.length by omega,show ¬ off+k < min (off+k) c.size by omega,show off+k < min (off+k) c.size+(l.length+1) by omega,if_true,if_false,h',show off+k < off+(k+1) by omega,show off+k - min (off+k) c.size=0 by omega]
    simp
   ·by_cases h3:j < off+k+1+l.length
    ·simp only [show ¬ j < min (off+(k+1)) c.size by omega,show j < min (off+(k+1)) c.size+l.length by omega,show ¬ j < min (off+k) c.size by omega,show j < min (off+k) c.size+(l.length+1) by omega,if_true,if_false]
     rw [show j - min (off+k) c.size=(j - min (off+(k+1)) c.size)+1 by omega]
     simp
    ·simp only [show ¬ j < min (off+(k+1)) c.size by omega,show ¬ j < min (off+(k+1)) c.size+l.length by omega,show ¬ j < min (off+k) c.size by omega,show ¬ j < min (off+k) c.size+(l.length+1) by omega,if_false]
     simp only [show off+(k+1)+l.length+(j - (min (off+(k+1)) c.size+l.length))=j by simp at h; omega,show off+k+(l.length+1)+(j - (min (off+k) c.size+(l.length+1)))=j by simp at h; omega,show off+k≠j by omega,if_false]
theorem Qnt {ps:List (Nat×Nat)}:∀ {is:List Nat} {vs:List Value} {c:List Value} {K:List Value→Prop},fillW ps c is vs K→∃ cs,Instr.fill (ps.toArray[·]?) c.toArray (is.zip vs)=some cs.toArray∧K cs
 | [],[],c,K,h=>⟨c,rfl,h⟩
 | i :: is,v :: vs,c,K,h=>by
  obtain ⟨p,hp,h⟩:=Qak h
  obtain ⟨c',hc,hl,hle,h⟩:=Qak h
  obtain ⟨cs,h1,h2⟩:=Qnt h
  refine ⟨cs,?_,h2⟩
  rw [Qay] at hp
  have hc':c'=c.take p.1 ++ v.cells.toList ++ c.drop (p.1+v.cells.toList.length):=by
   rcases Qg6 hc with ⟨h3,h4⟩ | ⟨_,h4⟩
   ·rw [h3,h4]; simp
   ·exact h4
  have hs:v.cells.size=p.2:=by rw [←hl]; simp
  have hp':ps.toArray[i]? = some p:=by simpa using hp
  simp only [List.zip_cons_cons,Instr.fill,hp']
  rw [if_neg (by simp [hs]; omega)]
  have hf:v.cells.zipIdx.foldl (fun cs (x:Value×Nat)=>cs.setIfInBounds (p.1+x.2) x.1) c.toArray=c'.toArray:=by
   rw [←Array.foldl_toList,Array.toList_zipIdx]
   apply Array.ext'
   rw [QnV p.1 v.cells.toList 0 c.toArray (by simp; rw [hs]; omega),hc']
   simp
  rw [hf]
  exact h1
 | [],_ :: _,c,K,h=>h.elim
 | _ :: _,[],c,K,h=>h.elim
theorem QkV {P:Program} {T:TypeId} {z:List Value×List (Nat×Nat)} {is:List Nat} {vs:List Value} {K:List Value→Prop} (hz:bldS P T=some z) (h:fillW z.2 z.1 is vs K) :
  ∃ cs:List Value,Yields P (Instr.build T (is.zip vs).toArray) (.agg cs.toArray)∧K cs:=by
 obtain ⟨cs,h1,h2⟩:=Qnt h
 refine ⟨cs,fun w=>⟨run_build w T _ _ ?_,QBA _ _ w #[]⟩,h2⟩
 unfold bldS at hz
 split at hz
 ·rename_i it fields hi hu
  split at hz
  ·rename_i v places hv hp
   simp only [Option.some.injEq] at hz
   subst hz
   simp only [Program.built,hi,hu,hv,hp]
   simpa using h1
  ·cases hz
 ·rename_i it n e hi hu
  split at hz
  ·rename_i v ie hv hp
   simp only [Option.some.injEq] at hz
   subst hz
   simp only [Program.built,hi,hu,hv,hp]
   refine Qnu (fun i p h=>?_) _ _ _ (by simpa using h1)
   simp only [Option.map_eq_some_iff] at h
   obtain ⟨j,hj,rfl⟩:=h
   obtain ⟨hlt,rfl⟩:=List.getElem?_eq_some_iff.1 hj
   simp
  ·cases hz
 ·cases hz
def objW (o:RO) (K:Obj→Prop):Prop:=match o with | .obj o=>K o | _=>False
@[congr] theorem objW_congr {o:RO} {K:Obj→Prop} {o':RO} (h:hold o=o'):objW o K=objW o' K:=by rw [←h]; rfl
def mpW (v:RV) (K:Nat→Prop):Prop:=match v with | .mp r=>K r | _=>False
@[congr] theorem mpW_congr {v:RV} {K:Nat→Prop} {v':RV} (h:hold v=v'):mpW v K=mpW v' K:=by rw [←h]; rfl
def extM (S:St) (b:Nat) (K:Obj→Prop):Prop:=∃ o,S.x b o∧K o
@[congr] theorem extM_congr {S:St} {b b':Nat} {K:Obj→Prop} (h:hold b=b'):extM S b K=extM S b' K:=by rw [←h]; rfl
def mapOb (S:St) (v:RV) (K:Obj→Prop):Prop:=match v with
 | .mp r=>bindV (nthX S.m r) fun o=>objW o K
 | .ext (.map (some b))=>extM S b K
 | _=>False
@[congr] theorem mapOb_congr {S:St} {v:RV} {K:Obj→Prop} {v':RV} (h:hold v=v'):mapOb S v K=mapOb S v' K:=by rw [←h]; rfl
def ifaceW (v:Value) (K:TypeId→Value→Prop):Prop:=match v with | .iface t u=>K t u | _=>False
@[congr] theorem ifaceW_congr {v:Value} {K:TypeId→Value→Prop} {v':Value} (h:hold v=v'):ifaceW v K=ifaceW v' K:=by rw [←h]; rfl
def appS (P:Program) (ts:Array TypeId):Option (TypeId×List Value×Nat):=
 match ts.toList with
 | [t,u]=>match decide (t=u),P.underlying t with
  | true,some (.slice e)=>match P.info? e with
   | some i=>match i.zero with
    | some z=>bif (z.cells.size == i.size) && Nat.blt 0 i.size then some (e,z.cells.toList,i.bytes) else none
    | none=>none
   | none=>none
  | _,_=>none
 | _=>none
def zrow (zs:List Value) (k:Nat):List RV:=(Builtin.zeroCells zs.toArray k).toList.map .ext
def newsW (S:St) (z:Nat) (y:RV) (K:Nat→List RV→Prop):Prop:=match y with
 | .sl j off m _=>∃ T c,S.m[j]? = some (.cells T c)∧off+m * z≤c.length∧((c.drop off).take (m * z)).all one=true∧K m ((c.drop off).take (m * z))
 | .ext (.slice (some ⟨b,off,none⟩) m _)=>∃ l:List Value,l.length=m * z∧(∀ i u,l[i]? = some u→u.oneCell'=true∧∃ c T f,S.x b (.cells c T f)∧c[off+i]? = some u)∧K m (l.map .ext)
 | _=>False
def appW0 (P:Program) (S:St) (ts:Array TypeId) (x y:RV) (K:RV→St→Prop):Prop:=
 ∃ e zs bytes,appS P ts=some (e,zs,bytes)∧(((∃ a c,y=.ext (.slice a 0 c))∧((x=.ext (.slice none 0 0)∧K x S)∨∃ k n cap,x=.sl k 0 n cap∧n≤cap∧K x S))∨newsW S zs.length y fun m news=>
  (x=.ext (.slice none 0 0)∧0 < m∧m≤maxLen∧m * bytes≤140737488355328∧∀ cap,m≤cap→cap≤maxLen→K (.sl S.m.length 0 m cap) ⟨S.t,S.m ++ [.cells e (news ++ zrow zs (cap - m))],S.x⟩) ∨
  (x=.ext (.slice none 0 0)∧m=0∧K x S) ∨
  ∃ k n cap c,x=.sl k 0 n cap∧S.m[k]? = some (.cells e c)∧n * zs.length≤c.length ∧
   (n+m≤cap→n * zs.length+news.length≤c.length∧K (.sl k 0 (n+m) cap) ⟨S.t,S.m.set k (.cells e (c.take (n * zs.length) ++ news ++ c.drop (n * zs.length+news.length))),S.x⟩) ∧
   (cap < n+m→n+m≤maxLen∧(n+m) * bytes≤140737488355328∧∀ cap',n+m≤cap'→cap'≤maxLen →
    K (.sl S.m.length 0 (n+m) cap') ⟨S.t,S.m ++ [.cells e (c.take (n * zs.length) ++ news ++ zrow zs (cap' - (n+m)))],S.x⟩))
def appX (P:Program) (S:St) (ts:Array TypeId) (x y:RV) (K:RV→St→Prop):Prop:=
 ∃ e zs bytes b off n cap,appS P ts=some (e,zs,bytes)∧x=.ext (.slice (some ⟨b,off,none⟩) n cap) ∧
  (((∃ a c,y=.ext (.slice a 0 c))∧n≤cap∧K x S) ∨
   (∃ l:List Value,l.length=n * zs.length∧(∀ i u,l[i]? = some u→∃ c T f,S.x b (.cells c T f)∧c[off+i]? = some u)∧newsW S zs.length y fun m news=>cap < n+m∧n+m≤maxLen∧(n+m) * bytes≤140737488355328 ∧
    ∀ cap',n+m≤cap'→cap'≤maxLen→K (.sl S.m.length 0 (n+m) cap') ⟨S.t,S.m ++ [.cells e (l.map .ext ++ news ++ zrow zs (cap' - (n+m)))],S.x⟩))
def appW (P:Program) (S:St) (ts:Array TypeId) (x y:RV) (K:RV→St→Prop):Prop:=appW0 P S ts x y K∨appX P S ts x y K
def copyW (P:Program) (S:St) (ts:Array TypeId) (x y:RV) (K:RV→St→Prop):Prop:=
 ∃ e zs bytes,appS P ts=some (e,zs,bytes)∧(((∃ a c k off cap,y=.ext (.slice a 0 c)∧x=.sl k off 0 cap)∧K (.ext (.int .i64 0)) S)∨newsW S zs.length y fun m news=>
  ∃ k off cap T c,x=.sl k off m cap∧S.m[k]? = some (.cells T c)∧off+news.length≤c.length∧K (.ext (.int .i64 m)) ⟨S.t,S.m.set k (.cells T (c.take off ++ news ++ c.drop (off+news.length))),S.x⟩)
def lenW (P:Program) (q:Bool) (S:St) (ts:Array TypeId) (b:Builtin) (rs:List RV) (K:RV→St→Prop) (A:Prop):Prop:=match b,rs with
 | .len,[.sl _ _ l _]=>bindV ((ts[0]?).bind (elemOff P)) fun z=>match z.1 with
  | none=>K (.ext (.int .i64 l)) S
  | some _=>False
 | .append,[x,y]=>q=false∧appW P S ts x y K
 | .append,_=>False
 | .copy,[x,y]=>q=false∧copyW P S ts x y K
 | .copy,_=>False
 | _,_=>A
@[congr] theorem lenW_congr {P:Program} {q:Bool} {S:St} {ts:Array TypeId} {b:Builtin} {rs:List RV} {K:RV→St→Prop} {A:Prop} {b':Builtin} (h:hold b=b'):lenW P q S ts b rs K A=lenW P q S ts b' rs K A:=by rw [←h]; rfl
@[congr] theorem appW_congr {P:Program} {S:St} {ts:Array TypeId} {x y:RV} {K:RV→St→Prop} {ts':Array TypeId} (h:hold ts=ts'):appW P S ts x y K=appW P S ts' x y K:=by rw [←h]; rfl
@[congr] theorem copyW_congr {P:Program} {S:St} {ts:Array TypeId} {x y:RV} {K:RV→St→Prop} {ts':Array TypeId} (h:hold ts=ts'):copyW P S ts x y K=copyW P S ts' x y K:=by rw [←h]; rfl
theorem QhC {P:Program} {ts:Array TypeId} {e:TypeId} {zs:List Value} {b:Nat} (h:appS P ts=some (e,zs,b)) :
  ∃ t i v,ts=#[t,t]∧P.underlying t=some (.slice e)∧P.info? e=some i∧i.zero=some v∧v.cells.size=i.size∧0 < i.size∧zs=v.cells.toList∧b=i.bytes:=by
 unfold appS at h
 split at h
 ·rename_i t u hts
  split at h
  ·rename_i e' htu hu
   have htu:=of_decide_eq_true htu
   subst htu
   split at h
   ·rename_i i hi
    split at h
    ·rename_i v hv
     cases hc:(v.cells.size == i.size) && Nat.blt 0 i.size with
     | false=>rw [hc] at h; cases h
     | true=>
      rw [hc] at h
      simp only [cond_true,Option.some.injEq,Prod.mk.injEq] at h
      obtain ⟨rfl,rfl,rfl⟩:=h
      simp only [Bool.and_eq_true,beq_iff_eq] at hc
      exact ⟨t,i,v,Array.ext' (by simpa using hts),hu,hi,hv,hc.1,Nat.le_of_ble_eq_true hc.2,rfl,rfl⟩
    ·cases h
   ·cases h
  ·cases h
 ·cases h
def bldW (P:Program) (S:St) (t:TypeId) (len:Nat) (idx:List Nat) (rs:List RV) (K:RV→St→Prop):Prop:=
 (∃ vs,toExts rs=some vs∧rowW P (Instr.buildSlice t len (idx.zip vs).toArray) fun elem cells len cap=>K (.sl S.m.length 0 len cap) ⟨S.t,S.m ++ [.cells elem (cells.map .ext)],S.x⟩) ∨
 (∃ e i z,P.underlying t=some (.slice e)∧P.info? e=some i∧i.size=1∧i.zero=some z∧z.cells.size=1∧0 < len∧len≤16777216∧idx=List.range len∧rs.length=len∧rs.all one=true ∧
  K (.sl S.m.length 0 len len) ⟨S.t,S.m ++ [.cells e rs],S.x⟩)
@[congr] theorem bldW_congr {P:Program} {S:St} {t:TypeId} {len:Nat} {idx idx':List Nat} {rs rs':List RV} {K:RV→St→Prop} (h:hold idx=idx') (h2:hold rs=rs'):bldW P S t len idx rs K=bldW P S t len idx' rs' K:=by rw [←h,←h2]; rfl
def opW (P:Program) (q:Bool) (S:St) (o:Oper) (K:RV→St→Prop) (Pn:Value→St→Prop):Prop:=
 match o.op with
 | .move x=>gv S x fun v=>K v S
 | .assign x=>gv S x fun v=>K v S
 | .pick c a b=>getX S c fun c=>gv S a fun a=>gv S b fun b=>pickW c a b fun v=>K v S
 | .nilCheck x=>gv S x fun v=>nilW v (K v S)
 | .binOp op T x y _=>getX S x fun a=>getX S y fun b=>binW P op T x y a b fun v=>K (.ext v) S
 | .unOp op _ x=>getX S x fun a=>pureW P (Op.unary op a) fun v=>K (.ext v) S
 | .convert t u x=>getX S x fun a=>pureW P (Go.convert t u a) fun v=>K (.ext v) S
 | .makeInterface t x=>getX S x fun a=>pureW P (Instr.makeInterface t a) fun v=>K (.ext v) S
 | .typeAssert x t u ok=>getX S x fun a=>pureW P (Instr.typeAssert a t u ok) fun v=>K (.ext v) S
 | .extract x i=>getX S x fun a=>pureW P (Instr.extract a i) fun v=>K (.ext v) S
 | .field t x f=>getX S x fun a=>pureW P (Instr.field t a f) fun v=>K (.ext v) S
 | .index t x i=>getX S x fun a=>getX S i fun b=>pureW P (Instr.index t a b) fun v=>K (.ext v) S
 | .build t parts=>getsX S (parts.toList.map (·.2)) fun vs=>bindV (bldS P t) fun z=>fillW z.2 z.1 (parts.toList.map (·.1)) vs fun cs=>K (.ext (.agg cs.toArray)) S
 | .slice t x lo hi mx=>getX S x fun a=>getsX S lo.toList fun l=>getsX S hi.toList fun h=>getsX S mx.toList fun m=>
   pureW P (Instr.sliceAt t a l[0]? h[0]? m[0]?) fun v=>K (.ext v) S
 | .makeFunc fn first caps=>bindV (getsR S first.toList) fun fs=>bindV (getsR S caps.toList) fun cs=>
   funcW S fn fs cs K
 | .fieldAddr T x f=>gv S x fun v=>bindV (fieldOff P T f) fun n=>faW v n fun v=>K v S
 | .indexAddr T x i=>gv S x fun v=>getX S i fun i=>bindV (elemOff P T) fun z=>idxW v z i fun v=>K v S
 | .load T x=>gv S x fun v=>bindV (tyS P T) fun z=>loadW S z v fun v=>K v S
 | .lookup T m k ok=>gv S m fun m=>getX S k fun k=>mapOb S m fun o=>lookW P T k ok o fun v=>K (.ext v) S
 | .call c=>match c.callee with
  | .builtin b=>bindV (getsR S c.args.toList) fun rs=>lenW P q S c.argTypes b rs K
    (bindV (toExts rs) fun vs=>builtW P (builtin b c.argTypes o.type (c.args.map fun | .const _=>true | _=>false) vs.toArray) fun v=>K (.ext v) S)
  | .value f=>gv S f fun f=>bindV (getsR S c.args.toList) fun vs=>callW P q S (tgt f vs) K Pn
  | .invoke recv name=>getX S recv fun r=>getsX S c.args.toList fun vs=>invokeW P S (invoke (.fn (.method name) #[]) (#[r] ++ vs.toArray)) fun v=>K (.ext v) S
 | .alloc T=>q=false∧bindV (tyZ P T) fun zs=>K (.ptr S.m.length 0) { S with m:=S.m ++ [.cells T (zs.map .ext)] }
 | .box T x=>q=false∧gv S x fun v=>K (.ptr S.m.length 0) { S with m:=S.m ++ [.cells T (flat v)] }
 | .buildSlice t len parts=>q=false∧bindV (getsR S (parts.toList.map (·.2))) fun rs=>bldW P S t len (parts.toList.map (·.1)) rs K
 | .makeSlice t l c=>q=false∧getX S l fun l=>getX S c fun c=>
   rowW P (Instr.makeSlice t l c) fun elem cells len cap=>
    K (.sl S.m.length 0 len cap) { S with m:=S.m ++ [.cells elem (cells.map .ext)] }
 | .store T x y=>q=false∧gv S x fun p=>gv S y fun v=>bindV (tyS P T) fun z=>storeW S z p v fun S=>K (.ext undef) S
 | .makeMap _ none=>q=false∧K (.mp S.m.length) { S with m:=S.m ++ [.obj (.map #[] 0)] }
 | .mapUpdate T m k x=>q=false∧gv S m fun m=>getX S k fun k=>getX S x fun x=>mpW m fun r=>bindV (nthX S.m r) fun o=>objW o fun o=>updW P T k x o fun o'=>K (.ext undef) ⟨S.t,setX S.m r (.obj o'),S.x⟩
 | .insert T m k x=>q=false∧gv S m fun m=>getX S k fun k=>getX S x fun x=>mpW m fun r=>bindV (nthX S.m r) fun o=>objW o fun o=>updW P T k x o fun o'=>K (.ext undef) ⟨S.t,setX S.m r (.obj o'),S.x⟩
 | .panic x=>q=false∧getX S x fun a=>ifaceW a fun t u=>Pn (.iface t u) S
 | _=>False
@[congr] theorem opW_congr {P:Program} {q:Bool} {S S':St} {o:Oper} {K:RV→St→Prop} {Pn:Value→St→Prop} (h:hold S=S'):opW P q S o K Pn=opW P q S' o K Pn:=by rw [←h]; rfl
end R
namespace R
section
variable {P:Program} {o:Oper} {a:Act} {w:WM} {s:Nat→Nat} {S:St}
def qAt (P:Program) (o:Oper) (a:Act) (w:WM) (v:Value):Prop:=
 ((execOp a.eval o).run P w.w=.ok (.value v) w.w∧EvIn w ((execOp a.eval o).events P w.w #[])) ∨
 ∃ g args,((execOp a.eval o).run P w.w=.ok (.enter g args) w.w∧(execOp a.eval o).events P w.w #[]=#[])∧Calls P g args w fun e w'=>e=.returned v∧Fr [] w w'∧NewOk w'
theorem Qan {v:Value} (h:(execOp a.eval o).run P w.w=.ok (.value v) w.w∧EvIn w ((execOp a.eval o).events P w.w #[])):qAt P o a w v:=.inl h
theorem Qfq {m:Sem Value} {v:Value} (h:m.run P w.w=.ok v w.w∧EvIn w (m.events P w.w #[])):(do pure (Next.value (←m)):Sem Next).run P w.w=.ok (.value v) w.w∧EvIn w ((do pure (Next.value (←m)):Sem Next).events P w.w #[]):=by
 refine ⟨by simp [h.1],?_⟩
 rw [Sem.events_bind,h.1]
 exact h.2
theorem Qaz {m:Sem Value} {v:Value} (h:Yields P m v):(do pure (Next.value (←m)):Sem Next).run P w.w=.ok (.value v) w.w∧EvIn w ((do pure (Next.value (←m)):Sem Next).events P w.w #[]):=
 Qfq ⟨(h w.w).1,by rw [(h w.w).2]; exact .nil w⟩
theorem QGm {α:Type} {m:Sem α} {v:α} (h:Yields P m v):m.run P w.w=.ok v w.w∧EvIn w (m.events P w.w #[]):=⟨(h w.w).1,by rw [(h w.w).2]; exact .nil w⟩
theorem Qbk {v:Next}:(Sem.pure v:Sem Next).run P w.w=.ok v w.w∧EvIn w ((Sem.pure v:Sem Next).events P w.w #[]):=⟨rfl,.nil w⟩
theorem Qnh {b off:Nat} {vs:List Value} (h:∀ j v,vs[j]? = some v→w.w.cell? ((⟨b,off,none⟩:Addr).add j)=some v) (ho:w.O b):EvIn w ((loadCells ⟨b,off,none⟩ vs.length).events P w.w #[]):=fun e he=>by
 rcases events_loadCellsFrom_at (P:=P) ⟨b,off,none⟩ (fun g=>g=b) rfl vs.length 0 #[] w.w #[] (fun j hj=>by simpa using isSome_of_list h hj) e he with h1 | ⟨ad,h1,h2,h3⟩
 ·simp at h1
 ·unfold okEv
  rw [h1]
  simp only [h2,Bool.false_eq_true,if_false]
  exact .inr (by rw [h3]; exact ho)
theorem Qng {b off:Nat} {v:Value} (h:w.w.cell? ⟨b,off,none⟩=some v) (ho:w.O b):EvIn w ((load ⟨b,off,none⟩ .plain).events P w.w #[]):=fun e he=>by
 rcases events_load_at w.w ⟨b,off,none⟩ .plain #[] h e he with h1 | ⟨h1,h2⟩
 ·simp at h1
 ·unfold okEv
  rw [h1]
  simp only [h2,Bool.false_eq_true,if_false]
  exact .inr ho
theorem Qps {k off n:Nat} {g:Bool} {T T':TypeId} {c:List RV} {K:RV→Prop} {s0:Nat→Nat} {w0:WM} (hs:Mem s0 S.m S.x w0) (hm:S.m[k]? = some (.cells T' c)) (ht:tyS P T=some (g,n))
  (h:loadR g n off c K):∃ v,clo S.m.length v=true∧K v∧∀ s w,Mem s S.m S.x w→(Instr.loadAt T (.pointer (some ⟨s k,off,none⟩))).run P w.w=.ok (ren s v) w.w∧EvIn w ((Instr.loadAt T (.pointer (some ⟨s k,off,none⟩))).events P w.w #[]):=by
 have hcl:=hs.cm k _ hm
 simp only [cloO,List.all_eq_true] at hcl
 unfold tyS at ht
 split at ht
 ·rename_i d i hd hi
  simp only [Option.some.injEq,Prod.mk.injEq] at ht
  obtain ⟨hg,hn⟩:=ht
  have hagg:∀ w,(isAgg T).run P w=.ok g w:=by
   intro w
   unfold isAgg
   rw [Sem.run_bind,run_underlying hd w]
   subst hg
   cases d <;> rfl
  have hadd:∀ b j,(⟨b,off,none⟩:Addr).add j=⟨b,off+j,none⟩:=fun b j=>by unfold Addr.add; split <;> simp_all
  cases g with
  | true=>
   simp only [loadR] at h
   obtain ⟨us,hvs,h⟩:=Qak h
   refine ⟨_,rfl,h,?_⟩
   intro s w hw
   have hb:=hw.mem k _ hm
   unfold segX at hvs
   rw [Qmy] at hvs
   obtain ⟨hseg,hl⟩:=QsL hvs
   have hcs:∀ j v,us[j]? = some v→w.w.cell? ((⟨s k,off,none⟩:Addr).add j)=some v:=by
    intro j v hj
    rw [hadd,cell_of_row w.w (s k) (off+j) _ T' (0,0) hb]
    have h1:((c.drop off).take n)[j]? = some (.ext v):=by rw [hseg]; simp [hj]
    have hjn:j < n:=by
     have:=(List.getElem?_eq_some_iff.1 hj).1
     omega
    rw [List.getElem?_take_of_lt hjn,List.getElem?_drop] at h1
    simp only [List.getElem?_toArray,List.getElem?_map,h1]
    rfl
   have hl2:(loadCells ⟨s k,off,none⟩ us.length).run P w.w=.ok us.toArray w.w:=run_loadCells_list (P:=P) w.w ⟨s k,off,none⟩ us hcs
   have hO:=Qnh (P:=P) hcs (.inl (hw.mine k (List.getElem?_eq_some_iff.1 hm).1))
   have hsz:(sizeOf T).run P w.w=.ok us.length w.w:=by simp only [sizeOf,typeInfo,Sem.run_bind,Result.andThen_ok,run_program,hi,Sem.run_pure,hn,hl]
   constructor
   ·simp only [Instr.loadAt,Instr.sureAddr,pure_bind,loadVar,Sem.run_bind,hagg,Result.andThen_ok,if_true,hsz,Sem.run_pure,hl2,ren]
   ·simp only [Instr.loadAt,Instr.sureAddr,pure_bind,loadVar,Sem.events_bind,hagg,events_isAgg,Result.evThen_ok,if_true,events_sizeOf,hsz,Sem.events_pure,hl2]
    exact hO
  | false=>
   simp only [loadR] at h
   obtain ⟨v,hv,h⟩:=Qak h
   rw [Qay] at hv
   refine ⟨v,hcl v (List.mem_of_getElem? hv),h,?_⟩
   intro s w hw
   have hb:=hw.mem k _ hm
   have hc:w.w.cell? ⟨s k,off,none⟩=some (ren s v):=by
    rw [cell_of_row w.w (s k) off _ T' (0,0) hb]
    simp [hv]
   have hO:=Qng (P:=P) hc (.inl (hw.mine k (List.getElem?_eq_some_iff.1 hm).1))
   constructor
   ·simp only [Instr.loadAt,Instr.sureAddr,pure_bind,loadVar,Sem.run_bind,hagg,Result.andThen_ok,Bool.false_eq_true,if_false,run_load,hc]
   ·simp only [Instr.loadAt,Instr.sureAddr,pure_bind,loadVar,Sem.events_bind,hagg,events_isAgg,Result.evThen_ok,Bool.false_eq_true,if_false]
    exact hO
 ·cases ht
theorem QAx {b off n:Nat} {g:Bool} {T T':TypeId} {f:Nat×Nat} {c:Array Value} {v:Value} (hx:S.x b (.cells c T' f)) (ht:tyS P T=some (g,n))
  (h:loadX g n off c=some v):∀ w,Mem s S.m S.x w→(Instr.loadAt T (.pointer (some ⟨b,off,none⟩))).run P w.w=.ok v w.w∧EvIn w ((Instr.loadAt T (.pointer (some ⟨b,off,none⟩))).events P w.w #[]):=by
 intro w hw
 have hb:=hw.ext b _ hx
 unfold tyS at ht
 split at ht
 ·rename_i d i hd hi
  simp only [Option.some.injEq,Prod.mk.injEq] at ht
  obtain ⟨hg,hn⟩:=ht
  have hagg:∀ w,(isAgg T).run P w=.ok g w:=by
   intro w
   unfold isAgg
   rw [Sem.run_bind,run_underlying hd w]
   subst hg
   cases d <;> rfl
  have hadd:∀ j,(⟨b,off,none⟩:Addr).add j=⟨b,off+j,none⟩:=fun j=>by unfold Addr.add; split <;> simp_all
  cases g with
  | true=>
   simp only [loadX] at h
   split at h
   ·rename_i hle
    simp only [Option.some.injEq] at h
    subst h
    have hcs:∀ j v,(c.extract off (off+n)).toList[j]? = some v→w.w.cell? ((⟨b,off,none⟩:Addr).add j)=some v:=by
     intro j v hj
     rw [hadd,cell_of_row w.w b (off+j) _ T' f hb]
     have h1:=hj
     simp only [Array.toList_extract,List.extract_eq_take_drop] at h1
     have hjn:j < n:=by have:=(List.getElem?_eq_some_iff.1 h1).1; simp at this; omega
     rw [show off+n - off=n by omega,List.getElem?_take_of_lt hjn,List.getElem?_drop] at h1
     simpa using h1
    have hl2:=run_loadCells_list (P:=P) w.w ⟨b,off,none⟩ _ hcs
    have hO:=Qnh (P:=P) hcs (hw.know b _ hx)
    have hlen:(c.extract off (off+n)).toList.length=n:=by simp; omega
    rw [hlen] at hl2 hO
    have hsz:(sizeOf T).run P w.w=.ok n w.w:=by simp only [sizeOf,typeInfo,Sem.run_bind,Result.andThen_ok,run_program,hi,Sem.run_pure,hn]
    constructor
    ·simp only [Instr.loadAt,Instr.sureAddr,pure_bind,loadVar,Sem.run_bind,hagg,Result.andThen_ok,if_true,hsz,Sem.run_pure,hl2,Array.toArray_toList]
    ·simp only [Instr.loadAt,Instr.sureAddr,pure_bind,loadVar,Sem.events_bind,hagg,events_isAgg,Result.evThen_ok,if_true,events_sizeOf,hsz,Sem.events_pure,hl2]
     exact hO
   ·cases h
  | false=>
   simp only [loadX] at h
   have hc:w.w.cell? ⟨b,off,none⟩=some v:=by
    rw [cell_of_row w.w b off _ T' f hb,h]
   have hO:=Qng (P:=P) hc (hw.know b _ hx)
   constructor
   ·simp only [Instr.loadAt,Instr.sureAddr,pure_bind,loadVar,Sem.run_bind,hagg,Result.andThen_ok,Bool.false_eq_true,if_false,run_load,hc]
   ·simp only [Instr.loadAt,Instr.sureAddr,pure_bind,loadVar,Sem.events_bind,hagg,events_isAgg,Result.evThen_ok,Bool.false_eq_true,if_false]
    exact hO
 ·cases ht
theorem Qgi {T:TypeId} {f d:Nat} {b off:Nat} (h:fieldOff P T f=some d) :
  Yields P (Instr.fieldAt T (.pointer (some ⟨b,off,none⟩)) f) (.pointer (some ⟨b,off+d,none⟩)):=by
 unfold fieldOff at h
 split at h
 ·rename_i fs hu
  split at h
  ·rename_i fld hf
   split at h
   ·rename_i i hi
    split at h
    ·cases h
    ·rename_i hz
     simp only [Option.some.injEq] at h
     subst h
     have hadd:(⟨b,off,none⟩:Addr).add fld.offset=⟨b,off+fld.offset,none⟩:=by unfold Addr.add; split <;> simp_all
     exact fun w=>⟨by simp [Instr.fieldAt,run_underlying hu,hf,Instr.sureAddr,fieldPlace,sizeOf,typeInfo,hi,hz,hadd],by simp [Instr.fieldAt,run_underlying hu,hf,Instr.sureAddr,fieldPlace,sizeOf,typeInfo,hi,hz,hadd]⟩
   ·cases h
  ·cases h
 ·cases h
theorem QgQ {T:TypeId} {z:Nat} {k:IntKind} {j:Int} {b off len cap:Nat} (h:elemOff P T=some (none,z)) (h0:0≤j) (h1:j < (len:Int)) :
  Yields P (Instr.indexAt T (.slice (some ⟨b,off,none⟩) len cap) (.int k j)) (.pointer (some ⟨b,off+j.toNat * z,none⟩)):=by
 unfold elemOff at h
 split at h
 ·rename_i e hu
  split at h
  ·rename_i i hi
   simp only [Option.some.injEq,Prod.mk.injEq,true_and] at h
   subst h
   have hadd:∀ n,(⟨b,off,none⟩:Addr).add n=⟨b,off+n,none⟩:=fun n=>by unfold Addr.add; split <;> simp_all
   exact fun w=>⟨by simp [Instr.indexAt,asIntOf,run_underlying hu,sizeOf,typeInfo,hi,h0,h1,hadd],by simp [Instr.indexAt,asIntOf,run_underlying hu,sizeOf,typeInfo,hi,h0,h1,hadd]⟩
  ·cases h
 ·split at h <;> simp at h
 ·cases h
theorem Qo5 {T:TypeId} {z:Nat} {k:IntKind} {j:Int} {b off len:Nat} (h:elemOff P T=some (some len,z)) (h0:0≤j) (h1:j < (len:Int)) :
  Yields P (Instr.indexAt T (.pointer (some ⟨b,off,none⟩)) (.int k j)) (.pointer (some ⟨b,off+j.toNat * z,none⟩)):=by
 unfold elemOff at h
 split at h
 ·split at h <;> simp at h
 ·rename_i n e hu
  split at h
  ·rename_i i hi
   simp only [Option.some.injEq,Prod.mk.injEq] at h
   obtain ⟨rfl,rfl⟩:=h
   have hadd:∀ n,(⟨b,off,none⟩:Addr).add n=⟨b,off+n,none⟩:=fun n=>by unfold Addr.add; split <;> simp_all
   exact fun w=>⟨by simp [Instr.indexAt,asIntOf,run_underlying hu,Instr.sureAddr,sizeOf,typeInfo,hi,h0,h1,hadd],by simp [Instr.indexAt,asIntOf,run_underlying hu,Instr.sureAddr,sizeOf,typeInfo,hi,h0,h1,hadd]⟩
  ·cases h
 ·cases h
theorem Qhr (parts:Array (Nat×Operand)) (f:Operand→Value):(parts.map fun (i,x)=>(i,f x))=((parts.toList.map (·.1)).zip ((parts.toList.map (·.2)).map f)).toArray:=by
 apply Array.ext'
 simp only [Array.toList_map]
 generalize parts.toList=l
 induction l with
 | nil=>rfl
 | cons x l ih=>simp [ih]
theorem QjT {f:RV} {vs:List RV} {g:FuncId} {asq:List RV} (h:tgt f vs=some (g,asq)) (s:Nat→Nat) :
  (do let d ←Deferred.ofValue (ren s f) (vs.map (ren s)).toArray; invoke d.target d.args:Sem Next)=callFunc g (asq.map (ren s)).toArray:=by
 unfold tgt at h
 split at h
 ·simp only [Option.some.injEq,Prod.mk.injEq] at h
  obtain ⟨rfl,rfl⟩:=h
  simp only [ren,Deferred.ofValue,pure_bind,invoke]
  congr 1
  apply Array.ext'
  simp [Function.comp_def,ren]
 ·simp only [Option.some.injEq,Prod.mk.injEq] at h
  obtain ⟨rfl,rfl⟩:=h
  simp only [ren,Deferred.ofValue,pure_bind,invoke]
  congr 1
  apply Array.ext'
  simp [ren,Function.comp_def]
 ·cases h
theorem Qhd {c:Call} {f:Operand} {t:TypeId} (hc:c.callee=.value f):resolve a.eval c t=Deferred.ofValue (a.eval f) (c.args.map a.eval):=by
 simp [resolve,hc]
theorem QrD {g:FuncId} {args:Array Value} {v:Value} {m:Sem Next} (hm:execOp a.eval o=m) (h:m.run P w.w=.ok (.enter g args) w.w∧m.events P w.w #[]=#[])
  (hc:Calls P g args w fun e w'=>e=.returned v∧Fr [] w w'∧NewOk w'):qAt P o a w v:=.inr ⟨g,args,by rw [hm]; exact h,hc⟩
theorem Qrr {g:FuncId} {es:List Value} {v:Value} (h:PureC P S.x g es v) (hm:Mem s S.m S.x w):Calls P g es.toArray w fun e w'=>e=.returned v∧Fr [] w w'∧NewOk w':=
 h.out w (fun b o hb=>⟨hm.ext b o hb,hm.know b o hb⟩) hm.wf
theorem QxJ {es:Array Event} (h:∀ e∈es,∃ f,e.loc=.mark (.extern f)):EvIn w es:=fun e he=>by
 obtain ⟨f,hf⟩:=h e he
 unfold okEv
 rw [hf]
 trivial
theorem lookE {m:Sem Value} {v:Value} {r:Nat} (h:m.run P w.w=.ok v w.w∧∀ e∈m.events P w.w #[],e.loc=.obj r∧e.sync=false∧e.write=false) (ho:w.O r):m.run P w.w=.ok v w.w∧EvIn w (m.events P w.w #[]):=
 ⟨h.1,fun e he=>by
  obtain ⟨h1,h2,h3⟩:=h.2 e he
  unfold okEv
  rw [h1]
  refine ⟨.inl h2,.inr ?_⟩
  simp only [h3,Bool.false_eq_true,if_false]
  exact ho⟩
theorem Qg1 {q:Bool} {K:RV→St→Prop} {Pn:Value→St→Prop} (h:opW P q S o K Pn):∀ c,o.op≠.defer c:=fun c hc=>by
 unfold opW at h
 rw [hc] at h
 exact h
set_option maxHeartbeats 1000000 in
theorem Qjf {K:RV→St→Prop} {Pn:Value→St→Prop} {s0:Nat→Nat} {a0:Act} {w0:WM} (hS:Sl s0 S a0) (hM:Mem s0 S.m S.x w0) (h:opW P true S o K Pn) :
  ∃ v,clo S.m.length v=true∧K v S∧∀ (s:Nat→Nat) (a:Act) (w:WM),Sl s S a→Mem s S.m S.x w→qAt P o a w (ren s v):=by
 have pw:∀ {m:Sem Value} {K':Value→Prop},pureW P m K'→∃ v,Yields P m v∧K' v:=fun h=>h
 unfold opW at h
 split at h
 case h_1 x ho=>
  obtain ⟨v,h1,h2⟩:=QaL h
  exact ⟨v,(hS.eval h1).2,h2,fun s a w hs hm=>Qan (by simp only [execOp,ho,(hs.eval h1).1]; exact Qbk)⟩
 case h_2 x ho=>
  obtain ⟨v,h1,h2⟩:=QaL h
  exact ⟨v,(hS.eval h1).2,h2,fun s a w hs hm=>Qan (by simp only [execOp,ho,(hs.eval h1).1]; exact Qbk)⟩
 case h_3 c x y ho=>
  obtain ⟨u,h1,h⟩:=Qat h
  obtain ⟨v,h2,h⟩:=QaL h
  obtain ⟨v',h3,h⟩:=QaL h
  unfold pickW at h
  cases u with
  | bool t=>
   refine ⟨_,?_,QcU h,fun s a w hs hm=>Qan ?_⟩
   ·cases t
    ·exact (hS.eval h3).2
    ·exact (hS.eval h2).2
   ·have e1:=(hs.eval h1).1
    have e2:=(hs.eval h2).1
    have e3:=(hs.eval h3).1
    simp only [ren] at e1
    simp only [execOp,ho,e1,asBool,pure_bind,e2,e3]
    cases t <;> exact Qbk
  | _=>exact h.elim
 case h_4 x ho=>
  obtain ⟨v,h1,h⟩:=QaL h
  unfold nilW at h
  split at h
  ·rename_i u
   obtain ⟨h2,h⟩:=h
   refine ⟨_,rfl,h,fun s a w hs hm=>Qan ?_⟩
   have e1:=(hs.eval h1).1
   simp only [ren] at e1
   simp only [execOp,ho,e1,ren]
   unfold nilOK at h2
   split at h2 <;> first | exact Qbk | (cases h2; done)
  ·refine ⟨_,(hS.eval h1).2,h,fun s a w hs hm=>Qan ?_⟩
   have e1:=(hs.eval h1).1
   simp only [ren] at e1
   simp only [execOp,ho,e1,ren]; exact Qbk
  ·refine ⟨_,(hS.eval h1).2,h,fun s a w hs hm=>Qan ?_⟩
   have e1:=(hs.eval h1).1
   simp only [ren] at e1
   simp only [execOp,ho,e1,ren]; exact Qbk
  ·refine ⟨_,(hS.eval h1).2,h,fun s a w hs hm=>Qan ?_⟩
   have e1:=(hs.eval h1).1
   simp only [ren] at e1
   simp only [execOp,ho,e1,ren]; exact Qbk
  ·exact h.elim
 case h_5 op T x y _ ho=>
  obtain ⟨u,h1,h⟩:=Qat h
  obtain ⟨v,h2,h⟩:=Qat h
  obtain ⟨r,h3,h4⟩:=QkH h
  refine ⟨_,rfl,h4,fun s a w hs hm=>Qan ?_⟩
  have e1:=(hs.eval h1).1
  have e2:=(hs.eval h2).1
  simp only [ren] at e1 e2
  simp only [execOp,ho,e1,e2,ren]
  exact Qaz h3
 case h_6 op _ x ho=>
  obtain ⟨u,h1,h⟩:=Qat h
  obtain ⟨r,h3,h4⟩:=pw h
  refine ⟨_,rfl,h4,fun s a w hs hm=>Qan ?_⟩
  have e1:=(hs.eval h1).1
  simp only [ren] at e1
  simp only [execOp,ho,e1,ren]
  exact Qaz h3
 case h_7 t u x ho=>
  obtain ⟨u,h1,h⟩:=Qat h
  obtain ⟨r,h3,h4⟩:=pw h
  refine ⟨_,rfl,h4,fun s a w hs hm=>Qan ?_⟩
  have e1:=(hs.eval h1).1
  simp only [ren] at e1
  simp only [execOp,ho,e1,ren]
  exact Qaz h3
 case h_8 t x ho=>
  obtain ⟨u,h1,h⟩:=Qat h
  obtain ⟨r,h3,h4⟩:=pw h
  refine ⟨_,rfl,h4,fun s a w hs hm=>Qan ?_⟩
  have e1:=(hs.eval h1).1
  simp only [ren] at e1
  simp only [execOp,ho,e1,ren]
  exact Qaz h3
 case h_9 x t u ok ho=>
  obtain ⟨u,h1,h⟩:=Qat h
  obtain ⟨r,h3,h4⟩:=pw h
  refine ⟨_,rfl,h4,fun s a w hs hm=>Qan ?_⟩
  have e1:=(hs.eval h1).1
  simp only [ren] at e1
  simp only [execOp,ho,e1,ren]
  exact Qaz h3
 case h_10 x i ho=>
  obtain ⟨u,h1,h⟩:=Qat h
  obtain ⟨r,h3,h4⟩:=pw h
  refine ⟨_,rfl,h4,fun s a w hs hm=>Qan ?_⟩
  have e1:=(hs.eval h1).1
  simp only [ren] at e1
  simp only [execOp,ho,e1,ren]
  exact Qaz h3
 case h_11 t x f ho=>
  obtain ⟨u,h1,h⟩:=Qat h
  obtain ⟨r,h3,h4⟩:=pw h
  refine ⟨_,rfl,h4,fun s a w hs hm=>Qan ?_⟩
  have e1:=(hs.eval h1).1
  simp only [ren] at e1
  simp only [execOp,ho,e1,ren]
  exact Qaz h3
 case h_12 t x i ho=>
  obtain ⟨u,h1,h⟩:=Qat h
  obtain ⟨v,h2,h⟩:=Qat h
  obtain ⟨r,h3,h4⟩:=pw h
  refine ⟨_,rfl,h4,fun s a w hs hm=>Qan ?_⟩
  have e1:=(hs.eval h1).1
  have e2:=(hs.eval h2).1
  simp only [ren] at e1 e2
  simp only [execOp,ho,e1,e2,ren]
  exact Qaz h3
 case h_13 t parts ho=>
  obtain ⟨vs,h1,h⟩:=Qco h
  obtain ⟨z,hz,h⟩:=Qak h
  obtain ⟨cs,h3,h4⟩:=QkV hz h
  refine ⟨_,rfl,h4,fun s a w hs hm=>Qan ?_⟩
  have e1:=hs.evals h1
  simp only [execOp,ho,ren,Qhr parts a.eval,e1]
  exact Qaz h3
 case h_14 t x lo hi mx ho=>
  obtain ⟨u,h1,h⟩:=Qat h
  obtain ⟨l,g1,h⟩:=Qco h
  obtain ⟨hh,g2,h⟩:=Qco h
  obtain ⟨m,g3,h⟩:=Qco h
  obtain ⟨r,h3,h4⟩:=pw h
  refine ⟨_,rfl,h4,fun s a w hs hm=>Qan ?_⟩
  have e1:=(hs.eval h1).1
  simp only [ren] at e1
  have k1:=hs.evals g1
  have k2:=hs.evals g2
  have k3:=hs.evals g3
  have toL:∀ (x:Option Operand) (l:List Value),x.toList.map a.eval=l→x.map a.eval=l[0]?:=by
   intro x l hl
   subst hl
   cases x <;> rfl
  simp only [execOp,ho,e1,ren,toL _ _ k1,toL _ _ k2,toL _ _ k3]
  exact Qaz h3
 case h_15 fn first caps ho=>
  obtain ⟨fs,hfs,h⟩:=Qak h
  obtain ⟨cs,hcs,h⟩:=Qak h
  unfold funcW at h
  have plain:(bindV (toExts fs) fun fs=>bindV (toExts cs) fun cs=>K (.ext (.func fn fs.toArray cs.toArray)) S)→∃ v,clo S.m.length v=true∧K v S∧∀ (s:Nat→Nat) (a:Act) (w:WM),Sl s S a→Mem s S.m S.x w→qAt P o a w (ren s v):=by
   intro h
   obtain ⟨fs',hfs',h⟩:=Qak h
   obtain ⟨cs',hcs',h⟩:=Qak h
   rw [Qa9 hfs'] at hfs
   rw [Qa9 hcs'] at hcs
   refine ⟨_,rfl,h,fun s a w hs hm=>Qan ?_⟩
   have k1:=hs.evals hfs
   have k2:=hs.evals hcs
   have m1:first.map a.eval=fs'.toArray:=by apply Array.ext'; simpa using k1
   have m2:caps.map a.eval=cs'.toArray:=by apply Array.ext'; simpa using k2
   simp only [execOp,ho,ren,m1,m2,Instr.makeFunc,pure_bind]; exact Qbk
  cases hps:ptrs cs with
  | none=>cases fs <;> simp only [hps] at h <;> exact plain h
  | some ps=>
   cases ps with
   | nil=>cases fs <;> simp only [hps] at h <;> exact plain h
   | cons c l=>
    cases fs with
    | cons f fs=>simp only at h; exact plain h
    | nil=>
     cases fn with
     | func g=>
      simp only [hps] at h
      refine ⟨_,?_,h,fun s a w hs hm=>Qan ?_⟩
      ·have hc2:=(QbF hS hcs).2
       rw [Qjo hps] at hc2
       simp only [clo,List.all_eq_true,decide_eq_true_eq]
       intro c' hc'
       have:=hc2 (RV.ptr c'.1 c'.2) (List.mem_map.2 ⟨c',hc',rfl⟩)
       simpa [clo] using this
      ·have k1:=(QbF hs hfs).1
       have k2:=(QbF hs hcs).1
       rw [Qjo hps] at k2
       have m1:first.map a.eval=#[]:=by apply Array.ext'; simpa using k1
       have m2:caps.map a.eval=((c :: l).map fun c=>Value.pointer (some ⟨s c.1,c.2,none⟩)).toArray:=by
        apply Array.ext'
        simpa [ren,Function.comp_def] using k2
       simp only [execOp,ho,ren,m1,m2,Instr.makeFunc,pure_bind]; exact Qbk
     | _=>simp only [hps] at h; exact plain h
 case h_16 T x f ho=>
  obtain ⟨v,h1,h⟩:=QaL h
  obtain ⟨d,hd,h⟩:=Qak h
  unfold faW at h
  cases v with
  | ptr k off=>
   refine ⟨RV.ptr k (off+d),(hS.eval h1).2,h,fun s a w hs hm=>Qan ?_⟩
   have e1:=(hs.eval h1).1
   simp only [ren] at e1
   simp only [execOp,ho,e1,ren]
   exact Qaz (Qgi hd)
  | ext u=>
   obtain ⟨p,hp,h⟩:=Qak h
   refine ⟨_,rfl,h,fun s a w hs hm=>Qan ?_⟩
   have e1:=(hs.eval h1).1
   simp only [ren,Qjn hp] at e1
   simp only [execOp,ho,e1,ren]
   exact Qaz (Qgi hd)
  | _=>exact h.elim
 case h_17 T x i ho=>
  obtain ⟨v,h1,h⟩:=QaL h
  obtain ⟨i',h2,h⟩:=Qat h
  obtain ⟨z,hel,h⟩:=Qak h
  unfold idxW at h
  cases i' with
  | int ki j=>
   simp only at h
   obtain ⟨al,z⟩:=z
   cases v with
   | sl kk off len cap=>
    cases al with
    | some _=>exact h.elim
    | none=>
     obtain ⟨⟨g0,g1⟩,h⟩:=h
     refine ⟨RV.ptr kk (off+j.toNat * z),(hS.eval h1).2,h,fun s a w hs hm=>Qan ?_⟩
     have e1:=(hs.eval h1).1
     have e2:=(hs.eval h2).1
     simp only [ren] at e1 e2
     simp only [execOp,ho,e1,e2,ren]
     exact Qaz (QgQ hel g0 g1)
   | ptr kk off=>
    cases al with
    | none=>exact h.elim
    | some len=>
     obtain ⟨⟨g0,g1⟩,h⟩:=h
     refine ⟨RV.ptr kk (off+j.toNat * z),(hS.eval h1).2,h,fun s a w hs hm=>Qan ?_⟩
     have e1:=(hs.eval h1).1
     have e2:=(hs.eval h2).1
     simp only [ren] at e1 e2
     simp only [execOp,ho,e1,e2,ren]
     exact Qaz (Qo5 hel g0 g1)
   | ext u=>
    cases al with
    | some _=>exact h.elim
    | none=>
     obtain ⟨p,hp,h⟩:=Qak h
     obtain ⟨⟨g0,g1⟩,h⟩:=h
     refine ⟨_,rfl,h,fun s a w hs hm=>Qan ?_⟩
     have e1:=(hs.eval h1).1
     have e2:=(hs.eval h2).1
     simp only [ren,QsD hp] at e1 e2
     simp only [execOp,ho,e1,e2,ren]
     exact Qaz (QgQ hel g0 g1)
   | _=>exact h.elim
  | _=>exact h.elim
 case h_18 T x ho=>
  obtain ⟨v,h1,h⟩:=QaL h
  obtain ⟨z,hty,h⟩:=Qak h
  obtain ⟨g,n⟩:=z
  unfold loadW at h
  cases v with
  | ptr k off=>
   simp only at h
   obtain ⟨ob,hmk,h⟩:=Qak h
   rw [Qay] at hmk
   unfold cellW at h
   cases ob with
   | cells T' c=>
    obtain ⟨v,hv1,hv2,hv3⟩:=Qps hM hmk hty h
    refine ⟨v,hv1,hv2,fun s a w hs hm=>Qan ?_⟩
    have e1:=(hs.eval h1).1
    simp only [ren] at e1
    simp only [execOp,ho,e1]
    exact Qfq (hv3 s w hm)
   | obj _=>exact h.elim
  | ext u=>
   obtain ⟨p,hp,c,T',f,v,hx,hl,h⟩:=Qak h
   refine ⟨_,rfl,h,fun s a w hs hm=>Qan ?_⟩
   have e1:=(hs.eval h1).1
   simp only [ren,Qjn hp] at e1
   simp only [execOp,ho,e1,ren]
   exact Qfq (QAx hx hty hl w hm)
  | _=>exact h.elim
 case h_19 T m k ok ho=>
  obtain ⟨v,h1,h⟩:=QaL h
  obtain ⟨k',h2,h⟩:=Qat h
  unfold mapOb at h
  split at h
  ·rename_i r _
   obtain ⟨ob,hmk,h⟩:=Qak h
   rw [Qay] at hmk
   unfold objW at h
   cases ob with
   | obj ob=>
    obtain ⟨v,hv,h⟩:=h
    refine ⟨_,rfl,h,fun s a w hs hm=>Qan ?_⟩
    have e1:=(hs.eval h1).1
    have e2:=(hs.eval h2).1
    simp only [ren] at e1 e2
    simp only [execOp,ho,e1,e2,ren]
    exact Qfq (lookE (hv (s r) w.w (hm.mem r _ hmk)) (.inl (hm.mine r (List.getElem?_eq_some_iff.1 hmk).1)))
   | cells _ _=>exact h.elim
  ·rename_i b _
   obtain ⟨ob,hx,v,hv,h⟩:=h
   refine ⟨_,rfl,h,fun s a w hs hm=>Qan ?_⟩
   have e1:=(hs.eval h1).1
   have e2:=(hs.eval h2).1
   simp only [ren] at e1 e2
   simp only [execOp,ho,e1,e2,ren]
   exact Qfq (lookE (hv b w.w (hm.ext b _ hx)) (hm.know b _ hx))
  ·exact h.elim
 case h_20 c ho=>
  split at h
  ·rename_i b hc
   obtain ⟨rs,hrs,h⟩:=Qak h
   have plain:(bindV (toExts rs) fun vs=>builtW P (builtin b c.argTypes o.type (c.args.map fun | .const _=>true | _=>false) vs.toArray) fun v=>K (.ext v) S)→∃ v,clo S.m.length v=true∧K v S∧∀ (s:Nat→Nat) (a:Act) (w:WM),Sl s S a→Mem s S.m S.x w→qAt P o a w (ren s v):=by
    intro h
    obtain ⟨vs,hvs,h⟩:=Qak h
    obtain ⟨v,hv,h⟩:=h
    rw [Qa9 hvs] at hrs
    refine ⟨_,rfl,h,fun s a w hs hm=>Qan ?_⟩
    have k1:=hs.evals hrs
    have m1:c.args.map a.eval=vs.toArray:=by apply Array.ext'; simpa using k1
    simp only [execOp,ho,resolve,hc,pure_bind,invoke,m1,ren]
    exact QGm hv
   unfold lenW at h
   split at h
   ·rename_i k off l cap _
    obtain ⟨z,hz,h⟩:=Qak h
    cases hz1:z.1 with
    | some _=>simp only [hz1] at h
    | none=>
     simp only [hz1] at h
     refine ⟨_,rfl,h,fun s a w hs hm=>Qan ?_⟩
     have k1:=(QbF hs hrs).1
     have m1:c.args.map a.eval=#[.slice (some ⟨s k,off,none⟩) l cap]:=by apply Array.ext'; simpa [ren] using k1
     cases hq:c.argTypes[0]? with
     | none=>simp [hq] at hz
     | some t=>
      simp only [hq,Option.bind_some] at hz
      unfold elemOff at hz
      split at hz
      ·rename_i e hu'
       have:Yields P (Builtin.len_ c.argTypes o.type #[.slice (some ⟨s k,off,none⟩) l cap]) (.int .i64 l):=fun w=>
        ⟨by simp [Builtin.len_,hq,run_underlying hu',goInt],by simp [Builtin.len_,hq,run_underlying hu',goInt]⟩
       simp only [execOp,ho,resolve,hc,pure_bind,invoke,m1,ren,builtin]
       exact Qaz this
      ·split at hz <;> simp at hz
       subst hz; cases hz1
      ·cases hz
   ·exact absurd h.1 (by decide)
   ·exact h.elim
   ·exact absurd h.1 (by decide)
   ·exact h.elim
   ·exact plain h
  ·rename_i f hc
   obtain ⟨fv,h1,h⟩:=QaL h
   obtain ⟨vs,hvs,h⟩:=Qak h
   unfold callW at h
   split at h
   ·exact h.elim
   ·rename_i g asq htg
    rcases h with ⟨hg,⟨es,v,hes,hp,hk⟩ | ⟨hq,_⟩⟩ | ⟨es,v,hes,hp,hk⟩
    ·refine ⟨_,rfl,hk,fun s a w hs hm=>?_⟩
     have e1:=(hs.eval h1).1
     have e2:=(QbF hs hvs).1
     have m1:c.args.map a.eval=(vs.map (ren s)).toArray:=by apply Array.ext'; simpa using e2
     refine QrD (m:=callFunc g (asq.map (ren s)).toArray) ?_ (hg _ w.w) ?_
     ·simp only [execOp,ho,Qhd hc,m1,e1]
      exact QjT htg s
     ·rw [Qa9 hes,Qax]
      exact Qrr hp hm
    ·cases hq
    ·refine ⟨_,rfl,hk,fun s a w hs hm=>Qan ?_⟩
     have e1:=(hs.eval h1).1
     have e2:=(QbF hs hvs).1
     have m1:c.args.map a.eval=(vs.map (ren s)).toArray:=by apply Array.ext'; simpa using e2
     have hx:execOp a.eval o=callFunc g (asq.map (ren s)).toArray:=by
      simp only [execOp,ho,Qhd hc,m1,e1]
      exact QjT htg s
     rw [hx,Qa9 hes,Qax]
     exact ⟨(hp w.w).1,QxJ (hp w.w).2⟩
  ·rename_i recv name hc
   obtain ⟨r,h1,h⟩:=Qat h
   obtain ⟨vs,h2,h⟩:=Qco h
   obtain ⟨g,es,v,hg,hp,hk⟩:=h
   refine ⟨_,rfl,hk,fun s a w hs hm=>?_⟩
   have e1:=(hs.eval h1).1
   simp only [ren] at e1
   have k1:=hs.evals h2
   have m1:c.args.map a.eval=vs.toArray:=by apply Array.ext'; simpa using k1
   refine QrD (m:=invoke (.fn (.method name) #[]) (#[r] ++ vs.toArray)) ?_ (hg w.w) ?_
   ·simp only [execOp,ho,resolve,hc,m1,e1,pure_bind]
   ·simpa [ren] using Qrr hp hm
 all_goals first | (obtain ⟨hq,_⟩:=h; cases hq; done) | exact h.elim
end
end R
namespace R
section
variable {P:Program} {o:Oper} {a:Act} {w w0:WM} {s:Nat→Nat} {S:St} {bs:List Nat} {n:Nat} {ds:List Deferred}
theorem Rep.sl (h:Rep bs w0 n ds s S a w):Sl s S a:=h.slot
theorem Qe6 (s:Nat→Nat) (v:RV):(flat v).map (ren s)=(ren s v).cells.toList:=by
 cases v with
 | ext v=>simp [flat,ren,Function.comp_def]
 | _=>simp [flat,ren,Value.cells]
theorem QnE {m:Nat} {v:RV} (h:clo m v=true):∀ u∈flat v,clo m u=true:=by
 cases v with
 | ext v=>intro u hu; simp only [flat,List.mem_map] at hu; obtain ⟨_,_,rfl⟩:=hu; rfl
 | _=>intro u hu; simp only [flat,List.mem_singleton] at hu; subst hu; exact h
theorem Qje (s:Nat→Nat) {v:RV} (h:one v=true):(ren s v).oneCell'=true:=by
 cases v with
 | ext v=>exact h
 | _=>rfl
theorem Rep.pure (h:Rep bs w0 n ds s S a w) {v:RV} (hd:∀ i,o.dst=some i→i < n) (hv:clo S.m.length v=true):Rep bs w0 n ds s (S.put o.dst v) (a.put o.dst (ren s v)) w:=h.put hd hv
theorem Rep.call (h:Rep bs w0 n ds s S a w) {S':St} {w':WM} (ht:S'.t=S.t) (hl:S'.m.length=S.m.length) (hm:Mem s S'.m S'.x w')
  (hf:Fr ((List.range S.m.length).map s) w w'):Rep bs w0 n ds s S' a w':=by
 refine ⟨hm,?_,?_,h.size,?_,h.df⟩
 ·rw [hl]; exact h.own
 ·refine ⟨hf.os.trans h.fr.os,hf.tape.trans h.fr.tape,hf.output.trans h.fr.output,hf.gh.trans h.fr.gh,hf.X.trans h.fr.X,fun b hb=>hf.M b (h.fr.M b hb),
   fun b hb=>(hf.new b hb).elim (fun h1=>h.fr.new b h1) (fun h1=>.inr (Nat.le_trans h.fr.size h1)),Nat.le_trans h.fr.size hf.size,fun k ho hk hn=>?_⟩
  rw [hf.block k (h.fr.O ho) (Nat.lt_of_lt_of_le hk h.fr.size) ?_]
  ·exact h.fr.block k ho hk hn
  ·intro hin
   obtain ⟨j,hj,rfl⟩:=List.mem_map.1 hin
   rcases h.own.mem (k:=j) (by simpa using hj) with h1 | h1
   ·exact hn h1
   ·omega
 ·intro i v hi
  rw [ht] at hi
  obtain ⟨h1,h2⟩:=h.slot i v hi
  exact ⟨h1,by rw [hl]; exact h2⟩
theorem Qc5 {next:Act→WM→Prop} {Q:Exit→Act→WM→Prop} {m:Sem Value} {v:Value} {w':World} (hx:execOp a.eval o=(do pure (Next.value (←m)):Sem Next)) (h:m.run P w.w=.ok v w') (hg:Guar w w' (m.events P w.w #[]))
  (hn:next (a.put o.dst v) (w.to w')):upon P o a w next Q ((execOp a.eval o).events P w.w #[]) ((execOp a.eval o).run P w.w):=by
 have h1:(do pure (Next.value (←m)):Sem Next).run P w.w=.ok (.value v) w':=by simp [h]
 have h2:(do pure (Next.value (←m)):Sem Next).events P w.w #[]=m.events P w.w #[]:=by rw [Sem.events_bind,h]; rfl
 rw [hx,h1,h2]
 exact ⟨hg,hn⟩
theorem Qj3 {next:Act→WM→Prop} {Q:Exit→Act→WM→Prop} {m:Sem Unit} {w':World} (hx:execOp a.eval o=(do m; pure Next.skip:Sem Next)) (h:m.run P w.w=.ok () w') (hg:Guar w w' (m.events P w.w #[]))
  (hn:next (a.put o.dst undef) (w.to w')):upon P o a w next Q ((execOp a.eval o).events P w.w #[]) ((execOp a.eval o).run P w.w):=by
 have h1:(do m; pure Next.skip:Sem Next).run P w.w=.ok .skip w':=by simp [h]
 have h2:(do m; pure Next.skip:Sem Next).events P w.w #[]=m.events P w.w #[]:=by rw [Sem.events_bind,h]; rfl
 rw [hx,h1,h2]
 exact ⟨hg,hn⟩
theorem QgN {o:Obj} {es:Array Event} (h:es=#[]):Guar w (w.w.alloc o) es:=by rw [h]; exact QiQ w o
theorem QoH {o:Obj} {es:Array Event} (h:∀ e∈es,e.loc=.mark .noRoom):Guar w (w.w.alloc o) es:=⟨rfl,rfl,rfl,by simp,fun b hb _=>Below.heap_alloc _ _ _ hb,fun e he=>by unfold okEv; rw [h e he]; trivial⟩
theorem QiR {o:Obj} {es:Array Event} (h:EvIn w es):Guar w (w.w.drew.alloc o) es:=⟨rfl,rfl,rfl,by simp,fun b hb _=>Below.heap_alloc _ _ _ hb,h⟩
theorem Qs6 {next:Act→WM→Prop} {Q:Exit→Act→WM→Prop} {v:Value} (hn:NewOk w) (hq:qAt P o a w v) (hk:∀ w',Fr [] w w'→NewOk w'→next (a.put o.dst v) w') :
  upon P o a w next Q ((execOp a.eval o).events P w.w #[]) ((execOp a.eval o).run P w.w):=by
 rcases hq with ⟨h1,h2⟩ | ⟨g,args,⟨h1,h2⟩,h3⟩
 ·rw [h1]
  exact ⟨.refl h2,by rw [WM.to_self]; exact hk w (Fr.refl _ _) hn⟩
 ·rw [h1,h2]
  refine ⟨.none w,?_⟩
  rw [WM.to_self]
  refine h3.mono ?_
  rintro e w' ⟨rfl,h4,h5⟩
  exact hk w' h4 h5
theorem QeJ {o':Obj} {b:Nat} {w:World} (hb:b < w.heap.size) (j:Nat):(w.heap.setIfInBounds b o')[j]? = if j=b then some o' else w.heap[j]?:=by
 rw [Array.getElem?_setIfInBounds]
 by_cases h:b=j
 ·subst h; simp [hb]
 ·rw [if_neg h,if_neg (fun e=>h e.symm)]
theorem QBH (s:Nat→Nat) {v:RV} (h:one v=true):(ren s v).cells=#[ren s v]:=by
 cases v with
 | ext u=>cases u <;> first | rfl | (exact absurd h (by simp [one,Value.oneCell']))
 | _=>rfl
theorem QGn {α:Type} (l:List α):(List.range l.length).zip l=(l.zipIdx 0).map fun x=>(x.2,x.1):=by
 exact List.ext_getElem (by simp) fun i h1 h2=>by simp
theorem QAq {q:Bool} {ts:Array TypeId} {b:Builtin} {rs:List RV} {K:RV→St→Prop} {A:Prop} (hb:b≠.append) (hb2:b≠.copy) (h:lenW P q S ts b rs K A):lenW P true S ts b rs K A:=by
 unfold lenW at h ⊢
 split at h
 ·exact h
 ·exact absurd rfl hb
 ·exact absurd rfl hb
 ·exact absurd rfl hb2
 ·exact absurd rfl hb2
 ·exact h
theorem Qjb (hm:Mem s S.m S.x w) {z:Nat} {y:RV} {K:Nat→List RV→Prop} (h:newsW S z y K) :
  ∃ ad m cap news,ren s y=.slice (some ad) m cap∧news.length=m * z∧(∀ j u,(news.map (ren s))[j]? = some u→w.w.cell? (ad.add j)=some u∧w.O ad.block)∧(∀ u∈news.map (ren s),u.oneCell'=true)∧news.all (clo S.m.length)=true∧K m news:=by
 unfold newsW at h
 split at h
 ·rename_i j off m cap
  obtain ⟨T,c,hj,hl,h1,h⟩:=h
  have hb:=hm.mem j _ hj
  have hc:=hm.cm j _ hj
  simp only [renO] at hb
  simp only [cloO,List.all_eq_true] at hc
  refine ⟨⟨s j,off,none⟩,m,cap,_,rfl,by simp; omega,?_,?_,?_,h⟩
  ·intro i u hu
   refine ⟨?_,.inl (hm.mine j (List.getElem?_eq_some_iff.1 hj).1)⟩
   rw [Addr.add_lit,cell_of_row w.w _ _ _ _ _ hb]
   rw [List.getElem?_map,List.getElem?_take] at hu
   split at hu
   ·rw [List.getElem?_drop] at hu
    simpa using hu
   ·simp at hu
  ·intro u hu
   obtain ⟨v,hv,rfl⟩:=List.mem_map.1 hu
   exact Qje s (List.all_eq_true.1 h1 v hv)
  ·exact List.all_eq_true.2 fun v hv=>hc v (List.mem_of_mem_drop (List.mem_of_mem_take hv))
 ·rename_i b off m cap
  obtain ⟨l,hl,h1,h⟩:=h
  refine ⟨⟨b,off,none⟩,m,cap,_,rfl,by simpa using hl,?_,?_,by simp [clo],h⟩
  ·intro i u hu
   rw [Qax] at hu
   obtain ⟨_,c,T,f,hx,hc⟩:=h1 i u hu
   refine ⟨?_,hm.know b _ hx⟩
   rw [Addr.add_lit,cell_of_row w.w _ _ _ _ _ (hm.ext b _ hx)]
   exact hc
  ·intro u hu
   rw [Qax] at hu
   obtain ⟨i,hi⟩:=List.getElem?_of_mem hu
   exact (h1 i u hi).1
 ·exact h.elim
theorem Qdh (a:Addr) (l c m size:Nat) (v:World) (es:Array Event) (h:∀ j,j < m * size→(v.cell? (a.add j)).isSome) :
  ∀ ev∈(Builtin.firstCells size m (.slice (some a) l c)).events P v es,ev∈es∨(0 < m * size∧ev.readsIn (· = a.block)):=by
 intro ev he
 by_cases h0:m * size=0
 ·left
  simpa [Builtin.firstCells,loadCells,h0,loadCellsFrom] using he
 ·rcases events_firstCells_in (P:=P) (· = a.block) size m (.slice (some a) l c) v es (fun a' l' c' e=>by cases e; exact ⟨rfl,h⟩) ev he with h1 | h1
  ·exact .inl h1
  ·exact .inr ⟨Nat.pos_of_ne_zero h0,h1⟩
def appEv (a:Addr) (n:Nat) (b:Addr) (m:Nat) (e:Event):Prop:=(0 < n∧e.readsIn (· = a.block))∨(0 < m∧e.readsIn (· = b.block))∨∃ m,e=⟨.mark m,false,true⟩∧Conc.Neutral m
theorem Qb9 {a b:Addr} {n m:Nat} (ha:0 < n→w.O a.block) (hb:0 < m→w.O b.block) {e:Event} (h:appEv a n b m e):okEv w e:=by
 rcases h with ⟨h0,ad,h1,h2,h3⟩ | ⟨h0,ad,h1,h2,h3⟩ | ⟨mk,rfl,hn⟩
 ·unfold okEv
  rw [h1]
  simp only [h2,Bool.false_eq_true,if_false]
  exact .inr (by rw [h3]; exact ha h0)
 ·unfold okEv
  rw [h1]
  simp only [h2,Bool.false_eq_true,if_false]
  exact .inr (by rw [h3]; exact hb h0)
 ·have:mk=.noRoom:=hn
  subst this
  exact trivial
theorem Qi9 (t:TypeId) (len:Nat) (parts:Array (Nat×Value)) (v:World) (es:Array Event):(Instr.buildSlice t len parts).events P v es=es:=by
 unfold Instr.buildSlice
 refine (QpR t).bind (fun d=>?_) v es
 split
 ·refine (Qja _).bind fun n=>?_
  refine Mute.ite (Mute.bind (.unsupported _) fun _=>?_) ?_
  all_goals refine Mute.ite (Mute.bind (.pure _) fun _=>?_) (Mute.bind (QpS _) fun _=>Mute.bind (.pure _) fun _=>?_)
  all_goals (dsimp only; split <;> exact fun w es=>rfl)
 ·exact .stuck _
set_option maxHeartbeats 1000000 in
theorem Qt6 {K:RV→St→Prop} {ts:Array TypeId} {ty:TypeId} {x y:RV} (hr:Rep bs w0 n ds s S a w) (hx:clo S.m.length x=true) (h:appW0 P S ts x y K) :
  ∃ v' w' s' S',(Builtin.append_ ts ty #[ren s x,ren s y]).run P w.w=.ok (ren s' v') w'∧Guar w w' ((Builtin.append_ ts ty #[ren s x,ren s y]).events P w.w #[])∧(∀ k,k < S.m.length→s' k=s k)∧clo S'.m.length v'=true∧Rep bs w0 n ds s' S' a (w.to w')∧K v' S':=by
 obtain ⟨e,zs,bytes,hz,h⟩:=h
 obtain ⟨t,i,v,rfl,hu,hi,hv,hs,hpos,rfl,rfl⟩:=QhC hz
 have hzl:v.cells.toList.length=i.size:=by simpa using hs
 rcases h with ⟨⟨ay,cy,rfl⟩,h⟩ | h
 ·rcases h with ⟨rfl,hk⟩ | ⟨k,nn,cap,rfl,hc,hk⟩
  ·refine ⟨_,w.w,s,S,?_,?_,fun _ _=>rfl,hx,by rw [WM.to_self]; exact hr,hk⟩
   ·cases ay <;> simp [ren,Builtin.append_,run_underlying hu,sizeOf,typeInfo,hi,Builtin.lenOf,Builtin.firstCells,loadCells,loadCellsFrom]
   ·refine .refl ?_
    cases ay <;> (simp [ren,Builtin.append_,run_underlying hu,sizeOf,typeInfo,hi,Builtin.lenOf,Builtin.firstCells,loadCells,loadCellsFrom]; exact .nil w)
  ·refine ⟨_,w.w,s,S,?_,?_,fun _ _=>rfl,hx,by rw [WM.to_self]; exact hr,hk⟩
   ·cases ay <;> simp [ren,Builtin.append_,run_underlying hu,sizeOf,typeInfo,hi,Builtin.lenOf,Builtin.firstCells,hc,storeCells,loadCells,loadCellsFrom]
   ·refine .refl ?_
    cases ay <;> (simp [ren,Builtin.append_,run_underlying hu,sizeOf,typeInfo,hi,Builtin.lenOf,Builtin.firstCells,hc,storeCells,loadCells,loadCellsFrom]; exact .nil w)
 ·obtain ⟨ad,m,cap,news,hy,hnl,hn1,hn2,hn3,h⟩:=Qjb hr.mr h
  rw [hy]
  have hnO:0 < news.length→w.O ad.block:=fun h0=>by
   have h1:(news.map (ren s))[0]? = some (ren s news[0]):=by simp [h0]
   exact (hn1 0 _ h1).2
  have hn1:∀ j u,(news.map (ren s))[j]? = some u→w.w.cell? (ad.add j)=some u:=fun j u hj=>(hn1 j u hj).1
  rw [hzl] at hnl
  have hnl':(news.map (ren s)).length=m * i.size:=by simpa using hnl
  have hd:Rep bs w0 n ds s S a w.drew:=hr.step (hr.mr.keep (Fr.drew [] w) hr.mr.new) (Fr.drew bs w)
  have hcn:=List.all_eq_true.1 hn3
  have grow:∀ (c:List RV) (cap':Nat),(∀ u∈c,clo S.m.length u=true)→Rep bs w0 n ds (fun k=>if k=S.m.length then w.heap.size else s k) { S with m:=S.m ++ [.cells e (c ++ zrow v.cells.toList cap')] } a
    (w.to (w.w.drew.alloc (.cells ((c.map (ren s)).toArray ++ Builtin.zeroCells v.cells cap') e))):=by
   intro c cap' hc
   have hag:∀ k,k < S.m.length→(fun k=>if k=S.m.length then w.heap.size else s k) k=s k:=fun k hk=>by
    simp only [show k≠S.m.length by omega,if_false]
   have hal:=hd.alloc (.cells e (c ++ zrow v.cells.toList cap')) (by
    simp only [cloO,List.all_append,Bool.and_eq_true,List.all_eq_true]
    refine ⟨fun u hu=>Qel (Nat.le_succ _) (hc u hu),fun u hu=>?_⟩
    unfold zrow at hu
    obtain ⟨_,_,rfl⟩:=List.mem_map.1 hu
    rfl)
   have e1:renO (fun k=>if k=S.m.length then w.drew.heap.size else s k) (.cells e (c ++ zrow v.cells.toList cap'))=.cells ((c.map (ren s)).toArray ++ Builtin.zeroCells v.cells cap') e:=by
    simp only [renO,List.map_append]
    congr 1
    apply Array.ext'
    simp only [Array.toList_append]
    congr 1
    ·exact List.map_congr_left fun u hu=>QeG hag (hc u hu)
    ·unfold zrow
     rw [Qax,Array.toArray_toList]
   rw [e1] at hal
   exact hal
  rcases h with ⟨rfl,hm,hml,hmb,h⟩ | ⟨rfl,rfl,hk⟩ | ⟨k,nn,cap2,c,rfl,hmk,hnc,h1,h2⟩
  ·have hge:=grownCap_ge w.w m 0 e
   have hle:=grownCap_le_maxLen w.w m 0 e hml
   have hr2:=run_append_nil (P:=P) w.w t ty e i v hu hi hv ad m cap (news.map (ren s)) hnl' hn1 hm (by simp only [maxLen] at hml; omega) (by omega)
   refine ⟨.sl S.m.length 0 m (grownCap w.w m 0 e),_,_,_,hr2.trans ?_,QiR fun ev hev=>?_,fun k hk=>if_neg (Nat.ne_of_lt hk),by simp [clo],grow news (grownCap w.w m 0 e - m) hcn,h _ hge hle⟩
   ·simp [ren]
   ·have h63':¬ (9223372036854775807 < (m:Int)):=by simp only [maxLen] at hml; omega
    have h48':¬ (281474976710656 < Builtin.nextslicecap m 0 * i.bytes):=by rw [nextslicecap_zero (by omega)]; omega
    have hne:m≠0:=by omega
    have hf:=run_firstCells_some (P:=P) w.w.drew i.size m ad m cap (news.map (ren s)) hnl' (by simpa using hn1)
    simp only [ren] at hev
    simp [Builtin.append_,run_underlying hu,sizeOf,typeInfo,zeroValue,hi,hv,Builtin.lenOf,hne,h63',h48',Question.forced,run_firstCells_none,hf,newRow] at hev
    rcases Qdh ad m cap m i.size w.w.drew _ (fun j hj=>by simpa using isSome_of_list hn1 (by rw [hnl']; exact hj)) ev hev with h5 | ⟨h5,h6⟩
    ·rcases Conc.events_askRoom _ _ _ ev (by simpa [Builtin.firstCells] using h5) with h7 | h7
     ·simp at h7
     ·exact Qb9 (a:=ad) (b:=ad) (n:=0) (m:=0) (by simp) (by simp) (.inr (.inr h7))
    ·exact Qb9 (a:=ad) (b:=ad) (n:=1) (m:=0) (fun _=>hnO (by rw [hnl]; exact h5)) (by simp) (.inl ⟨by simp,h6⟩)
  ·have hn:news=[]:=List.eq_nil_of_length_eq_zero (by simpa using hnl)
   subst hn
   refine ⟨_,w.w,s,S,?_,?_,fun _ _=>rfl,hx,by rw [WM.to_self]; exact hr,hk⟩
   ·simp [ren,Builtin.append_,run_underlying hu,sizeOf,typeInfo,hi,Builtin.lenOf,Builtin.firstCells,loadCells,loadCellsFrom]
   ·refine .refl ?_
    simp [ren,Builtin.append_,run_underlying hu,sizeOf,typeInfo,hi,Builtin.lenOf,Builtin.firstCells,loadCells,loadCellsFrom]
    exact .nil w
  ·rw [hzl] at hnc h1 h2
   have hk:k < S.m.length:=(List.getElem?_eq_some_iff.1 hmk).1
   have hb:=hr.mr.mem k _ hmk
   have hc:=hr.mr.cm k _ hmk
   simp only [renO] at hb
   simp only [cloO,List.all_eq_true] at hc
   by_cases hroom:nn+m≤cap2
   ·obtain ⟨h3,h4⟩:=h1 hroom
    have hr2:=run_append_room (P:=P) w.w t ty e i hu hi (s k) nn cap2 (c.map (ren s)).toArray hb ad m cap (news.map (ren s)) hnl' hn1 hn2 hroom (by simpa using h3)
    have hnew:((c.map (ren s)).toArray.toList.take (nn * i.size) ++ news.map (ren s) ++ (c.map (ren s)).toArray.toList.drop (nn * i.size+(news.map (ren s)).length)).toArray
      = ((c.take (nn * i.size) ++ news ++ c.drop (nn * i.size+news.length)).map (ren s)).toArray:=by
     simp [List.map_take,List.map_drop]
    rw [hnew] at hr2
    have hset:=hr.set (o:=.cells e (c.take (nn * i.size) ++ news ++ c.drop (nn * i.size+news.length))) (v:=w.w.setRow (s k) ((c.take (nn * i.size) ++ news ++ c.drop (nn * i.size+news.length)).map (ren s)).toArray) hk (by
      simp only [cloO,List.all_append,Bool.and_eq_true,List.all_eq_true]
      exact ⟨⟨fun u hu=>hc u (List.mem_of_mem_take hu),fun u hu=>hcn u hu⟩,fun u hu=>hc u (List.mem_of_mem_drop hu)⟩)
     (setRow_size _ _ _) (fun j=>by
      by_cases e':j=s k
      ·subst e'; rw [if_pos rfl,setRow_heap w.w _ _ _ e (0,0) hb]; rfl
      ·rw [if_neg e',setRow_other w.w _ _ _ e']) rfl rfl rfl
    refine ⟨.sl k 0 (nn+m) cap2,_,s,_,hr2,Qfh (hr.mr.mine k hk) (setRow_size _ _ _) (fun j=>by
      by_cases e':j=s k
      ·subst e'; rw [if_pos rfl,setRow_heap w.w _ _ _ e (0,0) hb]
      ·rw [if_neg e',setRow_other w.w _ _ _ e']) rfl rfl rfl (fun ev hev=>?_),fun _ _=>rfl,by simp [clo,hk],hset,h4⟩
    have hf:=run_firstCells_some (P:=P) w.w i.size m ad m cap (news.map (ren s)) hnl' hn1
    simp only [ren] at hev
    simp [Builtin.append_,run_underlying hu,sizeOf,typeInfo,hi,Builtin.lenOf,hroom,hf,Addr.add_lit] at hev
    rcases events_storeCells_at (P:=P) (s k) (nn * i.size) e (news.map (ren s)) 0 (c.map (ren s)).toArray w.w _ hb (by simpa using h3) hn2 ev hev with h5 | ⟨ad2,h5,h6⟩
    ·rcases Qdh ad m cap m i.size w.w _ (fun j hj=>isSome_of_list hn1 (by rw [hnl']; exact hj)) ev h5 with h7 | ⟨h7,h8⟩
     ·simp at h7
     ·exact Qb9 (a:=ad) (b:=ad) (n:=1) (m:=0) (fun _=>hnO (by rw [hnl]; exact h7)) (by simp) (.inl ⟨by simp,h8⟩)
    ·unfold okEv
     rw [h5]
     refine .inr ?_
     rw [h6]
     split
     ·exact hr.mr.mine k hk
     ·exact .inl (hr.mr.mine k hk)
   ·obtain ⟨h3,h4,h5⟩:=h2 (by omega)
    have hge:=grownCap_ge w.w (nn+m) cap2 e
    have hle:=grownCap_le_maxLen w.w (nn+m) cap2 e h3
    have hol:((c.take (nn * i.size)).map (ren s)).length=nn * i.size:=by simp; omega
    have holds:∀ j u,((c.take (nn * i.size)).map (ren s))[j]? = some u→w.w.cell? ((⟨s k,0,none⟩:Addr).add j)=some u:=by
     intro j u hj
     rw [Addr.add_lit,cell_of_row w.w _ _ _ _ _ hb]
     rw [List.getElem?_map,List.getElem?_take] at hj
     split at hj
     ·simpa using hj
     ·simp at hj
    have hr2:=run_append_grow (P:=P) w.w t ty e i v hu hi hv ⟨s k,0,none⟩ nn cap2 ((c.take (nn * i.size)).map (ren s)) hol holds ad m cap (news.map (ren s)) hnl' hn1 (by omega) (by simp only [maxLen] at h3; omega) (growslice_fits (by omega) h4)
    refine ⟨.sl S.m.length 0 (nn+m) (grownCap w.w (nn+m) cap2 e),_,_,_,hr2.trans ?_,QiR fun ev hev=>?_,fun k hk=>if_neg (Nat.ne_of_lt hk),by simp [clo],grow (c.take (nn * i.size) ++ news) (grownCap w.w (nn+m) cap2 e - (nn+m)) ?_,h5 _ hge hle⟩
    ·simp [ren]
    ·have hn:¬ (nn+m≤cap2):=hroom
     have h63':¬ (9223372036854775807 < ((nn:Int)+(m:Int))):=by simp only [maxLen] at h3; omega
     have h48':¬ (281474976710656 < Builtin.nextslicecap (nn+m) cap2 * i.bytes):=by have:=growslice_fits (need:=nn+m) (old:=cap2) (bytes:=i.bytes) (by omega) h4; omega
     have hf:=run_firstCells_some (P:=P) w.w.drew i.size m ad m cap (news.map (ren s)) hnl' (by simpa using hn1)
     have hfo:=run_firstCells_some (P:=P) w.w.drew i.size nn ⟨s k,0,none⟩ nn cap2 _ hol (by simpa using holds)
     simp only [ren] at hev
     simp [Builtin.append_,run_underlying hu,sizeOf,typeInfo,zeroValue,hi,hv,Builtin.lenOf,hn,h63',h48',Question.forced,hf,hfo,newRow] at hev
     rcases Qdh ad m cap m i.size w.w.drew _ (fun j hj=>by simpa using isSome_of_list hn1 (by rw [hnl']; exact hj)) ev hev with h6 | ⟨h6,h7⟩
     ·rcases Qdh ⟨s k,0,none⟩ nn cap2 nn i.size w.w.drew _ (fun j hj=>by simpa using isSome_of_list holds (by rw [hol]; exact hj)) ev h6 with h6 | ⟨h6,h7⟩
      ·rcases Conc.events_askRoom _ _ _ ev h6 with h7 | h7
       ·simp at h7
       ·exact Qb9 (a:=ad) (b:=ad) (n:=0) (m:=0) (by simp) (by simp) (.inr (.inr h7))
      ·exact Qb9 (a:=⟨s k,0,none⟩) (b:=ad) (n:=1) (m:=0) (fun _=>.inl (hr.mr.mine k hk)) (by simp) (.inl ⟨by simp,h7⟩)
     ·exact Qb9 (a:=ad) (b:=ad) (n:=1) (m:=0) (fun _=>hnO (by rw [hnl]; exact h6)) (by simp) (.inl ⟨by simp,h7⟩)
    ·intro u hu
     rcases List.mem_append.1 hu with hu | hu
     ·exact hc u (List.mem_of_mem_take hu)
     ·exact hcn u hu
theorem QCG (hr:Rep bs w0 n ds s S a w) (e:TypeId) (c:List RV) (zs:Array Value) (cap':Nat) (hc:∀ u∈c,clo S.m.length u=true) :
  Rep bs w0 n ds (fun k=>if k=S.m.length then w.heap.size else s k) { S with m:=S.m ++ [.cells e (c ++ zrow zs.toList cap')] } a (w.to (w.w.drew.alloc (.cells ((c.map (ren s)).toArray ++ Builtin.zeroCells zs cap') e))):=by
 have hd:Rep bs w0 n ds s S a w.drew:=hr.step (hr.mr.keep (Fr.drew [] w) hr.mr.new) (Fr.drew bs w)
 have hag:∀ k,k < S.m.length→(fun k=>if k=S.m.length then w.heap.size else s k) k=s k:=fun k hk=>by
  simp only [show k≠S.m.length by omega,if_false]
 have hal:=hd.alloc (.cells e (c ++ zrow zs.toList cap')) (by
  simp only [cloO,List.all_append,Bool.and_eq_true,List.all_eq_true]
  refine ⟨fun u hu=>Qel (Nat.le_succ _) (hc u hu),fun u hu=>?_⟩
  unfold zrow at hu
  obtain ⟨_,_,rfl⟩:=List.mem_map.1 hu
  rfl)
 have e1:renO (fun k=>if k=S.m.length then w.drew.heap.size else s k) (.cells e (c ++ zrow zs.toList cap'))=.cells ((c.map (ren s)).toArray ++ Builtin.zeroCells zs cap') e:=by
  simp only [renO,List.map_append]
  congr 1
  apply Array.ext'
  simp only [Array.toList_append]
  congr 1
  ·exact List.map_congr_left fun u hu=>QeG hag (hc u hu)
  ·unfold zrow
   rw [Qax,Array.toArray_toList]
 rw [e1] at hal
 exact hal
set_option maxHeartbeats 1000000 in
theorem Qt4 {K:RV→St→Prop} {ts:Array TypeId} {ty:TypeId} {x y:RV} (hr:Rep bs w0 n ds s S a w) (h:appX P S ts x y K) :
  ∃ v' w' s' S',(Builtin.append_ ts ty #[ren s x,ren s y]).run P w.w=.ok (ren s' v') w'∧Guar w w' ((Builtin.append_ ts ty #[ren s x,ren s y]).events P w.w #[])∧(∀ k,k < S.m.length→s' k=s k)∧clo S'.m.length v'=true∧Rep bs w0 n ds s' S' a (w.to w')∧K v' S':=by
 obtain ⟨e,zs,bytes,b,off,nn,cap2,hz,rfl,h⟩:=h
 obtain ⟨t,i,v,rfl,hu,hi,hv,hs,hpos,rfl,rfl⟩:=QhC hz
 have hzl:v.cells.toList.length=i.size:=by simpa using hs
 rcases h with ⟨⟨ay,cy,rfl⟩,hle,hk⟩ | ⟨l,hl,hx,h⟩
 ·refine ⟨_,w.w,s,S,?_,?_,fun _ _=>rfl,rfl,by rw [WM.to_self]; exact hr,hk⟩
  ·cases ay <;> simp [ren,Builtin.append_,run_underlying hu,sizeOf,typeInfo,hi,Builtin.lenOf,Builtin.firstCells,hle,storeCells,loadCells,loadCellsFrom]
  ·refine .refl ?_
   cases ay <;> (simp [ren,Builtin.append_,run_underlying hu,sizeOf,typeInfo,hi,Builtin.lenOf,Builtin.firstCells,hle,storeCells,loadCells,loadCellsFrom]; exact .nil w)
 ·obtain ⟨ad,m,cap,news,hy,hnl,hn1,hn2,hn3,hroom,h3,h4,h5⟩:=Qjb hr.mr h
  rw [hy]
  have hnO:0 < news.length→w.O ad.block:=fun h0=>by
   have h1:(news.map (ren s))[0]? = some (ren s news[0]):=by simp [h0]
   exact (hn1 0 _ h1).2
  have hn1:∀ j u,(news.map (ren s))[j]? = some u→w.w.cell? (ad.add j)=some u:=fun j u hj=>(hn1 j u hj).1
  rw [hzl] at hnl hl
  have hnl':(news.map (ren s)).length=m * i.size:=by simpa using hnl
  have hcn:=List.all_eq_true.1 hn3
  have hge:=grownCap_ge w.w (nn+m) cap2 e
  have hle:=grownCap_le_maxLen w.w (nn+m) cap2 e h3
  have holds:∀ j u,l[j]? = some u→w.w.cell? ((⟨b,off,none⟩:Addr).add j)=some u:=fun j u hj=>by
   obtain ⟨c,T,f,g1,g2⟩:=hx j u hj
   rw [Addr.add_lit,cell_of_row w.w _ _ _ _ _ (hr.mr.ext b _ g1)]
   exact g2
  have hlO:0 < l.length→w.O b:=fun h0=>by
   obtain ⟨c,T,f,g1,_⟩:=hx 0 l[0] (by simp [h0])
   exact hr.mr.know b _ g1
  have hr2:=run_append_grow (P:=P) w.w t ty e i v hu hi hv ⟨b,off,none⟩ nn cap2 l hl holds ad m cap (news.map (ren s)) hnl' hn1 (by omega) (by simp only [maxLen] at h3; omega) (growslice_fits (by omega) h4)
  have hgr:=QCG hr e (l.map .ext ++ news) v.cells (grownCap w.w (nn+m) cap2 e - (nn+m)) (fun u hu=>by
   rcases List.mem_append.1 hu with hu | hu
   ·obtain ⟨_,_,rfl⟩:=List.mem_map.1 hu; rfl
   ·exact hcn u hu)
  refine ⟨.sl S.m.length 0 (nn+m) (grownCap w.w (nn+m) cap2 e),_,_,_,hr2.trans ?_,QiR fun ev hev=>?_,fun k hk=>if_neg (Nat.ne_of_lt hk),by simp [clo],hgr,h5 _ hge hle⟩
  ·simp [ren,Function.comp_def]
  ·have hn:¬ (nn+m≤cap2):=by omega
   have h63':¬ (9223372036854775807 < ((nn:Int)+(m:Int))):=by simp only [maxLen] at h3; omega
   have h48':¬ (281474976710656 < Builtin.nextslicecap (nn+m) cap2 * i.bytes):=by have:=growslice_fits (need:=nn+m) (old:=cap2) (bytes:=i.bytes) (by omega) h4; omega
   have hf:=run_firstCells_some (P:=P) w.w.drew i.size m ad m cap (news.map (ren s)) hnl' (by simpa using hn1)
   have hfo:=run_firstCells_some (P:=P) w.w.drew i.size nn ⟨b,off,none⟩ nn cap2 _ hl (by simpa using holds)
   simp only [ren] at hev
   simp [Builtin.append_,run_underlying hu,sizeOf,typeInfo,zeroValue,hi,hv,Builtin.lenOf,hn,h63',h48',Question.forced,hf,hfo,newRow] at hev
   rcases Qdh ad m cap m i.size w.w.drew _ (fun j hj=>by simpa using isSome_of_list hn1 (by rw [hnl']; exact hj)) ev hev with h6 | ⟨h6,h7⟩
   ·rcases Qdh ⟨b,off,none⟩ nn cap2 nn i.size w.w.drew _ (fun j hj=>by simpa using isSome_of_list holds (by rw [hl]; exact hj)) ev h6 with h6 | ⟨h6,h7⟩
    ·rcases Conc.events_askRoom _ _ _ ev h6 with h7 | h7
     ·simp at h7
     ·exact Qb9 (a:=ad) (b:=ad) (n:=0) (m:=0) (by simp) (by simp) (.inr (.inr h7))
    ·exact Qb9 (a:=⟨b,off,none⟩) (b:=ad) (n:=1) (m:=0) (fun _=>hlO (by rw [hl]; exact h6)) (by simp) (.inl ⟨by simp,h7⟩)
   ·exact Qb9 (a:=ad) (b:=ad) (n:=1) (m:=0) (fun _=>hnO (by rw [hnl]; exact h6)) (by simp) (.inl ⟨by simp,h7⟩)
set_option maxHeartbeats 1000000 in
theorem QwD {K:RV→St→Prop} {ts:Array TypeId} {ty:TypeId} {x y:RV} (hr:Rep bs w0 n ds s S a w) (h:copyW P S ts x y K) :
  ∃ v' w' S',(Builtin.copy_ ts ty #[ren s x,ren s y]).run P w.w=.ok (ren s v') w'∧Guar w w' ((Builtin.copy_ ts ty #[ren s x,ren s y]).events P w.w #[])∧clo S'.m.length v'=true∧Rep bs w0 n ds s S' a (w.to w')∧K v' S':=by
 obtain ⟨e,zs,bytes,hz,h⟩:=h
 obtain ⟨t,i,v,rfl,hu,hi,hv,hs,hpos,rfl,rfl⟩:=QhC hz
 have hzl:v.cells.toList.length=i.size:=by simpa using hs
 rcases h with ⟨⟨ay,cy,k,off,cap,rfl,rfl⟩,hk⟩ | h
 ·refine ⟨.ext (.int .i64 0),w.w,S,?_,?_,rfl,by rw [WM.to_self]; exact hr,hk⟩
  ·cases ay <;> simp [ren,Builtin.copy_,run_underlying hu,sizeOf,typeInfo,hi,Builtin.lenOf,Builtin.firstCells,storeCells,loadCells,loadCellsFrom,goInt]
  ·refine .refl ?_
   cases ay <;> (simp [ren,Builtin.copy_,run_underlying hu,sizeOf,typeInfo,hi,Builtin.lenOf,Builtin.firstCells,storeCells,loadCells,loadCellsFrom]; exact .nil w)
 ·obtain ⟨ad,m,cap,news,hy,hnl,hn1,hn2,hn3,k,off,cap2,T,c,rfl,hmk,hfit,hk⟩:=Qjb hr.mr h
  rw [hy]
  have hnO:0 < news.length→w.O ad.block:=fun h0=>by
   have h1:(news.map (ren s))[0]? = some (ren s news[0]):=by simp [h0]
   exact (hn1 0 _ h1).2
  have hn1:∀ j u,(news.map (ren s))[j]? = some u→w.w.cell? (ad.add j)=some u:=fun j u hj=>(hn1 j u hj).1
  rw [hzl] at hnl
  have hnl':(news.map (ren s)).length=m * i.size:=by simpa using hnl
  have hcn:=List.all_eq_true.1 hn3
  have hkl:k < S.m.length:=(List.getElem?_eq_some_iff.1 hmk).1
  have hb:=hr.mr.mem k _ hmk
  have hc:=hr.mr.cm k _ hmk
  simp only [renO] at hb
  simp only [cloO,List.all_eq_true] at hc
  have hf:=run_firstCells_some (P:=P) w.w i.size m ad m cap (news.map (ren s)) hnl' hn1
  have hst:=run_storeCells_at (P:=P) (s k) off T (news.map (ren s)) 0 (c.map (ren s)).toArray w.w hb (by simpa using hfit) hn2
  have hnew:((c.map (ren s)).toArray.toList.take (off+0) ++ news.map (ren s) ++ (c.map (ren s)).toArray.toList.drop (off+0+(news.map (ren s)).length)).toArray
    = ((c.take off ++ news ++ c.drop (off+news.length)).map (ren s)).toArray:=by
   simp [List.map_take,List.map_drop]
  rw [hnew] at hst
  have hset:=hr.set (o:=.cells T (c.take off ++ news ++ c.drop (off+news.length))) (v:=w.w.setRow (s k) ((c.take off ++ news ++ c.drop (off+news.length)).map (ren s)).toArray) hkl (by
    simp only [cloO,List.all_append,Bool.and_eq_true,List.all_eq_true]
    exact ⟨⟨fun u hu=>hc u (List.mem_of_mem_take hu),fun u hu=>hcn u hu⟩,fun u hu=>hc u (List.mem_of_mem_drop hu)⟩)
   (setRow_size _ _ _) (fun j=>by
    by_cases e':j=s k
    ·subst e'; rw [if_pos rfl,setRow_heap w.w _ _ _ T (0,0) hb]; rfl
    ·rw [if_neg e',setRow_other w.w _ _ _ e']) rfl rfl rfl
  refine ⟨.ext (.int .i64 m),w.w.setRow (s k) ((c.take off ++ news ++ c.drop (off+news.length)).map (ren s)).toArray,_,?_,Qfh (hr.mr.mine k hkl) (setRow_size _ _ _) (fun j=>by
    by_cases e':j=s k
    ·subst e'; rw [if_pos rfl,setRow_heap w.w _ _ _ T (0,0) hb]
    ·rw [if_neg e',setRow_other w.w _ _ _ e']) rfl rfl rfl (fun ev hev=>?_),rfl,hset,hk⟩
  ·simp [ren,Builtin.copy_,run_underlying hu,sizeOf,typeInfo,hi,Builtin.lenOf,hf,hst,goInt]
  ·simp only [ren] at hev
   simp [Builtin.copy_,run_underlying hu,sizeOf,typeInfo,hi,Builtin.lenOf,hf,hst] at hev
   rcases events_storeCells_at (P:=P) (s k) off T (news.map (ren s)) 0 (c.map (ren s)).toArray w.w _ hb (by simpa using hfit) hn2 ev hev with h5 | ⟨ad2,h5,h6⟩
   ·rcases Qdh ad m cap m i.size w.w _ (fun j hj=>isSome_of_list hn1 (by rw [hnl']; exact hj)) ev h5 with h7 | ⟨h7,h8⟩
    ·simp at h7
    ·exact Qb9 (a:=ad) (b:=ad) (n:=1) (m:=0) (fun _=>hnO (by rw [hnl]; exact h7)) (by simp) (.inl ⟨by simp,h8⟩)
   ·unfold okEv
    rw [h5]
    refine .inr ?_
    rw [h6]
    split
    ·exact hr.mr.mine k hkl
    ·exact .inl (hr.mr.mine k hkl)
set_option maxHeartbeats 1000000 in
theorem Qcs {K:RV→St→Prop} {Pn:Value→St→Prop} {next:Act→WM→Prop} {Q:Exit→Act→WM→Prop} (hr:Rep bs w0 n ds s S a w)
  (h:opW P false S o K Pn)
  (hK:∀ s' v S' w',(∀ k,k < S.m.length→s' k=s k)→clo S'.m.length v=true→Rep bs w0 n ds s' S' a w'→K v S'→next (a.put o.dst (ren s' v)) w')
  (hP:∀ u s' S' w',Rep bs w0 n ds s' S' a w'→Pn u S'→Q (.panic [{ v:=u,recovered:=false }]) a w'):owp P o a w next Q:=by
 refine ⟨Qg1 h,fun w1 hrel=>?_⟩
 replace hr:=hr.rely hrel
 clear hrel
 revert hr
 generalize w1=w
 intro hr
 have quiet:opW P true S o K Pn→upon P o a w next Q ((execOp a.eval o).events P w.w #[]) ((execOp a.eval o).run P w.w):=by
  intro h
  obtain ⟨v,h1,h2,h3⟩:=Qjf hr.sl hr.mr h
  exact Qs6 hr.mr.new (h3 s a w hr.sl hr.mr) fun w' hf hn=>hK s v S w' (fun _ _=>rfl) h1 (hr.step (hr.mr.keep hf hn) (hf.mono (by simp))) h2
 cases hop:o.op
 case alloc T=>
  unfold opW at h
  simp only [hop] at h
  obtain ⟨_,h⟩:=h
  obtain ⟨zs,hz,h⟩:=Qak h
  unfold tyZ at hz
  split at hz
  ·rename_i i hi
   split at hz
   ·rename_i v hv
    simp only [Option.some.injEq] at hz
    subst hz
    have hal:=hr.alloc (.cells T (v.cells.toList.map .ext)) (by simp [cloO,clo])
    simp only [renO,Qax,Array.toArray_toList] at hal
    refine Qc5 (m:=Instr.alloc T true (.tuple #[])) (v:=.pointer (some ⟨w.heap.size,0,none⟩)) (w':=w.w.alloc (.cells v.cells T)) (by simp only [execOp,hop]) ?_ (QgN ?_) ?_
    ·simp [Instr.alloc,zeroValue,typeInfo,hi,hv,newVar,newRow]
    ·simp [Instr.alloc,zeroValue,typeInfo,hi,hv,newVar,newRow]
    ·have:=hK _ (.ptr S.m.length 0) _ _ (fun k hk=>if_neg (Nat.ne_of_lt hk)) (by simp [clo]) hal h
     simpa [ren] using this
   ·cases hz
  ·cases hz
 case box T x=>
  unfold opW at h
  simp only [hop] at h
  obtain ⟨_,h⟩:=h
  obtain ⟨v,h1,h⟩:=QaL h
  obtain ⟨e1,e2⟩:=hr.sl.eval h1
  have hag:∀ k,k < S.m.length→(fun k=>if k=S.m.length then w.heap.size else s k) k=s k:=fun k hk=>by
   simp only [show k≠S.m.length by omega,if_false]
  have hal:=hr.alloc (.cells T (flat v)) (by
   simp only [cloO,List.all_eq_true]
   exact fun u hu=>Qel (Nat.le_succ _) (QnE e2 u hu))
  simp only [renO,Qe6,Array.toArray_toList,QeG hag e2] at hal
  refine Qc5 (m:=Instr.box T (ren s v)) (v:=.pointer (some ⟨w.heap.size,0,none⟩)) (w':=w.w.alloc (.cells (ren s v).cells T)) (by simp only [execOp,hop,e1]) ?_ (QgN ?_) ?_
  ·simp [Instr.box,newVar,newRow]
  ·simp [Instr.box,newVar,newRow]
  ·have:=hK _ (.ptr S.m.length 0) _ _ (fun k hk=>if_neg (Nat.ne_of_lt hk)) (by simp [clo]) hal h
   simpa [ren] using this
 case buildSlice t len parts=>
  unfold opW at h
  simp only [hop] at h
  obtain ⟨_,h⟩:=h
  obtain ⟨rs,hrs,h⟩:=Qak h
  obtain ⟨e1,e2⟩:=QbF hr.sl hrs
  rcases h with ⟨vs,hvs,elem,cells,len',cap',h2,h⟩ | ⟨e,i,z,hu,hi,hs,hz,hzs,hpos,hmx,hidx,hlen,hone,h⟩
  ·rw [Qa9 hvs,Qax] at e1
   have hal:=hr.alloc (.cells elem (cells.toList.map .ext)) (by simp [cloO,clo])
   simp only [renO,Qax,Array.toArray_toList] at hal
   refine Qc5 (v:=.slice (some ⟨w.heap.size,0,none⟩) len' cap') (w':=w.w.alloc (.cells cells elem)) (by simp only [execOp,hop,Qhr parts a.eval,e1]) (h2 w.w).1 (QoH (h2 w.w).2) ?_
   ·have:=hK _ (.sl S.m.length 0 len' cap') _ _ (fun k hk=>if_neg (Nat.ne_of_lt hk)) (by simp [clo]) hal h
    simpa [ren] using this
  ·have hag:∀ k,k < S.m.length→(fun k=>if k=S.m.length then w.heap.size else s k) k=s k:=fun k hk=>by
    simp only [show k≠S.m.length by omega,if_false]
   have hal:=hr.alloc (.cells e rs) (by
    simp only [cloO,List.all_eq_true]
    exact fun u hu=>Qel (Nat.le_succ _) (e2 u hu))
   have e3:renO (fun k=>if k=S.m.length then w.heap.size else s k) (.cells e rs)=.cells (rs.map (ren s)).toArray e:=by
    simp only [renO]
    congr 2
    exact List.map_congr_left fun u hu=>QeG hag (e2 u hu)
   rw [e3] at hal
   have hl2:(rs.map (ren s)).length=len:=by simpa using hlen
   have hf:Instr.fill (fun i'=>some (i' * i.size,i.size)) ((Array.range (len * i.size)).map (z.cells[· % z.cells.size]!)) ((List.range len).zip (rs.map (ren s))).toArray.toList=some (rs.map (ren s)).toArray:=by
    rw [hs,←hl2,QGn]
    exact Great.fill_flat _ _ (fun v hv=>by
     obtain ⟨u,hu,rfl⟩:=List.mem_map.1 hv
     exact QBH s (List.all_eq_true.1 hone u hu)) (by simp)
   have hrun:=run_buildSlice (P:=P) w.w t e len ((List.range len).zip (rs.map (ren s))).toArray _ i z hu hi hz (by rw [hs]; omega) (by rw [hs]; omega) hf
   refine Qc5 (v:=.slice (some ⟨w.heap.size,0,none⟩) len len) (w':=w.w.alloc (.cells (rs.map (ren s)).toArray e)) (by simp only [execOp,hop,Qhr parts a.eval,e1,hidx]) hrun (QgN (Qi9 _ _ _ _ _)) ?_
   ·have:=hK _ (.sl S.m.length 0 len len) _ _ (fun k hk=>if_neg (Nat.ne_of_lt hk)) (by simp [clo]) hal h
    simpa [ren] using this
 case makeSlice t l c=>
  unfold opW at h
  simp only [hop] at h
  obtain ⟨_,h⟩:=h
  obtain ⟨u1,h1,h⟩:=Qat h
  obtain ⟨u2,h2,elem,cells,len',cap',h3,h⟩:=Qat h
  have hal:=hr.alloc (.cells elem (cells.toList.map .ext)) (by simp [cloO,clo])
  simp only [renO,Qax,Array.toArray_toList] at hal
  have e1:=(hr.sl.eval h1).1
  have e2:=(hr.sl.eval h2).1
  simp only [ren] at e1 e2
  refine Qc5 (v:=.slice (some ⟨w.heap.size,0,none⟩) len' cap') (w':=w.w.alloc (.cells cells elem)) (by simp only [execOp,hop,e1,e2]) (h3 w.w).1 (QoH (h3 w.w).2) ?_
  ·have:=hK _ (.sl S.m.length 0 len' cap') _ _ (fun k hk=>if_neg (Nat.ne_of_lt hk)) (by simp [clo]) hal h
   simpa [ren] using this
 case store T x y=>
  unfold opW at h
  simp only [hop] at h
  obtain ⟨_,h⟩:=h
  obtain ⟨p,h1,h⟩:=QaL h
  obtain ⟨v,h2,h⟩:=QaL h
  obtain ⟨e1,e2⟩:=hr.sl.eval h1
  obtain ⟨f1,f2⟩:=hr.sl.eval h2
  obtain ⟨z,hty,h⟩:=Qak h
  obtain ⟨g,z⟩:=z
  unfold storeW at h
  cases p with
  | ptr k off=>
   simp only at h
   obtain ⟨ob,hmk,h⟩:=Qak h
   rw [Qay] at hmk
   unfold cellW at h
   cases ob with
   | cells T' c=>
    simp only at h
    obtain ⟨c',hput,h⟩:=Qak h
    obtain ⟨⟨g1,g3,gz⟩,h⟩:=h
    rw [QbV] at h
    have hk:k < S.m.length:=(List.getElem?_eq_some_iff.1 hmk).1
    have hb:=hr.mr.mem k _ hmk
    have hc:=hr.mr.cm k _ hmk
    simp only [cloO,List.all_eq_true] at hc
    simp only [renO] at hb
    have hput':off+z≤c.length∧c'=c.take off ++ flat v ++ c.drop (off+z):=by
     rcases Qg6 hput with ⟨h5,_⟩ | ⟨h5,h6⟩
     ·rw [h5] at g1; simp at g1; omega
     ·rw [g1] at h5 h6; exact ⟨h5,h6⟩
    obtain ⟨g2,rfl⟩:=hput'
    have hz:(P.info? T).map (·.size)=some z:=by
     unfold tyS at hty
     split at hty
     ·rename_i d i hd hi
      simp only [Option.some.injEq,Prod.mk.injEq] at hty
      simp [hi,hty.2]
     ·cases hty
    obtain ⟨i,hi,hsz⟩:=Option.map_eq_some_iff.1 hz
    have hcl:(ren s v).cells.toList.length=z:=by rw [←Qe6 s v,List.length_map,g1]
    have hst:=run_storeCells_at (P:=P) (s k) off T' (ren s v).cells.toList 0 (c.map (ren s)).toArray w.w hb (by simp only [Nat.add_zero,hcl]; simpa using g2) (by
     intro u hu
     rw [←Qe6 s v] at hu
     obtain ⟨u',hu',rfl⟩:=List.mem_map.1 hu
     exact Qje s (List.all_eq_true.1 g3 u' hu'))
    simp only [ren] at e1
    have hnew:((c.map (ren s)).toArray.toList.take (off+0) ++ (ren s v).cells.toList ++ (c.map (ren s)).toArray.toList.drop (off+0+(ren s v).cells.toList.length)).toArray
      = ((c.take off ++ flat v ++ c.drop (off+z)).map (ren s)).toArray:=by
     rw [hcl]
     simp [Qe6,List.map_take,List.map_drop]
    rw [hnew] at hst
    have hset:=hr.set (o:=.cells T' (c.take off ++ flat v ++ c.drop (off+z))) (v:=w.w.setRow (s k) ((c.take off ++ flat v ++ c.drop (off+z)).map (ren s)).toArray) hk (by
      simp only [cloO,List.all_append,Bool.and_eq_true,List.all_eq_true]
      exact ⟨⟨fun u hu=>hc u (List.mem_of_mem_take hu),fun u hu=>QnE f2 u hu⟩,fun u hu=>hc u (List.mem_of_mem_drop hu)⟩)
     (setRow_size _ _ _) (fun j=>by
      by_cases e:j=s k
      ·subst e; rw [if_pos rfl,setRow_heap w.w _ _ _ T' (0,0) hb]; rfl
      ·rw [if_neg e,setRow_other w.w _ _ _ e]) rfl rfl rfl
    have hsz2:(ren s v).cells.size=i.size:=by
     rw [hsz,←hcl]; simp
    refine Qj3 (m:=Instr.storeAt T (.pointer (some ⟨s k,off,none⟩)) (ren s v)) (w':=w.w.setRow (s k) ((c.take off ++ flat v ++ c.drop (off+z)).map (ren s)).toArray) (by simp only [execOp,hop,e1,f1]) ?_
     (Qfh (hr.mr.mine k hk) (setRow_size _ _ _) (fun j=>by
      by_cases e:j=s k
      ·subst e; rw [if_pos rfl,setRow_heap w.w _ _ _ T' (0,0) hb]
      ·rw [if_neg e,setRow_other w.w _ _ _ e]) rfl rfl rfl fun ev hev=>?_) ?_
    ·simp [Instr.storeAt,Instr.sureAddr,storeVar,sizeOf,typeInfo,hi,hsz2,hst]
    ·simp [Instr.storeAt,Instr.sureAddr,storeVar,sizeOf,typeInfo,hi,hsz2] at hev
     rcases events_storeCells_at (P:=P) (s k) off T' (ren s v).cells.toList 0 (c.map (ren s)).toArray w.w _ hb (by simp only [Nat.add_zero,hcl]; simpa using g2) (by
      intro u hu
      rw [←Qe6 s v] at hu
      obtain ⟨u',hu',rfl⟩:=List.mem_map.1 hu
      exact Qje s (List.all_eq_true.1 g3 u' hu')) ev hev with h5 | ⟨ad2,h5,h6⟩
     ·simp at h5
     ·unfold okEv
      rw [h5]
      refine .inr ?_
      rw [h6]
      split
      ·exact hr.mr.mine k hk
      ·exact .inl (hr.mr.mine k hk)
    ·exact hK s (.ext undef) _ _ (fun _ _=>rfl) rfl hset h
   | obj _=>exact h.elim
  | _=>exact h.elim
 case makeMap t r=>
  unfold opW at h
  cases r with
  | some r=>simp only [hop] at h
  | none=>
   simp only [hop] at h
   obtain ⟨_,h⟩:=h
   have hal:=hr.alloc (.obj (.map #[] 0)) rfl
   simp only [renO] at hal
   refine Qc5 (m:=Instr.makeMap t none) (v:=.map (some w.heap.size)) (w':=w.w.alloc (.map #[] 0)) (by simp only [execOp,hop,Option.map_none]) ?_ (QgN ?_) ?_
   ·simp [Instr.makeMap]
   ·simp [Instr.makeMap]
   ·have:=hK _ (.mp S.m.length) _ _ (fun k hk=>if_neg (Nat.ne_of_lt hk)) (by simp [clo]) hal h
    simpa [ren] using this
 case mapUpdate T m k x=>
  unfold opW at h
  simp only [hop] at h
  obtain ⟨_,h⟩:=h
  obtain ⟨p,h1,h⟩:=QaL h
  obtain ⟨kk,h2,h⟩:=Qat h
  obtain ⟨v,h3,h⟩:=Qat h
  obtain ⟨e1,e2⟩:=hr.sl.eval h1
  have f1:=(hr.sl.eval h2).1
  have f2:=(hr.sl.eval h3).1
  unfold mpW at h
  cases p with
  | mp r=>
   simp only at h
   obtain ⟨ob,hmk,h⟩:=Qak h
   rw [Qay] at hmk
   unfold objW at h
   cases ob with
   | obj ob=>
    obtain ⟨o',ho',h⟩:=h
    rw [QbV] at h
    have hk:r < S.m.length:=(List.getElem?_eq_some_iff.1 hmk).1
    have hb:=hr.mr.mem r _ hmk
    have hset:=hr.set (o:=.obj o') (v:={ w.w with heap:=w.heap.setIfInBounds (s r) o' }) hk rfl (by simp) (fun j=>by
     simp only [renO]; exact QeJ (hr.mr.lt hk) j) rfl rfl rfl
    simp only [ren] at e1 f1 f2
    refine Qj3 (w':={ w.w with heap:=w.heap.setIfInBounds (s r) o' }) (by simp only [execOp,hop,e1,f1,f2]) (ho' (s r) w.w hb).1
     (Qfh (hr.mr.mine r hk) (by simp) (fun j=>QeJ (hr.mr.lt hk) j) rfl rfl rfl fun ev hev=>?_) ?_
    ·obtain ⟨h5,h6⟩:=(ho' (s r) w.w hb).2 ev hev
     unfold okEv
     rw [h5]
     refine ⟨.inl h6,.inr ?_⟩
     split
     ·exact hr.mr.mine r hk
     ·exact .inl (hr.mr.mine r hk)
    ·exact hK s (.ext undef) _ _ (fun _ _=>rfl) rfl hset h
   | cells _ _=>exact h.elim
  | _=>exact h.elim
 case insert T m k x=>
  unfold opW at h
  simp only [hop] at h
  obtain ⟨_,h⟩:=h
  obtain ⟨p,h1,h⟩:=QaL h
  obtain ⟨kk,h2,h⟩:=Qat h
  obtain ⟨v,h3,h⟩:=Qat h
  obtain ⟨e1,e2⟩:=hr.sl.eval h1
  have f1:=(hr.sl.eval h2).1
  have f2:=(hr.sl.eval h3).1
  unfold mpW at h
  cases p with
  | mp r=>
   simp only at h
   obtain ⟨ob,hmk,h⟩:=Qak h
   rw [Qay] at hmk
   unfold objW at h
   cases ob with
   | obj ob=>
    obtain ⟨o',ho',h⟩:=h
    rw [QbV] at h
    have hk:r < S.m.length:=(List.getElem?_eq_some_iff.1 hmk).1
    have hb:=hr.mr.mem r _ hmk
    have hset:=hr.set (o:=.obj o') (v:={ w.w with heap:=w.heap.setIfInBounds (s r) o' }) hk rfl (by simp) (fun j=>by
     simp only [renO]; exact QeJ (hr.mr.lt hk) j) rfl rfl rfl
    simp only [ren] at e1 f1 f2
    refine Qj3 (w':={ w.w with heap:=w.heap.setIfInBounds (s r) o' }) (by simp only [execOp,hop,e1,f1,f2]) (ho' (s r) w.w hb).1
     (Qfh (hr.mr.mine r hk) (by simp) (fun j=>QeJ (hr.mr.lt hk) j) rfl rfl rfl fun ev hev=>?_) ?_
    ·obtain ⟨h5,h6⟩:=(ho' (s r) w.w hb).2 ev hev
     unfold okEv
     rw [h5]
     refine ⟨.inl h6,.inr ?_⟩
     split
     ·exact hr.mr.mine r hk
     ·exact .inl (hr.mr.mine r hk)
    ·exact hK s (.ext undef) _ _ (fun _ _=>rfl) rfl hset h
   | cells _ _=>exact h.elim
  | _=>exact h.elim
 case panic x=>
  unfold opW at h
  simp only [hop] at h
  obtain ⟨_,h⟩:=h
  obtain ⟨v,h1,h3⟩:=Qat h
  have e1:=(hr.sl.eval h1).1
  simp only [ren] at e1
  unfold ifaceW at h3
  cases v with
  | iface t u=>
   have h5:(execOp a.eval o).run P w.w=.halt (.panic (.iface t u)) w.w:=by simp [execOp,hop,e1,Instr.panic]
   have h6:(execOp a.eval o).events P w.w #[]=#[]:=by simp [execOp,hop,e1,Instr.panic]
   rw [h5,h6]
   exact ⟨.none w,by rw [WM.to_self]; exact hP (.iface t u) s S w hr h3⟩
  | _=>exact h3.elim
 case call c=>
  cases hc:c.callee with
  | builtin b=>
   by_cases hb:b=.append
   ·subst hb
    unfold opW at h
    simp only [hop,hc] at h
    obtain ⟨rs,hrs,h⟩:=Qak h
    obtain ⟨e1,e2⟩:=QbF hr.sl hrs
    have m1:c.args.map a.eval=(rs.map (ren s)).toArray:=by apply Array.ext'; simpa using e1
    unfold lenW at h
    split at h
    ·rename_i heq; cases heq
    ·rename_i x y _
     obtain ⟨_,h⟩:=h
     obtain ⟨v',w',s',S',hrun,hgu,hag,hcl,hrep,hk⟩:=h.elim (fun h=>Qt6 (ty:=o.type) hr (e2 x (by simp)) h) (fun h=>Qt4 (ty:=o.type) hr h)
     simp only [List.map_cons,List.map_nil] at m1
     exact Qc5 (v:=ren s' v') (w':=w') (by simp only [execOp,hop,resolve,hc,pure_bind,invoke,builtin,m1]) hrun hgu (hK s' v' S' _ hag hcl hrep hk)
    ·exact h.elim
    ·rename_i heq; cases heq
    ·exact h.elim
    ·exact absurd (rfl:Builtin.append=Builtin.append) (by assumption)
   by_cases hb2:b=.copy
   ·subst hb2
    unfold opW at h
    simp only [hop,hc] at h
    obtain ⟨rs,hrs,h⟩:=Qak h
    obtain ⟨e1,e2⟩:=QbF hr.sl hrs
    have m1:c.args.map a.eval=(rs.map (ren s)).toArray:=by apply Array.ext'; simpa using e1
    unfold lenW at h
    split at h
    ·rename_i heq; cases heq
    ·rename_i heq; cases heq
    ·exact h.elim
    ·rename_i x y _
     obtain ⟨_,h⟩:=h
     obtain ⟨v',w',S',hrun,hgu,hcl,hrep,hk⟩:=QwD (ty:=o.type) hr h
     simp only [List.map_cons,List.map_nil] at m1
     exact Qc5 (v:=ren s v') (w':=w') (by simp only [execOp,hop,resolve,hc,pure_bind,invoke,builtin,m1]) hrun hgu (hK s v' S' _ (fun _ _=>rfl) hcl hrep hk)
    ·exact h.elim
    ·exact absurd (rfl:Builtin.copy=Builtin.copy) (by assumption)
   ·refine quiet ?_
    unfold opW at h ⊢
    simp only [hop,hc] at h ⊢
    obtain ⟨rs,hrs,h⟩:=Qak h
    rw [hrs,Qc9]
    exact QAq hb hb2 h
  | invoke r m=>exact quiet (by unfold opW at h ⊢; simp only [hop,hc] at h ⊢; exact h)
  | value f=>
   unfold opW at h
   simp only [hop,hc] at h
   obtain ⟨fv,h1,h2⟩:=QaL h
   obtain ⟨vs,hvs,h2⟩:=Qak h2
   ·have hq:opW P true S o K Pn∨∃ g asq,tgt fv vs=some (g,asq)∧goes P g∧GenC P S g asq K Pn:=by
     unfold callW at h2
     split at h2
     ·exact h2.elim
     ·rename_i g asq htg
      rcases h2 with ⟨hg,h2 | ⟨_,h2⟩⟩ | h2
      ·refine .inl ?_
       unfold opW
       simp only [hop,hc]
       unfold gv
       rw [h1,Qc9,hvs,Qc9,htg]
       exact .inl ⟨hg,.inl h2⟩
      ·exact .inr ⟨g,asq,htg,hg,h2⟩
      ·refine .inl ?_
       unfold opW
       simp only [hop,hc]
       unfold gv
       rw [h1,Qc9,hvs,Qc9,htg]
       exact .inr h2
    rcases hq with hq | ⟨g,asq,htg,hg,hgen⟩
    ·exact quiet hq
    ·have e1:=(hr.sl.eval h1).1
     have e2:=(QbF hr.sl hvs).1
     have m1:c.args.map a.eval=(vs.map (ren s)).toArray:=by apply Array.ext'; simpa using e2
     have hx:execOp a.eval o=callFunc g (asq.map (ren s)).toArray:=by
      simp only [execOp,hop,Qhd hc,m1,e1]
      exact QjT htg s
     rw [hx,(hg _ w.w).1,(hg _ w.w).2]
     refine ⟨.none w,?_⟩
     rw [WM.to_self]
     refine (hgen s w hr.mr).mono ?_
     rintro e w' ⟨hf,h⟩
     rcases h with ⟨v,S',rfl,hv,ht,hl,hm,hk⟩ | ⟨v,S',rfl,ht,hl,hm,hk⟩
     ·exact hK s v S' w' (fun _ _=>rfl) (by rw [hl]; exact hv) (hr.call ht hl hm hf) hk
     ·exact hP v s S' w' (hr.call ht hl hm hf) hk
 all_goals first | (exact quiet (by unfold opW at h ⊢; simp only [hop] at h ⊢; exact h)) | (unfold opW at h; simp only [hop] at h; done)
end
end R
namespace R
section
variable {P:Program} {ops:Array Oper} {Q:Exit→Act→WM→Prop} {md:Region.Mode} {D:WM→Prop}
def Nx (w w':WM):Prop:=Fr [] w w'∧NewOk w'
theorem Nx.trans {a b c:WM} (h:Nx a b) (k:Nx b c):Nx a c:=⟨h.1.trans k.1,k.2⟩
theorem Nx.refl {w:WM} (h:NewOk w):Nx w w:=⟨Fr.refl _ _,h⟩
theorem Nx.rely {w w1:WM} (h:NewOk w) (hr:Rely w w1):Nx w w1:=⟨Fr.rely [] hr,h.rely hr⟩
theorem Nx.drew {w:WM} (h:NewOk w):Nx w w.drew:=⟨Fr.drew _ _,h⟩
structure Cls (D:WM→Prop):Prop where
 new:∀ w,D w→NewOk w
 nx:∀ w w',D w→Nx w w'→D w'
theorem Cls.rely (h:Cls D) {w w1:WM} (hd:D w) (hr:Rely w w1):D w1:=h.nx _ _ hd (.rely (h.new w hd) hr)
theorem Qmi {s:Nat→Nat} {m:List RO} {x:Nat→Obj→Prop} {w1:WM}:Cls fun w=>Mem s m x w∧Fr [] w1 w:=
 ⟨fun w h=>h.1.new,fun w w' h hn=>⟨h.1.keep hn.1 hn.2,h.2.trans hn.1⟩⟩
def Yq (P:Program) (ops:Array Oper) (D:WM→Prop) (o:Oper) (v:Value) (a:Act):Prop:=
 (Region.wanted o (yielded ops a.tmps)=true∧(∀ c,o.op≠.defer c)∧∀ w,D w→qAt P o a w v) ∨
 (Region.wanted o (yielded ops a.tmps)=false∧v=undef)
theorem Yq.of_same {o:Oper} {v:Value} {a a':Act} (hy:Yq P ops D o v a) (he:execOp a'.eval o=execOp a.eval o)
  (hw:Region.wanted o (yielded ops a'.tmps)=Region.wanted o (yielded ops a.tmps)):Yq P ops D o v a':=by
 unfold Yq qAt at *
 rw [he,hw]
 exact hy
theorem QBQ {o:Oper} {v:Value} {a:Act} (hC:Cls D) (hnd:∀ c,o.op≠.defer c) (hq:∀ w,D w→qAt P o a w v) {K:Act→WM→Prop} {w:WM} (hD:D w) (h:∀ w',Nx w w'→K (a.put o.dst v) w'):owp P o a w K Q:=
 ⟨hnd,fun w1 hr=>Qs6 (hC.new _ (hC.rely hD hr)) (hq _ (hC.rely hD hr)) fun w' hf hn=>h w' ((Nx.rely (hC.new _ hD) hr).trans ⟨hf,hn⟩)⟩
theorem Yq.wpOp {i:Nat} {o:Oper} {v:Value} {a:Act} (hC:Cls D) (hi:ops[i]? = some o) (hy:Yq P ops D o v a)
  {K:Act→WM→Prop} {w:WM} (hD:D w) (h:∀ w',Nx w w'→K (a.put o.dst v) w'):wpOp P ops Q i K a w:=by
 unfold R.wpOp
 simp only [hi]
 rcases hy with ⟨hw,hnd,hv⟩ | ⟨hw,rfl⟩
 ·simp only [hw,if_true]; exact QBQ hC hnd hv hD h
 ·simp only [hw,Bool.false_eq_true,if_false]; exact h _ (.refl (hC.new _ hD))
theorem Qth {j:Nat} {oi oj:Oper} {v:Value} (hj:ops[j]? = some oj) (hap:oi.apart ops oj=true)
  (hsi:∀ cs b,oi.op≠.select cs b) (hsj:∀ cs b,oj.op≠.select cs b)
  (hQ:∀ c a w,Q (.panic c) (a.put oi.dst v) w→Q (.panic c) a w) {K:Act→WM→Prop} {a:Act} {w:WM}
  (hy:Yq P ops D oi v a) (h:wpOp P ops Q j K (a.put oi.dst v) w) :
  wpOp P ops Q j (fun a' w'=>Yq P ops D oi v a'∧K (a'.put oi.dst v) w') a w:=by
 obtain ⟨h1,h2,h3⟩:=Oper.apart_spec hap
 have keep:∀ (a:Act),Yq P ops D oi v a→∀ u,Yq P ops D oi v (a.put oj.dst u):=fun a hy u=>
  hy.of_same (execOp_put oi hsi a oj.dst u h3) (wanted_put oi a oj.dst u h3)
 unfold R.wpOp at *
 simp only [hj] at *
 rw [wanted_put oj a oi.dst v h1] at h
 split
 ·rename_i hw
  simp only [hw,if_true] at h
  refine ⟨h.1,fun w1 hr=>?_⟩
  have h4:=h.2 w1 hr
  rw [execOp_put oj hsj a oi.dst v h1] at h4
  generalize (execOp a.eval oj).run P w1.w=r at *
  generalize (execOp a.eval oj).events P w1.w #[]=es at *
  unfold upon at h4 ⊢
  split at h4
  ·exact ⟨h4.1,keep a hy _,by rw [←Act.put_comm a v _ h2]; exact h4.2⟩
  ·exact ⟨h4.1,keep a hy _,by rw [←Act.put_comm a v undef h2]; exact h4.2⟩
  ·refine ⟨h4.1,h4.2.mono fun e w'' he=>?_⟩
   cases e with
   | returned u=>exact ⟨keep a hy u,by rw [←Act.put_comm a v u h2]; exact he⟩
   | panicked c=>exact hQ _ _ _ he
   | outgrown=>exact he
  ·refine ⟨h4.1,h4.2.mono fun e w'' he=>?_⟩
   cases e with
   | returned u=>exact ⟨keep a hy u,by rw [←Act.put_comm a v u h2]; exact he⟩
   | panicked c=>exact hQ _ _ _ he
   | outgrown=>exact he
  ·exact ⟨h4.1,hQ _ _ _ h4.2⟩
  ·exact h4.elim
 ·rename_i hw
  simp only [hw,Bool.false_eq_true,if_false] at h
  exact ⟨keep a hy _,by rw [←Act.put_comm a v undef h2]; exact h⟩
def wpX (P:Program) (md:Region.Mode) (ops:Array Oper) (Q:Exit→Act→WM→Prop) (D:WM→Prop):Nat→Array Bool→Act→WM→Prop
 | 0,listed,a,w=>Region.ready md ops listed=[]∧Q .normal a w
 | f+1,listed,a,w=>
  (Region.ready md ops listed=[]→Q .normal a w) ∧
  ∀ i∈Region.ready md ops listed,wpOp P ops Q i (fun a' w'=>D w'∧∀ w'',Nx w' w''→wpX P md ops Q D f (listed.setIfInBounds i true) a' w'') a w
theorem QfI (hC:Cls D):∀ (f:Nat) (listed:Array Bool) (a:Act) (w:WM),wpX P md ops Q D f listed a w→wpAny P md ops Q f listed a w
 | 0,_,_,_,h=>h
 | f+1,_,_,_,h=>⟨h.1,fun i hi=>QcA (fun a' w' h'=>QfI hC f _ a' w' (h'.2 w' (.refl (hC.new _ h'.1)))) (h.2 i hi)⟩
theorem Qka {i:Nat} {oi:Oper} {v:Value} (hC:Cls D) (hi:ops[i]? = some oi) (hsel:∀ (j:Nat) (o:Oper) cs b,ops[j]? = some o→o.op≠.select cs b)
  (hQ:∀ c a w,Q (.panic c) (a.put oi.dst v) w→Q (.panic c) a w) :
  ∀ (f:Nat) (listed:Array Bool) (a:Act) (w:WM),
   (∀ j oj,ops[j]? = some oj→j≠i→listed.getD j true=false→(∀ e∈oj.after,Region.binds md e=true→e.on≠i)→oi.apart ops oj=true) →
   i∈Region.ready md ops listed→Yq P ops D oi v a→D w →
   (∀ w',Nx w w'→wpX P md ops Q D f (listed.setIfInBounds i true) (a.put oi.dst v) w')→wpX P md ops Q D (f+1) listed a w:=by
 intro f
 induction f with
 | zero=>
  intro listed a w _ hr hy hd H
  refine ⟨fun h=>(by rw [h] at hr; cases hr),fun j hj=>?_⟩
  by_cases hji:j=i
  ·subst hji; exact hy.wpOp hC hi hd fun w' hw'=>⟨hC.nx _ _ hd hw',fun w'' hw''=>H w'' (hw'.trans hw'')⟩
  ·have:=ready_mono hj hji
   rw [(H w (.refl (hC.new _ hd))).1] at this
   cases this
 | succ f ih=>
  intro listed a w hfree hr hy hd H
  have hun:=(mem_ready.1 hr).1
  refine ⟨fun h=>(by rw [h] at hr; cases hr),fun j hj=>?_⟩
  by_cases hji:j=i
  ·subst hji; exact hy.wpOp hC hi hd fun w' hw'=>⟨hC.nx _ _ hd hw',fun w'' hw''=>H w'' (hw'.trans hw'')⟩
  ·have h1:=(H w (.refl (hC.new _ hd))).2 j (ready_mono hj hji)
   obtain ⟨hjun,oj,hoj,hall⟩:=mem_ready.1 hj
   have hnot:∀ e∈oj.after,Region.binds md e=true→e.on≠i:=fun e he hb heq=>by
    have h1:=hall e he hb
    rw [heq,getD_both hun] at h1
    cases h1
   have h2:=Qth hoj (hfree j oj hoj hji hjun hnot) (fun cs b=>hsel i oi cs b hi) (fun cs b=>hsel j oj cs b hoj) hQ hy h1
   have hfree':∀ k ok,ops[k]? = some ok→k≠i→(listed.setIfInBounds j true).getD k true=false →
     (∀ e∈ok.after,Region.binds md e=true→e.on≠i)→oi.apart ops ok=true:=fun k ok hk hki hun hno=>by
    refine hfree k ok hk hki ?_ hno
    by_cases hjk:j=k
    ·subst hjk; exact hjun
    ·rw [getD_set_ne true hjk] at hun; exact hun
   refine QcA (fun a' w' h3=>⟨h3.2.1,fun w'' hw''=>ih (listed.setIfInBounds j true) a' w'' hfree' (ready_mono hr (Ne.symm hji)) h3.1 (hC.nx _ _ h3.2.1 hw'') ?_⟩) h2
   intro w3 hw3
   rw [Array.setIfInBounds_comm _ _ hji]
   exact h3.2.2 w3 (hw''.trans hw3)
def headR (P:Program) (ops:Array Oper) (D:WM→Prop) (L:Act→Prop):List Oper→Act→Prop
 | [],a=>L a
 | o :: l,a=>∃ v,Yq P ops D o v a∧headR P ops D L l (a.put o.dst v)
theorem QiS {L L':Act→Prop} (h:∀ a,L a→L' a):∀ (l:List Oper) (a:Act),headR P ops D L l a→headR P ops D L' l a
 | [],a,hh=>h a hh
 | o :: l,a,⟨v,h1,h2⟩=>⟨v,h1,QiS h l _ h2⟩
theorem Qkb {g n:Nat} {L:Act→Prop} (hC:Cls D) (hsel:Region.noSelect ops=true) (hQ:∀ c a d v w,Q (.panic c) (a.put d v) w→Q (.panic c) a w)
  (hL:∀ listed a w,Region.seqB md ops g n listed=true→L a→D w→wpX P md ops Q D g listed a w) :
  ∀ (l:List Oper) (k:Nat) (listed:Array Bool) (a:Act) (w:WM),(∀ j,j < l.length→l[j]? = ops[k+j]?)→k+l.length=n →
  Region.lexHead md ops g l.length k listed=true→headR P ops D L l a→D w→wpX P md ops Q D (l.length+g) listed a w
 | [],k,listed,a,w,_,hk,hB,h,hd=>by
  have:k=n:=by simpa using hk
  subst this
  simp only [List.length_nil,Nat.zero_add]
  exact hL listed a w (by simpa [Region.lexHead] using hB) h hd
 | o :: l,k,listed,a,w,hl,hk,hB,h,hd=>by
  have h0:ops[k]? = some o:=by simpa using (hl 0 (by simp)).symm
  simp only [List.length_cons,Region.lexHead,Bool.and_eq_true] at hB
  obtain ⟨⟨hr,hf⟩,hB'⟩:=hB
  have hr':k∈Region.ready md ops listed:=by simpa using hr
  obtain ⟨v,hy,hK⟩:=h
  rw [List.length_cons,show l.length+1+g=(l.length+g)+1 by omega]
  exact Qka hC h0 (Region.noSelect_spec hsel) (fun c a w=>hQ c a _ _ w) _ listed a w (Region.free_spec h0 hf) hr' hy hd fun w' hw'=>
   Qkb hC hsel hQ hL l (k+1) _ _ w' (fun j hj=>by have:=hl (j+1) (by simp; omega); simpa [Nat.add_assoc,Nat.add_comm 1 j] using this) (by simp only [List.length_cons] at hk; omega) hB' hK (hC.nx _ _ hd hw')
def yOp (P:Program) (ops:Array Oper) (D:WM→Prop) (i:Nat) (K:Act→Prop) (a:Act):Prop:=
 match ops[i]? with
 | none=>K a
 | some o=>∃ v,Yq P ops D o v a∧K (a.put o.dst v)
theorem QGi {i:Nat} {K K':Act→Prop} {a:Act} (h:∀ a,K a→K' a) (hh:yOp P ops D i K a):yOp P ops D i K' a:=by
 unfold yOp at *
 split
 ·rename_i ho; simp only [ho] at hh; exact h _ hh
 ·rename_i o ho
  simp only [ho] at hh
  obtain ⟨v,h1,h2⟩:=hh
  exact ⟨v,h1,h _ h2⟩
theorem Yq.yOp {i:Nat} {o:Oper} {v:Value} {a:Act} (hi:ops[i]? = some o) (hy:Yq P ops D o v a) {K:Act→Prop} (h:K (a.put o.dst v)):yOp P ops D i K a:=by
 unfold R.yOp
 simp only [hi]
 exact ⟨v,hy,h⟩
theorem QGj {j:Nat} {oi oj:Oper} {v:Value} (hj:ops[j]? = some oj) (hap:oi.apart ops oj=true)
  (hsi:∀ cs b,oi.op≠.select cs b) (hsj:∀ cs b,oj.op≠.select cs b) {K:Act→Prop} {a:Act}
  (hy:Yq P ops D oi v a) (h:yOp P ops D j K (a.put oi.dst v)):yOp P ops D j (fun a'=>Yq P ops D oi v a'∧K (a'.put oi.dst v)) a:=by
 obtain ⟨h1,h2,h3⟩:=Oper.apart_spec hap
 unfold R.yOp at *
 simp only [hj] at *
 obtain ⟨u,hu,hk⟩:=h
 exact ⟨u,hu.of_same (execOp_put oj hsj a oi.dst v h1).symm (wanted_put oj a oi.dst v h1).symm,
  hy.of_same (execOp_put oi hsi a oj.dst u h3) (wanted_put oi a oj.dst u h3),by rw [←Act.put_comm a v u h2]; exact hk⟩
def wpAnyQL (P:Program) (md:Region.Mode) (ops:Array Oper) (D:WM→Prop) (n:Nat) (L:Array Bool→Act→Prop):Nat→Array Bool→Act→Prop
 | 0,listed,a=>L listed a
 | f+1,listed,a=>
  Region.ready md ops listed≠[]∧∀ i∈Region.ready md ops listed,i < n∧yOp P ops D i (wpAnyQL P md ops D n L f (listed.setIfInBounds i true)) a
theorem Qj8 {n g:Nat} {L:Array Bool→Act→Prop} (hC:Cls D) (hL:∀ listed a w,D w→L listed a→wpAny P md ops Q g listed a w) :
  ∀ (f:Nat) (listed:Array Bool) (a:Act) (w:WM),D w→wpAnyQL P md ops D n L f listed a→wpAny P md ops Q (f+g) listed a w
 | 0,listed,a,w,hw,h=>by rw [Nat.zero_add]; exact hL _ _ _ hw h
 | f+1,listed,a,w,hw,h=>by
  rw [show f+1+g=(f+g)+1 by omega]
  refine ⟨fun h0=>absurd h0 h.1,fun i hi=>?_⟩
  have h1:=(h.2 i hi).2
  unfold yOp at h1
  cases ho:ops[i]? with
  | none=>
   simp only [ho] at h1
   unfold wpOp
   simp only [ho]
   exact Qj8 hC hL f _ a w hw h1
  | some o=>
   simp only [ho] at h1
   obtain ⟨v,h2,h3⟩:=h1
   exact h2.wpOp hC ho hw fun w' hw'=>Qj8 hC hL f _ _ w' (hC.nx _ _ hw hw') h3
theorem QGg {n i:Nat} {oi:Oper} {v:Value} {L:Array Bool→Act→Prop} (hi:ops[i]? = some oi) (hsel:∀ (j:Nat) (o:Oper) cs b,ops[j]? = some o→o.op≠.select cs b)
  (hs:Region.sinkB md ops n=true) (hc:Region.chainB md ops n=true) (hn:n < ops.size) (hin:i < n)
  (hdone:∀ listed a,L listed a→∀ j∈Region.ready md ops listed,n≤j) :
  ∀ (f:Nat) (listed:Array Bool) (a:Act),HeadInv md ops n listed →
   (∀ j oj,ops[j]? = some oj→j≠i→listed.getD j true=false→(∀ e∈oj.after,Region.binds md e=true→e.on≠i)→oi.apart ops oj=true) →
   i∈Region.ready md ops listed→Yq P ops D oi v a →
   wpAnyQL P md ops D n L f (listed.setIfInBounds i true) (a.put oi.dst v)→wpAnyQL P md ops D n L (f+1) listed a:=by
 intro f
 induction f with
 | zero=>
  intro listed a inv _ hr hy H
  have hun:=(mem_ready.1 hr).1
  refine ⟨fun h=>(by rw [h] at hr; cases hr),fun j hj=>?_⟩
  have hjn:j < n:=by
   rcases Nat.lt_or_ge j n with h | h
   ·exact h
   ·exact absurd hj (tail_waits hs hc hn inv _ i rfl hin hun j h)
  refine ⟨hjn,?_⟩
  by_cases hji:j=i
  ·subst hji; exact hy.yOp hi H
  ·have:=hdone _ _ H j (ready_mono hj hji)
   omega
 | succ f ih=>
  intro listed a inv hfree hr hy H
  have hun:=(mem_ready.1 hr).1
  refine ⟨fun h=>(by rw [h] at hr; cases hr),fun j hj=>?_⟩
  have hjn:j < n:=by
   rcases Nat.lt_or_ge j n with h | h
   ·exact h
   ·exact absurd hj (tail_waits hs hc hn inv _ i rfl hin hun j h)
  refine ⟨hjn,?_⟩
  by_cases hji:j=i
  ·subst hji; exact hy.yOp hi H
  ·have h1:=(H.2 j (ready_mono hj hji)).2
   obtain ⟨hjun,oj,hoj,hall⟩:=mem_ready.1 hj
   have hnot:∀ e∈oj.after,Region.binds md e=true→e.on≠i:=fun e he hb heq=>by
    have h1:=hall e he hb
    rw [heq,getD_both hun] at h1
    cases h1
   have h2:=QGj hoj (hfree j oj hoj hji hjun hnot) (fun cs b=>hsel i oi cs b hi) (fun cs b=>hsel j oj cs b hoj) hy h1
   have hfree':∀ k ok,ops[k]? = some ok→k≠i→(listed.setIfInBounds j true).getD k true=false →
     (∀ e∈ok.after,Region.binds md e=true→e.on≠i)→oi.apart ops ok=true:=fun k ok hk hki hun hno=>by
    refine hfree k ok hk hki ?_ hno
    by_cases hjk:j=k
    ·subst hjk; exact hjun
    ·rw [getD_set_ne true hjk] at hun; exact hun
   refine QGi (fun a' h3=>ih (listed.setIfInBounds j true) a' (inv.set hj hjn) hfree' (ready_mono hr (Ne.symm hji)) h3.1 ?_) h2
   rw [Array.setIfInBounds_comm _ _ hji]
   exact h3.2
theorem Qtd {n g:Nat} {Lq:Act→Prop} (hsel:Region.noSelect ops=true) (hs:Region.sinkB md ops n=true) (hc:Region.chainB md ops n=true) (hn:n < ops.size) :
  ∀ (l:List Oper) (k:Nat) (listed:Array Bool) (a:Act),(∀ j,j < l.length→l[j]? = ops[k+j]?)→k+l.length=n→HeadInv md ops n listed →
  Region.lexHead md ops g l.length k listed=true→headR P ops D Lq l a →
  wpAnyQL P md ops D n (fun listed' a'=>Region.seqB md ops g n listed'=true∧Lq a') l.length listed a
 | [],k,listed,a,_,hk,_,hB,h=>by
  have:k=n:=by simpa using hk
  subst this
  exact ⟨by simpa [Region.lexHead] using hB,h⟩
 | o :: l,k,listed,a,hl,hk,inv,hB,h=>by
  have h0:ops[k]? = some o:=by simpa using (hl 0 (by simp)).symm
  simp only [List.length_cons,Region.lexHead,Bool.and_eq_true] at hB
  obtain ⟨⟨hr,hf⟩,hB'⟩:=hB
  have hkn:k < n:=by simp only [List.length_cons] at hk; omega
  have hr':k∈Region.ready md ops listed:=by simpa using hr
  obtain ⟨v,hy,hK⟩:=h
  exact QGg h0 (Region.noSelect_spec hsel) hs hc hn hkn (fun listed' a' hL=>seqB_ready hL.1) l.length listed a inv (Region.free_spec h0 hf) hr' hy
   (Qtd hsel hs hc hn l (k+1) _ _ (fun j hj=>by have:=hl (j+1) (by simp; omega); simpa [Nat.add_assoc,Nat.add_comm 1 j] using this) (by simp only [List.length_cons] at hk; omega) (inv.set hr' hkn) hB' hK)
theorem Qtg:∀ (l:List Oper) (k:Nat) (listed:Array Bool) (a:Act) (w:WM),(∀ j,l[j]? = ops[k+j]?) →
  Region.seqB md ops l.length k listed=true→wpList P ops Q l a w→wpAny P md ops Q l.length listed a w
 | [],_,_,_,_,_,hB,h=>⟨by simpa [Region.seqB] using hB,h⟩
 | o :: l,k,listed,a,w,hl,hB,h=>by
  have h0:ops[k]? = some o:=by simpa using (hl 0).symm
  simp only [List.length_cons,Region.seqB,Bool.and_eq_true,decide_eq_true_eq] at hB
  refine ⟨fun h1=>(by rw [hB.1] at h1; cases h1),fun i hi=>?_⟩
  rw [hB.1] at hi
  have hik:i=k:=by simpa using hi
  subst hik
  have hw:wpOp P ops Q i (wpList P ops Q l) a w:=by unfold wpOp; simp only [h0]; exact h
  exact QcA (fun a' w' h'=>Qtg l (i+1) _ a' w' (fun j=>by have:=hl (j+1); simpa [Nat.add_assoc,Nat.add_comm 1 j] using this) hB.2 h') hw
theorem QtV {rn:Bool} {id:Nat} {a:Act} {w:WM} (n:Nat) (hC:Cls D) (hm:P.follows .mixedOrders=true) (hB:Region.lexTailB .any ops n=true)
  (hD:∀ w1,Rely w w1→D w1.drew) (h:headR P ops D (fun a'=>∀ w',D w'→wpList P ops Q (ops.toList.drop n) a' w') (ops.toList.take n) a):Wp P rn (.region id ops true) Q a w:=by
 simp only [Region.lexTailB,Bool.and_eq_true,decide_eq_true_eq] at hB
 obtain ⟨⟨⟨⟨hsel,hn⟩,hs⟩,hc⟩,hlex⟩:=hB
 have htl:(ops.toList.take n).length=n:=by simp; omega
 have hdl:(ops.toList.drop n).length=ops.size - n:=by simp
 have inv0:HeadInv .any ops n (Array.replicate ops.size false):=
  ⟨by simp,fun j oj _ hl=>(by rw [getD_replicate_false] at hl; cases hl),fun t _ ht=>getD_in (by simpa using ht) (getD_replicate_false _ _)⟩
 have H:=Qtd (md:=.any) (g:=ops.size - n) hsel hs hc hn (ops.toList.take n) 0 _ a (fun j hj=>by
  have hj':j < n:=by rw [htl] at hj; exact hj
  simp [hj']) (by simpa using htl) inv0 (by rw [htl]; exact hlex) h
 refine Qec hm fun w1 hr=>?_
 have:=Qj8 (Q:=Q) (g:=ops.size - n) hC (fun listed a' w' hw' hL=>by
  have:=Qtg (md:=.any) (Q:=Q) (ops.toList.drop n) n listed a' w' (fun j=>by simp [List.getElem?_drop]) (by rw [hdl]; exact hL.1) (hL.2 w' hw')
  rwa [hdl] at this) _ _ _ _ (hD w1 hr) H
 rw [htl,show n+(ops.size - n)=ops.size by omega] at this
 exact this
theorem Qpj:∀ (f k:Nat) (listed:Array Bool),Region.lexFrom md ops f k listed=true→Region.lexHead md ops 0 f k listed=true
 | 0,k,listed,h=>by simpa [Region.lexFrom,Region.lexHead,Region.seqB] using h
 | f+1,k,listed,h=>by
  simp only [Region.lexFrom,Region.lexHead,Bool.and_eq_true] at h ⊢
  exact ⟨h.1,Qpj f _ _ h.2⟩
theorem QBP {o:Oper} {a:Act} {w:WM} {next:Act→WM→Prop} {Q':Exit→Act→WM→Prop} (h:owp P o a w next Q) (hq:∀ e a w,Q e a w→Q' e a w):owp P o a w next Q':=⟨h.1,fun w1 hr=>by
 have h1:=h.2 w1 hr
 revert h1
 generalize (execOp a.eval o).run P w1.w=r
 intro h1
 unfold upon at h1 ⊢
 split at h1
 ·exact h1
 ·exact h1
 ·refine ⟨h1.1,h1.2.mono fun e w' he=>?_⟩
  cases e with
  | returned v=>exact he
  | panicked ch=>exact hq _ _ _ he
  | outgrown=>exact he
 ·refine ⟨h1.1,h1.2.mono fun e w' he=>?_⟩
  cases e with
  | returned v=>exact he
  | panicked ch=>exact hq _ _ _ he
  | outgrown=>exact he
 ·exact ⟨h1.1,hq _ _ _ h1.2⟩
 ·exact h1.elim⟩
theorem Qte {Q':Exit→Act→WM→Prop} (hq:∀ e a w,Q e a w→Q' e a w):∀ (f:Nat) (listed:Array Bool) (a:Act) (w:WM),wpAny P md ops Q f listed a w→wpAny P md ops Q' f listed a w
 | 0,_,_,_,h=>⟨h.1,hq _ _ _ h.2⟩
 | f+1,_,a,w,h=>⟨fun h0=>hq _ _ _ (h.1 h0),fun i hi=>by
  have h1:=QcA (fun a' w' h'=>Qte hq f _ a' w' h') (h.2 i hi)
  unfold wpOp at h1 ⊢
  split
  ·rename_i ho; simp only [ho] at h1; exact h1
  ·rename_i o ho
   simp only [ho] at h1
   split
   ·rename_i hw; rw [if_pos hw] at h1; exact QBP h1 hq
   ·rename_i hw; rw [if_neg hw] at h1; exact h1⟩
theorem QtU {rn:Bool} {id:Nat} {a:Act} {w:WM} (hC:Cls D) (hm:P.follows .mixedOrders=true) (hB:Region.lexB .any ops=true)
  (hD:∀ w1,Rely w w1→D w1.drew) (h:headR P ops D (fun a'=>∀ w',D w'→Q .normal a' w') ops.toList a):Wp P rn (.region id ops true) Q a w:=by
 simp only [Region.lexB,Bool.and_eq_true] at hB
 refine Qec hm fun w1 hr=>?_
 let Qn:Exit→Act→WM→Prop:=fun e a w=>e=.normal∧Q .normal a w
 have:=Qkb (Q:=Qn) (md:=.any) (g:=0) (n:=ops.size) hC hB.1 (fun c a d v w hh=>by cases hh.1) (fun listed a w hs hL hd=>⟨by simpa [Region.seqB] using hs,rfl,hL w hd⟩) ops.toList 0 (Array.replicate ops.size false) a w1.drew
  (by simp) (by simp) (by simpa using Qpj _ _ _ hB.2) h (hD w1 hr)
 simp only [Array.length_toList,Nat.add_zero] at this
 exact Qte (Q:=Qn) (fun e a w hh=>by obtain ⟨rfl,h2⟩:=hh; exact h2) _ _ _ _ (QfI hC _ _ _ _ this)
end
inductive Yd where
 | no
 | yes (d:Nat) (b:Bool)
def ydV (d:Nat) (v:RV):Yd:=match v with | .ext (.bool b)=>.yes d b | _=>.no
def ydO (S:St) (o:Option Oper):Option Yd:=
 match o with
 | none=>some .no
 | some o=>match o.dst with
  | none=>some .no
  | some d=>(lk S.t d).map (ydV d)
def yd (S:St) (ops:Array Oper) (j:Nat):Option Yd:=ydO S ops[j]?
def gdW (y:Yd) (want:Bool) (S:St) (A B:St→Prop):Prop:=
 match y with
 | .no=>B S
 | .yes d b=>ifB b fun b=>bif (b == want) then A (S.put (some d) (.ext (.bool b))) else B (S.put (some d) (.ext (.bool b)))
@[congr] theorem gdW_congr {y:Yd} {want:Bool} {S:St} {A B:St→Prop} {y':Yd} (h:hold y=y'):gdW y want S A B=gdW y' want S A B:=by rw [←h]; rfl
def opsW (P:Program) (ops:Array Oper):List Oper→St→(St→Prop)→(Value→St→Prop)→Prop
 | [],S,K,_=>K S
 | o :: r,S,K,Pn=>
  match o.guard with
  | none=>opW P false S o (fun v S'=>opsW P ops r (S'.put o.dst v) K Pn) Pn
  | some g=>bindV (yd S ops g.1) fun y=>gdW y g.2 S
    (fun S=>opW P false S o (fun v S'=>opsW P ops r (S'.put o.dst v) K Pn) Pn)
    (fun S=>opsW P ops r (S.put o.dst (.ext undef)) K Pn)
@[congr] theorem opsW_congr {P:Program} {ops:Array Oper} {l:List Oper} {S S':St} {K:St→Prop} {Pn:Value→St→Prop} (h:hold S=S'):opsW P ops l S K Pn=opsW P ops l S' K Pn:=by rw [←h]; rfl
def headW (P:Program) (ops:Array Oper):List Oper→St→(St→Prop)→Prop
 | [],S,K=>K S
 | o :: r,S,K=>
  match o.guard with
  | none=>opW P true S o (fun v S'=>headW P ops r (S'.put o.dst v) K) (fun _ _=>False)
  | some g=>bindV (yd S ops g.1) fun y=>gdW y g.2 S
    (fun S=>opW P true S o (fun v S'=>headW P ops r (S'.put o.dst v) K) (fun _ _=>False))
    (fun S=>headW P ops r (S.put o.dst (.ext undef)) K)
@[congr] theorem headW_congr {P:Program} {ops:Array Oper} {l:List Oper} {S S':St} {K:St→Prop} (h:hold S=S'):headW P ops l S K=headW P ops l S' K:=by rw [←h]; rfl
def dOk (n:Nat) (l:List Oper):Bool:=l.all fun o=>match o.dst with | some d=>decide (d < n) | none=>true
theorem Qb2 {n:Nat} {o:Oper} {l:List Oper} (h:dOk n (o :: l)=true):(∀ i,o.dst=some i→i < n)∧dOk n l=true:=by
 simp only [dOk,List.all_cons,Bool.and_eq_true] at h
 refine ⟨fun i hi=>?_,h.2⟩
 have:=h.1
 rw [hi] at this
 simpa using this
section
variable {P:Program} {w w0:WM} {s:Nat→Nat} {S:St} {bs:List Nat} {n:Nat} {ds:List Deferred} {ops:Array Oper}
theorem Qkg {a:Act} (h:Sl s S a) (hz:a.tmps.size=n) {l:List Oper} (hd:dOk n l=true) {j:Nat} {y:Yd} (hl:∀ o,ops[j]? = some o→o∈l) (hy:yd S ops j=some y) :
  yielded ops a.tmps j=(match y with | .no=>none | .yes _ b=>some b) ∧
   ∀ d b,y=.yes d b→Sl s (S.put (some d) (.ext (.bool b))) a:=by
 unfold yd ydO at hy
 unfold yielded
 cases ho:ops[j]? with
 | none=>simp only [ho,Option.some.injEq] at hy; subst hy; exact ⟨rfl,fun d b e=>by cases e⟩
 | some o=>
  simp only [ho] at hy
  cases hdd:o.dst with
  | none=>simp only [hdd,Option.some.injEq] at hy; subst hy; exact ⟨by simp [hdd],fun d b e=>by cases e⟩
  | some d=>
   simp only [hdd,Option.map_eq_some_iff] at hy
   obtain ⟨v,hv,rfl⟩:=hy
   have h1:=(h d v hv).1
   have hdn:d < a.tmps.size:=by
    have:=List.all_eq_true.1 hd o (hl o ho)
    rw [hdd] at this
    rw [hz]; simpa using this
   have hq:a.tmps[d]? = some (ren s v):=by
    rw [Array.getD_eq_getD_getElem?] at h1
    simp only [hdn,Array.getElem?_eq_getElem,Option.getD_some] at h1 ⊢
    rw [h1]
   simp only [Option.bind_some,hdd,hq]
   refine ⟨?_,?_⟩
   ·cases v with
    | ext u=>cases u <;> rfl
    | _=>rfl
   ·intro d' b e
    have:v=.ext (.bool b)∧d'=d:=by
     cases v with
     | ext u=>
      cases u <;> simp only [ydV,Yd.yes.injEq,reduceCtorEq] at e
      exact ⟨by rw [e.2],e.1.symm⟩
     | _=>cases e
    obtain ⟨rfl,rfl⟩:=this
    intro i u hi
    simp only [St.put,Qa7] at hi
    split at hi
    ·rename_i e'
     simp only [Option.some.injEq] at hi
     subst hi; subst e'
     exact ⟨h1,rfl⟩
    ·exact h i u hi
theorem Rep.again {a:Act} (hr:Rep bs w0 n ds s S a w) {d:Nat} {v:RV} (h:Sl s (S.put (some d) v) a):Rep bs w0 n ds s (S.put (some d) v) a w:=
 ⟨hr.mr,hr.own,hr.fr,hr.size,h,hr.df⟩
theorem Qcu {K:St→Prop} {Pn:Value→St→Prop} {Q:Exit→Act→WM→Prop} (hall:dOk n ops.toList=true)
  (hK:∀ s S a w,Rep bs w0 n ds s S a w→K S→Q .normal a w)
  (hP:∀ u s S a w,Rep bs w0 n ds s S a w→Pn u S→Q (.panic [{ v:=u,recovered:=false }]) a w) :
  ∀ (l:List Oper) (s:Nat→Nat) (S:St) (a:Act) (w:WM),dOk n l=true→Rep bs w0 n ds s S a w→opsW P ops l S K Pn→wpList P ops Q l a w
 | [],s,S,a,w,_,hr,h=>hK s S a w hr h
 | o :: l,s,S,a,w,hd,hr,h=>by
  obtain ⟨hd1,hd2⟩:=Qb2 hd
  have run:∀ S,Rep bs w0 n ds s S a w→opW P false S o (fun v S'=>opsW P ops l (S'.put o.dst v) K Pn) Pn→owp P o a w (wpList P ops Q l) Q:=fun S hr h=>
   Qcs hr h (fun s' v S' w' _ hv hr' hk=>Qcu hall hK hP l s' _ _ w' hd2 (hr'.put hd1 hv) hk) (fun u s' S' w' hr' hp=>hP u s' S' a w' hr' hp)
  unfold opsW at h
  unfold wpList
  cases hg:o.guard with
  | none=>
   simp only [hg] at h
   simp only [Region.wanted,hg,if_true]
   exact run S hr h
  | some g=>
   obtain ⟨j,want⟩:=g
   simp only [hg] at h
   obtain ⟨y,hy,h⟩:=Qak h
   obtain ⟨hyl,hys⟩:=Qkg hr.sl hr.size hall (fun o ho=>Array.mem_toList_iff.2 (Array.mem_of_getElem? ho)) hy
   simp only [Region.wanted,hg,hyl]
   cases y with
   | no=>
    simp only [gdW] at h
    simp only [reduceCtorEq,beq_iff_eq,if_false]
    exact Qcu hall hK hP l s _ _ w hd2 (hr.put (v:=.ext undef) hd1 rfl) h
   | yes d b=>
    unfold gdW at h
    have h:=QcU h
    have hr2:=hr.again (hys d b rfl)
    by_cases hc:b=want
    ·subst hc
     simp only [beq_self_eq_true] at h
     simp only [beq_self_eq_true,if_true]
     exact run _ hr2 h
    ·have hb:(b == want)=false:=by simpa using hc
     simp only [hb] at h
     have:(some b == some want)=false:=by simpa using hc
     simp only [this,Bool.false_eq_true,if_false]
     exact Qcu hall hK hP l s _ _ w hd2 (hr2.put (v:=.ext undef) hd1 rfl) h
theorem QgO {K:St→Prop} {m:List RO} {x:Nat→Obj→Prop} {w1:WM} (hall:dOk n ops.toList=true) :
  ∀ (l:List Oper) (S:St) (a:Act),dOk n l=true→S.m=m→S.x=x→Sl s S a→Mem s m x w1→a.tmps.size=n→a.defers=ds→headW P ops l S K →
   headR P ops (fun w'=>Mem s m x w'∧Fr [] w1 w') (fun a'=>∃ S',S'.m=m∧S'.x=x∧Sl s S' a'∧a'.tmps.size=n∧a'.defers=ds∧K S') l a
 | [],S,a,_,hm,hx,hs,_,hz,hdf,h=>⟨S,hm,hx,hs,hz,hdf,h⟩
 | o :: l,S,a,hd,hm,hx,hs,hM,hz,hdf,h=>by
  obtain ⟨hd1,hd2⟩:=Qb2 hd
  have putSl:∀ (S:St) (v:RV),Sl s S a→clo S.m.length v=true→Sl s (S.put o.dst v) (a.put o.dst (ren s v))∧(a.put o.dst (ren s v)).tmps.size=n∧(a.put o.dst (ren s v)).defers=ds:=by
   intro S v hs hv
   cases ho:o.dst with
   | none=>exact ⟨hs,hz,hdf⟩
   | some d=>
    have hdn:=hd1 d ho
    refine ⟨?_,by simp [Act.put,hz],hdf⟩
    intro i u hi
    simp only [St.put,Qa7] at hi
    simp only [Act.put]
    rw [Qfg (by rw [hz]; exact hdn)]
    by_cases hid:i=d
    ·simp only [hid,if_true,Option.some.injEq] at hi ⊢
     subst hi
     exact ⟨rfl,hv⟩
    ·simp only [hid,if_false] at hi ⊢
     exact hs i u hi
  have run:∀ S:St,S.m=m→S.x=x→Sl s S a→opW P true S o (fun v S'=>headW P ops l (S'.put o.dst v) K) (fun _ _=>False) →
    Region.wanted o (yielded ops a.tmps)=true→headR P ops (fun w'=>Mem s m x w'∧Fr [] w1 w') (fun a'=>∃ S',S'.m=m∧S'.x=x∧Sl s S' a'∧a'.tmps.size=n∧a'.defers=ds∧K S') (o :: l) a:=by
   intro S hm hx hs h hwt
   have hM':Mem s S.m S.x w1:=by rw [hm,hx]; exact hM
   obtain ⟨v,h1,h2,h3⟩:=Qjf hs hM' h
   obtain ⟨p1,p2,p3⟩:=putSl S v hs h1
   exact ⟨ren s v,.inl ⟨hwt,Qg1 h,fun w' hw'=>h3 s a w' hs (by rw [hm,hx]; exact hw'.1)⟩,QgO hall l _ _ hd2 (by rw [St.put_m,hm]) (by rw [St.put_x,hx]) p1 hM p2 p3 h2⟩
  have skip:∀ S:St,S.m=m→S.x=x→Sl s S a→headW P ops l (S.put o.dst (.ext undef)) K→Region.wanted o (yielded ops a.tmps)=false →
    headR P ops (fun w'=>Mem s m x w'∧Fr [] w1 w') (fun a'=>∃ S',S'.m=m∧S'.x=x∧Sl s S' a'∧a'.tmps.size=n∧a'.defers=ds∧K S') (o :: l) a:=by
   intro S hm hx hs h hwt
   obtain ⟨p1,p2,p3⟩:=putSl S (.ext undef) hs rfl
   exact ⟨undef,.inr ⟨hwt,rfl⟩,QgO hall l _ _ hd2 (by rw [St.put_m,hm]) (by rw [St.put_x,hx]) p1 hM p2 p3 h⟩
  unfold headW at h
  cases hg:o.guard with
  | none=>
   simp only [hg] at h
   exact run S hm hx hs h (by simp only [Region.wanted,hg])
  | some g=>
   obtain ⟨j,want⟩:=g
   simp only [hg] at h
   obtain ⟨y,hy,h⟩:=Qak h
   obtain ⟨hyl,hys⟩:=Qkg hs hz hall (fun o ho=>Array.mem_toList_iff.2 (Array.mem_of_getElem? ho)) hy
   cases y with
   | no=>
    simp only [gdW] at h
    exact skip S hm hx hs h (by simp only [Region.wanted,hg,hyl]; rfl)
   | yes d b=>
    unfold gdW at h
    have h:=QcU h
    have hs2:=hys d b rfl
    by_cases hc:b=want
    ·subst hc
     simp only [beq_self_eq_true] at h
     exact run (S.put (some d) (.ext (.bool b))) hm hx hs2 h (by simp only [Region.wanted,hg,hyl,beq_self_eq_true])
    ·have hb:(b == want)=false:=by simpa using hc
     simp only [hb] at h
     exact skip (S.put (some d) (.ext (.bool b))) hm hx hs2 h (by simp only [Region.wanted,hg,hyl]; simpa using hc)
end
structure Ctx where
 bs:List Nat
 w0:WM
 n:Nat
 ds:List Deferred
def Lift (G:Ctx) (Q:Exit→St→Prop):Exit→Act→WM→Prop:=fun e a w=>∃ s S,Rep G.bs G.w0 G.n G.ds s S a w∧Q e S
def Sd (P:Program) (G:Ctx) (c:Code) (Q:Exit→St→Prop) (S:St):Prop:=∀ s a w,Rep G.bs G.w0 G.n G.ds s S a w→Wp P false c (Lift G Q) a w
@[congr] theorem Sd_congr {P:Program} {G:Ctx} {c:Code} {Q:Exit→St→Prop} {S S':St} (h:hold S=S'):Sd P G c Q S=Sd P G c Q S':=by rw [←h]; rfl
structure Wk (S S1:St):Prop where
 t:∀ i v,lk S1.t i=some v→lk S.t i=some v∧clo S1.m.length v=true
 m:∃ r,S.m=S1.m ++ r
 c:∀ (k:Nat) (o:RO),S1.m[k]? = some o→cloO S1.m.length o=true
 x:∀ b o,S1.x b o→S.x b o
theorem Wk.rep {G:Ctx} {S S1:St} {s:Nat→Nat} {a:Act} {w:WM} (hbs:G.bs=[]) (h:Wk S S1) (hr:Rep G.bs G.w0 G.n G.ds s S a w):Rep G.bs G.w0 G.n G.ds s S1 a w:=by
 obtain ⟨r,hr'⟩:=h.m
 have hlen:S1.m.length≤S.m.length:=by rw [hr']; simp
 refine ⟨⟨?_,?_,h.c,fun b o hb=>hr.mr.ext b o (h.x b o hb),?_,fun k hk=>hr.mr.mine k (by omega),fun b o hb=>hr.mr.know b o (h.x b o hb),hr.mr.wf⟩,?_,hr.fr,hr.size,?_,hr.df⟩
 ·intro k o hk
  refine hr.mr.mem k o ?_
  rw [hr',List.getElem?_append_left (List.getElem?_eq_some_iff.1 hk).1]
  exact hk
 ·intro j k hj hk he; exact hr.mr.inj j k (by omega) (by omega) he
 ·intro b o hb k hk; exact hr.mr.apart b o (h.x b o hb) k (by omega)
 ·have:=hr.own
  rw [hbs] at this ⊢
  exact .none fun k hk=>(this.mem (k:=k) (by omega)).resolve_left (by simp)
 ·intro i v hi
  obtain ⟨h1,h2⟩:=h.t i v hi
  exact ⟨(hr.slot i v h1).1,h2⟩
section
variable {P:Program} {G:Ctx} {Q:Exit→St→Prop} {S:St}
theorem QfK {c:Code} {Q':Exit→St→Prop} (h:Sd P G c Q S) (hq:∀ e S,Q e S→Q' e S):Sd P G c Q' S:=
 fun s a w hr=>(h s a w hr).mono fun e _ _ ⟨s,S,h1,h2⟩=>⟨s,S,h1,hq e S h2⟩
theorem QcC {c:Code} {S1:St} (hbs:G.bs=[]) (hw:Wk S S1) (h:Sd P G c Q S1):Sd P G c Q S:=fun s a w hr=>h s a w (hw.rep hbs hr)
theorem QtQ (h:Q .normal S):Sd P G .skip Q S:=fun s _ _ hr=>QfL ⟨s,S,hr,h⟩
theorem QtE {l:Nat} (h:Q .normal S):Sd P G (.label l) Q S:=fun s _ _ hr=>QtT ⟨s,S,hr,h⟩
theorem QtC {i:Nat} (h:Q (.exit i) S):Sd P G (.exit i) Q S:=fun s _ _ hr=>Qhw ⟨s,S,hr,h⟩
theorem QtD {i:Nat} (h:Q (.goto i) S):Sd P G (.goto i) Q S:=fun s _ _ hr=>QtS ⟨s,S,hr,h⟩
theorem QtO (h:Q .ret S):Sd P G .ret Q S:=fun s _ _ hr=>Qhx ⟨s,S,hr,h⟩
def thenW (K:St→Prop) (Q:Exit→St→Prop):Exit→St→Prop
 | .normal,S=>K S
 | e,S=>Q e S
theorem Qal {x y:Code} (h:Sd P G x (thenW (Sd P G y Q) Q) S):Sd P G (.seq x y) Q S:=fun s a w hr=>by
 refine QaO ((h s a w hr).mono ?_)
 rintro e a w ⟨s,S,h1,h2⟩
 cases e <;> first | exact h2 s a w h1 | exact ⟨s,S,h1,h2⟩
theorem Qtv {c:Operand} {x y:Code} (h:getX S c fun v=>condW v (Sd P G x Q S) (Sd P G y Q S)):Sd P G (.cond c x y) Q S:=fun s a w hr=>by
 obtain ⟨v,h1,h2⟩:=Qat h
 have e1:=(hr.sl.eval h1).1
 simp only [ren] at e1
 unfold condW at h2
 cases v with
 | bool t=>
  refine QeR (t:=t) e1 ?_
  have h2:=QcU h2
  cases t
  ·exact h2 s a w hr
  ·exact h2 s a w hr
 | _=>exact h2.elim
def inBlockW (id:Nat) (Q:Exit→St→Prop):Exit→St→Prop
 | .exit i,S=>if i=id then Q .normal S else Q (.exit i) S
 | e,S=>Q e S
theorem Qhu {id:Nat} {c:Code} (h:Sd P G c (inBlockW id Q) S):Sd P G (.block id c) Q S:=fun s a w hr=>by
 refine Qc6 ((h s a w hr).mono ?_)
 rintro e a w ⟨s,S,h1,h2⟩
 cases e with
 | exit i=>
  simp only [inBlockW] at h2
  simp only [inBlockA]
  split at h2
  ·rename_i hi; simp only [hi,if_true]; exact ⟨s,S,h1,h2⟩
  ·rename_i hi; simp only [hi,if_false]; exact ⟨s,S,h1,h2⟩
 | _=>exact ⟨s,S,h1,h2⟩
theorem QtF {c:Code} (I:St→Prop) (μ:St→Nat) (h0:∃ S1,Wk S S1∧I S1)
  (round:∀ S,I S→Sd P G c (thenW (fun S'=>∃ S1,Wk S' S1∧I S1∧μ S1 < μ S) Q) S) (hbs:G.bs=[]:=by rfl):Sd P G (.loop c) Q S:=by
 suffices ∀ m,∀ S,I S→μ S=m→Sd P G (.loop c) Q S by
  obtain ⟨S1,hw,hi⟩:=h0
  exact QcC hbs hw (this _ S1 hi rfl)
 intro m S hI hmm s a w hr
 refine Qeb (fun a w=>∃ s S,Rep G.bs G.w0 G.n G.ds s S a w∧I S∧True) (fun a w=>Classical.epsilon fun k=>∃ s S,Rep G.bs G.w0 G.n G.ds s S a w∧I S∧μ S=k∧∀ s' S',Rep G.bs G.w0 G.n G.ds s' S' a w→I S'→k≤μ S') ⟨s,S,hr,hI,trivial⟩ ?_
 clear hr hI hmm s a w S m
 rintro a w ⟨s,S,hr,hI,_⟩
 have hleast:∀ a w s S,Rep G.bs G.w0 G.n G.ds s S a w→I S→∃ k,∃ s S,Rep G.bs G.w0 G.n G.ds s S a w∧I S∧μ S=k∧∀ s' S',Rep G.bs G.w0 G.n G.ds s' S' a w→I S'→k≤μ S':=by
  intro a w
  suffices ∀ k,∀ s S,Rep G.bs G.w0 G.n G.ds s S a w→I S→μ S=k→∃ k,∃ s S,Rep G.bs G.w0 G.n G.ds s S a w∧I S∧μ S=k∧∀ s' S',Rep G.bs G.w0 G.n G.ds s' S' a w→I S'→k≤μ S' from
   fun s S h1 h2=>this _ s S h1 h2 rfl
  intro k
  induction k using Nat.strongRecOn with
  | _ k ih=>
   intro s S hr hI hk
   by_cases hl:∀ s' S',Rep G.bs G.w0 G.n G.ds s' S' a w→I S'→k≤μ S'
   ·exact ⟨k,s,S,hr,hI,hk,hl⟩
   ·simp only [Classical.not_forall] at hl
    obtain ⟨s',S',h1,h2,h3⟩:=hl
    exact ih (μ S') (by omega) s' S' h1 h2 rfl
 obtain ⟨s1,S1,hr1,hI1,hk1,hl1⟩:=Classical.epsilon_spec (hleast a w s S hr hI)
 refine (round S1 hI1 s1 a w hr1).mono ?_
 rintro e a' w' ⟨s',S',h1,h2⟩
 cases e with
 | normal=>
  obtain ⟨S2,hw2,hI2,hlt⟩:=h2
  have hr2:=hw2.rep hbs h1
  obtain ⟨s3,S3,hr3,hI3,hk3,hl3⟩:=Classical.epsilon_spec (hleast a' w' s' S2 hr2 hI2)
  refine ⟨⟨s',S2,hr2,hI2,trivial⟩,?_⟩
  have:=hl3 s' S2 hr2 hI2
  omega
 | _=>exact ⟨s',S',h1,h2⟩
theorem QtL {id:Nat} {ops:Array Oper} (hd:dOk G.n ops.toList=true) (h:opsW P ops ops.toList S (Q .normal) (fun u S=>Q (.panic [{ v:=u,recovered:=false }]) S)) :
  Sd P G (.region id ops false) Q S:=fun s a w hr=>
 Qkq (Qcu hd (fun s S _ _ hr h=>⟨s,S,hr,h⟩) (fun _ s S _ _ hr h=>⟨s,S,hr,h⟩) ops.toList s S a w hd hr h)
theorem Rep.drew {bs:List Nat} {w0:WM} {n:Nat} {ds:List Deferred} {s:Nat→Nat} {a:Act} {w:WM} (h:Rep bs w0 n ds s S a w):Rep bs w0 n ds s S a w.drew:=
 h.step (h.mr.keep (Fr.drew _ _) h.mr.new) (Fr.drew _ _)
theorem Qmx {bs:List Nat} {w0:WM} {n:Nat} {ds:List Deferred} {s:Nat→Nat} {a:Act} {w:WM} (h:Rep bs w0 n ds s S a w):∀ w1,Rely w w1→Mem s S.m S.x w1.drew∧Fr [] w w1.drew:=fun w1 hr=>
 ⟨(h.rely hr).drew.mr,(Fr.rely [] hr).trans (Fr.drew _ _)⟩
theorem Qtw {id:Nat} {ops:Array Oper} (hm:P.follows .mixedOrders=true) (hd:dOk G.n ops.toList=true) (hB:Region.lexB .any ops=true) (h:headW P ops ops.toList S (Q .normal)) :
  Sd P G (.region id ops true) Q S:=fun s a w hr=>by
 refine QtU (D:=fun w'=>Mem s S.m S.x w'∧Fr [] w w') Qmi hm hB (Qmx hr) ?_
 refine QiS ?_ _ _ (QgO (K:=Q .normal) (ds:=G.ds) hd ops.toList S a hd rfl rfl hr.sl hr.mr hr.size hr.df h)
 rintro a' ⟨S',h1,h2,h3,h4,h5,h6⟩ w' ⟨hM,hF⟩
 exact ⟨s,S',⟨by rw [h1,h2]; exact hM,by rw [h1]; exact hr.own,hr.fr.trans (hF.mono (by simp)),h4,h3,h5⟩,h6⟩
theorem QtA {id:Nat} {ops:Array Oper} (k:Nat) (hm:P.follows .mixedOrders=true) (hd:dOk G.n ops.toList=true) (hB:Region.lexTailB .any ops k=true)
  (h:headW P ops (ops.toList.take k) S fun S=>opsW P ops (ops.toList.drop k) S (Q .normal) (fun u S=>Q (.panic [{ v:=u,recovered:=false }]) S)) :
  Sd P G (.region id ops true) Q S:=fun s a w hr=>by
 have hdt:dOk G.n (ops.toList.take k)=true:=List.all_eq_true.2 fun o ho=>List.all_eq_true.1 hd o (List.mem_of_mem_take ho)
 have hdd:dOk G.n (ops.toList.drop k)=true:=List.all_eq_true.2 fun o ho=>List.all_eq_true.1 hd o (List.mem_of_mem_drop ho)
 refine QtV (D:=fun w'=>Mem s S.m S.x w'∧Fr [] w w') k Qmi hm hB (Qmx hr) ?_
 refine QiS ?_ _ _ (QgO (ds:=G.ds) hd (ops.toList.take k) S a hdt rfl rfl hr.sl hr.mr hr.size hr.df h)
 rintro a' ⟨S',h1,h2,h3,h4,h5,h6⟩ w' ⟨hM,hF⟩
 have hrep:Rep G.bs G.w0 G.n G.ds s S' a' w':=
  ⟨by rw [h1,h2]; exact hM,by rw [h1]; exact hr.own,hr.fr.trans (hF.mono (by simp)),h4,h3,h5⟩
 exact Qcu hd (fun s S _ _ hr h=>⟨s,S,hr,h⟩) (fun _ s S _ _ hr h=>⟨s,S,hr,h⟩) _ s S' a' w' hdd hrep h6
def noGotoW (Q:Exit→St→Prop):Exit→St→Prop
 | .goto _,_=>False
 | e,S=>Q e S
theorem QtP {c:Code} (h:Sd P G c (noGotoW Q) S):Sd P G (.scope c) Q S:=fun s a w hr=>by
 refine QtX ((h s a w hr).mono ?_)
 rintro e a w ⟨s,S,h1,h2⟩
 cases e <;> first | exact h2.elim | exact ⟨s,S,h1,h2⟩
def cOk (n:Nat):Code→Bool
 | .region _ ops _=>dOk n ops.toList
 | .seq a b=>cOk n a && cOk n b
 | .cond _ a b=>cOk n a && cOk n b
 | .block _ c=>cOk n c
 | .loop c=>cOk n c
 | .scope c=>cOk n c
 | _=>true
def cW (P:Program) (G:Ctx):Code→(Exit→St→Prop)→St→Prop
 | .skip,Q,S=>Q .normal S
 | .label _,Q,S=>Q .normal S
 | .exit i,Q,S=>Q (.exit i) S
 | .goto i,Q,S=>Q (.goto i) S
 | .ret,Q,S=>Q .ret S
 | .seq a b,Q,S=>cW P G a (thenW (cW P G b Q) Q) S
 | .cond c a b,Q,S=>getX S c fun v=>condW v (cW P G a Q S) (cW P G b Q S)
 | .block i c,Q,S=>cW P G c (inBlockW i Q) S
 | .scope c,Q,S=>cW P G c (noGotoW Q) S
 | .region _ ops false,Q,S=>opsW P ops ops.toList S (Q .normal) (fun u S=>Q (.panic [{ v:=u,recovered:=false }]) S)
 | .region i ops true,Q,S=>Sd P G (.region i ops true) Q S
 | .loop c,Q,S=>Sd P G (.loop c) Q S
 | .rangeFunc f ps a b,Q,S=>Sd P G (.rangeFunc f ps a b) Q S
 | .refuse w,Q,S=>Sd P G (.refuse w) Q S
@[congr] theorem cW_congr {P:Program} {G:Ctx} {c:Code} {Q:Exit→St→Prop} {S S':St} (h:hold S=S'):cW P G c Q S=cW P G c Q S':=by rw [←h]; rfl
theorem Qaa:∀ {c:Code} {Q:Exit→St→Prop} {S:St},cOk G.n c=true→cW P G c Q S→Sd P G c Q S
 | .skip,Q,S,_,h=>QtQ h
 | .label _,Q,S,_,h=>QtE h
 | .exit _,Q,S,_,h=>QtC h
 | .goto _,Q,S,_,h=>QtD h
 | .ret,Q,S,_,h=>QtO h
 | .seq a b,Q,S,hd,h=>by
  simp only [cOk,Bool.and_eq_true] at hd
  refine Qal (QfK (Qaa hd.1 h) ?_)
  intro e S hq
  cases e <;> first | exact Qaa hd.2 hq | exact hq
 | .cond c a b,Q,S,hd,h=>by
  simp only [cOk,Bool.and_eq_true] at hd
  refine Qtv ?_
  obtain ⟨v,h1,h2⟩:=Qat h
  unfold getX gv
  rw [h1,Qc9]
  unfold condW at h2
  show condW v _ _
  unfold condW
  cases v with
  | bool t=>
   refine ⟨fun e=>?_,fun e=>?_⟩
   ·subst e
    exact Qaa hd.1 (QcU h2)
   ·subst e
    exact Qaa hd.2 (QcU h2)
  | _=>exact h2.elim
 | .block i c,Q,S,hd,h=>Qhu (Qaa (c:=c) hd h)
 | .scope c,Q,S,hd,h=>QtP (Qaa (c:=c) hd h)
 | .region _ ops false,Q,S,hd,h=>QtL hd h
 | .region _ ops true,Q,S,_,h=>h
 | .loop c,Q,S,_,h=>h
 | .rangeFunc _ _ _ _,Q,S,_,h=>h
 | .refuse _,Q,S,_,h=>h
theorem Qah {b:Bool} {f:Bool→Prop} (h1:b=true→f true) (h2:b=false→f false):ifB b f:=⟨h1,h2⟩
theorem callP {q:Bool} {S:St} {g:FuncId} {asq:List RV} {es:List Value} {v:Value} {K:RV→St→Prop} {Pn:Value→St→Prop} (hg:goes P g) (he:toExts asq=some es) (hp:PureC P S.x g es v)
  (hk:K (.ext v) S):callW P q S (some (g,asq)) K Pn:=.inl ⟨hg,.inl ⟨es,v,he,hp,hk⟩⟩
theorem callN {q:Bool} {S:St} {g:FuncId} {asq:List RV} {es:List Value} {v:Value} {K:RV→St→Prop} {Pn:Value→St→Prop} (he:toExts asq=some es) (hp:ExtC P g es v)
  (hk:K (.ext v) S):callW P q S (some (g,asq)) K Pn:=.inr ⟨es,v,he,hp,hk⟩
theorem Qac {f : FuncId} {fn : Func} (hf : P.funcs[f]? = some fn) (hn : (fn.name == "runtime.NumGoroutine") = false) (hb : fn.body.isNone = false) : goes P f := by
 intro args w
 unfold callFunc
 rw [Sem.run_bind,run_program,Sem.events_bind,run_program,events_program]
 simp only [Result.andThen_ok,Result.evThen_ok,hf,hn,hb,Bool.false_eq_true,if_false]
 exact ⟨rfl,rfl⟩
end
end R
end Go.Proofs.YtkokohkbhlnjkaaGreatDoor
