/- The walk over a small state: its steps, as equations. -/
import Derived.Test.YtflljnaojghifaaRwv
import Derived.Laws.BitsLemmas
namespace Go.Proofs.Ytflljnaojghifaa
open Go Go.RowKit
namespace R

section
variable {P : Program} {G : Ctx} {Q : Exit → St → Prop} {S : St} {K : RV → St → Prop} {Pn : Value → St → Prop} {q : Bool} {d : Option Nat} {ty : TypeId} {pos : String} {af : Array Edge} {gd : Option (Nat × Bool)} {ops : Array Oper} {r : List Oper} {KS : St → Prop}
theorem cW_skip : cW P G .skip Q S = Q .normal S := propext ⟨fun h => h, fun h => h⟩
theorem cW_label {l : Nat} : cW P G (.label l) Q S = Q .normal S := propext ⟨fun h => h, fun h => h⟩
theorem cW_exit {i : Nat} : cW P G (.exit i) Q S = Q (.exit i) S := propext ⟨fun h => h, fun h => h⟩
theorem cW_goto {i : Nat} : cW P G (.goto i) Q S = Q (.goto i) S := propext ⟨fun h => h, fun h => h⟩
theorem cW_ret : cW P G .ret Q S = Q .ret S := propext ⟨fun h => h, fun h => h⟩
theorem cW_seq {a b : Code} : cW P G (.seq a b) Q S = cW P G a (thenW (cW P G b Q) Q) S := propext ⟨fun h => h, fun h => h⟩
theorem condW_bool {t : Bool} {A B : Prop} : condW (.bool t) A B = ifB t fun t => bif t then A else B := propext ⟨fun h => h, fun h => h⟩
theorem cW_cond {c : Operand} {a b : Code} : cW P G (.cond c a b) Q S = getX S c fun v => condW v (cW P G a Q S) (cW P G b Q S) := propext ⟨fun h => h, fun h => h⟩
theorem cW_block {i : Nat} {c : Code} : cW P G (.block i c) Q S = cW P G c (inBlockW i Q) S := propext ⟨fun h => h, fun h => h⟩
theorem cW_scope {c : Code} : cW P G (.scope c) Q S = cW P G c (noGotoW Q) S := propext ⟨fun h => h, fun h => h⟩
def panW (Q : Exit → St → Prop) (u : Value) (S : St) : Prop := Q (.panic [{ v := u, recovered := false }]) S
theorem cW_region {i : Nat} : cW P G (.region i ops false) Q S = opsW P ops ops.toList S (Q .normal) (panW Q) := propext ⟨fun h => h, fun h => h⟩
theorem cW_lit {i : Nat} {l : List Oper} : cW P G (.region i l.toArray false) Q S = opsW P l.toArray l S (Q .normal) (panW Q) := propext ⟨fun h => h, fun h => h⟩

theorem thenW_normal {K : St → Prop} : thenW K Q .normal S = K S := propext ⟨fun h => h, fun h => h⟩
theorem thenW_ret {K : St → Prop} : thenW K Q .ret S = Q .ret S := propext ⟨fun h => h, fun h => h⟩
theorem thenW_exit {K : St → Prop} {i : Nat} : thenW K Q (.exit i) S = Q (.exit i) S := propext ⟨fun h => h, fun h => h⟩
theorem thenW_goto {K : St → Prop} {i : Nat} : thenW K Q (.goto i) S = Q (.goto i) S := propext ⟨fun h => h, fun h => h⟩
theorem thenW_panic {K : St → Prop} {c : List PanicEntry} : thenW K Q (.panic c) S = Q (.panic c) S := propext ⟨fun h => h, fun h => h⟩
@[congr] theorem thenW_congr {K : St → Prop} {e : Exit} {S' : St} (h : hold S = S') : thenW K Q e S = thenW K Q e S' := by rw [← h]; rfl
theorem inBlockW_normal {i : Nat} : inBlockW i Q .normal S = Q .normal S := propext ⟨fun h => h, fun h => h⟩
theorem inBlockW_ret {i : Nat} : inBlockW i Q .ret S = Q .ret S := propext ⟨fun h => h, fun h => h⟩
theorem inBlockW_exit {i j : Nat} : inBlockW i Q (.exit j) S = if j = i then Q .normal S else Q (.exit j) S := propext ⟨fun h => h, fun h => h⟩
theorem inBlockW_goto {i j : Nat} : inBlockW i Q (.goto j) S = Q (.goto j) S := propext ⟨fun h => h, fun h => h⟩
theorem inBlockW_panic {i : Nat} {c : List PanicEntry} : inBlockW i Q (.panic c) S = Q (.panic c) S := propext ⟨fun h => h, fun h => h⟩
@[congr] theorem inBlockW_congr {i : Nat} {e : Exit} {S' : St} (h : hold S = S') : inBlockW i Q e S = inBlockW i Q e S' := by rw [← h]; rfl
theorem noGotoW_normal : noGotoW Q .normal S = Q .normal S := propext ⟨fun h => h, fun h => h⟩
theorem noGotoW_ret : noGotoW Q .ret S = Q .ret S := propext ⟨fun h => h, fun h => h⟩
theorem noGotoW_exit {i : Nat} : noGotoW Q (.exit i) S = Q (.exit i) S := propext ⟨fun h => h, fun h => h⟩
theorem noGotoW_panic {c : List PanicEntry} : noGotoW Q (.panic c) S = Q (.panic c) S := propext ⟨fun h => h, fun h => h⟩
@[congr] theorem noGotoW_congr {e : Exit} {S' : St} (h : hold S = S') : noGotoW Q e S = noGotoW Q e S' := by rw [← h]; rfl
theorem panW_eq {u : Value} : panW Q u S = Q (.panic [{ v := u, recovered := false }]) S := propext ⟨fun h => h, fun h => h⟩

theorem opsW_nil : opsW P ops [] S KS Pn = KS S := propext ⟨fun h => h, fun h => h⟩
theorem opsW_none {op : Op} : opsW P ops (⟨d, op, ty, pos, af, none⟩ :: r) S KS Pn = opW P false S ⟨d, op, ty, pos, af, none⟩ (fun v S' => opsW P ops r (S'.put d v) KS Pn) Pn := propext ⟨fun h => h, fun h => h⟩
theorem opsW_some {op : Op} {g : Nat × Bool} : opsW P ops (⟨d, op, ty, pos, af, some g⟩ :: r) S KS Pn = bindV (yd S ops g.1) fun y => gdW y g.2 S
        (fun S => opW P false S ⟨d, op, ty, pos, af, none⟩ (fun v S' => opsW P ops r (S'.put d v) KS Pn) Pn)
        (fun S => opsW P ops r (S.put d (.ext undef)) KS Pn) := propext ⟨fun h => h, fun h => h⟩
theorem headW_nil : headW P ops [] S KS = KS S := propext ⟨fun h => h, fun h => h⟩
theorem headW_none {op : Op} : headW P ops (⟨d, op, ty, pos, af, none⟩ :: r) S KS = opW P true S ⟨d, op, ty, pos, af, none⟩ (fun v S' => headW P ops r (S'.put d v) KS) (fun _ _ => False) := propext ⟨fun h => h, fun h => h⟩
theorem headW_some {op : Op} {g : Nat × Bool} : headW P ops (⟨d, op, ty, pos, af, some g⟩ :: r) S KS = bindV (yd S ops g.1) fun y => gdW y g.2 S
        (fun S => opW P true S ⟨d, op, ty, pos, af, none⟩ (fun v S' => headW P ops r (S'.put d v) KS) (fun _ _ => False))
        (fun S => headW P ops r (S.put d (.ext undef)) KS) := propext ⟨fun h => h, fun h => h⟩
theorem gdW_no {want : Bool} {A B : St → Prop} : gdW .no want S A B = B S := propext ⟨fun h => h, fun h => h⟩
theorem gdW_yes {i : Nat} {b want : Bool} {A B : St → Prop} : gdW (.yes i b) want S A B = ifB b fun b => bif (b == want) then A (S.put (some i) (.ext (.bool b))) else B (S.put (some i) (.ext (.bool b))) := propext ⟨fun h => h, fun h => h⟩

theorem gv_eq {x : Operand} {K : RV → Prop} : gv S x K = bindV (evO S x) K := propext ⟨fun h => h, fun h => h⟩
theorem getX_eq {x : Operand} {K : Value → Prop} : getX S x K = bindV (evO S x) fun v => exv v K := propext ⟨fun h => h, fun h => h⟩
theorem exv_ext {v : Value} {K : Value → Prop} : exv (.ext v) K = K v := propext ⟨fun h => h, fun h => h⟩
theorem getsX_eq {xs : List Operand} {K : List Value → Prop} : getsX S xs K = bindV (getsR S xs) fun rs => bindV (toExts rs) K := propext ⟨fun h => h, fun h => h⟩
theorem bind_some {α : Type} {v : α} {K : α → Prop} : bindV (some v) K = K v := propext ⟨fun h => h, fun h => h⟩

theorem op_move {x : Operand} : opW P q S ⟨d, .move x, ty, pos, af, gd⟩ K Pn = gv S x fun v => K v S := propext ⟨fun h => h, fun h => h⟩
theorem op_assign {x : Operand} : opW P q S ⟨d, .assign x, ty, pos, af, gd⟩ K Pn = gv S x fun v => K v S := propext ⟨fun h => h, fun h => h⟩
theorem pickW_bool {t : Bool} {a b : RV} {K : RV → Prop} : pickW (.bool t) a b K = ifB t fun t => K (bif t then a else b) := propext ⟨fun h => h, fun h => h⟩
theorem op_pick {c x y : Operand} : opW P q S ⟨d, .pick c x y, ty, pos, af, gd⟩ K Pn = getX S c fun c => gv S x fun a => gv S y fun b => pickW c a b fun v => K v S := propext ⟨fun h => h, fun h => h⟩
theorem nilW_ext {v : Value} {A : Prop} : nilW (.ext v) A = (nilOK v = true ∧ A) := propext ⟨fun h => h, fun h => h⟩
theorem nilW_ptr {k o : Nat} {A : Prop} : nilW (.ptr k o) A = A := propext ⟨fun h => h, fun h => h⟩
theorem nilW_clos {k : Nat} {l : List (Nat × Nat)} {A : Prop} : nilW (.clos k l) A = A := propext ⟨fun h => h, fun h => h⟩
theorem op_nilCheck {x : Operand} : opW P q S ⟨d, .nilCheck x, ty, pos, af, gd⟩ K Pn = gv S x fun v => nilW v (K v S) := propext ⟨fun h => h, fun h => h⟩
theorem op_binOp {op : BinOp} {T yT : TypeId} {x y : Operand} : opW P q S ⟨d, .binOp op T x y yT, ty, pos, af, gd⟩ K Pn = getX S x fun a => getX S y fun b => binW P op T x y a b fun v => K (.ext v) S := propext ⟨fun h => h, fun h => h⟩
theorem op_unOp {op : UnOp} {T : TypeId} {x : Operand} : opW P q S ⟨d, .unOp op T x, ty, pos, af, gd⟩ K Pn = getX S x fun a => pureW P (Op.unary op a) fun v => K (.ext v) S := propext ⟨fun h => h, fun h => h⟩
theorem op_convert {t u : TypeId} {x : Operand} : opW P q S ⟨d, .convert t u x, ty, pos, af, gd⟩ K Pn = getX S x fun a => pureW P (Go.convert t u a) fun v => K (.ext v) S := propext ⟨fun h => h, fun h => h⟩
theorem op_makeInterface {t : TypeId} {x : Operand} : opW P q S ⟨d, .makeInterface t x, ty, pos, af, gd⟩ K Pn = getX S x fun a => pureW P (Instr.makeInterface t a) fun v => K (.ext v) S := propext ⟨fun h => h, fun h => h⟩
theorem op_typeAssert {t u : TypeId} {x : Operand} {ok : Bool} : opW P q S ⟨d, .typeAssert x t u ok, ty, pos, af, gd⟩ K Pn = getX S x fun a => pureW P (Instr.typeAssert a t u ok) fun v => K (.ext v) S := propext ⟨fun h => h, fun h => h⟩
theorem op_extract {x : Operand} {i : Nat} : opW P q S ⟨d, .extract x i, ty, pos, af, gd⟩ K Pn = getX S x fun a => pureW P (Instr.extract a i) fun v => K (.ext v) S := propext ⟨fun h => h, fun h => h⟩
theorem op_field {t : TypeId} {x : Operand} {f : Nat} : opW P q S ⟨d, .field t x f, ty, pos, af, gd⟩ K Pn = getX S x fun a => pureW P (Instr.field t a f) fun v => K (.ext v) S := propext ⟨fun h => h, fun h => h⟩
theorem op_index {t : TypeId} {x i : Operand} : opW P q S ⟨d, .index t x i, ty, pos, af, gd⟩ K Pn = getX S x fun a => getX S i fun b => pureW P (Instr.index t a b) fun v => K (.ext v) S := propext ⟨fun h => h, fun h => h⟩
theorem op_build {t : TypeId} {parts : Array (Nat × Operand)} : opW P q S ⟨d, .build t parts, ty, pos, af, gd⟩ K Pn = getsX S (parts.toList.map (·.2)) fun vs => bindV (bldS P t) fun z => fillW z.2 z.1 (parts.toList.map (·.1)) vs fun cs => K (.ext (.agg cs.toArray)) S := propext ⟨fun h => h, fun h => h⟩
theorem op_slice {t : TypeId} {x : Operand} {lo hi mx : Option Operand} : opW P q S ⟨d, .slice t x lo hi mx, ty, pos, af, gd⟩ K Pn = getX S x fun a => getsX S lo.toList fun l => getsX S hi.toList fun h => getsX S mx.toList fun m =>
      pureW P (Instr.sliceAt t a l[0]? h[0]? m[0]?) fun v => K (.ext v) S := propext ⟨fun h => h, fun h => h⟩
theorem op_makeFunc {fn : Fn} {first caps : Array Operand} : opW P q S ⟨d, .makeFunc fn first caps, ty, pos, af, gd⟩ K Pn = bindV (getsR S first.toList) fun fs => bindV (getsR S caps.toList) fun cs => funcW S fn fs cs K := propext ⟨fun h => h, fun h => h⟩
theorem funcW_caps {g : FuncId} {k o : Nat} {cs : List RV} : funcW S (.func g) [] (.ptr k o :: cs) K = bindV (ptrs (.ptr k o :: cs)) fun l => K (.clos g l) S := by
  unfold funcW
  cases h : ptrs (.ptr k o :: cs) with
  | none => simp [bindV, toExts]
  | some l =>
    cases l with
    | nil => simp [ptrs] at h
    | cons c l => rfl
theorem funcW_none {fn : Fn} {fs : List RV} : funcW S fn fs [] K = bindV (toExts fs) fun fs => K (.ext (.func fn fs.toArray #[])) S := by
  unfold funcW
  simp only [ptrs]
  cases fs <;> rfl
theorem faW_ptr {k o n : Nat} {K : RV → Prop} : faW (.ptr k o) n K = K (.ptr k (o + n)) := propext ⟨fun h => h, fun h => h⟩
theorem faW_ext {u : Value} {n : Nat} {K : RV → Prop} : faW (.ext u) n K = bindV (ptrV u) fun p => K (.ext (.pointer (some ⟨p.1, p.2 + n, none⟩))) := propext ⟨fun h => h, fun h => h⟩
theorem op_fieldAddr {T : TypeId} {x : Operand} {f : Nat} : opW P q S ⟨d, .fieldAddr T x f, ty, pos, af, gd⟩ K Pn = gv S x fun v => bindV (fieldOff P T f) fun n => faW v n fun v => K v S := propext ⟨fun h => h, fun h => h⟩
theorem idxW_sl {k off len cap z : Nat} {ik : IntKind} {j : Int} {K : RV → Prop} : idxW (.sl k off len cap) (none, z) (.int ik j) K = inW j len (K (.ptr k (off + j.toNat * z))) := propext ⟨fun h => h, fun h => h⟩
theorem idxW_ptr {k off len z : Nat} {ik : IntKind} {j : Int} {K : RV → Prop} : idxW (.ptr k off) (some len, z) (.int ik j) K = inW j len (K (.ptr k (off + j.toNat * z))) := propext ⟨fun h => h, fun h => h⟩
theorem idxW_ext {b off len cap z : Nat} {ik : IntKind} {j : Int} {K : RV → Prop} : idxW (.ext (.slice (some ⟨b, off, none⟩) len cap)) (none, z) (.int ik j) K = inW j len (K (.ext (.pointer (some ⟨b, off + j.toNat * z, none⟩)))) := propext ⟨fun h => h, fun h => h⟩
theorem op_indexAddr {T : TypeId} {x i : Operand} : opW P q S ⟨d, .indexAddr T x i, ty, pos, af, gd⟩ K Pn = gv S x fun v => getX S i fun i => bindV (elemOff P T) fun z => idxW v z i fun v => K v S := propext ⟨fun h => h, fun h => h⟩
theorem cellW_eq {T : TypeId} {c : List RV} {K : TypeId → List RV → Prop} : cellW (.cells T c) K = K T c := propext ⟨fun h => h, fun h => h⟩
theorem loadW_ptr {z : Bool × Nat} {k off : Nat} {K : RV → Prop} : loadW S z (.ptr k off) K = bindV (nthX S.m k) fun o => cellW o fun _ c => loadR z.1 z.2 off c K := propext ⟨fun h => h, fun h => h⟩
theorem loadW_ext {z : Bool × Nat} {u : Value} {K : RV → Prop} : loadW S z (.ext u) K = bindV (ptrV u) fun p => extW S z.1 z.2 p.1 p.2 fun v => K (.ext v) := propext ⟨fun h => h, fun h => h⟩
theorem op_load {T : TypeId} {x : Operand} : opW P q S ⟨d, .load T x, ty, pos, af, gd⟩ K Pn = gv S x fun v => bindV (tyS P T) fun z => loadW S z v fun v => K v S := propext ⟨fun h => h, fun h => h⟩
theorem loadR_agg {n off : Nat} {c : List RV} {K : RV → Prop} : loadR true n off c K = bindV (segX c off n) fun vs => K (.ext (.agg vs.toArray)) := propext ⟨fun h => h, fun h => h⟩
theorem loadR_one {n off : Nat} {c : List RV} {K : RV → Prop} : loadR false n off c K = bindV (nthX c off) K := propext ⟨fun h => h, fun h => h⟩
theorem op_lookup {T : TypeId} {m k : Operand} {ok : Bool} : opW P q S ⟨d, .lookup T m k ok, ty, pos, af, gd⟩ K Pn = gv S m fun m => getX S k fun k => mapOb S m fun o => lookW P T k ok o fun v => K (.ext v) S := propext ⟨fun h => h, fun h => h⟩
theorem op_built {b : Builtin} {args : Array Operand} {ts : Array TypeId} : opW P q S ⟨d, .call ⟨.builtin b, args, ts⟩, ty, pos, af, gd⟩ K Pn = bindV (getsR S args.toList) fun rs => lenW P q S ts b rs K
        (bindV (toExts rs) fun vs => builtW P (builtin b ts ty (args.map fun | .const _ => true | _ => false) vs.toArray) fun v => K (.ext v) S) := propext ⟨fun h => h, fun h => h⟩
theorem op_call {f : Operand} {args : Array Operand} {ts : Array TypeId} : opW P q S ⟨d, .call ⟨.value f, args, ts⟩, ty, pos, af, gd⟩ K Pn = gv S f fun f => bindV (getsR S args.toList) fun vs => callW P q S (tgt f vs) K Pn := propext ⟨fun h => h, fun h => h⟩
theorem op_invoke {recv : Operand} {name : String} {args : Array Operand} {ts : Array TypeId} : opW P q S ⟨d, .call ⟨.invoke recv name, args, ts⟩, ty, pos, af, gd⟩ K Pn = getX S recv fun r => getsX S args.toList fun vs => invokeW P S (invoke (.fn (.method name) #[]) (#[r] ++ vs.toArray)) fun v => K (.ext v) S := propext ⟨fun h => h, fun h => h⟩
theorem op_alloc {T : TypeId} : opW P false S ⟨d, .alloc T, ty, pos, af, gd⟩ K Pn = bindV (tyZ P T) fun zs => K (.ptr S.m.length 0) ⟨S.t, S.m ++ [.cells T (zs.map .ext)], S.x⟩ := propext ⟨fun h => h.2, fun h => ⟨rfl, h⟩⟩
theorem op_box {T : TypeId} {x : Operand} : opW P false S ⟨d, .box T x, ty, pos, af, gd⟩ K Pn = gv S x fun v => K (.ptr S.m.length 0) ⟨S.t, S.m ++ [.cells T (flat v)], S.x⟩ := propext ⟨fun h => h.2, fun h => ⟨rfl, h⟩⟩
theorem op_buildSlice {t : TypeId} {len : Nat} {parts : Array (Nat × Operand)} : opW P false S ⟨d, .buildSlice t len parts, ty, pos, af, gd⟩ K Pn = bindV (getsR S (parts.toList.map (·.2))) fun rs => bldW P S t len (parts.toList.map (·.1)) rs K := propext ⟨fun h => h.2, fun h => ⟨rfl, h⟩⟩
theorem op_makeSlice {t : TypeId} {l c : Operand} : opW P false S ⟨d, .makeSlice t l c, ty, pos, af, gd⟩ K Pn = getX S l fun l => getX S c fun c =>
      rowW P (Instr.makeSlice t l c) fun elem cells len cap => K (.sl S.m.length 0 len cap) ⟨S.t, S.m ++ [.cells elem (cells.map .ext)], S.x⟩ := propext ⟨fun h => h.2, fun h => ⟨rfl, h⟩⟩
theorem storeW_ptr {z : Bool × Nat} {k off : Nat} {v : RV} {K : St → Prop} : storeW S z (.ptr k off) v K = bindV (nthX S.m k) fun o => cellW o fun T' c => bindV (putX off c (flat v)) fun c' =>
    ((flat v).length = z.2 ∧ (flat v).all one = true ∧ z.2 ≠ 0) ∧ K ⟨S.t, setX S.m k (.cells T' c'), S.x⟩ := propext ⟨fun h => h, fun h => h⟩
theorem objW_eq {o : Obj} {K : Obj → Prop} : objW (.obj o) K = K o := propext ⟨fun h => h, fun h => h⟩
theorem mapOb_mp {r : Nat} {K : Obj → Prop} : mapOb S (.mp r) K = bindV (nthX S.m r) fun o => objW o K := propext ⟨fun h => h, fun h => h⟩
theorem mapOb_ext {b : Nat} {K : Obj → Prop} : mapOb S (.ext (.map (some b))) K = extM S b K := propext ⟨fun h => h, fun h => h⟩
theorem mpW_eq {r : Nat} {K : Nat → Prop} : mpW (.mp r) K = K r := propext ⟨fun h => h, fun h => h⟩
theorem ifaceW_eq {t : TypeId} {u : Value} {K : TypeId → Value → Prop} : ifaceW (.iface t u) K = K t u := propext ⟨fun h => h, fun h => h⟩
theorem lenW_app {ts : Array TypeId} {x y : RV} {K : RV → St → Prop} {A : Prop} : lenW P false S ts .append [x, y] K A = appW P S ts x y K := propext ⟨fun h => h.2, fun h => ⟨rfl, h⟩⟩
theorem lenW_sl {ts : Array TypeId} {k o l c : Nat} {K : RV → St → Prop} {A : Prop} : lenW P q S ts .len [.sl k o l c] K A = bindV ((ts[0]?).bind (elemOff P)) fun z => match z.1 with
    | none => K (.ext (.int .i64 l)) S
    | some _ => False := propext ⟨fun h => h, fun h => h⟩
theorem lenW_len {ts : Array TypeId} {v : Value} {K : RV → St → Prop} {A : Prop} : lenW P q S ts .len [.ext v] K A = A := propext ⟨fun h => h, fun h => h⟩
theorem lenW_max {ts : Array TypeId} {rs : List RV} {K : RV → St → Prop} {A : Prop} : lenW P q S ts .max rs K A = A := propext ⟨fun h => h, fun h => h⟩
theorem lenW_min {ts : Array TypeId} {rs : List RV} {K : RV → St → Prop} {A : Prop} : lenW P q S ts .min rs K A = A := propext ⟨fun h => h, fun h => h⟩
theorem op_store {T : TypeId} {x y : Operand} : opW P false S ⟨d, .store T x y, ty, pos, af, gd⟩ K Pn = gv S x fun p => gv S y fun v => bindV (tyS P T) fun z => storeW S z p v fun S => K (.ext undef) S :=
  propext ⟨fun h => h.2, fun h => ⟨rfl, h⟩⟩
theorem op_makeMap {t : TypeId} : opW P false S ⟨d, .makeMap t none, ty, pos, af, gd⟩ K Pn = K (.mp S.m.length) ⟨S.t, S.m ++ [.obj (.map #[] 0)], S.x⟩ := propext ⟨fun h => h.2, fun h => ⟨rfl, h⟩⟩
theorem op_mapUpdate {T : TypeId} {m k x : Operand} : opW P false S ⟨d, .mapUpdate T m k x, ty, pos, af, gd⟩ K Pn = gv S m fun m => getX S k fun k => getX S x fun x => mpW m fun r => bindV (nthX S.m r) fun o => objW o fun o =>
    updW P T k x o fun o' => K (.ext undef) ⟨S.t, setX S.m r (.obj o'), S.x⟩ := propext ⟨fun h => h.2, fun h => ⟨rfl, h⟩⟩
theorem op_insert {T : TypeId} {m k x : Operand} : opW P false S ⟨d, .insert T m k x, ty, pos, af, gd⟩ K Pn = gv S m fun m => getX S k fun k => getX S x fun x => mpW m fun r => bindV (nthX S.m r) fun o => objW o fun o =>
    updW P T k x o fun o' => K (.ext undef) ⟨S.t, setX S.m r (.obj o'), S.x⟩ := propext ⟨fun h => h.2, fun h => ⟨rfl, h⟩⟩
theorem op_panic {x : Operand} : opW P false S ⟨d, .panic x, ty, pos, af, gd⟩ K Pn = getX S x fun a => ifaceW a fun t u => Pn (.iface t u) S := propext ⟨fun h => h.2, fun h => ⟨rfl, h⟩⟩

theorem put_some {i : Nat} {v : RV} {t : List (Nat × RV)} {m : List RO} {x : Nat → Obj → Prop} : (St.mk t m x).put (some i) v = ⟨(i, v) :: t, m, x⟩ := by rw [St.put]
theorem put_none {v : RV} : S.put none v = S := by rw [St.put]
theorem ev_tmp {i : Nat} {t : List (Nat × RV)} {m : List RO} {x : Nat → Obj → Prop} : evO ⟨t, m, x⟩ (.tmp i) = lk t i := by rw [evO]
theorem ev_const {v : Value} : evO S (.const v) = some (.ext v) := by rw [evO]
theorem ev_func {f : FuncId} : evO S (.func f) = some (.ext (.func (.func f) #[] #[])) := by rw [evO]
theorem ev_global {f : Nat} : evO S (.global f) = some (.ext (.pointer (some ⟨f, 0, none⟩))) := by rw [evO]
def selX (b : Bool) (v : RV) (t : List (Nat × RV)) (i : Nat) : Option RV := bif b then some v else lk t i
theorem selX_true {v : RV} {t : List (Nat × RV)} {i : Nat} : selX true v t i = some v := by rw [selX]; rfl
theorem selX_false {v : RV} {t : List (Nat × RV)} {i : Nat} : selX false v t i = lk t i := by rw [selX]; rfl
theorem lk_step {i j : Nat} {v : RV} {t : List (Nat × RV)} : lk ((j, v) :: t) i = selX (i == j) v t i := by rw [lk, selX]
end

section
variable {P : Program} {G : Ctx} {Q : Exit → St → Prop} {S : St} {i : Nat} {l : List Oper}
theorem cW_draw (hm : P.follows .mixedOrders = true) (hd : dOk G.n l = true) (hB : Region.lexB .any l.toArray = true) (h : headW P l.toArray l S (Q .normal)) : cW P G (.region i l.toArray true) Q S :=
  Sd_draw hm (by simpa using hd) hB (by simpa using h)
theorem cW_drawT (k : Nat) (hm : P.follows .mixedOrders = true) (hd : dOk G.n l = true) (hB : Region.lexTailB .any l.toArray k = true)
    (h : headW P l.toArray (l.take k) S fun S => opsW P l.toArray (l.drop k) S (Q .normal) (panW Q)) : cW P G (.region i l.toArray true) Q S :=
  Sd_drawT (ops := l.toArray) k hm (by simpa using hd) hB h

/-- The region of a body by its number. -/
def rg : Code → Nat → Option (Array Oper)
  | .region j ops _, i => bif j == i then some ops else none
  | .seq a b, i => match rg a i with
    | some o => some o
    | none => rg b i
  | .cond _ a b, i => match rg a i with
    | some o => some o
    | none => rg b i
  | .block _ c, i => rg c i
  | .scope c, i => rg c i
  | .loop c, i => rg c i
  | .rangeFunc _ _ a b, i => match rg a i with
    | some o => some o
    | none => rg b i
  | _, _ => none
def rgF (f : Func) (i : Nat) : Option (Array Oper) := match f.body with
  | some c => rg c i
  | none => none
def lxF (f : Func) (i : Nat) : Bool := match rgF f i with
  | some ops => Region.lexB .any ops
  | none => false
def lxT (f : Func) (i k : Nat) : Bool := match rgF f i with
  | some ops => Region.lexTailB .any ops k
  | none => false
theorem cW_drawF {f : Func} (hl : lxF f i = true) (he : rgF f i = some l.toArray) (hm : P.follows .mixedOrders = true) (hd : dOk G.n l = true) (h : headW P l.toArray l S (Q .normal)) : cW P G (.region i l.toArray true) Q S :=
  cW_draw hm hd (by rw [lxF, he] at hl; exact hl) h
theorem cW_drawTF {f : Func} (k : Nat) (hl : lxT f i k = true) (he : rgF f i = some l.toArray) (hm : P.follows .mixedOrders = true) (hd : dOk G.n l = true)
    (h : ∀ l1 l2, l.take k = l1 → l.drop k = l2 → headW P l.toArray l1 S fun S => opsW P l.toArray l2 S (Q .normal) (panW Q)) : cW P G (.region i l.toArray true) Q S :=
  cW_drawT k hm hd (by rw [lxT, he] at hl; exact hl) (h _ _ rfl rfl)
end
/-! What is built -/
theorem fillW_nil {ps : List (Nat × Nat)} {c : List Value} {K : List Value → Prop} : fillW ps c [] [] K = K c := propext ⟨fun h => h, fun h => h⟩
theorem fillW_cons {ps : List (Nat × Nat)} {c : List Value} {i : Nat} {is : List Nat} {v : Value} {vs : List Value} {K : List Value → Prop} : fillW ps c (i :: is) (v :: vs) K = bindV (nthX ps i) fun p => bindV (putX p.1 c v.cells.toList) fun c' => v.cells.toList.length = p.2 ∧ p.1 + p.2 ≤ c.length ∧ fillW ps c' is vs K := propext ⟨fun h => h, fun h => h⟩

/-! Operations on numbers -/
/-- A number of a kind, wrapped round. (Closed: nothing works it out by itself.) -/
@[irreducible] def wr (k : IntKind) (n : Int) : Int := k.wrap n
theorem wr_eq (k : IntKind) (n : Int) : wr k n = k.wrap n := by unfold wr; rfl
theorem wr_def64 (n : Int) : wr .i64 n = (n + 9223372036854775808) % 18446744073709551616 - 9223372036854775808 := by rw [wr_eq, IntKind.wrap_i64]
theorem wr_defu (n : Int) : wr .u64 n = n % 18446744073709551616 := by rw [wr_eq]; simp [IntKind.wrap, IntKind.bits, IntKind.signed]
theorem wr_i64 {n : Int} (h1 : -9223372036854775808 ≤ n) (h2 : n ≤ 9223372036854775807) : wr .i64 n = n := by rw [wr_def64]; omega
theorem wr_u64 {n : Int} (h1 : 0 ≤ n) (h2 : n ≤ 18446744073709551615) : wr .u64 n = n := by rw [wr_defu]; omega
theorem bits_i64 : IntKind.bits .i64 = 64 := by unfold IntKind.bits; rfl
theorem bits_u64 : IntKind.bits .u64 = 64 := by unfold IntKind.bits; rfl
theorem bits_i32 : IntKind.bits .i32 = 32 := by unfold IntKind.bits; rfl
theorem bits_u32 : IntKind.bits .u32 = 32 := by unfold IntKind.bits; rfl
theorem bits_u16 : IntKind.bits .u16 = 16 := by unfold IntKind.bits; rfl
theorem bits_u8 : IntKind.bits .u8 = 8 := by unfold IntKind.bits; rfl
section
variable {P : Program} {T : TypeId} {x y : Operand} {k j : IntKind} {a b : Int} {K : Value → Prop}
theorem bw_add : binW P .add T x y (.int k a) (.int k b) K = K (.int k (wr k (a + b))) := by rw [wr_eq]; exact bin_add
theorem bw_sub : binW P .sub T x y (.int k a) (.int k b) K = K (.int k (wr k (a - b))) := by rw [wr_eq]; exact bin_sub
theorem bw_mul : binW P .mul T x y (.int k a) (.int k b) K = K (.int k (wr k (a * b))) := by rw [wr_eq]; exact bin_mul
theorem bw_and : binW P .and T x y (.int k a) (.int k b) K = K (.int k (bits .and k a b)) := bin_and
theorem bw_quo (hb : b ≠ 0) : binW P .quo T x y (.int k a) (.int k b) K = K (.int k (wr k (a.tdiv b))) := by rw [wr_eq]; exact bin_quo hb
theorem bw_rem (hb : b ≠ 0) : binW P .rem T x y (.int k a) (.int k b) K = K (.int k (a.tmod b)) := bin_rem hb
theorem bw_eql : binW P .eql T x y (.int k a) (.int k b) K = K (.bool (a == b)) := bin_eql
theorem bw_neq : binW P .neq T x y (.int k a) (.int k b) K = K (.bool (a != b)) := bin_neq
theorem bw_lss : binW P .lss T x y (.int k a) (.int k b) K = K (.bool (decide (a < b))) := bin_lss
theorem bw_leq : binW P .leq T x y (.int k a) (.int k b) K = K (.bool (decide (a ≤ b))) := bin_leq
theorem bw_gtr : binW P .gtr T x y (.int k a) (.int k b) K = K (.bool (decide (b < a))) := bin_gtr
theorem bw_geq : binW P .geq T x y (.int k a) (.int k b) K = K (.bool (decide (b ≤ a))) := bin_geq
theorem bw_shl (hb : 0 ≤ b) : binW P .shl T x y (.int k a) (.int j b) K = K (.int k (wr k (a * 2 ^ (min b.toNat k.bits)))) := by rw [wr_eq]; exact bin_shl hb
theorem bw_shr (hb : 0 ≤ b) : binW P .shr T x y (.int k a) (.int j b) K = K (.int k (a.fdiv (2 ^ (min b.toNat k.bits)))) := bin_shr hb
theorem bw_beq {a b : Bool} (hT : P.underlying T = some .bool) : binW P .eql T x y (.bool a) (.bool b) K = K (.bool (a == b)) := bin_beq hT
theorem bw_bne {a b : Bool} (hT : P.underlying T = some .bool) : binW P .neq T x y (.bool a) (.bool b) K = K (.bool (!(a == b))) := bin_bne hT
theorem bw_seq {xs ys : Array Value} : binW P .eql T x y (.agg xs) (.agg ys) K = bindV (flatKs P T) fun ks => (fitsK ks xs.toList = true ∧ fitsK ks ys.toList = true) ∧ K (.bool (eqL xs.toList ys.toList)) := propext ⟨fun h => h, fun h => h⟩
theorem bw_sne {xs ys : Array Value} : binW P .neq T x y (.agg xs) (.agg ys) K = bindV (flatKs P T) fun ks => (fitsK ks xs.toList = true ∧ fitsK ks ys.toList = true) ∧ K (.bool (!eqL xs.toList ys.toList)) := propext ⟨fun h => h, fun h => h⟩
end
section
variable {P : Program} {S : St} {fn : Func} {v : Value}
theorem Back_normal : Back P fn v .normal S = resW P S fn.results.toList v := propext ⟨fun h => h, fun h => h⟩
theorem Back_ret : Back P fn v .ret S = resW P S fn.results.toList v := propext ⟨fun h => h, fun h => h⟩
theorem resL_nil {K : List RV → Prop} : resL P S [] K = K [] := propext ⟨fun h => h, fun h => h⟩
theorem resL_cons {r : ResultVar} {rs : List ResultVar} {K : List RV → Prop} : resL P S (r :: rs) K = res1 P S r fun v => resL P S rs fun vs => K (v :: vs) := propext ⟨fun h => h, fun h => h⟩
theorem res1_tmp {t : Nat} {K : RV → Prop} : res1 P S (.tmp t) K = bindV (lk S.t t) K := propext ⟨fun h => h, fun h => h⟩
theorem res1_cell {a : Nat} {T : TypeId} {K : RV → Prop} : res1 P S (.cell a T) K = bindV (lk S.t a) fun v => bindV (tyS P T) fun z => match v with
    | .ptr k off => bindV (nthX S.m k) fun o => cellW o fun _ c => loadR z.1 z.2 off c K
    | _ => False := propext ⟨fun h => h, fun h => h⟩
def resV (v : Value) (vs : List RV) : Prop := match vs with
    | [.ext u] => u = v
    | vs => ∃ us, toExts vs = some us ∧ us.length ≠ 1 ∧ Value.tuple us.toArray = v
theorem resW_eq {rs : List ResultVar} : resW P S rs v = resL P S rs fun vs => resV v vs := propext ⟨fun h => h, fun h => h⟩
theorem resV_one {u : Value} : resV v [.ext u] = (u = v) := propext ⟨fun h => h, fun h => h⟩
theorem resV_two {u1 u2 : Value} : resV v [.ext u1, .ext u2] = (Value.tuple #[u1, u2] = v) := propext ⟨fun ⟨us, h1, _, h3⟩ => by simp only [toExts, Option.some.injEq] at h1; subst h1; exact h3, fun h => ⟨[u1, u2], rfl, by simp, h⟩⟩
theorem resV_three {u1 u2 u3 : Value} : resV v [.ext u1, .ext u2, .ext u3] = (Value.tuple #[u1, u2, u3] = v) := propext ⟨fun ⟨us, h1, _, h3⟩ => by simp only [toExts, Option.some.injEq] at h1; subst h1; exact h3, fun h => ⟨[u1, u2, u3], rfl, by simp, h⟩⟩
theorem resV_none : resV v [] = (Value.tuple #[] = v) := propext ⟨fun ⟨us, h1, _, h3⟩ => by simp only [toExts, Option.some.injEq] at h1; subst h1; exact h3, fun h => ⟨[], rfl, by simp, h⟩⟩
end

/-! Small functions, case by case -/
/-- An equation that simp shall bear in mind as one. -/
theorem nr {α : Sort _} {a b : α} (h : a = b) : a = b := h
theorem uw_neg {P : Program} {k : IntKind} {a : Int} {K : Value → Prop} : pureW P (Op.unary .neg (.int k a)) K = K (.int k (wr k (0 - a))) := by rw [wr_eq]; exact un_neg
theorem cw_int {P : Program} {t u : TypeId} {k j l : IntKind} {a : Int} {K : Value → Prop} (ht : P.underlying t = some (.int l)) (hu : P.underlying u = some (.int j)) : pureW P (Go.convert t u (.int k a)) K = K (.int j (wr j a)) := by rw [wr_eq]; exact conv_int ht hu
theorem cond_t {α : Sort _} {a b : α} : cond true a b = a := nr rfl
theorem cond_f {α : Sort _} {a b : α} : cond false a b = b := nr rfl
section
variable {k : IntKind} {n : Int} {b : Bool} {v : Value} {vs : List Value} {rs : List RV} {ks : List (Option IntKind)} {S : St} {α : Type} {i j d : Nat}
theorem nilOK_ptr {a : Addr} : nilOK (.pointer (some a)) = true := nr rfl
theorem nilOK_func {g : FuncId} {a b : Array Value} : nilOK (.func (.func g) a b) = true := nr rfl
theorem nilOK_iface {t : TypeId} : nilOK (.iface t v) = true := nr rfl
theorem nilOK_map {r : Nat} : nilOK (.map (some r)) = true := nr rfl
theorem tgt_func {g : FuncId} {a b : Array Value} : tgt (.ext (.func (.func g) a b)) rs = some (g, a.toList.map .ext ++ rs ++ b.toList.map .ext) := nr rfl
theorem tgt_clos {g : FuncId} {cs : List (Nat × Nat)} : tgt (.clos g cs) rs = some (g, rs ++ cs.map fun c => .ptr c.1 c.2) := nr rfl
theorem ptrV_eq {b off : Nat} : ptrV (.pointer (some ⟨b, off, none⟩)) = some (b, off) := nr rfl
theorem slV_eq {b off l c : Nat} : slV (.slice (some ⟨b, off, none⟩) l c) = some (b, off, l, c) := nr rfl
theorem one_int : one (.ext (.int k n)) = true := nr rfl
theorem one_bool : one (.ext (.bool b)) = true := nr rfl
theorem one_string {s : ByteArray} : one (.ext (.string s)) = true := nr rfl
theorem one_pointer {a : Option Addr} : one (.ext (.pointer a)) = true := nr rfl
theorem one_slice {a : Option Addr} {l c : Nat} : one (.ext (.slice a l c)) = true := nr rfl
theorem one_map {a : Option Nat} : one (.ext (.map a)) = true := nr rfl
theorem one_func {f : Fn} {a b : Array Value} : one (.ext (.func f a b)) = true := nr rfl
theorem one_nilFunc : one (.ext .nilFunc) = true := nr rfl
theorem one_iface {t : TypeId} : one (.ext (.iface t v)) = true := nr rfl
theorem one_nilIface : one (.ext .nilIface) = true := nr rfl
theorem one_ptr : one (.ptr i j) = true := nr rfl
theorem one_clos {cs : List (Nat × Nat)} : one (.clos i cs) = true := nr rfl
theorem one_mp : one (.mp i) = true := nr rfl
theorem one_sl {l c : Nat} : one (.sl i j l c) = true := nr rfl
theorem ikEq_self : ikEq k k = true := nr (by cases k <;> rfl)
theorem fitsK_nil : fitsK [] [] = true := nr rfl
theorem fitsK_bool : fitsK (none :: ks) (.bool b :: vs) = fitsK ks vs := by rw [fitsK]
theorem fitsK_int {j : IntKind} : fitsK (some k :: ks) (.int j n :: vs) = (ikEq k j && fitsK ks vs) := by rw [fitsK]
theorem eqL_nil : eqL [] [] = true := nr rfl
theorem eqL_bool {a : Bool} {us : List Value} : eqL (.bool a :: us) (.bool b :: vs) = ((a == b) && eqL us vs) := by rw [eqL]
theorem eqL_int {j : IntKind} {m : Int} {us : List Value} : eqL (.int j m :: us) (.int k n :: vs) = ((m == n) && eqL us vs) := by rw [eqL]
theorem cells_agg {cs : List Value} : (Value.agg cs.toArray).cells.toList = cs := nr rfl
theorem cells_int : (Value.int k n).cells.toList = [.int k n] := nr rfl
theorem cells_bool : (Value.bool b).cells.toList = [.bool b] := nr rfl
theorem cells_string {s : ByteArray} : (Value.string s).cells.toList = [.string s] := nr rfl
theorem cells_pointer {a : Option Addr} : (Value.pointer a).cells.toList = [.pointer a] := nr rfl
theorem cells_slice {a : Option Addr} {l c : Nat} : (Value.slice a l c).cells.toList = [.slice a l c] := nr rfl
theorem cells_map {a : Option Nat} : (Value.map a).cells.toList = [.map a] := nr rfl
theorem cells_func {f : Fn} {a b : Array Value} : (Value.func f a b).cells.toList = [.func f a b] := nr rfl
theorem cells_nilFunc : (Value.nilFunc).cells.toList = [.nilFunc] := nr rfl
theorem cells_iface {t : TypeId} : (Value.iface t v).cells.toList = [.iface t v] := nr rfl
theorem cells_nilIface : (Value.nilIface).cells.toList = [.nilIface] := nr rfl
theorem ydV_bool : ydV d (.ext (.bool b)) = .yes d b := nr rfl
theorem ydV_undef : ydV d (.ext undef) = .no := nr rfl
theorem flat_ext : flat (.ext v) = v.cells.toList.map .ext := nr rfl
theorem flat_ptr : flat (.ptr i j) = [.ptr i j] := nr rfl
theorem flat_sl {l c : Nat} : flat (.sl i j l c) = [.sl i j l c] := nr rfl
theorem flat_clos {cs : List (Nat × Nat)} : flat (.clos i cs) = [.clos i cs] := nr rfl
theorem flat_mp : flat (.mp i) = [.mp i] := nr rfl
theorem takeX_zero : takeX 0 rs = some [] := nr (by cases rs <;> rfl)
theorem takeX_succ : takeX (i + 1) (.ext v :: rs) = (takeX i rs).map (v :: ·) := by rw [takeX]
theorem dropX_zero : dropX 0 rs = rs := nr (by cases rs <;> rfl)
theorem dropX_succ {r : RV} : dropX (i + 1) (r :: rs) = dropX i rs := by rw [dropX]
theorem nthX_zero {a : α} {l : List α} : nthX (a :: l) 0 = some a := nr rfl
theorem nthX_succ {a : α} {l : List α} : nthX (a :: l) (i + 1) = nthX l i := by rw [nthX]
theorem setX_zero {a u : α} {l : List α} : setX (a :: l) 0 u = u :: l := nr rfl
theorem setX_succ {a u : α} {l : List α} : setX (a :: l) (i + 1) u = a :: setX l i u := by rw [setX]
theorem putX_nil {c : List α} : putX i c [] = some c := by cases i <;> cases c <;> rfl
theorem putX_zero {a u : α} {c us : List α} : putX 0 (a :: c) (u :: us) = (putX 0 c us).map (u :: ·) := by rw [putX]
theorem putX_succ {a u : α} {c us : List α} : putX (i + 1) (a :: c) (u :: us) = (putX i c (u :: us)).map (a :: ·) := by rw [putX]; simp
theorem toExts_nil : toExts [] = some [] := nr rfl
theorem toExts_ext : toExts (.ext v :: rs) = (toExts rs).map (v :: ·) := by rw [toExts]; cases toExts rs <;> rfl
theorem getsR_nil : getsR S [] = some [] := nr rfl
def consX (a : Option RV) (l : Option (List RV)) : Option (List RV) := match a with | some v => l.map (v :: ·) | none => none
theorem consX_some {r : RV} {l : Option (List RV)} : consX (some r) l = l.map (r :: ·) := nr rfl
theorem getsR_cons {x : Operand} {xs : List Operand} : getsR S (x :: xs) = consX (evO S x) (getsR S xs) := by
  rw [getsR]
  cases evO S x with
  | none => rfl
  | some v => cases getsR S xs <;> rfl
theorem ptrs_nil : ptrs [] = some [] := nr rfl
theorem ptrs_ptr : ptrs (.ptr i j :: rs) = (ptrs rs).map ((i, j) :: ·) := by rw [ptrs]
theorem mkT_nil : mkT i [] = [] := nr rfl
theorem mkT_cons {r : RV} : mkT i (r :: rs) = (i, r) :: mkT (i + 1) rs := by rw [mkT]
theorem yd_lit {l : List Oper} : yd S l.toArray j = ydO S (nthX l j) := by unfold yd; rw [nthX_eq]; simp
theorem ydO_some {op : Op} {ty : TypeId} {pos : String} {af : Array Edge} {gd : Option (Nat × Bool)} : ydO S (some ⟨some d, op, ty, pos, af, gd⟩) = (lk S.t d).map (ydV d) := nr rfl
end
end R
end Go.Proofs.Ytflljnaojghifaa
