/- The walk over a small state: one operation. -/
import Derived.Test.YtflljnaojghifaaRwp
import Derived.Laws.StructEq
import Derived.Laws.Tables
namespace Go.Proofs.Ytflljnaojghifaa
open Go Go.RowKit
namespace R

def evO (S : St) : Operand → Option RV
  | .tmp t => lk S.t t
  | .const v => some (.ext v)
  | .global g => some (.ext (.pointer (some ⟨g, 0, none⟩)))
  | .func f => some (.ext (.func (.func f) #[] #[]))

/-- The slots fit. -/
def Sl (s : Nat → Nat) (S : St) (a : Act) : Prop := ∀ i v, lk S.t i = some v → a.tmps.getD i undef = ren s v ∧ clo S.m.length v = true

theorem Sl.eval {s : Nat → Nat} {S : St} {a : Act} (h : Sl s S a) {x : Operand} {v : RV} (hx : evO S x = some v) : a.eval x = ren s v ∧ clo S.m.length v = true := by
  cases x with
  | tmp t => exact h t v hx
  | const u => simp only [evO, Option.some.injEq] at hx; subst hx; exact ⟨rfl, rfl⟩
  | global g => simp only [evO, Option.some.injEq] at hx; subst hx; exact ⟨rfl, rfl⟩
  | func f => simp only [evO, Option.some.injEq] at hx; subst hx; exact ⟨rfl, rfl⟩

/-- What follows waits for what stands ahead of it. -/
def bindV {α : Type} (o : Option α) (K : α → Prop) : Prop := match o with | some v => K v | none => False
@[congr] theorem bindV_congr {α : Type} {a b : Option α} {K : α → Prop} (h : hold a = b) : bindV a K = bindV b K := by rw [← h]; rfl
theorem bindV_some {α : Type} (v : α) (K : α → Prop) : bindV (some v) K = K v := rfl
theorem bindV_out {α : Type} {o : Option α} {K : α → Prop} (h : bindV o K) : ∃ v, o = some v ∧ K v := by
  cases o with
  | none => exact h.elim
  | some v => exact ⟨v, rfl, h⟩

/-- By what a test says. -/
def ifB (b : Bool) (f : Bool → Prop) : Prop := (b = true → f true) ∧ (b = false → f false)
@[congr] theorem condP_congr {a b : Bool} {x y : Prop} (h : hold a = b) : (bif a then x else y) = (bif b then x else y) := by rw [← h]; rfl
@[congr] theorem ifB_congr {a b : Bool} {f : Bool → Prop} (h : hold a = b) : ifB a f = ifB b f := by rw [← h]; rfl
theorem ifB_true (f : Bool → Prop) : ifB true f = f true := by simp [ifB]
theorem ifB_false (f : Bool → Prop) : ifB false f = f false := by simp [ifB]
theorem ifB_out {b : Bool} {f : Bool → Prop} (h : ifB b f) : f b := by
  cases b
  · exact h.2 rfl
  · exact h.1 rfl

def gv (S : St) (x : Operand) (K : RV → Prop) : Prop := bindV (evO S x) K
@[congr] theorem gv_congr {S : St} {x : Operand} {K : RV → Prop} {x' : Operand} (h : hold x = x') : gv S x K = gv S x' K := by rw [← h]; rfl
theorem get_out {S : St} {x : Operand} {K : RV → Prop} (h : gv S x K) : ∃ v, evO S x = some v ∧ K v := bindV_out h

def exv (v : RV) (K : Value → Prop) : Prop := match v with | .ext v => K v | _ => False
@[congr] theorem exv_congr {v : RV} {K : Value → Prop} {v' : RV} (h : hold v = v') : exv v K = exv v' K := by rw [← h]; rfl
theorem exv_out {v : RV} {K : Value → Prop} (h : exv v K) : ∃ u, v = .ext u ∧ K u := by
  cases v <;> first | exact ⟨_, rfl, h⟩ | exact h.elim

def getX (S : St) (x : Operand) (K : Value → Prop) : Prop := gv S x fun v => exv v K
@[congr] theorem getX_congr {S : St} {x : Operand} {K : Value → Prop} {x' : Operand} (h : hold x = x') : getX S x K = getX S x' K := by rw [← h]; rfl
theorem getX_out {S : St} {x : Operand} {K : Value → Prop} (h : getX S x K) : ∃ u, evO S x = some (.ext u) ∧ K u := by
  obtain ⟨v, h1, h2⟩ := get_out h
  obtain ⟨u, rfl, h3⟩ := exv_out h2
  exact ⟨u, h1, h3⟩

def getsR (S : St) : List Operand → Option (List RV)
  | [] => some []
  | x :: xs => match evO S x with
    | some v => match getsR S xs with
      | some vs => some (v :: vs)
      | none => none
    | none => none

theorem getsR_out {s : Nat → Nat} {S : St} {a : Act} (h : Sl s S a) : ∀ {xs : List Operand} {vs : List RV}, getsR S xs = some vs → xs.map a.eval = vs.map (ren s) ∧ ∀ v ∈ vs, clo S.m.length v = true
  | [], vs, hx => by simp only [getsR, Option.some.injEq] at hx; subst hx; simp
  | x :: xs, vs, hx => by
    simp only [getsR] at hx
    split at hx
    · rename_i v hv
      split at hx
      · rename_i us hus
        simp only [Option.some.injEq] at hx
        subst hx
        obtain ⟨h1, h2⟩ := getsR_out h hus
        obtain ⟨h3, h4⟩ := h.eval hv
        exact ⟨by simp [h1, h3], by simpa using ⟨h4, h2⟩⟩
      · cases hx
    · cases hx

def toExts : List RV → Option (List Value)
  | [] => some []
  | .ext v :: r => match toExts r with
    | some vs => some (v :: vs)
    | none => none
  | _ :: _ => none

theorem toExts_out : ∀ {l : List RV} {vs : List Value}, toExts l = some vs → l = vs.map .ext
  | [], vs, h => by simp only [toExts, Option.some.injEq] at h; subst h; rfl
  | .ext v :: r, vs, h => by
    simp only [toExts] at h
    split at h
    · rename_i us hus
      simp only [Option.some.injEq] at h
      subst h
      rw [toExts_out hus]; rfl
    · cases h
  | .ptr _ _ :: _, vs, h => by cases h
  | .sl _ _ _ _ :: _, vs, h => by cases h
  | .clos _ _ :: _, vs, h => by cases h
  | .mp _ :: _, vs, h => by cases h

theorem ren_exts (s : Nat → Nat) (vs : List Value) : (vs.map RV.ext).map (ren s) = vs := by
  rw [List.map_map]; exact List.map_id' vs

def getsX (S : St) (xs : List Operand) (K : List Value → Prop) : Prop := bindV (getsR S xs) fun rs => bindV (toExts rs) K

@[congr] theorem getsX_congr {S : St} {xs : List Operand} {K : List Value → Prop} {xs' : List Operand} (h : hold xs = xs') : getsX S xs K = getsX S xs' K := by rw [← h]; rfl
theorem getsX_out {S : St} {xs : List Operand} {K : List Value → Prop} (h : getsX S xs K) : ∃ vs, getsR S xs = some (vs.map .ext) ∧ K vs := by
  obtain ⟨rs, hrs, h⟩ := bindV_out h
  obtain ⟨vs, hvs, h⟩ := bindV_out h
  rw [toExts_out hvs] at hrs
  exact ⟨vs, hrs, h⟩

theorem Sl.evals {s : Nat → Nat} {S : St} {a : Act} (h : Sl s S a) {xs : List Operand} {vs : List Value} (hx : getsR S xs = some (vs.map .ext)) : xs.map a.eval = vs := by
  rw [(getsR_out h hx).1, ren_exts]

/-- What is worked out of values alone. -/
def pureW (P : Program) (m : Sem Value) (K : Value → Prop) : Prop := ∃ v, (∀ w, m.run P w = .ok v w) ∧ K v

def tyS (P : Program) (t : TypeId) : Option (Bool × Nat) :=
  match P.underlying t, P.info? t with
  | some d, some i => some ((match d with | .struct _ | .array _ _ => true | _ => false), i.size)
  | _, _ => none

def fieldOff (P : Program) (T : TypeId) (f : Nat) : Option Nat :=
  match P.underlying T with
  | some (.struct fs) => match fs[f]? with
    | some fld => match P.info? fld.type with
      | some i => if i.size = 0 then none else some fld.offset
      | none => none
    | none => none
  | _ => none

def elemOff (P : Program) (T : TypeId) : Option (Option Nat × Nat) :=
  match P.underlying T with
  | some (.slice e) => match P.info? e with
    | some i => some (none, i.size)
    | none => none
  | some (.array n e) => match P.info? e with
    | some i => some (some n, i.size)
    | none => none
  | _ => none

def tyZ (P : Program) (t : TypeId) : Option (List Value) :=
  match P.info? t with
  | some i => match i.zero with
    | some v => some v.cells.toList
    | none => none
  | none => none

def flat : RV → List RV
  | .ext v => v.cells.toList.map .ext
  | v => [v]

def one : RV → Bool
  | .ext v => v.oneCell'
  | _ => true

def takeX : Nat → List RV → Option (List Value)
  | 0, _ => some []
  | n + 1, .ext v :: r => (takeX n r).map (v :: ·)
  | _ + 1, _ => none

theorem takeX_out : ∀ {n : Nat} {l : List RV} {vs : List Value}, takeX n l = some vs → l.take n = vs.map .ext ∧ vs.length = n
  | 0, l, vs, h => by simp only [takeX, Option.some.injEq] at h; subst h; simp
  | n + 1, [], vs, h => by simp [takeX] at h
  | n + 1, .ext v :: r, vs, h => by
    simp only [takeX, Option.map_eq_some_iff] at h
    obtain ⟨us, h1, rfl⟩ := h
    obtain ⟨h2, h3⟩ := takeX_out h1
    simp [h2, h3]
  | n + 1, .ptr _ _ :: _, vs, h => by simp [takeX] at h
  | n + 1, .sl _ _ _ _ :: _, vs, h => by simp [takeX] at h
  | n + 1, .clos _ _ :: _, vs, h => by simp [takeX] at h
  | n + 1, .mp _ :: _, vs, h => by simp [takeX] at h

def dropX : Nat → List RV → List RV
  | 0, l => l
  | n + 1, _ :: r => dropX n r
  | _ + 1, [] => []
theorem dropX_eq : ∀ (n : Nat) (l : List RV), dropX n l = l.drop n
  | 0, l => rfl
  | n + 1, [] => by simp [dropX]
  | n + 1, v :: r => by simp [dropX, dropX_eq n r]

def nthX {α : Type} : List α → Nat → Option α
  | [], _ => none
  | v :: _, 0 => some v
  | _ :: r, n + 1 => nthX r n
theorem nthX_eq {α : Type} : ∀ (l : List α) (n : Nat), nthX l n = l[n]?
  | [], n => by simp [nthX]
  | v :: r, 0 => by simp [nthX]
  | v :: r, n + 1 => by simp [nthX, nthX_eq r n]

def setX {α : Type} : List α → Nat → α → List α
  | [], _, _ => []
  | _ :: r, 0, u => u :: r
  | v :: r, n + 1, u => v :: setX r n u
theorem setX_eq {α : Type} : ∀ (l : List α) (n : Nat) (u : α), setX l n u = l.set n u
  | [], n, u => by simp [setX]
  | v :: r, 0, u => by simp [setX]
  | v :: r, n + 1, u => by simp [setX, setX_eq r n u]

/-- Some cells, from the n-th on, are others. -/
def putX {α : Type} : Nat → List α → List α → Option (List α)
  | _, c, [] => some c
  | 0, _ :: c, u :: us => (putX 0 c us).map (u :: ·)
  | n + 1, v :: c, us => (putX n c us).map (v :: ·)
  | _, [], _ :: _ => none
theorem putX_out {α : Type} : ∀ {n : Nat} {c us c' : List α}, putX n c us = some c' → us = [] ∧ c' = c ∨ n + us.length ≤ c.length ∧ c' = c.take n ++ us ++ c.drop (n + us.length)
  | n, c, [], c', h => by
    have : c' = c := by cases n <;> cases c <;> simpa [putX] using h.symm
    exact .inl ⟨rfl, this⟩
  | 0, v :: c, u :: us, c', h => by
    simp only [putX, Option.map_eq_some_iff] at h
    obtain ⟨d, h1, rfl⟩ := h
    rcases putX_out h1 with ⟨rfl, rfl⟩ | ⟨h2, rfl⟩
    · exact .inr (by simp)
    · exact .inr (by simp at h2 ⊢; omega)
  | n + 1, v :: c, u :: us, c', h => by
    simp only [putX, Option.map_eq_some_iff] at h
    obtain ⟨d, h1, rfl⟩ := h
    rcases putX_out h1 with ⟨h2, _⟩ | ⟨h2, rfl⟩
    · cases h2
    · refine .inr ⟨by simp at h2 ⊢; omega, ?_⟩
      rw [show n + 1 + (u :: us).length = (n + (u :: us).length) + 1 by omega]
      simp
  | 0, [], u :: us, c', h => by simp [putX] at h
  | n + 1, [], u :: us, c', h => by simp [putX] at h

def segX (c : List RV) (off n : Nat) : Option (List Value) := takeX n (dropX off c)

def loadR (g : Bool) (n off : Nat) (c : List RV) (K : RV → Prop) : Prop :=
  match g with
  | true => bindV (segX c off n) fun vs => K (.ext (.agg vs.toArray))
  | false => bindV (nthX c off) K

def loadX (g : Bool) (n off : Nat) (c : Array Value) : Option Value :=
  match g with
  | true => if off + n ≤ c.size then some (.agg (c.extract off (off + n))) else none
  | false => c[off]?

@[congr] theorem loadR_congr {g g' : Bool} {n n' off : Nat} {c : List RV} {K : RV → Prop} (h : hold g = g') (h2 : hold n = n') : loadR g n off c K = loadR g' n' off c K := by rw [← h, ← h2]; rfl

def nilOK : Value → Bool
  | .pointer (some _) => true
  | .func (.func _) _ _ => true
  | .iface _ _ => true
  | .map (some _) => true
  | .chan (some _) => true
  | _ => false

/-- A call's target, and its arguments. -/
def tgt (f : RV) (vs : List RV) : Option (FuncId × List RV) :=
  match f with
  | .ext (.func (.func g) first caps) => some (g, first.toList.map .ext ++ vs ++ caps.toList.map .ext)
  | .clos g cs => some (g, vs ++ cs.map fun c => .ptr c.1 c.2)
  | _ => none

def goes (P : Program) (g : FuncId) : Prop := ∀ args w, (callFunc g args).run P w = .ok (.enter g args) w

/-- A call that hands back v, and changes nothing that was there. -/
structure PureC (P : Program) (x : Nat → Obj → Prop) (g : FuncId) (args : List Value) (v : Value) : Prop where
  out : ∀ w, (∀ b o, x b o → w.heap[b]? = some o) → Calls P g args.toArray w fun e w' => e = .returned v ∧ Fr [] w w'

/-- What a call may leave. -/
def GOut (s : Nat → Nat) (S : St) (w : World) (K : RV → St → Prop) (Pn : Value → St → Prop) (e : Ending) (w' : World) : Prop :=
  Fr ((List.range S.m.length).map s) w w' ∧
  ((∃ v S', e = .returned (ren s v) ∧ clo S.m.length v = true ∧ S'.t = S.t ∧ S'.m.length = S.m.length ∧ Mem s S'.m S'.x w' ∧ K v S') ∨
   (∃ v S', e = .panicked [{ v, recovered := false }] ∧ S'.t = S.t ∧ S'.m.length = S.m.length ∧ Mem s S'.m S'.x w' ∧ Pn v S'))

def GenC (P : Program) (S : St) (g : FuncId) (as : List RV) (K : RV → St → Prop) (Pn : Value → St → Prop) : Prop :=
  ∀ s w, Mem s S.m S.x w → Calls P g (as.map (ren s)).toArray w (GOut s S w K Pn)

/-- A function that the model stands in for. -/
def ExtC (P : Program) (g : FuncId) (es : List Value) (v : Value) : Prop := ∀ w, (callFunc g es.toArray).run P w = .ok (.value v) w
def callW (P : Program) (q : Bool) (S : St) (t : Option (FuncId × List RV)) (K : RV → St → Prop) (Pn : Value → St → Prop) : Prop :=
  match t with
  | none => False
  | some (g, as) => (goes P g ∧ ((∃ es v, toExts as = some es ∧ PureC P S.x g es v ∧ K (.ext v) S) ∨ (q = false ∧ GenC P S g as K Pn))) ∨ (∃ es v, toExts as = some es ∧ ExtC P g es v ∧ K (.ext v) S)
@[congr] theorem callW_congr {P : Program} {q : Bool} {S : St} {t u : Option (FuncId × List RV)} {K : RV → St → Prop} {Pn : Value → St → Prop} (h : hold t = u) : callW P q S t K Pn = callW P q S u K Pn := by rw [← h]; rfl
@[congr] theorem pureW_congr {P : Program} {m : Sem Value} {K : Value → Prop} {P' : Program} (h : hold P = P') : pureW P m K = pureW P' m K := by rw [← h]; rfl

/-- A builtin of values. -/
def builtW (P : Program) (m : Sem Next) (K : Value → Prop) : Prop := ∃ v, (∀ w, m.run P w = .ok (.value v) w) ∧ K v
@[congr] theorem builtW_congr {P : Program} {m : Sem Next} {K : Value → Prop} {P' : Program} (h : hold P = P') : builtW P m K = builtW P' m K := by rw [← h]; rfl

/-- A method of what an interface value holds. -/
def invokeW (P : Program) (S : St) (m : Sem Next) (K : Value → Prop) : Prop := ∃ g es v, (∀ w, m.run P w = .ok (.enter g es) w) ∧ PureC P S.x g es.toList v ∧ K v
@[congr] theorem invokeW_congr {P : Program} {S : St} {m : Sem Next} {K : Value → Prop} {P' : Program} (h : hold P = P') : invokeW P S m K = invokeW P' S m K := by rw [← h]; rfl

/-- Memory that came in. -/
def extW (S : St) (g : Bool) (n b off : Nat) (K : Value → Prop) : Prop := ∃ c T' f v, S.x b (.cells c T' f) ∧ loadX g n off c = some v ∧ K v
@[congr] theorem extW_congr {S : St} {g g' : Bool} {n n' b b' off off' : Nat} {K : Value → Prop} (h : hold g = g') (h2 : hold n = n') (h3 : hold b = b') (h4 : hold off = off') : extW S g n b off K = extW S g' n' b' off' K := by rw [← h, ← h2, ← h3, ← h4]; rfl

def lookW (P : Program) (T : TypeId) (k : Value) (ok : Bool) (o : Obj) (K : Value → Prop) : Prop := ∃ v, (∀ r w, w.heap[r]? = some o → (Instr.lookup T (.map (some r)) k ok).run P w = .ok v w) ∧ K v
@[congr] theorem lookW_congr {P : Program} {T : TypeId} {k : Value} {ok : Bool} {o : Obj} {K : Value → Prop} {T' : TypeId} (h : hold T = T') : lookW P T k ok o K = lookW P T' k ok o K := by rw [← h]; rfl
def updW (P : Program) (T : TypeId) (k x : Value) (o : Obj) (K : Obj → Prop) : Prop := ∃ o', (∀ r w, w.heap[r]? = some o → (Instr.mapUpdate T (.map (some r)) k x).run P w = .ok () { w with heap := w.heap.setIfInBounds r o' }) ∧ K o'
@[congr] theorem updW_congr {P : Program} {T : TypeId} {k x : Value} {o : Obj} {K : Obj → Prop} {T' : TypeId} (h : hold T = T') : updW P T k x o K = updW P T' k x o K := by rw [← h]; rfl
/-- A new row. -/
def rowW (P : Program) (m : Sem Value) (K : TypeId → List Value → Nat → Nat → Prop) : Prop :=
  ∃ elem cells len cap, (∀ w, m.run P w = .ok (.slice (some ⟨w.heap.size, 0, none⟩) len cap) (w.alloc (.cells cells elem))) ∧ K elem cells.toList len cap
@[congr] theorem rowW_congr {P : Program} {m : Sem Value} {K : TypeId → List Value → Nat → Nat → Prop} {P' : Program} (h : hold P = P') : rowW P m K = rowW P' m K := by rw [← h]; rfl

/-- What is known to lie in bounds. -/
def inW (j : Int) (len : Nat) (K : Prop) : Prop := (0 ≤ j ∧ j < (len : Int)) ∧ K
@[congr] theorem inW_congr {j : Int} {len : Nat} {K : Prop} {len' : Nat} (h : hold len = len') : inW j len K = inW j len' K := by rw [← h]; rfl

def isK (x : Operand) : Bool := match x with | .const _ => true | _ => false

/-- The cells of a captured closure. -/
def ptrs : List RV → Option (List (Nat × Nat))
  | [] => some []
  | .ptr k o :: r => (ptrs r).map ((k, o) :: ·)
  | _ :: _ => none
theorem ptrs_out : ∀ {l : List RV} {ps : List (Nat × Nat)}, ptrs l = some ps → l = ps.map fun c => .ptr c.1 c.2
  | [], ps, h => by simp only [ptrs, Option.some.injEq] at h; subst h; rfl
  | .ptr k o :: r, ps, h => by
    simp only [ptrs, Option.map_eq_some_iff] at h
    obtain ⟨qs, h1, rfl⟩ := h
    rw [ptrs_out h1]; rfl
  | .ext _ :: _, ps, h => by simp [ptrs] at h
  | .sl _ _ _ _ :: _, ps, h => by simp [ptrs] at h
  | .clos _ _ :: _, ps, h => by simp [ptrs] at h
  | .mp _ :: _, ps, h => by simp [ptrs] at h

def ptrV (v : Value) : Option (Nat × Nat) := match v with | .pointer (some ⟨b, off, none⟩) => some (b, off) | _ => none
theorem ptrV_out {v : Value} {p : Nat × Nat} (h : ptrV v = some p) : v = .pointer (some ⟨p.1, p.2, none⟩) := by
  unfold ptrV at h
  split at h
  · simp only [Option.some.injEq] at h; subst h; rfl
  · cases h
def slV (v : Value) : Option (Nat × Nat × Nat × Nat) := match v with | .slice (some ⟨b, off, none⟩) l c => some (b, off, l, c) | _ => none
theorem slV_out {v : Value} {p : Nat × Nat × Nat × Nat} (h : slV v = some p) : v = .slice (some ⟨p.1, p.2.1, none⟩) p.2.2.1 p.2.2.2 := by
  unfold slV at h
  split at h
  · simp only [Option.some.injEq] at h; subst h; rfl
  · cases h

/-! Structs of whole numbers and bools, held against each other -/
def ikEq : IntKind → IntKind → Bool
  | .i8, .i8 => true | .i16, .i16 => true | .i32, .i32 => true | .i64, .i64 => true
  | .u8, .u8 => true | .u16, .u16 => true | .u32, .u32 => true | .u64, .u64 => true
  | _, _ => false
theorem ikEq_out {a b : IntKind} (h : ikEq a b = true) : a = b := by cases a <;> cases b <;> first | rfl | cases h

def fitsK : List (Option IntKind) → List Value → Bool
  | [], [] => true
  | none :: ks, .bool _ :: xs => fitsK ks xs
  | some k :: ks, .int j _ :: xs => ikEq k j && fitsK ks xs
  | _, _ => false

def eqL : List Value → List Value → Bool
  | .bool a :: xs, .bool b :: ys => (a == b) && eqL xs ys
  | .int _ a :: xs, .int _ b :: ys => (a == b) && eqL xs ys
  | _, _ => true

/-- The kinds of a struct's fields, from the i-th cell on. -/
def kindsL (P : Program) : Nat → List Field → Option (List (Option IntKind))
  | _, [] => some []
  | i, f :: fs => if f.name = "_" ∨ f.offset ≠ i then none else match P.underlying f.type with
    | some .bool => (kindsL P (i + 1) fs).map (none :: ·)
    | some (.int k) => (kindsL P (i + 1) fs).map (some k :: ·)
    | _ => none

def flatKs (P : Program) (T : TypeId) : Option (List (Option IntKind)) :=
  match P.underlying T with
  | some (.struct fs) => if P.stoodInHeld T || P.eqGuardType P.depth T then none else kindsL P 0 fs.toList
  | _ => none

theorem run_eqFields_flat {P : Program} (w : World) (d : Nat) (X Y : Array Value) : ∀ (fs : List Field) (i : Nat) (ks : List (Option IntKind)) (xs ys : List Value), kindsL P i fs = some ks →
    X.toList.drop i = xs → Y.toList.drop i = ys → fitsK ks xs = true → fitsK ks ys = true → (Op.eqFields (d + 1) X Y fs).run P w = .ok (eqL xs ys) w
  | [], i, ks, xs, ys, hk, hx, hy, fx, fy => by
    simp only [kindsL, Option.some.injEq] at hk
    subst hk
    cases xs <;> simp [fitsK] at fx
    cases ys <;> simp [fitsK] at fy
    simp [Op.eqFields, eqL]
  | f :: fs, i, ks, xs, ys, hk, hx, hy, fx, fy => by
    simp only [kindsL] at hk
    split at hk
    · cases hk
    · rename_i hn
      have hn1 : ¬ f.name = "_" := fun e => hn (.inl e)
      have hn2 : f.offset = i := Classical.byContradiction fun e => hn (.inr e)
      have hget : ∀ (Z : Array Value) (z : Value) (zs : List Value), Z.toList.drop i = z :: zs → Z[i]? = some z ∧ Z.toList.drop (i + 1) = zs := by
        intro Z z zs h
        refine ⟨?_, ?_⟩
        · have := congrArg (·[0]?) h
          simpa [List.getElem?_drop] using this
        · rw [← List.drop_drop, h]; rfl
      have hpart : ∀ (Z : Array Value) (z : Value) (D : TypeDesc), P.underlying f.type = some D → (match D with | .struct _ | .array _ _ => true | _ => false) = false → Z[i]? = some z → (part f.type Z f.offset).run P w = .ok z w := by
        intro Z z D hD hd hz
        have hagg : (isAgg f.type).run P w = .ok false w := by
          unfold isAgg
          rw [Sem.run_bind, run_underlying hD w]
          cases D <;> simp_all
        unfold part
        rw [Sem.run_bind, hagg]
        simp [hn2, hz]
      split at hk
      · rename_i hu
        simp only [Option.map_eq_some_iff] at hk
        obtain ⟨ks, hks, rfl⟩ := hk
        cases xs with
        | nil => simp [fitsK] at fx
        | cons x xs =>
          cases ys with
          | nil => simp [fitsK] at fy
          | cons y ys =>
            cases x <;> simp only [fitsK, Bool.false_eq_true] at fx
            cases y <;> simp only [fitsK, Bool.false_eq_true] at fy
            rename_i a b
            obtain ⟨x1, x2⟩ := hget _ _ _ hx
            obtain ⟨y1, y2⟩ := hget _ _ _ hy
            have ih := run_eqFields_flat w d X Y fs (i + 1) ks xs ys hks x2 y2 fx fy
            simp only [Op.eqFields, ne_eq, hn1, not_false_eq_true, if_true, Sem.run_bind, hpart X _ _ hu rfl x1, hpart Y _ _ hu rfl y1, Result.andThen_ok, run_equalIn_bool w d f.type a b hu, eqL]
            cases hab : a == b
            · simp
            · simp [ih]
      · rename_i k hu
        simp only [Option.map_eq_some_iff] at hk
        obtain ⟨ks, hks, rfl⟩ := hk
        cases xs with
        | nil => simp [fitsK] at fx
        | cons x xs =>
          cases ys with
          | nil => simp [fitsK] at fy
          | cons y ys =>
            cases x <;> simp only [fitsK, Bool.false_eq_true, Bool.and_eq_true] at fx
            cases y <;> simp only [fitsK, Bool.false_eq_true, Bool.and_eq_true] at fy
            rename_i ka a kb b
            obtain ⟨x1, x2⟩ := hget _ _ _ hx
            obtain ⟨y1, y2⟩ := hget _ _ _ hy
            have e1 := ikEq_out fx.1
            have e2 := ikEq_out fy.1
            subst e1
            subst e2
            have ih := run_eqFields_flat w d X Y fs (i + 1) ks xs ys hks x2 y2 fx.2 fy.2
            simp only [Op.eqFields, ne_eq, hn1, not_false_eq_true, if_true, Sem.run_bind, hpart X _ _ hu rfl x1, hpart Y _ _ hu rfl y1, Result.andThen_ok, run_equalIn_int w d f.type _ _ a b hu, eqL]
            cases hab : a == b
            · simp
            · simp [ih]
      · cases hk

theorem eqGuard_off {P : Program} {T : TypeId} {op : BinOp} {x y : Operand} {a b : Array Value} (h : P.eqGuardType P.depth T = false) (w : World) : (eqGuard op T x y (.agg a) (.agg b)).run P w = .ok () w := by
  unfold eqGuard
  cases op <;> simp [h]

theorem run_eq_flat {P : Program} {T : TypeId} {ks : List (Option IntKind)} {xs ys : Array Value} (h : flatKs P T = some ks) (hx : fitsK ks xs.toList = true) (hy : fitsK ks ys.toList = true) (w : World) :
    P.eqGuardType P.depth T = false ∧ (Op.equal T (.agg xs) (.agg ys)).run P w = .ok (eqL xs.toList ys.toList) w := by
  unfold flatKs at h
  split at h
  · rename_i fs hu
    split at h
    · cases h
    · rename_i hc
      simp only [Bool.or_eq_true, not_or, Bool.not_eq_true] at hc
      refine ⟨hc.2, ?_⟩
      have hf : P.fieldsOf T = fs := by simp [Program.fieldsOf, hu]
      have := run_equalIn_struct (P := P) w 9999 T xs ys (by rw [hf, hu]) hc.1
      unfold Op.equal
      show (Op.equalIn (9999 + 1) T (.agg xs) (.agg ys)).run P w = _
      rw [this, hf]
      exact run_eqFields_flat w 9998 xs ys fs.toList 0 ks _ _ h (by simp) (by simp) hx hy
  · cases h

def binW (P : Program) (op : BinOp) (T : TypeId) (x y : Operand) (a b : Value) (K : Value → Prop) : Prop :=
  match a, b, op with
  | .agg xs, .agg ys, .eql => bindV (flatKs P T) fun ks => (fitsK ks xs.toList = true ∧ fitsK ks ys.toList = true) ∧ K (.bool (eqL xs.toList ys.toList))
  | .agg xs, .agg ys, .neq => bindV (flatKs P T) fun ks => (fitsK ks xs.toList = true ∧ fitsK ks ys.toList = true) ∧ K (.bool (!eqL xs.toList ys.toList))
  | a, b, op => pureW P (do eqGuard op T x y a b; binOp op T a b) K
@[congr] theorem binW_congr {P : Program} {op : BinOp} {T : TypeId} {x y : Operand} {a b : Value} {K : Value → Prop} {op' : BinOp} (h : hold op = op') : binW P op T x y a b K = binW P op' T x y a b K := by rw [← h]; rfl

theorem binW_out {P : Program} {op : BinOp} {T : TypeId} {x y : Operand} {a b : Value} {K : Value → Prop} (h : binW P op T x y a b K) : ∃ v, (∀ w, (do eqGuard op T x y a b; binOp op T a b : Sem Value).run P w = .ok v w) ∧ K v := by
  unfold binW at h
  split at h
  · obtain ⟨ks, hk, ⟨h1, h2⟩, h3⟩ := bindV_out h
    refine ⟨_, fun w => ?_, h3⟩
    obtain ⟨g1, g2⟩ := run_eq_flat hk h1 h2 w
    rw [Sem.run_bind, eqGuard_off g1]
    simp [binOp, g2]
  · obtain ⟨ks, hk, ⟨h1, h2⟩, h3⟩ := bindV_out h
    refine ⟨_, fun w => ?_, h3⟩
    obtain ⟨g1, g2⟩ := run_eq_flat hk h1 h2 w
    rw [Sem.run_bind, eqGuard_off g1]
    simp [binOp, g2]
  · exact h

def pickW (v : Value) (a b : RV) (K : RV → Prop) : Prop := match v with | .bool t => ifB t fun t => K (bif t then a else b) | _ => False
@[congr] theorem pickW_congr {v : Value} {a b : RV} {K : RV → Prop} {v' : Value} (h : hold v = v') : pickW v a b K = pickW v' a b K := by rw [← h]; rfl
def nilW (v : RV) (A : Prop) : Prop := match v with | .ext u => nilOK u = true ∧ A | .ptr _ _ => A | .clos _ _ => A | .mp _ => A | .sl _ _ _ _ => False
@[congr] theorem nilW_congr {v : RV} {A : Prop} {v' : RV} (h : hold v = v') : nilW v A = nilW v' A := by rw [← h]; rfl
def funcW (S : St) (fn : Fn) (fs cs : List RV) (K : RV → St → Prop) : Prop := match fs, ptrs cs, fn with
      | [], some (c :: l), .func g => K (.clos g (c :: l)) S
      | fs, _, fn => bindV (toExts fs) fun fs => bindV (toExts cs) fun cs => K (.ext (.func fn fs.toArray cs.toArray)) S
@[congr] theorem funcW_congr {S : St} {K : RV → St → Prop} {fn : Fn} {fs cs : List RV} {fn' : Fn} (h : hold fn = fn') : funcW S fn fs cs K = funcW S fn' fs cs K := by rw [← h]; rfl
def faW (v : RV) (n : Nat) (K : RV → Prop) : Prop := match v with
    | .ptr k off => K (.ptr k (off + n))
    | .ext u => bindV (ptrV u) fun p => K (.ext (.pointer (some ⟨p.1, p.2 + n, none⟩)))
    | _ => False
@[congr] theorem faW_congr {v : RV} {n : Nat} {K : RV → Prop} {n' : Nat} (h : hold n = n') : faW v n K = faW v n' K := by rw [← h]; rfl
def idxW (v : RV) (z : Option Nat × Nat) (i : Value) (K : RV → Prop) : Prop := match i with
    | .int _ j => match v, z.1 with
      | .sl k off len _, none => inW j len (K (.ptr k (off + j.toNat * z.2)))
      | .ptr k off, some len => inW j len (K (.ptr k (off + j.toNat * z.2)))
      | .ext u, none => bindV (slV u) fun p => inW j p.2.2.1 (K (.ext (.pointer (some ⟨p.1, p.2.1 + j.toNat * z.2, none⟩))))
      | _, _ => False
    | _ => False
@[congr] theorem idxW_congr {v : RV} {z : Option Nat × Nat} {i : Value} {K : RV → Prop} {z' : Option Nat × Nat} (h : hold z = z') : idxW v z i K = idxW v z' i K := by rw [← h]; rfl
def cellW (o : RO) (K : TypeId → List RV → Prop) : Prop := match o with | .cells T c => K T c | _ => False
@[congr] theorem cellW_congr {o : RO} {K : TypeId → List RV → Prop} {o' : RO} (h : hold o = o') : cellW o K = cellW o' K := by rw [← h]; rfl
def loadW (S : St) (z : Bool × Nat) (v : RV) (K : RV → Prop) : Prop := match v with
    | .ptr k off => bindV (nthX S.m k) fun o => cellW o fun _ c => loadR z.1 z.2 off c K
    | .ext u => bindV (ptrV u) fun p => extW S z.1 z.2 p.1 p.2 fun v => K (.ext v)
    | _ => False
@[congr] theorem loadW_congr {S : St} {z : Bool × Nat} {v : RV} {K : RV → Prop} {z' : Bool × Nat} (h : hold z = z') : loadW S z v K = loadW S z' v K := by rw [← h]; rfl
def storeW (S : St) (z : Bool × Nat) (p v : RV) (K : St → Prop) : Prop := match p with
    | .ptr k off => bindV (nthX S.m k) fun o => cellW o fun T' c => bindV (putX off c (flat v)) fun c' => ((flat v).length = z.2 ∧ (flat v).all one = true ∧ z.2 ≠ 0) ∧ K ⟨S.t, setX S.m k (.cells T' c'), S.x⟩
    | _ => False
@[congr] theorem storeW_congr {S : St} {z : Bool × Nat} {p v : RV} {K : St → Prop} {z' : Bool × Nat} (h : hold z = z') : storeW S z p v K = storeW S z' p v K := by rw [← h]; rfl
def condW (v : Value) (A B : Prop) : Prop := match v with | .bool t => ifB t fun t => bif t then A else B | _ => False
@[congr] theorem condW_congr {v : Value} {A B : Prop} {v' : Value} (h : hold v = v') : condW v A B = condW v' A B := by rw [← h]; rfl
/-- A struct's zero cells, and where its fields lie. -/
def bldS (P : Program) (T : TypeId) : Option (List Value × List (Nat × Nat)) :=
  match P.info? T, P.underlying T with
  | some it, some (.struct fields) => match it.zero, fields.toList.mapM (fun f => (P.info? f.type).map fun i => (f.offset, i.size)) with
    | some z, some places => some (z.cells.toList, places)
    | _, _ => none
  | some it, some (.array n e) => match it.zero, P.info? e with
    | some z, some ie => some (z.cells.toList, (List.range n).map fun i => (i * ie.size, ie.size))
    | _, _ => none
  | _, _ => none
theorem fill_mono {f g : Nat → Option (Nat × Nat)} (h : ∀ i p, g i = some p → f i = some p) : ∀ (l : List (Nat × Value)) (c cs : Array Value), Instr.fill g c l = some cs → Instr.fill f c l = some cs
  | [], c, cs, hf => hf
  | (i, v) :: l, c, cs, hf => by
    simp only [Instr.fill] at hf ⊢
    cases hg : g i with
    | none => simp [hg] at hf
    | some p =>
      rw [h i p hg]
      simp only [hg] at hf ⊢
      split at hf
      · cases hf
      · rename_i hc
        rw [if_neg hc]
        exact fill_mono h l _ _ hf

def fillW : List (Nat × Nat) → List Value → List Nat → List Value → (List Value → Prop) → Prop
  | _, c, [], [], K => K c
  | ps, c, i :: is, v :: vs, K => bindV (nthX ps i) fun p => bindV (putX p.1 c v.cells.toList) fun c' => v.cells.toList.length = p.2 ∧ p.1 + p.2 ≤ c.length ∧ fillW ps c' is vs K
  | _, _, _, _, _ => False
@[congr] theorem fillW_congr {ps : List (Nat × Nat)} {c : List Value} {is : List Nat} {vs : List Value} {K : List Value → Prop} {is' : List Nat} (h : hold is = is') : fillW ps c is vs K = fillW ps c is' vs K := by rw [← h]; rfl

theorem fold_set (off : Nat) : ∀ (l : List Value) (k : Nat) (c : Array Value), off + k + l.length ≤ c.size →
    ((l.zipIdx k).foldl (fun cs x => cs.setIfInBounds (off + x.2) x.1) c).toList = c.toList.take (off + k) ++ l ++ c.toList.drop (off + k + l.length)
  | [], k, c, _ => by simp
  | v :: l, k, c, h => by
    have h' : off + k < c.size := by simp at h; omega
    rw [List.zipIdx_cons, List.foldl_cons, fold_set off l (k + 1) _ (by simp at h ⊢; omega)]
    apply List.ext_getElem?
    intro j
    simp only [Array.toList_setIfInBounds, List.getElem?_append, List.length_take, List.length_set, Array.length_toList, List.length_append, List.length_cons, List.getElem?_take, List.getElem?_set, List.getElem?_drop]
    by_cases h1 : j < off + k
    · have : j < min (off + (k + 1)) c.size := by omega
      have h2 : j < min (off + k) c.size := by omega
      simp only [this, h2, show j < min (off + (k + 1)) c.size + l.length by omega, show j < min (off + k) c.size + (l.length + 1) by omega, if_true, show off + k ≠ j by omega, if_false, show j < off + (k + 1) by omega, h1]
    · by_cases h2 : j = off + k
      · subst h2
        simp only [show off + k < min (off + (k + 1)) c.size by omega, show off + k < min (off + (k + 1)) c.size + l.length by omega, show ¬ off + k < min (off + k) c.size by omega, show off + k < min (off + k) c.size + (l.length + 1) by omega, if_true, if_false, h', show off + k < off + (k + 1) by omega, show off + k - min (off + k) c.size = 0 by omega]
        simp
      · by_cases h3 : j < off + k + 1 + l.length
        · simp only [show ¬ j < min (off + (k + 1)) c.size by omega, show j < min (off + (k + 1)) c.size + l.length by omega, show ¬ j < min (off + k) c.size by omega, show j < min (off + k) c.size + (l.length + 1) by omega, if_true, if_false]
          rw [show j - min (off + k) c.size = (j - min (off + (k + 1)) c.size) + 1 by omega]
          simp
        · simp only [show ¬ j < min (off + (k + 1)) c.size by omega, show ¬ j < min (off + (k + 1)) c.size + l.length by omega, show ¬ j < min (off + k) c.size by omega, show ¬ j < min (off + k) c.size + (l.length + 1) by omega, if_false]
          simp only [show off + (k + 1) + l.length + (j - (min (off + (k + 1)) c.size + l.length)) = j by simp at h; omega, show off + k + (l.length + 1) + (j - (min (off + k) c.size + (l.length + 1))) = j by simp at h; omega, show off + k ≠ j by omega, if_false]

theorem fillW_out {ps : List (Nat × Nat)} : ∀ {is : List Nat} {vs : List Value} {c : List Value} {K : List Value → Prop}, fillW ps c is vs K → ∃ cs, Instr.fill (ps.toArray[·]?) c.toArray (is.zip vs) = some cs.toArray ∧ K cs
  | [], [], c, K, h => ⟨c, rfl, h⟩
  | i :: is, v :: vs, c, K, h => by
    obtain ⟨p, hp, h⟩ := bindV_out h
    obtain ⟨c', hc, hl, hle, h⟩ := bindV_out h
    obtain ⟨cs, h1, h2⟩ := fillW_out h
    refine ⟨cs, ?_, h2⟩
    rw [nthX_eq] at hp
    have hc' : c' = c.take p.1 ++ v.cells.toList ++ c.drop (p.1 + v.cells.toList.length) := by
      rcases putX_out hc with ⟨h3, h4⟩ | ⟨_, h4⟩
      · rw [h3, h4]; simp
      · exact h4
    have hs : v.cells.size = p.2 := by rw [← hl]; simp
    have hp' : ps.toArray[i]? = some p := by simpa using hp
    simp only [List.zip_cons_cons, Instr.fill, hp']
    rw [if_neg (by simp [hs]; omega)]
    have hf : v.cells.zipIdx.foldl (fun cs (x : Value × Nat) => cs.setIfInBounds (p.1 + x.2) x.1) c.toArray = c'.toArray := by
      rw [← Array.foldl_toList, Array.toList_zipIdx]
      apply Array.ext'
      rw [fold_set p.1 v.cells.toList 0 c.toArray (by simp; rw [hs]; omega), hc']
      simp
    rw [hf]
    exact h1
  | [], _ :: _, c, K, h => h.elim
  | _ :: _, [], c, K, h => h.elim

theorem build_out {P : Program} {T : TypeId} {z : List Value × List (Nat × Nat)} {is : List Nat} {vs : List Value} {K : List Value → Prop} (hz : bldS P T = some z) (h : fillW z.2 z.1 is vs K) :
    ∃ cs : List Value, (∀ w, (Instr.build T (is.zip vs).toArray).run P w = .ok (.agg cs.toArray) w) ∧ K cs := by
  obtain ⟨cs, h1, h2⟩ := fillW_out h
  refine ⟨cs, fun w => run_build w T _ _ ?_, h2⟩
  unfold bldS at hz
  split at hz
  · rename_i it fields hi hu
    split at hz
    · rename_i v places hv hp
      simp only [Option.some.injEq] at hz
      subst hz
      simp only [Program.built, hi, hu, hv, hp]
      simpa using h1
    · cases hz
  · rename_i it n e hi hu
    split at hz
    · rename_i v ie hv hp
      simp only [Option.some.injEq] at hz
      subst hz
      simp only [Program.built, hi, hu, hv, hp]
      refine fill_mono (fun i p h => ?_) _ _ _ (by simpa using h1)
      simp only [Option.map_eq_some_iff] at h
      obtain ⟨j, hj, rfl⟩ := h
      obtain ⟨hlt, rfl⟩ := List.getElem?_eq_some_iff.1 hj
      simp
    · cases hz
  · cases hz

def objW (o : RO) (K : Obj → Prop) : Prop := match o with | .obj o => K o | _ => False
@[congr] theorem objW_congr {o : RO} {K : Obj → Prop} {o' : RO} (h : hold o = o') : objW o K = objW o' K := by rw [← h]; rfl
def mpW (v : RV) (K : Nat → Prop) : Prop := match v with | .mp r => K r | _ => False
@[congr] theorem mpW_congr {v : RV} {K : Nat → Prop} {v' : RV} (h : hold v = v') : mpW v K = mpW v' K := by rw [← h]; rfl
/-- A map: own memory, or what came in. -/
def extM (S : St) (b : Nat) (K : Obj → Prop) : Prop := ∃ o, S.x b o ∧ K o
@[congr] theorem extM_congr {S : St} {b b' : Nat} {K : Obj → Prop} (h : hold b = b') : extM S b K = extM S b' K := by rw [← h]; rfl
def mapOb (S : St) (v : RV) (K : Obj → Prop) : Prop := match v with
  | .mp r => bindV (nthX S.m r) fun o => objW o K
  | .ext (.map (some b)) => extM S b K
  | _ => False
@[congr] theorem mapOb_congr {S : St} {v : RV} {K : Obj → Prop} {v' : RV} (h : hold v = v') : mapOb S v K = mapOb S v' K := by rw [← h]; rfl
def ifaceW (v : Value) (K : TypeId → Value → Prop) : Prop := match v with | .iface t u => K t u | _ => False
@[congr] theorem ifaceW_congr {v : Value} {K : TypeId → Value → Prop} {v' : Value} (h : hold v = v') : ifaceW v K = ifaceW v' K := by rw [← h]; rfl
/-- What 'append' wants of its types: the element, its zero cells, its bytes. -/
def appS (P : Program) (ts : Array TypeId) : Option (TypeId × List Value × Nat) :=
  match ts.toList with
  | [t, u] => match decide (t = u), P.underlying t with
    | true, some (.slice e) => match P.info? e with
      | some i => match i.zero with
        | some z => bif (z.cells.size == i.size) && Nat.blt 0 i.size then some (e, z.cells.toList, i.bytes) else none
        | none => none
      | none => none
    | _, _ => none
  | _ => none
def zrow (zs : List Value) (k : Nat) : List RV := (Builtin.zeroCells zs.toArray k).toList.map .ext
/-- What is appended. -/
def newsW (S : St) (z : Nat) (y : RV) (K : Nat → List RV → Prop) : Prop := match y with
  | .sl j off m _ => ∃ T c, S.m[j]? = some (.cells T c) ∧ off + m * z ≤ c.length ∧ ((c.drop off).take (m * z)).all one = true ∧ K m ((c.drop off).take (m * z))
  | .ext (.slice (some ⟨b, off, none⟩) m _) => ∃ l : List Value, l.length = m * z ∧ (∀ i u, l[i]? = some u → u.oneCell' = true ∧ ∃ c T f, S.x b (.cells c T f) ∧ c[off + i]? = some u) ∧ K m (l.map .ext)
  | _ => False
/-- To what it is appended: nothing yet, or a row of the state's own. -/
def appW (P : Program) (S : St) (ts : Array TypeId) (x y : RV) (K : RV → St → Prop) : Prop :=
  ∃ e zs bytes, appS P ts = some (e, zs, bytes) ∧ (((∃ a c, y = .ext (.slice a 0 c)) ∧ ((x = .ext (.slice none 0 0) ∧ K x S) ∨ ∃ k n cap, x = .sl k 0 n cap ∧ n ≤ cap ∧ K x S)) ∨ newsW S zs.length y fun m news =>
    (x = .ext (.slice none 0 0) ∧ 0 < m ∧ m ≤ maxLen ∧ m * bytes ≤ 140737488355328 ∧ ∀ cap, m ≤ cap → cap ≤ maxLen → K (.sl S.m.length 0 m cap) ⟨S.t, S.m ++ [.cells e (news ++ zrow zs (cap - m))], S.x⟩) ∨
    (x = .ext (.slice none 0 0) ∧ m = 0 ∧ K x S) ∨
    ∃ k n cap c, x = .sl k 0 n cap ∧ S.m[k]? = some (.cells e c) ∧ n * zs.length ≤ c.length ∧
      (n + m ≤ cap → n * zs.length + news.length ≤ c.length ∧ K (.sl k 0 (n + m) cap) ⟨S.t, S.m.set k (.cells e (c.take (n * zs.length) ++ news ++ c.drop (n * zs.length + news.length))), S.x⟩) ∧
      (cap < n + m → n + m ≤ maxLen ∧ (n + m) * bytes ≤ 140737488355328 ∧ ∀ cap', n + m ≤ cap' → cap' ≤ maxLen →
        K (.sl S.m.length 0 (n + m) cap') ⟨S.t, S.m ++ [.cells e (c.take (n * zs.length) ++ news ++ zrow zs (cap' - (n + m)))], S.x⟩))
def lenW (P : Program) (q : Bool) (S : St) (ts : Array TypeId) (b : Builtin) (rs : List RV) (K : RV → St → Prop) (A : Prop) : Prop := match b, rs with
  | .len, [.sl _ _ l _] => bindV ((ts[0]?).bind (elemOff P)) fun z => match z.1 with
    | none => K (.ext (.int .i64 l)) S
    | some _ => False
  | .append, [x, y] => q = false ∧ appW P S ts x y K
  | .append, _ => False
  | _, _ => A
@[congr] theorem lenW_congr {P : Program} {q : Bool} {S : St} {ts : Array TypeId} {b : Builtin} {rs : List RV} {K : RV → St → Prop} {A : Prop} {b' : Builtin} (h : hold b = b') : lenW P q S ts b rs K A = lenW P q S ts b' rs K A := by rw [← h]; rfl
@[congr] theorem appW_congr {P : Program} {S : St} {ts : Array TypeId} {x y : RV} {K : RV → St → Prop} {ts' : Array TypeId} (h : hold ts = ts') : appW P S ts x y K = appW P S ts' x y K := by rw [← h]; rfl
theorem appS_out {P : Program} {ts : Array TypeId} {e : TypeId} {zs : List Value} {b : Nat} (h : appS P ts = some (e, zs, b)) :
    ∃ t i v, ts = #[t, t] ∧ P.underlying t = some (.slice e) ∧ P.info? e = some i ∧ i.zero = some v ∧ v.cells.size = i.size ∧ 0 < i.size ∧ zs = v.cells.toList ∧ b = i.bytes := by
  unfold appS at h
  split at h
  · rename_i t u hts
    split at h
    · rename_i e' htu hu
      have htu := of_decide_eq_true htu
      subst htu
      split at h
      · rename_i i hi
        split at h
        · rename_i v hv
          cases hc : (v.cells.size == i.size) && Nat.blt 0 i.size with
          | false => rw [hc] at h; cases h
          | true =>
            rw [hc] at h
            simp only [cond_true, Option.some.injEq, Prod.mk.injEq] at h
            obtain ⟨rfl, rfl, rfl⟩ := h
            simp only [Bool.and_eq_true, beq_iff_eq] at hc
            exact ⟨t, i, v, Array.ext' (by simpa using hts), hu, hi, hv, hc.1, Nat.le_of_ble_eq_true hc.2, rfl, rfl⟩
        · cases h
      · cases h
    · cases h
  · cases h

/-- A slice literal: of values; or of one-cell parts of any kind, every place written. -/
def bldW (P : Program) (S : St) (t : TypeId) (len : Nat) (idx : List Nat) (rs : List RV) (K : RV → St → Prop) : Prop :=
  (∃ vs, toExts rs = some vs ∧ rowW P (Instr.buildSlice t len (idx.zip vs).toArray) fun elem cells len cap => K (.sl S.m.length 0 len cap) ⟨S.t, S.m ++ [.cells elem (cells.map .ext)], S.x⟩) ∨
  (∃ e i z, P.underlying t = some (.slice e) ∧ P.info? e = some i ∧ i.size = 1 ∧ i.zero = some z ∧ z.cells.size = 1 ∧ 0 < len ∧ len ≤ 16777216 ∧ idx = List.range len ∧ rs.length = len ∧ rs.all one = true ∧
    K (.sl S.m.length 0 len len) ⟨S.t, S.m ++ [.cells e rs], S.x⟩)
@[congr] theorem bldW_congr {P : Program} {S : St} {t : TypeId} {len : Nat} {idx idx' : List Nat} {rs rs' : List RV} {K : RV → St → Prop} (h : hold idx = idx') (h2 : hold rs = rs') : bldW P S t len idx rs K = bldW P S t len idx' rs' K := by rw [← h, ← h2]; rfl
/-- One operation: 'K' of its value and the state behind it; 'Pn' of what it panics with. With q: it leaves the state as it is. -/
def opW (P : Program) (q : Bool) (S : St) (o : Oper) (K : RV → St → Prop) (Pn : Value → St → Prop) : Prop :=
  match o.op with
  | .move x => gv S x fun v => K v S
  | .assign x => gv S x fun v => K v S
  | .pick c a b => getX S c fun c => gv S a fun a => gv S b fun b => pickW c a b fun v => K v S
  | .nilCheck x => gv S x fun v => nilW v (K v S)
  | .binOp op T x y _ => getX S x fun a => getX S y fun b => binW P op T x y a b fun v => K (.ext v) S
  | .unOp op _ x => getX S x fun a => pureW P (Op.unary op a) fun v => K (.ext v) S
  | .convert t u x => getX S x fun a => pureW P (Go.convert t u a) fun v => K (.ext v) S
  | .makeInterface t x => getX S x fun a => pureW P (Instr.makeInterface t a) fun v => K (.ext v) S
  | .typeAssert x t u ok => getX S x fun a => pureW P (Instr.typeAssert a t u ok) fun v => K (.ext v) S
  | .extract x i => getX S x fun a => pureW P (Instr.extract a i) fun v => K (.ext v) S
  | .field t x f => getX S x fun a => pureW P (Instr.field t a f) fun v => K (.ext v) S
  | .index t x i => getX S x fun a => getX S i fun b => pureW P (Instr.index t a b) fun v => K (.ext v) S
  | .build t parts => getsX S (parts.toList.map (·.2)) fun vs => bindV (bldS P t) fun z => fillW z.2 z.1 (parts.toList.map (·.1)) vs fun cs => K (.ext (.agg cs.toArray)) S
  | .slice t x lo hi mx => getX S x fun a => getsX S lo.toList fun l => getsX S hi.toList fun h => getsX S mx.toList fun m =>
      pureW P (Instr.sliceAt t a l[0]? h[0]? m[0]?) fun v => K (.ext v) S
  | .makeFunc fn first caps => bindV (getsR S first.toList) fun fs => bindV (getsR S caps.toList) fun cs =>
      funcW S fn fs cs K
  | .fieldAddr T x f => gv S x fun v => bindV (fieldOff P T f) fun n => faW v n fun v => K v S
  | .indexAddr T x i => gv S x fun v => getX S i fun i => bindV (elemOff P T) fun z => idxW v z i fun v => K v S
  | .load T x => gv S x fun v => bindV (tyS P T) fun z => loadW S z v fun v => K v S
  | .lookup T m k ok => gv S m fun m => getX S k fun k => mapOb S m fun o => lookW P T k ok o fun v => K (.ext v) S
  | .call c => match c.callee with
    | .builtin b => bindV (getsR S c.args.toList) fun rs => lenW P q S c.argTypes b rs K
        (bindV (toExts rs) fun vs => builtW P (builtin b c.argTypes o.type (c.args.map fun | .const _ => true | _ => false) vs.toArray) fun v => K (.ext v) S)
    | .value f => gv S f fun f => bindV (getsR S c.args.toList) fun vs => callW P q S (tgt f vs) K Pn
    | .invoke recv name => getX S recv fun r => getsX S c.args.toList fun vs => invokeW P S (invoke (.fn (.method name) #[]) (#[r] ++ vs.toArray)) fun v => K (.ext v) S
  | .alloc T => q = false ∧ bindV (tyZ P T) fun zs => K (.ptr S.m.length 0) { S with m := S.m ++ [.cells T (zs.map .ext)] }
  | .box T x => q = false ∧ gv S x fun v => K (.ptr S.m.length 0) { S with m := S.m ++ [.cells T (flat v)] }
  | .buildSlice t len parts => q = false ∧ bindV (getsR S (parts.toList.map (·.2))) fun rs => bldW P S t len (parts.toList.map (·.1)) rs K
  | .makeSlice t l c => q = false ∧ getX S l fun l => getX S c fun c =>
      rowW P (Instr.makeSlice t l c) fun elem cells len cap =>
        K (.sl S.m.length 0 len cap) { S with m := S.m ++ [.cells elem (cells.map .ext)] }
  | .store T x y => q = false ∧ gv S x fun p => gv S y fun v => bindV (tyS P T) fun z => storeW S z p v fun S => K (.ext undef) S
  | .makeMap _ none => q = false ∧ K (.mp S.m.length) { S with m := S.m ++ [.obj (.map #[] 0)] }
  | .mapUpdate T m k x => q = false ∧ gv S m fun m => getX S k fun k => getX S x fun x => mpW m fun r => bindV (nthX S.m r) fun o => objW o fun o => updW P T k x o fun o' => K (.ext undef) ⟨S.t, setX S.m r (.obj o'), S.x⟩
  | .insert T m k x => q = false ∧ gv S m fun m => getX S k fun k => getX S x fun x => mpW m fun r => bindV (nthX S.m r) fun o => objW o fun o => updW P T k x o fun o' => K (.ext undef) ⟨S.t, setX S.m r (.obj o'), S.x⟩
  | .panic x => q = false ∧ getX S x fun a => ifaceW a fun t u => Pn (.iface t u) S
  | _ => False
@[congr] theorem opW_congr {P : Program} {q : Bool} {S S' : St} {o : Oper} {K : RV → St → Prop} {Pn : Value → St → Prop} (h : hold S = S') : opW P q S o K Pn = opW P q S' o K Pn := by rw [← h]; rfl

end R
end Go.Proofs.Ytflljnaojghifaa
