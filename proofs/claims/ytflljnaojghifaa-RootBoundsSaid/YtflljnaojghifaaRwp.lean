/- The walk over a small state of its own: what a slot holds, and the memory that the call made, by places; every world that fits is meant. -/
import Derived.Tactics
import Derived.Deep.Quiet
import Derived.StillTail
import Derived.Below
import Derived.KernelRfl
import Derived.Laws.CopyRow
import Derived.Laws.Rows
namespace Go.Proofs.Ytflljnaojghifaa
open Go Go.RowKit
namespace R

/-- Simp looks at what is held, and at nothing else. -/
def hold {α : Sort _} (a : α) : α := a
theorem hold_eq {α : Sort _} (a : α) : hold a = a := by unfold hold; rfl

/-- What a slot holds. -/
inductive RV where
  | ext (v : Value)
  | ptr (k off : Nat)
  | sl (k off len cap : Nat)
  | clos (f : FuncId) (caps : List (Nat × Nat))
  | mp (k : Nat)

def ren (s : Nat → Nat) : RV → Value
  | .ext v => v
  | .ptr k o => .pointer (some ⟨s k, o, none⟩)
  | .sl k o l c => .slice (some ⟨s k, o, none⟩) l c
  | .clos f cs => .func (.func f) #[] (cs.map fun c => Value.pointer (some ⟨s c.1, c.2, none⟩)).toArray
  | .mp k => .map (some (s k))

def clo (n : Nat) : RV → Bool
  | .ext _ => true
  | .ptr k _ => decide (k < n)
  | .sl k _ _ _ => decide (k < n)
  | .mp k => decide (k < n)
  | .clos _ cs => cs.all fun c => decide (c.1 < n)

theorem clo_mono {n m : Nat} (h : n ≤ m) : ∀ {v : RV}, clo n v = true → clo m v = true
  | .ext _, _ => rfl
  | .ptr k _, h' => by simp only [clo, decide_eq_true_eq] at *; omega
  | .sl k _ _ _, h' => by simp only [clo, decide_eq_true_eq] at *; omega
  | .mp k, h' => by simp only [clo, decide_eq_true_eq] at *; omega
  | .clos _ cs, h' => by
    simp only [clo, List.all_eq_true, decide_eq_true_eq] at *
    intro c hc
    have := h' c hc
    omega

theorem ren_congr {s s' : Nat → Nat} {n : Nat} (h : ∀ k, k < n → s' k = s k) : ∀ {v : RV}, clo n v = true → ren s' v = ren s v
  | .ext _, _ => rfl
  | .ptr k _, h' => by simp only [clo, decide_eq_true_eq] at h'; simp only [ren, h k h']
  | .sl k _ _ _, h' => by simp only [clo, decide_eq_true_eq] at h'; simp only [ren, h k h']
  | .mp k, h' => by simp only [clo, decide_eq_true_eq] at h'; simp only [ren, h k h']
  | .clos _ cs, h' => by
    simp only [clo, List.all_eq_true, decide_eq_true_eq] at h'
    simp only [ren]
    congr 2
    apply List.map_congr_left
    intro c hc
    rw [h c.1 (h' c hc)]

inductive RO where
  | cells (T : TypeId) (c : List RV)
  | obj (o : Obj)

def renO (s : Nat → Nat) : RO → Obj
  | .cells T c => .cells (c.map (ren s)).toArray T (0, 0)
  | .obj o => o

def cloO (n : Nat) : RO → Bool
  | .cells _ c => c.all (clo n)
  | .obj _ => true

theorem cloO_mono {n m : Nat} (h : n ≤ m) : ∀ {o : RO}, cloO n o = true → cloO m o = true
  | .cells _ c, h' => by
    simp only [cloO, List.all_eq_true] at *
    exact fun v hv => clo_mono h (h' v hv)
  | .obj _, _ => rfl

theorem renO_congr {s s' : Nat → Nat} {n : Nat} (h : ∀ k, k < n → s' k = s k) : ∀ {o : RO}, cloO n o = true → renO s' o = renO s o
  | .cells _ c, h' => by
    simp only [cloO, List.all_eq_true] at h'
    simp only [renO]
    congr 2
    exact List.map_congr_left fun v hv => ren_congr h (h' v hv)
  | .obj _, _ => rfl

structure St where
  t : List (Nat × RV)
  m : List RO
  x : Nat → Obj → Prop

def lk : List (Nat × RV) → Nat → Option RV
  | [], _ => none
  | p :: r, i => bif i == p.1 then some p.2 else lk r i

theorem lk_cons (p : Nat × RV) (r : List (Nat × RV)) (i : Nat) : lk (p :: r) i = if i = p.1 then some p.2 else lk r i := by
  rw [lk]
  by_cases h : i = p.1
  · simp [h]
  · have : (i == p.1) = false := by simpa using h
    rw [this, if_neg h]
    rfl
theorem lk_nil (i : Nat) : lk [] i = none := rfl

def St.put (S : St) (d : Option Nat) (v : RV) : St :=
  match d with
  | none => S
  | some d => { S with t := (d, v) :: S.t }

theorem St.put_m (S : St) (d : Option Nat) (v : RV) : (S.put d v).m = S.m := by cases d <;> rfl
theorem St.put_x (S : St) (d : Option Nat) (v : RV) : (S.put d v).x = S.x := by cases d <;> rfl

/-- But for the blocks 'bs' all is as it was. -/
structure Fr (bs : List Nat) (w w' : World) : Prop where
  os : w'.os = w.os
  tape : w'.tape = w.tape
  output : w'.output = w.output
  size : w.heap.size ≤ w'.heap.size
  block : ∀ k, k < w.heap.size → k ∉ bs → w'.heap[k]? = w.heap[k]?

theorem Fr.refl (bs : List Nat) (w : World) : Fr bs w w := ⟨rfl, rfl, rfl, Nat.le_refl _, fun _ _ _ => rfl⟩
theorem Fr.trans {bs : List Nat} {a b c : World} (h : Fr bs a b) (k : Fr bs b c) : Fr bs a c :=
  ⟨k.os.trans h.os, k.tape.trans h.tape, k.output.trans h.output, Nat.le_trans h.size k.size,
    fun i hi hn => (k.block i (Nat.lt_of_lt_of_le hi h.size) hn).trans (h.block i hi hn)⟩
theorem Fr.drew (bs : List Nat) (w : World) : Fr bs w { w with drawn := w.drawn + 1 } := ⟨rfl, rfl, rfl, Nat.le_refl _, fun _ _ _ => rfl⟩
theorem Fr.below {w w' : World} (h : Fr [] w w') : Below w.heap.size w w' :=
  ⟨h.os, h.tape, h.output, h.size, fun k hk => h.block k hk (by simp)⟩
theorem Fr.of_below {w w' : World} (h : Below w.heap.size w w') (bs : List Nat) : Fr bs w w' :=
  ⟨h.os, h.tape, h.output, h.size, fun k hk _ => h.block k hk⟩
theorem Fr.mono {bs cs : List Nat} {w w' : World} (h : Fr bs w w') (hs : ∀ b, b ∈ bs → b ∈ cs) : Fr cs w w' :=
  ⟨h.os, h.tape, h.output, h.size, fun k hk hn => h.block k hk (fun hb => hn (hs k hb))⟩

/-- The memory fits. -/
structure Mem (s : Nat → Nat) (m : List RO) (x : Nat → Obj → Prop) (w : World) : Prop where
  mem : ∀ (k : Nat) (o : RO), m[k]? = some o → w.heap[s k]? = some (renO s o)
  inj : ∀ j k, j < m.length → k < m.length → s j = s k → j = k
  cm : ∀ (k : Nat) (o : RO), m[k]? = some o → cloO m.length o = true
  ext : ∀ b o, x b o → w.heap[b]? = some o
  apart : ∀ b o, x b o → ∀ k, k < m.length → s k ≠ b

theorem Mem.lt {s : Nat → Nat} {m : List RO} {x : Nat → Obj → Prop} {w : World} (h : Mem s m x w) {k : Nat} (hk : k < m.length) : s k < w.heap.size := by
  have := h.mem k m[k] (by simp [hk])
  exact (Array.getElem?_eq_some_iff.1 this).1

structure Rep (bs : List Nat) (w0 : World) (n : Nat) (ds : List Deferred) (s : Nat → Nat) (S : St) (a : Act) (w : World) : Prop where
  mr : Mem s S.m S.x w
  own : ∀ k, k < S.m.length → s k ∈ bs ∨ w0.heap.size ≤ s k
  fr : Fr bs w0 w
  size : a.tmps.size = n
  slot : ∀ i v, lk S.t i = some v → a.tmps.getD i undef = ren s v ∧ clo S.m.length v = true
  df : a.defers = ds

section
variable {bs : List Nat} {w0 : World} {n : Nat} {ds : List Deferred} {s : Nat → Nat} {S : St} {a : Act} {w : World}

theorem getD_set {xs : Array Value} {d i : Nat} {v u : Value} (hd : d < xs.size) : (xs.setIfInBounds d v).getD i u = if i = d then v else xs.getD i u := by
  simp only [Array.getD_eq_getD_getElem?, Array.getElem?_setIfInBounds]
  by_cases h : d = i
  · subst h; simp [hd]
  · rw [if_neg h, if_neg (fun e => h e.symm)]

theorem Rep.put (h : Rep bs w0 n ds s S a w) {d : Option Nat} {v : RV} (hd : ∀ i, d = some i → i < n) (hv : clo S.m.length v = true) :
    Rep bs w0 n ds s (S.put d v) (a.put d (ren s v)) w := by
  cases d with
  | none => exact h
  | some d =>
    have hd := hd d rfl
    refine ⟨h.mr, h.own, h.fr, by simp [Act.put, h.size], ?_, h.df⟩
    intro i u hi
    simp only [St.put, lk_cons] at hi
    simp only [Act.put]
    rw [getD_set (by rw [h.size]; exact hd)]
    by_cases hid : i = d
    · simp only [hid, if_true, Option.some.injEq] at hi ⊢
      subst hi
      exact ⟨rfl, hv⟩
    · simp only [hid, if_false] at hi ⊢
      exact h.slot i u hi

/-- The world has gone on; what fits still fits. -/
theorem Rep.step (h : Rep bs w0 n ds s S a w) {w' : World} (hm : Mem s S.m S.x w') (hf : Fr bs w w') : Rep bs w0 n ds s S a w' :=
  ⟨hm, h.own, h.fr.trans hf, h.size, h.slot, h.df⟩

theorem Mem.keep (h : Mem s S.m S.x w) {w' : World} (hf : Fr [] w w') : Mem s S.m S.x w' :=
  ⟨fun k o hk => by
      rw [hf.block (s k) (h.lt (List.getElem?_eq_some_iff.1 hk).1) (by simp)]; exact h.mem k o hk,
    h.inj, h.cm, fun b o hb => by
      have h0 := h.ext b o hb
      rw [hf.block b (Array.getElem?_eq_some_iff.1 h0).1 (by simp)]; exact h0, h.apart⟩

/-- A new block. -/
theorem Mem.alloc (h : Mem s S.m S.x w) (o : RO) (ho : cloO (S.m.length + 1) o = true) :
    Mem (fun k => if k = S.m.length then w.heap.size else s k) (S.m ++ [o]) S.x (w.alloc (renO (fun k => if k = S.m.length then w.heap.size else s k) o)) := by
  have hag : ∀ k, k < S.m.length → (fun k => if k = S.m.length then w.heap.size else s k) k = s k := fun k hk => by
    simp only [show k ≠ S.m.length by omega, if_false]
  have hlen : (S.m ++ [o]).length = S.m.length + 1 := by simp
  refine ⟨?_, ?_, ?_, ?_, ?_⟩
  · intro k p hk
    by_cases hkl : k < S.m.length
    · rw [List.getElem?_append_left hkl] at hk
      simp only [show k ≠ S.m.length by omega, if_false]
      rw [Below.heap_alloc _ _ _ (h.lt hkl), h.mem k p hk, renO_congr hag (h.cm k p hk)]
    · have : k = S.m.length := by
        have := (List.getElem?_eq_some_iff.1 hk).1
        simp at this; omega
      subst this
      rw [List.getElem?_append_right (Nat.le_refl _)] at hk
      simp at hk
      subst hk
      show (w.heap.push _)[if S.m.length = S.m.length then w.heap.size else s S.m.length]? = _
      simp
  · intro j k hj hk he
    rw [hlen] at hj hk
    by_cases h1 : j = S.m.length <;> by_cases h2 : k = S.m.length
    · omega
    · simp only [h1, if_true, h2, if_false] at he
      have := h.lt (k := k) (by omega)
      omega
    · simp only [h1, if_false, h2, if_true] at he
      have := h.lt (k := j) (by omega)
      omega
    · simp only [h1, h2, if_false] at he
      exact h.inj j k (by omega) (by omega) he
  · intro k p hk
    rw [hlen]
    by_cases hkl : k < S.m.length
    · rw [List.getElem?_append_left hkl] at hk
      exact cloO_mono (by omega) (h.cm k p hk)
    · have : k = S.m.length := by
        have := (List.getElem?_eq_some_iff.1 hk).1
        simp at this; omega
      subst this
      rw [List.getElem?_append_right (Nat.le_refl _)] at hk
      simp at hk
      subst hk
      exact ho
  · intro b p hb
    have h0 := h.ext b p hb
    rw [Below.heap_alloc _ _ _ (Array.getElem?_eq_some_iff.1 h0).1]
    exact h0
  · intro b p hb k hk
    rw [hlen] at hk
    by_cases h1 : k = S.m.length
    · simp only [h1, if_true]
      have h0 := (Array.getElem?_eq_some_iff.1 (h.ext b p hb)).1
      omega
    · simp only [h1, if_false]
      exact h.apart b p hb k (by omega)

theorem Fr.alloc (bs : List Nat) (w : World) (o : Obj) : Fr bs w (w.alloc o) :=
  ⟨rfl, rfl, rfl, by simp, fun k hk _ => Below.heap_alloc _ _ _ hk⟩

theorem Rep.alloc (h : Rep bs w0 n ds s S a w) (o : RO) (ho : cloO (S.m.length + 1) o = true) :
    Rep bs w0 n ds (fun k => if k = S.m.length then w.heap.size else s k) { S with m := S.m ++ [o] } a
      (w.alloc (renO (fun k => if k = S.m.length then w.heap.size else s k) o)) := by
  have hag : ∀ k, k < S.m.length → (fun k => if k = S.m.length then w.heap.size else s k) k = s k := fun k hk => by
    simp only [show k ≠ S.m.length by omega, if_false]
  refine ⟨h.mr.alloc o ho, ?_, h.fr.trans (Fr.alloc _ _ _), h.size, ?_, h.df⟩
  · intro k hk
    have hk : k < S.m.length + 1 := by simpa using hk
    by_cases h1 : k = S.m.length
    · simp only [h1, if_true]
      exact .inr h.fr.size
    · simp only [h1, if_false]
      exact h.own k (by omega)
  · intro i v hi
    obtain ⟨h1, h2⟩ := h.slot i v hi
    exact ⟨by rw [h1, ren_congr hag h2], clo_mono (by simp) h2⟩

/-- A block of the state's own is another one now. -/
theorem Mem.set (h : Mem s S.m S.x w) {k : Nat} {o : RO} (hk : k < S.m.length) (ho : cloO S.m.length o = true) {w' : World}
    (hb : ∀ j, w'.heap[j]? = if j = s k then some (renO s o) else w.heap[j]?) : Mem s (S.m.set k o) S.x w' := by
  refine ⟨?_, ?_, ?_, ?_, ?_⟩
  · intro j p hj
    have hjl : j < S.m.length := by have := (List.getElem?_eq_some_iff.1 hj).1; simpa using this
    rw [hb]
    by_cases hjk : j = k
    · subst hjk
      rw [List.getElem?_set_self hk] at hj
      simp only [Option.some.injEq] at hj
      subst hj
      simp
    · rw [List.getElem?_set_ne (fun e => hjk e.symm)] at hj
      rw [if_neg (fun e => hjk (h.inj j k hjl hk e))]
      exact h.mem j p hj
  · intro i j hi hj he
    exact h.inj i j (by simpa using hi) (by simpa using hj) he
  · intro j p hj
    have hjl : j < S.m.length := by have := (List.getElem?_eq_some_iff.1 hj).1; simpa using this
    rw [List.length_set]
    by_cases hjk : j = k
    · subst hjk
      rw [List.getElem?_set_self hk] at hj
      simp only [Option.some.injEq] at hj
      subst hj
      exact ho
    · rw [List.getElem?_set_ne (fun e => hjk e.symm)] at hj
      exact h.cm j p hj
  · intro b p hbp
    rw [hb, if_neg (fun e => h.apart b p hbp k hk e.symm)]
    exact h.ext b p hbp
  · intro b p hbp j hj
    exact h.apart b p hbp j (by simpa using hj)

theorem Rep.set (h : Rep bs w0 n ds s S a w) {k : Nat} {o : RO} (hk : k < S.m.length) (ho : cloO S.m.length o = true) {w' : World}
    (hs : w'.heap.size = w.heap.size) (hb : ∀ j, w'.heap[j]? = if j = s k then some (renO s o) else w.heap[j]?)
    (h1 : w'.os = w.os) (h2 : w'.tape = w.tape) (h3 : w'.output = w.output) :
    Rep bs w0 n ds s { S with m := S.m.set k o } a w' := by
  refine ⟨h.mr.set hk ho hb, ?_, ⟨h1.trans h.fr.os, h2.trans h.fr.tape, h3.trans h.fr.output, by rw [hs]; exact h.fr.size, ?_⟩, h.size, ?_, h.df⟩
  · intro j hj
    exact h.own j (by simpa using hj)
  · intro j hj hn
    rw [hb]
    by_cases e : j = s k
    · exfalso
      rcases h.own k hk with h4 | h4
      · exact hn (e ▸ h4)
      · omega
    · rw [if_neg e]
      exact h.fr.block j hj hn
  · intro i v hi
    obtain ⟨h1, h2⟩ := h.slot i v hi
    exact ⟨h1, by simpa using h2⟩
end
end R
end Go.Proofs.Ytflljnaojghifaa
