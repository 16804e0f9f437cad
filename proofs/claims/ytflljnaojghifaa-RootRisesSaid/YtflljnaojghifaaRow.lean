/- A row's end: what the arguments read as, and how a pure contract becomes the row. -/
import Derived.Test.YtflljnaojghifaaRwy
import Derived.WalkKit
import Derived.ProofKit
import Derived.OpenShut
import Derived.ShutString
import Derived.ChangeOld
import Derived.Below
import Derived.SizedLaws
namespace Go.Proofs.Ytflljnaojghifaa.R
open Go Go.RowKit Go.ChangeShapes Go.WideShapes

mutual
inductive Ty where
  | i (k : IntKind)
  | b
  | s
  | r (l : Tys)
  | v (n : Nat) (e : Ty)
inductive Tys where
  | nil
  | cons (n : Nat) (t : Ty) (r : Tys)
end

def fieldsOf (P : Program) (F : TypeId → Option Ty) (tot : Nat) : Nat → List Field → Option Tys
  | off, [] => if off = tot then some .nil else none
  | off, f :: fs => if f.offset = off then match F f.type, fieldsOf P F tot (off + P.cellsOf f.type) fs with
      | some t, some r => some (.cons (P.cellsOf f.type) t r)
      | _, _ => none
    else none

def tyOf (P : Program) : Nat → TypeId → Option Ty
  | 0, _ => none
  | n + 1, t => match P.underlying t with
    | some .bool => some .b
    | some (.int k) => some (.i k)
    | some .string => some .s
    | some (.slice e) => match tyOf P n e with
      | some y => some (.v (P.cellsOf e) y)
      | none => none
    | some (.struct fs) => match fieldsOf P (tyOf P n) (P.cellsOf t) 0 fs.toList with
      | some l => some (.r l)
      | none => none
    | _ => none

mutual
def Sh (x : Nat → Obj → Prop) : Ty → List Value → Prop
  | .i k, cs => ∃ n, cs = [.int k n] ∧ (Lit.int k n).wf = true
  | .b, cs => ∃ b, cs = [.bool b]
  | .s, cs => ∃ s : ByteArray, cs = [.string s] ∧ s.size ≤ maxLen
  | .r l, cs => Shs x l cs
  | .v n e, cs => ∃ a len cap, cs = [.slice a len cap] ∧ len ≤ cap ∧ cap ≤ maxLen ∧
      ∀ i, i < len → ∃ ds, ds.length = n ∧ Sh x e ds ∧ ∀ j, j < n → ∃ b off c T f, a = some ⟨b, off, none⟩ ∧ x b (.cells c T f) ∧ c[off + i * n + j]? = ds[j]?
def Shs (x : Nat → Obj → Prop) : Tys → List Value → Prop
  | .nil, cs => cs = []
  | .cons n t r, cs => ∃ a b, cs = a ++ b ∧ a.length = n ∧ Sh x t a ∧ Shs x r b
end

section
variable {H : Type} {enc : TypeId × Value → H} {P : Program} {w : World} {base : Nat} {sp : Nat → Bool} {held : Bool}

theorem add_plain (b o n : Nat) : Addr.add ⟨b, o, none⟩ n = ⟨b, o + n, none⟩ := by
  unfold Addr.add
  split
  · subst_vars; rfl
  · rfl

theorem cell_some {b o : Nat} {u : Value} (h : w.cell? ⟨b, o, none⟩ = some u) : ∃ c T f, w.heap[b]? = some (.cells c T f) ∧ c[o]? = some u := by
  unfold World.cell? at h
  simp only at h
  split at h
  · rename_i c T f hb
    exact ⟨c, T, f, hb, by simpa using h⟩
  · cases h

theorem sh_trod : ∀ (fuel m : Nat) (t : TypeId) (y : Ty) (cs : List Value) (z : DataW H × List MemPlace), tyOf P m t = some y → DataW.trod enc P w base sp held fuel t cs = some z →
    Sh (fun b o => w.heap[b]? = some o) y cs := by
  intro fuel
  induction fuel with
  | zero => intro m t y cs z _ h; simp [DataW.trod] at h
  | succ fuel ih =>
    intro m t y cs z hy h
    cases m with
    | zero => simp [tyOf] at hy
    | succ m =>
      unfold tyOf at hy
      split at hy
      · rename_i ht
        cases hy
        obtain ⟨b, rfl, _⟩ := DataW.trod_bool ht h
        exact ⟨b, rfl⟩
      · rename_i k ht
        cases hy
        obtain ⟨n, rfl, _, hw⟩ := DataW.trod_int ht h
        exact ⟨n, rfl, hw⟩
      · rename_i ht
        cases hy
        obtain ⟨s, rfl, _, hw⟩ := DataW.trod_string ht h
        exact ⟨s, rfl, hw⟩
      · rename_i e ht
        split at hy
        · rename_i y' hy'
          cases hy
          rcases DataW.trod_slice ht h with ⟨rfl, _⟩ | ⟨a, len, cap, elems, rest, n, hn, rfl, _, _, hl, hm, hlen, hel, _⟩
          · exact ⟨none, 0, 0, rfl, Nat.le_refl _, Nat.zero_le _, fun i hi => absurd hi (Nat.not_lt_zero _)⟩
          · cases hn
            have at1 : ∀ i, i < len → ∃ ds q, World.cells? w base (a.add (i * P.cellsOf e)) (P.cellsOf e) = some ds ∧ DataW.trod enc P w base sp held fuel e ds = some q := fun i hi => by
              have h1 := hel i hi
              cases hz : elems[i]? with
              | none => rw [List.getElem?_eq_none_iff] at hz; omega
              | some q =>
                rw [hz, Option.bind_eq_some_iff] at h1
                obtain ⟨ds, hd, hq⟩ := h1
                exact ⟨ds, q, hd, hq⟩
            have at2 : ∀ i, i < len → ∀ ds, World.cells? w base (a.add (i * P.cellsOf e)) (P.cellsOf e) = some ds → ds.length = P.cellsOf e ∧ ∀ j, j < P.cellsOf e → w.cell? ((a.add (i * P.cellsOf e)).add j) = ds[j]? := fun i hi ds hd => by
              unfold World.cells? at hd
              split at hd
              · have hln := mapM_some_length hd
                simp only [List.length_range] at hln
                exact ⟨hln, fun j hj => mapM_some_get hd j j (by rw [List.getElem?_range hj])⟩
              · cases hd
            have spot : 0 < len → 0 < P.cellsOf e → a.spot = none := fun h1 h2 => by
              obtain ⟨ds, q, hd, _⟩ := at1 0 h1
              obtain ⟨hln, hg⟩ := at2 0 h1 ds hd
              have hg0 := hg 0 h2
              rw [List.getElem?_eq_getElem (by omega)] at hg0
              have := World.cell?_spot hg0
              simpa [Addr.add] using this
            refine ⟨some a, len, cap, rfl, hl, hm, fun i hi => ?_⟩
            obtain ⟨ds, q, hd, hq⟩ := at1 i hi
            obtain ⟨hln, hg⟩ := at2 i hi ds hd
            refine ⟨ds, hln, ih m e y' ds q hy' hq, fun j hj => ?_⟩
            have hsp := spot (by omega) (by omega)
            obtain ⟨ab, ao, asp⟩ := a
            simp only at hsp
            subst hsp
            have hgj := hg j hj
            have hdj : ds[j]? = some ds[j] := List.getElem?_eq_getElem (by omega)
            rw [hdj] at hgj
            have e0 : (Addr.add (Addr.add ⟨ab, ao, none⟩ (i * P.cellsOf e)) j) = ⟨ab, ao + i * P.cellsOf e + j, none⟩ := by
              simp only [add_plain]
            rw [e0] at hgj
            obtain ⟨c, T, f, hb, hc⟩ := cell_some hgj
            exact ⟨ab, ao, c, T, f, rfl, hb, by rw [hdj]; exact hc⟩
        · cases hy
      · rename_i fs ht
        split at hy
        · rename_i l hl
          cases hy
          obtain ⟨xs, n, hn, _, hlen, hxl, hf⟩ := DataW.trod_struct ht h
          cases hn
          have key : ∀ (gs : List Field) (off k : Nat) (l : Tys), fieldsOf P (tyOf P m) (P.cellsOf t) off gs = some l → gs = fs.toList.drop k → Shs (fun b o => w.heap[b]? = some o) l (cs.drop off) := by
            intro gs
            induction gs with
            | nil =>
              intro off k l hl' _
              unfold fieldsOf at hl'
              split at hl'
              · cases hl'
                subst off
                simp only [Shs]
                rw [← hlen, List.drop_length]
              · cases hl'
            | cons g gs ihg =>
              intro off k l hl' hk
              unfold fieldsOf at hl'
              split at hl'
              · rename_i hoff
                split at hl'
                · rename_i t' r' ht' hr'
                  cases hl'
                  have hgk : fs[k]? = some g := by
                    have := congrArg (·[0]?) hk
                    simpa using this.symm
                  have hkx : ∃ q, xs[k]? = some q := by
                    have : k < fs.size := by
                      rcases Nat.lt_or_ge k fs.size with h' | h'
                      · exact h'
                      · rw [Array.getElem?_eq_none h'] at hgk; cases hgk
                    exact ⟨xs[k], List.getElem?_eq_getElem (by omega)⟩
                  obtain ⟨q, hq⟩ := hkx
                  have h1 := hf k g hgk
                  rw [hq] at h1
                  have h2 := ih m g.type t' _ q ht' h1
                  have h3 := ihg _ (k + 1) _ hr' (by have := congrArg List.tail hk; simpa using this)
                  refine ⟨(cs.drop off).take (P.cellsOf g.type), (cs.drop off).drop (P.cellsOf g.type), (List.take_append_drop _ _).symm, ?_, by rw [← hoff]; exact h2, by rw [List.drop_drop]; exact h3⟩
                  have : off + P.cellsOf g.type ≤ cs.length := by
                    rw [hlen]
                    clear h3 ihg h2 h1 hq hgk hk
                    have : ∀ (gs : List Field) (off : Nat) (l : Tys), fieldsOf P (tyOf P m) (P.cellsOf t) off gs = some l → off ≤ P.cellsOf t := by
                      intro gs
                      induction gs with
                      | nil => intro off l h; unfold fieldsOf at h; split at h <;> simp_all
                      | cons g gs ihg =>
                        intro off l h
                        unfold fieldsOf at h
                        split at h
                        · split at h
                          · rename_i hr; have := ihg _ _ hr; omega
                          · cases h
                        · cases h
                    exact this _ _ _ hr'
                  simp; omega
                · cases hl'
              · cases hl'
          exact key _ 0 0 _ hl rfl
        · cases hy
      · cases hy
end

/-- What an argument is. -/
def Shv (x : Nat → Obj → Prop) : Ty → Value → Prop
  | .i k, v => ∃ n, v = .int k n ∧ (Lit.int k n).wf = true
  | .b, v => ∃ b, v = .bool b
  | .s, v => ∃ s : ByteArray, v = .string s ∧ s.size ≤ maxLen
  | .r l, v => ∃ cs, v = .agg cs ∧ Shs x l cs.toList
  | .v n e, v => ∃ a len cap, v = .slice a len cap ∧ len ≤ cap ∧ cap ≤ maxLen ∧
      ∀ i, i < len → ∃ ds, ds.length = n ∧ Sh x e ds ∧ ∀ j, j < n → ∃ b off c T f, a = some ⟨b, off, none⟩ ∧ x b (.cells c T f) ∧ c[off + i * n + j]? = ds[j]?

theorem shv {H : Type} {enc : TypeId × Value → H} {P : Program} {w : World} {r : Reach} {b0 base : Nat} {sp : Nat → Bool} {held : Bool} {m : Nat} {t : TypeId} {y : Ty} {v : Value} {d : DataW H} {ps : List MemPlace}
    (hy : tyOf P m t = some y) (hval : Value.okWide P w r b0 t v) (hd : DataW.Trod enc P w base sp held t v d ps) : Shv (fun b o => w.heap[b]? = some o) y v := by
  obtain ⟨fuel, hf⟩ := hd
  have hs := sh_trod fuel m t y _ _ hy hf
  cases m with
  | zero => simp [tyOf] at hy
  | succ m =>
    unfold tyOf at hy
    split at hy
    · rename_i ht
      cases hy
      obtain ⟨b, rfl⟩ := okWide_bool ht hval
      exact ⟨b, rfl⟩
    · rename_i k ht
      cases hy
      obtain ⟨n, rfl⟩ := okWide_int ht hval
      obtain ⟨n', h1, h2⟩ := hs
      simp [Value.cells] at h1
      subst h1
      exact ⟨n, rfl, h2⟩
    · rename_i ht
      cases hy
      obtain ⟨s, rfl⟩ := okWide_string ht hval
      obtain ⟨n', h1, h2⟩ := hs
      simp [Value.cells] at h1
      subst h1
      exact ⟨s, rfl, h2⟩
    · rename_i e ht
      split at hy
      · cases hy
        obtain ⟨a, len, cap, rfl⟩ := okWide_slice ht hval
        obtain ⟨a', len', cap', h1, h2⟩ := hs
        simp [Value.cells] at h1
        obtain ⟨rfl, rfl, rfl⟩ := h1
        exact ⟨a, len, cap, rfl, h2⟩
      · cases hy
    · rename_i fs ht
      split at hy
      · cases hy
        unfold Value.okWide at hval
        rw [ht] at hval
        obtain ⟨cs, rfl, _⟩ := hval
        exact ⟨cs, rfl, hs⟩
      · cases hy
    · cases hy

def Shvs (x : Nat → Obj → Prop) : List Ty → List Value → Prop
  | [], [] => True
  | t :: ts, v :: vs => Shv x t v ∧ Shvs x ts vs
  | _, _ => False

def tysOf (P : Program) : List TypeId → Option (List Ty)
  | [] => some []
  | t :: ts => match tyOf P 9 t, tysOf P ts with
    | some y, some ys => some (y :: ys)
    | _, _ => none

section
variable {H : Type} {enc : TypeId × Value → H} {P : Program} {w : World}

theorem shvs : ∀ (ts : List TypeId) (vs : List Value) (ds : List (DataW H)) (ps : List MemPlace) (ys : List Ty) (base : Nat), tysOf P ts = some ys →
    (∀ (j : Nat) t v, ts[j]? = some t → vs[j]? = some v → Value.okWide P w .any base t v) → DataW.TrodAll enc P w 0 (fun _ => true) true ts vs ds ps → Shvs (fun b o => w.heap[b]? = some o) ys vs := by
  intro ts
  induction ts with
  | nil =>
    intro vs ds ps ys base hy _ h
    cases hy
    cases vs with
    | nil => trivial
    | cons _ _ => cases ds <;> simp [DataW.TrodAll] at h
  | cons t ts ih =>
    intro vs ds ps ys base hy hval h
    obtain ⟨v, vs', d, ds', p, q, rfl, rfl, _, h1, h2⟩ := trodAll_cons h
    unfold tysOf at hy
    split at hy
    · rename_i y ys' e1 e2
      cases hy
      exact ⟨shv e1 (hval 0 t v rfl rfl) h1, ih vs' ds' q ys' base e2 (fun j t' v' ha hb => hval (j + 1) t' v' (by simpa using ha) (by simpa using hb)) h2⟩
    · cases hy

theorem trodAll_len : ∀ (ts : List TypeId) (vs : List Value) (ds : List (DataW H)) (ps : List MemPlace), DataW.TrodAll enc P w 0 (fun _ => true) true ts vs ds ps → ds.length = ts.length := by
  intro ts
  induction ts with
  | nil => intro vs ds ps h; cases vs <;> cases ds <;> simp_all [DataW.TrodAll]
  | cons t ts ih =>
    intro vs ds ps h
    obtain ⟨v, vs', d, ds', p, q, rfl, rfl, _, h1, h2⟩ := trodAll_cons h
    simp [ih _ _ _ h2]

theorem trodAll_below (hl : laidOutB P = true) {w' : World} (bel : Below w.heap.size w w') : ∀ (ts : List TypeId) (vs : List Value) (ds : List (DataW H)) (ps : List MemPlace),
    ts.all (fun t => P.readableRec t && decide (t < P.types.size)) = true → DataW.TrodAll enc P w 0 (fun _ => true) true ts vs ds ps → DataW.TrodAll enc P w' 0 (fun b => decide (b < w.heap.size)) true ts vs ds ps := by
  intro ts
  induction ts with
  | nil => intro vs ds ps _ h; cases vs <;> cases ds <;> simp_all [DataW.TrodAll]
  | cons t ts ih =>
    intro vs ds ps hr h
    obtain ⟨v, vs', d, ds', p, q, rfl, rfl, rfl, h1, h2⟩ := trodAll_cons h
    simp only [List.all_cons, Bool.and_eq_true, decide_eq_true_eq] at hr
    exact ⟨p, q, Below.trod hl hr.1.1 hr.1.2 h1 bel (by obtain ⟨m, hm⟩ := h1; exact DataW.trod_lt m _ _ _ hm), ih _ _ _ (by simpa using hr.2) h2, rfl⟩
end

/-- A slice of whole numbers. -/
theorem shv_ints {x : Nat → Obj → Prop} {k : IntKind} {v : Value} (h : Shv x (.v 1 (.i k)) v) : ∃ a len cap, v = .slice a len cap ∧ len ≤ cap ∧ cap ≤ maxLen ∧
    ∃ zs : Nat → Int, ∀ i, i < len → (Lit.int k (zs i)).wf = true ∧ ∃ b off c T f, a = some ⟨b, off, none⟩ ∧ x b (.cells c T f) ∧ loadX false 1 (off + (i : Int).toNat * 1) c = some (.int k (zs i)) := by
  obtain ⟨a, len, cap, rfl, h1, h2, h3⟩ := h
  have h4 : ∀ i, ∃ z, i < len → (Lit.int k z).wf = true ∧ ∃ b off c T f, a = some ⟨b, off, none⟩ ∧ x b (.cells c T f) ∧ loadX false 1 (off + (i : Int).toNat * 1) c = some (.int k z) := fun i => by
    by_cases hi : i < len
    · obtain ⟨ds, hl, ⟨z, hz, hw⟩, hj⟩ := h3 i hi
      obtain ⟨b, off, c, T, f, q1, q2, q3⟩ := hj 0 (by decide)
      refine ⟨z, fun _ => ⟨hw, b, off, c, T, f, q1, q2, ?_⟩⟩
      rw [hz] at q3
      simpa [loadX] using q3
    · exact ⟨0, fun h => absurd h hi⟩
  exact ⟨a, len, cap, rfl, h1, h2, fun i => Classical.choose (h4 i), fun i hi => Classical.choose_spec (h4 i) hi⟩

theorem wf_out {k : IntKind} {n : Int} (h : (Lit.int k n).wf = true) : k.min ≤ n ∧ n ≤ k.max := by
  simpa [Lit.wf] using h
theorem wf_i64_out {n : Int} (h : (Lit.int .i64 n).wf = true) : -9223372036854775808 ≤ n ∧ n ≤ 9223372036854775807 := by
  have := wf_out h; simp [IntKind.min, IntKind.max, IntKind.signed, IntKind.bits] at this; exact this
theorem wf_u8_out {n : Int} (h : (Lit.int .u8 n).wf = true) : 0 ≤ n ∧ n ≤ 255 := by
  have := wf_out h; simp [IntKind.min, IntKind.max, IntKind.signed, IntKind.bits] at this; exact this
theorem wf_u16_out {n : Int} (h : (Lit.int .u16 n).wf = true) : 0 ≤ n ∧ n ≤ 65535 := by
  have := wf_out h; simp [IntKind.min, IntKind.max, IntKind.signed, IntKind.bits] at this; exact this
theorem wf_u32_out {n : Int} (h : (Lit.int .u32 n).wf = true) : 0 ≤ n ∧ n ≤ 4294967295 := by
  have := wf_out h; simp [IntKind.min, IntKind.max, IntKind.signed, IntKind.bits] at this; exact this
theorem wf_u64_out {n : Int} (h : (Lit.int .u64 n).wf = true) : 0 ≤ n ∧ n ≤ 18446744073709551615 := by
  have := wf_out h; simp [IntKind.min, IntKind.max, IntKind.signed, IntKind.bits] at this; exact this

theorem row_true {C : Checked} {os : Os} {f : FuncId} {fn : Func} {s : ChangeSpec} {H : Type} {enc : TypeId × Value → H} {conds : List PathCond} {tb : TypeId} {ys : List Ty}
    (own : ownKnob C.prog.godebug = none) (started : os.Started) (noInit : C.prog.inits.idxOf? f = none) (hfn : C.prog.funcs[f]? = some fn)
    (witness : ∃ (w : World) (tape : Tape) (i : Input), w.os = os ∧ (w.forCall tape i).Shaped C.prog ∧ i.vars = [] ∧ Input.okWide C.prog (w.forCall tape i) .any w.heap.size f i ∧
      s.pre6 enc C.prog fn conds false (w.forCall tape i).memory i.args ∧ ({} : Assume).holds C.prog (lone (Frame.enter C.prog f i.args .normal) [] (w.forCall tape i)))
    (hv : s.vars = []) (hl : laidOutB C.prog = true) (hpar : fn.params.toList.all (fun t => C.prog.readableRec t && decide (t < C.prog.types.size)) = true)
    (hres : fn.resultTypes = #[tb]) (htb : C.prog.underlying tb = some .bool)
    (hsp : ∀ ds : List (DataW H), ds.length = fn.params.toList.length → (s.fn H ds).results = [.lit (.bool true)] ∧ (s.fn H ds).args = ds ∧ (s.fn H ds).vars = [])
    (hys : tysOf C.prog fn.params.toList = some ys)
    (hp : ∀ (x : Nat → Obj → Prop) (vs : List Value), Shvs x ys vs → PureC C.prog x f vs (.bool true)) :
    ReturnsInHanded {} C os f .any (s.pre6 enc C.prog fn conds false) (s.post enc C.prog fn false true false false) := by
  refine returnsInHanded_of_change_sized own started noInit hfn witness ?_
  intro W base args ds gs before hval hW _ _ _
  have hW' := hW
  obtain ⟨p, q, hA, hV, rfl, hfz, hnd⟩ := hW
  rw [hv] at hV
  obtain ⟨rfl, rfl⟩ := trodVars_none hV
  have hsh := shvs _ _ _ _ _ base hys (fun j t v h1 h2 => hval j t v (by simpa using h1) (by simpa using h2)) hA
  have hlen := trodAll_len _ _ _ _ hA
  refine ((hp _ _ hsh).out W (fun b o h => h)).mono fun e W' ⟨he, hfr⟩ => ?_
  subst he
  obtain ⟨s1, s2, s3⟩ := hsp ds hlen
  have bel := hfr.below
  refine ⟨_, rfl, ds, [], p ++ [], [], p, [], hW', ?_, ?_, ?_, bel.frame _, fun h => by cases h⟩
  · rw [List.append_nil, s1, hres]; exact trodAll_mk1 (shut_bool htb _)
  · rw [List.append_nil, s2]; exact trodAll_below hl bel _ _ _ _ hpar hA
  · rw [List.append_nil, s3, hv]; rfl
end Go.Proofs.Ytflljnaojghifaa.R
