/- The walk over a small state: bodies, and what is worked out of values. -/
import Derived.Test.YtflljnaojghifaaRwu
import Derived.Laws.StructEq
namespace Go.Proofs.Ytflljnaojghifaa
open Go Go.RowKit
namespace R

def mkT : Nat → List RV → List (Nat × RV)
  | _, [] => []
  | i, v :: r => (i, v) :: mkT (i + 1) r

theorem lk_mkT : ∀ (l : List RV) (i j : Nat) (v : RV), lk (mkT i l) j = some v → i ≤ j ∧ l[j - i]? = some v
  | [], i, j, v, h => by simp [mkT, lk] at h
  | u :: r, i, j, v, h => by
    simp only [mkT, lk_cons] at h
    split at h
    · rename_i e
      simp only [Option.some.injEq] at h
      subst h; subst e
      exact ⟨Nat.le_refl _, by simp⟩
    · rename_i e
      obtain ⟨h1, h2⟩ := lk_mkT r (i + 1) j v h
      refine ⟨by omega, ?_⟩
      rw [show j - i = (j - (i + 1)) + 1 by omega]
      simpa using h2

/-- What the results hold. -/
def res1 (P : Program) (S : St) (r : ResultVar) (K : RV → Prop) : Prop :=
  match r with
  | .tmp t => bindV (lk S.t t) K
  | .cell a T => bindV (lk S.t a) fun v => bindV (tyS P T) fun z => match v with
    | .ptr k off => bindV (nthX S.m k) fun o => cellW o fun _ c => loadR z.1 z.2 off c K
    | _ => False

def resL (P : Program) (S : St) : List ResultVar → (List RV → Prop) → Prop
  | [], K => K []
  | r :: rs, K => res1 P S r fun v => resL P S rs fun vs => K (v :: vs)

@[congr] theorem res1_congr {P : Program} {S S' : St} {r : ResultVar} {K : RV → Prop} (h : hold S = S') : res1 P S r K = res1 P S' r K := by rw [← h]; rfl
@[congr] theorem resL_congr {P : Program} {S S' : St} {rs : List ResultVar} {K : List RV → Prop} (h : hold S = S') : resL P S rs K = resL P S' rs K := by rw [← h]; rfl
/-- The results are 'v'. -/
def resW (P : Program) (S : St) (rs : List ResultVar) (v : Value) : Prop :=
  resL P S rs fun vs => match vs with
    | [.ext u] => u = v
    | vs => ∃ us, toExts vs = some us ∧ us.length ≠ 1 ∧ Value.tuple us.toArray = v

section
variable {P : Program} {s : Nat → Nat} {S : St} {a : Act} {w : World}

def rvar (tmps : Array Value) : ResultVar → Sem Value
  | .tmp t => pure (tmps.getD t undef)
  | .cell a t => do loadVar t (← asAddr (tmps.getD a undef))

theorem res1_run (hs : Sl s S a) (hm : Mem s S.m S.x w) {r : ResultVar} {K : RV → Prop} (h : res1 P S r K) : ∃ v, (rvar a.tmps r).run P w = .ok (ren s v) w ∧ clo S.m.length v = true ∧ K v := by
  cases r with
  | tmp t =>
    obtain ⟨v, hv, h⟩ := bindV_out h
    exact ⟨v, by simp [rvar, (hs t v hv).1], (hs t v hv).2, h⟩
  | cell x T =>
    obtain ⟨v, hx, h⟩ := bindV_out h
    obtain ⟨z, hty, h⟩ := bindV_out h
    obtain ⟨g, n⟩ := z
    cases v with
    | ptr k off =>
      simp only at h
      obtain ⟨ob, hmk, h⟩ := bindV_out h
      rw [nthX_eq] at hmk
      cases ob with
      | cells T' c =>
        obtain ⟨v, h1, h2, h3⟩ := load_own hm hmk hty h
        refine ⟨v, ?_, h1, h2⟩
        have e1 := (hs x _ hx).1
        simp only [ren] at e1
        have := h3 s w hm
        simpa [rvar, e1, asAddr, Instr.loadAt, Instr.sureAddr] using this
      | obj _ => exact h.elim
    | _ => exact h.elim

theorem resL_run (hs : Sl s S a) (hm : Mem s S.m S.x w) : ∀ {rs : List ResultVar} {K : List RV → Prop}, resL P S rs K →
    ∃ vs, (rs.mapM (rvar a.tmps)).run P w = .ok (vs.map (ren s)) w ∧ (∀ v ∈ vs, clo S.m.length v = true) ∧ K vs
  | [], K, h => ⟨[], by simp, by simp, h⟩
  | r :: rs, K, h => by
    obtain ⟨v, h1, h2, h3⟩ := res1_run hs hm h
    obtain ⟨vs, g1, g2, g3⟩ := resL_run hs hm h3
    exact ⟨v :: vs, by simp [List.mapM_cons, h1, g1], by simpa using ⟨h2, g2⟩, g3⟩

theorem results_run {fn : Func} (hs : Sl s S a) (hm : Mem s S.m S.x w) {K : List RV → Prop} (h : resL P S fn.results.toList K) :
    ∃ vs, (results fn a.tmps).run P w = .ok (if hv : vs.length = 1 then ren s (vs[0]'(by omega)) else .tuple (vs.map (ren s)).toArray) w ∧ (∀ v ∈ vs, clo S.m.length v = true) ∧ K vs := by
  obtain ⟨vs, h1, h2, h3⟩ := resL_run hs hm h
  refine ⟨vs, ?_, h2, h3⟩
  have e : results fn a.tmps = (do let vs ← fn.results.mapM (rvar a.tmps); pure (if h : vs.size = 1 then vs[0] else .tuple vs)) := by
    unfold results
    congr 2
  rw [e, Array.mapM_eq_mapM_toList]
  simp only [Sem.run_bind, Sem.run_map, h1, Result.andThen_ok, Sem.run_pure]
  congr 1
  by_cases hv : vs.length = 1
  · simp [hv]
  · simp [hv]

theorem resW_run {fn : Func} (hs : Sl s S a) (hm : Mem s S.m S.x w) {v : Value} (h : resW P S fn.results.toList v) : (results fn a.tmps).run P w = .ok v w := by
  obtain ⟨vs, h1, _, h3⟩ := results_run hs hm h
  rw [h1]
  congr 1
  split at h3
  · subst h3; simp [ren]
  · obtain ⟨us, hu, hl, rfl⟩ := h3
    have := toExts_out hu
    subst this
    rw [dif_neg (by simpa using hl), ren_exts]
end

/-- The start of a body. -/
theorem rep_start {w : World} {n : Nat} {args : List RV} {s : Nat → Nat} {m : List RO} {x : Nat → Obj → Prop} {bs : List Nat} (hn : args.length ≤ n)
    (hm : Mem s m x w) (hb : ∀ k, k < m.length → s k ∈ bs) (hc : ∀ v ∈ args, clo m.length v = true) :
    Rep bs w n [] s { t := mkT 0 args, m, x } { tmps := (args.map (ren s)).toArray ++ Array.replicate (n - (args.map (ren s)).toArray.size) undef, defers := [] } w := by
  refine ⟨hm, fun k hk => .inl (hb k hk), Fr.refl _ _, by simp; omega, ?_, rfl⟩
  intro i v hi
  obtain ⟨_, h2⟩ := lk_mkT args 0 i v hi
  simp only [Nat.sub_zero] at h2
  refine ⟨?_, hc v (List.mem_of_getElem? h2)⟩
  obtain ⟨hlt, rfl⟩ := List.getElem?_eq_some_iff.1 h2
  simp [Array.getD_eq_getD_getElem?, Array.getElem?_append, hlt]

/-- What a body comes to, whatever it is. -/
theorem calls_of_Sd {P : Program} {f : FuncId} {fn : Func} {c : Code} {args : List RV} {w : World} {R : Ending → World → Prop} {s : Nat → Nat} {m : List RO} {x : Nat → Obj → Prop} {bs : List Nat}
    {Q : Exit → St → Prop} (hf : P.funcs[f]? = some fn) (hb : fn.body = some c) (hn : args.length ≤ fn.ntmps) (hm : Mem s m x w) (hbs : ∀ k, k < m.length → s k ∈ bs) (hc : ∀ v ∈ args, clo m.length v = true)
    (h : Sd P ⟨bs, w, fn.ntmps, []⟩ c Q { t := mkT 0 args, m, x })
    (hq : ∀ e s S a w', Rep bs w fn.ntmps [] s S a w' → Q e S → bodyPost P fn R e a w') : Calls P f (args.map (ren s)).toArray w R :=
  calls_of_wp hf hb (Code.wp_mono (fun e a w' ⟨s, S, h1, h2⟩ => hq e s S a w' h1 h2) (h s _ w (rep_start hn hm hbs hc)))

/-- A body that hands back v. -/
def Back (P : Program) (fn : Func) (v : Value) : Exit → St → Prop
  | .normal, S => resW P S fn.results.toList v
  | .ret, S => resW P S fn.results.toList v
  | _, _ => False

theorem pureC_of_Sd {P : Program} {x : Nat → Obj → Prop} {f : FuncId} {fn : Func} {c : Code} {args : List Value} {v : Value} (hf : P.funcs[f]? = some fn) (hb : fn.body = some c) (hn : Nat.ble args.length fn.ntmps = true)
    (h : ∀ w, Sd P ⟨[], w, fn.ntmps, []⟩ c (Back P fn v) { t := mkT 0 (args.map .ext), m := [], x }) : PureC P x f args v := by
  refine ⟨fun w hx => ?_⟩
  have := calls_of_Sd (s := fun _ => 0) (args := args.map .ext) (R := fun e w' => e = .returned v ∧ Fr [] w w') (bs := []) (m := []) (x := x) hf hb (by simpa using Nat.le_of_ble_eq_true hn)
    ⟨fun k o hk => by simp at hk, fun j k hj => by simp at hj, fun k o hk => by simp at hk, hx, fun b o _ k hk => by simp at hk⟩ (fun k hk => by simp at hk) (by simp [clo]) (h w) ?_
  · rwa [ren_exts] at this
  · intro e s S a w' hr hq
    have hres : resW P S fn.results.toList v → (results fn a.tmps).run P w' = .ok v w' := fun h => resW_run (fn := fn) hr.sl hr.mr h
    cases e with
    | normal => exact ⟨hr.df, v, hres hq, rfl, hr.fr⟩
    | ret => exact ⟨hr.df, v, hres hq, rfl, hr.fr⟩
    | _ => exact hq.elim

/-! What is worked out of values -/
section
variable {P : Program} {K : Value → Prop}

theorem pureW_of {m : Sem Value} {v : Value} (h : ∀ w, m.run P w = .ok v w) : pureW P m K = K v := by
  apply propext
  constructor
  · rintro ⟨u, hu, hk⟩
    have := (hu default).symm.trans (h default)
    simp only [Result.ok.injEq, and_true] at this
    exact this ▸ hk
  · exact fun hk => ⟨v, h, hk⟩

theorem eqGuard_int (op : BinOp) (t : TypeId) (x y : Operand) (k j : IntKind) (a b : Int) (w : World) : (eqGuard op t x y (.int k a) (.int j b)).run P w = .ok () w := by
  unfold eqGuard; cases op <;> rfl

theorem bin_add {T : TypeId} {x y : Operand} {k : IntKind} {a b : Int} : pureW P (do eqGuard .add T x y (.int k a) (.int k b); binOp .add T (.int k a) (.int k b)) K = K (.int k (k.wrap (a + b))) := by
  refine pureW_of fun w => ?_
  rw [Sem.run_bind, eqGuard_int]
  simp [binOp, Op.intArith]
theorem bin_sub {T : TypeId} {x y : Operand} {k : IntKind} {a b : Int} : pureW P (do eqGuard .sub T x y (.int k a) (.int k b); binOp .sub T (.int k a) (.int k b)) K = K (.int k (k.wrap (a - b))) := by
  refine pureW_of fun w => ?_
  rw [Sem.run_bind, eqGuard_int]
  simp [binOp, Op.intArith]
theorem bin_mul {T : TypeId} {x y : Operand} {k : IntKind} {a b : Int} : pureW P (do eqGuard .mul T x y (.int k a) (.int k b); binOp .mul T (.int k a) (.int k b)) K = K (.int k (k.wrap (a * b))) := by
  refine pureW_of fun w => ?_
  rw [Sem.run_bind, eqGuard_int]
  simp [binOp, Op.intArith]
theorem bin_quo {T : TypeId} {x y : Operand} {k : IntKind} {a b : Int} (hb : b ≠ 0) : pureW P (do eqGuard .quo T x y (.int k a) (.int k b); binOp .quo T (.int k a) (.int k b)) K = K (.int k (k.wrap (a.tdiv b))) := by
  refine pureW_of fun w => ?_
  rw [Sem.run_bind, eqGuard_int]
  simp [binOp, Op.intDiv, hb]
theorem bin_rem {T : TypeId} {x y : Operand} {k : IntKind} {a b : Int} (hb : b ≠ 0) : pureW P (do eqGuard .rem T x y (.int k a) (.int k b); binOp .rem T (.int k a) (.int k b)) K = K (.int k (a.tmod b)) := by
  refine pureW_of fun w => ?_
  rw [Sem.run_bind, eqGuard_int]
  simp [binOp, Op.intDiv, hb]
theorem bin_and {T : TypeId} {x y : Operand} {k : IntKind} {a b : Int} : pureW P (do eqGuard .and T x y (.int k a) (.int k b); binOp .and T (.int k a) (.int k b)) K = K (.int k (bits .and k a b)) := by
  refine pureW_of fun w => ?_
  rw [Sem.run_bind, eqGuard_int]
  simp only [binOp_and, intBits_and]
  simp
/-- A byte of a string. -/
theorem idx_str {T : TypeId} {s : ByteArray} {ik : IntKind} {j : Int} (hT : P.underlying T = some .string) (u : UInt8) (h0 : 0 ≤ j) (h1 : s[j.toNat]? = some u) : pureW P (Instr.index T (.string s) (.int ik j)) K = K (.int .u8 u.toNat) := by
  refine pureW_of fun w => ?_
  simp [Instr.index, asIntOf, run_underlying hT, h0, h1]
theorem bin_eql {T : TypeId} {x y : Operand} {k : IntKind} {a b : Int} : pureW P (do eqGuard .eql T x y (.int k a) (.int k b); binOp .eql T (.int k a) (.int k b)) K = K (.bool (a == b)) := by
  refine pureW_of fun w => ?_
  rw [Sem.run_bind, eqGuard_int]
  simp [binOp, Op.intCmp]
theorem bin_neq {T : TypeId} {x y : Operand} {k : IntKind} {a b : Int} : pureW P (do eqGuard .neq T x y (.int k a) (.int k b); binOp .neq T (.int k a) (.int k b)) K = K (.bool (a != b)) := by
  refine pureW_of fun w => ?_
  rw [Sem.run_bind, eqGuard_int]
  simp [binOp, Op.intCmp]
theorem bin_lss {T : TypeId} {x y : Operand} {k : IntKind} {a b : Int} : pureW P (do eqGuard .lss T x y (.int k a) (.int k b); binOp .lss T (.int k a) (.int k b)) K = K (.bool (decide (a < b))) := by
  refine pureW_of fun w => ?_
  rw [Sem.run_bind, eqGuard_int]
  simp [binOp, Op.intCmp]
theorem bin_leq {T : TypeId} {x y : Operand} {k : IntKind} {a b : Int} : pureW P (do eqGuard .leq T x y (.int k a) (.int k b); binOp .leq T (.int k a) (.int k b)) K = K (.bool (decide (a ≤ b))) := by
  refine pureW_of fun w => ?_
  rw [Sem.run_bind, eqGuard_int]
  simp [binOp, Op.intCmp]
theorem bin_gtr {T : TypeId} {x y : Operand} {k : IntKind} {a b : Int} : pureW P (do eqGuard .gtr T x y (.int k a) (.int k b); binOp .gtr T (.int k a) (.int k b)) K = K (.bool (decide (b < a))) := by
  refine pureW_of fun w => ?_
  rw [Sem.run_bind, eqGuard_int]
  simp [binOp, Op.intCmp]
theorem bin_geq {T : TypeId} {x y : Operand} {k : IntKind} {a b : Int} : pureW P (do eqGuard .geq T x y (.int k a) (.int k b); binOp .geq T (.int k a) (.int k b)) K = K (.bool (decide (b ≤ a))) := by
  refine pureW_of fun w => ?_
  rw [Sem.run_bind, eqGuard_int]
  simp [binOp, Op.intCmp]
theorem bin_shl {T : TypeId} {x y : Operand} {k j : IntKind} {a b : Int} (hb : 0 ≤ b) : pureW P (do eqGuard .shl T x y (.int k a) (.int j b); binOp .shl T (.int k a) (.int j b)) K = K (.int k (k.wrap (a * 2 ^ (min b.toNat k.bits)))) := by
  refine pureW_of fun w => ?_
  rw [Sem.run_bind, eqGuard_int]
  simp [binOp, Op.shift, show ¬ b < 0 by omega]
theorem bin_shr {T : TypeId} {x y : Operand} {k j : IntKind} {a b : Int} (hb : 0 ≤ b) : pureW P (do eqGuard .shr T x y (.int k a) (.int j b); binOp .shr T (.int k a) (.int j b)) K = K (.int k (a.fdiv (2 ^ (min b.toNat k.bits)))) := by
  refine pureW_of fun w => ?_
  rw [Sem.run_bind, eqGuard_int]
  simp [binOp, Op.shift, show ¬ b < 0 by omega]
theorem bin_beq {T : TypeId} {x y : Operand} {a b : Bool} (hT : P.underlying T = some .bool) : pureW P (do eqGuard .eql T x y (.bool a) (.bool b); binOp .eql T (.bool a) (.bool b)) K = K (.bool (a == b)) := by
  refine pureW_of fun w => ?_
  have := run_equalIn_bool (P := P) w 9999 T a b hT
  simp [eqGuard, binOp, Op.equal, Op.maxDepth, this]
theorem bin_bne {T : TypeId} {x y : Operand} {a b : Bool} (hT : P.underlying T = some .bool) : pureW P (do eqGuard .neq T x y (.bool a) (.bool b); binOp .neq T (.bool a) (.bool b)) K = K (.bool (!(a == b))) := by
  refine pureW_of fun w => ?_
  have := run_equalIn_bool (P := P) w 9999 T a b hT
  simp [eqGuard, binOp, Op.equal, Op.maxDepth, this]
theorem un_not {b : Bool} : pureW P (Op.unary .not (.bool b)) K = K (.bool (!b)) := pureW_of fun _ => rfl
theorem un_neg {k : IntKind} {a : Int} : pureW P (Op.unary .neg (.int k a)) K = K (.int k (k.wrap (0 - a))) := pureW_of fun _ => rfl
theorem conv_int {t u : TypeId} {k j l : IntKind} {a : Int} (ht : P.underlying t = some (.int l)) (hu : P.underlying u = some (.int j)) : pureW P (Go.convert t u (.int k a)) K = K (.int j (j.wrap a)) := by
  refine pureW_of fun w => ?_
  simp [Go.convert, run_underlying ht, run_underlying hu, Conv.intToInt]
theorem extract_of {vs : Array Value} {i : Nat} {v : Value} (h : vs[i]? = some v) : pureW P (Instr.extract (.tuple vs) i) K = K v := by
  refine pureW_of fun w => ?_
  simp [Instr.extract, h]
end

/-! The builtins -/
theorem builtW_of {P : Program} {K : Value → Prop} {m : Sem Next} {v : Value} (h : ∀ w, m.run P w = .ok (.value v) w) : builtW P m K = K v := by
  apply propext
  constructor
  · rintro ⟨u, hu, hk⟩
    have := (hu default).symm.trans (h default)
    simp only [Result.ok.injEq, and_true, Next.value.injEq] at this
    exact this ▸ hk
  · exact fun hk => ⟨v, h, hk⟩

def mx (a b : Int) : Int := if a < b then b else a
def mn (a b : Int) : Int := if b < a then b else a

section
variable {P : Program} {ts : Array TypeId} {t : TypeId} {k : IntKind} {cs : Array Bool} {K : Value → Prop}
theorem built_max {a b : Int} : builtW P (builtin .max ts t cs #[.int k a, .int k b]) K = K (.int k (mx a b)) :=
  builtW_of fun w => by simp [builtin, Builtin.max_, Builtin.max2, mx]
theorem built_min {a b : Int} : builtW P (builtin .min ts t cs #[.int k a, .int k b]) K = K (.int k (mn a b)) :=
  builtW_of fun w => by simp [builtin, Builtin.min_, Builtin.min2, mn]
theorem built_len_slice {a : Option Addr} {n c : Nat} {T E : TypeId} (hT : P.underlying T = some (.slice E)) : builtW P (builtin .len #[T] t cs #[.slice a n c]) K = K (.int .i64 n) :=
  builtW_of fun w => by simp [builtin, Builtin.len_, run_underlying hT, goInt]
theorem built_len_string {s : ByteArray} {T : TypeId} (hT : P.underlying T = some .string) : builtW P (builtin .len #[T] t cs #[.string s]) K = K (.int .i64 s.size) :=
  builtW_of fun w => by simp [builtin, Builtin.len_, run_underlying hT, goInt]
end
end R
end Go.Proofs.Ytflljnaojghifaa
