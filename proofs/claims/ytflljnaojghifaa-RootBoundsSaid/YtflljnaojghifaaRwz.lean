/- Calls that hand back new memory: what a caller reads of it. -/
import Derived.Test.YtflljnaojghifaaRwy
import Derived.Laws.MakeOwn
import Derived.Great.BuildSlice
namespace Go.Proofs.Ytflljnaojghifaa
open Go Go.RowKit
namespace R
set_option linter.unusedVariables false

/-- A call that hands back v, over new memory m. -/
structure RetC (P : Program) (x : Nat → Obj → Prop) (g : FuncId) (args : List Value) (v : RV) (m : List RO) : Prop where
  out : ∀ w, (∀ b o, x b o → w.heap[b]? = some o) → Calls P g args.toArray w fun e w' => ∃ s : Nat → Nat, e = .returned (ren s v) ∧ (∀ k, k < m.length → w.heap.size ≤ s k) ∧ Mem s m x w' ∧ Fr [] w w'

theorem callR {P : Program} {S : St} {g : FuncId} {as : List RV} {es : List Value} {v : RV} {m : List RO} {K : RV → St → Prop} {Pn : Value → St → Prop} (hg : goes P g) (he : toExts as = some es)
    (hr : RetC P S.x g es v m)
    (h : ∀ (s : Nat → Nat) (x' : Nat → Obj → Prop), (∀ b o, S.x b o → x' b o) → (∀ k o, m[k]? = some o → x' (s k) (renO s o)) → K (.ext (ren s v)) ⟨S.t, S.m, x'⟩) :
    callW P false S (some (g, as)) K Pn := by
  refine .inl ⟨hg, .inr ⟨rfl, fun s w hm => ?_⟩⟩
  have e := toExts_out he
  subst e
  rw [ren_exts]
  refine (hr.out w hm.ext).mono fun e w' ⟨s1, h1, h2, h3, h4⟩ => ?_
  refine ⟨h4.mono (by simp), .inl ⟨.ext (ren s1 v), ⟨S.t, S.m, fun b o => S.x b o ∨ ∃ k o1, m[k]? = some o1 ∧ b = s1 k ∧ o = renO s1 o1⟩, h1, rfl, rfl, rfl, ?_, ?_⟩⟩
  · have k := hm.keep h4
    refine ⟨k.mem, k.inj, k.cm, ?_, ?_⟩
    · rintro b o (hb | ⟨j, o1, hj, rfl, rfl⟩)
      · exact k.ext b o hb
      · exact h3.mem j o1 hj
    · rintro b o (hb | ⟨j, o1, hj, rfl, rfl⟩) i hi
      · exact k.apart b o hb i hi
      · have := h2 j (List.getElem?_eq_some_iff.1 hj).1
        have := hm.lt hi
        omega
  · exact h s1 _ (fun b o hb => .inl hb) (fun k o hk => .inr ⟨k, o, hk, rfl, rfl⟩)

/-- A body that hands back v over its memory m. -/
def BackR (P : Program) (fn : Func) (v : RV) (m : List RO) : Exit → St → Prop
  | .normal, S => resL P S fn.results.toList (fun vs => vs = [v]) ∧ preX m S.m
  | .ret, S => resL P S fn.results.toList (fun vs => vs = [v]) ∧ preX m S.m
  | _, _ => False

theorem retC_of_Sd {P : Program} {x : Nat → Obj → Prop} {f : FuncId} {fn : Func} {c : Code} {args : List Value} {v : RV} {m : List RO} (hf : P.funcs[f]? = some fn) (hb : fn.body = some c) (hn : Nat.ble args.length fn.ntmps = true)
    (hm : m.all (cloO m.length) = true) (h : ∀ w, Sd P ⟨[], w, fn.ntmps, []⟩ c (BackR P fn v m) { t := mkT 0 (args.map .ext), m := [], x }) : RetC P x f args v m := by
  refine ⟨fun w hx => ?_⟩
  have := calls_of_Sd (s := fun _ => 0) (args := args.map .ext) (R := fun e w' => ∃ s : Nat → Nat, e = .returned (ren s v) ∧ (∀ k, k < m.length → w.heap.size ≤ s k) ∧ Mem s m x w' ∧ Fr [] w w') (bs := []) (m := []) (x := x) hf hb (by simpa using Nat.le_of_ble_eq_true hn)
    ⟨fun k o hk => by simp at hk, fun j k hj => by simp at hj, fun k o hk => by simp at hk, hx, fun b o _ k hk => by simp at hk⟩ (fun k hk => by simp at hk) (by simp [clo]) (h w) ?_
  · rwa [ren_exts] at this
  · intro e s S a w' hr hq
    have main : (resL P S fn.results.toList (fun vs => vs = [v]) ∧ preX m S.m) → ((results fn a.tmps).run P w' = .ok (ren s v) w') ∧ ∃ s' : Nat → Nat, (Ending.returned (ren s v)) = .returned (ren s' v) ∧ (∀ k, k < m.length → w.heap.size ≤ s' k) ∧ Mem s' m x w' ∧ Fr [] w w' := by
      rintro ⟨h1, h2⟩
      obtain ⟨vs, g1, g2, rfl⟩ := results_run (fn := fn) hr.sl hr.mr h1
      have own : ∀ k, k < m.length → w.heap.size ≤ s k := fun k hk => by
        rcases hr.own k (Nat.lt_of_lt_of_le hk (preX_len h2)) with h | h
        · simp at h
        · exact h
      refine ⟨by simpa using g1, s, rfl, own, ⟨fun k o hk => hr.mr.mem k o (preX_get h2 k o hk), fun j k hj hk => hr.mr.inj j k (Nat.lt_of_lt_of_le hj (preX_len h2)) (Nat.lt_of_lt_of_le hk (preX_len h2)),
        fun k o hk => List.all_eq_true.1 hm o (List.mem_of_getElem? hk), fun b o hb => ?_, fun b o hb k hk => ?_⟩, hr.fr⟩
      · have h0 := hx b o hb
        rw [hr.fr.block b (Array.getElem?_eq_some_iff.1 h0).1 (by simp)]; exact h0
      · have h0 := (Array.getElem?_eq_some_iff.1 (hx b o hb)).1
        have := own k hk
        omega
    cases e with
    | normal => exact ⟨hr.df, _, (main hq).1, (main hq).2⟩
    | ret => exact ⟨hr.df, _, (main hq).1, (main hq).2⟩
    | _ => exact hq.elim

theorem rowW_make {P : Program} {K : TypeId → List Value → Nat → Nat → Prop} {t e : TypeId} {i : TypeInfo} {z : Value} (ht : P.underlying t = some (.slice e)) (hi : P.info? e = some i) (hz : i.zero = some z)
    {kl kc : IntKind} {l c : Int} (h0 : 0 ≤ l) (hlc : l ≤ c) (hcells : c.toNat * i.size ≤ 16777216) (hbytes : (i.bytes : Int) * c ≤ 281474976710656) (h63 : c ≤ 9223372036854775807)
    (h : K e (madeCells z.cells (c.toNat * i.size)).toList l.toNat c.toNat) : rowW P (Instr.makeSlice t (.int kl l) (.int kc c)) K :=
  ⟨e, _, _, _, fun w => run_makeSlice w t e i z ht hi hz kl kc l c h0 hlc hcells hbytes h63, h⟩
theorem rowW_make' {P : Program} {K : TypeId → List Value → Nat → Nat → Prop} {t e : TypeId} {z : Value} {n b : Nat} (ht : P.underlying t = some (.slice e)) (hi : (P.info? e).map (fun i => (i.zero, i.size, i.bytes)) = some (some z, n, b))
    {kl kc : IntKind} {l c : Int} (h0 : 0 ≤ l) (hlc : l ≤ c) (hcells : c.toNat * n ≤ 16777216) (hbytes : (b : Int) * c ≤ 281474976710656) (h63 : c ≤ 9223372036854775807)
    (h : K e (madeCells z.cells (c.toNat * n)).toList l.toNat c.toNat) : rowW P (Instr.makeSlice t (.int kl l) (.int kc c)) K := by
  cases hq : P.info? e with
  | none => rw [hq] at hi; cases hi
  | some i =>
    rw [hq] at hi
    simp only [Option.map_some, Option.some.injEq, Prod.mk.injEq] at hi
    obtain ⟨h1, rfl, rfl⟩ := hi
    exact rowW_make ht hq h1 h0 hlc hcells hbytes h63 h
theorem rowW_build {P : Program} {K : TypeId → List Value → Nat → Nat → Prop} {t e : TypeId} {z : Value} {n b len : Nat} {parts : Array (Nat × Value)} (cells : Array Value) (ht : P.underlying t = some (.slice e)) (hi : (P.info? e).map (fun i => (i.zero, i.size, i.bytes)) = some (some z, n, b))
    (hsmall : ¬ len * n > 2 ^ 24) (hpos : ¬ len * n = 0) (hf : Instr.fill (fun i => some (i * n, n)) ((Array.range (len * n)).map (z.cells[· % z.cells.size]!)) parts.toList = some cells)
    (h : K e cells.toList len len) : rowW P (Instr.buildSlice t len parts) K := by
  cases hq : P.info? e with
  | none => rw [hq] at hi; cases hi
  | some i =>
    rw [hq] at hi
    simp only [Option.map_some, Option.some.injEq, Prod.mk.injEq] at hi
    obtain ⟨h1, rfl, rfl⟩ := hi
    exact ⟨e, _, _, _, fun w => run_buildSlice w t e len parts cells i z ht hq h1 hsmall hpos hf, h⟩
/-- A slice literal of values. -/
theorem bld_ext {P : Program} {S : St} {t e : TypeId} {z : Value} {n b len : Nat} {idx : List Nat} {rs : List RV} {vs : List Value} {K : RV → St → Prop} (cells : Array Value) (hv : toExts rs = some vs) (ht : P.underlying t = some (.slice e))
    (hi : (P.info? e).map (fun i => (i.zero, i.size, i.bytes)) = some (some z, n, b)) (hsmall : ¬ len * n > 2 ^ 24) (hpos : ¬ len * n = 0)
    (hf : Instr.fill (fun i => some (i * n, n)) ((Array.range (len * n)).map (z.cells[· % z.cells.size]!)) ((idx.zip vs).toArray).toList = some cells)
    (h : K (.sl S.m.length 0 len len) ⟨S.t, S.m ++ [.cells e (cells.toList.map .ext)], S.x⟩) : bldW P S t len idx rs K :=
  .inl ⟨vs, hv, rowW_build cells ht hi hsmall hpos hf h⟩
/-- A slice literal of nothing: an empty block. -/
theorem bld_zero {P : Program} {S : St} {t e : TypeId} {K : RV → St → Prop} (ht : P.underlying t = some (.slice e)) (hi : (P.info? e).isSome = true) (h : K (.sl S.m.length 0 0 0) ⟨S.t, S.m ++ [.cells e []], S.x⟩) : bldW P S t 0 [] [] K := by
  obtain ⟨i, hi⟩ := Option.isSome_iff_exists.1 hi
  refine .inl ⟨[], rfl, e, #[], 0, 0, fun w => ?_, h⟩
  simp [Instr.buildSlice, run_underlying ht, sizeOf, typeInfo, hi, Instr.fill, newRow]
  congr 2
  exact Array.eq_empty_of_size_eq_zero (by simp)
/-- A slice literal whose parts have one cell each. -/
theorem bld_one {P : Program} {S : St} {t e : TypeId} {z : Value} {b len : Nat} {idx : List Nat} {rs : List RV} {K : RV → St → Prop} (ht : P.underlying t = some (.slice e))
    (hi : (P.info? e).map (fun i => (i.zero, i.size, i.bytes)) = some (some z, 1, b)) (hz : z.cells.size = 1) (hn : 0 < len ∧ len ≤ 16777216) (hx : idx = List.range len) (hr : rs.length = len) (h1 : rs.all one = true)
    (h : K (.sl S.m.length 0 len len) ⟨S.t, S.m ++ [.cells e rs], S.x⟩) : bldW P S t len idx rs K := by
  cases hq : P.info? e with
  | none => rw [hq] at hi; cases hi
  | some i =>
    rw [hq] at hi
    simp only [Option.map_some, Option.some.injEq, Prod.mk.injEq] at hi
    exact .inr ⟨e, i, z, ht, hq, hi.2.1, hi.1, hz, hn.1, hn.2, hx, hr, h1, h⟩
theorem made_one {z : Value} (hz : z.cells = #[z]) (n : Nat) : (madeCells z.cells n).toList = List.replicate n z := by
  rw [hz]
  refine List.ext_getElem? fun i => ?_
  by_cases hi : i < n
  · simp [madeCells, hi, Nat.mod_one]
  · simp [madeCells, hi]
theorem putX_one {v : RV} : ∀ (i : Nat) (l : List RV), i < l.length → putX i l [v] = some (l.set i v)
  | 0, a :: l, _ => by simp [putX]
  | i + 1, a :: l, h => by
    have := putX_one (v := v) i l (by simpa using h)
    simp [putX, this]
  | _, [], h => absurd h (Nat.not_lt_zero _)

/-- A row filled so far. -/
def fillTo (n : Nat) (f : Nat → RV) (z : RV) (i : Nat) : List RV := (List.range n).map fun j => if j < i then f j else z
theorem fillTo_zero (n : Nat) (f : Nat → RV) (z : RV) : fillTo n f z 0 = List.replicate n z := by
  refine List.ext_getElem? fun i => ?_
  by_cases hi : i < n
  · simp [fillTo, hi]
  · simp [fillTo, hi]
theorem fillTo_all (n : Nat) (f : Nat → RV) (z : RV) : fillTo n f z n = (List.range n).map f := by
  refine List.map_congr_left fun j hj => ?_
  rw [if_pos (List.mem_range.1 hj)]
theorem fillTo_put (n : Nat) (f : Nat → RV) (z : RV) {i : Nat} (hi : i < n) : putX i (fillTo n f z i) [f i] = some (fillTo n f z (i + 1)) := by
  rw [putX_one i _ (by simpa [fillTo] using hi)]
  congr 1
  refine List.ext_getElem? fun j => ?_
  by_cases hj : j < n
  · by_cases hij : i = j
    · subst hij; simp [fillTo, hj]
    · simp only [fillTo, List.getElem?_set, hij, if_false, List.getElem?_map, List.getElem?_range hj, Option.map_some]
      congr 1
      by_cases h1 : j < i
      · rw [if_pos h1, if_pos (by omega)]
      · rw [if_neg h1, if_neg (by omega)]
  · simp [fillTo, hj]
theorem clo_fill {k T n : Nat} {f : Nat → RV} {z : RV} {i : Nat} (hf : ∀ j, clo k (f j) = true) (hz : clo k z = true) : cloO k (.cells T (fillTo n f z i)) = true := by
  simp only [cloO, fillTo, List.all_eq_true, List.mem_map]
  rintro v ⟨j, _, rfl⟩
  split
  · exact hf j
  · exact hz
/-- All that is known of the world's memory, the own memory with it. -/
def xAll (S : St) (s : Nat → Nat) : Nat → Obj → Prop := fun b o => S.x b o ∨ ∃ k o1, S.m[k]? = some o1 ∧ b = s k ∧ o = renO s o1

/-- A call that reads the own memory, too. -/
theorem callO {P : Program} {S : St} {g : FuncId} {as : List RV} {v : Value} {K : RV → St → Prop} {Pn : Value → St → Prop} (hg : goes P g)
    (hp : ∀ s : Nat → Nat, PureC P (xAll S s) g (as.map (ren s)) v) (h : K (.ext v) S) : callW P false S (some (g, as)) K Pn := by
  refine .inl ⟨hg, .inr ⟨rfl, fun s w hm => ?_⟩⟩
  refine ((hp s).out w ?_).mono fun e w' ⟨h1, h4⟩ => ⟨h4.mono (by simp), .inl ⟨.ext v, S, h1, rfl, rfl, rfl, hm.keep h4, h⟩⟩
  rintro b o (hb | ⟨j, o1, hj, rfl, rfl⟩)
  · exact hm.ext b o hb
  · exact hm.mem j o1 hj

/-- The same, where new memory is handed back. -/
theorem callRO {P : Program} {S : St} {g : FuncId} {as : List RV} {v : RV} {m : List RO} {K : RV → St → Prop} {Pn : Value → St → Prop} (hg : goes P g)
    (hr : ∀ s : Nat → Nat, RetC P (xAll S s) g (as.map (ren s)) v m)
    (h : ∀ (s : Nat → Nat) (x' : Nat → Obj → Prop), (∀ b o, S.x b o → x' b o) → (∀ k o, m[k]? = some o → x' (s k) (renO s o)) → K (.ext (ren s v)) ⟨S.t, S.m, x'⟩) :
    callW P false S (some (g, as)) K Pn := by
  refine .inl ⟨hg, .inr ⟨rfl, fun s0 w hm => ?_⟩⟩
  refine ((hr s0).out w ?_).mono fun e w' ⟨s1, h1, h2, h3, h4⟩ => ?_
  · rintro b o (hb | ⟨j, o1, hj, rfl, rfl⟩)
    · exact hm.ext b o hb
    · exact hm.mem j o1 hj
  refine ⟨h4.mono (by simp), .inl ⟨.ext (ren s1 v), ⟨S.t, S.m, fun b o => S.x b o ∨ ∃ k o1, m[k]? = some o1 ∧ b = s1 k ∧ o = renO s1 o1⟩, h1, rfl, rfl, rfl, ?_, ?_⟩⟩
  · have k := hm.keep h4
    refine ⟨k.mem, k.inj, k.cm, ?_, ?_⟩
    · rintro b o (hb | ⟨j, o1, hj, rfl, rfl⟩)
      · exact k.ext b o hb
      · exact h3.mem j o1 hj
    · rintro b o (hb | ⟨j, o1, hj, rfl, rfl⟩) i hi
      · exact k.apart b o hb i hi
      · have := h2 j (List.getElem?_eq_some_iff.1 hj).1
        have := hm.lt hi
        omega
  · exact h s1 _ (fun b o hb => .inl hb) (fun k o hk => .inr ⟨k, o, hk, rfl, rfl⟩)
theorem appX_nil {α : Type} {l : List α} : List.append [] l = l := nr rfl
theorem appX_cons {α : Type} {a : α} {l r : List α} : List.append (a :: l) r = a :: List.append l r := nr rfl
end R
end Go.Proofs.Ytflljnaojghifaa
