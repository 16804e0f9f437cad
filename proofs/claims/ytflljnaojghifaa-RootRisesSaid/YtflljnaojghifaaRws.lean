/- The walk over a small state: an operation does what was worked out. -/
import Derived.Test.YtflljnaojghifaaRwq
namespace Go.Proofs.Ytflljnaojghifaa
open Go Go.RowKit
namespace R

section
variable {P : Program} {o : Oper} {a : Act} {C : World → Prop} {w : World} {s : Nat → Nat} {S : St}

theorem q_val {v : Value} (h : (execOp a.eval o).run P w = .ok (.value v) w) : o.quietAt P a C w v := by
  unfold Oper.quietAt
  rw [h]
  exact ⟨rfl, rfl⟩

theorem pure_val {m : Sem Value} {v : Value} (h : m.run P w = .ok v w) : (do pure (Next.value (← m)) : Sem Next).run P w = .ok (.value v) w := by
  simp [h]

theorem load_own {k off n : Nat} {g : Bool} {T T' : TypeId} {c : List RV} {K : RV → Prop} {s0 : Nat → Nat} {w0 : World} (hs : Mem s0 S.m S.x w0) (hm : S.m[k]? = some (.cells T' c)) (ht : tyS P T = some (g, n))
    (h : loadR g n off c K) : ∃ v, clo S.m.length v = true ∧ K v ∧ ∀ s w, Mem s S.m S.x w → (Instr.loadAt T (.pointer (some ⟨s k, off, none⟩))).run P w = .ok (ren s v) w := by
  have hcl := hs.cm k _ hm
  simp only [cloO, List.all_eq_true] at hcl
  unfold tyS at ht
  split at ht
  · rename_i d i hd hi
    simp only [Option.some.injEq, Prod.mk.injEq] at ht
    obtain ⟨hg, hn⟩ := ht
    have hagg : ∀ w, (isAgg T).run P w = .ok g w := by
      intro w
      unfold isAgg
      rw [Sem.run_bind, run_underlying hd w]
      subst hg
      cases d <;> rfl
    have hadd : ∀ b j, (⟨b, off, none⟩ : Addr).add j = ⟨b, off + j, none⟩ := fun b j => by unfold Addr.add; split <;> simp_all
    cases g with
    | true =>
      simp only [loadR] at h
      obtain ⟨us, hvs, h⟩ := bindV_out h
      refine ⟨_, rfl, h, ?_⟩
      intro s w hw
      have hb := hw.mem k _ hm
      unfold segX at hvs
      rw [dropX_eq] at hvs
      obtain ⟨hseg, hl⟩ := takeX_out hvs
      have hl2 : (loadCells ⟨s k, off, none⟩ us.length).run P w = .ok us.toArray w := by
        refine run_loadCells_list (P := P) w ⟨s k, off, none⟩ us ?_
        intro j v hj
        rw [hadd, cell_of_row w (s k) (off + j) _ T' (0, 0) hb]
        have h1 : ((c.drop off).take n)[j]? = some (.ext v) := by rw [hseg]; simp [hj]
        have hjn : j < n := by
          have := (List.getElem?_eq_some_iff.1 hj).1
          omega
        rw [List.getElem?_take_of_lt hjn, List.getElem?_drop] at h1
        simp only [List.getElem?_toArray, List.getElem?_map, h1]
        rfl
      simp only [Instr.loadAt, Instr.sureAddr, pure_bind, loadVar, Sem.run_bind, hagg, Result.andThen_ok, if_true, sizeOf, typeInfo, run_program, hi, Sem.run_pure, hn, ← hl, hl2, ren]
    | false =>
      simp only [loadR] at h
      obtain ⟨v, hv, h⟩ := bindV_out h
      rw [nthX_eq] at hv
      refine ⟨v, hcl v (List.mem_of_getElem? hv), h, ?_⟩
      intro s w hw
      have hb := hw.mem k _ hm
      have hc : w.cell? ⟨s k, off, none⟩ = some (ren s v) := by
        rw [cell_of_row w (s k) off _ T' (0, 0) hb]
        simp [hv]
      simp only [Instr.loadAt, Instr.sureAddr, pure_bind, loadVar, Sem.run_bind, hagg, Result.andThen_ok, Bool.false_eq_true, if_false, run_load, hc]
  · cases ht

theorem load_ext {b off n : Nat} {g : Bool} {T T' : TypeId} {f : Nat × Nat} {c : Array Value} {v : Value} (hx : S.x b (.cells c T' f)) (ht : tyS P T = some (g, n))
    (h : loadX g n off c = some v) : ∀ w, Mem s S.m S.x w → (Instr.loadAt T (.pointer (some ⟨b, off, none⟩))).run P w = .ok v w := by
  intro w hw
  have hb := hw.ext b _ hx
  unfold tyS at ht
  split at ht
  · rename_i d i hd hi
    simp only [Option.some.injEq, Prod.mk.injEq] at ht
    obtain ⟨hg, hn⟩ := ht
    have hagg : ∀ w, (isAgg T).run P w = .ok g w := by
      intro w
      unfold isAgg
      rw [Sem.run_bind, run_underlying hd w]
      subst hg
      cases d <;> rfl
    have hadd : ∀ j, (⟨b, off, none⟩ : Addr).add j = ⟨b, off + j, none⟩ := fun j => by unfold Addr.add; split <;> simp_all
    cases g with
    | true =>
      simp only [loadX] at h
      split at h
      · rename_i hle
        simp only [Option.some.injEq] at h
        subst h
        have hl2 : (loadCells ⟨b, off, none⟩ (c.extract off (off + n)).toList.length).run P w = .ok (c.extract off (off + n)).toList.toArray w := by
          refine run_loadCells_list (P := P) w ⟨b, off, none⟩ _ ?_
          intro j v hj
          rw [hadd, cell_of_row w b (off + j) _ T' f hb]
          have h1 := hj
          simp only [Array.toList_extract, List.extract_eq_take_drop] at h1
          have hjn : j < n := by have := (List.getElem?_eq_some_iff.1 h1).1; simp at this; omega
          rw [show off + n - off = n by omega, List.getElem?_take_of_lt hjn, List.getElem?_drop] at h1
          simpa using h1
        have hlen : (c.extract off (off + n)).toList.length = n := by simp; omega
        rw [hlen] at hl2
        simp only [Instr.loadAt, Instr.sureAddr, pure_bind, loadVar, Sem.run_bind, hagg, Result.andThen_ok, if_true, sizeOf, typeInfo, run_program, hi, Sem.run_pure, hn, hl2, Array.toArray_toList]
      · cases h
    | false =>
      simp only [loadX] at h
      have hc : w.cell? ⟨b, off, none⟩ = some v := by
        rw [cell_of_row w b off _ T' f hb, h]
      simp only [Instr.loadAt, Instr.sureAddr, pure_bind, loadVar, Sem.run_bind, hagg, Result.andThen_ok, Bool.false_eq_true, if_false, run_load, hc]
  · cases ht

theorem field_off {T : TypeId} {f d : Nat} {b off : Nat} (h : fieldOff P T f = some d) (w : World) :
    (Instr.fieldAt T (.pointer (some ⟨b, off, none⟩)) f).run P w = .ok (.pointer (some ⟨b, off + d, none⟩)) w := by
  unfold fieldOff at h
  split at h
  · rename_i fs hu
    split at h
    · rename_i fld hf
      split at h
      · rename_i i hi
        split at h
        · cases h
        · rename_i hz
          simp only [Option.some.injEq] at h
          subst h
          have hadd : (⟨b, off, none⟩ : Addr).add fld.offset = ⟨b, off + fld.offset, none⟩ := by unfold Addr.add; split <;> simp_all
          simp [Instr.fieldAt, run_underlying hu, hf, Instr.sureAddr, fieldPlace, sizeOf, typeInfo, hi, hz, hadd]
      · cases h
    · cases h
  · cases h

theorem index_slice {T : TypeId} {z : Nat} {k : IntKind} {j : Int} {b off len cap : Nat} (h : elemOff P T = some (none, z)) (h0 : 0 ≤ j) (h1 : j < (len : Int)) (w : World) :
    (Instr.indexAt T (.slice (some ⟨b, off, none⟩) len cap) (.int k j)).run P w = .ok (.pointer (some ⟨b, off + j.toNat * z, none⟩)) w := by
  unfold elemOff at h
  split at h
  · rename_i e hu
    split at h
    · rename_i i hi
      simp only [Option.some.injEq, Prod.mk.injEq, true_and] at h
      subst h
      have hadd : ∀ n, (⟨b, off, none⟩ : Addr).add n = ⟨b, off + n, none⟩ := fun n => by unfold Addr.add; split <;> simp_all
      simp [Instr.indexAt, asIntOf, run_underlying hu, sizeOf, typeInfo, hi, h0, h1, hadd]
    · cases h
  · split at h <;> simp at h
  · cases h

theorem index_array {T : TypeId} {z : Nat} {k : IntKind} {j : Int} {b off len : Nat} (h : elemOff P T = some (some len, z)) (h0 : 0 ≤ j) (h1 : j < (len : Int)) (w : World) :
    (Instr.indexAt T (.pointer (some ⟨b, off, none⟩)) (.int k j)).run P w = .ok (.pointer (some ⟨b, off + j.toNat * z, none⟩)) w := by
  unfold elemOff at h
  split at h
  · split at h <;> simp at h
  · rename_i n e hu
    split at h
    · rename_i i hi
      simp only [Option.some.injEq, Prod.mk.injEq] at h
      obtain ⟨rfl, rfl⟩ := h
      have hadd : ∀ n, (⟨b, off, none⟩ : Addr).add n = ⟨b, off + n, none⟩ := fun n => by unfold Addr.add; split <;> simp_all
      simp [Instr.indexAt, asIntOf, run_underlying hu, Instr.sureAddr, sizeOf, typeInfo, hi, h0, h1, hadd]
    · cases h
  · cases h

theorem exec_move {x : Operand} (ho : o.op = .move x) : (execOp a.eval o).run P w = .ok (.value (a.eval x)) w := by simp [execOp, ho]
theorem exec_assign {x : Operand} (ho : o.op = .assign x) : (execOp a.eval o).run P w = .ok (.value (a.eval x)) w := by simp [execOp, ho]

theorem zip_parts (parts : Array (Nat × Operand)) (f : Operand → Value) : (parts.map fun (i, x) => (i, f x)) = ((parts.toList.map (·.1)).zip ((parts.toList.map (·.2)).map f)).toArray := by
  apply Array.ext'
  simp only [Array.toList_map]
  generalize parts.toList = l
  induction l with
  | nil => rfl
  | cons x l ih => simp [ih]

theorem tgt_run0 {f : RV} {vs : List RV} {g : FuncId} {as : List RV} (h : tgt f vs = some (g, as)) (s : Nat → Nat) (w : World) :
    (do let d ← Deferred.ofValue (ren s f) (vs.map (ren s)).toArray; invoke d.target d.args : Sem Next).run P w = (callFunc g (as.map (ren s)).toArray).run P w := by
  unfold tgt at h
  split at h
  · simp only [Option.some.injEq, Prod.mk.injEq] at h
    obtain ⟨rfl, rfl⟩ := h
    simp only [ren, Deferred.ofValue, pure_bind, invoke]
    congr 2
    apply Array.ext'
    simp [Function.comp_def, ren]
  · simp only [Option.some.injEq, Prod.mk.injEq] at h
    obtain ⟨rfl, rfl⟩ := h
    simp only [ren, Deferred.ofValue, pure_bind, invoke]
    congr 2
    apply Array.ext'
    simp [ren, Function.comp_def]
  · cases h
theorem tgt_run {f : RV} {vs : List RV} {g : FuncId} {as : List RV} (h : tgt f vs = some (g, as)) (hg : goes P g) (s : Nat → Nat) (w : World) :
    (do let d ← Deferred.ofValue (ren s f) (vs.map (ren s)).toArray; invoke d.target d.args : Sem Next).run P w = .ok (.enter g (as.map (ren s)).toArray) w := by
  rw [tgt_run0 h, hg]

theorem resolve_value {c : Call} {f : Operand} {t : TypeId} (hc : c.callee = .value f) : resolve a.eval c t = Deferred.ofValue (a.eval f) (c.args.map a.eval) := by
  simp [resolve, hc]

theorem quiet_enter {g : FuncId} {args : Array Value} {v : Value} (h : (execOp a.eval o).run P w = .ok (.enter g args) w)
    (hc : Calls P g args w fun e w' => e = .returned v ∧ C w') : o.quietAt P a C w v := by
  unfold Oper.quietAt
  rw [h]
  exact ⟨rfl, hc⟩

theorem pureC_calls {g : FuncId} {es : List Value} {v : Value} (h : PureC P S.x g es v) (hm : Mem s S.m S.x w) (hC : ∀ w', Fr [] w w' → C w') :
    Calls P g es.toArray w fun e w' => e = .returned v ∧ C w' :=
  (h.out w hm.ext).mono fun _ _ ⟨h1, h2⟩ => ⟨h1, hC _ h2⟩

set_option maxHeartbeats 1000000 in
theorem opW_quiet {K : RV → St → Prop} {Pn : Value → St → Prop} {s0 : Nat → Nat} {a0 : Act} {w0 : World} (hS : Sl s0 S a0) (hM : Mem s0 S.m S.x w0) (h : opW P true S o K Pn) :
    ∃ v, clo S.m.length v = true ∧ K v S ∧ ∀ (s : Nat → Nat) (a : Act) (C : World → Prop) (w : World), Sl s S a → Mem s S.m S.x w → (∀ w', Fr [] w w' → C w') → o.quietAt P a C w (ren s v) := by
  have pw : ∀ {m : Sem Value} {K' : Value → Prop}, pureW P m K' → ∃ v, (∀ w, m.run P w = .ok v w) ∧ K' v := fun h => h
  unfold opW at h
  split at h
  case h_1 x ho =>
    obtain ⟨v, h1, h2⟩ := get_out h
    exact ⟨v, (hS.eval h1).2, h2, fun s a C w hs hm hC => q_val (by rw [exec_move ho, (hs.eval h1).1])⟩
  case h_2 x ho =>
    obtain ⟨v, h1, h2⟩ := get_out h
    exact ⟨v, (hS.eval h1).2, h2, fun s a C w hs hm hC => q_val (by rw [exec_assign ho, (hs.eval h1).1])⟩
  case h_3 c x y ho =>
    obtain ⟨u, h1, h⟩ := getX_out h
    obtain ⟨v, h2, h⟩ := get_out h
    obtain ⟨v', h3, h⟩ := get_out h
    unfold pickW at h
    cases u with
    | bool t =>
      refine ⟨_, ?_, ifB_out h, fun s a C w hs hm hC => q_val ?_⟩
      · cases t
        · exact (hS.eval h3).2
        · exact (hS.eval h2).2
      · have e1 := (hs.eval h1).1
        have e2 := (hs.eval h2).1
        have e3 := (hs.eval h3).1
        simp only [ren] at e1
        simp only [execOp, ho, e1, asBool, pure_bind, Sem.run_pure, e2, e3]
        cases t <;> rfl
    | _ => exact h.elim
  case h_4 x ho =>
    obtain ⟨v, h1, h⟩ := get_out h
    unfold nilW at h
    split at h
    · rename_i u
      obtain ⟨h2, h⟩ := h
      refine ⟨_, rfl, h, fun s a C w hs hm hC => q_val ?_⟩
      have e1 := (hs.eval h1).1
      simp only [ren] at e1
      simp only [execOp, ho, e1, ren]
      unfold nilOK at h2
      split at h2 <;> first | rfl | (cases h2; done)
    · refine ⟨_, (hS.eval h1).2, h, fun s a C w hs hm hC => q_val ?_⟩
      have e1 := (hs.eval h1).1
      simp only [ren] at e1
      simp only [execOp, ho, e1, ren]; rfl
    · refine ⟨_, (hS.eval h1).2, h, fun s a C w hs hm hC => q_val ?_⟩
      have e1 := (hs.eval h1).1
      simp only [ren] at e1
      simp only [execOp, ho, e1, ren]; rfl
    · refine ⟨_, (hS.eval h1).2, h, fun s a C w hs hm hC => q_val ?_⟩
      have e1 := (hs.eval h1).1
      simp only [ren] at e1
      simp only [execOp, ho, e1, ren]; rfl
    · exact h.elim
  case h_5 op T x y _ ho =>
    obtain ⟨u, h1, h⟩ := getX_out h
    obtain ⟨v, h2, h⟩ := getX_out h
    obtain ⟨r, h3, h4⟩ := binW_out h
    refine ⟨_, rfl, h4, fun s a C w hs hm hC => q_val ?_⟩
    have e1 := (hs.eval h1).1
    have e2 := (hs.eval h2).1
    simp only [ren] at e1 e2
    simp only [execOp, ho, e1, e2, ren]
    exact pure_val (h3 w)
  case h_6 op _ x ho =>
    obtain ⟨u, h1, h⟩ := getX_out h
    obtain ⟨r, h3, h4⟩ := pw h
    refine ⟨_, rfl, h4, fun s a C w hs hm hC => q_val ?_⟩
    have e1 := (hs.eval h1).1
    simp only [ren] at e1
    simp only [execOp, ho, e1, ren]
    exact pure_val (h3 w)
  case h_7 t u x ho =>
    obtain ⟨u, h1, h⟩ := getX_out h
    obtain ⟨r, h3, h4⟩ := pw h
    refine ⟨_, rfl, h4, fun s a C w hs hm hC => q_val ?_⟩
    have e1 := (hs.eval h1).1
    simp only [ren] at e1
    simp only [execOp, ho, e1, ren]
    exact pure_val (h3 w)
  case h_8 t x ho =>
    obtain ⟨u, h1, h⟩ := getX_out h
    obtain ⟨r, h3, h4⟩ := pw h
    refine ⟨_, rfl, h4, fun s a C w hs hm hC => q_val ?_⟩
    have e1 := (hs.eval h1).1
    simp only [ren] at e1
    simp only [execOp, ho, e1, ren]
    exact pure_val (h3 w)
  case h_9 x t u ok ho =>
    obtain ⟨u, h1, h⟩ := getX_out h
    obtain ⟨r, h3, h4⟩ := pw h
    refine ⟨_, rfl, h4, fun s a C w hs hm hC => q_val ?_⟩
    have e1 := (hs.eval h1).1
    simp only [ren] at e1
    simp only [execOp, ho, e1, ren]
    exact pure_val (h3 w)
  case h_10 x i ho =>
    obtain ⟨u, h1, h⟩ := getX_out h
    obtain ⟨r, h3, h4⟩ := pw h
    refine ⟨_, rfl, h4, fun s a C w hs hm hC => q_val ?_⟩
    have e1 := (hs.eval h1).1
    simp only [ren] at e1
    simp only [execOp, ho, e1, ren]
    exact pure_val (h3 w)
  case h_11 t x f ho =>
    obtain ⟨u, h1, h⟩ := getX_out h
    obtain ⟨r, h3, h4⟩ := pw h
    refine ⟨_, rfl, h4, fun s a C w hs hm hC => q_val ?_⟩
    have e1 := (hs.eval h1).1
    simp only [ren] at e1
    simp only [execOp, ho, e1, ren]
    exact pure_val (h3 w)
  case h_12 t x i ho =>
    obtain ⟨u, h1, h⟩ := getX_out h
    obtain ⟨v, h2, h⟩ := getX_out h
    obtain ⟨r, h3, h4⟩ := pw h
    refine ⟨_, rfl, h4, fun s a C w hs hm hC => q_val ?_⟩
    have e1 := (hs.eval h1).1
    have e2 := (hs.eval h2).1
    simp only [ren] at e1 e2
    simp only [execOp, ho, e1, e2, ren]
    exact pure_val (h3 w)
  case h_13 t parts ho =>
    obtain ⟨vs, h1, h⟩ := getsX_out h
    obtain ⟨z, hz, h⟩ := bindV_out h
    obtain ⟨cs, h3, h4⟩ := build_out hz h
    refine ⟨_, rfl, h4, fun s a C w hs hm hC => q_val ?_⟩
    have e1 := hs.evals h1
    simp only [execOp, ho, ren, zip_parts parts a.eval, e1]
    exact pure_val (h3 w)
  case h_14 t x lo hi mx ho =>
    obtain ⟨u, h1, h⟩ := getX_out h
    obtain ⟨l, g1, h⟩ := getsX_out h
    obtain ⟨hh, g2, h⟩ := getsX_out h
    obtain ⟨m, g3, h⟩ := getsX_out h
    obtain ⟨r, h3, h4⟩ := pw h
    refine ⟨_, rfl, h4, fun s a C w hs hm hC => q_val ?_⟩
    have e1 := (hs.eval h1).1
    simp only [ren] at e1
    have k1 := hs.evals g1
    have k2 := hs.evals g2
    have k3 := hs.evals g3
    have toL : ∀ (x : Option Operand) (l : List Value), x.toList.map a.eval = l → x.map a.eval = l[0]? := by
      intro x l hl
      subst hl
      cases x <;> rfl
    simp only [execOp, ho, e1, ren, toL _ _ k1, toL _ _ k2, toL _ _ k3]
    exact pure_val (h3 w)
  case h_15 fn first caps ho =>
    obtain ⟨fs, hfs, h⟩ := bindV_out h
    obtain ⟨cs, hcs, h⟩ := bindV_out h
    unfold funcW at h
    have plain : (bindV (toExts fs) fun fs => bindV (toExts cs) fun cs => K (.ext (.func fn fs.toArray cs.toArray)) S) → ∃ v, clo S.m.length v = true ∧ K v S ∧ ∀ (s : Nat → Nat) (a : Act) (C : World → Prop) (w : World), Sl s S a → Mem s S.m S.x w → (∀ w', Fr [] w w' → C w') → o.quietAt P a C w (ren s v) := by
      intro h
      obtain ⟨fs', hfs', h⟩ := bindV_out h
      obtain ⟨cs', hcs', h⟩ := bindV_out h
      rw [toExts_out hfs'] at hfs
      rw [toExts_out hcs'] at hcs
      refine ⟨_, rfl, h, fun s a C w hs hm hC => q_val ?_⟩
      have k1 := hs.evals hfs
      have k2 := hs.evals hcs
      have m1 : first.map a.eval = fs'.toArray := by apply Array.ext'; simpa using k1
      have m2 : caps.map a.eval = cs'.toArray := by apply Array.ext'; simpa using k2
      simp only [execOp, ho, ren, m1, m2, Instr.makeFunc, pure_bind, Sem.run_pure]
    cases hps : ptrs cs with
    | none => cases fs <;> simp only [hps] at h <;> exact plain h
    | some ps =>
      cases ps with
      | nil => cases fs <;> simp only [hps] at h <;> exact plain h
      | cons c l =>
        cases fs with
        | cons f fs => simp only at h; exact plain h
        | nil =>
          cases fn with
          | func g =>
            simp only [hps] at h
            refine ⟨_, ?_, h, fun s a C w hs hm hC => q_val ?_⟩
            · have hc2 := (getsR_out hS hcs).2
              rw [ptrs_out hps] at hc2
              simp only [clo, List.all_eq_true, decide_eq_true_eq]
              intro c' hc'
              have := hc2 (RV.ptr c'.1 c'.2) (List.mem_map.2 ⟨c', hc', rfl⟩)
              simpa [clo] using this
            · have k1 := (getsR_out hs hfs).1
              have k2 := (getsR_out hs hcs).1
              rw [ptrs_out hps] at k2
              have m1 : first.map a.eval = #[] := by apply Array.ext'; simpa using k1
              have m2 : caps.map a.eval = ((c :: l).map fun c => Value.pointer (some ⟨s c.1, c.2, none⟩)).toArray := by
                apply Array.ext'
                simpa [ren, Function.comp_def] using k2
              simp only [execOp, ho, ren, m1, m2, Instr.makeFunc, pure_bind, Sem.run_pure]
          | _ => simp only [hps] at h; exact plain h
  case h_16 T x f ho =>
    obtain ⟨v, h1, h⟩ := get_out h
    obtain ⟨d, hd, h⟩ := bindV_out h
    unfold faW at h
    cases v with
    | ptr k off =>
      refine ⟨RV.ptr k (off + d), (hS.eval h1).2, h, fun s a C w hs hm hC => q_val ?_⟩
      have e1 := (hs.eval h1).1
      simp only [ren] at e1
      simp only [execOp, ho, e1, ren]
      exact pure_val (field_off hd w)
    | ext u =>
      obtain ⟨p, hp, h⟩ := bindV_out h
      refine ⟨_, rfl, h, fun s a C w hs hm hC => q_val ?_⟩
      have e1 := (hs.eval h1).1
      simp only [ren, ptrV_out hp] at e1
      simp only [execOp, ho, e1, ren]
      exact pure_val (field_off hd w)
    | _ => exact h.elim
  case h_17 T x i ho =>
    obtain ⟨v, h1, h⟩ := get_out h
    obtain ⟨i', h2, h⟩ := getX_out h
    obtain ⟨z, hel, h⟩ := bindV_out h
    unfold idxW at h
    cases i' with
    | int ki j =>
      simp only at h
      obtain ⟨al, z⟩ := z
      cases v with
      | sl kk off len cap =>
        cases al with
        | some _ => exact h.elim
        | none =>
          obtain ⟨⟨g0, g1⟩, h⟩ := h
          refine ⟨RV.ptr kk (off + j.toNat * z), (hS.eval h1).2, h, fun s a C w hs hm hC => q_val ?_⟩
          have e1 := (hs.eval h1).1
          have e2 := (hs.eval h2).1
          simp only [ren] at e1 e2
          simp only [execOp, ho, e1, e2, ren]
          exact pure_val (index_slice hel g0 g1 w)
      | ptr kk off =>
        cases al with
        | none => exact h.elim
        | some len =>
          obtain ⟨⟨g0, g1⟩, h⟩ := h
          refine ⟨RV.ptr kk (off + j.toNat * z), (hS.eval h1).2, h, fun s a C w hs hm hC => q_val ?_⟩
          have e1 := (hs.eval h1).1
          have e2 := (hs.eval h2).1
          simp only [ren] at e1 e2
          simp only [execOp, ho, e1, e2, ren]
          exact pure_val (index_array hel g0 g1 w)
      | ext u =>
        cases al with
        | some _ => exact h.elim
        | none =>
          obtain ⟨p, hp, h⟩ := bindV_out h
          obtain ⟨⟨g0, g1⟩, h⟩ := h
          refine ⟨_, rfl, h, fun s a C w hs hm hC => q_val ?_⟩
          have e1 := (hs.eval h1).1
          have e2 := (hs.eval h2).1
          simp only [ren, slV_out hp] at e1 e2
          simp only [execOp, ho, e1, e2, ren]
          exact pure_val (index_slice hel g0 g1 w)
      | _ => exact h.elim
    | _ => exact h.elim
  case h_18 T x ho =>
    obtain ⟨v, h1, h⟩ := get_out h
    obtain ⟨z, hty, h⟩ := bindV_out h
    obtain ⟨g, n⟩ := z
    unfold loadW at h
    cases v with
    | ptr k off =>
      simp only at h
      obtain ⟨ob, hmk, h⟩ := bindV_out h
      rw [nthX_eq] at hmk
      unfold cellW at h
      cases ob with
      | cells T' c =>
        obtain ⟨v, hv1, hv2, hv3⟩ := load_own hM hmk hty h
        refine ⟨v, hv1, hv2, fun s a C w hs hm hC => q_val ?_⟩
        have e1 := (hs.eval h1).1
        simp only [ren] at e1
        simp only [execOp, ho, e1]
        exact pure_val (hv3 s w hm)
      | obj _ => exact h.elim
    | ext u =>
      obtain ⟨p, hp, c, T', f, v, hx, hl, h⟩ := bindV_out h
      refine ⟨_, rfl, h, fun s a C w hs hm hC => q_val ?_⟩
      have e1 := (hs.eval h1).1
      simp only [ren, ptrV_out hp] at e1
      simp only [execOp, ho, e1, ren]
      exact pure_val (load_ext hx hty hl w hm)
    | _ => exact h.elim
  case h_19 T m k ok ho =>
    obtain ⟨v, h1, h⟩ := get_out h
    obtain ⟨k', h2, h⟩ := getX_out h
    unfold mapOb at h
    split at h
    · rename_i r _
      obtain ⟨ob, hmk, h⟩ := bindV_out h
      rw [nthX_eq] at hmk
      unfold objW at h
      cases ob with
      | obj ob =>
        obtain ⟨v, hv, h⟩ := h
        refine ⟨_, rfl, h, fun s a C w hs hm hC => q_val ?_⟩
        have e1 := (hs.eval h1).1
        have e2 := (hs.eval h2).1
        simp only [ren] at e1 e2
        simp only [execOp, ho, e1, e2, ren]
        exact pure_val (hv (s r) w (hm.mem r _ hmk))
      | cells _ _ => exact h.elim
    · rename_i b _
      obtain ⟨ob, hx, v, hv, h⟩ := h
      refine ⟨_, rfl, h, fun s a C w hs hm hC => q_val ?_⟩
      have e1 := (hs.eval h1).1
      have e2 := (hs.eval h2).1
      simp only [ren] at e1 e2
      simp only [execOp, ho, e1, e2, ren]
      exact pure_val (hv b w (hm.ext b _ hx))
    · exact h.elim
  case h_20 c ho =>
    split at h
    · rename_i b hc
      obtain ⟨rs, hrs, h⟩ := bindV_out h
      have plain : (bindV (toExts rs) fun vs => builtW P (builtin b c.argTypes o.type (c.args.map fun | .const _ => true | _ => false) vs.toArray) fun v => K (.ext v) S) → ∃ v, clo S.m.length v = true ∧ K v S ∧ ∀ (s : Nat → Nat) (a : Act) (C : World → Prop) (w : World), Sl s S a → Mem s S.m S.x w → (∀ w', Fr [] w w' → C w') → o.quietAt P a C w (ren s v) := by
        intro h
        obtain ⟨vs, hvs, h⟩ := bindV_out h
        obtain ⟨v, hv, h⟩ := h
        rw [toExts_out hvs] at hrs
        refine ⟨_, rfl, h, fun s a C w hs hm hC => q_val ?_⟩
        have k1 := hs.evals hrs
        have m1 : c.args.map a.eval = vs.toArray := by apply Array.ext'; simpa using k1
        simp only [execOp, ho, resolve, hc, pure_bind, invoke, m1, ren]
        exact hv w
      unfold lenW at h
      split at h
      · rename_i k off l cap _
        obtain ⟨z, hz, h⟩ := bindV_out h
        cases hz1 : z.1 with
        | some _ => simp only [hz1] at h
        | none =>
          simp only [hz1] at h
          refine ⟨_, rfl, h, fun s a C w hs hm hC => q_val ?_⟩
          have k1 := (getsR_out hs hrs).1
          have m1 : c.args.map a.eval = #[.slice (some ⟨s k, off, none⟩) l cap] := by apply Array.ext'; simpa [ren] using k1
          cases hq : c.argTypes[0]? with
          | none => simp [hq] at hz
          | some t =>
            simp only [hq, Option.bind_some] at hz
            unfold elemOff at hz
            split at hz
            · rename_i e hu'
              have : (Builtin.len_ c.argTypes o.type #[.slice (some ⟨s k, off, none⟩) l cap]).run P w = .ok (.int .i64 l) w := by
                simp [Builtin.len_, hq, run_underlying hu', goInt]
              simp only [execOp, ho, resolve, hc, pure_bind, invoke, m1, ren, builtin]
              exact pure_val this
            · split at hz <;> simp at hz
              subst hz; cases hz1
            · cases hz
      · exact absurd h.1 (by decide)
      · exact h.elim
      · exact plain h
    · rename_i f hc
      obtain ⟨fv, h1, h⟩ := get_out h
      obtain ⟨vs, hvs, h⟩ := bindV_out h
      unfold callW at h
      split at h
      · exact h.elim
      · rename_i g as htg
        rcases h with ⟨hg, ⟨es, v, hes, hp, hk⟩ | ⟨hq, _⟩⟩ | ⟨es, v, hes, hp, hk⟩
        · refine ⟨_, rfl, hk, fun s a C w hs hm hC => ?_⟩
          have e1 := (hs.eval h1).1
          have e2 := (getsR_out hs hvs).1
          have m1 : c.args.map a.eval = (vs.map (ren s)).toArray := by apply Array.ext'; simpa using e2
          refine quiet_enter (g := g) (args := (as.map (ren s)).toArray) ?_ ?_
          · simp only [execOp, ho, resolve_value hc, m1, e1]
            exact tgt_run htg hg s w
          · rw [toExts_out hes, ren_exts]
            exact pureC_calls hp hm hC
        · cases hq
        · refine ⟨_, rfl, hk, fun s a C w hs hm hC => q_val ?_⟩
          have e1 := (hs.eval h1).1
          have e2 := (getsR_out hs hvs).1
          have m1 : c.args.map a.eval = (vs.map (ren s)).toArray := by apply Array.ext'; simpa using e2
          simp only [execOp, ho, resolve_value hc, m1, e1]
          refine (tgt_run0 htg s w).trans ?_
          rw [toExts_out hes, ren_exts]
          exact hp w
    · rename_i recv name hc
      obtain ⟨r, h1, h⟩ := getX_out h
      obtain ⟨vs, h2, h⟩ := getsX_out h
      obtain ⟨g, es, v, hg, hp, hk⟩ := h
      refine ⟨_, rfl, hk, fun s a C w hs hm hC => ?_⟩
      have e1 := (hs.eval h1).1
      simp only [ren] at e1
      have k1 := hs.evals h2
      have m1 : c.args.map a.eval = vs.toArray := by apply Array.ext'; simpa using k1
      refine quiet_enter (g := g) (args := es) ?_ ?_
      · simp only [execOp, ho, resolve, hc, m1, e1, pure_bind]
        exact hg w
      · simpa [ren] using pureC_calls hp hm hC
  all_goals first | (obtain ⟨hq, _⟩ := h; cases hq; done) | exact h.elim
end
end R
end Go.Proofs.Ytflljnaojghifaa
