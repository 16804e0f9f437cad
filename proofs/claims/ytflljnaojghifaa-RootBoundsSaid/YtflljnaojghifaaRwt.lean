/- The walk over a small state: every operation, a region, a body. -/
import Derived.Test.YtflljnaojghifaaRws
import Derived.Laws.AppendOwn
import Derived.Great.BuildSlice
namespace Go.Proofs.Ytflljnaojghifaa
open Go Go.RowKit
namespace R

section
variable {P : Program} {o : Oper} {a : Act} {w w0 : World} {s : Nat → Nat} {S : St} {bs : List Nat} {n : Nat} {ds : List Deferred}

theorem Rep.sl (h : Rep bs w0 n ds s S a w) : Sl s S a := h.slot

theorem flat_ren (s : Nat → Nat) (v : RV) : (flat v).map (ren s) = (ren s v).cells.toList := by
  cases v with
  | ext v => simp [flat, ren, Function.comp_def]
  | _ => simp [flat, ren, Value.cells]

theorem flat_clo {m : Nat} {v : RV} (h : clo m v = true) : ∀ u ∈ flat v, clo m u = true := by
  cases v with
  | ext v => intro u hu; simp only [flat, List.mem_map] at hu; obtain ⟨_, _, rfl⟩ := hu; rfl
  | _ => intro u hu; simp only [flat, List.mem_singleton] at hu; subst hu; exact h

theorem one_ren (s : Nat → Nat) {v : RV} (h : one v = true) : (ren s v).oneCell' = true := by
  cases v with
  | ext v => exact h
  | _ => rfl

theorem Rep.pure (h : Rep bs w0 n ds s S a w) {v : RV} (hd : ∀ i, o.dst = some i → i < n) (hv : clo S.m.length v = true) : Rep bs w0 n ds s (S.put o.dst v) (a.put o.dst (ren s v)) w := h.put hd hv

/-- Behind a call. -/
theorem Rep.call (h : Rep bs w0 n ds s S a w) {S' : St} {w' : World} (ht : S'.t = S.t) (hl : S'.m.length = S.m.length) (hm : Mem s S'.m S'.x w')
    (hf : Fr ((List.range S.m.length).map s) w w') : Rep bs w0 n ds s S' a w' := by
  refine ⟨hm, ?_, ?_, h.size, ?_, h.df⟩
  · intro k hk; exact h.own k (by omega)
  · refine ⟨hf.os.trans h.fr.os, hf.tape.trans h.fr.tape, hf.output.trans h.fr.output, Nat.le_trans h.fr.size hf.size, fun k hk hn => ?_⟩
    rw [hf.block k (Nat.lt_of_lt_of_le hk h.fr.size) ?_]
    · exact h.fr.block k hk hn
    · intro hin
      obtain ⟨j, hj, rfl⟩ := List.mem_map.1 hin
      rcases h.own j (by simpa using hj) with h1 | h1
      · exact hn h1
      · omega
  · intro i v hi
    rw [ht] at hi
    obtain ⟨h1, h2⟩ := h.slot i v hi
    exact ⟨h1, by rw [hl]; exact h2⟩

theorem wp_val {next : Act → World → Prop} {Q : Exit → Act → World → Prop} {v : Value} {w' : World} (h : (execOp a.eval o).run P w = .ok (.value v) w') (hn : next (a.put o.dst v) w') : o.wp P a w next Q := by
  unfold Oper.wp
  rw [h]
  exact hn

theorem wp_skp {next : Act → World → Prop} {Q : Exit → Act → World → Prop} {w' : World} (h : (execOp a.eval o).run P w = .ok .skip w') (hn : next (a.put o.dst undef) w') : o.wp P a w next Q := by
  unfold Oper.wp
  rw [h]
  exact hn

theorem set_heap {o' : Obj} {b : Nat} (hb : b < w.heap.size) (j : Nat) : (w.heap.setIfInBounds b o')[j]? = if j = b then some o' else w.heap[j]? := by
  rw [Array.getElem?_setIfInBounds]
  by_cases h : b = j
  · subst h; simp [hb]
  · rw [if_neg h, if_neg (fun e => h e.symm)]

theorem one_cells (s : Nat → Nat) {v : RV} (h : one v = true) : (ren s v).cells = #[ren s v] := by
  cases v with
  | ext u => cases u <;> first | rfl | (exact absurd h (by simp [one, Value.oneCell']))
  | _ => rfl
theorem zip_range {α : Type} (l : List α) : (List.range l.length).zip l = (l.zipIdx 0).map fun x => (x.2, x.1) := by
  exact List.ext_getElem (by simp) fun i h1 h2 => by simp
theorem lenW_quiet {q : Bool} {ts : Array TypeId} {b : Builtin} {rs : List RV} {K : RV → St → Prop} {A : Prop} (hb : b ≠ .append) (h : lenW P q S ts b rs K A) : lenW P true S ts b rs K A := by
  unfold lenW at h ⊢
  split at h
  · exact h
  · exact absurd rfl hb
  · exact absurd rfl hb
  · exact h

/-- What is appended, in the world. -/
theorem newsW_out (hm : Mem s S.m S.x w) {z : Nat} {y : RV} {K : Nat → List RV → Prop} (h : newsW S z y K) :
    ∃ ad m cap news, ren s y = .slice (some ad) m cap ∧ news.length = m * z ∧ (∀ j u, (news.map (ren s))[j]? = some u → w.cell? (ad.add j) = some u) ∧ (∀ u ∈ news.map (ren s), u.oneCell' = true) ∧ news.all (clo S.m.length) = true ∧ K m news := by
  unfold newsW at h
  split at h
  · rename_i j off m cap
    obtain ⟨T, c, hj, hl, h1, h⟩ := h
    have hb := hm.mem j _ hj
    have hc := hm.cm j _ hj
    simp only [renO] at hb
    simp only [cloO, List.all_eq_true] at hc
    refine ⟨⟨s j, off, none⟩, m, cap, _, rfl, by simp; omega, ?_, ?_, ?_, h⟩
    · intro i u hu
      rw [Addr.add_lit, cell_of_row w _ _ _ _ _ hb]
      rw [List.getElem?_map, List.getElem?_take] at hu
      split at hu
      · rw [List.getElem?_drop] at hu
        simpa using hu
      · simp at hu
    · intro u hu
      obtain ⟨v, hv, rfl⟩ := List.mem_map.1 hu
      exact one_ren s (List.all_eq_true.1 h1 v hv)
    · exact List.all_eq_true.2 fun v hv => hc v (List.mem_of_mem_drop (List.mem_of_mem_take hv))
  · rename_i b off m cap
    obtain ⟨l, hl, h1, h⟩ := h
    refine ⟨⟨b, off, none⟩, m, cap, _, rfl, by simpa using hl, ?_, ?_, by simp [clo], h⟩
    · intro i u hu
      rw [ren_exts] at hu
      obtain ⟨_, c, T, f, hx, hc⟩ := h1 i u hu
      rw [Addr.add_lit, cell_of_row w _ _ _ _ _ (hm.ext b _ hx)]
      exact hc
    · intro u hu
      rw [ren_exts] at hu
      obtain ⟨i, hi⟩ := List.getElem?_of_mem hu
      exact (h1 i u hi).1
  · exact h.elim

set_option maxHeartbeats 1000000 in
theorem app_sound {K : RV → St → Prop} {ts : Array TypeId} {ty : TypeId} {x y : RV} (hr : Rep bs w0 n ds s S a w) (hx : clo S.m.length x = true) (h : appW P S ts x y K) :
    ∃ v' w' s' S', (Builtin.append_ ts ty #[ren s x, ren s y]).run P w = .ok (ren s' v') w' ∧ (∀ k, k < S.m.length → s' k = s k) ∧ clo S'.m.length v' = true ∧ Rep bs w0 n ds s' S' a w' ∧ K v' S' := by
  obtain ⟨e, zs, bytes, hz, h⟩ := h
  obtain ⟨t, i, v, rfl, hu, hi, hv, hs, hpos, rfl, rfl⟩ := appS_out hz
  have hzl : v.cells.toList.length = i.size := by simpa using hs
  rcases h with ⟨⟨ay, cy, rfl⟩, h⟩ | h
  · rcases h with ⟨rfl, hk⟩ | ⟨k, nn, cap, rfl, hc, hk⟩
    · refine ⟨_, w, s, S, ?_, fun _ _ => rfl, hx, hr, hk⟩
      cases ay <;> simp [ren, Builtin.append_, run_underlying hu, sizeOf, typeInfo, hi, Builtin.lenOf, Builtin.firstCells, loadCells, loadCellsFrom]
    · refine ⟨_, w, s, S, ?_, fun _ _ => rfl, hx, hr, hk⟩
      cases ay <;> simp [ren, Builtin.append_, run_underlying hu, sizeOf, typeInfo, hi, Builtin.lenOf, Builtin.firstCells, hc, storeCells, loadCells, loadCellsFrom]
  · obtain ⟨ad, m, cap, news, hy, hnl, hn1, hn2, hn3, h⟩ := newsW_out hr.mr h
    rw [hy]
    rw [hzl] at hnl
    have hnl' : (news.map (ren s)).length = m * i.size := by simpa using hnl
    have hd : Rep bs w0 n ds s S a w.drew := hr.step (hr.mr.keep (Fr.drew [] w)) (Fr.drew bs w)
    have hcn := List.all_eq_true.1 hn3
    have grow : ∀ (c : List RV) (cap' : Nat), (∀ u ∈ c, clo S.m.length u = true) → Rep bs w0 n ds (fun k => if k = S.m.length then w.heap.size else s k) { S with m := S.m ++ [.cells e (c ++ zrow v.cells.toList cap')] } a
        (w.drew.alloc (.cells ((c.map (ren s)).toArray ++ Builtin.zeroCells v.cells cap') e)) := by
      intro c cap' hc
      have hag : ∀ k, k < S.m.length → (fun k => if k = S.m.length then w.heap.size else s k) k = s k := fun k hk => by
        simp only [show k ≠ S.m.length by omega, if_false]
      have hal := hd.alloc (.cells e (c ++ zrow v.cells.toList cap')) (by
        simp only [cloO, List.all_append, Bool.and_eq_true, List.all_eq_true]
        refine ⟨fun u hu => clo_mono (Nat.le_succ _) (hc u hu), fun u hu => ?_⟩
        unfold zrow at hu
        obtain ⟨_, _, rfl⟩ := List.mem_map.1 hu
        rfl)
      have e1 : renO (fun k => if k = S.m.length then w.drew.heap.size else s k) (.cells e (c ++ zrow v.cells.toList cap')) = .cells ((c.map (ren s)).toArray ++ Builtin.zeroCells v.cells cap') e := by
        simp only [renO, List.map_append]
        congr 1
        apply Array.ext'
        simp only [Array.toList_append]
        congr 1
        · exact List.map_congr_left fun u hu => ren_congr hag (hc u hu)
        · unfold zrow
          rw [ren_exts, Array.toArray_toList]
      rw [e1] at hal
      exact hal
    rcases h with ⟨rfl, hm, hml, hmb, h⟩ | ⟨rfl, rfl, hk⟩ | ⟨k, nn, cap2, c, rfl, hmk, hnc, h1, h2⟩
    · have hge := grownCap_ge w m 0 e
      have hle := grownCap_le_maxLen w m 0 e hml
      have hr2 := run_append_nil (P := P) w t ty e i v hu hi hv ad m cap (news.map (ren s)) hnl' hn1 hm (by simp only [maxLen] at hml; omega) (by omega)
      refine ⟨.sl S.m.length 0 m (grownCap w m 0 e), _, _, _, hr2.trans ?_, fun k hk => if_neg (Nat.ne_of_lt hk), by simp [clo], grow news (grownCap w m 0 e - m) hcn, h _ hge hle⟩
      simp [ren]
    · have hn : news = [] := List.eq_nil_of_length_eq_zero (by simpa using hnl)
      subst hn
      refine ⟨_, w, s, S, ?_, fun _ _ => rfl, hx, hr, hk⟩
      simp [ren, Builtin.append_, run_underlying hu, sizeOf, typeInfo, hi, Builtin.lenOf, Builtin.firstCells, loadCells, loadCellsFrom]
    · rw [hzl] at hnc h1 h2
      have hk : k < S.m.length := (List.getElem?_eq_some_iff.1 hmk).1
      have hb := hr.mr.mem k _ hmk
      have hc := hr.mr.cm k _ hmk
      simp only [renO] at hb
      simp only [cloO, List.all_eq_true] at hc
      by_cases hroom : nn + m ≤ cap2
      · obtain ⟨h3, h4⟩ := h1 hroom
        have hr2 := run_append_room (P := P) w t ty e i hu hi (s k) nn cap2 (c.map (ren s)).toArray hb ad m cap (news.map (ren s)) hnl' hn1 hn2 hroom (by simpa using h3)
        have hnew : ((c.map (ren s)).toArray.toList.take (nn * i.size) ++ news.map (ren s) ++ (c.map (ren s)).toArray.toList.drop (nn * i.size + (news.map (ren s)).length)).toArray
            = ((c.take (nn * i.size) ++ news ++ c.drop (nn * i.size + news.length)).map (ren s)).toArray := by
          simp [List.map_take, List.map_drop]
        rw [hnew] at hr2
        have hset := hr.set (o := .cells e (c.take (nn * i.size) ++ news ++ c.drop (nn * i.size + news.length))) (w' := w.setRow (s k) ((c.take (nn * i.size) ++ news ++ c.drop (nn * i.size + news.length)).map (ren s)).toArray) hk (by
            simp only [cloO, List.all_append, Bool.and_eq_true, List.all_eq_true]
            exact ⟨⟨fun u hu => hc u (List.mem_of_mem_take hu), fun u hu => hcn u hu⟩, fun u hu => hc u (List.mem_of_mem_drop hu)⟩)
          (setRow_size _ _ _) (fun j => by
            by_cases e' : j = s k
            · subst e'; rw [if_pos rfl, setRow_heap w _ _ _ e (0, 0) hb]; rfl
            · rw [if_neg e', setRow_other w _ _ _ e']) rfl rfl rfl
        exact ⟨.sl k 0 (nn + m) cap2, _, s, _, hr2, fun _ _ => rfl, by simp [clo, hk], hset, h4⟩
      · obtain ⟨h3, h4, h5⟩ := h2 (by omega)
        have hge := grownCap_ge w (nn + m) cap2 e
        have hle := grownCap_le_maxLen w (nn + m) cap2 e h3
        have hr2 := run_append_grow (P := P) w t ty e i v hu hi hv ⟨s k, 0, none⟩ nn cap2 ((c.take (nn * i.size)).map (ren s)) (by simp; omega) (by
          intro j u hj
          rw [Addr.add_lit, cell_of_row w _ _ _ _ _ hb]
          rw [List.getElem?_map, List.getElem?_take] at hj
          split at hj
          · simpa using hj
          · simp at hj) ad m cap (news.map (ren s)) hnl' hn1 (by omega) (by simp only [maxLen] at h3; omega) (growslice_fits (by omega) h4)
        refine ⟨.sl S.m.length 0 (nn + m) (grownCap w (nn + m) cap2 e), _, _, _, hr2.trans ?_, fun k hk => if_neg (Nat.ne_of_lt hk), by simp [clo], grow (c.take (nn * i.size) ++ news) (grownCap w (nn + m) cap2 e - (nn + m)) ?_, h5 _ hge hle⟩
        · simp [ren]
        · intro u hu
          rcases List.mem_append.1 hu with hu | hu
          · exact hc u (List.mem_of_mem_take hu)
          · exact hcn u hu

set_option maxHeartbeats 1000000 in
theorem opW_sound {K : RV → St → Prop} {Pn : Value → St → Prop} {next : Act → World → Prop} {Q : Exit → Act → World → Prop} (hr : Rep bs w0 n ds s S a w)
    (h : opW P false S o K Pn)
    (hK : ∀ s' v S' w', (∀ k, k < S.m.length → s' k = s k) → clo S'.m.length v = true → Rep bs w0 n ds s' S' a w' → K v S' → next (a.put o.dst (ren s' v)) w')
    (hP : ∀ u s' S' w', Rep bs w0 n ds s' S' a w' → Pn u S' → Q (.panic [{ v := u, recovered := false }]) a w') : o.wp P a w next Q := by
  have quiet : opW P true S o K Pn → o.wp P a w next Q := by
    intro h
    obtain ⟨v, h1, h2, h3⟩ := opW_quiet hr.sl hr.mr h
    refine Oper.wp_of_quiet (C := fun w' => Mem s S.m S.x w' ∧ Fr [] w w') (K := fun a' => a' = a.put o.dst (ren s v)) ⟨hr.mr, Fr.refl _ _⟩ ?_
      ⟨ren s v, fun w' hw' => h3 s a _ w' hr.sl hw'.1 (fun w2 hw2 => ⟨hw'.1.keep hw2, hw'.2.trans hw2⟩), rfl⟩
    rintro a' w' ⟨hm, hf⟩ rfl
    exact hK s v S w' (fun _ _ => rfl) h1 (hr.step hm (hf.mono (by simp))) h2
  cases hop : o.op
  case alloc T =>
    unfold opW at h
    simp only [hop] at h
    obtain ⟨_, h⟩ := h
    obtain ⟨zs, hz, h⟩ := bindV_out h
    unfold tyZ at hz
    split at hz
    · rename_i i hi
      split at hz
      · rename_i v hv
        simp only [Option.some.injEq] at hz
        subst hz
        have hal := hr.alloc (.cells T (v.cells.toList.map .ext)) (by simp [cloO, clo])
        simp only [renO, ren_exts, Array.toArray_toList] at hal
        refine wp_val (v := .pointer (some ⟨w.heap.size, 0, none⟩)) (w' := w.alloc (.cells v.cells T)) ?_ ?_
        · simp [execOp, hop, Instr.alloc, zeroValue, typeInfo, hi, hv, newVar, newRow]
        · have := hK _ (.ptr S.m.length 0) _ _ (fun k hk => if_neg (Nat.ne_of_lt hk)) (by simp [clo]) hal h
          simpa [ren] using this
      · cases hz
    · cases hz
  case box T x =>
    unfold opW at h
    simp only [hop] at h
    obtain ⟨_, h⟩ := h
    obtain ⟨v, h1, h⟩ := get_out h
    obtain ⟨e1, e2⟩ := hr.sl.eval h1
    have hag : ∀ k, k < S.m.length → (fun k => if k = S.m.length then w.heap.size else s k) k = s k := fun k hk => by
      simp only [show k ≠ S.m.length by omega, if_false]
    have hal := hr.alloc (.cells T (flat v)) (by
      simp only [cloO, List.all_eq_true]
      exact fun u hu => clo_mono (Nat.le_succ _) (flat_clo e2 u hu))
    simp only [renO, flat_ren, Array.toArray_toList, ren_congr hag e2] at hal
    refine wp_val (v := .pointer (some ⟨w.heap.size, 0, none⟩)) (w' := w.alloc (.cells (ren s v).cells T)) ?_ ?_
    · simp [execOp, hop, Instr.box, newVar, newRow, e1]
    · have := hK _ (.ptr S.m.length 0) _ _ (fun k hk => if_neg (Nat.ne_of_lt hk)) (by simp [clo]) hal h
      simpa [ren] using this
  case buildSlice t len parts =>
    unfold opW at h
    simp only [hop] at h
    obtain ⟨_, h⟩ := h
    obtain ⟨rs, hrs, h⟩ := bindV_out h
    obtain ⟨e1, e2⟩ := getsR_out hr.sl hrs
    rcases h with ⟨vs, hvs, elem, cells, len', cap', h2, h⟩ | ⟨e, i, z, hu, hi, hs, hz, hzs, hpos, hmx, hidx, hlen, hone, h⟩
    · rw [toExts_out hvs, ren_exts] at e1
      have hal := hr.alloc (.cells elem (cells.toList.map .ext)) (by simp [cloO, clo])
      simp only [renO, ren_exts, Array.toArray_toList] at hal
      refine wp_val (v := .slice (some ⟨w.heap.size, 0, none⟩) len' cap') (w' := w.alloc (.cells cells elem)) ?_ ?_
      · simp [execOp, hop, zip_parts parts a.eval, e1, h2]
      · have := hK _ (.sl S.m.length 0 len' cap') _ _ (fun k hk => if_neg (Nat.ne_of_lt hk)) (by simp [clo]) hal h
        simpa [ren] using this
    · have hag : ∀ k, k < S.m.length → (fun k => if k = S.m.length then w.heap.size else s k) k = s k := fun k hk => by
        simp only [show k ≠ S.m.length by omega, if_false]
      have hal := hr.alloc (.cells e rs) (by
        simp only [cloO, List.all_eq_true]
        exact fun u hu => clo_mono (Nat.le_succ _) (e2 u hu))
      have e3 : renO (fun k => if k = S.m.length then w.heap.size else s k) (.cells e rs) = .cells (rs.map (ren s)).toArray e := by
        simp only [renO]
        congr 2
        exact List.map_congr_left fun u hu => ren_congr hag (e2 u hu)
      rw [e3] at hal
      have hl2 : (rs.map (ren s)).length = len := by simpa using hlen
      have hf : Instr.fill (fun i' => some (i' * i.size, i.size)) ((Array.range (len * i.size)).map (z.cells[· % z.cells.size]!)) ((List.range len).zip (rs.map (ren s))).toArray.toList = some (rs.map (ren s)).toArray := by
        rw [hs, ← hl2, zip_range]
        exact Great.fill_flat _ _ (fun v hv => by
          obtain ⟨u, hu, rfl⟩ := List.mem_map.1 hv
          exact one_cells s (List.all_eq_true.1 hone u hu)) (by simp)
      refine wp_val (v := .slice (some ⟨w.heap.size, 0, none⟩) len len) (w' := w.alloc (.cells (rs.map (ren s)).toArray e)) ?_ ?_
      · have hrun := run_buildSlice (P := P) w t e len ((List.range len).zip (rs.map (ren s))).toArray _ i z hu hi hz (by rw [hs]; omega) (by rw [hs]; omega) hf
        simp [execOp, hop, zip_parts parts a.eval, e1, hidx, hrun]
      · have := hK _ (.sl S.m.length 0 len len) _ _ (fun k hk => if_neg (Nat.ne_of_lt hk)) (by simp [clo]) hal h
        simpa [ren] using this
  case makeSlice t l c =>
    unfold opW at h
    simp only [hop] at h
    obtain ⟨_, h⟩ := h
    obtain ⟨u1, h1, h⟩ := getX_out h
    obtain ⟨u2, h2, elem, cells, len', cap', h3, h⟩ := getX_out h
    have hal := hr.alloc (.cells elem (cells.toList.map .ext)) (by simp [cloO, clo])
    simp only [renO, ren_exts, Array.toArray_toList] at hal
    have e1 := (hr.sl.eval h1).1
    have e2 := (hr.sl.eval h2).1
    simp only [ren] at e1 e2
    refine wp_val (v := .slice (some ⟨w.heap.size, 0, none⟩) len' cap') (w' := w.alloc (.cells cells elem)) ?_ ?_
    · simp [execOp, hop, e1, e2, h3]
    · have := hK _ (.sl S.m.length 0 len' cap') _ _ (fun k hk => if_neg (Nat.ne_of_lt hk)) (by simp [clo]) hal h
      simpa [ren] using this
  case store T x y =>
    unfold opW at h
    simp only [hop] at h
    obtain ⟨_, h⟩ := h
    obtain ⟨p, h1, h⟩ := get_out h
    obtain ⟨v, h2, h⟩ := get_out h
    obtain ⟨e1, e2⟩ := hr.sl.eval h1
    obtain ⟨f1, f2⟩ := hr.sl.eval h2
    obtain ⟨z, hty, h⟩ := bindV_out h
    obtain ⟨g, z⟩ := z
    unfold storeW at h
    cases p with
    | ptr k off =>
      simp only at h
      obtain ⟨ob, hmk, h⟩ := bindV_out h
      rw [nthX_eq] at hmk
      unfold cellW at h
      cases ob with
      | cells T' c =>
        simp only at h
        obtain ⟨c', hput, h⟩ := bindV_out h
        obtain ⟨⟨g1, g3, gz⟩, h⟩ := h
        rw [setX_eq] at h
        have hk : k < S.m.length := (List.getElem?_eq_some_iff.1 hmk).1
        have hb := hr.mr.mem k _ hmk
        have hc := hr.mr.cm k _ hmk
        simp only [cloO, List.all_eq_true] at hc
        simp only [renO] at hb
        have hput' : off + z ≤ c.length ∧ c' = c.take off ++ flat v ++ c.drop (off + z) := by
          rcases putX_out hput with ⟨h5, _⟩ | ⟨h5, h6⟩
          · rw [h5] at g1; simp at g1; omega
          · rw [g1] at h5 h6; exact ⟨h5, h6⟩
        obtain ⟨g2, rfl⟩ := hput'
        have hz : (P.info? T).map (·.size) = some z := by
          unfold tyS at hty
          split at hty
          · rename_i d i hd hi
            simp only [Option.some.injEq, Prod.mk.injEq] at hty
            simp [hi, hty.2]
          · cases hty
        obtain ⟨i, hi, hsz⟩ := Option.map_eq_some_iff.1 hz
        have hcl : (ren s v).cells.toList.length = z := by rw [← flat_ren s v, List.length_map, g1]
        have hst := run_storeCells_at (P := P) (s k) off T' (ren s v).cells.toList 0 (c.map (ren s)).toArray w hb (by simp only [Nat.add_zero, hcl]; simpa using g2) (by
          intro u hu
          rw [← flat_ren s v] at hu
          obtain ⟨u', hu', rfl⟩ := List.mem_map.1 hu
          exact one_ren s (List.all_eq_true.1 g3 u' hu'))
        simp only [ren] at e1
        have hnew : ((c.map (ren s)).toArray.toList.take (off + 0) ++ (ren s v).cells.toList ++ (c.map (ren s)).toArray.toList.drop (off + 0 + (ren s v).cells.toList.length)).toArray
            = ((c.take off ++ flat v ++ c.drop (off + z)).map (ren s)).toArray := by
          rw [hcl]
          simp [flat_ren, List.map_take, List.map_drop]
        rw [hnew] at hst
        have hset := hr.set (o := .cells T' (c.take off ++ flat v ++ c.drop (off + z))) (w' := w.setRow (s k) ((c.take off ++ flat v ++ c.drop (off + z)).map (ren s)).toArray) hk (by
            simp only [cloO, List.all_append, Bool.and_eq_true, List.all_eq_true]
            exact ⟨⟨fun u hu => hc u (List.mem_of_mem_take hu), fun u hu => flat_clo f2 u hu⟩, fun u hu => hc u (List.mem_of_mem_drop hu)⟩)
          (setRow_size _ _ _) (fun j => by
            by_cases e : j = s k
            · subst e; rw [if_pos rfl, setRow_heap w _ _ _ T' (0, 0) hb]; rfl
            · rw [if_neg e, setRow_other w _ _ _ e]) rfl rfl rfl
        have hsz2 : (ren s v).cells.size = i.size := by
          rw [hsz, ← hcl]; simp
        refine wp_skp (w' := w.setRow (s k) ((c.take off ++ flat v ++ c.drop (off + z)).map (ren s)).toArray) ?_ ?_
        · simp [execOp, hop, e1, f1, Instr.storeAt, Instr.sureAddr, storeVar, sizeOf, typeInfo, hi, hsz2, hst]
        · exact hK s (.ext undef) _ _ (fun _ _ => rfl) rfl hset h
      | obj _ => exact h.elim
    | _ => exact h.elim
  case makeMap t r =>
    unfold opW at h
    cases r with
    | some r => simp only [hop] at h
    | none =>
      simp only [hop] at h
      obtain ⟨_, h⟩ := h
      have hal := hr.alloc (.obj (.map #[] 0)) rfl
      simp only [renO] at hal
      refine wp_val (v := .map (some w.heap.size)) (w' := w.alloc (.map #[] 0)) ?_ ?_
      · simp [execOp, hop, Instr.makeMap]
      · have := hK _ (.mp S.m.length) _ _ (fun k hk => if_neg (Nat.ne_of_lt hk)) (by simp [clo]) hal h
        simpa [ren] using this
  case mapUpdate T m k x =>
    unfold opW at h
    simp only [hop] at h
    obtain ⟨_, h⟩ := h
    obtain ⟨p, h1, h⟩ := get_out h
    obtain ⟨kk, h2, h⟩ := getX_out h
    obtain ⟨v, h3, h⟩ := getX_out h
    obtain ⟨e1, e2⟩ := hr.sl.eval h1
    have f1 := (hr.sl.eval h2).1
    have f2 := (hr.sl.eval h3).1
    unfold mpW at h
    cases p with
    | mp r =>
      simp only at h
      obtain ⟨ob, hmk, h⟩ := bindV_out h
      rw [nthX_eq] at hmk
      unfold objW at h
      cases ob with
      | obj ob =>
        obtain ⟨o', ho', h⟩ := h
        rw [setX_eq] at h
        have hk : r < S.m.length := (List.getElem?_eq_some_iff.1 hmk).1
        have hb := hr.mr.mem r _ hmk
        have hset := hr.set (o := .obj o') (w' := { w with heap := w.heap.setIfInBounds (s r) o' }) hk rfl (by simp) (fun j => by
          simp only [renO]; exact set_heap (hr.mr.lt hk) j) rfl rfl rfl
        simp only [ren] at e1 f1 f2
        refine wp_skp (w' := { w with heap := w.heap.setIfInBounds (s r) o' }) ?_ ?_
        · simp [execOp, hop, e1, f1, f2, ho' (s r) w hb]
        · exact hK s (.ext undef) _ _ (fun _ _ => rfl) rfl hset h
      | cells _ _ => exact h.elim
    | _ => exact h.elim
  case insert T m k x =>
    unfold opW at h
    simp only [hop] at h
    obtain ⟨_, h⟩ := h
    obtain ⟨p, h1, h⟩ := get_out h
    obtain ⟨kk, h2, h⟩ := getX_out h
    obtain ⟨v, h3, h⟩ := getX_out h
    obtain ⟨e1, e2⟩ := hr.sl.eval h1
    have f1 := (hr.sl.eval h2).1
    have f2 := (hr.sl.eval h3).1
    unfold mpW at h
    cases p with
    | mp r =>
      simp only at h
      obtain ⟨ob, hmk, h⟩ := bindV_out h
      rw [nthX_eq] at hmk
      unfold objW at h
      cases ob with
      | obj ob =>
        obtain ⟨o', ho', h⟩ := h
        rw [setX_eq] at h
        have hk : r < S.m.length := (List.getElem?_eq_some_iff.1 hmk).1
        have hb := hr.mr.mem r _ hmk
        have hset := hr.set (o := .obj o') (w' := { w with heap := w.heap.setIfInBounds (s r) o' }) hk rfl (by simp) (fun j => by
          simp only [renO]; exact set_heap (hr.mr.lt hk) j) rfl rfl rfl
        simp only [ren] at e1 f1 f2
        refine wp_skp (w' := { w with heap := w.heap.setIfInBounds (s r) o' }) ?_ ?_
        · simp [execOp, hop, e1, f1, f2, ho' (s r) w hb]
        · exact hK s (.ext undef) _ _ (fun _ _ => rfl) rfl hset h
      | cells _ _ => exact h.elim
    | _ => exact h.elim
  case panic x =>
    unfold opW at h
    simp only [hop] at h
    obtain ⟨_, h⟩ := h
    obtain ⟨v, h1, h3⟩ := getX_out h
    have e1 := (hr.sl.eval h1).1
    simp only [ren] at e1
    unfold ifaceW at h3
    cases v with
    | iface t u =>
      unfold Oper.wp
      have : (execOp a.eval o).run P w = .halt (.panic (.iface t u)) w := by simp [execOp, hop, e1, Instr.panic]
      rw [this]
      exact hP (.iface t u) s S w hr h3
    | _ => exact h3.elim
  case call c =>
    cases hc : c.callee with
    | builtin b =>
      by_cases hb : b = .append
      · subst hb
        unfold opW at h
        simp only [hop, hc] at h
        obtain ⟨rs, hrs, h⟩ := bindV_out h
        obtain ⟨e1, e2⟩ := getsR_out hr.sl hrs
        have m1 : c.args.map a.eval = (rs.map (ren s)).toArray := by apply Array.ext'; simpa using e1
        unfold lenW at h
        split at h
        · rename_i heq; cases heq
        · rename_i x y _
          obtain ⟨_, h⟩ := h
          obtain ⟨v', w', s', S', hrun, hag, hcl, hrep, hk⟩ := app_sound (ty := o.type) hr (e2 x (by simp)) h
          refine wp_val (v := ren s' v') (w' := w') ?_ (hK s' v' S' w' hag hcl hrep hk)
          simp only [List.map_cons, List.map_nil] at m1
          simp [execOp, hop, resolve, hc, invoke, builtin, m1, hrun]
        · exact h.elim
        · exact absurd (rfl : Builtin.append = Builtin.append) (by assumption)
      · refine quiet ?_
        unfold opW at h ⊢
        simp only [hop, hc] at h ⊢
        obtain ⟨rs, hrs, h⟩ := bindV_out h
        rw [hrs, bindV_some]
        exact lenW_quiet hb h
    | invoke r m => exact quiet (by unfold opW at h ⊢; simp only [hop, hc] at h ⊢; exact h)
    | value f =>
      unfold opW at h
      simp only [hop, hc] at h
      obtain ⟨fv, h1, h2⟩ := get_out h
      obtain ⟨vs, hvs, h2⟩ := bindV_out h2
      · have hq : opW P true S o K Pn ∨ ∃ g as, tgt fv vs = some (g, as) ∧ goes P g ∧ GenC P S g as K Pn := by
          unfold callW at h2
          split at h2
          · exact h2.elim
          · rename_i g as htg
            rcases h2 with ⟨hg, h2 | ⟨_, h2⟩⟩ | h2
            · refine .inl ?_
              unfold opW
              simp only [hop, hc]
              unfold gv
              rw [h1, bindV_some, hvs, bindV_some, htg]
              exact .inl ⟨hg, .inl h2⟩
            · exact .inr ⟨g, as, htg, hg, h2⟩
            · refine .inl ?_
              unfold opW
              simp only [hop, hc]
              unfold gv
              rw [h1, bindV_some, hvs, bindV_some, htg]
              exact .inr h2
        rcases hq with hq | ⟨g, as, htg, hg, hgen⟩
        · exact quiet hq
        · have e1 := (hr.sl.eval h1).1
          have e2 := (getsR_out hr.sl hvs).1
          have m1 : c.args.map a.eval = (vs.map (ren s)).toArray := by apply Array.ext'; simpa using e2
          unfold Oper.wp
          have hrun : (execOp a.eval o).run P w = .ok (.enter g (as.map (ren s)).toArray) w := by
            simp only [execOp, hop, resolve_value hc, m1, e1]
            exact tgt_run htg hg s w
          rw [hrun]
          simp only [Oper.upon]
          refine (hgen s w hr.mr).mono ?_
          rintro e w' ⟨hf, h⟩
          rcases h with ⟨v, S', rfl, hv, ht, hl, hm, hk⟩ | ⟨v, S', rfl, ht, hl, hm, hk⟩
          · exact hK s v S' w' (fun _ _ => rfl) (by rw [hl]; exact hv) (hr.call ht hl hm hf) hk
          · exact hP v s S' w' (hr.call ht hl hm hf) hk
  all_goals first | (exact quiet (by unfold opW at h ⊢; simp only [hop] at h ⊢; exact h)) | (unfold opW at h; simp only [hop] at h; done)

end
end R
end Go.Proofs.Ytflljnaojghifaa
