/- Calls that hand back new memory of which only a law is told; and slices under way. -/
import Derived.Test.YtflljnaojghifaaRwn
namespace Go.Proofs.Ytflljnaojghifaa
open Go Go.RowKit
namespace R
set_option linter.unusedVariables false

/-- What the state's own memory is, in the world. -/
def xOwn (m : List RO) (s : Nat → Nat) : Nat → Obj → Prop := fun b o => ∃ k o1, m[k]? = some o1 ∧ b = s k ∧ o = renO s o1

/-- A function's results, as one value. -/
def retV : List Value → Value
  | [v] => v
  | vs => .tuple vs.toArray

/-- A call that hands back what R tells, over new memory. -/
structure RetE (P : Program) (x : Nat → Obj → Prop) (g : FuncId) (args : List Value) (R : Value → (Nat → Obj → Prop) → Prop) : Prop where
  out : ∀ w, (∀ b o, x b o → w.heap[b]? = some o) → Calls P g args.toArray w fun e w' => ∃ v x', e = .returned v ∧ R v x' ∧ (∀ b o, x' b o → w'.heap[b]? = some o ∧ w.heap.size ≤ b) ∧ Fr [] w w'

theorem callE' {P : Program} {S : St} {g : FuncId} {as : List RV} {R : Value → (Nat → Obj → Prop) → Prop} {K : RV → St → Prop} {Pn : Value → St → Prop} (hg : goes P g)
    (hr : ∀ s : Nat → Nat, RetE P (xAll S s) g (as.map (ren s)) R)
    (h : ∀ (v : Value) (x' x'' : Nat → Obj → Prop), R v x' → xsub S.x x'' → xsub x' x'' → K (.ext v) ⟨S.t, S.m, x''⟩) : callW P false S (some (g, as)) K Pn := by
  refine .inl ⟨hg, .inr ⟨rfl, fun s w hm => ?_⟩⟩
  refine ((hr s).out w ?_).mono fun e w' ⟨v, x', h1, h2, h3, h4⟩ => ?_
  · rintro b o (hb | ⟨j, o1, hj, rfl, rfl⟩)
    · exact hm.ext b o hb
    · exact hm.mem j o1 hj
  refine ⟨h4.mono (by simp), .inl ⟨.ext v, ⟨S.t, S.m, fun b o => S.x b o ∨ x' b o⟩, h1, rfl, rfl, rfl, ?_, h v x' _ h2 (fun b o hb => .inl hb) (fun b o hb => .inr hb)⟩⟩
  have k := hm.keep h4
  refine ⟨k.mem, k.inj, k.cm, ?_, ?_⟩
  · rintro b o (hb | hb)
    · exact k.ext b o hb
    · exact (h3 b o hb).1
  · rintro b o (hb | hb) i hi
    · exact k.apart b o hb i hi
    · have := (h3 b o hb).2
      have := hm.lt hi
      omega

theorem callE {P : Program} {S : St} {g : FuncId} {as : List RV} {es : List Value} {R : Value → (Nat → Obj → Prop) → Prop} {K : RV → St → Prop} {Pn : Value → St → Prop} (hg : goes P g) (he : toExts as = some es)
    (hr : RetE P S.x g es R)
    (h : ∀ (v : Value) (x' x'' : Nat → Obj → Prop), R v x' → xsub S.x x'' → xsub x' x'' → K (.ext v) ⟨S.t, S.m, x''⟩) : callW P false S (some (g, as)) K Pn := by
  refine callE' hg (fun s => ?_) h
  have e := toExts_out he
  subst e
  rw [ren_exts]
  exact ⟨fun w hx => hr.out w fun b o hb => hx b o (.inl hb)⟩

/-- A body that hands back what R tells. -/
def BackE (P : Program) (fn : Func) (R : Value → (Nat → Obj → Prop) → Prop) : Exit → St → Prop
  | .normal, S => resL P S fn.results.toList (fun vs => ∀ s : Nat → Nat, R (retV (vs.map (ren s))) (xOwn S.m s))
  | .ret, S => resL P S fn.results.toList (fun vs => ∀ s : Nat → Nat, R (retV (vs.map (ren s))) (xOwn S.m s))
  | _, _ => False

theorem retE_of_Sd {P : Program} {x : Nat → Obj → Prop} {f : FuncId} {fn : Func} {c : Code} {args : List Value} {R : Value → (Nat → Obj → Prop) → Prop} (hf : P.funcs[f]? = some fn) (hb : fn.body = some c) (hn : Nat.ble args.length fn.ntmps = true)
    (h : ∀ w, Sd P ⟨[], w, fn.ntmps, []⟩ c (BackE P fn R) { t := mkT 0 (args.map .ext), m := [], x }) : RetE P x f args R := by
  refine ⟨fun w hx => ?_⟩
  have := calls_of_Sd (s := fun _ => 0) (args := args.map .ext) (R := fun e w' => ∃ v x', e = .returned v ∧ R v x' ∧ (∀ b o, x' b o → w'.heap[b]? = some o ∧ w.heap.size ≤ b) ∧ Fr [] w w') (bs := []) (m := []) (x := x) hf hb (by simpa using Nat.le_of_ble_eq_true hn)
    ⟨fun k o hk => by simp at hk, fun j k hj => by simp at hj, fun k o hk => by simp at hk, hx, fun b o _ k hk => by simp at hk⟩ (fun k hk => by simp at hk) (by simp [clo]) (h w) ?_
  · rwa [ren_exts] at this
  · intro e s S a w' hr hq
    have main : resL P S fn.results.toList (fun vs => ∀ s : Nat → Nat, R (retV (vs.map (ren s))) (xOwn S.m s)) →
        ∃ v, (results fn a.tmps).run P w' = .ok v w' ∧ ∃ v' x', (Ending.returned v) = .returned v' ∧ R v' x' ∧ (∀ b o, x' b o → w'.heap[b]? = some o ∧ w.heap.size ≤ b) ∧ Fr [] w w' := by
      intro h1
      obtain ⟨vs, g1, g2, g3⟩ := results_run (fn := fn) hr.sl hr.mr h1
      refine ⟨retV (vs.map (ren s)), ?_, _, xOwn S.m s, rfl, g3 s, ?_, hr.fr⟩
      · rw [g1]
        congr 1
        match vs with
        | [] => rfl
        | [v] => rfl
        | _ :: _ :: _ => simp [retV]
      · rintro b o ⟨k, o1, hk, rfl, rfl⟩
        refine ⟨hr.mr.mem k o1 hk, ?_⟩
        rcases hr.own k (List.getElem?_eq_some_iff.1 hk).1 with h | h
        · simp at h
        · exact h
    cases e with
    | normal => obtain ⟨v, h1, h2⟩ := main hq; exact ⟨hr.df, v, h1, h2⟩
    | ret => obtain ⟨v, h1, h2⟩ := main hq; exact ⟨hr.df, v, h1, h2⟩
    | _ => exact hq.elim

/-- A row under way: so many elements of so many cells, and room. -/
structure RowIs (row : List RV) (z n cap : Nat) (L : List RV) : Prop where
  take : row.take (n * z) = L
  len : L.length = n * z
  size : row.length = cap * z
  le : n ≤ cap
  ext : ∀ v ∈ row, ∃ u, v = .ext u

theorem RowIs.room {row : List RV} {z n cap m : Nat} {L news : List RV} (h : RowIs row z n cap L) (hm : news.length = m * z) (hc : n + m ≤ cap) (he : ∀ v ∈ news, ∃ u, v = .ext u) :
    RowIs (row.take (n * z) ++ news ++ row.drop (n * z + news.length)) z (n + m) cap (L ++ news) := by
  have h1 := h.len
  have h2 := h.size
  have h3 : (n + m) * z ≤ cap * z := Nat.mul_le_mul_right _ hc
  have h4 : (n + m) * z = n * z + m * z := Nat.add_mul _ _ _
  refine ⟨?_, by rw [List.length_append]; omega, ?_, hc, ?_⟩
  · rw [h.take, List.take_left' (by rw [List.length_append]; omega)]
  · simp only [List.length_append, List.length_take, List.length_drop]
    omega
  · intro v hv
    simp only [List.mem_append] at hv
    rcases hv with (hv | hv) | hv
    · exact h.ext v (List.mem_of_mem_take hv)
    · exact he v hv
    · exact h.ext v (List.mem_of_mem_drop hv)

theorem zrow_length (zs : List Value) (k : Nat) : (zrow zs k).length = k * zs.length := by simp [zrow, Builtin.zeroCells]
theorem zrow_ext (zs : List Value) (k : Nat) : ∀ v ∈ zrow zs k, ∃ u, v = .ext u := fun v hv => by
  obtain ⟨u, _, rfl⟩ := List.mem_map.1 hv
  exact ⟨u, rfl⟩

theorem RowIs.grow {row : List RV} {z n cap m cap' : Nat} {L news : List RV} {zs : List Value} (h : RowIs row z n cap L) (hz : zs.length = z) (hm : news.length = m * z) (hc : n + m ≤ cap') (he : ∀ v ∈ news, ∃ u, v = .ext u) :
    RowIs (row.take (n * z) ++ news ++ zrow zs (cap' - (n + m))) z (n + m) cap' (L ++ news) := by
  have h1 := h.len
  have h2 := h.size
  have h4 : (n + m) * z = n * z + m * z := Nat.add_mul _ _ _
  have h5 : (cap' - (n + m)) * z + (n + m) * z = cap' * z := by rw [← Nat.add_mul]; congr 1; omega
  have h6 := zrow_length zs (cap' - (n + m))
  rw [hz] at h6
  refine ⟨?_, by rw [List.length_append]; omega, ?_, hc, ?_⟩
  · rw [h.take, List.take_left' (by rw [List.length_append]; omega)]
  · rw [h.take]
    simp only [List.length_append]
    omega
  · intro v hv
    simp only [List.mem_append] at hv
    rcases hv with (hv | hv) | hv
    · exact h.ext v (List.mem_of_mem_take hv)
    · exact he v hv
    · exact zrow_ext _ _ v hv

theorem RowIs.first {z m cap' : Nat} {news : List RV} {zs : List Value} (hz : zs.length = z) (hm : news.length = m * z) (hc : m ≤ cap') (he : ∀ v ∈ news, ∃ u, v = .ext u) :
    RowIs (news ++ zrow zs (cap' - m)) z m cap' news := by
  have h5 : (cap' - m) * z + m * z = cap' * z := by rw [← Nat.add_mul]; congr 1; omega
  have h6 := zrow_length zs (cap' - m)
  rw [hz] at h6
  refine ⟨List.take_left' hm, hm, ?_, hc, ?_⟩
  · simp only [List.length_append]
    omega
  · intro v hv
    simp only [List.mem_append] at hv
    rcases hv with hv | hv
    · exact he v hv
    · exact zrow_ext _ _ v hv

theorem RowIs.clo {row : List RV} {z n cap : Nat} {L : List RV} (h : RowIs row z n cap L) (k T : Nat) : cloO k (.cells T row) = true := by
  simp only [cloO, List.all_eq_true]
  intro v hv
  obtain ⟨u, rfl⟩ := h.ext v hv
  rfl
theorem RowIs.get {row : List RV} {z n cap : Nat} {L : List RV} (h : RowIs row z n cap L) {j : Nat} (hj : j < n * z) : row[j]? = L[j]? := by
  rw [← h.take, List.getElem?_take, if_pos hj]

/-- The two appends of what is spelled out: to nothing, and to a row of the state's own. -/
theorem app_nil {P : Program} {S : St} {ts : Array TypeId} {e bytes m k c : Nat} {zs : List Value} {T : TypeId} {row : List RV} {K : RV → St → Prop} (hs : appS P ts = some (e, zs, bytes)) (hm : 0 < m) (hmx : m ≤ maxLen ∧ m * bytes ≤ 140737488355328)
    (hk : nthX S.m k = some (.cells T row)) (hr : row.length = m * zs.length) (h1 : row.all one = true)
    (h : ∀ cap, m ≤ cap → cap ≤ maxLen → K (.sl S.m.length 0 m cap) ⟨S.t, S.m ++ [.cells e (row ++ zrow zs (cap - m))], S.x⟩) : appW P S ts (.ext (.slice none 0 0)) (.sl k 0 m c) K := by
  have e1 : (row.drop 0).take (m * zs.length) = row := by rw [List.drop_zero, List.take_of_length_le (by omega)]
  refine ⟨e, zs, bytes, hs, .inr ⟨T, row, by rw [← nthX_eq]; exact hk, by omega, by rw [e1]; exact h1, ?_⟩⟩
  rw [e1]
  exact .inl ⟨rfl, hm, hmx.1, hmx.2, h⟩
/-- What has no element is appended. -/
theorem app_zero {P : Program} {S : St} {ts : Array TypeId} {e bytes j n cap c : Nat} {a : Option Addr} {zs : List Value} {K : RV → St → Prop} (hs : appS P ts = some (e, zs, bytes)) (hn : n ≤ cap) (h : K (.sl j 0 n cap) S) : appW P S ts (.sl j 0 n cap) (.ext (.slice a 0 c)) K :=
  ⟨e, zs, bytes, hs, .inl ⟨⟨a, c, rfl⟩, .inr ⟨j, n, cap, rfl, hn, h⟩⟩⟩
/-- What came in is appended to a row without room. -/
theorem app_ext {P : Program} {S : St} {ts : Array TypeId} {e bytes m b off c j n cap : Nat} {zs : List Value} {old : List RV} {l : List Value} {K : RV → St → Prop} (hs : appS P ts = some (e, zs, bytes)) (hmx : n + m ≤ maxLen ∧ (n + m) * bytes ≤ 140737488355328)
    (hl : l.length = m * zs.length) (hx : ∀ i u, l[i]? = some u → u.oneCell' = true ∧ ∃ c T f, S.x b (.cells c T f) ∧ c[off + i]? = some u) (hj : nthX S.m j = some (.cells e old)) (ho : n * zs.length ≤ old.length) (hg : cap < n + m)
    (hgrow : ∀ cap', n + m ≤ cap' → cap' ≤ maxLen → K (.sl S.m.length 0 (n + m) cap') ⟨S.t, S.m ++ [.cells e (old.take (n * zs.length) ++ l.map .ext ++ zrow zs (cap' - (n + m)))], S.x⟩) :
    appW P S ts (.sl j 0 n cap) (.ext (.slice (some ⟨b, off, none⟩) m c)) K :=
  ⟨e, zs, bytes, hs, .inr ⟨l, hl, hx, .inr (.inr ⟨j, n, cap, old, rfl, by rw [← nthX_eq]; exact hj, ho, fun hc => absurd hc (by omega), fun _ => ⟨hmx.1, hmx.2, hgrow⟩⟩)⟩⟩
theorem app_own {P : Program} {S : St} {ts : Array TypeId} {e bytes m k c j n cap : Nat} {zs : List Value} {T : TypeId} {row old : List RV} {K : RV → St → Prop} (hs : appS P ts = some (e, zs, bytes)) (hmx : n + m ≤ maxLen ∧ (n + m) * bytes ≤ 140737488355328)
    (hk : nthX S.m k = some (.cells T row)) (hr : row.length = m * zs.length) (h1 : row.all one = true) (hj : nthX S.m j = some (.cells e old)) (ho : old.length = cap * zs.length) (hn : n ≤ cap)
    (hroom : n + m ≤ cap → K (.sl j 0 (n + m) cap) ⟨S.t, setX S.m j (.cells e (old.take (n * zs.length) ++ row ++ old.drop (n * zs.length + row.length))), S.x⟩)
    (hgrow : ∀ cap', n + m ≤ cap' → cap' ≤ maxLen → K (.sl S.m.length 0 (n + m) cap') ⟨S.t, S.m ++ [.cells e (old.take (n * zs.length) ++ row ++ zrow zs (cap' - (n + m)))], S.x⟩) : appW P S ts (.sl j 0 n cap) (.sl k 0 m c) K := by
  have e1 : (row.drop 0).take (m * zs.length) = row := by rw [List.drop_zero, List.take_of_length_le (by omega)]
  have e2 : n * zs.length ≤ cap * zs.length := Nat.mul_le_mul_right _ hn
  refine ⟨e, zs, bytes, hs, .inr ⟨T, row, by rw [← nthX_eq]; exact hk, by omega, by rw [e1]; exact h1, ?_⟩⟩
  rw [e1]
  refine .inr (.inr ⟨j, n, cap, old, rfl, by rw [← nthX_eq]; exact hj, by omega, fun hc => ⟨?_, ?_⟩, fun hc => ⟨hmx.1, hmx.2, hgrow⟩⟩)
  · have : (n + m) * zs.length ≤ cap * zs.length := Nat.mul_le_mul_right _ hc
    rw [Nat.add_mul] at this
    omega
  · have := hroom hc
    rw [setX_eq] at this
    exact this

/-- Forgetting, and giving other numbers. -/
def rvM (π : Nat → Nat) : RV → RV
  | .ext v => .ext v
  | .ptr k o => .ptr (π k) o
  | .clos f cs => .clos f (cs.map fun c => (π c.1, c.2))
  | .mp k => .mp (π k)
  | .sl k o l c => .sl (π k) o l c
theorem ren_rvM (s π : Nat → Nat) : ∀ v : RV, ren s (rvM π v) = ren (fun k => s (π k)) v
  | .ext _ => rfl
  | .ptr _ _ => rfl
  | .clos _ cs => by simp [rvM, ren, Function.comp_def]
  | .mp _ => rfl
  | .sl _ _ _ _ => rfl
def roM (π : Nat → Nat) : RO → RO
  | .cells T c => .cells T (c.map (rvM π))
  | .obj o => .obj o
theorem renO_roM (s π : Nat → Nat) : ∀ o : RO, renO s (roM π o) = renO (fun k => s (π k)) o
  | .cells T c => by
    simp only [roM, renO, List.map_map]
    congr 2
    exact List.map_congr_left fun v _ => ren_rvM s π v
  | .obj _ => rfl

def WkE (S S1 : St) : Prop := ∀ (G : Ctx) (s : Nat → Nat) (a : Act) (w : World), Rep G.bs G.w0 G.n G.ds s S a w → ∃ s', Rep G.bs G.w0 G.n G.ds s' S1 a w

def wkRL (t : List (Nat × RV)) (n : Nat) (π : Nat → Nat) : List (Nat × RV) → Prop
  | [] => True
  | p :: r => (lk t p.1 = some (rvM π p.2) ∧ clo n p.2 = true) ∧ wkRL t n π r
theorem wkRL_spec {t : List (Nat × RV)} {n : Nat} {π : Nat → Nat} : ∀ {l : List (Nat × RV)}, wkRL t n π l → ∀ i v, lk l i = some v → lk t i = some (rvM π v) ∧ clo n v = true
  | [], _, i, v, h => by simp [lk] at h
  | p :: r, hw, i, v, h => by
    rw [lk_cons] at h
    split at h
    · rename_i he
      simp only [Option.some.injEq] at h
      subst h
      rw [he]
      exact hw.1
    · exact wkRL_spec hw.2 i v h
def memRL (m : List RO) (n : Nat) (π : Nat → Nat) : Nat → List RO → Prop
  | _, [] => True
  | k, o :: r => (nthX m (π k) = some (roM π o) ∧ cloO n o = true) ∧ memRL m n π (k + 1) r
theorem memRL_spec {m : List RO} {n : Nat} {π : Nat → Nat} : ∀ {l : List RO} {k : Nat}, memRL m n π k l → ∀ (j : Nat) (o : RO), l[j]? = some o → m[π (k + j)]? = some (roM π o) ∧ cloO n o = true
  | [], _, _, j, o, h => by simp at h
  | p :: r, k, hw, 0, o, h => by
    simp only [List.getElem?_cons_zero, Option.some.injEq] at h
    subst h
    have := hw.1
    rw [nthX_eq] at this
    exact this
  | p :: r, k, hw, j + 1, o, h => by
    have := memRL_spec hw.2 j o (by simpa using h)
    rw [show k + (j + 1) = k + 1 + j by omega]
    exact this

theorem WkE_of {t t1 : List (Nat × RV)} {m m1 : List RO} {x x1 : Nat → Obj → Prop} (ps : List Nat) (hx : xsub x1 x) (ht : wkRL t m1.length (fun k => ps.getD k 0) t1) (hm : memRL m m1.length (fun k => ps.getD k 0) 0 m1) (hp : ps.Nodup) (hl : m1.length ≤ ps.length) :
    WkE ⟨t, m, x⟩ ⟨t1, m1, x1⟩ := fun G s a w hr => by
  have spec := fun k o h => by simpa using memRL_spec hm k o h
  have lt : ∀ k, k < m1.length → ps.getD k 0 < m.length := fun k hk => by
    have := (spec k m1[k] (by simp [hk])).1
    exact (List.getElem?_eq_some_iff.1 this).1
  refine ⟨fun k => s (ps.getD k 0), ⟨⟨?_, ?_, ?_, fun b o hb => hr.mr.ext b o (hx b o hb), ?_⟩, ?_, hr.fr, hr.size, ?_, hr.df⟩⟩
  · intro k o hk
    have h1 := hr.mr.mem _ _ (spec k o hk).1
    rw [renO_roM] at h1
    exact h1
  · intro j k hj hk he
    have e := hr.mr.inj _ _ (lt j hj) (lt k hk) he
    have hj' : j < ps.length := Nat.lt_of_lt_of_le hj hl
    have hk' : k < ps.length := Nat.lt_of_lt_of_le hk hl
    have ej : ps.getD j 0 = ps[j] := by simp [hj']
    have ek : ps.getD k 0 = ps[k] := by simp [hk']
    rw [ej, ek] at e
    exact (List.getElem_inj hp).1 e
  · intro k o hk
    exact (spec k o hk).2
  · intro b o hb k hk
    exact hr.mr.apart b o (hx b o hb) _ (lt k hk)
  · intro k hk
    exact hr.own _ (lt k hk)
  · intro i v hi
    obtain ⟨h1, h2⟩ := wkRL_spec ht i v hi
    have := (hr.slot i _ h1).1
    rw [ren_rvM] at this
    exact ⟨this, h2⟩

section
variable {P : Program} {G : Ctx} {Q : Exit → St → Prop} {S : St}
theorem Sd_loopE {c : Code} (I : St → Prop) (μ : St → Nat) (h0 : ∃ S1, WkE S S1 ∧ I S1)
    (round : ∀ S, I S → Sd P G c (thenW (fun S' => ∃ S1, WkE S' S1 ∧ I S1 ∧ μ S1 < μ S) Q) S) : Sd P G (.loop c) Q S := by
  suffices ∀ m, ∀ S, I S → μ S = m → Sd P G (.loop c) Q S by
    obtain ⟨S1, hw, hi⟩ := h0
    exact fun s a w hr => by
      obtain ⟨s', hr'⟩ := hw G s a w hr
      exact this _ S1 hi rfl s' a w hr'
  intro m S hI hmm s a w hr
  refine wp_loop (fun a w => ∃ s S, Rep G.bs G.w0 G.n G.ds s S a w ∧ I S ∧ True) (fun a w => Classical.epsilon fun k => ∃ s S, Rep G.bs G.w0 G.n G.ds s S a w ∧ I S ∧ μ S = k ∧ ∀ s' S', Rep G.bs G.w0 G.n G.ds s' S' a w → I S' → k ≤ μ S') ⟨s, S, hr, hI, trivial⟩ ?_
  clear hr hI hmm s a w S m
  rintro a w ⟨s, S, hr, hI, _⟩
  have hleast : ∀ a w s S, Rep G.bs G.w0 G.n G.ds s S a w → I S → ∃ k, ∃ s S, Rep G.bs G.w0 G.n G.ds s S a w ∧ I S ∧ μ S = k ∧ ∀ s' S', Rep G.bs G.w0 G.n G.ds s' S' a w → I S' → k ≤ μ S' := by
    intro a w
    suffices ∀ k, ∀ s S, Rep G.bs G.w0 G.n G.ds s S a w → I S → μ S = k → ∃ k, ∃ s S, Rep G.bs G.w0 G.n G.ds s S a w ∧ I S ∧ μ S = k ∧ ∀ s' S', Rep G.bs G.w0 G.n G.ds s' S' a w → I S' → k ≤ μ S' from
      fun s S h1 h2 => this _ s S h1 h2 rfl
    intro k
    induction k using Nat.strongRecOn with
    | _ k ih =>
      intro s S hr hI hk
      by_cases hl : ∀ s' S', Rep G.bs G.w0 G.n G.ds s' S' a w → I S' → k ≤ μ S'
      · exact ⟨k, s, S, hr, hI, hk, hl⟩
      · simp only [Classical.not_forall] at hl
        obtain ⟨s', S', h1, h2, h3⟩ := hl
        exact ih (μ S') (by omega) s' S' h1 h2 rfl
  obtain ⟨s1, S1, hr1, hI1, hk1, hl1⟩ := Classical.epsilon_spec (hleast a w s S hr hI)
  refine Code.wp_mono ?_ (round S1 hI1 s1 a w hr1)
  rintro e a' w' ⟨s', S', h1, h2⟩
  cases e with
  | normal =>
    obtain ⟨S2, hw2, hI2, hlt⟩ := h2
    obtain ⟨s4, hr2⟩ := hw2 G s' a' w' h1
    obtain ⟨s3, S3, hr3, hI3, hk3, hl3⟩ := Classical.epsilon_spec (hleast a' w' s4 S2 hr2 hI2)
    refine ⟨⟨s4, S2, hr2, hI2, trivial⟩, ?_⟩
    have := hl3 s4 S2 hr2 hI2
    omega
  | _ => exact ⟨s', S', h1, h2⟩

end
theorem Sd_loopR {α : Type} {P : Program} {G : Ctx} {Q : Exit → St → Prop} {S : St} {c : Code} (st : α → St) (J : α → Prop) (μ : α → Nat) (h0 : ∃ a, WkE S (st a) ∧ J a)
    (round : ∀ a, J a → Sd P G c (thenW (fun S' => ∃ b, WkE S' (st b) ∧ J b ∧ μ b < μ a) Q) (st a)) : Sd P G (.loop c) Q S := by
  have least : ∀ k a, J a → μ a = k → ∃ n b, J b ∧ st b = st a ∧ μ b = n ∧ ∀ d, J d → st d = st a → n ≤ μ d := by
    intro k
    induction k using Nat.strongRecOn with
    | _ k ih =>
      intro a ha hk
      by_cases h : ∀ d, J d → st d = st a → k ≤ μ d
      · exact ⟨k, a, ha, rfl, hk, h⟩
      · simp only [Classical.not_forall] at h
        obtain ⟨d, h1, h2, h3⟩ := h
        obtain ⟨n, b, q1, q2, q3, q4⟩ := ih (μ d) (by omega) d h1 rfl
        exact ⟨n, b, q1, q2.trans h2, q3, fun e h4 h5 => q4 e h4 (h5.trans h2.symm)⟩
  let mu : St → Nat := fun S => Classical.epsilon fun n => ∃ b, J b ∧ st b = S ∧ μ b = n ∧ ∀ d, J d → st d = S → n ≤ μ d
  have spec : ∀ a, J a → ∃ b, J b ∧ st b = st a ∧ μ b = mu (st a) ∧ ∀ d, J d → st d = st a → mu (st a) ≤ μ d := by
    intro a ha
    obtain ⟨n, h⟩ := least _ a ha rfl
    exact Classical.epsilon_spec (p := fun n => ∃ b, J b ∧ st b = st a ∧ μ b = n ∧ ∀ d, J d → st d = st a → n ≤ μ d) ⟨n, h⟩
  refine Sd_loopE (fun S => ∃ a, J a ∧ st a = S) mu ?_ ?_
  · obtain ⟨a, h1, h2⟩ := h0
    exact ⟨st a, h1, a, h2, rfl⟩
  · rintro _ ⟨a, ha, rfl⟩
    obtain ⟨b, hb, e, hm, hle⟩ := spec a ha
    have := round b hb
    rw [e] at this
    refine Sd_mono this ?_
    intro e S' h
    cases e with
    | normal =>
      obtain ⟨d, h1, h2, h3⟩ := h
      obtain ⟨b2, _, _, _, hle2⟩ := spec d h2
      have := hle2 d h2 rfl
      exact ⟨st d, h1, ⟨d, h2, rfl⟩, by omega⟩
    | _ => exact h
theorem cW_loopR {α : Type} {P : Program} {G : Ctx} {Q : Exit → St → Prop} {S : St} {c : Code} (st : α → St) (J : α → Prop) (μ : α → Nat) (h0 : ∃ a, WkE S (st a) ∧ J a) (hc : cOk G.n c = true)
    (round : ∀ a, J a → cW P G c (thenW (fun S' => ∃ b, WkE S' (st b) ∧ J b ∧ μ b < μ a) Q) (st a)) : cW P G (.loop c) Q S :=
  Sd_loopR st J μ h0 fun a ha => Sd_of_cW hc (round a ha)
theorem ext_rvM {π : Nat → Nat} {row : List RV} (h : ∀ v ∈ row, ∃ u, v = .ext u) : row.map (rvM π) = row := by
  conv => rhs; rw [← List.map_id row]
  exact List.map_congr_left fun v hv => by obtain ⟨u, rfl⟩ := h v hv; rfl
theorem ext_roM {π : Nat → Nat} {T : TypeId} {row : List RV} (h : ∀ v ∈ row, ∃ u, v = .ext u) : roM π (.cells T row) = .cells T row := by
  simp only [roM, ext_rvM h]
end R
end Go.Proofs.Ytflljnaojghifaa
