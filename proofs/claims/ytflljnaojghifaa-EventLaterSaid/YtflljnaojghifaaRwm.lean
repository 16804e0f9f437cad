/- Maps of whole numbers: what is put, and what is looked up. -/
import Derived.Test.YtflljnaojghifaaRwz
import Derived.MapKept
namespace Go.Proofs.Ytflljnaojghifaa
open Go Go.RowKit
namespace R
set_option linter.unusedVariables false

theorem updW_new {P : Program} {T kt et : TypeId} {kd k : IntKind} {z : Int} {v : Value} {es : Array MapEntry} {n : Nat} {K : Obj → Prop} (ht : P.underlying T = some (.map kt et)) (hk : P.underlying kt = some (.int kd))
    (hf : Instr.findNow (.int kd) (.int k z) es.toList 0 = some none) (hkd : MapKept.IsKey (.int kd) (.int k z)) (h : K (.map (es.push ⟨.int k z, v, n⟩) (n + 1))) : updW P T (.int k z) v (.map es n) K := by
  refine ⟨_, fun r w hb => ?_, h⟩
  simp [Instr.mapUpdate, run_underlying ht, MapKept.run_getObj_map hb, MapKept.run_checkKey hk hkd, MapKept.run_findKey hk hf, MapKept.run_setObj_map _ hb, Result.andThen]

theorem lookW_hit {P : Program} {T kt et : TypeId} {kd k : IntKind} {z : Int} {ok : Bool} {es : Array MapEntry} {n i : Nat} {v : Value} {K : Value → Prop} (ht : P.underlying T = some (.map kt et)) (hk : P.underlying kt = some (.int kd))
    (hf : Instr.findNow (.int kd) (.int k z) es.toList 0 = some (some (i, v))) (hkd : MapKept.IsKey (.int kd) (.int k z)) (h : K (if ok = true then .tuple #[v, .bool true] else v)) : lookW P T (.int k z) ok (.map es n) K := by
  refine ⟨_, fun r w hb => ?_, h⟩
  simp [Instr.lookup, run_underlying ht, MapKept.run_getObj_map hb, MapKept.run_checkKey hk hkd, MapKept.run_findKey hk hf, Result.andThen]

theorem lookW_miss {P : Program} {T kt et : TypeId} {kd k : IntKind} {z : Int} {ok : Bool} {es : Array MapEntry} {n : Nat} {v : Value} {K : Value → Prop} (ht : P.underlying T = some (.map kt et)) (hk : P.underlying kt = some (.int kd))
    (hz : (P.info? et).bind (·.zero) = some v) (hf : Instr.findNow (.int kd) (.int k z) es.toList 0 = some none) (hkd : MapKept.IsKey (.int kd) (.int k z)) (h : K (if ok = true then .tuple #[v, .bool false] else v)) : lookW P T (.int k z) ok (.map es n) K := by
  refine ⟨_, fun r w hb => ?_, h⟩
  obtain ⟨i, hi, hv⟩ := Option.bind_eq_some_iff.1 hz
  simp [Instr.lookup, run_underlying ht, MapKept.run_getObj_map hb, MapKept.run_checkKey hk hkd, MapKept.run_findKey hk hf, Result.andThen, zeroValue, typeInfo, hi, hv]

/-- An entry of a map of whole numbers. -/
def ent (k : IntKind) (z : Int) (v : Value) (n : Nat) : MapEntry := ⟨.int k z, v, n⟩
theorem find_nil {k : IntKind} {z : Int} {i : Nat} : Instr.findNow (.int k) (.int k z) [] i = some none := rfl
theorem find_cons {k : IntKind} {z y : Int} {v : Value} {n i : Nat} {l : List MapEntry} : Instr.findNow (.int k) (.int k z) (⟨.int k y, v, n⟩ :: l) i = if z = y then some (some (i, v)) else Instr.findNow (.int k) (.int k z) l (i + 1) := by
  by_cases h : z = y
  · subst h; simp [Instr.findNow, Instr.sameNow]
  · have e : (z == y) = false := by simpa using h
    rw [if_neg h]; simp only [Instr.findNow, Instr.sameNow, if_true, e]
theorem push_lit {α : Type} {l : List α} {a : α} : (l.toArray).push a = (l ++ [a]).toArray := by simp
end R
end Go.Proofs.Ytflljnaojghifaa
