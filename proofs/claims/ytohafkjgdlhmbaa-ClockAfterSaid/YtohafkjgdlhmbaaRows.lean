/-
  No cell of these rows narrows 'for every input' (looked for: loops, veiled, ifaces, maps, wideKeys, modest, calm, conditions, laid).
  DERIVED. THE GIVEN ROWS OF THIS SEAT. 17 by the template 'for every input the law returns true; each argument reads behind the call as it read before'; 0 by the template 'total and deterministic' (their statements: YtohafkjgdlhmbaaTotals.lean).
  GIVEN WITH THE SEED: the statements are not yours to turn. If you find one false, say at which input.
  Laid BY PROGRAM, IN A SANDBOX (cutbox-rows.mjs): the forced cells as the released guide's own fill.sh prints them over the translation f2bf6dd2be27651a… (all of the seat's roots in one cut). By AI agents, Wed Nov 11 2026. No macro, syntax, notation, axiom, sorry.
-/
import Derived.Test.YtohafkjgdlhmbaaChecked
import GoSem.Claim
import GoSem.ClaimJoined
import GoSem.ClaimMapViews
import Derived.JoinedTies
import Derived.KernelRfl
namespace Go.Proofs.Ytohafkjgdlhmbaa
/- THE CELL 'sum', in the pinned program and in every row, IS THE sha256 OF THE DUMP (.gsa) THAT YtohafkjgdlhmbaaProg.lean LOADS. Nothing in Lean hashes anything: it is a label: what it is worth is what the hold of that sum in a sandbox is worth. -/
noncomputable def Try.pinned : Pinned := { name := "ytohafkjgdlhmbaa", sum := "f2bf6dd2be27651aa1e0e790804314822efea1619d27a8d7d2116b74ec846431", checked := Try.checked }
namespace Rows
def none {H : Type} : Left H := { results := [], args := [] }

/-- 'sawtoothlaw06.RttTells': WHATEVER THE INPUT: true; the input reads as it did. -/
def rttTellsSpec : ChangeSpec := { name := "rttTells", fn := fun _ => fun
  | [d1, d2] => { results := [.lit (.bool true)], args := [d1, d2] }
  | _ => none }
def rttTellsRow : OpenClaim := { program := "ytohafkjgdlhmbaa", sum := "f2bf6dd2be27651aa1e0e790804314822efea1619d27a8d7d2116b74ec846431", func := "sawtooth/sawtoothlaw06.RttTells", spec := "rttTells", apart := false }
def RttTellsSaid : Prop := rttTellsRow.holds Try.pinned (OpenSpec.ofChange rttTellsSpec)

/-- ITS FALSE NEIGHBOUR: 'it returns false'. Refute it at one input. -/
def rttTellsWrong : ChangeSpec := { name := "rttTells", fn := fun _ => fun
  | [d1, d2] => { results := [.lit (.bool false)], args := [d1, d2] }
  | _ => none }
def RttTellsWrongFalsely : Prop := rttTellsRow.holds Try.pinned (OpenSpec.ofChange rttTellsWrong)

/-- 'sawtoothlaw06.RttBetween': WHATEVER THE INPUT: true; the input reads as it did. -/
def rttBetweenSpec : ChangeSpec := { name := "rttBetween", fn := fun _ => fun
  | [d1, d2] => { results := [.lit (.bool true)], args := [d1, d2] }
  | _ => none }
def rttBetweenRow : OpenClaim := { program := "ytohafkjgdlhmbaa", sum := "f2bf6dd2be27651aa1e0e790804314822efea1619d27a8d7d2116b74ec846431", func := "sawtooth/sawtoothlaw06.RttBetween", spec := "rttBetween", apart := false }
def RttBetweenSaid : Prop := rttBetweenRow.holds Try.pinned (OpenSpec.ofChange rttBetweenSpec)

/-- ITS FALSE NEIGHBOUR: 'it returns false'. Refute it at one input. -/
def rttBetweenWrong : ChangeSpec := { name := "rttBetween", fn := fun _ => fun
  | [d1, d2] => { results := [.lit (.bool false)], args := [d1, d2] }
  | _ => none }
def RttBetweenWrongFalsely : Prop := rttBetweenRow.holds Try.pinned (OpenSpec.ofChange rttBetweenWrong)

/-- 'sawtoothlaw06.RttSteady': WHATEVER THE INPUT: true; the input reads as it did. -/
def rttSteadySpec : ChangeSpec := { name := "rttSteady", fn := fun _ => fun
  | [d1, d2] => { results := [.lit (.bool true)], args := [d1, d2] }
  | _ => none }
def rttSteadyRow : OpenClaim := { program := "ytohafkjgdlhmbaa", sum := "f2bf6dd2be27651aa1e0e790804314822efea1619d27a8d7d2116b74ec846431", func := "sawtooth/sawtoothlaw06.RttSteady", spec := "rttSteady", apart := false }
def RttSteadySaid : Prop := rttSteadyRow.holds Try.pinned (OpenSpec.ofChange rttSteadySpec)

/-- ITS FALSE NEIGHBOUR: 'it returns false'. Refute it at one input. -/
def rttSteadyWrong : ChangeSpec := { name := "rttSteady", fn := fun _ => fun
  | [d1, d2] => { results := [.lit (.bool false)], args := [d1, d2] }
  | _ => none }
def RttSteadyWrongFalsely : Prop := rttSteadyRow.holds Try.pinned (OpenSpec.ofChange rttSteadyWrong)

/-- 'sawtoothlaw06.RttRises': WHATEVER THE INPUT: true; the input reads as it did. -/
def rttRisesSpec : ChangeSpec := { name := "rttRises", fn := fun _ => fun
  | [d1, d2, d3] => { results := [.lit (.bool true)], args := [d1, d2, d3] }
  | _ => none }
def rttRisesRow : OpenClaim := { program := "ytohafkjgdlhmbaa", sum := "f2bf6dd2be27651aa1e0e790804314822efea1619d27a8d7d2116b74ec846431", func := "sawtooth/sawtoothlaw06.RttRises", spec := "rttRises", apart := false }
def RttRisesSaid : Prop := rttRisesRow.holds Try.pinned (OpenSpec.ofChange rttRisesSpec)

/-- ITS FALSE NEIGHBOUR: 'it returns false'. Refute it at one input. -/
def rttRisesWrong : ChangeSpec := { name := "rttRises", fn := fun _ => fun
  | [d1, d2, d3] => { results := [.lit (.bool false)], args := [d1, d2, d3] }
  | _ => none }
def RttRisesWrongFalsely : Prop := rttRisesRow.holds Try.pinned (OpenSpec.ofChange rttRisesWrong)

/-- 'sawtoothlaw06.RttKnown': WHATEVER THE INPUT: true; the input reads as it did. -/
def rttKnownSpec : ChangeSpec := { name := "rttKnown", fn := fun _ => fun
  | [d] => { results := [.lit (.bool true)], args := [d] }
  | _ => none }
def rttKnownRow : OpenClaim := { program := "ytohafkjgdlhmbaa", sum := "f2bf6dd2be27651aa1e0e790804314822efea1619d27a8d7d2116b74ec846431", func := "sawtooth/sawtoothlaw06.RttKnown", spec := "rttKnown", apart := false }
def RttKnownSaid : Prop := rttKnownRow.holds Try.pinned (OpenSpec.ofChange rttKnownSpec)

/-- ITS FALSE NEIGHBOUR: 'it returns false'. Refute it at one input. -/
def rttKnownWrong : ChangeSpec := { name := "rttKnown", fn := fun _ => fun
  | [d] => { results := [.lit (.bool false)], args := [d] }
  | _ => none }
def RttKnownWrongFalsely : Prop := rttKnownRow.holds Try.pinned (OpenSpec.ofChange rttKnownWrong)

/-- 'sawtoothlaw06.RttFlat': WHATEVER THE INPUT: true; the input reads as it did. -/
def rttFlatSpec : ChangeSpec := { name := "rttFlat", fn := fun _ => fun
  | [d1, d2] => { results := [.lit (.bool true)], args := [d1, d2] }
  | _ => none }
def rttFlatRow : OpenClaim := { program := "ytohafkjgdlhmbaa", sum := "f2bf6dd2be27651aa1e0e790804314822efea1619d27a8d7d2116b74ec846431", func := "sawtooth/sawtoothlaw06.RttFlat", spec := "rttFlat", apart := false }
def RttFlatSaid : Prop := rttFlatRow.holds Try.pinned (OpenSpec.ofChange rttFlatSpec)

/-- ITS FALSE NEIGHBOUR: 'it returns false'. Refute it at one input. -/
def rttFlatWrong : ChangeSpec := { name := "rttFlat", fn := fun _ => fun
  | [d1, d2] => { results := [.lit (.bool false)], args := [d1, d2] }
  | _ => none }
def RttFlatWrongFalsely : Prop := rttFlatRow.holds Try.pinned (OpenSpec.ofChange rttFlatWrong)

/-- 'sawtoothlaw07.RtoTells': WHATEVER THE INPUT: true; the input reads as it did. -/
def rtoTellsSpec : ChangeSpec := { name := "rtoTells", fn := fun _ => fun
  | [d1, d2, d3] => { results := [.lit (.bool true)], args := [d1, d2, d3] }
  | _ => none }
def rtoTellsRow : OpenClaim := { program := "ytohafkjgdlhmbaa", sum := "f2bf6dd2be27651aa1e0e790804314822efea1619d27a8d7d2116b74ec846431", func := "sawtooth/sawtoothlaw07.RtoTells", spec := "rtoTells", apart := false }
def RtoTellsSaid : Prop := rtoTellsRow.holds Try.pinned (OpenSpec.ofChange rtoTellsSpec)

/-- ITS FALSE NEIGHBOUR: 'it returns false'. Refute it at one input. -/
def rtoTellsWrong : ChangeSpec := { name := "rtoTells", fn := fun _ => fun
  | [d1, d2, d3] => { results := [.lit (.bool false)], args := [d1, d2, d3] }
  | _ => none }
def RtoTellsWrongFalsely : Prop := rtoTellsRow.holds Try.pinned (OpenSpec.ofChange rtoTellsWrong)

/-- 'sawtoothlaw07.RtoBounds': WHATEVER THE INPUT: true; the input reads as it did. -/
def rtoBoundsSpec : ChangeSpec := { name := "rtoBounds", fn := fun _ => fun
  | [d1, d2, d3] => { results := [.lit (.bool true)], args := [d1, d2, d3] }
  | _ => none }
def rtoBoundsRow : OpenClaim := { program := "ytohafkjgdlhmbaa", sum := "f2bf6dd2be27651aa1e0e790804314822efea1619d27a8d7d2116b74ec846431", func := "sawtooth/sawtoothlaw07.RtoBounds", spec := "rtoBounds", apart := false }
def RtoBoundsSaid : Prop := rtoBoundsRow.holds Try.pinned (OpenSpec.ofChange rtoBoundsSpec)

/-- ITS FALSE NEIGHBOUR: 'it returns false'. Refute it at one input. -/
def rtoBoundsWrong : ChangeSpec := { name := "rtoBounds", fn := fun _ => fun
  | [d1, d2, d3] => { results := [.lit (.bool false)], args := [d1, d2, d3] }
  | _ => none }
def RtoBoundsWrongFalsely : Prop := rtoBoundsRow.holds Try.pinned (OpenSpec.ofChange rtoBoundsWrong)

/-- 'sawtoothlaw07.RtoDoubles': WHATEVER THE INPUT: true; the input reads as it did. -/
def rtoDoublesSpec : ChangeSpec := { name := "rtoDoubles", fn := fun _ => fun
  | [d1, d2, d3] => { results := [.lit (.bool true)], args := [d1, d2, d3] }
  | _ => none }
def rtoDoublesRow : OpenClaim := { program := "ytohafkjgdlhmbaa", sum := "f2bf6dd2be27651aa1e0e790804314822efea1619d27a8d7d2116b74ec846431", func := "sawtooth/sawtoothlaw07.RtoDoubles", spec := "rtoDoubles", apart := false }
def RtoDoublesSaid : Prop := rtoDoublesRow.holds Try.pinned (OpenSpec.ofChange rtoDoublesSpec)

/-- ITS FALSE NEIGHBOUR: 'it returns false'. Refute it at one input. -/
def rtoDoublesWrong : ChangeSpec := { name := "rtoDoubles", fn := fun _ => fun
  | [d1, d2, d3] => { results := [.lit (.bool false)], args := [d1, d2, d3] }
  | _ => none }
def RtoDoublesWrongFalsely : Prop := rtoDoublesRow.holds Try.pinned (OpenSpec.ofChange rtoDoublesWrong)

/-- 'sawtoothlaw07.RtoBacks': WHATEVER THE INPUT: true; the input reads as it did. -/
def rtoBacksSpec : ChangeSpec := { name := "rtoBacks", fn := fun _ => fun
  | [d1, d2] => { results := [.lit (.bool true)], args := [d1, d2] }
  | _ => none }
def rtoBacksRow : OpenClaim := { program := "ytohafkjgdlhmbaa", sum := "f2bf6dd2be27651aa1e0e790804314822efea1619d27a8d7d2116b74ec846431", func := "sawtooth/sawtoothlaw07.RtoBacks", spec := "rtoBacks", apart := false }
def RtoBacksSaid : Prop := rtoBacksRow.holds Try.pinned (OpenSpec.ofChange rtoBacksSpec)

/-- ITS FALSE NEIGHBOUR: 'it returns false'. Refute it at one input. -/
def rtoBacksWrong : ChangeSpec := { name := "rtoBacks", fn := fun _ => fun
  | [d1, d2] => { results := [.lit (.bool false)], args := [d1, d2] }
  | _ => none }
def RtoBacksWrongFalsely : Prop := rtoBacksRow.holds Try.pinned (OpenSpec.ofChange rtoBacksWrong)

/-- 'sawtoothlaw07.RtoRises': WHATEVER THE INPUT: true; the input reads as it did. -/
def rtoRisesSpec : ChangeSpec := { name := "rtoRises", fn := fun _ => fun
  | [d1, d2, d3, d4, d5] => { results := [.lit (.bool true)], args := [d1, d2, d3, d4, d5] }
  | _ => none }
def rtoRisesRow : OpenClaim := { program := "ytohafkjgdlhmbaa", sum := "f2bf6dd2be27651aa1e0e790804314822efea1619d27a8d7d2116b74ec846431", func := "sawtooth/sawtoothlaw07.RtoRises", spec := "rtoRises", apart := false }
def RtoRisesSaid : Prop := rtoRisesRow.holds Try.pinned (OpenSpec.ofChange rtoRisesSpec)

/-- ITS FALSE NEIGHBOUR: 'it returns false'. Refute it at one input. -/
def rtoRisesWrong : ChangeSpec := { name := "rtoRises", fn := fun _ => fun
  | [d1, d2, d3, d4, d5] => { results := [.lit (.bool false)], args := [d1, d2, d3, d4, d5] }
  | _ => none }
def RtoRisesWrongFalsely : Prop := rtoRisesRow.holds Try.pinned (OpenSpec.ofChange rtoRisesWrong)

/-- 'sawtoothlaw05.ClockTells': WHATEVER THE INPUT: true; the input reads as it did. -/
def clockTellsSpec : ChangeSpec := { name := "clockTells", fn := fun _ => fun
  | [d1, d2] => { results := [.lit (.bool true)], args := [d1, d2] }
  | _ => none }
def clockTellsRow : OpenClaim := { program := "ytohafkjgdlhmbaa", sum := "f2bf6dd2be27651aa1e0e790804314822efea1619d27a8d7d2116b74ec846431", func := "sawtooth/sawtoothlaw05.ClockTells", spec := "clockTells", unfollowed := true, recurses := true, apart := false }
def ClockTellsSaid : Prop := clockTellsRow.holds Try.pinned (OpenSpec.ofChange clockTellsSpec)

/-- ITS FALSE NEIGHBOUR: 'it returns false'. Refute it at one input. -/
def clockTellsWrong : ChangeSpec := { name := "clockTells", fn := fun _ => fun
  | [d1, d2] => { results := [.lit (.bool false)], args := [d1, d2] }
  | _ => none }
def ClockTellsWrongFalsely : Prop := clockTellsRow.holds Try.pinned (OpenSpec.ofChange clockTellsWrong)

/-- 'sawtoothlaw05.ClockSteps': WHATEVER THE INPUT: true; the input reads as it did. -/
def clockStepsSpec : ChangeSpec := { name := "clockSteps", fn := fun _ => fun
  | [d] => { results := [.lit (.bool true)], args := [d] }
  | _ => none }
def clockStepsRow : OpenClaim := { program := "ytohafkjgdlhmbaa", sum := "f2bf6dd2be27651aa1e0e790804314822efea1619d27a8d7d2116b74ec846431", func := "sawtooth/sawtoothlaw05.ClockSteps", spec := "clockSteps", unfollowed := true, recurses := true, apart := false }
def ClockStepsSaid : Prop := clockStepsRow.holds Try.pinned (OpenSpec.ofChange clockStepsSpec)

/-- ITS FALSE NEIGHBOUR: 'it returns false'. Refute it at one input. -/
def clockStepsWrong : ChangeSpec := { name := "clockSteps", fn := fun _ => fun
  | [d] => { results := [.lit (.bool false)], args := [d] }
  | _ => none }
def ClockStepsWrongFalsely : Prop := clockStepsRow.holds Try.pinned (OpenSpec.ofChange clockStepsWrong)

/-- 'sawtoothlaw05.ClockGrains': WHATEVER THE INPUT: true; the input reads as it did. -/
def clockGrainsSpec : ChangeSpec := { name := "clockGrains", fn := fun _ => fun
  | [d1, d2] => { results := [.lit (.bool true)], args := [d1, d2] }
  | _ => none }
def clockGrainsRow : OpenClaim := { program := "ytohafkjgdlhmbaa", sum := "f2bf6dd2be27651aa1e0e790804314822efea1619d27a8d7d2116b74ec846431", func := "sawtooth/sawtoothlaw05.ClockGrains", spec := "clockGrains", unfollowed := true, recurses := true, apart := false }
def ClockGrainsSaid : Prop := clockGrainsRow.holds Try.pinned (OpenSpec.ofChange clockGrainsSpec)

/-- ITS FALSE NEIGHBOUR: 'it returns false'. Refute it at one input. -/
def clockGrainsWrong : ChangeSpec := { name := "clockGrains", fn := fun _ => fun
  | [d1, d2] => { results := [.lit (.bool false)], args := [d1, d2] }
  | _ => none }
def ClockGrainsWrongFalsely : Prop := clockGrainsRow.holds Try.pinned (OpenSpec.ofChange clockGrainsWrong)

/-- 'sawtoothlaw05.ClockAfter': WHATEVER THE INPUT: true; the input reads as it did. -/
def clockAfterSpec : ChangeSpec := { name := "clockAfter", fn := fun _ => fun
  | [d1, d2, d3] => { results := [.lit (.bool true)], args := [d1, d2, d3] }
  | _ => none }
def clockAfterRow : OpenClaim := { program := "ytohafkjgdlhmbaa", sum := "f2bf6dd2be27651aa1e0e790804314822efea1619d27a8d7d2116b74ec846431", func := "sawtooth/sawtoothlaw05.ClockAfter", spec := "clockAfter", unfollowed := true, recurses := true, apart := false }
def ClockAfterSaid : Prop := clockAfterRow.holds Try.pinned (OpenSpec.ofChange clockAfterSpec)

/-- ITS FALSE NEIGHBOUR: 'it returns false'. Refute it at one input. -/
def clockAfterWrong : ChangeSpec := { name := "clockAfter", fn := fun _ => fun
  | [d1, d2, d3] => { results := [.lit (.bool false)], args := [d1, d2, d3] }
  | _ => none }
def ClockAfterWrongFalsely : Prop := clockAfterRow.holds Try.pinned (OpenSpec.ofChange clockAfterWrong)

/-- 'sawtoothlaw05.ClockKinds': WHATEVER THE INPUT: true; the input reads as it did. -/
def clockKindsSpec : ChangeSpec := { name := "clockKinds", fn := fun _ => fun
  | [d1, d2] => { results := [.lit (.bool true)], args := [d1, d2] }
  | _ => none }
def clockKindsRow : OpenClaim := { program := "ytohafkjgdlhmbaa", sum := "f2bf6dd2be27651aa1e0e790804314822efea1619d27a8d7d2116b74ec846431", func := "sawtooth/sawtoothlaw05.ClockKinds", spec := "clockKinds", unfollowed := true, recurses := true, apart := false }
def ClockKindsSaid : Prop := clockKindsRow.holds Try.pinned (OpenSpec.ofChange clockKindsSpec)

/-- ITS FALSE NEIGHBOUR: 'it returns false'. Refute it at one input. -/
def clockKindsWrong : ChangeSpec := { name := "clockKinds", fn := fun _ => fun
  | [d1, d2] => { results := [.lit (.bool false)], args := [d1, d2] }
  | _ => none }
def ClockKindsWrongFalsely : Prop := clockKindsRow.holds Try.pinned (OpenSpec.ofChange clockKindsWrong)

/-- 'sawtoothlaw07.RtoSteady': WHATEVER THE INPUT: true; the input reads as it did. -/
def rtoSteadySpec : ChangeSpec := { name := "rtoSteady", fn := fun _ => fun
  | [d1, d2] => { results := [.lit (.bool true)], args := [d1, d2] }
  | _ => none }
def rtoSteadyRow : OpenClaim := { program := "ytohafkjgdlhmbaa", sum := "f2bf6dd2be27651aa1e0e790804314822efea1619d27a8d7d2116b74ec846431", func := "sawtooth/sawtoothlaw07.RtoSteady", spec := "rtoSteady", apart := false }
def RtoSteadySaid : Prop := rtoSteadyRow.holds Try.pinned (OpenSpec.ofChange rtoSteadySpec)

/-- ITS FALSE NEIGHBOUR: 'it returns false'. Refute it at one input. -/
def rtoSteadyWrong : ChangeSpec := { name := "rtoSteady", fn := fun _ => fun
  | [d1, d2] => { results := [.lit (.bool false)], args := [d1, d2] }
  | _ => none }
def RtoSteadyWrongFalsely : Prop := rtoSteadyRow.holds Try.pinned (OpenSpec.ofChange rtoSteadyWrong)

/- THE SECOND FORM. 'bulk': how many values and letters a reading holds, each counted each time it is reached (what is shared counts as often as it is met; a slice's spare places count too). A statement '..UptoSaid' is the law's where the arguments, and the package variables that the reading takes, are together of bulk at most 1048576: NARROWER than '..Said'. Prove '..Said' where nothing that the law and all that it calls make is longer than what came in: it says more and counts as full. Else prove '..UptoSaid'. A law counts once. -/
mutual
def uptoBulk {H : Type} : DataW H → Nat
  | .lit (.string bytes) => bytes.length + 1
  | .lit _ => 1
  | .nil => 1
  | .ptr d => uptoBulk d + 1
  | .slice elems spare => uptoBulkAll elems + uptoBulkAll spare + 1
  | .agg parts => uptoBulkAll parts + 1
  | .iface _ d => uptoBulk d + 1
  | .map entries => uptoBulkEntries entries + 1
  | .held _ => 1
def uptoBulkAll {H : Type} : List (DataW H) → Nat
  | [] => 0
  | d :: r => uptoBulk d + uptoBulkAll r
def uptoBulkEntries {H : Type} : List (Lit × DataW H) → Nat
  | [] => 0
  | x :: r => uptoBulkEntry x + uptoBulkEntries r
def uptoBulkEntry {H : Type} : Lit × DataW H → Nat
  | (.string bytes, d) => bytes.length + uptoBulk d + 1
  | (_, d) => uptoBulk d + 1
 end
def uptoSmall : (H : Type) → List (DataW H) → Bool := fun _ ds => decide (uptoBulkAll ds ≤ 1048576)
def OpenSpec.upto (s : _root_.Go.ChangeSpec) : _root_.Go.OpenSpec := { _root_.Go.OpenSpec.ofChange s with cond := some uptoSmall }

/-- 'sawtoothlaw06.RttTells', WHERE WHAT IT READS IS OF BULK AT MOST 1048576: true; the input reads as it did. -/
def rttTellsUptoRow : OpenClaim := { program := "ytohafkjgdlhmbaa", sum := "f2bf6dd2be27651aa1e0e790804314822efea1619d27a8d7d2116b74ec846431", func := "sawtooth/sawtoothlaw06.RttTells", spec := "rttTells", apart := false, narrowed := true }
def RttTellsUptoSaid : Prop := rttTellsUptoRow.holds Try.pinned (OpenSpec.upto rttTellsSpec)

/-- 'sawtoothlaw06.RttBetween', WHERE WHAT IT READS IS OF BULK AT MOST 1048576: true; the input reads as it did. -/
def rttBetweenUptoRow : OpenClaim := { program := "ytohafkjgdlhmbaa", sum := "f2bf6dd2be27651aa1e0e790804314822efea1619d27a8d7d2116b74ec846431", func := "sawtooth/sawtoothlaw06.RttBetween", spec := "rttBetween", apart := false, narrowed := true }
def RttBetweenUptoSaid : Prop := rttBetweenUptoRow.holds Try.pinned (OpenSpec.upto rttBetweenSpec)

/-- 'sawtoothlaw06.RttSteady', WHERE WHAT IT READS IS OF BULK AT MOST 1048576: true; the input reads as it did. -/
def rttSteadyUptoRow : OpenClaim := { program := "ytohafkjgdlhmbaa", sum := "f2bf6dd2be27651aa1e0e790804314822efea1619d27a8d7d2116b74ec846431", func := "sawtooth/sawtoothlaw06.RttSteady", spec := "rttSteady", apart := false, narrowed := true }
def RttSteadyUptoSaid : Prop := rttSteadyUptoRow.holds Try.pinned (OpenSpec.upto rttSteadySpec)

/-- 'sawtoothlaw06.RttRises', WHERE WHAT IT READS IS OF BULK AT MOST 1048576: true; the input reads as it did. -/
def rttRisesUptoRow : OpenClaim := { program := "ytohafkjgdlhmbaa", sum := "f2bf6dd2be27651aa1e0e790804314822efea1619d27a8d7d2116b74ec846431", func := "sawtooth/sawtoothlaw06.RttRises", spec := "rttRises", apart := false, narrowed := true }
def RttRisesUptoSaid : Prop := rttRisesUptoRow.holds Try.pinned (OpenSpec.upto rttRisesSpec)

/-- 'sawtoothlaw06.RttKnown', WHERE WHAT IT READS IS OF BULK AT MOST 1048576: true; the input reads as it did. -/
def rttKnownUptoRow : OpenClaim := { program := "ytohafkjgdlhmbaa", sum := "f2bf6dd2be27651aa1e0e790804314822efea1619d27a8d7d2116b74ec846431", func := "sawtooth/sawtoothlaw06.RttKnown", spec := "rttKnown", apart := false, narrowed := true }
def RttKnownUptoSaid : Prop := rttKnownUptoRow.holds Try.pinned (OpenSpec.upto rttKnownSpec)

/-- 'sawtoothlaw06.RttFlat', WHERE WHAT IT READS IS OF BULK AT MOST 1048576: true; the input reads as it did. -/
def rttFlatUptoRow : OpenClaim := { program := "ytohafkjgdlhmbaa", sum := "f2bf6dd2be27651aa1e0e790804314822efea1619d27a8d7d2116b74ec846431", func := "sawtooth/sawtoothlaw06.RttFlat", spec := "rttFlat", apart := false, narrowed := true }
def RttFlatUptoSaid : Prop := rttFlatUptoRow.holds Try.pinned (OpenSpec.upto rttFlatSpec)

/-- 'sawtoothlaw07.RtoTells', WHERE WHAT IT READS IS OF BULK AT MOST 1048576: true; the input reads as it did. -/
def rtoTellsUptoRow : OpenClaim := { program := "ytohafkjgdlhmbaa", sum := "f2bf6dd2be27651aa1e0e790804314822efea1619d27a8d7d2116b74ec846431", func := "sawtooth/sawtoothlaw07.RtoTells", spec := "rtoTells", apart := false, narrowed := true }
def RtoTellsUptoSaid : Prop := rtoTellsUptoRow.holds Try.pinned (OpenSpec.upto rtoTellsSpec)

/-- 'sawtoothlaw07.RtoBounds', WHERE WHAT IT READS IS OF BULK AT MOST 1048576: true; the input reads as it did. -/
def rtoBoundsUptoRow : OpenClaim := { program := "ytohafkjgdlhmbaa", sum := "f2bf6dd2be27651aa1e0e790804314822efea1619d27a8d7d2116b74ec846431", func := "sawtooth/sawtoothlaw07.RtoBounds", spec := "rtoBounds", apart := false, narrowed := true }
def RtoBoundsUptoSaid : Prop := rtoBoundsUptoRow.holds Try.pinned (OpenSpec.upto rtoBoundsSpec)

/-- 'sawtoothlaw07.RtoDoubles', WHERE WHAT IT READS IS OF BULK AT MOST 1048576: true; the input reads as it did. -/
def rtoDoublesUptoRow : OpenClaim := { program := "ytohafkjgdlhmbaa", sum := "f2bf6dd2be27651aa1e0e790804314822efea1619d27a8d7d2116b74ec846431", func := "sawtooth/sawtoothlaw07.RtoDoubles", spec := "rtoDoubles", apart := false, narrowed := true }
def RtoDoublesUptoSaid : Prop := rtoDoublesUptoRow.holds Try.pinned (OpenSpec.upto rtoDoublesSpec)

/-- 'sawtoothlaw07.RtoBacks', WHERE WHAT IT READS IS OF BULK AT MOST 1048576: true; the input reads as it did. -/
def rtoBacksUptoRow : OpenClaim := { program := "ytohafkjgdlhmbaa", sum := "f2bf6dd2be27651aa1e0e790804314822efea1619d27a8d7d2116b74ec846431", func := "sawtooth/sawtoothlaw07.RtoBacks", spec := "rtoBacks", apart := false, narrowed := true }
def RtoBacksUptoSaid : Prop := rtoBacksUptoRow.holds Try.pinned (OpenSpec.upto rtoBacksSpec)

/-- 'sawtoothlaw07.RtoRises', WHERE WHAT IT READS IS OF BULK AT MOST 1048576: true; the input reads as it did. -/
def rtoRisesUptoRow : OpenClaim := { program := "ytohafkjgdlhmbaa", sum := "f2bf6dd2be27651aa1e0e790804314822efea1619d27a8d7d2116b74ec846431", func := "sawtooth/sawtoothlaw07.RtoRises", spec := "rtoRises", apart := false, narrowed := true }
def RtoRisesUptoSaid : Prop := rtoRisesUptoRow.holds Try.pinned (OpenSpec.upto rtoRisesSpec)

/-- 'sawtoothlaw05.ClockTells', WHERE WHAT IT READS IS OF BULK AT MOST 1048576: true; the input reads as it did. -/
def clockTellsUptoRow : OpenClaim := { program := "ytohafkjgdlhmbaa", sum := "f2bf6dd2be27651aa1e0e790804314822efea1619d27a8d7d2116b74ec846431", func := "sawtooth/sawtoothlaw05.ClockTells", spec := "clockTells", unfollowed := true, recurses := true, apart := false, narrowed := true }
def ClockTellsUptoSaid : Prop := clockTellsUptoRow.holds Try.pinned (OpenSpec.upto clockTellsSpec)

/-- 'sawtoothlaw05.ClockSteps', WHERE WHAT IT READS IS OF BULK AT MOST 1048576: true; the input reads as it did. -/
def clockStepsUptoRow : OpenClaim := { program := "ytohafkjgdlhmbaa", sum := "f2bf6dd2be27651aa1e0e790804314822efea1619d27a8d7d2116b74ec846431", func := "sawtooth/sawtoothlaw05.ClockSteps", spec := "clockSteps", unfollowed := true, recurses := true, apart := false, narrowed := true }
def ClockStepsUptoSaid : Prop := clockStepsUptoRow.holds Try.pinned (OpenSpec.upto clockStepsSpec)

/-- 'sawtoothlaw05.ClockGrains', WHERE WHAT IT READS IS OF BULK AT MOST 1048576: true; the input reads as it did. -/
def clockGrainsUptoRow : OpenClaim := { program := "ytohafkjgdlhmbaa", sum := "f2bf6dd2be27651aa1e0e790804314822efea1619d27a8d7d2116b74ec846431", func := "sawtooth/sawtoothlaw05.ClockGrains", spec := "clockGrains", unfollowed := true, recurses := true, apart := false, narrowed := true }
def ClockGrainsUptoSaid : Prop := clockGrainsUptoRow.holds Try.pinned (OpenSpec.upto clockGrainsSpec)

/-- 'sawtoothlaw05.ClockAfter', WHERE WHAT IT READS IS OF BULK AT MOST 1048576: true; the input reads as it did. -/
def clockAfterUptoRow : OpenClaim := { program := "ytohafkjgdlhmbaa", sum := "f2bf6dd2be27651aa1e0e790804314822efea1619d27a8d7d2116b74ec846431", func := "sawtooth/sawtoothlaw05.ClockAfter", spec := "clockAfter", unfollowed := true, recurses := true, apart := false, narrowed := true }
def ClockAfterUptoSaid : Prop := clockAfterUptoRow.holds Try.pinned (OpenSpec.upto clockAfterSpec)

/-- 'sawtoothlaw05.ClockKinds', WHERE WHAT IT READS IS OF BULK AT MOST 1048576: true; the input reads as it did. -/
def clockKindsUptoRow : OpenClaim := { program := "ytohafkjgdlhmbaa", sum := "f2bf6dd2be27651aa1e0e790804314822efea1619d27a8d7d2116b74ec846431", func := "sawtooth/sawtoothlaw05.ClockKinds", spec := "clockKinds", unfollowed := true, recurses := true, apart := false, narrowed := true }
def ClockKindsUptoSaid : Prop := clockKindsUptoRow.holds Try.pinned (OpenSpec.upto clockKindsSpec)

/-- 'sawtoothlaw07.RtoSteady', WHERE WHAT IT READS IS OF BULK AT MOST 1048576: true; the input reads as it did. -/
def rtoSteadyUptoRow : OpenClaim := { program := "ytohafkjgdlhmbaa", sum := "f2bf6dd2be27651aa1e0e790804314822efea1619d27a8d7d2116b74ec846431", func := "sawtooth/sawtoothlaw07.RtoSteady", spec := "rtoSteady", apart := false, narrowed := true }
def RtoSteadyUptoSaid : Prop := rtoSteadyUptoRow.holds Try.pinned (OpenSpec.upto rtoSteadySpec)

end Rows
end Go.Proofs.Ytohafkjgdlhmbaa
