/-
  No cell of these rows narrows 'for every input' (looked for: loops, veiled, ifaces, maps, wideKeys, modest, calm, conditions, laid).
  DERIVED. THE GIVEN ROWS OF THIS SEAT. 18 by the template 'for every input the law returns true; each argument reads behind the call as it read before'; 0 by the template 'total and deterministic' (their statements: YtflljnaojghifaaTotals.lean).
  GIVEN WITH THE SEED: the statements are not yours to turn. If you find one false, say at which input.
  Laid BY PROGRAM, IN A SANDBOX (cutbox-rows.mjs): the forced cells as the released guide's own fill.sh prints them over the translation 3b3f6823fbcdaa44… (all of the seat's roots in one cut). By AI agents, Wed Nov 11 2026. No macro, syntax, notation, axiom, sorry.
-/
import Derived.Test.YtflljnaojghifaaChecked
import GoSem.Claim
import GoSem.ClaimJoined
import GoSem.ClaimMapViews
import Derived.JoinedTies
import Derived.KernelRfl
namespace Go.Proofs.Ytflljnaojghifaa
/- THE CELL 'sum', in the pinned program and in every row, IS THE sha256 OF THE DUMP (.gsa) THAT YtflljnaojghifaaProg.lean LOADS. Nothing in Lean hashes anything: it is a label: what it is worth is what the hold of that sum in a sandbox is worth. -/
noncomputable def Try.pinned : Pinned := { name := "ytflljnaojghifaa", sum := "3b3f6823fbcdaa44646e072d8bd4fbc6671c9eed2227dcbf44a89767965ca340", checked := Try.checked }
namespace Rows
def none {H : Type} : Left H := { results := [], args := [] }

/-- 'sawtoothlaw20.EventTells': WHATEVER THE INPUT: true; the input reads as it did. -/
def eventTellsSpec : ChangeSpec := { name := "eventTells", fn := fun _ => fun
  | [d1, d2, d3] => { results := [.lit (.bool true)], args := [d1, d2, d3] }
  | _ => none }
def eventTellsRow : OpenClaim := { program := "ytflljnaojghifaa", sum := "3b3f6823fbcdaa44646e072d8bd4fbc6671c9eed2227dcbf44a89767965ca340", func := "sawtooth/sawtoothlaw20.EventTells", spec := "eventTells", unfollowed := true, recurses := true, apart := false }
def EventTellsSaid : Prop := eventTellsRow.holds Try.pinned (OpenSpec.ofChange eventTellsSpec)

/-- ITS FALSE NEIGHBOUR: 'it returns false'. Refute it at one input. -/
def eventTellsWrong : ChangeSpec := { name := "eventTells", fn := fun _ => fun
  | [d1, d2, d3] => { results := [.lit (.bool false)], args := [d1, d2, d3] }
  | _ => none }
def EventTellsWrongFalsely : Prop := eventTellsRow.holds Try.pinned (OpenSpec.ofChange eventTellsWrong)

/-- 'sawtoothlaw20.EventBack': WHATEVER THE INPUT: true; the input reads as it did. -/
def eventBackSpec : ChangeSpec := { name := "eventBack", fn := fun _ => fun
  | [d1, d2] => { results := [.lit (.bool true)], args := [d1, d2] }
  | _ => none }
def eventBackRow : OpenClaim := { program := "ytflljnaojghifaa", sum := "3b3f6823fbcdaa44646e072d8bd4fbc6671c9eed2227dcbf44a89767965ca340", func := "sawtooth/sawtoothlaw20.EventBack", spec := "eventBack", unfollowed := true, recurses := true, apart := false }
def EventBackSaid : Prop := eventBackRow.holds Try.pinned (OpenSpec.ofChange eventBackSpec)

/-- ITS FALSE NEIGHBOUR: 'it returns false'. Refute it at one input. -/
def eventBackWrong : ChangeSpec := { name := "eventBack", fn := fun _ => fun
  | [d1, d2] => { results := [.lit (.bool false)], args := [d1, d2] }
  | _ => none }
def EventBackWrongFalsely : Prop := eventBackRow.holds Try.pinned (OpenSpec.ofChange eventBackWrong)

/-- 'sawtoothlaw20.EventRises': WHATEVER THE INPUT: true; the input reads as it did. -/
def eventRisesSpec : ChangeSpec := { name := "eventRises", fn := fun _ => fun
  | [d] => { results := [.lit (.bool true)], args := [d] }
  | _ => none }
def eventRisesRow : OpenClaim := { program := "ytflljnaojghifaa", sum := "3b3f6823fbcdaa44646e072d8bd4fbc6671c9eed2227dcbf44a89767965ca340", func := "sawtooth/sawtoothlaw20.EventRises", spec := "eventRises", unfollowed := true, recurses := true, apart := false }
def EventRisesSaid : Prop := eventRisesRow.holds Try.pinned (OpenSpec.ofChange eventRisesSpec)

/-- ITS FALSE NEIGHBOUR: 'it returns false'. Refute it at one input. -/
def eventRisesWrong : ChangeSpec := { name := "eventRises", fn := fun _ => fun
  | [d] => { results := [.lit (.bool false)], args := [d] }
  | _ => none }
def EventRisesWrongFalsely : Prop := eventRisesRow.holds Try.pinned (OpenSpec.ofChange eventRisesWrong)

/-- 'sawtoothlaw20.EventKinds': WHATEVER THE INPUT: true; the input reads as it did. -/
def eventKindsSpec : ChangeSpec := { name := "eventKinds", fn := fun _ => fun
  | [d1, d2, d3] => { results := [.lit (.bool true)], args := [d1, d2, d3] }
  | _ => none }
def eventKindsRow : OpenClaim := { program := "ytflljnaojghifaa", sum := "3b3f6823fbcdaa44646e072d8bd4fbc6671c9eed2227dcbf44a89767965ca340", func := "sawtooth/sawtoothlaw20.EventKinds", spec := "eventKinds", unfollowed := true, recurses := true, apart := false }
def EventKindsSaid : Prop := eventKindsRow.holds Try.pinned (OpenSpec.ofChange eventKindsSpec)

/-- ITS FALSE NEIGHBOUR: 'it returns false'. Refute it at one input. -/
def eventKindsWrong : ChangeSpec := { name := "eventKinds", fn := fun _ => fun
  | [d1, d2, d3] => { results := [.lit (.bool false)], args := [d1, d2, d3] }
  | _ => none }
def EventKindsWrongFalsely : Prop := eventKindsRow.holds Try.pinned (OpenSpec.ofChange eventKindsWrong)

/-- 'sawtoothlaw20.EventParts': WHATEVER THE INPUT: true; the input reads as it did. -/
def eventPartsSpec : ChangeSpec := { name := "eventParts", fn := fun _ => fun
  | [d1, d2] => { results := [.lit (.bool true)], args := [d1, d2] }
  | _ => none }
def eventPartsRow : OpenClaim := { program := "ytflljnaojghifaa", sum := "3b3f6823fbcdaa44646e072d8bd4fbc6671c9eed2227dcbf44a89767965ca340", func := "sawtooth/sawtoothlaw20.EventParts", spec := "eventParts", unfollowed := true, recurses := true, apart := false }
def EventPartsSaid : Prop := eventPartsRow.holds Try.pinned (OpenSpec.ofChange eventPartsSpec)

/-- ITS FALSE NEIGHBOUR: 'it returns false'. Refute it at one input. -/
def eventPartsWrong : ChangeSpec := { name := "eventParts", fn := fun _ => fun
  | [d1, d2] => { results := [.lit (.bool false)], args := [d1, d2] }
  | _ => none }
def EventPartsWrongFalsely : Prop := eventPartsRow.holds Try.pinned (OpenSpec.ofChange eventPartsWrong)

/-- 'sawtoothlaw20.EventLater': WHATEVER THE INPUT: true; the input reads as it did. -/
def eventLaterSpec : ChangeSpec := { name := "eventLater", fn := fun _ => fun
  | [d1, d2] => { results := [.lit (.bool true)], args := [d1, d2] }
  | _ => none }
def eventLaterRow : OpenClaim := { program := "ytflljnaojghifaa", sum := "3b3f6823fbcdaa44646e072d8bd4fbc6671c9eed2227dcbf44a89767965ca340", func := "sawtooth/sawtoothlaw20.EventLater", spec := "eventLater", unfollowed := true, recurses := true, apart := false }
def EventLaterSaid : Prop := eventLaterRow.holds Try.pinned (OpenSpec.ofChange eventLaterSpec)

/-- ITS FALSE NEIGHBOUR: 'it returns false'. Refute it at one input. -/
def eventLaterWrong : ChangeSpec := { name := "eventLater", fn := fun _ => fun
  | [d1, d2] => { results := [.lit (.bool false)], args := [d1, d2] }
  | _ => none }
def EventLaterWrongFalsely : Prop := eventLaterRow.holds Try.pinned (OpenSpec.ofChange eventLaterWrong)

/-- 'sawtoothlaw10.HystartTells': WHATEVER THE INPUT: true; the input reads as it did. -/
def hystartTellsSpec : ChangeSpec := { name := "hystartTells", fn := fun _ => fun
  | [d1, d2, d3, d4] => { results := [.lit (.bool true)], args := [d1, d2, d3, d4] }
  | _ => none }
def hystartTellsRow : OpenClaim := { program := "ytflljnaojghifaa", sum := "3b3f6823fbcdaa44646e072d8bd4fbc6671c9eed2227dcbf44a89767965ca340", func := "sawtooth/sawtoothlaw10.HystartTells", spec := "hystartTells", unfollowed := true, recurses := true, apart := false }
def HystartTellsSaid : Prop := hystartTellsRow.holds Try.pinned (OpenSpec.ofChange hystartTellsSpec)

/-- ITS FALSE NEIGHBOUR: 'it returns false'. Refute it at one input. -/
def hystartTellsWrong : ChangeSpec := { name := "hystartTells", fn := fun _ => fun
  | [d1, d2, d3, d4] => { results := [.lit (.bool false)], args := [d1, d2, d3, d4] }
  | _ => none }
def HystartTellsWrongFalsely : Prop := hystartTellsRow.holds Try.pinned (OpenSpec.ofChange hystartTellsWrong)

/-- 'sawtoothlaw10.HystartStays': WHATEVER THE INPUT: true; the input reads as it did. -/
def hystartStaysSpec : ChangeSpec := { name := "hystartStays", fn := fun _ => fun
  | [d1, d2] => { results := [.lit (.bool true)], args := [d1, d2] }
  | _ => none }
def hystartStaysRow : OpenClaim := { program := "ytflljnaojghifaa", sum := "3b3f6823fbcdaa44646e072d8bd4fbc6671c9eed2227dcbf44a89767965ca340", func := "sawtooth/sawtoothlaw10.HystartStays", spec := "hystartStays", unfollowed := true, recurses := true, apart := false }
def HystartStaysSaid : Prop := hystartStaysRow.holds Try.pinned (OpenSpec.ofChange hystartStaysSpec)

/-- ITS FALSE NEIGHBOUR: 'it returns false'. Refute it at one input. -/
def hystartStaysWrong : ChangeSpec := { name := "hystartStays", fn := fun _ => fun
  | [d1, d2] => { results := [.lit (.bool false)], args := [d1, d2] }
  | _ => none }
def HystartStaysWrongFalsely : Prop := hystartStaysRow.holds Try.pinned (OpenSpec.ofChange hystartStaysWrong)

/-- 'sawtoothlaw10.HystartEnds': WHATEVER THE INPUT: true; the input reads as it did. -/
def hystartEndsSpec : ChangeSpec := { name := "hystartEnds", fn := fun _ => fun
  | [d] => { results := [.lit (.bool true)], args := [d] }
  | _ => none }
def hystartEndsRow : OpenClaim := { program := "ytflljnaojghifaa", sum := "3b3f6823fbcdaa44646e072d8bd4fbc6671c9eed2227dcbf44a89767965ca340", func := "sawtooth/sawtoothlaw10.HystartEnds", spec := "hystartEnds", unfollowed := true, recurses := true, apart := false }
def HystartEndsSaid : Prop := hystartEndsRow.holds Try.pinned (OpenSpec.ofChange hystartEndsSpec)

/-- ITS FALSE NEIGHBOUR: 'it returns false'. Refute it at one input. -/
def hystartEndsWrong : ChangeSpec := { name := "hystartEnds", fn := fun _ => fun
  | [d] => { results := [.lit (.bool false)], args := [d] }
  | _ => none }
def HystartEndsWrongFalsely : Prop := hystartEndsRow.holds Try.pinned (OpenSpec.ofChange hystartEndsWrong)

/-- 'sawtoothlaw10.HystartEnters': WHATEVER THE INPUT: true; the input reads as it did. -/
def hystartEntersSpec : ChangeSpec := { name := "hystartEnters", fn := fun _ => fun
  | [d1, d2] => { results := [.lit (.bool true)], args := [d1, d2] }
  | _ => none }
def hystartEntersRow : OpenClaim := { program := "ytflljnaojghifaa", sum := "3b3f6823fbcdaa44646e072d8bd4fbc6671c9eed2227dcbf44a89767965ca340", func := "sawtooth/sawtoothlaw10.HystartEnters", spec := "hystartEnters", unfollowed := true, recurses := true, apart := false }
def HystartEntersSaid : Prop := hystartEntersRow.holds Try.pinned (OpenSpec.ofChange hystartEntersSpec)

/-- ITS FALSE NEIGHBOUR: 'it returns false'. Refute it at one input. -/
def hystartEntersWrong : ChangeSpec := { name := "hystartEnters", fn := fun _ => fun
  | [d1, d2] => { results := [.lit (.bool false)], args := [d1, d2] }
  | _ => none }
def HystartEntersWrongFalsely : Prop := hystartEntersRow.holds Try.pinned (OpenSpec.ofChange hystartEntersWrong)

/-- 'sawtoothlaw10.HystartLeast': WHATEVER THE INPUT: true; the input reads as it did. -/
def hystartLeastSpec : ChangeSpec := { name := "hystartLeast", fn := fun _ => fun
  | [d] => { results := [.lit (.bool true)], args := [d] }
  | _ => none }
def hystartLeastRow : OpenClaim := { program := "ytflljnaojghifaa", sum := "3b3f6823fbcdaa44646e072d8bd4fbc6671c9eed2227dcbf44a89767965ca340", func := "sawtooth/sawtoothlaw10.HystartLeast", spec := "hystartLeast", unfollowed := true, recurses := true, apart := false }
def HystartLeastSaid : Prop := hystartLeastRow.holds Try.pinned (OpenSpec.ofChange hystartLeastSpec)

/-- ITS FALSE NEIGHBOUR: 'it returns false'. Refute it at one input. -/
def hystartLeastWrong : ChangeSpec := { name := "hystartLeast", fn := fun _ => fun
  | [d] => { results := [.lit (.bool false)], args := [d] }
  | _ => none }
def HystartLeastWrongFalsely : Prop := hystartLeastRow.holds Try.pinned (OpenSpec.ofChange hystartLeastWrong)

/-- 'sawtoothlaw10.HystartParts': WHATEVER THE INPUT: true; the input reads as it did. -/
def hystartPartsSpec : ChangeSpec := { name := "hystartParts", fn := fun _ => fun
  | [d1, d2, d3] => { results := [.lit (.bool true)], args := [d1, d2, d3] }
  | _ => none }
def hystartPartsRow : OpenClaim := { program := "ytflljnaojghifaa", sum := "3b3f6823fbcdaa44646e072d8bd4fbc6671c9eed2227dcbf44a89767965ca340", func := "sawtooth/sawtoothlaw10.HystartParts", spec := "hystartParts", unfollowed := true, recurses := true, apart := false }
def HystartPartsSaid : Prop := hystartPartsRow.holds Try.pinned (OpenSpec.ofChange hystartPartsSpec)

/-- ITS FALSE NEIGHBOUR: 'it returns false'. Refute it at one input. -/
def hystartPartsWrong : ChangeSpec := { name := "hystartParts", fn := fun _ => fun
  | [d1, d2, d3] => { results := [.lit (.bool false)], args := [d1, d2, d3] }
  | _ => none }
def HystartPartsWrongFalsely : Prop := hystartPartsRow.holds Try.pinned (OpenSpec.ofChange hystartPartsWrong)

/-- 'sawtoothlaw03.RootTells': WHATEVER THE INPUT: true; the input reads as it did. -/
def rootTellsSpec : ChangeSpec := { name := "rootTells", fn := fun _ => fun
  | [d1, d2] => { results := [.lit (.bool true)], args := [d1, d2] }
  | _ => none }
def rootTellsRow : OpenClaim := { program := "ytflljnaojghifaa", sum := "3b3f6823fbcdaa44646e072d8bd4fbc6671c9eed2227dcbf44a89767965ca340", func := "sawtooth/sawtoothlaw03.RootTells", spec := "rootTells", inPlace := ["math/bits.Add64"], unfollowed := true, recurses := true, apart := false }
def RootTellsSaid : Prop := rootTellsRow.holds Try.pinned (OpenSpec.ofChange rootTellsSpec)

/-- ITS FALSE NEIGHBOUR: 'it returns false'. Refute it at one input. -/
def rootTellsWrong : ChangeSpec := { name := "rootTells", fn := fun _ => fun
  | [d1, d2] => { results := [.lit (.bool false)], args := [d1, d2] }
  | _ => none }
def RootTellsWrongFalsely : Prop := rootTellsRow.holds Try.pinned (OpenSpec.ofChange rootTellsWrong)

/-- 'sawtoothlaw03.RootBounds': WHATEVER THE INPUT: true; the input reads as it did. -/
def rootBoundsSpec : ChangeSpec := { name := "rootBounds", fn := fun _ => fun
  | [d] => { results := [.lit (.bool true)], args := [d] }
  | _ => none }
def rootBoundsRow : OpenClaim := { program := "ytflljnaojghifaa", sum := "3b3f6823fbcdaa44646e072d8bd4fbc6671c9eed2227dcbf44a89767965ca340", func := "sawtooth/sawtoothlaw03.RootBounds", spec := "rootBounds", inPlace := ["math/bits.Add64"], unfollowed := true, recurses := true, apart := false }
def RootBoundsSaid : Prop := rootBoundsRow.holds Try.pinned (OpenSpec.ofChange rootBoundsSpec)

/-- ITS FALSE NEIGHBOUR: 'it returns false'. Refute it at one input. -/
def rootBoundsWrong : ChangeSpec := { name := "rootBounds", fn := fun _ => fun
  | [d] => { results := [.lit (.bool false)], args := [d] }
  | _ => none }
def RootBoundsWrongFalsely : Prop := rootBoundsRow.holds Try.pinned (OpenSpec.ofChange rootBoundsWrong)

/-- 'sawtoothlaw03.RootRises': WHATEVER THE INPUT: true; the input reads as it did. -/
def rootRisesSpec : ChangeSpec := { name := "rootRises", fn := fun _ => fun
  | [d1, d2] => { results := [.lit (.bool true)], args := [d1, d2] }
  | _ => none }
def rootRisesRow : OpenClaim := { program := "ytflljnaojghifaa", sum := "3b3f6823fbcdaa44646e072d8bd4fbc6671c9eed2227dcbf44a89767965ca340", func := "sawtooth/sawtoothlaw03.RootRises", spec := "rootRises", inPlace := ["math/bits.Add64"], unfollowed := true, recurses := true, apart := false }
def RootRisesSaid : Prop := rootRisesRow.holds Try.pinned (OpenSpec.ofChange rootRisesSpec)

/-- ITS FALSE NEIGHBOUR: 'it returns false'. Refute it at one input. -/
def rootRisesWrong : ChangeSpec := { name := "rootRises", fn := fun _ => fun
  | [d1, d2] => { results := [.lit (.bool false)], args := [d1, d2] }
  | _ => none }
def RootRisesWrongFalsely : Prop := rootRisesRow.holds Try.pinned (OpenSpec.ofChange rootRisesWrong)

/-- 'sawtoothlaw03.RootCubes': WHATEVER THE INPUT: true; the input reads as it did. -/
def rootCubesSpec : ChangeSpec := { name := "rootCubes", fn := fun _ => fun
  | [d1, d2] => { results := [.lit (.bool true)], args := [d1, d2] }
  | _ => none }
def rootCubesRow : OpenClaim := { program := "ytflljnaojghifaa", sum := "3b3f6823fbcdaa44646e072d8bd4fbc6671c9eed2227dcbf44a89767965ca340", func := "sawtooth/sawtoothlaw03.RootCubes", spec := "rootCubes", inPlace := ["math/bits.Add64"], unfollowed := true, recurses := true, apart := false }
def RootCubesSaid : Prop := rootCubesRow.holds Try.pinned (OpenSpec.ofChange rootCubesSpec)

/-- ITS FALSE NEIGHBOUR: 'it returns false'. Refute it at one input. -/
def rootCubesWrong : ChangeSpec := { name := "rootCubes", fn := fun _ => fun
  | [d1, d2] => { results := [.lit (.bool false)], args := [d1, d2] }
  | _ => none }
def RootCubesWrongFalsely : Prop := rootCubesRow.holds Try.pinned (OpenSpec.ofChange rootCubesWrong)

/-- 'sawtoothlaw03.RootEight': WHATEVER THE INPUT: true; the input reads as it did. -/
def rootEightSpec : ChangeSpec := { name := "rootEight", fn := fun _ => fun
  | [d] => { results := [.lit (.bool true)], args := [d] }
  | _ => none }
def rootEightRow : OpenClaim := { program := "ytflljnaojghifaa", sum := "3b3f6823fbcdaa44646e072d8bd4fbc6671c9eed2227dcbf44a89767965ca340", func := "sawtooth/sawtoothlaw03.RootEight", spec := "rootEight", inPlace := ["math/bits.Add64"], unfollowed := true, recurses := true, apart := false }
def RootEightSaid : Prop := rootEightRow.holds Try.pinned (OpenSpec.ofChange rootEightSpec)

/-- ITS FALSE NEIGHBOUR: 'it returns false'. Refute it at one input. -/
def rootEightWrong : ChangeSpec := { name := "rootEight", fn := fun _ => fun
  | [d] => { results := [.lit (.bool false)], args := [d] }
  | _ => none }
def RootEightWrongFalsely : Prop := rootEightRow.holds Try.pinned (OpenSpec.ofChange rootEightWrong)

/-- 'sawtoothlaw03.RootBack': WHATEVER THE INPUT: true; the input reads as it did. -/
def rootBackSpec : ChangeSpec := { name := "rootBack", fn := fun _ => fun
  | [d1, d2] => { results := [.lit (.bool true)], args := [d1, d2] }
  | _ => none }
def rootBackRow : OpenClaim := { program := "ytflljnaojghifaa", sum := "3b3f6823fbcdaa44646e072d8bd4fbc6671c9eed2227dcbf44a89767965ca340", func := "sawtooth/sawtoothlaw03.RootBack", spec := "rootBack", inPlace := ["math/bits.Add64", "math/bits.Sub64"], unfollowed := true, recurses := true, apart := false }
def RootBackSaid : Prop := rootBackRow.holds Try.pinned (OpenSpec.ofChange rootBackSpec)

/-- ITS FALSE NEIGHBOUR: 'it returns false'. Refute it at one input. -/
def rootBackWrong : ChangeSpec := { name := "rootBack", fn := fun _ => fun
  | [d1, d2] => { results := [.lit (.bool false)], args := [d1, d2] }
  | _ => none }
def RootBackWrongFalsely : Prop := rootBackRow.holds Try.pinned (OpenSpec.ofChange rootBackWrong)

/- THE SECOND FORM. 'bulk': how many values and letters a reading holds, each counted each time it is reached (what is shared counts as often as it is met; a slice's spare places count too). A statement '..UptoSaid' is the law's where the arguments, and the package variables that the reading takes, are together of bulk at most 1048576: NARROWER than '..Said'. Prove '..Said' where nothing that the law and all that it calls make is longer than what came in: it says more and counts as full. Else prove '..UptoSaid'. A law counts once. -/
mutual
def uptoBulk {H : Type} : DataW H → Nat
  | .lit (.string bytes) => bytes.length + 1
  | .lit _ => 1
  | .nil => 1
  | .ptr d => uptoBulk d + 1
  | .slice elems spare => uptoBulkAll elems + uptoBulkAll spare + 1
  | .agg parts => uptoBulkAll parts + 1
  | .iface _ d => uptoBulk d + 1
  | .map entries => uptoBulkEntries entries + 1
  | .held _ => 1
def uptoBulkAll {H : Type} : List (DataW H) → Nat
  | [] => 0
  | d :: r => uptoBulk d + uptoBulkAll r
def uptoBulkEntries {H : Type} : List (Lit × DataW H) → Nat
  | [] => 0
  | x :: r => uptoBulkEntry x + uptoBulkEntries r
def uptoBulkEntry {H : Type} : Lit × DataW H → Nat
  | (.string bytes, d) => bytes.length + uptoBulk d + 1
  | (_, d) => uptoBulk d + 1
 end
def uptoSmall : (H : Type) → List (DataW H) → Bool := fun _ ds => decide (uptoBulkAll ds ≤ 1048576)
def OpenSpec.upto (s : _root_.Go.ChangeSpec) : _root_.Go.OpenSpec := { _root_.Go.OpenSpec.ofChange s with cond := some uptoSmall }

/-- 'sawtoothlaw20.EventTells', WHERE WHAT IT READS IS OF BULK AT MOST 1048576: true; the input reads as it did. -/
def eventTellsUptoRow : OpenClaim := { program := "ytflljnaojghifaa", sum := "3b3f6823fbcdaa44646e072d8bd4fbc6671c9eed2227dcbf44a89767965ca340", func := "sawtooth/sawtoothlaw20.EventTells", spec := "eventTells", unfollowed := true, recurses := true, apart := false, narrowed := true }
def EventTellsUptoSaid : Prop := eventTellsUptoRow.holds Try.pinned (OpenSpec.upto eventTellsSpec)

/-- 'sawtoothlaw20.EventBack', WHERE WHAT IT READS IS OF BULK AT MOST 1048576: true; the input reads as it did. -/
def eventBackUptoRow : OpenClaim := { program := "ytflljnaojghifaa", sum := "3b3f6823fbcdaa44646e072d8bd4fbc6671c9eed2227dcbf44a89767965ca340", func := "sawtooth/sawtoothlaw20.EventBack", spec := "eventBack", unfollowed := true, recurses := true, apart := false, narrowed := true }
def EventBackUptoSaid : Prop := eventBackUptoRow.holds Try.pinned (OpenSpec.upto eventBackSpec)

/-- 'sawtoothlaw20.EventRises', WHERE WHAT IT READS IS OF BULK AT MOST 1048576: true; the input reads as it did. -/
def eventRisesUptoRow : OpenClaim := { program := "ytflljnaojghifaa", sum := "3b3f6823fbcdaa44646e072d8bd4fbc6671c9eed2227dcbf44a89767965ca340", func := "sawtooth/sawtoothlaw20.EventRises", spec := "eventRises", unfollowed := true, recurses := true, apart := false, narrowed := true }
def EventRisesUptoSaid : Prop := eventRisesUptoRow.holds Try.pinned (OpenSpec.upto eventRisesSpec)

/-- 'sawtoothlaw20.EventKinds', WHERE WHAT IT READS IS OF BULK AT MOST 1048576: true; the input reads as it did. -/
def eventKindsUptoRow : OpenClaim := { program := "ytflljnaojghifaa", sum := "3b3f6823fbcdaa44646e072d8bd4fbc6671c9eed2227dcbf44a89767965ca340", func := "sawtooth/sawtoothlaw20.EventKinds", spec := "eventKinds", unfollowed := true, recurses := true, apart := false, narrowed := true }
def EventKindsUptoSaid : Prop := eventKindsUptoRow.holds Try.pinned (OpenSpec.upto eventKindsSpec)

/-- 'sawtoothlaw20.EventParts', WHERE WHAT IT READS IS OF BULK AT MOST 1048576: true; the input reads as it did. -/
def eventPartsUptoRow : OpenClaim := { program := "ytflljnaojghifaa", sum := "3b3f6823fbcdaa44646e072d8bd4fbc6671c9eed2227dcbf44a89767965ca340", func := "sawtooth/sawtoothlaw20.EventParts", spec := "eventParts", unfollowed := true, recurses := true, apart := false, narrowed := true }
def EventPartsUptoSaid : Prop := eventPartsUptoRow.holds Try.pinned (OpenSpec.upto eventPartsSpec)

/-- 'sawtoothlaw20.EventLater', WHERE WHAT IT READS IS OF BULK AT MOST 1048576: true; the input reads as it did. -/
def eventLaterUptoRow : OpenClaim := { program := "ytflljnaojghifaa", sum := "3b3f6823fbcdaa44646e072d8bd4fbc6671c9eed2227dcbf44a89767965ca340", func := "sawtooth/sawtoothlaw20.EventLater", spec := "eventLater", unfollowed := true, recurses := true, apart := false, narrowed := true }
def EventLaterUptoSaid : Prop := eventLaterUptoRow.holds Try.pinned (OpenSpec.upto eventLaterSpec)

/-- 'sawtoothlaw10.HystartTells', WHERE WHAT IT READS IS OF BULK AT MOST 1048576: true; the input reads as it did. -/
def hystartTellsUptoRow : OpenClaim := { program := "ytflljnaojghifaa", sum := "3b3f6823fbcdaa44646e072d8bd4fbc6671c9eed2227dcbf44a89767965ca340", func := "sawtooth/sawtoothlaw10.HystartTells", spec := "hystartTells", unfollowed := true, recurses := true, apart := false, narrowed := true }
def HystartTellsUptoSaid : Prop := hystartTellsUptoRow.holds Try.pinned (OpenSpec.upto hystartTellsSpec)

/-- 'sawtoothlaw10.HystartStays', WHERE WHAT IT READS IS OF BULK AT MOST 1048576: true; the input reads as it did. -/
def hystartStaysUptoRow : OpenClaim := { program := "ytflljnaojghifaa", sum := "3b3f6823fbcdaa44646e072d8bd4fbc6671c9eed2227dcbf44a89767965ca340", func := "sawtooth/sawtoothlaw10.HystartStays", spec := "hystartStays", unfollowed := true, recurses := true, apart := false, narrowed := true }
def HystartStaysUptoSaid : Prop := hystartStaysUptoRow.holds Try.pinned (OpenSpec.upto hystartStaysSpec)

/-- 'sawtoothlaw10.HystartEnds', WHERE WHAT IT READS IS OF BULK AT MOST 1048576: true; the input reads as it did. -/
def hystartEndsUptoRow : OpenClaim := { program := "ytflljnaojghifaa", sum := "3b3f6823fbcdaa44646e072d8bd4fbc6671c9eed2227dcbf44a89767965ca340", func := "sawtooth/sawtoothlaw10.HystartEnds", spec := "hystartEnds", unfollowed := true, recurses := true, apart := false, narrowed := true }
def HystartEndsUptoSaid : Prop := hystartEndsUptoRow.holds Try.pinned (OpenSpec.upto hystartEndsSpec)

/-- 'sawtoothlaw10.HystartEnters', WHERE WHAT IT READS IS OF BULK AT MOST 1048576: true; the input reads as it did. -/
def hystartEntersUptoRow : OpenClaim := { program := "ytflljnaojghifaa", sum := "3b3f6823fbcdaa44646e072d8bd4fbc6671c9eed2227dcbf44a89767965ca340", func := "sawtooth/sawtoothlaw10.HystartEnters", spec := "hystartEnters", unfollowed := true, recurses := true, apart := false, narrowed := true }
def HystartEntersUptoSaid : Prop := hystartEntersUptoRow.holds Try.pinned (OpenSpec.upto hystartEntersSpec)

/-- 'sawtoothlaw10.HystartLeast', WHERE WHAT IT READS IS OF BULK AT MOST 1048576: true; the input reads as it did. -/
def hystartLeastUptoRow : OpenClaim := { program := "ytflljnaojghifaa", sum := "3b3f6823fbcdaa44646e072d8bd4fbc6671c9eed2227dcbf44a89767965ca340", func := "sawtooth/sawtoothlaw10.HystartLeast", spec := "hystartLeast", unfollowed := true, recurses := true, apart := false, narrowed := true }
def HystartLeastUptoSaid : Prop := hystartLeastUptoRow.holds Try.pinned (OpenSpec.upto hystartLeastSpec)

/-- 'sawtoothlaw10.HystartParts', WHERE WHAT IT READS IS OF BULK AT MOST 1048576: true; the input reads as it did. -/
def hystartPartsUptoRow : OpenClaim := { program := "ytflljnaojghifaa", sum := "3b3f6823fbcdaa44646e072d8bd4fbc6671c9eed2227dcbf44a89767965ca340", func := "sawtooth/sawtoothlaw10.HystartParts", spec := "hystartParts", unfollowed := true, recurses := true, apart := false, narrowed := true }
def HystartPartsUptoSaid : Prop := hystartPartsUptoRow.holds Try.pinned (OpenSpec.upto hystartPartsSpec)

/-- 'sawtoothlaw03.RootTells', WHERE WHAT IT READS IS OF BULK AT MOST 1048576: true; the input reads as it did. -/
def rootTellsUptoRow : OpenClaim := { program := "ytflljnaojghifaa", sum := "3b3f6823fbcdaa44646e072d8bd4fbc6671c9eed2227dcbf44a89767965ca340", func := "sawtooth/sawtoothlaw03.RootTells", spec := "rootTells", inPlace := ["math/bits.Add64"], unfollowed := true, recurses := true, apart := false, narrowed := true }
def RootTellsUptoSaid : Prop := rootTellsUptoRow.holds Try.pinned (OpenSpec.upto rootTellsSpec)

/-- 'sawtoothlaw03.RootBounds', WHERE WHAT IT READS IS OF BULK AT MOST 1048576: true; the input reads as it did. -/
def rootBoundsUptoRow : OpenClaim := { program := "ytflljnaojghifaa", sum := "3b3f6823fbcdaa44646e072d8bd4fbc6671c9eed2227dcbf44a89767965ca340", func := "sawtooth/sawtoothlaw03.RootBounds", spec := "rootBounds", inPlace := ["math/bits.Add64"], unfollowed := true, recurses := true, apart := false, narrowed := true }
def RootBoundsUptoSaid : Prop := rootBoundsUptoRow.holds Try.pinned (OpenSpec.upto rootBoundsSpec)

/-- 'sawtoothlaw03.RootRises', WHERE WHAT IT READS IS OF BULK AT MOST 1048576: true; the input reads as it did. -/
def rootRisesUptoRow : OpenClaim := { program := "ytflljnaojghifaa", sum := "3b3f6823fbcdaa44646e072d8bd4fbc6671c9eed2227dcbf44a89767965ca340", func := "sawtooth/sawtoothlaw03.RootRises", spec := "rootRises", inPlace := ["math/bits.Add64"], unfollowed := true, recurses := true, apart := false, narrowed := true }
def RootRisesUptoSaid : Prop := rootRisesUptoRow.holds Try.pinned (OpenSpec.upto rootRisesSpec)

/-- 'sawtoothlaw03.RootCubes', WHERE WHAT IT READS IS OF BULK AT MOST 1048576: true; the input reads as it did. -/
def rootCubesUptoRow : OpenClaim := { program := "ytflljnaojghifaa", sum := "3b3f6823fbcdaa44646e072d8bd4fbc6671c9eed2227dcbf44a89767965ca340", func := "sawtooth/sawtoothlaw03.RootCubes", spec := "rootCubes", inPlace := ["math/bits.Add64"], unfollowed := true, recurses := true, apart := false, narrowed := true }
def RootCubesUptoSaid : Prop := rootCubesUptoRow.holds Try.pinned (OpenSpec.upto rootCubesSpec)

/-- 'sawtoothlaw03.RootEight', WHERE WHAT IT READS IS OF BULK AT MOST 1048576: true; the input reads as it did. -/
def rootEightUptoRow : OpenClaim := { program := "ytflljnaojghifaa", sum := "3b3f6823fbcdaa44646e072d8bd4fbc6671c9eed2227dcbf44a89767965ca340", func := "sawtooth/sawtoothlaw03.RootEight", spec := "rootEight", inPlace := ["math/bits.Add64"], unfollowed := true, recurses := true, apart := false, narrowed := true }
def RootEightUptoSaid : Prop := rootEightUptoRow.holds Try.pinned (OpenSpec.upto rootEightSpec)

/-- 'sawtoothlaw03.RootBack', WHERE WHAT IT READS IS OF BULK AT MOST 1048576: true; the input reads as it did. -/
def rootBackUptoRow : OpenClaim := { program := "ytflljnaojghifaa", sum := "3b3f6823fbcdaa44646e072d8bd4fbc6671c9eed2227dcbf44a89767965ca340", func := "sawtooth/sawtoothlaw03.RootBack", spec := "rootBack", inPlace := ["math/bits.Add64", "math/bits.Sub64"], unfollowed := true, recurses := true, apart := false, narrowed := true }
def RootBackUptoSaid : Prop := rootBackUptoRow.holds Try.pinned (OpenSpec.upto rootBackSpec)

end Rows
end Go.Proofs.Ytflljnaojghifaa
