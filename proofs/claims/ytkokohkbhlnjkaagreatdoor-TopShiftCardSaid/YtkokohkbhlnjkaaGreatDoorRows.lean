/-
  NARROWER THAN 'FOR EVERY INPUT', by the rows' own cells (each row's printed sentence says how): TopShift: laid · TopRaw: laid · TopBytes: laid · EngineStates: laid · EngineStays: laid · EngineSends: laid · EngineGrows: laid · EngineLate: laid · EngineIdle: laid · ReplayTells: laid · ReplayRefused: laid · ReplaySteps: laid · ReplayParts: laid · ReplayBounds: laid · ReplayTicks: laid.
  DERIVED. THE GIVEN ROWS OF THIS SEAT. 15 by the template 'for every input the law returns true; each argument reads behind the call as it read before'; 0 by the template 'total and deterministic' (their statements: YtkokohkbhlnjkaaGreatDoorTotals.lean).
  GIVEN WITH THE SEED: the statements are not yours to turn. If you find one false, say at which input.
  Laid BY PROGRAM, IN A SANDBOX (cutbox-rows.mjs): the forced cells as the released guide's own fill.sh prints them over the translation fb25e2baff74dea2… (all of the seat's roots in one cut). By AI agents, Wed Nov 11 2026. No macro, syntax, notation, axiom, sorry.
-/
import Derived.Test.YtkokohkbhlnjkaaGreatDoorChecked
import GoSem.Claim
import GoSem.ClaimJoined
import GoSem.ClaimMapViews
import Derived.JoinedTies
import Derived.KernelRfl
namespace Go.Proofs.YtkokohkbhlnjkaaGreatDoor
/- THE CELL 'sum', in the pinned program and in every row, IS THE sha256 OF THE DUMP (.gsa) THAT YtkokohkbhlnjkaaGreatDoorProg.lean LOADS. Nothing in Lean hashes anything: it is a label: what it is worth is what the hold of that sum in a sandbox is worth. -/
noncomputable def Tryz.pinned : Pinned := { name := "ytkokohkbhlnjkaagreatdoor", sum := "fb25e2baff74dea21088408166c033c6f07c72792b5badb38d60b92513675759", checked := Tryz.checked }
namespace Rows
def none {H : Type} : Left H := { results := [], args := [] }

/- WHAT THE LISTED PACKAGE-LEVEL VARIABLES READ AS WHEN THE CALL BEGINS. Each datum BY PROGRAM (the guide's laid-datum.mjs) off the statement by which the dump's own 'gosem.cut.vars' lays the variable. In a bare row this is a premise. The card (YtkokohkbhlnjkaaGreatDoorCards.lean) ties it to the program's text. -/
def laid_sawtooth_epoch_tens {H : Type} : DataW H := .agg [.lit (.int .u64 1000000000), .lit (.int .u64 10000000000)]

/-- 'sawtoothtop.TopShift': WHATEVER THE INPUT: true; the input reads as it did. -/
def topShiftSpec : ChangeSpec := { name := "topShift", fn := fun _ => fun
  | [d1, d2, d3] => { results := [.lit (.bool true)], args := [d1, d2, d3] }
  | _ => none }
def topShiftRow : OpenClaim := { program := "ytkokohkbhlnjkaagreatdoor", sum := "fb25e2baff74dea21088408166c033c6f07c72792b5badb38d60b92513675759", func := "sawtooth/sawtoothtop.TopShift", spec := "topShift", inPlace := ["math/bits.Sub64", "math/bits.Add64"], unfollowed := true, recurses := true, named := ["math/bits.divideError", "math/bits.overflowError", "sawtooth/epoch.tens"], leaving := true, apart := false, laid := [("sawtooth/epoch.tens", laid_sawtooth_epoch_tens)] }
def TopShiftSaid : Prop := topShiftRow.holds Tryz.pinned (OpenSpec.ofChange topShiftSpec)

/-- ITS FALSE NEIGHBOUR: 'it returns false'. Refute it at one input. -/
def topShiftWrong : ChangeSpec := { name := "topShift", fn := fun _ => fun
  | [d1, d2, d3] => { results := [.lit (.bool false)], args := [d1, d2, d3] }
  | _ => none }
def TopShiftWrongFalsely : Prop := topShiftRow.holds Tryz.pinned (OpenSpec.ofChange topShiftWrong)

/-- 'sawtoothtop.TopRaw': WHATEVER THE INPUT: true; the input reads as it did. -/
def topRawSpec : ChangeSpec := { name := "topRaw", fn := fun _ => fun
  | [d1, d2] => { results := [.lit (.bool true)], args := [d1, d2] }
  | _ => none }
def topRawRow : OpenClaim := { program := "ytkokohkbhlnjkaagreatdoor", sum := "fb25e2baff74dea21088408166c033c6f07c72792b5badb38d60b92513675759", func := "sawtooth/sawtoothtop.TopRaw", spec := "topRaw", inPlace := ["math/bits.Sub64", "math/bits.Add64"], unfollowed := true, recurses := true, named := ["math/bits.divideError", "math/bits.overflowError", "sawtooth/epoch.tens"], leaving := true, apart := false, laid := [("sawtooth/epoch.tens", laid_sawtooth_epoch_tens)] }
def TopRawSaid : Prop := topRawRow.holds Tryz.pinned (OpenSpec.ofChange topRawSpec)

/-- ITS FALSE NEIGHBOUR: 'it returns false'. Refute it at one input. -/
def topRawWrong : ChangeSpec := { name := "topRaw", fn := fun _ => fun
  | [d1, d2] => { results := [.lit (.bool false)], args := [d1, d2] }
  | _ => none }
def TopRawWrongFalsely : Prop := topRawRow.holds Tryz.pinned (OpenSpec.ofChange topRawWrong)

/-- 'sawtoothtop.TopBytes': WHATEVER THE INPUT: true; the input reads as it did. -/
def topBytesSpec : ChangeSpec := { name := "topBytes", fn := fun _ => fun
  | [d] => { results := [.lit (.bool true)], args := [d] }
  | _ => none }
def topBytesRow : OpenClaim := { program := "ytkokohkbhlnjkaagreatdoor", sum := "fb25e2baff74dea21088408166c033c6f07c72792b5badb38d60b92513675759", func := "sawtooth/sawtoothtop.TopBytes", spec := "topBytes", inPlace := ["math/bits.Sub64", "math/bits.Add64"], unfollowed := true, recurses := true, named := ["math/bits.divideError", "math/bits.overflowError", "sawtooth/epoch.tens"], leaving := true, apart := false, laid := [("sawtooth/epoch.tens", laid_sawtooth_epoch_tens)] }
def TopBytesSaid : Prop := topBytesRow.holds Tryz.pinned (OpenSpec.ofChange topBytesSpec)

/-- ITS FALSE NEIGHBOUR: 'it returns false'. Refute it at one input. -/
def topBytesWrong : ChangeSpec := { name := "topBytes", fn := fun _ => fun
  | [d] => { results := [.lit (.bool false)], args := [d] }
  | _ => none }
def TopBytesWrongFalsely : Prop := topBytesRow.holds Tryz.pinned (OpenSpec.ofChange topBytesWrong)

/-- 'sawtoothlaw21.EngineStates': WHATEVER THE INPUT: true; the input reads as it did. -/
def engineStatesSpec : ChangeSpec := { name := "engineStates", fn := fun _ => fun
  | [d1, d2] => { results := [.lit (.bool true)], args := [d1, d2] }
  | _ => none }
def engineStatesRow : OpenClaim := { program := "ytkokohkbhlnjkaagreatdoor", sum := "fb25e2baff74dea21088408166c033c6f07c72792b5badb38d60b92513675759", func := "sawtooth/sawtoothlaw21.EngineStates", spec := "engineStates", inPlace := ["math/bits.Add64", "math/bits.Sub64"], unfollowed := true, recurses := true, named := ["sawtooth/epoch.tens", "math/bits.divideError", "math/bits.overflowError"], leaving := true, apart := false, laid := [("sawtooth/epoch.tens", laid_sawtooth_epoch_tens)] }
def EngineStatesSaid : Prop := engineStatesRow.holds Tryz.pinned (OpenSpec.ofChange engineStatesSpec)

/-- ITS FALSE NEIGHBOUR: 'it returns false'. Refute it at one input. -/
def engineStatesWrong : ChangeSpec := { name := "engineStates", fn := fun _ => fun
  | [d1, d2] => { results := [.lit (.bool false)], args := [d1, d2] }
  | _ => none }
def EngineStatesWrongFalsely : Prop := engineStatesRow.holds Tryz.pinned (OpenSpec.ofChange engineStatesWrong)

/-- 'sawtoothlaw21.EngineStays': WHATEVER THE INPUT: true; the input reads as it did. -/
def engineStaysSpec : ChangeSpec := { name := "engineStays", fn := fun _ => fun
  | [d1, d2] => { results := [.lit (.bool true)], args := [d1, d2] }
  | _ => none }
def engineStaysRow : OpenClaim := { program := "ytkokohkbhlnjkaagreatdoor", sum := "fb25e2baff74dea21088408166c033c6f07c72792b5badb38d60b92513675759", func := "sawtooth/sawtoothlaw21.EngineStays", spec := "engineStays", inPlace := ["math/bits.Add64", "math/bits.Sub64"], unfollowed := true, recurses := true, named := ["sawtooth/epoch.tens", "math/bits.divideError", "math/bits.overflowError"], leaving := true, apart := false, laid := [("sawtooth/epoch.tens", laid_sawtooth_epoch_tens)] }
def EngineStaysSaid : Prop := engineStaysRow.holds Tryz.pinned (OpenSpec.ofChange engineStaysSpec)

/-- ITS FALSE NEIGHBOUR: 'it returns false'. Refute it at one input. -/
def engineStaysWrong : ChangeSpec := { name := "engineStays", fn := fun _ => fun
  | [d1, d2] => { results := [.lit (.bool false)], args := [d1, d2] }
  | _ => none }
def EngineStaysWrongFalsely : Prop := engineStaysRow.holds Tryz.pinned (OpenSpec.ofChange engineStaysWrong)

/-- 'sawtoothlaw21.EngineSends': WHATEVER THE INPUT: true; the input reads as it did. -/
def engineSendsSpec : ChangeSpec := { name := "engineSends", fn := fun _ => fun
  | [d1, d2] => { results := [.lit (.bool true)], args := [d1, d2] }
  | _ => none }
def engineSendsRow : OpenClaim := { program := "ytkokohkbhlnjkaagreatdoor", sum := "fb25e2baff74dea21088408166c033c6f07c72792b5badb38d60b92513675759", func := "sawtooth/sawtoothlaw21.EngineSends", spec := "engineSends", inPlace := ["math/bits.Add64", "math/bits.Sub64"], unfollowed := true, recurses := true, named := ["sawtooth/epoch.tens", "math/bits.divideError", "math/bits.overflowError"], leaving := true, apart := false, laid := [("sawtooth/epoch.tens", laid_sawtooth_epoch_tens)] }
def EngineSendsSaid : Prop := engineSendsRow.holds Tryz.pinned (OpenSpec.ofChange engineSendsSpec)

/-- ITS FALSE NEIGHBOUR: 'it returns false'. Refute it at one input. -/
def engineSendsWrong : ChangeSpec := { name := "engineSends", fn := fun _ => fun
  | [d1, d2] => { results := [.lit (.bool false)], args := [d1, d2] }
  | _ => none }
def EngineSendsWrongFalsely : Prop := engineSendsRow.holds Tryz.pinned (OpenSpec.ofChange engineSendsWrong)

/-- 'sawtoothlaw21.EngineGrows': WHATEVER THE INPUT: true; the input reads as it did. -/
def engineGrowsSpec : ChangeSpec := { name := "engineGrows", fn := fun _ => fun
  | [d1, d2, d3, d4] => { results := [.lit (.bool true)], args := [d1, d2, d3, d4] }
  | _ => none }
def engineGrowsRow : OpenClaim := { program := "ytkokohkbhlnjkaagreatdoor", sum := "fb25e2baff74dea21088408166c033c6f07c72792b5badb38d60b92513675759", func := "sawtooth/sawtoothlaw21.EngineGrows", spec := "engineGrows", inPlace := ["math/bits.Add64", "math/bits.Sub64"], unfollowed := true, recurses := true, named := ["sawtooth/epoch.tens", "math/bits.divideError", "math/bits.overflowError"], leaving := true, apart := false, laid := [("sawtooth/epoch.tens", laid_sawtooth_epoch_tens)] }
def EngineGrowsSaid : Prop := engineGrowsRow.holds Tryz.pinned (OpenSpec.ofChange engineGrowsSpec)

/-- ITS FALSE NEIGHBOUR: 'it returns false'. Refute it at one input. -/
def engineGrowsWrong : ChangeSpec := { name := "engineGrows", fn := fun _ => fun
  | [d1, d2, d3, d4] => { results := [.lit (.bool false)], args := [d1, d2, d3, d4] }
  | _ => none }
def EngineGrowsWrongFalsely : Prop := engineGrowsRow.holds Tryz.pinned (OpenSpec.ofChange engineGrowsWrong)

/-- 'sawtoothlaw21.EngineLate': WHATEVER THE INPUT: true; the input reads as it did. -/
def engineLateSpec : ChangeSpec := { name := "engineLate", fn := fun _ => fun
  | [d1, d2] => { results := [.lit (.bool true)], args := [d1, d2] }
  | _ => none }
def engineLateRow : OpenClaim := { program := "ytkokohkbhlnjkaagreatdoor", sum := "fb25e2baff74dea21088408166c033c6f07c72792b5badb38d60b92513675759", func := "sawtooth/sawtoothlaw21.EngineLate", spec := "engineLate", inPlace := ["math/bits.Add64", "math/bits.Sub64"], unfollowed := true, recurses := true, named := ["sawtooth/epoch.tens", "math/bits.divideError", "math/bits.overflowError"], leaving := true, apart := false, laid := [("sawtooth/epoch.tens", laid_sawtooth_epoch_tens)] }
def EngineLateSaid : Prop := engineLateRow.holds Tryz.pinned (OpenSpec.ofChange engineLateSpec)

/-- ITS FALSE NEIGHBOUR: 'it returns false'. Refute it at one input. -/
def engineLateWrong : ChangeSpec := { name := "engineLate", fn := fun _ => fun
  | [d1, d2] => { results := [.lit (.bool false)], args := [d1, d2] }
  | _ => none }
def EngineLateWrongFalsely : Prop := engineLateRow.holds Tryz.pinned (OpenSpec.ofChange engineLateWrong)

/-- 'sawtoothlaw21.EngineIdle': WHATEVER THE INPUT: true; the input reads as it did. -/
def engineIdleSpec : ChangeSpec := { name := "engineIdle", fn := fun _ => fun
  | [d1, d2] => { results := [.lit (.bool true)], args := [d1, d2] }
  | _ => none }
def engineIdleRow : OpenClaim := { program := "ytkokohkbhlnjkaagreatdoor", sum := "fb25e2baff74dea21088408166c033c6f07c72792b5badb38d60b92513675759", func := "sawtooth/sawtoothlaw21.EngineIdle", spec := "engineIdle", inPlace := ["math/bits.Add64", "math/bits.Sub64"], unfollowed := true, recurses := true, named := ["sawtooth/epoch.tens", "math/bits.divideError", "math/bits.overflowError"], leaving := true, apart := false, laid := [("sawtooth/epoch.tens", laid_sawtooth_epoch_tens)] }
def EngineIdleSaid : Prop := engineIdleRow.holds Tryz.pinned (OpenSpec.ofChange engineIdleSpec)

/-- ITS FALSE NEIGHBOUR: 'it returns false'. Refute it at one input. -/
def engineIdleWrong : ChangeSpec := { name := "engineIdle", fn := fun _ => fun
  | [d1, d2] => { results := [.lit (.bool false)], args := [d1, d2] }
  | _ => none }
def EngineIdleWrongFalsely : Prop := engineIdleRow.holds Tryz.pinned (OpenSpec.ofChange engineIdleWrong)

/-- 'sawtoothlaw22.ReplayTells': WHATEVER THE INPUT: true; the input reads as it did. -/
def replayTellsSpec : ChangeSpec := { name := "replayTells", fn := fun _ => fun
  | [d1, d2, d3] => { results := [.lit (.bool true)], args := [d1, d2, d3] }
  | _ => none }
def replayTellsRow : OpenClaim := { program := "ytkokohkbhlnjkaagreatdoor", sum := "fb25e2baff74dea21088408166c033c6f07c72792b5badb38d60b92513675759", func := "sawtooth/sawtoothlaw22.ReplayTells", spec := "replayTells", inPlace := ["math/bits.Add64", "math/bits.Sub64"], unfollowed := true, recurses := true, named := ["sawtooth/epoch.tens", "math/bits.divideError", "math/bits.overflowError"], leaving := true, apart := false, laid := [("sawtooth/epoch.tens", laid_sawtooth_epoch_tens)] }
def ReplayTellsSaid : Prop := replayTellsRow.holds Tryz.pinned (OpenSpec.ofChange replayTellsSpec)

/-- ITS FALSE NEIGHBOUR: 'it returns false'. Refute it at one input. -/
def replayTellsWrong : ChangeSpec := { name := "replayTells", fn := fun _ => fun
  | [d1, d2, d3] => { results := [.lit (.bool false)], args := [d1, d2, d3] }
  | _ => none }
def ReplayTellsWrongFalsely : Prop := replayTellsRow.holds Tryz.pinned (OpenSpec.ofChange replayTellsWrong)

/-- 'sawtoothlaw22.ReplayRefused': WHATEVER THE INPUT: true; the input reads as it did. -/
def replayRefusedSpec : ChangeSpec := { name := "replayRefused", fn := fun _ => fun
  | [d1, d2] => { results := [.lit (.bool true)], args := [d1, d2] }
  | _ => none }
def replayRefusedRow : OpenClaim := { program := "ytkokohkbhlnjkaagreatdoor", sum := "fb25e2baff74dea21088408166c033c6f07c72792b5badb38d60b92513675759", func := "sawtooth/sawtoothlaw22.ReplayRefused", spec := "replayRefused", inPlace := ["math/bits.Add64", "math/bits.Sub64"], unfollowed := true, recurses := true, named := ["sawtooth/epoch.tens", "math/bits.divideError", "math/bits.overflowError"], leaving := true, apart := false, laid := [("sawtooth/epoch.tens", laid_sawtooth_epoch_tens)] }
def ReplayRefusedSaid : Prop := replayRefusedRow.holds Tryz.pinned (OpenSpec.ofChange replayRefusedSpec)

/-- ITS FALSE NEIGHBOUR: 'it returns false'. Refute it at one input. -/
def replayRefusedWrong : ChangeSpec := { name := "replayRefused", fn := fun _ => fun
  | [d1, d2] => { results := [.lit (.bool false)], args := [d1, d2] }
  | _ => none }
def ReplayRefusedWrongFalsely : Prop := replayRefusedRow.holds Tryz.pinned (OpenSpec.ofChange replayRefusedWrong)

/-- 'sawtoothlaw22.ReplaySteps': WHATEVER THE INPUT: true; the input reads as it did. -/
def replayStepsSpec : ChangeSpec := { name := "replaySteps", fn := fun _ => fun
  | [d1, d2] => { results := [.lit (.bool true)], args := [d1, d2] }
  | _ => none }
def replayStepsRow : OpenClaim := { program := "ytkokohkbhlnjkaagreatdoor", sum := "fb25e2baff74dea21088408166c033c6f07c72792b5badb38d60b92513675759", func := "sawtooth/sawtoothlaw22.ReplaySteps", spec := "replaySteps", inPlace := ["math/bits.Add64", "math/bits.Sub64"], unfollowed := true, recurses := true, named := ["sawtooth/epoch.tens", "math/bits.divideError", "math/bits.overflowError"], leaving := true, apart := false, laid := [("sawtooth/epoch.tens", laid_sawtooth_epoch_tens)] }
def ReplayStepsSaid : Prop := replayStepsRow.holds Tryz.pinned (OpenSpec.ofChange replayStepsSpec)

/-- ITS FALSE NEIGHBOUR: 'it returns false'. Refute it at one input. -/
def replayStepsWrong : ChangeSpec := { name := "replaySteps", fn := fun _ => fun
  | [d1, d2] => { results := [.lit (.bool false)], args := [d1, d2] }
  | _ => none }
def ReplayStepsWrongFalsely : Prop := replayStepsRow.holds Tryz.pinned (OpenSpec.ofChange replayStepsWrong)

/-- 'sawtoothlaw22.ReplayParts': WHATEVER THE INPUT: true; the input reads as it did. -/
def replayPartsSpec : ChangeSpec := { name := "replayParts", fn := fun _ => fun
  | [d1, d2, d3] => { results := [.lit (.bool true)], args := [d1, d2, d3] }
  | _ => none }
def replayPartsRow : OpenClaim := { program := "ytkokohkbhlnjkaagreatdoor", sum := "fb25e2baff74dea21088408166c033c6f07c72792b5badb38d60b92513675759", func := "sawtooth/sawtoothlaw22.ReplayParts", spec := "replayParts", inPlace := ["math/bits.Add64", "math/bits.Sub64"], unfollowed := true, recurses := true, named := ["sawtooth/epoch.tens", "math/bits.divideError", "math/bits.overflowError"], leaving := true, apart := false, laid := [("sawtooth/epoch.tens", laid_sawtooth_epoch_tens)] }
def ReplayPartsSaid : Prop := replayPartsRow.holds Tryz.pinned (OpenSpec.ofChange replayPartsSpec)

/-- ITS FALSE NEIGHBOUR: 'it returns false'. Refute it at one input. -/
def replayPartsWrong : ChangeSpec := { name := "replayParts", fn := fun _ => fun
  | [d1, d2, d3] => { results := [.lit (.bool false)], args := [d1, d2, d3] }
  | _ => none }
def ReplayPartsWrongFalsely : Prop := replayPartsRow.holds Tryz.pinned (OpenSpec.ofChange replayPartsWrong)

/-- 'sawtoothlaw22.ReplayBounds': WHATEVER THE INPUT: true; the input reads as it did. -/
def replayBoundsSpec : ChangeSpec := { name := "replayBounds", fn := fun _ => fun
  | [d1, d2] => { results := [.lit (.bool true)], args := [d1, d2] }
  | _ => none }
def replayBoundsRow : OpenClaim := { program := "ytkokohkbhlnjkaagreatdoor", sum := "fb25e2baff74dea21088408166c033c6f07c72792b5badb38d60b92513675759", func := "sawtooth/sawtoothlaw22.ReplayBounds", spec := "replayBounds", inPlace := ["math/bits.Add64", "math/bits.Sub64"], unfollowed := true, recurses := true, named := ["sawtooth/epoch.tens", "math/bits.divideError", "math/bits.overflowError"], leaving := true, apart := false, laid := [("sawtooth/epoch.tens", laid_sawtooth_epoch_tens)] }
def ReplayBoundsSaid : Prop := replayBoundsRow.holds Tryz.pinned (OpenSpec.ofChange replayBoundsSpec)

/-- ITS FALSE NEIGHBOUR: 'it returns false'. Refute it at one input. -/
def replayBoundsWrong : ChangeSpec := { name := "replayBounds", fn := fun _ => fun
  | [d1, d2] => { results := [.lit (.bool false)], args := [d1, d2] }
  | _ => none }
def ReplayBoundsWrongFalsely : Prop := replayBoundsRow.holds Tryz.pinned (OpenSpec.ofChange replayBoundsWrong)

/-- 'sawtoothlaw22.ReplayTicks': WHATEVER THE INPUT: true; the input reads as it did. -/
def replayTicksSpec : ChangeSpec := { name := "replayTicks", fn := fun _ => fun
  | [d1, d2] => { results := [.lit (.bool true)], args := [d1, d2] }
  | _ => none }
def replayTicksRow : OpenClaim := { program := "ytkokohkbhlnjkaagreatdoor", sum := "fb25e2baff74dea21088408166c033c6f07c72792b5badb38d60b92513675759", func := "sawtooth/sawtoothlaw22.ReplayTicks", spec := "replayTicks", inPlace := ["math/bits.Add64", "math/bits.Sub64"], unfollowed := true, recurses := true, named := ["sawtooth/epoch.tens", "math/bits.divideError", "math/bits.overflowError"], leaving := true, apart := false, laid := [("sawtooth/epoch.tens", laid_sawtooth_epoch_tens)] }
def ReplayTicksSaid : Prop := replayTicksRow.holds Tryz.pinned (OpenSpec.ofChange replayTicksSpec)

/-- ITS FALSE NEIGHBOUR: 'it returns false'. Refute it at one input. -/
def replayTicksWrong : ChangeSpec := { name := "replayTicks", fn := fun _ => fun
  | [d1, d2] => { results := [.lit (.bool false)], args := [d1, d2] }
  | _ => none }
def ReplayTicksWrongFalsely : Prop := replayTicksRow.holds Tryz.pinned (OpenSpec.ofChange replayTicksWrong)

/- THE SECOND FORM. 'bulk': how many values and letters a reading holds, each counted each time it is reached (what is shared counts as often as it is met; a slice's spare places count too). A statement '..UptoSaid' is the law's where the arguments, and the package variables that the reading takes, are together of bulk at most 1048576: NARROWER than '..Said'. Prove '..Said' where nothing that the law and all that it calls make is longer than what came in: it says more and counts as full. Else prove '..UptoSaid'. A law counts once. -/
mutual
def uptoBulk {H : Type} : DataW H → Nat
  | .lit (.string bytes) => bytes.length + 1
  | .lit _ => 1
  | .nil => 1
  | .ptr d => uptoBulk d + 1
  | .slice elems spare => uptoBulkAll elems + uptoBulkAll spare + 1
  | .agg parts => uptoBulkAll parts + 1
  | .iface _ d => uptoBulk d + 1
  | .map entries => uptoBulkEntries entries + 1
  | .held _ => 1
def uptoBulkAll {H : Type} : List (DataW H) → Nat
  | [] => 0
  | d :: r => uptoBulk d + uptoBulkAll r
def uptoBulkEntries {H : Type} : List (Lit × DataW H) → Nat
  | [] => 0
  | x :: r => uptoBulkEntry x + uptoBulkEntries r
def uptoBulkEntry {H : Type} : Lit × DataW H → Nat
  | (.string bytes, d) => bytes.length + uptoBulk d + 1
  | (_, d) => uptoBulk d + 1
 end
def uptoSmall : (H : Type) → List (DataW H) → Bool := fun _ ds => decide (uptoBulkAll ds ≤ 1048576)
def OpenSpec.upto (s : _root_.Go.ChangeSpec) : _root_.Go.OpenSpec := { _root_.Go.OpenSpec.ofChange s with cond := some uptoSmall }

/-- 'sawtoothtop.TopShift', WHERE WHAT IT READS IS OF BULK AT MOST 1048576: true; the input reads as it did. -/
def topShiftUptoRow : OpenClaim := { program := "ytkokohkbhlnjkaagreatdoor", sum := "fb25e2baff74dea21088408166c033c6f07c72792b5badb38d60b92513675759", func := "sawtooth/sawtoothtop.TopShift", spec := "topShift", inPlace := ["math/bits.Sub64", "math/bits.Add64"], unfollowed := true, recurses := true, named := ["math/bits.divideError", "math/bits.overflowError", "sawtooth/epoch.tens"], leaving := true, apart := false, laid := [("sawtooth/epoch.tens", laid_sawtooth_epoch_tens)], narrowed := true }
def TopShiftUptoSaid : Prop := topShiftUptoRow.holds Tryz.pinned (OpenSpec.upto topShiftSpec)

/-- 'sawtoothtop.TopRaw', WHERE WHAT IT READS IS OF BULK AT MOST 1048576: true; the input reads as it did. -/
def topRawUptoRow : OpenClaim := { program := "ytkokohkbhlnjkaagreatdoor", sum := "fb25e2baff74dea21088408166c033c6f07c72792b5badb38d60b92513675759", func := "sawtooth/sawtoothtop.TopRaw", spec := "topRaw", inPlace := ["math/bits.Sub64", "math/bits.Add64"], unfollowed := true, recurses := true, named := ["math/bits.divideError", "math/bits.overflowError", "sawtooth/epoch.tens"], leaving := true, apart := false, laid := [("sawtooth/epoch.tens", laid_sawtooth_epoch_tens)], narrowed := true }
def TopRawUptoSaid : Prop := topRawUptoRow.holds Tryz.pinned (OpenSpec.upto topRawSpec)

/-- 'sawtoothtop.TopBytes', WHERE WHAT IT READS IS OF BULK AT MOST 1048576: true; the input reads as it did. -/
def topBytesUptoRow : OpenClaim := { program := "ytkokohkbhlnjkaagreatdoor", sum := "fb25e2baff74dea21088408166c033c6f07c72792b5badb38d60b92513675759", func := "sawtooth/sawtoothtop.TopBytes", spec := "topBytes", inPlace := ["math/bits.Sub64", "math/bits.Add64"], unfollowed := true, recurses := true, named := ["math/bits.divideError", "math/bits.overflowError", "sawtooth/epoch.tens"], leaving := true, apart := false, laid := [("sawtooth/epoch.tens", laid_sawtooth_epoch_tens)], narrowed := true }
def TopBytesUptoSaid : Prop := topBytesUptoRow.holds Tryz.pinned (OpenSpec.upto topBytesSpec)

/-- 'sawtoothlaw21.EngineStates', WHERE WHAT IT READS IS OF BULK AT MOST 1048576: true; the input reads as it did. -/
def engineStatesUptoRow : OpenClaim := { program := "ytkokohkbhlnjkaagreatdoor", sum := "fb25e2baff74dea21088408166c033c6f07c72792b5badb38d60b92513675759", func := "sawtooth/sawtoothlaw21.EngineStates", spec := "engineStates", inPlace := ["math/bits.Add64", "math/bits.Sub64"], unfollowed := true, recurses := true, named := ["sawtooth/epoch.tens", "math/bits.divideError", "math/bits.overflowError"], leaving := true, apart := false, laid := [("sawtooth/epoch.tens", laid_sawtooth_epoch_tens)], narrowed := true }
def EngineStatesUptoSaid : Prop := engineStatesUptoRow.holds Tryz.pinned (OpenSpec.upto engineStatesSpec)

/-- 'sawtoothlaw21.EngineStays', WHERE WHAT IT READS IS OF BULK AT MOST 1048576: true; the input reads as it did. -/
def engineStaysUptoRow : OpenClaim := { program := "ytkokohkbhlnjkaagreatdoor", sum := "fb25e2baff74dea21088408166c033c6f07c72792b5badb38d60b92513675759", func := "sawtooth/sawtoothlaw21.EngineStays", spec := "engineStays", inPlace := ["math/bits.Add64", "math/bits.Sub64"], unfollowed := true, recurses := true, named := ["sawtooth/epoch.tens", "math/bits.divideError", "math/bits.overflowError"], leaving := true, apart := false, laid := [("sawtooth/epoch.tens", laid_sawtooth_epoch_tens)], narrowed := true }
def EngineStaysUptoSaid : Prop := engineStaysUptoRow.holds Tryz.pinned (OpenSpec.upto engineStaysSpec)

/-- 'sawtoothlaw21.EngineSends', WHERE WHAT IT READS IS OF BULK AT MOST 1048576: true; the input reads as it did. -/
def engineSendsUptoRow : OpenClaim := { program := "ytkokohkbhlnjkaagreatdoor", sum := "fb25e2baff74dea21088408166c033c6f07c72792b5badb38d60b92513675759", func := "sawtooth/sawtoothlaw21.EngineSends", spec := "engineSends", inPlace := ["math/bits.Add64", "math/bits.Sub64"], unfollowed := true, recurses := true, named := ["sawtooth/epoch.tens", "math/bits.divideError", "math/bits.overflowError"], leaving := true, apart := false, laid := [("sawtooth/epoch.tens", laid_sawtooth_epoch_tens)], narrowed := true }
def EngineSendsUptoSaid : Prop := engineSendsUptoRow.holds Tryz.pinned (OpenSpec.upto engineSendsSpec)

/-- 'sawtoothlaw21.EngineGrows', WHERE WHAT IT READS IS OF BULK AT MOST 1048576: true; the input reads as it did. -/
def engineGrowsUptoRow : OpenClaim := { program := "ytkokohkbhlnjkaagreatdoor", sum := "fb25e2baff74dea21088408166c033c6f07c72792b5badb38d60b92513675759", func := "sawtooth/sawtoothlaw21.EngineGrows", spec := "engineGrows", inPlace := ["math/bits.Add64", "math/bits.Sub64"], unfollowed := true, recurses := true, named := ["sawtooth/epoch.tens", "math/bits.divideError", "math/bits.overflowError"], leaving := true, apart := false, laid := [("sawtooth/epoch.tens", laid_sawtooth_epoch_tens)], narrowed := true }
def EngineGrowsUptoSaid : Prop := engineGrowsUptoRow.holds Tryz.pinned (OpenSpec.upto engineGrowsSpec)

/-- 'sawtoothlaw21.EngineLate', WHERE WHAT IT READS IS OF BULK AT MOST 1048576: true; the input reads as it did. -/
def engineLateUptoRow : OpenClaim := { program := "ytkokohkbhlnjkaagreatdoor", sum := "fb25e2baff74dea21088408166c033c6f07c72792b5badb38d60b92513675759", func := "sawtooth/sawtoothlaw21.EngineLate", spec := "engineLate", inPlace := ["math/bits.Add64", "math/bits.Sub64"], unfollowed := true, recurses := true, named := ["sawtooth/epoch.tens", "math/bits.divideError", "math/bits.overflowError"], leaving := true, apart := false, laid := [("sawtooth/epoch.tens", laid_sawtooth_epoch_tens)], narrowed := true }
def EngineLateUptoSaid : Prop := engineLateUptoRow.holds Tryz.pinned (OpenSpec.upto engineLateSpec)

/-- 'sawtoothlaw21.EngineIdle', WHERE WHAT IT READS IS OF BULK AT MOST 1048576: true; the input reads as it did. -/
def engineIdleUptoRow : OpenClaim := { program := "ytkokohkbhlnjkaagreatdoor", sum := "fb25e2baff74dea21088408166c033c6f07c72792b5badb38d60b92513675759", func := "sawtooth/sawtoothlaw21.EngineIdle", spec := "engineIdle", inPlace := ["math/bits.Add64", "math/bits.Sub64"], unfollowed := true, recurses := true, named := ["sawtooth/epoch.tens", "math/bits.divideError", "math/bits.overflowError"], leaving := true, apart := false, laid := [("sawtooth/epoch.tens", laid_sawtooth_epoch_tens)], narrowed := true }
def EngineIdleUptoSaid : Prop := engineIdleUptoRow.holds Tryz.pinned (OpenSpec.upto engineIdleSpec)

/-- 'sawtoothlaw22.ReplayTells', WHERE WHAT IT READS IS OF BULK AT MOST 1048576: true; the input reads as it did. -/
def replayTellsUptoRow : OpenClaim := { program := "ytkokohkbhlnjkaagreatdoor", sum := "fb25e2baff74dea21088408166c033c6f07c72792b5badb38d60b92513675759", func := "sawtooth/sawtoothlaw22.ReplayTells", spec := "replayTells", inPlace := ["math/bits.Add64", "math/bits.Sub64"], unfollowed := true, recurses := true, named := ["sawtooth/epoch.tens", "math/bits.divideError", "math/bits.overflowError"], leaving := true, apart := false, laid := [("sawtooth/epoch.tens", laid_sawtooth_epoch_tens)], narrowed := true }
def ReplayTellsUptoSaid : Prop := replayTellsUptoRow.holds Tryz.pinned (OpenSpec.upto replayTellsSpec)

/-- 'sawtoothlaw22.ReplayRefused', WHERE WHAT IT READS IS OF BULK AT MOST 1048576: true; the input reads as it did. -/
def replayRefusedUptoRow : OpenClaim := { program := "ytkokohkbhlnjkaagreatdoor", sum := "fb25e2baff74dea21088408166c033c6f07c72792b5badb38d60b92513675759", func := "sawtooth/sawtoothlaw22.ReplayRefused", spec := "replayRefused", inPlace := ["math/bits.Add64", "math/bits.Sub64"], unfollowed := true, recurses := true, named := ["sawtooth/epoch.tens", "math/bits.divideError", "math/bits.overflowError"], leaving := true, apart := false, laid := [("sawtooth/epoch.tens", laid_sawtooth_epoch_tens)], narrowed := true }
def ReplayRefusedUptoSaid : Prop := replayRefusedUptoRow.holds Tryz.pinned (OpenSpec.upto replayRefusedSpec)

/-- 'sawtoothlaw22.ReplaySteps', WHERE WHAT IT READS IS OF BULK AT MOST 1048576: true; the input reads as it did. -/
def replayStepsUptoRow : OpenClaim := { program := "ytkokohkbhlnjkaagreatdoor", sum := "fb25e2baff74dea21088408166c033c6f07c72792b5badb38d60b92513675759", func := "sawtooth/sawtoothlaw22.ReplaySteps", spec := "replaySteps", inPlace := ["math/bits.Add64", "math/bits.Sub64"], unfollowed := true, recurses := true, named := ["sawtooth/epoch.tens", "math/bits.divideError", "math/bits.overflowError"], leaving := true, apart := false, laid := [("sawtooth/epoch.tens", laid_sawtooth_epoch_tens)], narrowed := true }
def ReplayStepsUptoSaid : Prop := replayStepsUptoRow.holds Tryz.pinned (OpenSpec.upto replayStepsSpec)

/-- 'sawtoothlaw22.ReplayParts', WHERE WHAT IT READS IS OF BULK AT MOST 1048576: true; the input reads as it did. -/
def replayPartsUptoRow : OpenClaim := { program := "ytkokohkbhlnjkaagreatdoor", sum := "fb25e2baff74dea21088408166c033c6f07c72792b5badb38d60b92513675759", func := "sawtooth/sawtoothlaw22.ReplayParts", spec := "replayParts", inPlace := ["math/bits.Add64", "math/bits.Sub64"], unfollowed := true, recurses := true, named := ["sawtooth/epoch.tens", "math/bits.divideError", "math/bits.overflowError"], leaving := true, apart := false, laid := [("sawtooth/epoch.tens", laid_sawtooth_epoch_tens)], narrowed := true }
def ReplayPartsUptoSaid : Prop := replayPartsUptoRow.holds Tryz.pinned (OpenSpec.upto replayPartsSpec)

/-- 'sawtoothlaw22.ReplayBounds', WHERE WHAT IT READS IS OF BULK AT MOST 1048576: true; the input reads as it did. -/
def replayBoundsUptoRow : OpenClaim := { program := "ytkokohkbhlnjkaagreatdoor", sum := "fb25e2baff74dea21088408166c033c6f07c72792b5badb38d60b92513675759", func := "sawtooth/sawtoothlaw22.ReplayBounds", spec := "replayBounds", inPlace := ["math/bits.Add64", "math/bits.Sub64"], unfollowed := true, recurses := true, named := ["sawtooth/epoch.tens", "math/bits.divideError", "math/bits.overflowError"], leaving := true, apart := false, laid := [("sawtooth/epoch.tens", laid_sawtooth_epoch_tens)], narrowed := true }
def ReplayBoundsUptoSaid : Prop := replayBoundsUptoRow.holds Tryz.pinned (OpenSpec.upto replayBoundsSpec)

/-- 'sawtoothlaw22.ReplayTicks', WHERE WHAT IT READS IS OF BULK AT MOST 1048576: true; the input reads as it did. -/
def replayTicksUptoRow : OpenClaim := { program := "ytkokohkbhlnjkaagreatdoor", sum := "fb25e2baff74dea21088408166c033c6f07c72792b5badb38d60b92513675759", func := "sawtooth/sawtoothlaw22.ReplayTicks", spec := "replayTicks", inPlace := ["math/bits.Add64", "math/bits.Sub64"], unfollowed := true, recurses := true, named := ["sawtooth/epoch.tens", "math/bits.divideError", "math/bits.overflowError"], leaving := true, apart := false, laid := [("sawtooth/epoch.tens", laid_sawtooth_epoch_tens)], narrowed := true }
def ReplayTicksUptoSaid : Prop := replayTicksUptoRow.holds Tryz.pinned (OpenSpec.upto replayTicksSpec)

end Rows
end Go.Proofs.YtkokohkbhlnjkaaGreatDoor
