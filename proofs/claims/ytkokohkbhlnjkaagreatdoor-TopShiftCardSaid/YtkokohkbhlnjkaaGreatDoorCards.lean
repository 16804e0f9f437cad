/-
  DERIVED. GIVEN WITH THE SEED: THE CARDS: each row of YtkokohkbhlnjkaaGreatDoorRows.lean that lists a variable, with what it lists TIED to the program's text (the seventh form; the later family's looks); each row that meets fmt, with fmt's text TOLD by the authors' own Lean function (tested against real Go, not proved from fmt's source: count such statements apart). THE CARD IS WHAT COUNTS. Prove the row's statement (the work); the ties are given (YtkokohkbhlnjkaaGreatDoorTie.lean); close each card by the builder's one call (the guide's Derived/Test/ToyasCard.lean, 'card_holds'). Laid BY PROGRAM, IN A SANDBOX (cutbox-door.mjs). By AI agents, Wed Nov 11 2026. No macro, syntax, notation, axiom, sorry.
-/
import Derived.Test.YtkokohkbhlnjkaaGreatDoorRows
import GoSem.ClaimSeven
namespace Go.Proofs.YtkokohkbhlnjkaaGreatDoor
namespace Rows

/-- THE TIED CARD OF 'sawtoothtop.TopShift'. -/
def topShiftCard : Claim7 := { stood := { row := topShiftRow, standIns := [], harness := (true, "9743dcc7216159cedf5af689d9831578d52e7622345c3cbb87c8bebbc0866563"), looks := true }, kinds := [], alts := [], goes := true, laidByText := true, laidKinds := [.data], laidTests := true, laidLooks := .later }
def TopShiftCardSaid : Prop := Claim7.holds Tryz.pinned (.plain (OpenSpec.ofChange topShiftSpec)) topShiftCard

/-- THE TIED CARD OF 'sawtoothtop.TopRaw'. -/
def topRawCard : Claim7 := { stood := { row := topRawRow, standIns := [], harness := (true, "9743dcc7216159cedf5af689d9831578d52e7622345c3cbb87c8bebbc0866563"), looks := true }, kinds := [], alts := [], goes := true, laidByText := true, laidKinds := [.data], laidTests := true, laidLooks := .later }
def TopRawCardSaid : Prop := Claim7.holds Tryz.pinned (.plain (OpenSpec.ofChange topRawSpec)) topRawCard

/-- THE TIED CARD OF 'sawtoothtop.TopBytes'. -/
def topBytesCard : Claim7 := { stood := { row := topBytesRow, standIns := [], harness := (true, "9743dcc7216159cedf5af689d9831578d52e7622345c3cbb87c8bebbc0866563"), looks := true }, kinds := [], alts := [], goes := true, laidByText := true, laidKinds := [.data], laidTests := true, laidLooks := .later }
def TopBytesCardSaid : Prop := Claim7.holds Tryz.pinned (.plain (OpenSpec.ofChange topBytesSpec)) topBytesCard

/-- THE TIED CARD OF 'sawtoothlaw21.EngineStates'. -/
def engineStatesCard : Claim7 := { stood := { row := engineStatesRow, standIns := [], harness := (true, "9743dcc7216159cedf5af689d9831578d52e7622345c3cbb87c8bebbc0866563"), looks := true }, kinds := [], alts := [], goes := true, laidByText := true, laidKinds := [.data], laidTests := true, laidLooks := .later }
def EngineStatesCardSaid : Prop := Claim7.holds Tryz.pinned (.plain (OpenSpec.ofChange engineStatesSpec)) engineStatesCard

/-- THE TIED CARD OF 'sawtoothlaw21.EngineStays'. -/
def engineStaysCard : Claim7 := { stood := { row := engineStaysRow, standIns := [], harness := (true, "9743dcc7216159cedf5af689d9831578d52e7622345c3cbb87c8bebbc0866563"), looks := true }, kinds := [], alts := [], goes := true, laidByText := true, laidKinds := [.data], laidTests := true, laidLooks := .later }
def EngineStaysCardSaid : Prop := Claim7.holds Tryz.pinned (.plain (OpenSpec.ofChange engineStaysSpec)) engineStaysCard

/-- THE TIED CARD OF 'sawtoothlaw21.EngineSends'. -/
def engineSendsCard : Claim7 := { stood := { row := engineSendsRow, standIns := [], harness := (true, "9743dcc7216159cedf5af689d9831578d52e7622345c3cbb87c8bebbc0866563"), looks := true }, kinds := [], alts := [], goes := true, laidByText := true, laidKinds := [.data], laidTests := true, laidLooks := .later }
def EngineSendsCardSaid : Prop := Claim7.holds Tryz.pinned (.plain (OpenSpec.ofChange engineSendsSpec)) engineSendsCard

/-- THE TIED CARD OF 'sawtoothlaw21.EngineGrows'. -/
def engineGrowsCard : Claim7 := { stood := { row := engineGrowsRow, standIns := [], harness := (true, "9743dcc7216159cedf5af689d9831578d52e7622345c3cbb87c8bebbc0866563"), looks := true }, kinds := [], alts := [], goes := true, laidByText := true, laidKinds := [.data], laidTests := true, laidLooks := .later }
def EngineGrowsCardSaid : Prop := Claim7.holds Tryz.pinned (.plain (OpenSpec.ofChange engineGrowsSpec)) engineGrowsCard

/-- THE TIED CARD OF 'sawtoothlaw21.EngineLate'. -/
def engineLateCard : Claim7 := { stood := { row := engineLateRow, standIns := [], harness := (true, "9743dcc7216159cedf5af689d9831578d52e7622345c3cbb87c8bebbc0866563"), looks := true }, kinds := [], alts := [], goes := true, laidByText := true, laidKinds := [.data], laidTests := true, laidLooks := .later }
def EngineLateCardSaid : Prop := Claim7.holds Tryz.pinned (.plain (OpenSpec.ofChange engineLateSpec)) engineLateCard

/-- THE TIED CARD OF 'sawtoothlaw21.EngineIdle'. -/
def engineIdleCard : Claim7 := { stood := { row := engineIdleRow, standIns := [], harness := (true, "9743dcc7216159cedf5af689d9831578d52e7622345c3cbb87c8bebbc0866563"), looks := true }, kinds := [], alts := [], goes := true, laidByText := true, laidKinds := [.data], laidTests := true, laidLooks := .later }
def EngineIdleCardSaid : Prop := Claim7.holds Tryz.pinned (.plain (OpenSpec.ofChange engineIdleSpec)) engineIdleCard

/-- THE TIED CARD OF 'sawtoothlaw22.ReplayTells'. -/
def replayTellsCard : Claim7 := { stood := { row := replayTellsRow, standIns := [], harness := (true, "9743dcc7216159cedf5af689d9831578d52e7622345c3cbb87c8bebbc0866563"), looks := true }, kinds := [], alts := [], goes := true, laidByText := true, laidKinds := [.data], laidTests := true, laidLooks := .later }
def ReplayTellsCardSaid : Prop := Claim7.holds Tryz.pinned (.plain (OpenSpec.ofChange replayTellsSpec)) replayTellsCard

/-- THE TIED CARD OF 'sawtoothlaw22.ReplayRefused'. -/
def replayRefusedCard : Claim7 := { stood := { row := replayRefusedRow, standIns := [], harness := (true, "9743dcc7216159cedf5af689d9831578d52e7622345c3cbb87c8bebbc0866563"), looks := true }, kinds := [], alts := [], goes := true, laidByText := true, laidKinds := [.data], laidTests := true, laidLooks := .later }
def ReplayRefusedCardSaid : Prop := Claim7.holds Tryz.pinned (.plain (OpenSpec.ofChange replayRefusedSpec)) replayRefusedCard

/-- THE TIED CARD OF 'sawtoothlaw22.ReplaySteps'. -/
def replayStepsCard : Claim7 := { stood := { row := replayStepsRow, standIns := [], harness := (true, "9743dcc7216159cedf5af689d9831578d52e7622345c3cbb87c8bebbc0866563"), looks := true }, kinds := [], alts := [], goes := true, laidByText := true, laidKinds := [.data], laidTests := true, laidLooks := .later }
def ReplayStepsCardSaid : Prop := Claim7.holds Tryz.pinned (.plain (OpenSpec.ofChange replayStepsSpec)) replayStepsCard

/-- THE TIED CARD OF 'sawtoothlaw22.ReplayParts'. -/
def replayPartsCard : Claim7 := { stood := { row := replayPartsRow, standIns := [], harness := (true, "9743dcc7216159cedf5af689d9831578d52e7622345c3cbb87c8bebbc0866563"), looks := true }, kinds := [], alts := [], goes := true, laidByText := true, laidKinds := [.data], laidTests := true, laidLooks := .later }
def ReplayPartsCardSaid : Prop := Claim7.holds Tryz.pinned (.plain (OpenSpec.ofChange replayPartsSpec)) replayPartsCard

/-- THE TIED CARD OF 'sawtoothlaw22.ReplayBounds'. -/
def replayBoundsCard : Claim7 := { stood := { row := replayBoundsRow, standIns := [], harness := (true, "9743dcc7216159cedf5af689d9831578d52e7622345c3cbb87c8bebbc0866563"), looks := true }, kinds := [], alts := [], goes := true, laidByText := true, laidKinds := [.data], laidTests := true, laidLooks := .later }
def ReplayBoundsCardSaid : Prop := Claim7.holds Tryz.pinned (.plain (OpenSpec.ofChange replayBoundsSpec)) replayBoundsCard

/-- THE TIED CARD OF 'sawtoothlaw22.ReplayTicks'. -/
def replayTicksCard : Claim7 := { stood := { row := replayTicksRow, standIns := [], harness := (true, "9743dcc7216159cedf5af689d9831578d52e7622345c3cbb87c8bebbc0866563"), looks := true }, kinds := [], alts := [], goes := true, laidByText := true, laidKinds := [.data], laidTests := true, laidLooks := .later }
def ReplayTicksCardSaid : Prop := Claim7.holds Tryz.pinned (.plain (OpenSpec.ofChange replayTicksSpec)) replayTicksCard

/-- THE SECOND FORM's CARD OF 'sawtoothtop.TopShift'. -/
def topShiftUptoCard : Claim7 := { stood := { row := topShiftUptoRow, standIns := [], harness := (true, "9743dcc7216159cedf5af689d9831578d52e7622345c3cbb87c8bebbc0866563"), looks := true }, kinds := [], alts := [], goes := true, laidByText := true, laidKinds := [.data], laidTests := true, laidLooks := .later }
def TopShiftUptoCardSaid : Prop := Claim7.holds Tryz.pinned (.plain (OpenSpec.upto topShiftSpec)) topShiftUptoCard

/-- THE SECOND FORM's CARD OF 'sawtoothtop.TopRaw'. -/
def topRawUptoCard : Claim7 := { stood := { row := topRawUptoRow, standIns := [], harness := (true, "9743dcc7216159cedf5af689d9831578d52e7622345c3cbb87c8bebbc0866563"), looks := true }, kinds := [], alts := [], goes := true, laidByText := true, laidKinds := [.data], laidTests := true, laidLooks := .later }
def TopRawUptoCardSaid : Prop := Claim7.holds Tryz.pinned (.plain (OpenSpec.upto topRawSpec)) topRawUptoCard

/-- THE SECOND FORM's CARD OF 'sawtoothtop.TopBytes'. -/
def topBytesUptoCard : Claim7 := { stood := { row := topBytesUptoRow, standIns := [], harness := (true, "9743dcc7216159cedf5af689d9831578d52e7622345c3cbb87c8bebbc0866563"), looks := true }, kinds := [], alts := [], goes := true, laidByText := true, laidKinds := [.data], laidTests := true, laidLooks := .later }
def TopBytesUptoCardSaid : Prop := Claim7.holds Tryz.pinned (.plain (OpenSpec.upto topBytesSpec)) topBytesUptoCard

/-- THE SECOND FORM's CARD OF 'sawtoothlaw21.EngineStates'. -/
def engineStatesUptoCard : Claim7 := { stood := { row := engineStatesUptoRow, standIns := [], harness := (true, "9743dcc7216159cedf5af689d9831578d52e7622345c3cbb87c8bebbc0866563"), looks := true }, kinds := [], alts := [], goes := true, laidByText := true, laidKinds := [.data], laidTests := true, laidLooks := .later }
def EngineStatesUptoCardSaid : Prop := Claim7.holds Tryz.pinned (.plain (OpenSpec.upto engineStatesSpec)) engineStatesUptoCard

/-- THE SECOND FORM's CARD OF 'sawtoothlaw21.EngineStays'. -/
def engineStaysUptoCard : Claim7 := { stood := { row := engineStaysUptoRow, standIns := [], harness := (true, "9743dcc7216159cedf5af689d9831578d52e7622345c3cbb87c8bebbc0866563"), looks := true }, kinds := [], alts := [], goes := true, laidByText := true, laidKinds := [.data], laidTests := true, laidLooks := .later }
def EngineStaysUptoCardSaid : Prop := Claim7.holds Tryz.pinned (.plain (OpenSpec.upto engineStaysSpec)) engineStaysUptoCard

/-- THE SECOND FORM's CARD OF 'sawtoothlaw21.EngineSends'. -/
def engineSendsUptoCard : Claim7 := { stood := { row := engineSendsUptoRow, standIns := [], harness := (true, "9743dcc7216159cedf5af689d9831578d52e7622345c3cbb87c8bebbc0866563"), looks := true }, kinds := [], alts := [], goes := true, laidByText := true, laidKinds := [.data], laidTests := true, laidLooks := .later }
def EngineSendsUptoCardSaid : Prop := Claim7.holds Tryz.pinned (.plain (OpenSpec.upto engineSendsSpec)) engineSendsUptoCard

/-- THE SECOND FORM's CARD OF 'sawtoothlaw21.EngineGrows'. -/
def engineGrowsUptoCard : Claim7 := { stood := { row := engineGrowsUptoRow, standIns := [], harness := (true, "9743dcc7216159cedf5af689d9831578d52e7622345c3cbb87c8bebbc0866563"), looks := true }, kinds := [], alts := [], goes := true, laidByText := true, laidKinds := [.data], laidTests := true, laidLooks := .later }
def EngineGrowsUptoCardSaid : Prop := Claim7.holds Tryz.pinned (.plain (OpenSpec.upto engineGrowsSpec)) engineGrowsUptoCard

/-- THE SECOND FORM's CARD OF 'sawtoothlaw21.EngineLate'. -/
def engineLateUptoCard : Claim7 := { stood := { row := engineLateUptoRow, standIns := [], harness := (true, "9743dcc7216159cedf5af689d9831578d52e7622345c3cbb87c8bebbc0866563"), looks := true }, kinds := [], alts := [], goes := true, laidByText := true, laidKinds := [.data], laidTests := true, laidLooks := .later }
def EngineLateUptoCardSaid : Prop := Claim7.holds Tryz.pinned (.plain (OpenSpec.upto engineLateSpec)) engineLateUptoCard

/-- THE SECOND FORM's CARD OF 'sawtoothlaw21.EngineIdle'. -/
def engineIdleUptoCard : Claim7 := { stood := { row := engineIdleUptoRow, standIns := [], harness := (true, "9743dcc7216159cedf5af689d9831578d52e7622345c3cbb87c8bebbc0866563"), looks := true }, kinds := [], alts := [], goes := true, laidByText := true, laidKinds := [.data], laidTests := true, laidLooks := .later }
def EngineIdleUptoCardSaid : Prop := Claim7.holds Tryz.pinned (.plain (OpenSpec.upto engineIdleSpec)) engineIdleUptoCard

/-- THE SECOND FORM's CARD OF 'sawtoothlaw22.ReplayTells'. -/
def replayTellsUptoCard : Claim7 := { stood := { row := replayTellsUptoRow, standIns := [], harness := (true, "9743dcc7216159cedf5af689d9831578d52e7622345c3cbb87c8bebbc0866563"), looks := true }, kinds := [], alts := [], goes := true, laidByText := true, laidKinds := [.data], laidTests := true, laidLooks := .later }
def ReplayTellsUptoCardSaid : Prop := Claim7.holds Tryz.pinned (.plain (OpenSpec.upto replayTellsSpec)) replayTellsUptoCard

/-- THE SECOND FORM's CARD OF 'sawtoothlaw22.ReplayRefused'. -/
def replayRefusedUptoCard : Claim7 := { stood := { row := replayRefusedUptoRow, standIns := [], harness := (true, "9743dcc7216159cedf5af689d9831578d52e7622345c3cbb87c8bebbc0866563"), looks := true }, kinds := [], alts := [], goes := true, laidByText := true, laidKinds := [.data], laidTests := true, laidLooks := .later }
def ReplayRefusedUptoCardSaid : Prop := Claim7.holds Tryz.pinned (.plain (OpenSpec.upto replayRefusedSpec)) replayRefusedUptoCard

/-- THE SECOND FORM's CARD OF 'sawtoothlaw22.ReplaySteps'. -/
def replayStepsUptoCard : Claim7 := { stood := { row := replayStepsUptoRow, standIns := [], harness := (true, "9743dcc7216159cedf5af689d9831578d52e7622345c3cbb87c8bebbc0866563"), looks := true }, kinds := [], alts := [], goes := true, laidByText := true, laidKinds := [.data], laidTests := true, laidLooks := .later }
def ReplayStepsUptoCardSaid : Prop := Claim7.holds Tryz.pinned (.plain (OpenSpec.upto replayStepsSpec)) replayStepsUptoCard

/-- THE SECOND FORM's CARD OF 'sawtoothlaw22.ReplayParts'. -/
def replayPartsUptoCard : Claim7 := { stood := { row := replayPartsUptoRow, standIns := [], harness := (true, "9743dcc7216159cedf5af689d9831578d52e7622345c3cbb87c8bebbc0866563"), looks := true }, kinds := [], alts := [], goes := true, laidByText := true, laidKinds := [.data], laidTests := true, laidLooks := .later }
def ReplayPartsUptoCardSaid : Prop := Claim7.holds Tryz.pinned (.plain (OpenSpec.upto replayPartsSpec)) replayPartsUptoCard

/-- THE SECOND FORM's CARD OF 'sawtoothlaw22.ReplayBounds'. -/
def replayBoundsUptoCard : Claim7 := { stood := { row := replayBoundsUptoRow, standIns := [], harness := (true, "9743dcc7216159cedf5af689d9831578d52e7622345c3cbb87c8bebbc0866563"), looks := true }, kinds := [], alts := [], goes := true, laidByText := true, laidKinds := [.data], laidTests := true, laidLooks := .later }
def ReplayBoundsUptoCardSaid : Prop := Claim7.holds Tryz.pinned (.plain (OpenSpec.upto replayBoundsSpec)) replayBoundsUptoCard

/-- THE SECOND FORM's CARD OF 'sawtoothlaw22.ReplayTicks'. -/
def replayTicksUptoCard : Claim7 := { stood := { row := replayTicksUptoRow, standIns := [], harness := (true, "9743dcc7216159cedf5af689d9831578d52e7622345c3cbb87c8bebbc0866563"), looks := true }, kinds := [], alts := [], goes := true, laidByText := true, laidKinds := [.data], laidTests := true, laidLooks := .later }
def ReplayTicksUptoCardSaid : Prop := Claim7.holds Tryz.pinned (.plain (OpenSpec.upto replayTicksSpec)) replayTicksUptoCard
end Rows
end Go.Proofs.YtkokohkbhlnjkaaGreatDoor
