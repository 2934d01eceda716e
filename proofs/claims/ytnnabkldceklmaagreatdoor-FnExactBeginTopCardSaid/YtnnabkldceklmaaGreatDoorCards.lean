/-
  DERIVED. GIVEN WITH THE SEED: THE CARDS: each row of YtnnabkldceklmaaGreatDoorRows.lean that lists a variable, with what it lists TIED to the program's text (the seventh form; the later family's looks); each row that meets fmt, with fmt's text TOLD by the authors' own Lean function (tested against real Go, not proved from fmt's source: count such statements apart). THE CARD IS WHAT COUNTS. Prove the row's statement (the work); the ties are given (YtnnabkldceklmaaGreatDoorTie.lean); close each card by the builder's one call (the guide's Derived/Test/ToyasCard.lean, 'card_holds'). Laid BY PROGRAM, IN A SANDBOX (cutbox-door.mjs). By AI agents, Wed Nov 11 2026. No macro, syntax, notation, axiom, sorry.
-/
import Derived.Test.YtnnabkldceklmaaGreatDoorRows
import GoSem.ClaimSeven
namespace Go.Proofs.YtnnabkldceklmaaGreatDoor
namespace Rows

/-- THE TIED CARD OF 'laws.FnExactBeginTop'. -/
def fnExactBeginTopCard : Claim7 := { stood := { row := fnExactBeginTopRow, standIns := [], harness := (true, "df5da23cf571bb4c8f7453bca322683fd918e90c98d4eac6a6fe32ce515fc693"), looks := false }, kinds := [], alts := [], laidByText := true, laidKinds := [.data, .data, .data, .data, .pinned], laidTests := true, laidLooks := .later }
def FnExactBeginTopCardSaid : Prop := Claim7.holds Tryz.pinned (.plain (OpenSpec.ofChange fnExactBeginTopSpec)) fnExactBeginTopCard

/-- THE TIED CARD OF 'laws.FnExactWriteDirty'. -/
def fnExactWriteDirtyCard : Claim7 := { stood := { row := fnExactWriteDirtyRow, standIns := [], harness := (true, "df5da23cf571bb4c8f7453bca322683fd918e90c98d4eac6a6fe32ce515fc693"), looks := false }, kinds := [], alts := [], laidByText := true, laidKinds := [.data, .data, .data, .data, .pinned], laidTests := true, laidLooks := .later }
def FnExactWriteDirtyCardSaid : Prop := Claim7.holds Tryz.pinned (.plain (OpenSpec.ofChange fnExactWriteDirtySpec)) fnExactWriteDirtyCard

/-- THE TIED CARD OF 'laws.FnExactWritePages'. -/
def fnExactWritePagesCard : Claim7 := { stood := { row := fnExactWritePagesRow, standIns := [], harness := (true, "df5da23cf571bb4c8f7453bca322683fd918e90c98d4eac6a6fe32ce515fc693"), looks := false }, kinds := [], alts := [], laidByText := true, laidKinds := [.data, .data, .data, .data, .pinned], laidTests := true, laidLooks := .later }
def FnExactWritePagesCardSaid : Prop := Claim7.holds Tryz.pinned (.plain (OpenSpec.ofChange fnExactWritePagesSpec)) fnExactWritePagesCard

/-- THE TIED CARD OF 'laws.FnExactStepCheckpoint'. -/
def fnExactStepCheckpointCard : Claim7 := { stood := { row := fnExactStepCheckpointRow, standIns := [], harness := (true, "df5da23cf571bb4c8f7453bca322683fd918e90c98d4eac6a6fe32ce515fc693"), looks := false }, kinds := [], alts := [], laidByText := true, laidKinds := [.data, .data, .data, .data, .pinned], laidTests := true, laidLooks := .later }
def FnExactStepCheckpointCardSaid : Prop := Claim7.holds Tryz.pinned (.plain (OpenSpec.ofChange fnExactStepCheckpointSpec)) fnExactStepCheckpointCard

/-- THE TIED CARD OF 'laws.FnExactCheckpoint'. -/
def fnExactCheckpointCard : Claim7 := { stood := { row := fnExactCheckpointRow, standIns := [], harness := (true, "df5da23cf571bb4c8f7453bca322683fd918e90c98d4eac6a6fe32ce515fc693"), looks := false }, kinds := [], alts := [], laidByText := true, laidKinds := [.data, .data, .data, .data, .pinned], laidTests := true, laidLooks := .later }
def FnExactCheckpointCardSaid : Prop := Claim7.holds Tryz.pinned (.plain (OpenSpec.ofChange fnExactCheckpointSpec)) fnExactCheckpointCard

/-- THE SECOND FORM's CARD OF 'laws.FnExactBeginTop'. -/
def fnExactBeginTopUptoCard : Claim7 := { stood := { row := fnExactBeginTopUptoRow, standIns := [], harness := (true, "df5da23cf571bb4c8f7453bca322683fd918e90c98d4eac6a6fe32ce515fc693"), looks := false }, kinds := [], alts := [], laidByText := true, laidKinds := [.data, .data, .data, .data, .pinned], laidTests := true, laidLooks := .later }
def FnExactBeginTopUptoCardSaid : Prop := Claim7.holds Tryz.pinned (.plain (OpenSpec.upto fnExactBeginTopSpec)) fnExactBeginTopUptoCard

/-- THE SECOND FORM's CARD OF 'laws.FnExactWriteDirty'. -/
def fnExactWriteDirtyUptoCard : Claim7 := { stood := { row := fnExactWriteDirtyUptoRow, standIns := [], harness := (true, "df5da23cf571bb4c8f7453bca322683fd918e90c98d4eac6a6fe32ce515fc693"), looks := false }, kinds := [], alts := [], laidByText := true, laidKinds := [.data, .data, .data, .data, .pinned], laidTests := true, laidLooks := .later }
def FnExactWriteDirtyUptoCardSaid : Prop := Claim7.holds Tryz.pinned (.plain (OpenSpec.upto fnExactWriteDirtySpec)) fnExactWriteDirtyUptoCard

/-- THE SECOND FORM's CARD OF 'laws.FnExactWritePages'. -/
def fnExactWritePagesUptoCard : Claim7 := { stood := { row := fnExactWritePagesUptoRow, standIns := [], harness := (true, "df5da23cf571bb4c8f7453bca322683fd918e90c98d4eac6a6fe32ce515fc693"), looks := false }, kinds := [], alts := [], laidByText := true, laidKinds := [.data, .data, .data, .data, .pinned], laidTests := true, laidLooks := .later }
def FnExactWritePagesUptoCardSaid : Prop := Claim7.holds Tryz.pinned (.plain (OpenSpec.upto fnExactWritePagesSpec)) fnExactWritePagesUptoCard

/-- THE SECOND FORM's CARD OF 'laws.FnExactStepCheckpoint'. -/
def fnExactStepCheckpointUptoCard : Claim7 := { stood := { row := fnExactStepCheckpointUptoRow, standIns := [], harness := (true, "df5da23cf571bb4c8f7453bca322683fd918e90c98d4eac6a6fe32ce515fc693"), looks := false }, kinds := [], alts := [], laidByText := true, laidKinds := [.data, .data, .data, .data, .pinned], laidTests := true, laidLooks := .later }
def FnExactStepCheckpointUptoCardSaid : Prop := Claim7.holds Tryz.pinned (.plain (OpenSpec.upto fnExactStepCheckpointSpec)) fnExactStepCheckpointUptoCard

/-- THE SECOND FORM's CARD OF 'laws.FnExactCheckpoint'. -/
def fnExactCheckpointUptoCard : Claim7 := { stood := { row := fnExactCheckpointUptoRow, standIns := [], harness := (true, "df5da23cf571bb4c8f7453bca322683fd918e90c98d4eac6a6fe32ce515fc693"), looks := false }, kinds := [], alts := [], laidByText := true, laidKinds := [.data, .data, .data, .data, .pinned], laidTests := true, laidLooks := .later }
def FnExactCheckpointUptoCardSaid : Prop := Claim7.holds Tryz.pinned (.plain (OpenSpec.upto fnExactCheckpointSpec)) fnExactCheckpointUptoCard
end Rows
end Go.Proofs.YtnnabkldceklmaaGreatDoor
