/-
  DERIVED. GIVEN WITH THE SEED: THE CARDS: each row of YtcjaaknnfohllaaGreatDoorRows.lean that lists a variable, with what it lists TIED to the program's text (the seventh form; the later family's looks); each row that meets fmt, with fmt's text TOLD by the authors' own Lean function (tested against real Go, not proved from fmt's source: count such statements apart). THE CARD IS WHAT COUNTS. Prove the row's statement (the work); the ties are given (YtcjaaknnfohllaaGreatDoorTie.lean); close each card by the builder's one call (the guide's Derived/Test/ToyasCard.lean, 'card_holds'). Laid BY PROGRAM, IN A SANDBOX (cutbox-door.mjs). By AI agents, Wed Nov 11 2026. No macro, syntax, notation, axiom, sorry.
-/
import Derived.Test.YtcjaaknnfohllaaGreatDoorRows
import GoSem.ClaimSeven
namespace Go.Proofs.YtcjaaknnfohllaaGreatDoor
namespace Rows

/-- THE TIED CARD OF 'laws.FnExactSitesActText'. -/
def fnExactSitesActTextCard : Claim7 := { stood := { row := fnExactSitesActTextRow, standIns := [], harness := (true, "d6a72fd11ff52e37cd845dd644a6af06b0c5427fa4719cbf4ee5298980d47f73"), looks := true }, kinds := [], alts := [], laidByText := true, laidKinds := [.data, .data, .data, .data, .pinned], laidTests := true, laidLooks := .later }
def FnExactSitesActTextCardSaid : Prop := Claim7.holds Tryz.pinned (.plain (OpenSpec.ofChange fnExactSitesActTextSpec)) fnExactSitesActTextCard

/-- THE TIED CARD OF 'laws.FnExactReadLine'. -/
def fnExactReadLineCard : Claim7 := { stood := { row := fnExactReadLineRow, standIns := [], harness := (true, "d6a72fd11ff52e37cd845dd644a6af06b0c5427fa4719cbf4ee5298980d47f73"), looks := true }, kinds := [], alts := [], laidByText := true, laidKinds := [.data, .data, .data, .data, .sentinel, .sentinel, .pinned], laidTests := true, laidLooks := .later }
def FnExactReadLineCardSaid : Prop := Claim7.holds Tryz.pinned (.plain (OpenSpec.ofChange fnExactReadLineSpec)) fnExactReadLineCard

/-- THE TIED CARD OF 'laws.FnExactReadSitesAct'. -/
def fnExactReadSitesActCard : Claim7 := { stood := { row := fnExactReadSitesActRow, standIns := [], harness := (true, "d6a72fd11ff52e37cd845dd644a6af06b0c5427fa4719cbf4ee5298980d47f73"), looks := true }, kinds := [], alts := [], laidByText := true, laidKinds := [.data, .data, .data, .data, .sentinel, .sentinel, .pinned], laidTests := true, laidLooks := .later }
def FnExactReadSitesActCardSaid : Prop := Claim7.holds Tryz.pinned (.plain (OpenSpec.ofChange fnExactReadSitesActSpec)) fnExactReadSitesActCard

/-- THE TIED CARD OF 'laws.FnExactImportTree'. -/
def fnExactImportTreeCard : Claim7 := { stood := { row := fnExactImportTreeRow, standIns := [], harness := (true, "d6a72fd11ff52e37cd845dd644a6af06b0c5427fa4719cbf4ee5298980d47f73"), looks := true }, kinds := [], alts := [], laidByText := true, laidKinds := [.data, .data, .data, .data, .sentinel, .sentinel, .pinned], laidTests := true, laidLooks := .later }
def FnExactImportTreeCardSaid : Prop := Claim7.holds Tryz.pinned (.plain (OpenSpec.ofChange fnExactImportTreeSpec)) fnExactImportTreeCard

/-- THE SECOND FORM's CARD OF 'laws.FnExactSitesActText'. -/
def fnExactSitesActTextUptoCard : Claim7 := { stood := { row := fnExactSitesActTextUptoRow, standIns := [], harness := (true, "d6a72fd11ff52e37cd845dd644a6af06b0c5427fa4719cbf4ee5298980d47f73"), looks := true }, kinds := [], alts := [], laidByText := true, laidKinds := [.data, .data, .data, .data, .pinned], laidTests := true, laidLooks := .later }
def FnExactSitesActTextUptoCardSaid : Prop := Claim7.holds Tryz.pinned (.plain (OpenSpec.upto fnExactSitesActTextSpec)) fnExactSitesActTextUptoCard

/-- THE SECOND FORM's CARD OF 'laws.FnExactReadLine'. -/
def fnExactReadLineUptoCard : Claim7 := { stood := { row := fnExactReadLineUptoRow, standIns := [], harness := (true, "d6a72fd11ff52e37cd845dd644a6af06b0c5427fa4719cbf4ee5298980d47f73"), looks := true }, kinds := [], alts := [], laidByText := true, laidKinds := [.data, .data, .data, .data, .sentinel, .sentinel, .pinned], laidTests := true, laidLooks := .later }
def FnExactReadLineUptoCardSaid : Prop := Claim7.holds Tryz.pinned (.plain (OpenSpec.upto fnExactReadLineSpec)) fnExactReadLineUptoCard

/-- THE SECOND FORM's CARD OF 'laws.FnExactReadSitesAct'. -/
def fnExactReadSitesActUptoCard : Claim7 := { stood := { row := fnExactReadSitesActUptoRow, standIns := [], harness := (true, "d6a72fd11ff52e37cd845dd644a6af06b0c5427fa4719cbf4ee5298980d47f73"), looks := true }, kinds := [], alts := [], laidByText := true, laidKinds := [.data, .data, .data, .data, .sentinel, .sentinel, .pinned], laidTests := true, laidLooks := .later }
def FnExactReadSitesActUptoCardSaid : Prop := Claim7.holds Tryz.pinned (.plain (OpenSpec.upto fnExactReadSitesActSpec)) fnExactReadSitesActUptoCard

/-- THE SECOND FORM's CARD OF 'laws.FnExactImportTree'. -/
def fnExactImportTreeUptoCard : Claim7 := { stood := { row := fnExactImportTreeUptoRow, standIns := [], harness := (true, "d6a72fd11ff52e37cd845dd644a6af06b0c5427fa4719cbf4ee5298980d47f73"), looks := true }, kinds := [], alts := [], laidByText := true, laidKinds := [.data, .data, .data, .data, .sentinel, .sentinel, .pinned], laidTests := true, laidLooks := .later }
def FnExactImportTreeUptoCardSaid : Prop := Claim7.holds Tryz.pinned (.plain (OpenSpec.upto fnExactImportTreeSpec)) fnExactImportTreeUptoCard
end Rows
end Go.Proofs.YtcjaaknnfohllaaGreatDoor
