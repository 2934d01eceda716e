/-
  DERIVED. GIVEN WITH THE SEED: THE CARDS: each row of YtfibjcaidnofmaaGreatDoorRows.lean that lists a variable, with what it lists TIED to the program's text (the seventh form; the later family's looks); each row that meets fmt, with fmt's text TOLD by the authors' own Lean function (tested against real Go, not proved from fmt's source: count such statements apart). THE CARD IS WHAT COUNTS. Prove the row's statement (the work); the ties are given (YtfibjcaidnofmaaGreatDoorTie.lean); close each card by the builder's one call (the guide's Derived/Test/ToyasCard.lean, 'card_holds'). Laid BY PROGRAM, IN A SANDBOX (cutbox-door.mjs). By AI agents, Wed Nov 11 2026. No macro, syntax, notation, axiom, sorry.
-/
import Derived.Test.YtfibjcaidnofmaaGreatDoorRows
import GoSem.ClaimSeven
namespace Go.Proofs.YtfibjcaidnofmaaGreatDoor
namespace Rows

/-- THE TIED CARD OF 'laws.FnExportOrder'. -/
def fnExportOrderCard : Claim7 := { stood := { row := fnExportOrderRow, standIns := [], harness := (true, "29a102dabd700e0189aaebc89fc45202bd8a5a5fefac78a12d552004441c6cf4"), looks := true }, kinds := [], alts := [], laidByText := true, laidKinds := [.data, .data, .data, .data, .sentinel, .sentinel, .pinned], laidTests := true, laidLooks := .later }
def FnExportOrderCardSaid : Prop := Claim7.holds Tryz.pinned (.plain (OpenSpec.ofChange fnExportOrderSpec)) fnExportOrderCard

/-- THE TIED CARD OF 'laws.FnExactImportTree'. -/
def fnExactImportTreeCard : Claim7 := { stood := { row := fnExactImportTreeRow, standIns := [], harness := (true, "29a102dabd700e0189aaebc89fc45202bd8a5a5fefac78a12d552004441c6cf4"), looks := true }, kinds := [], alts := [], laidByText := true, laidKinds := [.data, .data, .data, .data, .sentinel, .sentinel, .pinned], laidTests := true, laidLooks := .later }
def FnExactImportTreeCardSaid : Prop := Claim7.holds Tryz.pinned (.plain (OpenSpec.ofChange fnExactImportTreeSpec)) fnExactImportTreeCard

/-- THE TIED CARD OF 'laws.FnExport'. -/
def fnExportCard : Claim7 := { stood := { row := fnExportRow, standIns := [], harness := (true, "29a102dabd700e0189aaebc89fc45202bd8a5a5fefac78a12d552004441c6cf4"), looks := true }, kinds := [], alts := [], laidByText := true, laidKinds := [.data, .data, .data, .data, .sentinel, .sentinel, .pinned], laidTests := true, laidLooks := .later }
def FnExportCardSaid : Prop := Claim7.holds Tryz.pinned (.plain (OpenSpec.ofChange fnExportSpec)) fnExportCard

/-- THE SECOND FORM's CARD OF 'laws.FnExportOrder'. -/
def fnExportOrderUptoCard : Claim7 := { stood := { row := fnExportOrderUptoRow, standIns := [], harness := (true, "29a102dabd700e0189aaebc89fc45202bd8a5a5fefac78a12d552004441c6cf4"), looks := true }, kinds := [], alts := [], laidByText := true, laidKinds := [.data, .data, .data, .data, .sentinel, .sentinel, .pinned], laidTests := true, laidLooks := .later }
def FnExportOrderUptoCardSaid : Prop := Claim7.holds Tryz.pinned (.plain (OpenSpec.upto fnExportOrderSpec)) fnExportOrderUptoCard

/-- THE SECOND FORM's CARD OF 'laws.FnExactImportTree'. -/
def fnExactImportTreeUptoCard : Claim7 := { stood := { row := fnExactImportTreeUptoRow, standIns := [], harness := (true, "29a102dabd700e0189aaebc89fc45202bd8a5a5fefac78a12d552004441c6cf4"), looks := true }, kinds := [], alts := [], laidByText := true, laidKinds := [.data, .data, .data, .data, .sentinel, .sentinel, .pinned], laidTests := true, laidLooks := .later }
def FnExactImportTreeUptoCardSaid : Prop := Claim7.holds Tryz.pinned (.plain (OpenSpec.upto fnExactImportTreeSpec)) fnExactImportTreeUptoCard

/-- THE SECOND FORM's CARD OF 'laws.FnExport'. -/
def fnExportUptoCard : Claim7 := { stood := { row := fnExportUptoRow, standIns := [], harness := (true, "29a102dabd700e0189aaebc89fc45202bd8a5a5fefac78a12d552004441c6cf4"), looks := true }, kinds := [], alts := [], laidByText := true, laidKinds := [.data, .data, .data, .data, .sentinel, .sentinel, .pinned], laidTests := true, laidLooks := .later }
def FnExportUptoCardSaid : Prop := Claim7.holds Tryz.pinned (.plain (OpenSpec.upto fnExportSpec)) fnExportUptoCard
end Rows
end Go.Proofs.YtfibjcaidnofmaaGreatDoor
