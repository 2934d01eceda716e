/-
  DERIVED. GIVEN WITH THE SEED: THE CARDS: each row of YtlhcljhfhkemiaaGreatDoorRows.lean that lists a variable, with what it lists TIED to the program's text (the seventh form; the later family's looks); each row that meets fmt, with fmt's text TOLD by the authors' own Lean function (tested against real Go, not proved from fmt's source: count such statements apart). THE CARD IS WHAT COUNTS. Prove the row's statement (the work); the ties are given (YtlhcljhfhkemiaaGreatDoorTie.lean); close each card by the builder's one call (the guide's Derived/Test/ToyasCard.lean, 'card_holds'). Laid BY PROGRAM, IN A SANDBOX (cutbox-door.mjs). By AI agents, Wed Nov 11 2026. No macro, syntax, notation, axiom, sorry.
-/
import Derived.Test.YtlhcljhfhkemiaaGreatDoorRows
import GoSem.ClaimSeven
namespace Go.Proofs.YtlhcljhfhkemiaaGreatDoor
namespace Rows

/-- THE TIED CARD OF 'laws.FnExactNodeLine'. -/
def fnExactNodeLineCard : Claim7 := { stood := { row := fnExactNodeLineRow, standIns := [], harness := (true, "63a37632d6b063176c838f1c1c5cc0abdbfaa0eab3b060d4ca912bdadf2773b7"), looks := true }, kinds := [], alts := [], laidByText := true, laidKinds := [.data, .data, .data, .data, .pinned], laidTests := true, laidLooks := .later }
def FnExactNodeLineCardSaid : Prop := Claim7.holds Tryz.pinned (.plain (OpenSpec.ofChange fnExactNodeLineSpec)) fnExactNodeLineCard

/-- THE TIED CARD OF 'laws.FnExactExportTree'. -/
def fnExactExportTreeCard : Claim7 := { stood := { row := fnExactExportTreeRow, standIns := [], harness := (true, "63a37632d6b063176c838f1c1c5cc0abdbfaa0eab3b060d4ca912bdadf2773b7"), looks := true }, kinds := [], alts := [], laidByText := true, laidKinds := [.data, .data, .data, .data, .pinned], laidTests := true, laidLooks := .later }
def FnExactExportTreeCardSaid : Prop := Claim7.holds Tryz.pinned (.plain (OpenSpec.ofChange fnExactExportTreeSpec)) fnExactExportTreeCard

/-- THE TIED CARD OF 'laws.FnExactReadPlain'. -/
def fnExactReadPlainCard : Claim7 := { stood := { row := fnExactReadPlainRow, standIns := [], harness := (true, "63a37632d6b063176c838f1c1c5cc0abdbfaa0eab3b060d4ca912bdadf2773b7"), looks := true }, kinds := [], alts := [], laidByText := true, laidKinds := [.data, .data, .data, .data, .sentinel, .sentinel, .pinned], laidTests := true, laidLooks := .later }
def FnExactReadPlainCardSaid : Prop := Claim7.holds Tryz.pinned (.plain (OpenSpec.ofChange fnExactReadPlainSpec)) fnExactReadPlainCard

/-- THE SECOND FORM's CARD OF 'laws.FnExactNodeLine'. -/
def fnExactNodeLineUptoCard : Claim7 := { stood := { row := fnExactNodeLineUptoRow, standIns := [], harness := (true, "63a37632d6b063176c838f1c1c5cc0abdbfaa0eab3b060d4ca912bdadf2773b7"), looks := true }, kinds := [], alts := [], laidByText := true, laidKinds := [.data, .data, .data, .data, .pinned], laidTests := true, laidLooks := .later }
def FnExactNodeLineUptoCardSaid : Prop := Claim7.holds Tryz.pinned (.plain (OpenSpec.upto fnExactNodeLineSpec)) fnExactNodeLineUptoCard

/-- THE SECOND FORM's CARD OF 'laws.FnExactExportTree'. -/
def fnExactExportTreeUptoCard : Claim7 := { stood := { row := fnExactExportTreeUptoRow, standIns := [], harness := (true, "63a37632d6b063176c838f1c1c5cc0abdbfaa0eab3b060d4ca912bdadf2773b7"), looks := true }, kinds := [], alts := [], laidByText := true, laidKinds := [.data, .data, .data, .data, .pinned], laidTests := true, laidLooks := .later }
def FnExactExportTreeUptoCardSaid : Prop := Claim7.holds Tryz.pinned (.plain (OpenSpec.upto fnExactExportTreeSpec)) fnExactExportTreeUptoCard

/-- THE SECOND FORM's CARD OF 'laws.FnExactReadPlain'. -/
def fnExactReadPlainUptoCard : Claim7 := { stood := { row := fnExactReadPlainUptoRow, standIns := [], harness := (true, "63a37632d6b063176c838f1c1c5cc0abdbfaa0eab3b060d4ca912bdadf2773b7"), looks := true }, kinds := [], alts := [], laidByText := true, laidKinds := [.data, .data, .data, .data, .sentinel, .sentinel, .pinned], laidTests := true, laidLooks := .later }
def FnExactReadPlainUptoCardSaid : Prop := Claim7.holds Tryz.pinned (.plain (OpenSpec.upto fnExactReadPlainSpec)) fnExactReadPlainUptoCard
end Rows
end Go.Proofs.YtlhcljhfhkemiaaGreatDoor
