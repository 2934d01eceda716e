/-
  DERIVED. GIVEN WITH THE SEED: THE CARDS: each row of YtmeholhmadeehaaGreatDoorRows.lean that lists a variable, with what it lists TIED to the program's text (the seventh form; the later family's looks); each row that meets fmt, with fmt's text TOLD by the authors' own Lean function (tested against real Go, not proved from fmt's source: count such statements apart). THE CARD IS WHAT COUNTS. Prove the row's statement (the work); the ties are given (YtmeholhmadeehaaGreatDoorTie.lean); close each card by the builder's one call (the guide's Derived/Test/ToyasCard.lean, 'card_holds'). Laid BY PROGRAM, IN A SANDBOX (cutbox-door.mjs). By AI agents, Wed Nov 11 2026. No macro, syntax, notation, axiom, sorry.
-/
import Derived.Test.YtmeholhmadeehaaGreatDoorRows
import GoSem.ClaimSeven
namespace Go.Proofs.YtmeholhmadeehaaGreatDoor
namespace Rows

/-- THE TIED CARD OF 'laws.FnExactReadFrom'. -/
def fnExactReadFromCard : Claim7 := { stood := { row := fnExactReadFromRow, standIns := [], harness := (true, "98f6dff0d47e28d0c54aea7514f4b13daeb7e1e24a3d25a67f2c1603312be45f"), looks := false }, kinds := [], alts := [], laidByText := true, laidKinds := [.data, .data, .data], laidTests := true, laidLooks := .later }
def FnExactReadFromCardSaid : Prop := Claim7.holds Tryz.pinned (.plain (OpenSpec.ofChange fnExactReadFromSpec)) fnExactReadFromCard

/-- THE TIED CARD OF 'laws.FnFiles'. -/
def fnFilesCard : Claim7 := { stood := { row := fnFilesRow, standIns := [], harness := (true, "98f6dff0d47e28d0c54aea7514f4b13daeb7e1e24a3d25a67f2c1603312be45f"), looks := false }, kinds := [], alts := [], laidByText := true, laidKinds := [.data, .data, .data], laidTests := true, laidLooks := .later }
def FnFilesCardSaid : Prop := Claim7.holds Tryz.pinned (.plain (OpenSpec.ofChange fnFilesSpec)) fnFilesCard

/-- THE SECOND FORM's CARD OF 'laws.FnExactReadFrom'. -/
def fnExactReadFromUptoCard : Claim7 := { stood := { row := fnExactReadFromUptoRow, standIns := [], harness := (true, "98f6dff0d47e28d0c54aea7514f4b13daeb7e1e24a3d25a67f2c1603312be45f"), looks := false }, kinds := [], alts := [], laidByText := true, laidKinds := [.data, .data, .data], laidTests := true, laidLooks := .later }
def FnExactReadFromUptoCardSaid : Prop := Claim7.holds Tryz.pinned (.plain (OpenSpec.upto fnExactReadFromSpec)) fnExactReadFromUptoCard

/-- THE SECOND FORM's CARD OF 'laws.FnFiles'. -/
def fnFilesUptoCard : Claim7 := { stood := { row := fnFilesUptoRow, standIns := [], harness := (true, "98f6dff0d47e28d0c54aea7514f4b13daeb7e1e24a3d25a67f2c1603312be45f"), looks := false }, kinds := [], alts := [], laidByText := true, laidKinds := [.data, .data, .data], laidTests := true, laidLooks := .later }
def FnFilesUptoCardSaid : Prop := Claim7.holds Tryz.pinned (.plain (OpenSpec.upto fnFilesSpec)) fnFilesUptoCard
end Rows
end Go.Proofs.YtmeholhmadeehaaGreatDoor
