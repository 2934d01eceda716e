/-
  DERIVED. GIVEN WITH THE SEED: THE CARDS: each row of YtbpopkaafellgaaDoorRows.lean that lists a variable, with what it lists TIED to the program's text (the seventh form; the later family's looks); each row that meets fmt, with fmt's text TOLD by the authors' own Lean function (tested against real Go, not proved from fmt's source: count such statements apart). THE CARD IS WHAT COUNTS. Prove the row's statement (the work); the ties are given (YtbpopkaafellgaaDoorTie.lean); close each card by the builder's one call (the guide's Derived/Test/ToyasCard.lean, 'card_holds'). Laid BY PROGRAM, IN A SANDBOX (cutbox-door.mjs). By AI agents, Wed Nov 11 2026. No macro, syntax, notation, axiom, sorry.
-/
import Derived.Test.YtbpopkaafellgaaDoorRows
import GoSem.ClaimSeven
namespace Go.Proofs.YtbpopkaafellgaaDoor
namespace Rows

/-- THE TIED CARD OF 'laws.FnScreens'. -/
def fnScreensCard : Claim7 := { stood := { row := fnScreensRow, standIns := [], harness := (true, "005f195931aba762a4dbede05d502fd6b0ff6d66831235f7d4b15c97618c80de"), looks := false }, kinds := [], alts := [], laidByText := true, laidKinds := [.data, .pinned], laidTests := true, laidLooks := .later }
def FnScreensCardSaid : Prop := Claim7.holds Tryd.pinned (.plain (OpenSpec.ofChange fnScreensSpec)) fnScreensCard

/-- THE SECOND FORM's CARD OF 'laws.FnScreens'. -/
def fnScreensUptoCard : Claim7 := { stood := { row := fnScreensUptoRow, standIns := [], harness := (true, "005f195931aba762a4dbede05d502fd6b0ff6d66831235f7d4b15c97618c80de"), looks := false }, kinds := [], alts := [], laidByText := true, laidKinds := [.data, .pinned], laidTests := true, laidLooks := .later }
def FnScreensUptoCardSaid : Prop := Claim7.holds Tryd.pinned (.plain (OpenSpec.upto fnScreensSpec)) fnScreensUptoCard
end Rows
end Go.Proofs.YtbpopkaafellgaaDoor
