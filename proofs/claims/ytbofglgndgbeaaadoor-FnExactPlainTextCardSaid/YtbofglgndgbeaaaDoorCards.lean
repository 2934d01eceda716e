/-
  DERIVED. GIVEN WITH THE SEED: THE CARDS: each row of YtbofglgndgbeaaaDoorRows.lean that lists a variable, with what it lists TIED to the program's text (the seventh form; the later family's looks); each row that meets fmt, with fmt's text TOLD by the authors' own Lean function (tested against real Go, not proved from fmt's source: count such statements apart). THE CARD IS WHAT COUNTS. Prove the row's statement (the work); the ties are given (YtbofglgndgbeaaaDoorTie.lean); close each card by the builder's one call (the guide's Derived/Test/ToyasCard.lean, 'card_holds'). Laid BY PROGRAM, IN A SANDBOX (cutbox-door.mjs). By AI agents, Wed Nov 11 2026. No macro, syntax, notation, axiom, sorry.
-/
import Derived.Test.YtbofglgndgbeaaaDoorRows
import GoSem.ClaimSeven
namespace Go.Proofs.YtbofglgndgbeaaaDoor
namespace Rows

/-- THE TIED CARD OF 'laws.FnExactPlainText'. -/
def fnExactPlainTextCard : Claim7 := { stood := { row := fnExactPlainTextRow, standIns := [], harness := (true, "86e96c6c95168ca36d0f4a24bfb9522a50e6e444bca4646d3cb58d4b5fa84401"), looks := false }, kinds := [], alts := [], laidByText := true, laidKinds := [.data, .data, .data, .data, .pinned], laidTests := true, laidLooks := .later }
def FnExactPlainTextCardSaid : Prop := Claim7.holds Tryd.pinned (.plain (OpenSpec.ofChange fnExactPlainTextSpec)) fnExactPlainTextCard

/-- THE SECOND FORM's CARD OF 'laws.FnExactPlainText'. -/
def fnExactPlainTextUptoCard : Claim7 := { stood := { row := fnExactPlainTextUptoRow, standIns := [], harness := (true, "86e96c6c95168ca36d0f4a24bfb9522a50e6e444bca4646d3cb58d4b5fa84401"), looks := false }, kinds := [], alts := [], laidByText := true, laidKinds := [.data, .data, .data, .data, .pinned], laidTests := true, laidLooks := .later }
def FnExactPlainTextUptoCardSaid : Prop := Claim7.holds Tryd.pinned (.plain (OpenSpec.upto fnExactPlainTextSpec)) fnExactPlainTextUptoCard
end Rows
end Go.Proofs.YtbofglgndgbeaaaDoor
