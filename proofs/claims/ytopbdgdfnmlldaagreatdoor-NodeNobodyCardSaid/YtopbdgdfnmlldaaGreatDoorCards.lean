/-
  DERIVED. GIVEN WITH THE SEED: THE CARDS: each row of YtopbdgdfnmlldaaGreatDoorRows.lean that lists a variable, with what it lists TIED to the program's text (the seventh form; the later family's looks); each row that meets fmt, with fmt's text TOLD by the authors' own Lean function (tested against real Go, not proved from fmt's source: count such statements apart). THE CARD IS WHAT COUNTS. Prove the row's statement (the work); the ties are given (YtopbdgdfnmlldaaGreatDoorTie.lean); close each card by the builder's one call (the guide's Derived/Test/ToyasCard.lean, 'card_holds'). Laid BY PROGRAM, IN A SANDBOX (cutbox-door.mjs). By AI agents, Wed Nov 11 2026. No macro, syntax, notation, axiom, sorry.
-/
import Derived.Test.YtopbdgdfnmlldaaGreatDoorRows
import GoSem.ClaimSeven
namespace Go.Proofs.YtopbdgdfnmlldaaGreatDoor
namespace Rows

/-- THE TIED CARD OF 'tidemarklaw20.NodeNobody'. -/
def nodeNobodyCard : Claim7 := { stood := { row := nodeNobodyRow, standIns := [], harness := (true, "235c354f196c975a5b00561c9803c35dfeba8fc7d464274d72a6eb98d86eda19"), looks := true }, kinds := [], alts := [], laidByText := true, laidKinds := [.data], laidTests := true, laidLooks := .later }
def NodeNobodyCardSaid : Prop := Claim7.holds Tryz.pinned (.plain (OpenSpec.ofChange nodeNobodySpec)) nodeNobodyCard

/-- THE SECOND FORM's CARD OF 'tidemarklaw20.NodeNobody'. -/
def nodeNobodyUptoCard : Claim7 := { stood := { row := nodeNobodyUptoRow, standIns := [], harness := (true, "235c354f196c975a5b00561c9803c35dfeba8fc7d464274d72a6eb98d86eda19"), looks := true }, kinds := [], alts := [], laidByText := true, laidKinds := [.data], laidTests := true, laidLooks := .later }
def NodeNobodyUptoCardSaid : Prop := Claim7.holds Tryz.pinned (.plain (OpenSpec.upto nodeNobodySpec)) nodeNobodyUptoCard
end Rows
end Go.Proofs.YtopbdgdfnmlldaaGreatDoor
