/-
  DERIVED. GIVEN WITH THE SEED: THE CARDS: each row of YtkibkodlbjhjfaaDoorRows.lean that lists a variable, with what it lists TIED to the program's text (the seventh form; the later family's looks); each row that meets fmt, with fmt's text TOLD by the authors' own Lean function (tested against real Go, not proved from fmt's source: count such statements apart). THE CARD IS WHAT COUNTS. Prove the row's statement (the work); the ties are given (YtkibkodlbjhjfaaDoorTie.lean); close each card by the builder's one call (the guide's Derived/Test/ToyasCard.lean, 'card_holds'). Laid BY PROGRAM, IN A SANDBOX (cutbox-door.mjs). By AI agents, Wed Nov 11 2026. No macro, syntax, notation, axiom, sorry.
-/
import Derived.Test.YtkibkodlbjhjfaaDoorRows
import GoSem.ClaimSeven
namespace Go.Proofs.YtkibkodlbjhjfaaDoor
namespace Rows

/-- THE TIED CARD OF 'tidemarklaw02.TextShort'. -/
def textShortCard : Claim7 := { stood := { row := textShortRow, standIns := [], harness := (true, "8f23f3cc85da3dc930e35184724944f3e6850ccb2890a8ecc9ab9fffa7223d02"), looks := false }, kinds := [], alts := [], laidByText := true, laidKinds := [.data, .pinned], laidTests := true, laidLooks := .later }
def TextShortCardSaid : Prop := Claim7.holds Tryd.pinned (.plain (OpenSpec.ofChange textShortSpec)) textShortCard

/-- THE TIED CARD OF 'tidemarklaw02.TextCut'. -/
def textCutCard : Claim7 := { stood := { row := textCutRow, standIns := [], harness := (true, "8f23f3cc85da3dc930e35184724944f3e6850ccb2890a8ecc9ab9fffa7223d02"), looks := false }, kinds := [], alts := [], laidByText := true, laidKinds := [.data, .pinned], laidTests := true, laidLooks := .later }
def TextCutCardSaid : Prop := Claim7.holds Tryd.pinned (.plain (OpenSpec.ofChange textCutSpec)) textCutCard

/-- THE TIED CARD OF 'tidemarklaw02.TextTold'. -/
def textToldCard : Claim7 := { stood := { row := textToldRow, standIns := [], harness := (true, "8f23f3cc85da3dc930e35184724944f3e6850ccb2890a8ecc9ab9fffa7223d02"), looks := false }, kinds := [], alts := [], laidByText := true, laidKinds := [.data, .data, .data], laidTests := true, laidLooks := .later }
def TextToldCardSaid : Prop := Claim7.holds Tryd.pinned (.plain (OpenSpec.ofChange textToldSpec)) textToldCard

/-- THE SECOND FORM's CARD OF 'tidemarklaw02.TextShort'. -/
def textShortUptoCard : Claim7 := { stood := { row := textShortUptoRow, standIns := [], harness := (true, "8f23f3cc85da3dc930e35184724944f3e6850ccb2890a8ecc9ab9fffa7223d02"), looks := false }, kinds := [], alts := [], laidByText := true, laidKinds := [.data, .pinned], laidTests := true, laidLooks := .later }
def TextShortUptoCardSaid : Prop := Claim7.holds Tryd.pinned (.plain (OpenSpec.upto textShortSpec)) textShortUptoCard

/-- THE SECOND FORM's CARD OF 'tidemarklaw02.TextCut'. -/
def textCutUptoCard : Claim7 := { stood := { row := textCutUptoRow, standIns := [], harness := (true, "8f23f3cc85da3dc930e35184724944f3e6850ccb2890a8ecc9ab9fffa7223d02"), looks := false }, kinds := [], alts := [], laidByText := true, laidKinds := [.data, .pinned], laidTests := true, laidLooks := .later }
def TextCutUptoCardSaid : Prop := Claim7.holds Tryd.pinned (.plain (OpenSpec.upto textCutSpec)) textCutUptoCard

/-- THE SECOND FORM's CARD OF 'tidemarklaw02.TextTold'. -/
def textToldUptoCard : Claim7 := { stood := { row := textToldUptoRow, standIns := [], harness := (true, "8f23f3cc85da3dc930e35184724944f3e6850ccb2890a8ecc9ab9fffa7223d02"), looks := false }, kinds := [], alts := [], laidByText := true, laidKinds := [.data, .data, .data], laidTests := true, laidLooks := .later }
def TextToldUptoCardSaid : Prop := Claim7.holds Tryd.pinned (.plain (OpenSpec.upto textToldSpec)) textToldUptoCard
end Rows
end Go.Proofs.YtkibkodlbjhjfaaDoor
