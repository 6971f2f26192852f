/-
  DERIVED. GIVEN WITH THE SEED: THE CARDS: each row of YtbhclhgljnoioaaDoorRows.lean that lists a variable, with what it lists TIED to the program's text (the seventh form; the later family's looks); each row that meets fmt, with fmt's text TOLD by the authors' own Lean function (tested against real Go, not proved from fmt's source: count such statements apart). THE CARD IS WHAT COUNTS. Prove the row's statement (the work); the ties are given (YtbhclhgljnoioaaDoorTie.lean); close each card by the builder's one call (the guide's Derived/Test/ToyasCard.lean, 'card_holds'). Laid BY PROGRAM, IN A SANDBOX (cutbox-door.mjs). By AI agents, Wed Nov 11 2026. No macro, syntax, notation, axiom, sorry.
-/
import Derived.Test.YtbhclhgljnoioaaDoorRows
import GoSem.ClaimSeven
namespace Go.Proofs.YtbhclhgljnoioaaDoor
namespace Rows

/-- THE TIED CARD OF 'tidemarklaw08.LangQuotes'. -/
def langQuotesCard : Claim7 := { stood := { row := langQuotesRow, standIns := [], harness := (true, "ae4a274f00fe2cbbce5ffde77a087df37bb7f6e819d15f0a938d297a23ec0abb"), looks := true }, kinds := [], alts := [], laidByText := true, laidKinds := [.data, .data, .data, .data, .pinned], laidTests := true, laidLooks := .later }
def LangQuotesCardSaid : Prop := Claim7.holds Tryd.pinned (.plain (OpenSpec.ofChange langQuotesSpec)) langQuotesCard

/-- THE TIED CARD OF 'tidemarklaw08.LangPrints'. -/
def langPrintsCard : Claim7 := { stood := { row := langPrintsRow, standIns := [], harness := (true, "ae4a274f00fe2cbbce5ffde77a087df37bb7f6e819d15f0a938d297a23ec0abb"), looks := true }, kinds := [], alts := [], laidByText := true, laidKinds := [.data, .data, .data, .data, .pinned], laidTests := true, laidLooks := .later }
def LangPrintsCardSaid : Prop := Claim7.holds Tryd.pinned (.plain (OpenSpec.ofChange langPrintsSpec)) langPrintsCard

/-- THE TIED CARD OF 'tidemarklaw08.LangBack'. -/
def langBackCard : Claim7 := { stood := { row := langBackRow, standIns := [], harness := (true, "ae4a274f00fe2cbbce5ffde77a087df37bb7f6e819d15f0a938d297a23ec0abb"), looks := true }, kinds := [], alts := [], laidByText := true, laidKinds := [.data, .data, .data, .data, .pinned], laidTests := true, laidLooks := .later }
def LangBackCardSaid : Prop := Claim7.holds Tryd.pinned (.plain (OpenSpec.ofChange langBackSpec)) langBackCard

/-- THE TIED CARD OF 'tidemarklaw08.LangSettled'. -/
def langSettledCard : Claim7 := { stood := { row := langSettledRow, standIns := [], harness := (true, "ae4a274f00fe2cbbce5ffde77a087df37bb7f6e819d15f0a938d297a23ec0abb"), looks := true }, kinds := [], alts := [], laidByText := true, laidKinds := [.data, .data, .data, .data, .pinned], laidTests := true, laidLooks := .later }
def LangSettledCardSaid : Prop := Claim7.holds Tryd.pinned (.plain (OpenSpec.ofChange langSettledSpec)) langSettledCard

/-- THE TIED CARD OF 'tidemarklaw08.LangFaults'. -/
def langFaultsCard : Claim7 := { stood := { row := langFaultsRow, standIns := [], harness := (true, "ae4a274f00fe2cbbce5ffde77a087df37bb7f6e819d15f0a938d297a23ec0abb"), looks := true }, kinds := [], alts := [], laidByText := true, laidKinds := [.data, .data, .data, .data, .pinned], laidTests := true, laidLooks := .later }
def LangFaultsCardSaid : Prop := Claim7.holds Tryd.pinned (.plain (OpenSpec.ofChange langFaultsSpec)) langFaultsCard

/-- THE TIED CARD OF 'tidemarklaw08.LangNobody'. -/
def langNobodyCard : Claim7 := { stood := { row := langNobodyRow, standIns := [], harness := (true, "ae4a274f00fe2cbbce5ffde77a087df37bb7f6e819d15f0a938d297a23ec0abb"), looks := true }, kinds := [], alts := [], laidByText := true, laidKinds := [.data, .data, .data, .data, .pinned], laidTests := true, laidLooks := .later }
def LangNobodyCardSaid : Prop := Claim7.holds Tryd.pinned (.plain (OpenSpec.ofChange langNobodySpec)) langNobodyCard

/-- THE TIED CARD OF 'tidemarklaw08.LangTokens'. -/
def langTokensCard : Claim7 := { stood := { row := langTokensRow, standIns := [], harness := (true, "ae4a274f00fe2cbbce5ffde77a087df37bb7f6e819d15f0a938d297a23ec0abb"), looks := true }, kinds := [], alts := [], laidByText := true, laidKinds := [.data, .data, .data, .data, .pinned], laidTests := true, laidLooks := .later }
def LangTokensCardSaid : Prop := Claim7.holds Tryd.pinned (.plain (OpenSpec.ofChange langTokensSpec)) langTokensCard

/-- THE TIED CARD OF 'tidemarklaw08.LangMeant'. -/
def langMeantCard : Claim7 := { stood := { row := langMeantRow, standIns := [], harness := (true, "ae4a274f00fe2cbbce5ffde77a087df37bb7f6e819d15f0a938d297a23ec0abb"), looks := true }, kinds := [], alts := [], laidByText := true, laidKinds := [.data, .data, .data, .data, .pinned], laidTests := true, laidLooks := .later }
def LangMeantCardSaid : Prop := Claim7.holds Tryd.pinned (.plain (OpenSpec.ofChange langMeantSpec)) langMeantCard

/-- THE TIED CARD OF 'tidemarklaw08.LangBlanks'. -/
def langBlanksCard : Claim7 := { stood := { row := langBlanksRow, standIns := [], harness := (true, "ae4a274f00fe2cbbce5ffde77a087df37bb7f6e819d15f0a938d297a23ec0abb"), looks := true }, kinds := [], alts := [], laidByText := true, laidKinds := [.data, .data, .data, .data, .pinned], laidTests := true, laidLooks := .later }
def LangBlanksCardSaid : Prop := Claim7.holds Tryd.pinned (.plain (OpenSpec.ofChange langBlanksSpec)) langBlanksCard

/-- THE SECOND FORM's CARD OF 'tidemarklaw08.LangQuotes'. -/
def langQuotesUptoCard : Claim7 := { stood := { row := langQuotesUptoRow, standIns := [], harness := (true, "ae4a274f00fe2cbbce5ffde77a087df37bb7f6e819d15f0a938d297a23ec0abb"), looks := true }, kinds := [], alts := [], laidByText := true, laidKinds := [.data, .data, .data, .data, .pinned], laidTests := true, laidLooks := .later }
def LangQuotesUptoCardSaid : Prop := Claim7.holds Tryd.pinned (.plain (OpenSpec.upto langQuotesSpec)) langQuotesUptoCard

/-- THE SECOND FORM's CARD OF 'tidemarklaw08.LangPrints'. -/
def langPrintsUptoCard : Claim7 := { stood := { row := langPrintsUptoRow, standIns := [], harness := (true, "ae4a274f00fe2cbbce5ffde77a087df37bb7f6e819d15f0a938d297a23ec0abb"), looks := true }, kinds := [], alts := [], laidByText := true, laidKinds := [.data, .data, .data, .data, .pinned], laidTests := true, laidLooks := .later }
def LangPrintsUptoCardSaid : Prop := Claim7.holds Tryd.pinned (.plain (OpenSpec.upto langPrintsSpec)) langPrintsUptoCard

/-- THE SECOND FORM's CARD OF 'tidemarklaw08.LangBack'. -/
def langBackUptoCard : Claim7 := { stood := { row := langBackUptoRow, standIns := [], harness := (true, "ae4a274f00fe2cbbce5ffde77a087df37bb7f6e819d15f0a938d297a23ec0abb"), looks := true }, kinds := [], alts := [], laidByText := true, laidKinds := [.data, .data, .data, .data, .pinned], laidTests := true, laidLooks := .later }
def LangBackUptoCardSaid : Prop := Claim7.holds Tryd.pinned (.plain (OpenSpec.upto langBackSpec)) langBackUptoCard

/-- THE SECOND FORM's CARD OF 'tidemarklaw08.LangSettled'. -/
def langSettledUptoCard : Claim7 := { stood := { row := langSettledUptoRow, standIns := [], harness := (true, "ae4a274f00fe2cbbce5ffde77a087df37bb7f6e819d15f0a938d297a23ec0abb"), looks := true }, kinds := [], alts := [], laidByText := true, laidKinds := [.data, .data, .data, .data, .pinned], laidTests := true, laidLooks := .later }
def LangSettledUptoCardSaid : Prop := Claim7.holds Tryd.pinned (.plain (OpenSpec.upto langSettledSpec)) langSettledUptoCard

/-- THE SECOND FORM's CARD OF 'tidemarklaw08.LangFaults'. -/
def langFaultsUptoCard : Claim7 := { stood := { row := langFaultsUptoRow, standIns := [], harness := (true, "ae4a274f00fe2cbbce5ffde77a087df37bb7f6e819d15f0a938d297a23ec0abb"), looks := true }, kinds := [], alts := [], laidByText := true, laidKinds := [.data, .data, .data, .data, .pinned], laidTests := true, laidLooks := .later }
def LangFaultsUptoCardSaid : Prop := Claim7.holds Tryd.pinned (.plain (OpenSpec.upto langFaultsSpec)) langFaultsUptoCard

/-- THE SECOND FORM's CARD OF 'tidemarklaw08.LangNobody'. -/
def langNobodyUptoCard : Claim7 := { stood := { row := langNobodyUptoRow, standIns := [], harness := (true, "ae4a274f00fe2cbbce5ffde77a087df37bb7f6e819d15f0a938d297a23ec0abb"), looks := true }, kinds := [], alts := [], laidByText := true, laidKinds := [.data, .data, .data, .data, .pinned], laidTests := true, laidLooks := .later }
def LangNobodyUptoCardSaid : Prop := Claim7.holds Tryd.pinned (.plain (OpenSpec.upto langNobodySpec)) langNobodyUptoCard

/-- THE SECOND FORM's CARD OF 'tidemarklaw08.LangTokens'. -/
def langTokensUptoCard : Claim7 := { stood := { row := langTokensUptoRow, standIns := [], harness := (true, "ae4a274f00fe2cbbce5ffde77a087df37bb7f6e819d15f0a938d297a23ec0abb"), looks := true }, kinds := [], alts := [], laidByText := true, laidKinds := [.data, .data, .data, .data, .pinned], laidTests := true, laidLooks := .later }
def LangTokensUptoCardSaid : Prop := Claim7.holds Tryd.pinned (.plain (OpenSpec.upto langTokensSpec)) langTokensUptoCard

/-- THE SECOND FORM's CARD OF 'tidemarklaw08.LangMeant'. -/
def langMeantUptoCard : Claim7 := { stood := { row := langMeantUptoRow, standIns := [], harness := (true, "ae4a274f00fe2cbbce5ffde77a087df37bb7f6e819d15f0a938d297a23ec0abb"), looks := true }, kinds := [], alts := [], laidByText := true, laidKinds := [.data, .data, .data, .data, .pinned], laidTests := true, laidLooks := .later }
def LangMeantUptoCardSaid : Prop := Claim7.holds Tryd.pinned (.plain (OpenSpec.upto langMeantSpec)) langMeantUptoCard

/-- THE SECOND FORM's CARD OF 'tidemarklaw08.LangBlanks'. -/
def langBlanksUptoCard : Claim7 := { stood := { row := langBlanksUptoRow, standIns := [], harness := (true, "ae4a274f00fe2cbbce5ffde77a087df37bb7f6e819d15f0a938d297a23ec0abb"), looks := true }, kinds := [], alts := [], laidByText := true, laidKinds := [.data, .data, .data, .data, .pinned], laidTests := true, laidLooks := .later }
def LangBlanksUptoCardSaid : Prop := Claim7.holds Tryd.pinned (.plain (OpenSpec.upto langBlanksSpec)) langBlanksUptoCard
end Rows
end Go.Proofs.YtbhclhgljnoioaaDoor
