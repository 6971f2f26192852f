/-
  DERIVED. GIVEN WITH THE SEED: THE CARDS: each row of YtpcjhfchpelonaaGreatDoorRows.lean that lists a variable, with what it lists TIED to the program's text (the seventh form; the later family's looks); each row that meets fmt, with fmt's text TOLD by the authors' own Lean function (tested against real Go, not proved from fmt's source: count such statements apart). THE CARD IS WHAT COUNTS. Prove the row's statement (the work); the ties are given (YtpcjhfchpelonaaGreatDoorTie.lean); close each card by the builder's one call (the guide's Derived/Test/ToyasCard.lean, 'card_holds'). Laid BY PROGRAM, IN A SANDBOX (cutbox-door.mjs). By AI agents, Wed Nov 11 2026. No macro, syntax, notation, axiom, sorry.
-/
import Derived.Test.YtpcjhfchpelonaaGreatDoorRows
import GoSem.ClaimSeven
namespace Go.Proofs.YtpcjhfchpelonaaGreatDoor
namespace Rows

/-- THE TIED CARD OF 'tidemarklaw16.QueryChecks'. -/
def queryChecksCard : Claim7 := { stood := { row := queryChecksRow, standIns := [], harness := (true, "abed34aeffaac9bae217678da986abc48ae032e75fd50551c2140dbdccea6056"), looks := true }, kinds := [], alts := [], laidByText := true, laidKinds := [.data, .pinned], laidTests := true, laidLooks := .later }
def QueryChecksCardSaid : Prop := Claim7.holds Tryz.pinned (.plain (OpenSpec.ofChange queryChecksSpec)) queryChecksCard

/-- THE TIED CARD OF 'tidemarklaw16.QueryOvers'. -/
def queryOversCard : Claim7 := { stood := { row := queryOversRow, standIns := [], harness := (true, "abed34aeffaac9bae217678da986abc48ae032e75fd50551c2140dbdccea6056"), looks := true }, kinds := [], alts := [], laidByText := true, laidKinds := [.data, .pinned], laidTests := true, laidLooks := .later }
def QueryOversCardSaid : Prop := Claim7.holds Tryz.pinned (.plain (OpenSpec.ofChange queryOversSpec)) queryOversCard

/-- THE TIED CARD OF 'tidemarklaw16.QueryNobody'. -/
def queryNobodyCard : Claim7 := { stood := { row := queryNobodyRow, standIns := [], harness := (true, "abed34aeffaac9bae217678da986abc48ae032e75fd50551c2140dbdccea6056"), looks := true }, kinds := [], alts := [], laidByText := true, laidKinds := [.data, .pinned], laidTests := true, laidLooks := .later }
def QueryNobodyCardSaid : Prop := Claim7.holds Tryz.pinned (.plain (OpenSpec.ofChange queryNobodySpec)) queryNobodyCard

/-- THE TIED CARD OF 'tidemarklaw16.QueryPrints'. -/
def queryPrintsCard : Claim7 := { stood := { row := queryPrintsRow, standIns := [], harness := (true, "abed34aeffaac9bae217678da986abc48ae032e75fd50551c2140dbdccea6056"), looks := true }, kinds := [], alts := [], laidByText := true, laidKinds := [.data, .data, .data, .data, .pinned], laidTests := true, laidLooks := .later }
def QueryPrintsCardSaid : Prop := Claim7.holds Tryz.pinned (.plain (OpenSpec.ofChange queryPrintsSpec)) queryPrintsCard

/-- THE SECOND FORM's CARD OF 'tidemarklaw16.QueryChecks'. -/
def queryChecksUptoCard : Claim7 := { stood := { row := queryChecksUptoRow, standIns := [], harness := (true, "abed34aeffaac9bae217678da986abc48ae032e75fd50551c2140dbdccea6056"), looks := true }, kinds := [], alts := [], laidByText := true, laidKinds := [.data, .pinned], laidTests := true, laidLooks := .later }
def QueryChecksUptoCardSaid : Prop := Claim7.holds Tryz.pinned (.plain (OpenSpec.upto queryChecksSpec)) queryChecksUptoCard

/-- THE SECOND FORM's CARD OF 'tidemarklaw16.QueryOvers'. -/
def queryOversUptoCard : Claim7 := { stood := { row := queryOversUptoRow, standIns := [], harness := (true, "abed34aeffaac9bae217678da986abc48ae032e75fd50551c2140dbdccea6056"), looks := true }, kinds := [], alts := [], laidByText := true, laidKinds := [.data, .pinned], laidTests := true, laidLooks := .later }
def QueryOversUptoCardSaid : Prop := Claim7.holds Tryz.pinned (.plain (OpenSpec.upto queryOversSpec)) queryOversUptoCard

/-- THE SECOND FORM's CARD OF 'tidemarklaw16.QueryNobody'. -/
def queryNobodyUptoCard : Claim7 := { stood := { row := queryNobodyUptoRow, standIns := [], harness := (true, "abed34aeffaac9bae217678da986abc48ae032e75fd50551c2140dbdccea6056"), looks := true }, kinds := [], alts := [], laidByText := true, laidKinds := [.data, .pinned], laidTests := true, laidLooks := .later }
def QueryNobodyUptoCardSaid : Prop := Claim7.holds Tryz.pinned (.plain (OpenSpec.upto queryNobodySpec)) queryNobodyUptoCard

/-- THE SECOND FORM's CARD OF 'tidemarklaw16.QueryPrints'. -/
def queryPrintsUptoCard : Claim7 := { stood := { row := queryPrintsUptoRow, standIns := [], harness := (true, "abed34aeffaac9bae217678da986abc48ae032e75fd50551c2140dbdccea6056"), looks := true }, kinds := [], alts := [], laidByText := true, laidKinds := [.data, .data, .data, .data, .pinned], laidTests := true, laidLooks := .later }
def QueryPrintsUptoCardSaid : Prop := Claim7.holds Tryz.pinned (.plain (OpenSpec.upto queryPrintsSpec)) queryPrintsUptoCard
end Rows
end Go.Proofs.YtpcjhfchpelonaaGreatDoor
