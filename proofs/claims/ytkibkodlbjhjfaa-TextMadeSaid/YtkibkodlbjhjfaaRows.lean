/-
  No cell of these rows narrows 'for every input' (looked for: loops, veiled, ifaces, maps, wideKeys, modest, calm, conditions, laid).
  DERIVED. THE GIVEN ROWS OF THIS SEAT. 8 by the template 'for every input the law returns true; each argument reads behind the call as it read before'; 0 by the template 'total and deterministic' (their statements: YtkibkodlbjhjfaaTotals.lean).
  GIVEN WITH THE SEED: the statements are not yours to turn. If you find one false, say at which input.
  Laid BY PROGRAM, IN A SANDBOX (cutbox-rows.mjs): the forced cells as the released guide's own fill.sh prints them over the translation e90af1bd2ecadd48… (all of the seat's roots in one cut). By AI agents, Wed Nov 11 2026. No macro, syntax, notation, axiom, sorry.
-/
import Derived.Test.YtkibkodlbjhjfaaChecked
import GoSem.Claim
import GoSem.ClaimJoined
import GoSem.ClaimMapViews
import Derived.JoinedTies
import Derived.KernelRfl
namespace Go.Proofs.Ytkibkodlbjhjfaa
/- THE CELL 'sum', in the pinned program and in every row, IS THE sha256 OF THE DUMP (.gsa) THAT YtkibkodlbjhjfaaProg.lean LOADS. Nothing in Lean hashes anything: it is a label: what it is worth is what the hold of that sum in a sandbox is worth. -/
noncomputable def Try.pinned : Pinned := { name := "ytkibkodlbjhjfaa", sum := "e90af1bd2ecadd48811de334e526da1d329dbfb36a0940085e97d3b4b4228ca3", checked := Try.checked }
namespace Rows
def none {H : Type} : Left H := { results := [], args := [] }

/-- 'tidemarklaw02.TextFields': WHATEVER THE INPUT: true; the input reads as it did. -/
def textFieldsSpec : ChangeSpec := { name := "textFields", fn := fun _ => fun
  | [d1, d2] => { results := [.lit (.bool true)], args := [d1, d2] }
  | _ => none }
def textFieldsRow : OpenClaim := { program := "ytkibkodlbjhjfaa", sum := "e90af1bd2ecadd48811de334e526da1d329dbfb36a0940085e97d3b4b4228ca3", func := "tidemark/tidemarklaw02.TextFields", spec := "textFields", unfollowed := true, recurses := true, apart := false }
def TextFieldsSaid : Prop := textFieldsRow.holds Try.pinned (OpenSpec.ofChange textFieldsSpec)

/-- ITS FALSE NEIGHBOUR: 'it returns false'. Refute it at one input. -/
def textFieldsWrong : ChangeSpec := { name := "textFields", fn := fun _ => fun
  | [d1, d2] => { results := [.lit (.bool false)], args := [d1, d2] }
  | _ => none }
def TextFieldsWrongFalsely : Prop := textFieldsRow.holds Try.pinned (OpenSpec.ofChange textFieldsWrong)

/-- 'tidemarklaw02.TextNumbers': WHATEVER THE INPUT: true; the input reads as it did. -/
def textNumbersSpec : ChangeSpec := { name := "textNumbers", fn := fun _ => fun
  | [d] => { results := [.lit (.bool true)], args := [d] }
  | _ => none }
def textNumbersRow : OpenClaim := { program := "ytkibkodlbjhjfaa", sum := "e90af1bd2ecadd48811de334e526da1d329dbfb36a0940085e97d3b4b4228ca3", func := "tidemark/tidemarklaw02.TextNumbers", spec := "textNumbers", unfollowed := true, recurses := true, apart := false }
def TextNumbersSaid : Prop := textNumbersRow.holds Try.pinned (OpenSpec.ofChange textNumbersSpec)

/-- ITS FALSE NEIGHBOUR: 'it returns false'. Refute it at one input. -/
def textNumbersWrong : ChangeSpec := { name := "textNumbers", fn := fun _ => fun
  | [d] => { results := [.lit (.bool false)], args := [d] }
  | _ => none }
def TextNumbersWrongFalsely : Prop := textNumbersRow.holds Try.pinned (OpenSpec.ofChange textNumbersWrong)

/-- 'tidemarklaw02.TextMany': WHATEVER THE INPUT: true; the input reads as it did. -/
def textManySpec : ChangeSpec := { name := "textMany", fn := fun _ => fun
  | [d1, d2] => { results := [.lit (.bool true)], args := [d1, d2] }
  | _ => none }
def textManyRow : OpenClaim := { program := "ytkibkodlbjhjfaa", sum := "e90af1bd2ecadd48811de334e526da1d329dbfb36a0940085e97d3b4b4228ca3", func := "tidemark/tidemarklaw02.TextMany", spec := "textMany", unfollowed := true, recurses := true, apart := false }
def TextManySaid : Prop := textManyRow.holds Try.pinned (OpenSpec.ofChange textManySpec)

/-- ITS FALSE NEIGHBOUR: 'it returns false'. Refute it at one input. -/
def textManyWrong : ChangeSpec := { name := "textMany", fn := fun _ => fun
  | [d1, d2] => { results := [.lit (.bool false)], args := [d1, d2] }
  | _ => none }
def TextManyWrongFalsely : Prop := textManyRow.holds Try.pinned (OpenSpec.ofChange textManyWrong)

/-- 'tidemarklaw02.TextBegins': WHATEVER THE INPUT: true; the input reads as it did. -/
def textBeginsSpec : ChangeSpec := { name := "textBegins", fn := fun _ => fun
  | [d1, d2] => { results := [.lit (.bool true)], args := [d1, d2] }
  | _ => none }
def textBeginsRow : OpenClaim := { program := "ytkibkodlbjhjfaa", sum := "e90af1bd2ecadd48811de334e526da1d329dbfb36a0940085e97d3b4b4228ca3", func := "tidemark/tidemarklaw02.TextBegins", spec := "textBegins", unfollowed := true, recurses := true, apart := false }
def TextBeginsSaid : Prop := textBeginsRow.holds Try.pinned (OpenSpec.ofChange textBeginsSpec)

/-- ITS FALSE NEIGHBOUR: 'it returns false'. Refute it at one input. -/
def textBeginsWrong : ChangeSpec := { name := "textBegins", fn := fun _ => fun
  | [d1, d2] => { results := [.lit (.bool false)], args := [d1, d2] }
  | _ => none }
def TextBeginsWrongFalsely : Prop := textBeginsRow.holds Try.pinned (OpenSpec.ofChange textBeginsWrong)

/-- 'tidemarklaw02.TextParts': WHATEVER THE INPUT: true; the input reads as it did. -/
def textPartsSpec : ChangeSpec := { name := "textParts", fn := fun _ => fun
  | [d1, d2] => { results := [.lit (.bool true)], args := [d1, d2] }
  | _ => none }
def textPartsRow : OpenClaim := { program := "ytkibkodlbjhjfaa", sum := "e90af1bd2ecadd48811de334e526da1d329dbfb36a0940085e97d3b4b4228ca3", func := "tidemark/tidemarklaw02.TextParts", spec := "textParts", unfollowed := true, recurses := true, apart := false }
def TextPartsSaid : Prop := textPartsRow.holds Try.pinned (OpenSpec.ofChange textPartsSpec)

/-- ITS FALSE NEIGHBOUR: 'it returns false'. Refute it at one input. -/
def textPartsWrong : ChangeSpec := { name := "textParts", fn := fun _ => fun
  | [d1, d2] => { results := [.lit (.bool false)], args := [d1, d2] }
  | _ => none }
def TextPartsWrongFalsely : Prop := textPartsRow.holds Try.pinned (OpenSpec.ofChange textPartsWrong)

/-- 'tidemarklaw02.TextKeys': WHATEVER THE INPUT: true; the input reads as it did. -/
def textKeysSpec : ChangeSpec := { name := "textKeys", fn := fun _ => fun
  | [d] => { results := [.lit (.bool true)], args := [d] }
  | _ => none }
def textKeysRow : OpenClaim := { program := "ytkibkodlbjhjfaa", sum := "e90af1bd2ecadd48811de334e526da1d329dbfb36a0940085e97d3b4b4228ca3", func := "tidemark/tidemarklaw02.TextKeys", spec := "textKeys", unfollowed := true, recurses := true, apart := false }
def TextKeysSaid : Prop := textKeysRow.holds Try.pinned (OpenSpec.ofChange textKeysSpec)

/-- ITS FALSE NEIGHBOUR: 'it returns false'. Refute it at one input. -/
def textKeysWrong : ChangeSpec := { name := "textKeys", fn := fun _ => fun
  | [d] => { results := [.lit (.bool false)], args := [d] }
  | _ => none }
def TextKeysWrongFalsely : Prop := textKeysRow.holds Try.pinned (OpenSpec.ofChange textKeysWrong)

/-- 'tidemarklaw02.TextJoined': WHATEVER THE INPUT: true; the input reads as it did. -/
def textJoinedSpec : ChangeSpec := { name := "textJoined", fn := fun _ => fun
  | [d1, d2] => { results := [.lit (.bool true)], args := [d1, d2] }
  | _ => none }
def textJoinedRow : OpenClaim := { program := "ytkibkodlbjhjfaa", sum := "e90af1bd2ecadd48811de334e526da1d329dbfb36a0940085e97d3b4b4228ca3", func := "tidemark/tidemarklaw02.TextJoined", spec := "textJoined", inPlace := ["internal/abi.NoEscape", "internal/bytealg.MakeNoZero"], unfollowed := true, recurses := true, apart := false }
def TextJoinedSaid : Prop := textJoinedRow.holds Try.pinned (OpenSpec.ofChange textJoinedSpec)

/-- ITS FALSE NEIGHBOUR: 'it returns false'. Refute it at one input. -/
def textJoinedWrong : ChangeSpec := { name := "textJoined", fn := fun _ => fun
  | [d1, d2] => { results := [.lit (.bool false)], args := [d1, d2] }
  | _ => none }
def TextJoinedWrongFalsely : Prop := textJoinedRow.holds Try.pinned (OpenSpec.ofChange textJoinedWrong)

/-- 'tidemarklaw02.TextMade': WHATEVER THE INPUT: true; the input reads as it did. -/
def textMadeSpec : ChangeSpec := { name := "textMade", fn := fun _ => fun
  | [d1, d2, d3] => { results := [.lit (.bool true)], args := [d1, d2, d3] }
  | _ => none }
def textMadeRow : OpenClaim := { program := "ytkibkodlbjhjfaa", sum := "e90af1bd2ecadd48811de334e526da1d329dbfb36a0940085e97d3b4b4228ca3", func := "tidemark/tidemarklaw02.TextMade", spec := "textMade", inPlace := ["internal/bytealg.IndexByteString", "internal/abi.NoEscape", "internal/bytealg.MakeNoZero"], unfollowed := true, recurses := true, apart := false }
def TextMadeSaid : Prop := textMadeRow.holds Try.pinned (OpenSpec.ofChange textMadeSpec)

/-- ITS FALSE NEIGHBOUR: 'it returns false'. Refute it at one input. -/
def textMadeWrong : ChangeSpec := { name := "textMade", fn := fun _ => fun
  | [d1, d2, d3] => { results := [.lit (.bool false)], args := [d1, d2, d3] }
  | _ => none }
def TextMadeWrongFalsely : Prop := textMadeRow.holds Try.pinned (OpenSpec.ofChange textMadeWrong)

/- THE SECOND FORM. 'bulk': how many values and letters a reading holds, each counted each time it is reached (what is shared counts as often as it is met; a slice's spare places count too). A statement '..UptoSaid' is the law's where the arguments, and the package variables that the reading takes, are together of bulk at most 1048576: NARROWER than '..Said'. Prove '..Said' where nothing that the law and all that it calls make is longer than what came in: it says more and counts as full. Else prove '..UptoSaid'. A law counts once. -/
mutual
def uptoBulk {H : Type} : DataW H → Nat
  | .lit (.string bytes) => bytes.length + 1
  | .lit _ => 1
  | .nil => 1
  | .ptr d => uptoBulk d + 1
  | .slice elems spare => uptoBulkAll elems + uptoBulkAll spare + 1
  | .agg parts => uptoBulkAll parts + 1
  | .iface _ d => uptoBulk d + 1
  | .map entries => uptoBulkEntries entries + 1
  | .held _ => 1
def uptoBulkAll {H : Type} : List (DataW H) → Nat
  | [] => 0
  | d :: r => uptoBulk d + uptoBulkAll r
def uptoBulkEntries {H : Type} : List (Lit × DataW H) → Nat
  | [] => 0
  | x :: r => uptoBulkEntry x + uptoBulkEntries r
def uptoBulkEntry {H : Type} : Lit × DataW H → Nat
  | (.string bytes, d) => bytes.length + uptoBulk d + 1
  | (_, d) => uptoBulk d + 1
 end
def uptoSmall : (H : Type) → List (DataW H) → Bool := fun _ ds => decide (uptoBulkAll ds ≤ 1048576)
def OpenSpec.upto (s : _root_.Go.ChangeSpec) : _root_.Go.OpenSpec := { _root_.Go.OpenSpec.ofChange s with cond := some uptoSmall }

/-- 'tidemarklaw02.TextFields', WHERE WHAT IT READS IS OF BULK AT MOST 1048576: true; the input reads as it did. -/
def textFieldsUptoRow : OpenClaim := { program := "ytkibkodlbjhjfaa", sum := "e90af1bd2ecadd48811de334e526da1d329dbfb36a0940085e97d3b4b4228ca3", func := "tidemark/tidemarklaw02.TextFields", spec := "textFields", unfollowed := true, recurses := true, apart := false, narrowed := true }
def TextFieldsUptoSaid : Prop := textFieldsUptoRow.holds Try.pinned (OpenSpec.upto textFieldsSpec)

/-- 'tidemarklaw02.TextNumbers', WHERE WHAT IT READS IS OF BULK AT MOST 1048576: true; the input reads as it did. -/
def textNumbersUptoRow : OpenClaim := { program := "ytkibkodlbjhjfaa", sum := "e90af1bd2ecadd48811de334e526da1d329dbfb36a0940085e97d3b4b4228ca3", func := "tidemark/tidemarklaw02.TextNumbers", spec := "textNumbers", unfollowed := true, recurses := true, apart := false, narrowed := true }
def TextNumbersUptoSaid : Prop := textNumbersUptoRow.holds Try.pinned (OpenSpec.upto textNumbersSpec)

/-- 'tidemarklaw02.TextMany', WHERE WHAT IT READS IS OF BULK AT MOST 1048576: true; the input reads as it did. -/
def textManyUptoRow : OpenClaim := { program := "ytkibkodlbjhjfaa", sum := "e90af1bd2ecadd48811de334e526da1d329dbfb36a0940085e97d3b4b4228ca3", func := "tidemark/tidemarklaw02.TextMany", spec := "textMany", unfollowed := true, recurses := true, apart := false, narrowed := true }
def TextManyUptoSaid : Prop := textManyUptoRow.holds Try.pinned (OpenSpec.upto textManySpec)

/-- 'tidemarklaw02.TextBegins', WHERE WHAT IT READS IS OF BULK AT MOST 1048576: true; the input reads as it did. -/
def textBeginsUptoRow : OpenClaim := { program := "ytkibkodlbjhjfaa", sum := "e90af1bd2ecadd48811de334e526da1d329dbfb36a0940085e97d3b4b4228ca3", func := "tidemark/tidemarklaw02.TextBegins", spec := "textBegins", unfollowed := true, recurses := true, apart := false, narrowed := true }
def TextBeginsUptoSaid : Prop := textBeginsUptoRow.holds Try.pinned (OpenSpec.upto textBeginsSpec)

/-- 'tidemarklaw02.TextParts', WHERE WHAT IT READS IS OF BULK AT MOST 1048576: true; the input reads as it did. -/
def textPartsUptoRow : OpenClaim := { program := "ytkibkodlbjhjfaa", sum := "e90af1bd2ecadd48811de334e526da1d329dbfb36a0940085e97d3b4b4228ca3", func := "tidemark/tidemarklaw02.TextParts", spec := "textParts", unfollowed := true, recurses := true, apart := false, narrowed := true }
def TextPartsUptoSaid : Prop := textPartsUptoRow.holds Try.pinned (OpenSpec.upto textPartsSpec)

/-- 'tidemarklaw02.TextKeys', WHERE WHAT IT READS IS OF BULK AT MOST 1048576: true; the input reads as it did. -/
def textKeysUptoRow : OpenClaim := { program := "ytkibkodlbjhjfaa", sum := "e90af1bd2ecadd48811de334e526da1d329dbfb36a0940085e97d3b4b4228ca3", func := "tidemark/tidemarklaw02.TextKeys", spec := "textKeys", unfollowed := true, recurses := true, apart := false, narrowed := true }
def TextKeysUptoSaid : Prop := textKeysUptoRow.holds Try.pinned (OpenSpec.upto textKeysSpec)

/-- 'tidemarklaw02.TextJoined', WHERE WHAT IT READS IS OF BULK AT MOST 1048576: true; the input reads as it did. -/
def textJoinedUptoRow : OpenClaim := { program := "ytkibkodlbjhjfaa", sum := "e90af1bd2ecadd48811de334e526da1d329dbfb36a0940085e97d3b4b4228ca3", func := "tidemark/tidemarklaw02.TextJoined", spec := "textJoined", inPlace := ["internal/abi.NoEscape", "internal/bytealg.MakeNoZero"], unfollowed := true, recurses := true, apart := false, narrowed := true }
def TextJoinedUptoSaid : Prop := textJoinedUptoRow.holds Try.pinned (OpenSpec.upto textJoinedSpec)

/-- 'tidemarklaw02.TextMade', WHERE WHAT IT READS IS OF BULK AT MOST 1048576: true; the input reads as it did. -/
def textMadeUptoRow : OpenClaim := { program := "ytkibkodlbjhjfaa", sum := "e90af1bd2ecadd48811de334e526da1d329dbfb36a0940085e97d3b4b4228ca3", func := "tidemark/tidemarklaw02.TextMade", spec := "textMade", inPlace := ["internal/bytealg.IndexByteString", "internal/abi.NoEscape", "internal/bytealg.MakeNoZero"], unfollowed := true, recurses := true, apart := false, narrowed := true }
def TextMadeUptoSaid : Prop := textMadeUptoRow.holds Try.pinned (OpenSpec.upto textMadeSpec)

end Rows
end Go.Proofs.Ytkibkodlbjhjfaa
