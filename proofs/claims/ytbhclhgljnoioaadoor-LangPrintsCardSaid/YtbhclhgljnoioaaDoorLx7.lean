/- lang: LangMeant. -/
import Derived.Test.YtbhclhgljnoioaaDoorLx6
set_option linter.unusedSimpArgs false
set_option linter.unusedVariables false
namespace Go.Proofs.YtbhclhgljnoioaaDoor
open Ai
theorem quoteV_len (l : List UInt8) : (quoteV l).length ≤ 10 * l.length + 2 := by
  unfold quoteV
  have h1 := rns_le l
  have h2 : ∀ cs : List Nat, (cs.flatMap qt).length ≤ 10 * cs.length := by
    intro cs
    induction cs with
    | nil => simp
    | cons c cs ih => have := qt_len c; simp only [List.flatMap_cons, List.length_append, List.length_cons]; omega
  have := h2 (rns l)
  simp only [List.length_cons, List.length_append, List.length_nil]; omega
end Go.Proofs.YtbhclhgljnoioaaDoor
