/- lang: the lexer at texts in quotes, and at texts put together. -/
import Derived.Test.YtbhclhgljnoioaaDoorLx5
import Derived.Test.YtbhclhgljnoioaaDoorAi10
import Derived.Lib.MapLaws
set_option linter.unusedSimpArgs false
set_option linter.unusedVariables false
namespace Go.Proofs.YtbhclhgljnoioaaDoor
open Ai
/-! ### A text in quotes -/
/-! ### Texts put together -/
def Lx.app (m : List Tok) : Lx → Lx
  | .ok l => .ok (m ++ l)
  | x => x
end Go.Proofs.YtbhclhgljnoioaaDoor
