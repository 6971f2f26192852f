/- lang: letters, digits, signs; a rune by its digits to the base 16. -/
import Derived.Test.YtbhclhgljnoioaaDoorLx1
set_option linter.unusedSimpArgs false
set_option linter.unusedVariables false
namespace Go.Proofs.YtbhclhgljnoioaaDoor
open Ai
/-! ### while -/
end Go.Proofs.YtbhclhgljnoioaaDoor
