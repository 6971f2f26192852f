/- lang: the text in quotes with which a text begins. -/
import Derived.Test.YtbhclhgljnoioaaDoorLx3
import Derived.Test.YtbhclhgljnoioaaDoorLg6
set_option linter.unusedSimpArgs false
set_option linter.unusedVariables false
namespace Go.Proofs.YtbhclhgljnoioaaDoor
open Ai
end Go.Proofs.YtbhclhgljnoioaaDoor
