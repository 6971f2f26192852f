/- lang: hex, quoted. -/
import Derived.Test.YtbhclhgljnoioaaDoorLx2
set_option linter.unusedSimpArgs false
set_option linter.unusedVariables false
namespace Go.Proofs.YtbhclhgljnoioaaDoor
open Ai
end Go.Proofs.YtbhclhgljnoioaaDoor
