/- strings.Builder, where nothing is written yet. -/
import Derived.Test.YtbhclhgljnoioaaDoorLg5
set_option linter.unusedSimpArgs false
set_option linter.unusedVariables false
namespace Go.Proofs.YtbhclhgljnoioaaDoor
open Ai
/-! ### String -/
end Go.Proofs.YtbhclhgljnoioaaDoor
