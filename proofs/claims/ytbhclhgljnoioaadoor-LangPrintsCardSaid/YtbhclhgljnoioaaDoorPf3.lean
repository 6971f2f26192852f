/- lang.Parse, walked. -/
import Derived.Test.YtbhclhgljnoioaaDoorPf2
set_option linter.unusedSimpArgs false
set_option linter.unusedVariables false
namespace Go.Proofs.YtbhclhgljnoioaaDoor
open Ai
/-! ### Filter -/
end Go.Proofs.YtbhclhgljnoioaaDoor
