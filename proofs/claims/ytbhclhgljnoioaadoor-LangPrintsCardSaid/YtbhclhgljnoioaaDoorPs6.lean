/- lang: the parser walked, whole. -/
import Derived.Test.YtbhclhgljnoioaaDoorPs5
set_option linter.unusedSimpArgs false
set_option linter.unusedVariables false
namespace Go.Proofs.YtbhclhgljnoioaaDoor
open Ai
section
variable {ts : List Tok} {e id N : Nat}
end
end Go.Proofs.YtbhclhgljnoioaaDoor
