/- lang: the parser walked: words, lists. -/
import Derived.Test.YtbhclhgljnoioaaDoorPs4
set_option linter.unusedSimpArgs false
set_option linter.unusedVariables false
namespace Go.Proofs.YtbhclhgljnoioaaDoor
open Ai
section
variable {ts : List Tok} {e id N : Nat}
end
end Go.Proofs.YtbhclhgljnoioaaDoor
