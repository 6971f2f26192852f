/- lang: the parser walked: what a call of it does, if the calls within do what they should. -/
import Derived.Test.YtbhclhgljnoioaaDoorPs2
set_option linter.unusedSimpArgs false
set_option linter.unusedVariables false
namespace Go.Proofs.YtbhclhgljnoioaaDoor
open Ai
section
variable (ts : List Tok) (e id N : Nat)
variable {ts e id N}
end
end Go.Proofs.YtbhclhgljnoioaaDoor
