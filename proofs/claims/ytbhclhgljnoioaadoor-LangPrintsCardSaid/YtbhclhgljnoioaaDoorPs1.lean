/- lang: what comes next. -/
import Derived.Test.YtbhclhgljnoioaaDoorPs0
set_option linter.unusedSimpArgs false
set_option linter.unusedVariables false
namespace Go.Proofs.YtbhclhgljnoioaaDoor
open Ai
def isT (ts : List Tok) (e a : Nat) (tx : List UInt8) : Bool := decide ((tokAt ts e a).kind = 4) && strEq (tokAt ts e a).text tx
def isW (ts : List Tok) (e a : Nat) (tx : List UInt8) : Bool := decide ((tokAt ts e a).kind = 1) && strEq (tokAt ts e a).text tx
def isF (ts : List Tok) (e a : Nat) : Bool := decide ((tokAt ts e a).kind = 1) && isT ts e (a + 1) [61]
section
variable (ts : List Tok) (e id : Nat)
end
end Go.Proofs.YtbhclhgljnoioaaDoor
