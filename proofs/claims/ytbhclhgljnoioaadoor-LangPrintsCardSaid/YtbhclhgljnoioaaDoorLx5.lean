/- lang: the tokens of a text. -/
import Derived.Test.YtbhclhgljnoioaaDoorLx4
set_option linter.unusedSimpArgs false
set_option linter.unusedVariables false
namespace Go.Proofs.YtbhclhgljnoioaaDoor
open Ai
/-- A token. -/
structure Tok where
  kind : Nat
  text : List UInt8
  at_ : Nat
def Tok.cells (t : Tok) : List V := [.i .i64 t.kind, .s t.text, .i .i64 t.at_]
/-- Tokens, or where there is none, and why. -/
inductive Lx where
  | ok (l : List Tok)
  | bad (at_ e : Nat)
def Lx.cons (t : Tok) : Lx → Lx
  | .ok l => .ok (t :: l)
  | x => x
end Go.Proofs.YtbhclhgljnoioaaDoor
