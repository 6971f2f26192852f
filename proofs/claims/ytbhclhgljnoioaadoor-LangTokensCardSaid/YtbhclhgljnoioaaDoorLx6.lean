/- lang: the lexer at texts in quotes, and at texts put together. -/
import Derived.Test.YtbhclhgljnoioaaDoorLx5
import Derived.Test.YtbhclhgljnoioaaDoorAi10
import Derived.Lib.MapLaws
set_option linter.unusedSimpArgs false
set_option linter.unusedVariables false
namespace Go.Proofs.YtbhclhgljnoioaaDoor
open Ai
/-! ### A text in quotes -/
/-! ### Texts put together -/
def Lx.app (m : List Tok) : Lx → Lx
  | .ok l => .ok (m ++ l)
  | x => x
theorem Lx.cons_ok {t : Tok} {x : Lx} {m : List Tok} (h : x.cons t = .ok m) : ∃ m', x = .ok m' ∧ m = t :: m' := by
  cases x with
  | ok l => simp only [Lx.cons, Lx.ok.injEq] at h; exact ⟨l, rfl, h.symm⟩
  | bad a e => cases h
end Go.Proofs.YtbhclhgljnoioaaDoor
