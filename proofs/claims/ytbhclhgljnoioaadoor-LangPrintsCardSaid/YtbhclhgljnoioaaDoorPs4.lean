/- lang: the parser walked: parts. -/
import Derived.Test.YtbhclhgljnoioaaDoorPs3
set_option linter.unusedSimpArgs false
set_option linter.unusedVariables false
namespace Go.Proofs.YtbhclhgljnoioaaDoor
open Ai
theorem SO.objs {h h' : H} {id : Nat} {ts : List Tok} {e a : Nat} (ho : SO h id ts e a) (hh : h'.objs = h.objs) : SO h' id ts e a := by unfold SO; rw [hh]; exact ho
/-- Of a row that is being built. -/
def TkG (h0 h : H) (m : Nat) (tk : Tk) : Prop := tk = .nil ∨ tk = .full ∨ ∃ t, tk = .own t ∧ h0.nt ≤ t ∧ t < h.nt ∧ al h.tips t = some (m, 27)
theorem TkG.hop {h0 h h' : H} {m id : Nat} {tk : Tk} (g : TkG h0 h m tk) (hp : Hop h h' id) : TkG h0 h' m tk := by
  rcases g with g | g | ⟨t, g1, g2, g3, g4⟩
  · exact .inl g
  · exact .inr (.inl g)
  · exact .inr (.inr ⟨t, g1, g2, Nat.lt_of_lt_of_le g3 hp.nt, (hp.tips t g3).trans g4⟩)
section
variable {ts : List Tok} {e id N : Nat}
end
end Go.Proofs.YtbhclhgljnoioaaDoor
