/- The package variable, as the row lists it. -/
import Derived.Test.YtpcjhfchpelonaaGreatDoorQ0
import Derived.Test.YtpcjhfchpelonaaGreatDoorRows
import Derived.Test.YtpcjhfchpelonaaGreatDoorTie
import Derived.Test.YtpcjhfchpelonaaGreatDoorCards
import Derived.Lay
import Derived.LaidMore
set_option linter.unusedVariables false
namespace Go.Proofs.YtpcjhfchpelonaaGreatDoor
open Ai Go.Shelf
theorem first_data : (Rows.laid_unicode_utf8_first : DataW Unit) = Lib.tabData .u8 firstV := by kernel_rfl
theorem gl_met {W : World} {l : List (String × DataW Unit)} (hL : laidMet Tryz.prog l W) (h3 : ("unicode/utf8.first", Rows.laid_unicode_utf8_first) ∈ l) : ∀ g, Row1 (Gh.start W) W g (gl0 g) := by
  have r3 := Lib.laidMet.reads hL h3
  rw [first_data] at r3
  have hD := reads_ints r3 (show Tryz.prog.globalNamed "unicode/utf8.first" = some 2 by kernel_rfl) (show (Tryz.prog.globals[2]?).map (·.type) = some 234 by kernel_rfl) (show Tryz.prog.underlying 234 = some (.array 256 5) by kernel_rfl)
    (show Tryz.prog.underlying 5 = some (.int .u8) by kernel_rfl) (show Tryz.prog.cellsOf 5 = 1 by kernel_rfl) (show Tryz.prog.cellsOf 234 = 256 by kernel_rfl)
  intro g
  unfold gl0
  by_cases h0 : g = 2
  · subst h0
    exact ⟨ints_strip _ _, start_ints hD, trivial⟩
  · rw [if_neg h0]
    exact no_globals _ _ g
end Go.Proofs.YtpcjhfchpelonaaGreatDoor
