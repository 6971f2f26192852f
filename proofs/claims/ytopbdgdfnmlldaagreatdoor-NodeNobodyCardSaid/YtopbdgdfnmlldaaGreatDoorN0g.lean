/- The package variable, as the row lists it. -/
import Derived.Test.YtopbdgdfnmlldaaGreatDoorN0
import Derived.Test.YtopbdgdfnmlldaaGreatDoorRows
import Derived.Test.YtopbdgdfnmlldaaGreatDoorTie
import Derived.Test.YtopbdgdfnmlldaaGreatDoorCards
import Derived.Lay
import Derived.LaidMore
set_option linter.unusedVariables false
namespace Go.Proofs.YtopbdgdfnmlldaaGreatDoor
open Ai Go.Shelf
theorem rows_data : (Rows.laid_tidemark_wire_rows : DataW Unit) = Lib.tabData .u32 rowsV := by kernel_rfl
theorem gl_met {W : World} {l : List (String × DataW Unit)} (hL : laidMet Tryz.prog l W) (h3 : ("tidemark/wire.rows", Rows.laid_tidemark_wire_rows) ∈ l) : ∀ g, Row1 (Gh.start W) W g (gl0 g) := by
  have r3 := Lib.laidMet.reads hL h3
  rw [rows_data] at r3
  have hD := reads_ints r3 (show Tryz.prog.globalNamed "tidemark/wire.rows" = some 0 by kernel_rfl) (show (Tryz.prog.globals[0]?).map (·.type) = some 421 by kernel_rfl) (show Tryz.prog.underlying 421 = some (.array 16 388) by kernel_rfl)
    (show Tryz.prog.underlying 388 = some (.int .u32) by kernel_rfl) (show Tryz.prog.cellsOf 388 = 1 by kernel_rfl) (show Tryz.prog.cellsOf 421 = 16 by kernel_rfl)
  intro g
  unfold gl0
  by_cases h0 : g = 0
  · subst h0
    exact ⟨ints_strip _ _, start_ints hD, trivial⟩
  · rw [if_neg h0]
    exact no_globals _ _ g
end Go.Proofs.YtopbdgdfnmlldaaGreatDoor
