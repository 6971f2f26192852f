/- The package variables, as the row lists them. -/
import Derived.Test.YtbhclhgljnoioaaDoorLg0
import Derived.Test.YtbhclhgljnoioaaDoorRows
import Derived.Test.YtbhclhgljnoioaaDoorTie
import Derived.Test.YtbhclhgljnoioaaDoorCards
import Derived.Lay
import Derived.LaidMore
set_option linter.unusedVariables false
namespace Go.Proofs.YtbhclhgljnoioaaDoor
open Ai Go.Shelf
theorem u8x : Go.Proofs.U8Extra Tryd.prog renn196 := ⟨by kernel_rfl, by kernel_rfl, by kernel_rfl, by kernel_rfl, by kernel_rfl, by kernel_rfl, by kernel_rfl⟩
theorem first_data : (Rows.laid_unicode_utf8_first : DataW Unit) = Lib.firstData := by kernel_rfl
theorem accept_data : (Rows.laid_unicode_utf8_acceptRanges : DataW Unit) = Lib.acceptData := by kernel_rfl
theorem db_data : (Rows.laid_math_bits_deBruijn64tab : DataW Unit) = Lib.tabData .u8 db64 := by kernel_rfl
theorem gl_met {W : World} {l : List (String × DataW Unit)} (hL : laidMet Tryd.prog l W) (h3 : ("unicode/utf8.first", Rows.laid_unicode_utf8_first) ∈ l) (h4 : ("unicode/utf8.acceptRanges", Rows.laid_unicode_utf8_acceptRanges) ∈ l)
    (h5 : ("math/bits.deBruijn64tab", Rows.laid_math_bits_deBruijn64tab) ∈ l) : ∀ g, Row1 (Gh.start W) W g (gl0 g) := by
  have r3 := Lib.laidMet.reads hL h3
  have r4 := Lib.laidMet.reads hL h4
  have r5 := Lib.laidMet.reads hL h5
  rw [first_data] at r3
  rw [accept_data] at r4
  rw [db_data] at r5
  have hT := Go.Proofs.utf8Tabs_of_readsT (.of196 lays196) u8x r3 r4
  have e3 : renn196.g 3 = 0 := by decide
  have e4 : renn196.g 4 = 1 := by decide
  rw [e3, e4] at hT
  have hD := reads_ints r5 (show Tryd.prog.globalNamed "math/bits.deBruijn64tab" = some 5 by kernel_rfl) (show (Tryd.prog.globals[5]?).map (·.type) = some 162 by kernel_rfl) (show Tryd.prog.underlying 162 = some (.array 64 5) by kernel_rfl)
    (show Tryd.prog.underlying 5 = some (.int .u8) by kernel_rfl) (show Tryd.prog.cellsOf 5 = 1 by kernel_rfl) (show Tryd.prog.cellsOf 162 = 64 by kernel_rfl)
  intro g
  unfold gl0
  by_cases h0 : g = 0
  · subst h0
    exact ⟨ints_strip _ _, start_ints (start_first hT), trivial⟩
  · by_cases h1 : g = 1
    · subst h1
      exact ⟨ints_strip _ _, start_ints (start_accept hT), trivial⟩
    · by_cases h2 : g = 5
      · subst h2
        exact ⟨ints_strip _ _, start_ints hD, trivial⟩
      · rw [if_neg h0, if_neg h1, if_neg h2]
        exact no_globals _ _ g
end Go.Proofs.YtbhclhgljnoioaaDoor
