/- The package variables, as the row lists them. -/
import Derived.Test.YtkibkodlbjhjfaaDoorTx0
import Derived.Test.YtkibkodlbjhjfaaDoorRows
import Derived.Test.YtkibkodlbjhjfaaDoorTie
import Derived.Test.YtkibkodlbjhjfaaDoorCards
import Derived.Lay
import Derived.LaidMore
set_option linter.unusedVariables false
namespace Go.Proofs.YtkibkodlbjhjfaaDoor
open Ai Go.Shelf
theorem u8x : Go.Proofs.U8Extra Tryd.prog renn196 := ⟨by kernel_rfl, by kernel_rfl, by kernel_rfl, by kernel_rfl, by kernel_rfl, by kernel_rfl, by kernel_rfl⟩
theorem first_data : (Rows.laid_unicode_utf8_first : DataW Unit) = Lib.firstData := by kernel_rfl
theorem accept_data : (Rows.laid_unicode_utf8_acceptRanges : DataW Unit) = Lib.acceptData := by kernel_rfl
theorem gl_met {W : World} {l : List (String × DataW Unit)} (hL : laidMet Tryd.prog l W) (h3 : ("unicode/utf8.first", Rows.laid_unicode_utf8_first) ∈ l) (h4 : ("unicode/utf8.acceptRanges", Rows.laid_unicode_utf8_acceptRanges) ∈ l) :
    ∀ g, stripL (gl0 g) = gl0 g ∧ VR (Gh.start W) W (.ip (gl0 g) 0) (.pointer (some ⟨g, 0, none⟩)) := by
  have r3 := Lib.laidMet.reads hL h3
  have r4 := Lib.laidMet.reads hL h4
  rw [first_data] at r3
  rw [accept_data] at r4
  have hT := Go.Proofs.utf8Tabs_of_readsT (.of196 lays196) u8x r3 r4
  have e3 : renn196.g 3 = 0 := by decide
  have e4 : renn196.g 4 = 1 := by decide
  rw [e3, e4] at hT
  intro g
  unfold gl0
  by_cases h0 : g = 0
  · subst h0
    exact ⟨ints_strip _ _, start_ints (start_first hT)⟩
  · by_cases h1 : g = 1
    · subst h1
      exact ⟨ints_strip _ _, start_ints (start_accept hT)⟩
    · rw [if_neg h0, if_neg h1]
      exact no_globals _ _ g
end Go.Proofs.YtkibkodlbjhjfaaDoor
