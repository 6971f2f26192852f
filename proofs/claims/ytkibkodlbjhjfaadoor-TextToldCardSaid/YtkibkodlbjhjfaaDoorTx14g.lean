/- The package variable, as the row lists it. -/
import Derived.Test.YtkibkodlbjhjfaaDoorTx0t
import Derived.Test.YtkibkodlbjhjfaaDoorRows
import Derived.Test.YtkibkodlbjhjfaaDoorTie
import Derived.Test.YtkibkodlbjhjfaaDoorCards
import Derived.Lay
import Derived.LaidMore
set_option linter.unusedVariables false
namespace Go.Proofs.YtkibkodlbjhjfaaDoor
open Ai Go.Shelf
theorem pow_data : (Rows.laid_internal_strconv_uint64pow10 : DataW Unit) = Lib.tabData .u64 Lib.pow10Tab := by kernel_rfl
theorem gl_met {W : World} {l : List (String × DataW Unit)} (hL : laidMet Tryd.prog l W) (h : ("internal/strconv.uint64pow10", Rows.laid_internal_strconv_uint64pow10) ∈ l) :
    ∀ g, Row1 (Gh.start W) W g (gl0 g) := by
  have r := Lib.laidMet.reads hL h
  rw [pow_data] at r
  have hT : Lib.TabIs Tryd.prog W "internal/strconv.uint64pow10" .u64 Lib.pow10Tab := tab_reads (g := 2) (t := 55) (e := 45) (m := 20) r (by kernel_rfl) (by kernel_rfl) (by kernel_rfl) (by kernel_rfl) (by kernel_rfl) (by kernel_rfl)
  intro g
  unfold gl0
  by_cases h0 : g = 2
  · subst h0
    rw [if_pos rfl]
    rw [pow_cons] at hT ⊢
    exact start_tab (by kernel_rfl) hT
  · rw [if_neg h0]
    exact no_globals _ _ g
end Go.Proofs.YtkibkodlbjhjfaaDoor
