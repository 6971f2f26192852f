/- The package variables, as the row lists them. -/
import Derived.Test.YtpcjhfchpelonaaGreatDoorLx3
import Derived.Test.YtpcjhfchpelonaaGreatDoorRows
import Derived.Test.YtpcjhfchpelonaaGreatDoorTie
import Derived.Test.YtpcjhfchpelonaaGreatDoorCards
import Derived.Lay
import Derived.LaidMore
set_option linter.unusedVariables false
namespace Go.Proofs.YtpcjhfchpelonaaGreatDoor
open Ai Go.Shelf
theorem u8x : Go.Proofs.U8Extra Tryz.prog renn197 := ⟨by kernel_rfl, by kernel_rfl, by kernel_rfl, by kernel_rfl, by kernel_rfl, by kernel_rfl, by kernel_rfl⟩
theorem u8t : Go.Proofs.U8Types Tryz.prog renn197 := { lays197 with }
theorem first_data : (Rows.laid_unicode_utf8_first : DataW Unit) = Lib.firstData := by kernel_rfl
theorem accept_data : (Rows.laid_unicode_utf8_acceptRanges : DataW Unit) = Lib.acceptData := by kernel_rfl
theorem db_data : (Rows.laid_math_bits_deBruijn64tab : DataW Unit) = Lib.tabData .u8 db64 := by kernel_rfl
theorem pow_data : (Rows.laid_internal_strconv_uint64pow10 : DataW Unit) = Lib.tabData .u64 Lib.pow10Tab := by kernel_rfl
theorem gl_met {W : World} {l : List (String × DataW Unit)} (hL : laidMet Tryz.prog l W) (h3 : ("unicode/utf8.first", Rows.laid_unicode_utf8_first) ∈ l) (h4 : ("unicode/utf8.acceptRanges", Rows.laid_unicode_utf8_acceptRanges) ∈ l)
  (h5 : ("math/bits.deBruijn64tab", Rows.laid_math_bits_deBruijn64tab) ∈ l) (h6 : ("internal/strconv.uint64pow10", Rows.laid_internal_strconv_uint64pow10) ∈ l) : ∀ g, Row1 (Gh.start W) W g (gl0 g) := by
 have r3 := Lib.laidMet.reads hL h3
 have r4 := Lib.laidMet.reads hL h4
 have r5 := Lib.laidMet.reads hL h5
 have r6 := Lib.laidMet.reads hL h6
 rw [first_data] at r3
 rw [accept_data] at r4
 rw [db_data] at r5
 rw [pow_data] at r6
 have hT := Go.Proofs.utf8Tabs_of_readsT u8t u8x r3 r4
 have e3 : renn197.g 3 = 2 := by decide
 have e4 : renn197.g 4 = 3 := by decide
 rw [e3, e4] at hT
 have hD := reads_ints r5 (show Tryz.prog.globalNamed "math/bits.deBruijn64tab" = some 5 by kernel_rfl) (show (Tryz.prog.globals[5]?).map (·.type) = some 251 by kernel_rfl) (show Tryz.prog.underlying 251 = some (.array 64 5) by kernel_rfl)
  (show Tryz.prog.underlying 5 = some (.int .u8) by kernel_rfl) (show Tryz.prog.cellsOf 5 = 1 by kernel_rfl) (show Tryz.prog.cellsOf 251 = 64 by kernel_rfl)
 have hP : Lib.TabIs Tryz.prog W "internal/strconv.uint64pow10" .u64 Lib.pow10Tab := tab_reads (g := 1) (t := 231) (e := 197) (m := 20) r6 (by kernel_rfl) (by kernel_rfl) (by kernel_rfl) (by kernel_rfl) (by kernel_rfl) (by kernel_rfl)
 intro g
 unfold gl0
 by_cases h1 : g = 1
 · subst h1
   rw [if_pos rfl]
   rw [pow_cons] at hP ⊢
   exact start_tab (by kernel_rfl) hP
 · rw [if_neg h1]
   by_cases h2 : g = 2
   · subst h2
     exact ⟨ints_strip _ _, start_ints (start_first hT), trivial⟩
   · rw [if_neg h2]
     by_cases h3 : g = 3
     · subst h3
       exact ⟨ints_strip _ _, start_ints (start_accept hT), trivial⟩
     · rw [if_neg h3]
       by_cases h5 : g = 5
       · subst h5
         exact ⟨ints_strip _ _, start_ints hD, trivial⟩
       · rw [if_neg h5]
         exact no_globals _ _ g
end Go.Proofs.YtpcjhfchpelonaaGreatDoor
