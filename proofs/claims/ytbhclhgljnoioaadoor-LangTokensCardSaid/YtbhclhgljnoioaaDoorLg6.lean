/- A text in quotes: the program's way. -/
import Derived.Test.YtbhclhgljnoioaaDoorLg5
set_option linter.unusedSimpArgs false
set_option linter.unusedVariables false
namespace Go.Proofs.YtbhclhgljnoioaaDoor
open Ai
theorem dec_oks (l : List UInt8) : oks (dec l).1 := by
  unfold dec oks
  simp only
  repeat' split
  all_goals simp_all [Utf8.valid, Utf8.runeError]
  all_goals omega
end Go.Proofs.YtbhclhgljnoioaaDoor
