/- The document's keys, values and names; the law on them. -/
import Derived.Test.YtbhclhgljnoioaaDoorPt1
set_option linter.unusedSimpArgs false
set_option linter.unusedVariables false
namespace Go.Proofs.YtbhclhgljnoioaaDoor
open Ai

/-! ### The document's Name: byte by byte -/
/-! ### The law -/
def F_Key (a : List V) : Option V := match a with
  | [.s l] => some (.i .i64 (errV (allV plain 1 24 l) 20))
  | _ => none
def F_Value (a : List V) : Option V := match a with
  | [.s l] => some (.i .i64 (errV (allV plain 0 48 l) 21))
  | _ => none
def F_Name (a : List V) : Option V := match a with
  | [.s l] => some (.i .i64 (errV (allV letter 1 8 l) 22))
  | _ => none
theorem o_Key : ∀ a v, F_Key a = some v → Comp tabx told 90 a v := fun a v e => by
  unfold F_Key at e
  split at e <;> cases e
  exact c_Key _
theorem o_Value : ∀ a v, F_Value a = some v → Comp tabx told 92 a v := fun a v e => by
  unfold F_Value at e
  split at e <;> cases e
  exact c_Value _
theorem o_Name : ∀ a v, F_Name a = some v → Comp tabx told 91 a v := fun a v e => by
  unfold F_Name at e
  split at e <;> cases e
  exact c_Name _
end Go.Proofs.YtbhclhgljnoioaaDoor
