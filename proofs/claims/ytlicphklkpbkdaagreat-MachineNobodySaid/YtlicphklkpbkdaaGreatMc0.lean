/- What is told of the library's functions, and of the package variables: nothing. -/
import Derived.Test.YtlicphklkpbkdaaGreatAi13
import Derived.Test.YtlicphklkpbkdaaGreatTab
import Derived.KernelRfl
import Derived.WalkKit
set_option linter.unusedSimpArgs false
set_option linter.unusedVariables false
namespace Go.Proofs.YtlicphklkpbkdaaGreat
open Ai
def xf (_ : FuncId) (_ : List V) : Option V := none
def tabx (g : FuncId) : Option AFunc := tab g
def gl0 (_ : Nat) : List V := []
def told : Prims := ⟨fun gl => gl = gl0, fun _ _ _ => False⟩
theorem tab_ok (g : FuncId) (fn : AFunc) (h : tabx g = some fn) : fnOk Tryz.prog kn g fn = true := List.all_eq_true.1 lst_ok (g, fn) (al_mem h)
theorem good : Ai.Good Tryz.prog kn tabx told where
  known := fun f hf v w => by simp [kn] at hf
  tab := tab_ok
  prim := fun gl hgl g args v h => h.elim
theorem told_xf : ∀ g args v, xf g args = some v → told.rel g args v := fun _ _ _ h => by cases h
end Go.Proofs.YtlicphklkpbkdaaGreat
