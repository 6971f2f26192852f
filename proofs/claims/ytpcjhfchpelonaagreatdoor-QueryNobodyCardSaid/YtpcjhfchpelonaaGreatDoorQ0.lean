/- What is told of the library's functions: nothing; the package variables; the examples. -/
import Derived.Test.YtpcjhfchpelonaaGreatDoorAi12
import Derived.Test.YtpcjhfchpelonaaGreatDoorAi13
import Derived.Test.YtpcjhfchpelonaaGreatDoorTab
import Derived.KernelRfl
import Derived.WalkKit
set_option linter.unusedSimpArgs false
set_option linter.unusedVariables false
namespace Go.Proofs.YtpcjhfchpelonaaGreatDoor
open Ai
/-- Code, opened. -/
theorem M_open {c c' : AC} (h : c = c') {xf : FuncId → List V → Option V} {kz : Nat → List Nat} {k : List Fr} {st : St} {Q : AEx → St → Prop} : M xf kz (.code c) k st Q = M xf kz (.code c') k st Q := by rw [h]
theorem Hp_open {c c' : AC} (h : c = c') {xf : FuncId → List V → Option V} {xh : FuncId → List V → H → Option (V × H)} {kz : Nat → List Nat} {k : List Fr} {st : St} {Q : AEx → St → Prop} : Hp.M xf xh kz (.code c) k st Q = Hp.M xf xh kz (.code c') k st Q := by rw [h]
def xf (_ : FuncId) (_ : List V) : Option V := none
def tabx (g : FuncId) : Option AFunc := tab g
/-- The package variable: unicode/utf8.first. -/
def gl0 (g : Nat) : List V := if g = 2 then ints .u8 firstV else []
def told : Prims := ⟨fun gl => gl = gl0, fun _ _ _ => False⟩
theorem tab_ok (g : FuncId) (fn : AFunc) (h : tabx g = some fn) : fnOk Tryz.prog kn g fn = true := List.all_eq_true.1 lst_ok (g, fn) (al_mem h)
theorem good : Ai.Good Tryz.prog kn tabx told where
  known := fun f hf v w => by
    have : f = 132 := by simpa [kn] using hf
    subst this
    show (callFunc 132 #[v]).run Tryz.prog w = .ok (.value v) w
    kernel_rfl
  tab := tab_ok
  prim := fun gl hgl g args v h => h.elim
theorem told_xf : ∀ g args v, xf g args = some v → told.rel g args v := fun _ _ _ h => by cases h
end Go.Proofs.YtpcjhfchpelonaaGreatDoor
