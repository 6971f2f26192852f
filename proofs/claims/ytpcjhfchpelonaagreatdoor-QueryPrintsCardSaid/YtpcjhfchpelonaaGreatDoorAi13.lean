/- The abstract interpreter: laws and calls that the kernel runs to their end. -/
import Derived.Test.YtpcjhfchpelonaaGreatDoorAi10
import Derived.Test.YtpcjhfchpelonaaGreatDoorAi11
namespace Ai
open Go

section
variable {P : Program} {K : Known} {tab tab1 : FuncId → Option AFunc} {pr : Prims} {xp : FuncId → List V → Option V}

theorem true_of_comp (hg : Good P K tab pr) {g : FuncId} {args : List V} (h : Comp tab pr g args (.b true)) (hno : ∀ v, ¬ pr.rel g args v) {gl : Nat → List V} (hok : pr.ok gl) {W : World} {cs : Array Value}
  (hv : VRs (Gh.start W) W args cs) (hgl : ∀ g, Row1 (Gh.start W) W g (gl g)) :
  Calls P g cs W fun e W' => e = .returned (.bool true) ∧ RowKit.Below W.heap.size W W' := by
 have := h {} gl hok
 cases this with
 | prim hgl hp => exact absurd hp (hno _)
 | fn ht hn hc he hl =>
   refine (calls_of_ev hg ht hn hc he hl hv hgl).mono fun e W' he => ?_
   cases e with
   | panicked _ => exact he.elim
   | outgrown => exact he.elim
   | returned c =>
     obtain ⟨k, G', hvr⟩ := he
     cases hvr
     exact ⟨rfl, k.below⟩
end

namespace Hp
section
variable {xf : FuncId → List V → Option V} {xh : FuncId → List V → H → Option (V × H)} {kz : Nat → List Nat}

end
end Hp
end Ai
