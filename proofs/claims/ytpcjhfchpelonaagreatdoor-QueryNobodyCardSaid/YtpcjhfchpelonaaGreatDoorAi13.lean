/- The abstract interpreter: laws and calls that the kernel runs to their end. -/
import Derived.Test.YtpcjhfchpelonaaGreatDoorAi10
import Derived.Test.YtpcjhfchpelonaaGreatDoorAi11
namespace Ai
open Go

/-- A call that writes, by the evaluator. -/
def runI (gl : Nat → List V) (tab : FuncId → Option AFunc) (xf : FuncId → List V → Option V) (fuel : Nat) (g : FuncId) (args : List V) (h : H) : Option (V × H) :=
  match tab g with
  | none => none
  | some fn => bif Nat.ble args.length fn.n then
    match run tab xf fuel (.code fn.body) (St.enter gl fn false args h) with
    | some (ex, st1) => bif ex.ends then leave fn false h st1 else none
    | none => none else none

section
variable {P : Program} {K : Known} {tab tab1 : FuncId → Option AFunc} {pr : Prims} {xp : FuncId → List V → Option V}

theorem runI_ev (htab : ∀ g fn, tab1 g = some fn → tab g = some fn) (hx : Tells tab pr xp) {gl : Nat → List V} (hok : pr.ok gl) {f : Nat} {g : FuncId} {args : List V} {h h' : H} {v : V} (hr : runI gl tab1 xp f g args h = some (v, h')) :
    Ev tab pr (.fn false g args h gl) (.val v h') := by
  unfold runI at hr
  split at hr
  · cases hr
  · rename_i fn ht
    cases hn : Nat.ble args.length fn.n with
    | false => rw [hn] at hr; cases hr
    | true =>
      rw [hn] at hr
      simp only [cond_true] at hr
      split at hr
      · rename_i ex st1 hrun
        cases he : ex.ends with
        | false => rw [he] at hr; cases hr
        | true =>
          rw [he] at hr
          simp only [cond_true] at hr
          exact .fn (htab _ _ ht) (Nat.le_of_ble_eq_true hn) (run_evM htab hx f (.code fn.body) _ _ _ (by rw [enter_gl]; exact hok) hrun) he hr
      · cases hr

/-- A law's function returns true, and writes nothing that was there. -/
theorem true_of_comp (hg : Good P K tab pr) {g : FuncId} {args : List V} (h : Comp tab pr g args (.b true)) (hno : ∀ v, ¬ pr.rel g args v) {gl : Nat → List V} (hok : pr.ok gl) {W : World} {cs : Array Value}
    (hv : VRs (Gh.start W) W args cs) (hgl : ∀ g, Row1 (Gh.start W) W g (gl g)) :
    Calls P g cs W fun e W' => e = .returned (.bool true) ∧ RowKit.Below W.heap.size W W' := by
  have := h {} gl hok
  cases this with
  | prim hgl hp => exact absurd hp (hno _)
  | fn ht hn hc he hl =>
    refine (calls_of_ev hg ht hn hc he hl hv hgl).mono fun e W' he => ?_
    cases e with
    | panicked _ => exact he.elim
    | outgrown => exact he.elim
    | returned c =>
      obtain ⟨k, G', hvr⟩ := he
      cases hvr
      exact ⟨rfl, k.below⟩
end

namespace Hp
section
variable {xf : FuncId → List V → Option V} {xh : FuncId → List V → H → Option (V × H)} {kz : Nat → List Nat}

def finV (res : List ARes) (p : AEx × St) : Option V := bif p.1.ends then (resV p.2 res).map (fun vs => frz p.2.h 100 (oneOf vs)) else none

/-- The rest of a run, by the kernel. -/
theorem M_fin {t : Tsk} {k : List Fr} {st : St} {res : List ARes} {v : V} (f : Nat) (h : (runK xf xh kz f t k st).bind (finV res) = some v) : M xf xh kz t k st (Fin res v) := by
  cases hr : runK xf xh kz f t k st with
  | none => rw [hr] at h; cases h
  | some p =>
    obtain ⟨ex, st'⟩ := p
    rw [hr] at h
    simp only [Option.bind_some, finV] at h
    cases he : ex.ends with
    | false => rw [he] at h; cases h
    | true =>
      rw [he] at h
      simp only [cond_true] at h
      exact ⟨f, ex, st', hr, he, h⟩
end
end Hp
end Ai
