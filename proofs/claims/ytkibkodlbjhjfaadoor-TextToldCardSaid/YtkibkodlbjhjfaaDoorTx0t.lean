/- What is told of strconv.FormatInt, and of its table; the examples. -/
import Derived.Test.YtkibkodlbjhjfaaDoorAi11
import Derived.Test.YtkibkodlbjhjfaaDoorAi10
import Derived.Test.YtkibkodlbjhjfaaDoorTab
import Derived.KernelRfl
import Derived.WalkKit
set_option linter.unusedSimpArgs false
set_option linter.unusedVariables false
namespace Go.Proofs.YtkibkodlbjhjfaaDoor
open Ai Go.Shelf
def fnFmt (a : List V) : Option V := match a with
  | [.i .i64 n, .i .i64 b] => if -9223372036854775808 ≤ n ∧ n ≤ 9223372036854775807 ∧ b = 10 then some (.s (Lib.itoa n)) else none
  | _ => none
def isTold (g : FuncId) : Bool := Nat.beq g 13
def xf (g : FuncId) (a : List V) : Option V := bif isTold g then fnFmt a else none
def tabx (g : FuncId) : Option AFunc := bif isTold g then none else tab g
/-- The package variable: internal/strconv.uint64pow10. -/
def gl0 (g : Nat) : List V := if g = 2 then ints .u64 Lib.pow10Tab else []
def told : Prims := ⟨fun gl => gl = gl0, fun g a v => xf g a = some v⟩
def renn173 : Go.Shelf.Ren := ⟨fun x => (al [(129, 29), (173, 13), (246, 22), (283, 24), (284, 25), (285, 26), (286, 27), (317, 28), (318, 30), (319, 31), (320, 32), (337, 33), (338, 34)] x).getD 0, fun x => (al [(0, 0), (2, 2), (3, 3), (4, 4), (5, 5), (9, 9), (20, 20), (37, 50), (46, 43), (51, 56), (53, 45), (171, 47), (173, 51), (212, 55), (213, 57), (232, 61), (233, 62)] x).getD 0, fun x => (al [(17, 2), (18, 3), (19, 4)] x).getD 0⟩
theorem lays173 : Go.Proofs.Lays.n173 Tryd.prog renn173 := {
  mixed := by kernel_rfl,
  f129 := by kernel_rfl,
  f173 := by kernel_rfl,
  f246 := by kernel_rfl,
  f283 := by kernel_rfl,
  f284 := by kernel_rfl,
  f285 := by kernel_rfl,
  f286 := by kernel_rfl,
  f317 := by kernel_rfl,
  f318 := by kernel_rfl,
  f319 := by kernel_rfl,
  f320 := by kernel_rfl,
  f337 := by kernel_rfl,
  f338 := by kernel_rfl,
  t0 := by kernel_rfl,
  a0 := fun _ => by kernel_rfl,
  z0 := fun _ => by kernel_rfl,
  v0 := fun _ => by kernel_rfl,
  t2 := by kernel_rfl,
  a2 := fun _ => by kernel_rfl,
  z2 := fun _ => by kernel_rfl,
  v2 := fun _ => by kernel_rfl,
  t3 := by kernel_rfl,
  a3 := fun _ => by kernel_rfl,
  z3 := fun _ => by kernel_rfl,
  v3 := fun _ => by kernel_rfl,
  t4 := by kernel_rfl,
  a4 := fun _ => by kernel_rfl,
  z4 := fun _ => by kernel_rfl,
  v4 := fun _ => by kernel_rfl,
  t5 := by kernel_rfl,
  a5 := fun _ => by kernel_rfl,
  z5 := fun _ => by kernel_rfl,
  v5 := fun _ => by kernel_rfl,
  t9 := by kernel_rfl,
  a9 := fun _ => by kernel_rfl,
  z9 := fun _ => by kernel_rfl,
  v9 := fun _ => by kernel_rfl,
  t20 := by kernel_rfl,
  a20 := fun _ => by kernel_rfl,
  z20 := fun _ => by kernel_rfl,
  v20 := fun _ => by kernel_rfl,
  t37 := by kernel_rfl,
  a37 := fun _ => by kernel_rfl,
  z37 := fun _ => by kernel_rfl,
  v37 := fun _ => by kernel_rfl,
  t46 := by kernel_rfl,
  a46 := fun _ => by kernel_rfl,
  z46 := fun _ => by kernel_rfl,
  v46 := fun _ => by kernel_rfl,
  t51 := by kernel_rfl,
  a51 := fun _ => by kernel_rfl,
  z51 := fun _ => by kernel_rfl,
  v51 := fun _ => by kernel_rfl,
  t53 := by kernel_rfl,
  a53 := fun _ => by kernel_rfl,
  z53 := fun _ => by kernel_rfl,
  v53 := fun _ => by kernel_rfl,
  t171 := by kernel_rfl,
  a171 := fun _ => by kernel_rfl,
  z171 := fun _ => by kernel_rfl,
  v171 := fun _ => by kernel_rfl,
  t173 := by kernel_rfl,
  a173 := fun _ => by kernel_rfl,
  z173 := fun _ => by kernel_rfl,
  v173 := fun _ => by kernel_rfl,
  t212 := by kernel_rfl,
  a212 := fun _ => by kernel_rfl,
  z212 := fun _ => by kernel_rfl,
  v212 := fun _ => by kernel_rfl,
  t213 := by kernel_rfl,
  a213 := fun _ => by kernel_rfl,
  z213 := fun _ => by kernel_rfl,
  t232 := by kernel_rfl,
  a232 := fun _ => by kernel_rfl,
  z232 := fun _ => by kernel_rfl,
  v232 := fun _ => by kernel_rfl,
  t233 := by kernel_rfl,
  a233 := fun _ => by kernel_rfl,
  z233 := fun _ => by kernel_rfl,
  v233 := fun _ => by kernel_rfl,
  g17 := by kernel_rfl,
  g18 := by kernel_rfl,
  g19 := by kernel_rfl }
theorem laysM173 : Go.Proofs.LaysM.n173 Tryd.prog renn173 := { lays173 with
  i0 := by kernel_rfl,
  i2 := by kernel_rfl,
  i3 := by kernel_rfl,
  i4 := by kernel_rfl,
  i5 := by kernel_rfl,
  i9 := by kernel_rfl,
  i20 := by kernel_rfl,
  i37 := by kernel_rfl,
  i46 := by kernel_rfl,
  i51 := by kernel_rfl,
  i53 := by kernel_rfl,
  i171 := by kernel_rfl,
  i173 := by kernel_rfl,
  i212 := by kernel_rfl,
  i232 := by kernel_rfl,
  i233 := by kernel_rfl,
  m17 := by kernel_rfl,
  m18 := by kernel_rfl,
  m19 := by kernel_rfl }

theorem tab_ok (g : FuncId) (fn : AFunc) (h : tabx g = some fn) : fnOk Tryd.prog kn g fn = true := by
  unfold tabx at h
  cases hb : isTold g with
  | true => rw [hb] at h; cases h
  | false =>
    rw [hb] at h
    exact List.all_eq_true.1 lst_ok (g, fn) (al_mem h)
theorem pow_cons : Lib.pow10Tab = 1 :: Lib.pow10Tab.tail := by decide
theorem good : Ai.Good Tryd.prog kn tabx told where
  known := fun f hf v w => by simp [kn] at hf
  tab := tab_ok
  prim := fun gl hgl g args v h => by
    have hgl : gl = gl0 := hgl
    subst hgl
    replace h : xf g args = some v := h
    unfold xf isTold at h
    cases hb : Nat.beq g 13 with
    | true =>
      rw [hb] at h
      have := Nat.eq_of_beq_eq_true hb
      subst this
      simp only [cond_true] at h
      unfold fnFmt at h
      split at h
      · split at h
        · rename_i n b hl
          cases h
          obtain ⟨h0, h1, rfl⟩ := hl
          refine ⟨rfl, fun G W cs hv hi => format_ok (ρ := renn173) laysM173 lays173.f173 (by kernel_rfl) (by kernel_rfl) n h0 h1 G W cs hv ?_⟩
          have := hi 2
          rw [show gl0 2 = ints .u64 (1 :: Lib.pow10Tab.tail) from congrArg (ints .u64) pow_cons] at this
          rw [pow_cons]
          exact tab_is this (by kernel_rfl)
        · cases h
      · cases h
    | false => rw [hb] at h; cases h
theorem r_awake (gl : Nat → List V) : runF gl tabx xf 5000 6 [] = some (.b true) := by kernel_rfl
theorem c_awake : Comp tabx told 6 [] (.b true) := comp_runF (fun _ _ _ h => h) 5000 fun gl _ => r_awake gl
def F_awake (a : List V) : Option V := match a with
  | [] => some (.b true)
  | _ => none
theorem F_awake1 : F_awake [] = some (.b true) := rfl
theorem o_awake : ∀ a v, F_awake a = some v → Comp tabx told 6 a v := fun a v e => by
  unfold F_awake at e
  split at e
  · cases e; exact c_awake
  · cases e
end Go.Proofs.YtkibkodlbjhjfaaDoor
