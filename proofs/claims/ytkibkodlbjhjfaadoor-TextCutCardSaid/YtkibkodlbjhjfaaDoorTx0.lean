/- What is told of the library's functions (utf8.ValidString, DecodeLastRuneInString), and of the package variables; the examples. -/
import Derived.Test.YtkibkodlbjhjfaaDoorAiGl
import Derived.Test.YtkibkodlbjhjfaaDoorAiTy
import Derived.Test.YtkibkodlbjhjfaaDoorTab
import Derived.KernelRfl
import Derived.WalkKit
set_option linter.unusedSimpArgs false
set_option linter.unusedVariables false
namespace Go.Proofs.YtkibkodlbjhjfaaDoor
open Ai Go.Shelf
def fnValid (a : List V) : Option V := match a with
  | [.s l] => if l.length ≤ 9223372036854775807 then some (.b (Lib.validD l)) else none
  | _ => none
def fnLast (a : List V) : Option V := match a with
  | [.s l] => if l.length ≤ 9223372036854775807 then some (.tup [.i .i32 (Lib.decodeLastL l).1, .i .i64 (Lib.decodeLastL l).2]) else none
  | _ => none
def isTold (g : FuncId) : Bool := Nat.beq g 10 || Nat.beq g 11
def xf (g : FuncId) (a : List V) : Option V := bif Nat.beq g 10 then fnValid a else bif Nat.beq g 11 then fnLast a else none
def tabx (g : FuncId) : Option AFunc := bif isTold g then none else tab g
/-- The package variables: unicode/utf8.first, unicode/utf8.acceptRanges. -/
def gl0 (g : Nat) : List V := if g = 0 then ints .u8 firstV else if g = 1 then ints .u8 acceptV else []
def told : Prims := ⟨fun gl => gl = gl0, fun g a v => xf g a = some v⟩
def renn196 : Go.Shelf.Ren := ⟨fun x => (al [(196, 10), (259, 19)] x).getD 0, fun x => (al [(0, 0), (3, 3), (4, 4), (5, 5), (9, 9), (12, 12), (46, 43), (53, 45), (119, 39), (138, 41), (139, 42)] x).getD 0, fun x => (al [(3, 0), (4, 1)] x).getD 0⟩
theorem lays196 : Go.Proofs.Lays.n196 Tryd.prog renn196 := {
  mixed := by kernel_rfl,
  f196 := by kernel_rfl,
  f259 := by kernel_rfl,
  t0 := by kernel_rfl,
  a0 := fun _ => by kernel_rfl,
  z0 := fun _ => by kernel_rfl,
  v0 := fun _ => by kernel_rfl,
  t3 := by kernel_rfl,
  a3 := fun _ => by kernel_rfl,
  z3 := fun _ => by kernel_rfl,
  v3 := fun _ => by kernel_rfl,
  t4 := by kernel_rfl,
  a4 := fun _ => by kernel_rfl,
  z4 := fun _ => by kernel_rfl,
  v4 := fun _ => by kernel_rfl,
  t5 := by kernel_rfl,
  a5 := fun _ => by kernel_rfl,
  z5 := fun _ => by kernel_rfl,
  v5 := fun _ => by kernel_rfl,
  t9 := by kernel_rfl,
  a9 := fun _ => by kernel_rfl,
  z9 := fun _ => by kernel_rfl,
  v9 := fun _ => by kernel_rfl,
  t12 := by kernel_rfl,
  a12 := fun _ => by kernel_rfl,
  z12 := fun _ => by kernel_rfl,
  v12 := fun _ => by kernel_rfl,
  t46 := by kernel_rfl,
  a46 := fun _ => by kernel_rfl,
  z46 := fun _ => by kernel_rfl,
  v46 := fun _ => by kernel_rfl,
  t53 := by kernel_rfl,
  a53 := fun _ => by kernel_rfl,
  z53 := fun _ => by kernel_rfl,
  v53 := fun _ => by kernel_rfl,
  t119 := by kernel_rfl,
  a119 := fun _ => by kernel_rfl,
  z119 := fun _ => by kernel_rfl,
  t138 := by kernel_rfl,
  a138 := fun _ => by kernel_rfl,
  z138 := fun _ => by kernel_rfl,
  v138 := fun _ => by kernel_rfl,
  t139 := by kernel_rfl,
  a139 := fun _ => by kernel_rfl,
  z139 := fun _ => by kernel_rfl,
  v139 := fun _ => by kernel_rfl,
  g3 := by kernel_rfl,
  g4 := by kernel_rfl }

def renn271 : Go.Shelf.Ren := ⟨fun x => (al [(120, 20), (197, 21), (260, 23), (271, 11)] x).getD 0, fun x => (al [(0, 0), (3, 3), (4, 4), (5, 5), (9, 9), (21, 21), (46, 43), (105, 26), (119, 39), (138, 41), (139, 42)] x).getD 0, fun x => (al [(3, 0), (4, 1)] x).getD 0⟩
theorem lays271 : Go.Proofs.Lays.n271 Tryd.prog renn271 := {
  mixed := by kernel_rfl,
  f120 := by kernel_rfl,
  f197 := by kernel_rfl,
  f260 := by kernel_rfl,
  f271 := by kernel_rfl,
  t0 := by kernel_rfl,
  a0 := fun _ => by kernel_rfl,
  z0 := fun _ => by kernel_rfl,
  v0 := fun _ => by kernel_rfl,
  t3 := by kernel_rfl,
  a3 := fun _ => by kernel_rfl,
  z3 := fun _ => by kernel_rfl,
  v3 := fun _ => by kernel_rfl,
  t4 := by kernel_rfl,
  a4 := fun _ => by kernel_rfl,
  z4 := fun _ => by kernel_rfl,
  v4 := fun _ => by kernel_rfl,
  t5 := by kernel_rfl,
  a5 := fun _ => by kernel_rfl,
  z5 := fun _ => by kernel_rfl,
  v5 := fun _ => by kernel_rfl,
  t9 := by kernel_rfl,
  a9 := fun _ => by kernel_rfl,
  z9 := fun _ => by kernel_rfl,
  v9 := fun _ => by kernel_rfl,
  t21 := by kernel_rfl,
  a21 := fun _ => by kernel_rfl,
  z21 := fun _ => by kernel_rfl,
  v21 := fun _ => by kernel_rfl,
  t46 := by kernel_rfl,
  a46 := fun _ => by kernel_rfl,
  z46 := fun _ => by kernel_rfl,
  v46 := fun _ => by kernel_rfl,
  t105 := by kernel_rfl,
  a105 := fun _ => by kernel_rfl,
  z105 := fun _ => by kernel_rfl,
  v105 := fun _ => by kernel_rfl,
  t119 := by kernel_rfl,
  a119 := fun _ => by kernel_rfl,
  z119 := fun _ => by kernel_rfl,
  t138 := by kernel_rfl,
  a138 := fun _ => by kernel_rfl,
  z138 := fun _ => by kernel_rfl,
  v138 := fun _ => by kernel_rfl,
  t139 := by kernel_rfl,
  a139 := fun _ => by kernel_rfl,
  z139 := fun _ => by kernel_rfl,
  v139 := fun _ => by kernel_rfl,
  g3 := by kernel_rfl,
  g4 := by kernel_rfl }

theorem tab_ok (g : FuncId) (fn : AFunc) (h : tabx g = some fn) : fnOk Tryd.prog kn g fn = true := by
  unfold tabx at h
  cases hb : isTold g with
  | true => rw [hb] at h; cases h
  | false =>
    rw [hb] at h
    exact List.all_eq_true.1 lst_ok (g, fn) (al_mem h)
theorem good : Ai.Good Tryd.prog kn tabx told where
  known := fun f hf v w => by simp [kn] at hf
  tab := tab_ok
  prim := fun gl hgl g args v h => by
    have hgl : gl = gl0 := hgl
    subst hgl
    replace h : xf g args = some v := h
    unfold xf at h
    cases hb : Nat.beq g 10 with
    | true =>
      rw [hb] at h
      have := Nat.eq_of_beq_eq_true hb
      subst this
      simp only [cond_true] at h
      unfold fnValid at h
      split at h
      · split at h
        · rename_i l hl
          cases h
          exact ⟨rfl, fun G W cs hv hi => valid_ok (ρ := renn196) lays196 lays196.f196 (by kernel_rfl) (by kernel_rfl) l hl G W cs hv (tabs_of (hi 0) (hi 1))⟩
        · cases h
      · cases h
    | false =>
      rw [hb] at h
      simp only [cond_false] at h
      cases hb2 : Nat.beq g 11 with
      | true =>
        rw [hb2] at h
        have := Nat.eq_of_beq_eq_true hb2
        subst this
        simp only [cond_true] at h
        unfold fnLast at h
        split at h
        · split at h
          · rename_i l hl
            cases h
            exact ⟨rfl, fun G W cs hv hi => last_ok (ρ := renn271) lays271 lays271.f271 (by kernel_rfl) (by kernel_rfl) l hl G W cs hv (tabs_of (hi 0) (hi 1))⟩
          · cases h
        · cases h
      | false => rw [hb2] at h; cases h
theorem r_awake (gl : Nat → List V) : runF gl tabx xf 5000 6 [] = some (.b true) := by kernel_rfl
theorem c_awake : Comp tabx told 6 [] (.b true) := comp_runF (fun _ _ _ h => h) 5000 fun gl _ => r_awake gl
def F_awake (a : List V) : Option V := match a with
  | [] => some (.b true)
  | _ => none
theorem F_awake1 : F_awake [] = some (.b true) := rfl
theorem o_awake : ∀ a v, F_awake a = some v → Comp tabx told 6 a v := fun a v e => by
  unfold F_awake at e
  split at e
  · cases e; exact c_awake
  · cases e
end Go.Proofs.YtkibkodlbjhjfaaDoor
