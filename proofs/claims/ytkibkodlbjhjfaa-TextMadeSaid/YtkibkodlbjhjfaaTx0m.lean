/- What is told of the library's functions; the examples. -/
import Derived.Test.YtkibkodlbjhjfaaAi10
import Derived.Test.YtkibkodlbjhjfaaAi11
import Derived.Test.YtkibkodlbjhjfaaTab
import Derived.KernelRfl
import Derived.WalkKit
set_option linter.unusedSimpArgs false
set_option linter.unusedVariables false
namespace Go.Proofs.Ytkibkodlbjhjfaa
open Ai Go.Shelf
/-- What is told: strings.Join, strings.IndexByte. -/
def isTold (g : FuncId) : Bool := Nat.beq g 27 || Nat.beq g 28
def xf (g : FuncId) (a : List V) : Option V := bif Nat.beq g 27 then joinV a else bif Nat.beq g 28 then indexV a else none
def tabx (g : FuncId) : Option AFunc := bif isTold g then none else tab g
def told : Prims := ⟨fun _ => True, fun g a v => xf g a = some v⟩
def renn156 : Go.Shelf.Ren := ⟨fun x => (al [(156, 27), (165, 34), (166, 35), (169, 36), (240, 40), (241, 41), (276, 43), (277, 44)] x).getD 0, fun x => (al [(0, 0), (3, 3), (4, 4), (5, 5), (9, 9), (20, 20), (31, 30), (37, 36), (70, 46), (72, 48), (75, 51), (76, 52), (80, 54), (127, 57), (164, 58)] x).getD 0, fun x => (al [] x).getD 0⟩
theorem lays156 : Go.Proofs.Lays.n156 Try.prog renn156 := {
  mixed := by kernel_rfl,
  f156 := by kernel_rfl,
  f165 := by kernel_rfl,
  f166 := by kernel_rfl,
  f169 := by kernel_rfl,
  f240 := by kernel_rfl,
  f241 := by kernel_rfl,
  f276 := by kernel_rfl,
  f277 := by kernel_rfl,
  t0 := by kernel_rfl,
  a0 := fun _ => by kernel_rfl,
  z0 := fun _ => by kernel_rfl,
  v0 := fun _ => by kernel_rfl,
  t3 := by kernel_rfl,
  a3 := fun _ => by kernel_rfl,
  z3 := fun _ => by kernel_rfl,
  v3 := fun _ => by kernel_rfl,
  t4 := by kernel_rfl,
  a4 := fun _ => by kernel_rfl,
  z4 := fun _ => by kernel_rfl,
  v4 := fun _ => by kernel_rfl,
  t9 := by kernel_rfl,
  a9 := fun _ => by kernel_rfl,
  z9 := fun _ => by kernel_rfl,
  v9 := fun _ => by kernel_rfl,
  t20 := by kernel_rfl,
  a20 := fun _ => by kernel_rfl,
  z20 := fun _ => by kernel_rfl,
  v20 := fun _ => by kernel_rfl,
  t31 := by kernel_rfl,
  a31 := fun _ => by kernel_rfl,
  z31 := fun _ => by kernel_rfl,
  v31 := fun _ => by kernel_rfl,
  t37 := by kernel_rfl,
  a37 := fun _ => by kernel_rfl,
  z37 := fun _ => by kernel_rfl,
  v37 := fun _ => by kernel_rfl,
  t70 := by kernel_rfl,
  a70 := fun _ => by kernel_rfl,
  z70 := fun _ => by kernel_rfl,
  v70 := fun _ => by kernel_rfl,
  t72 := by kernel_rfl,
  a72 := fun _ => by kernel_rfl,
  z72 := fun _ => by kernel_rfl,
  v72 := fun _ => by kernel_rfl,
  t75 := by kernel_rfl,
  a75 := fun _ => by kernel_rfl,
  z75 := fun _ => by kernel_rfl,
  v75 := fun _ => by kernel_rfl,
  t76 := by kernel_rfl,
  a76 := fun _ => by kernel_rfl,
  z76 := fun _ => by kernel_rfl,
  v76 := fun _ => by kernel_rfl,
  t127 := by kernel_rfl,
  a127 := fun _ => by kernel_rfl,
  z127 := fun _ => by kernel_rfl,
  v127 := fun _ => by kernel_rfl,
  t164 := by kernel_rfl,
  a164 := fun _ => by kernel_rfl,
  z164 := fun _ => by kernel_rfl,
  v164 := fun _ => by kernel_rfl }

def renn137 : Go.Shelf.Ren := ⟨fun x => (al [(137, 28), (217, 37), (266, 42)] x).getD 0, fun x => (al [(3, 3), (5, 5), (9, 9)] x).getD 0, fun x => (al [] x).getD 0⟩
theorem lays137 : Go.Proofs.Lays.n137 Try.prog renn137 := {
  mixed := by kernel_rfl,
  f137 := by kernel_rfl,
  f217 := by kernel_rfl,
  f266 := by kernel_rfl,
  t3 := by kernel_rfl,
  a3 := fun _ => by kernel_rfl,
  z3 := fun _ => by kernel_rfl,
  v3 := fun _ => by kernel_rfl,
  t5 := by kernel_rfl,
  a5 := fun _ => by kernel_rfl,
  z5 := fun _ => by kernel_rfl,
  v5 := fun _ => by kernel_rfl,
  t9 := by kernel_rfl,
  a9 := fun _ => by kernel_rfl,
  z9 := fun _ => by kernel_rfl,
  v9 := fun _ => by kernel_rfl }

theorem extra156 : Go.Proofs.Builder.Extra Try.prog renn156 := {
  sizeBuilder := by kernel_rfl, liesBuilder := by kernel_rfl,
  t5 := by kernel_rfl, a5 := fun _ => by kernel_rfl, z5 := fun _ => by kernel_rfl, v5 := fun _ => by kernel_rfl, infoByte := by kernel_rfl, cellsByte := by kernel_rfl, sizeByte := by kernel_rfl, neB5 := by decide }
theorem tab_ok (g : FuncId) (fn : AFunc) (h : tabx g = some fn) : fnOk Try.prog kn g fn = true := by
  unfold tabx at h
  cases hb : isTold g with
  | true => rw [hb] at h; cases h
  | false =>
    rw [hb] at h
    exact List.all_eq_true.1 lst_ok (g, fn) (al_mem h)
theorem good : Ai.Good Try.prog kn tabx told where
  known := fun f hf v w => by
    have : f = 43 := by simpa [kn] using hf
    subst this
    show (callFunc 43 #[v]).run Try.prog w = .ok (.value v) w
    kernel_rfl
  tab := tab_ok
  prim := fun _ _ g args v h => by
    replace h : xf g args = some v := h
    unfold xf at h
    cases hb : Nat.beq g 27 with
    | true =>
      rw [hb] at h
      have := Nat.eq_of_beq_eq_true hb
      subst this
      have := join_ok (ρ := renn156) lays156 extra156 lays156.f156 (by kernel_rfl) (by kernel_rfl) h
      exact ⟨this.1, fun G W cs hv _ => this.2 G W cs hv⟩
    | false =>
      rw [hb] at h
      simp only [cond_false] at h
      cases hb2 : Nat.beq g 28 with
      | true =>
        rw [hb2] at h
        have := Nat.eq_of_beq_eq_true hb2
        subst this
        have := index_ok (ρ := renn137) lays137 lays137.f137 (by kernel_rfl) (by kernel_rfl) h
        exact ⟨this.1, fun G W cs hv _ => this.2 G W cs hv⟩
      | false => rw [hb2] at h; cases h
theorem r_awake (gl : Nat → List V) : runF gl tabx xf 5000 11 [] = some (.b true) := by kernel_rfl
theorem c_awake : Comp tabx told 11 [] (.b true) := comp_runF (fun _ _ _ h => h) 5000 fun gl _ => r_awake gl
def F_awake (a : List V) : Option V := match a with
  | [] => some (.b true)
  | _ => none
theorem F_awake1 : F_awake [] = some (.b true) := rfl
theorem o_awake : ∀ a v, F_awake a = some v → Comp tabx told 11 a v := fun a v e => by
  unfold F_awake at e
  split at e
  · cases e; exact c_awake
  · cases e
end Go.Proofs.Ytkibkodlbjhjfaa
