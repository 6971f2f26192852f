/- What is told of the library's functions: slices.Grow of nothing (the kit's own contract); the package variable wire.rows. -/
import Derived.Test.YtopbdgdfnmlldaaGreatDoorAi14
import Derived.Test.YtopbdgdfnmlldaaGreatDoorAi13
import Derived.Test.YtopbdgdfnmlldaaGreatDoorTab
import Derived.KernelRfl
import Derived.WalkKit
import Derived.Shelf.Spec.SlicesGrow
set_option linter.unusedSimpArgs false
set_option linter.unusedVariables false
namespace Go.Proofs.YtopbdgdfnmlldaaGreatDoor
open Ai
def xf (_ : FuncId) (_ : List V) : Option V := none
def tabx (g : FuncId) : Option AFunc := bif Nat.beq g 251 then none else tab g
def rowsV : List Int := [0, 724315118, 1448630236, 2104785970, 2897260472, 2275181654, 4209571940, 3519337354, 3370071343, 3824361153, 2659672819, 3047901469, 1685035671, 1329836409, 842517835, 421258917]
def gl0 (g : Nat) : List V := if g = 0 then ints .u32 rowsV else []
def grows (g : FuncId) : Option TypeId := bif Nat.beq g 251 then some 3 else none
def told : Prims := { ok := fun gl => gl = gl0, rel := fun _ _ _ => False, grow := grows }
theorem tab_ok (g : FuncId) (fn : AFunc) (h : tabx g = some fn) : fnOk Tryz.prog kn g fn = true := by
  unfold tabx at h
  cases hb : Nat.beq g 251 with
  | true => rw [hb] at h; cases h
  | false => rw [hb] at h; exact List.all_eq_true.1 lst_ok (g, fn) (al_mem h)
def renG : Go.Shelf.Ren := ⟨fun x => (al [(4, 251)] x).getD 0, fun x => (al [(0, 0), (3, 3), (4, 4), (9, 9), (20, 20), (22, 23), (25, 3)] x).getD 0, fun _ => 0⟩
theorem laysG : Go.Proofs.Lays8.n4 Tryz.prog renG := {
  mixed := by kernel_rfl,
  f4 := ⟨"slices.Grow[[]int,int]", by decide, by kernel_rfl⟩,
  t0 := by kernel_rfl, a0 := fun _ => by kernel_rfl, z0 := fun _ => by kernel_rfl, v0 := fun _ => by kernel_rfl,
  t3 := by kernel_rfl, a3 := fun _ => by kernel_rfl, z3 := fun _ => by kernel_rfl, v3 := fun _ => by kernel_rfl,
  t4 := by kernel_rfl, a4 := fun _ => by kernel_rfl, z4 := fun _ => by kernel_rfl, v4 := fun _ => by kernel_rfl,
  t9 := by kernel_rfl, a9 := fun _ => by kernel_rfl, z9 := fun _ => by kernel_rfl, v9 := fun _ => by kernel_rfl,
  t20 := by kernel_rfl, a20 := fun _ => by kernel_rfl, z20 := fun _ => by kernel_rfl, v20 := fun _ => by kernel_rfl,
  t22 := by kernel_rfl, a22 := fun _ => by kernel_rfl, z22 := fun _ => by kernel_rfl, v22 := fun _ => by kernel_rfl }
theorem infG : ((Tryz.prog.info? 3).bind fun i => i.zero.map fun z => (i.size, i.bytes, z.cells.size)) = some (1, 8, 1) := by kernel_rfl
theorem celG : Tryz.prog.cellsOf 3 = 1 := by kernel_rfl
theorem grow_ok : GrowOK Tryz.prog told := by
  intro g ty h
  have h : grows g = some ty := h
  unfold grows at h
  cases hb : Nat.beq g 251 with
  | false => rw [hb] at h; cases h
  | true =>
    rw [hb] at h
    simp only [cond_true, Option.some.injEq] at h
    have hg := Nat.eq_of_beq_eq_true hb
    subst h hg
    refine ⟨⟨Tryz.f251, _, Tryz.func251, rfl, by kernel_rfl⟩, fun n W h0 h1 => ?_⟩
    have hi := infG
    cases hi0 : Tryz.prog.info? 3 with
    | none => rw [hi0] at hi; cases hi
    | some i0 =>
      rw [hi0] at hi
      cases hz : i0.zero with
      | none => simp only [Option.bind_some, hz, Option.map_none] at hi; cases hi
      | some z =>
        simp only [Option.bind_some, hz, Option.map_some, Option.some.injEq, Prod.mk.injEq] at hi
        obtain ⟨k1, k2, k3⟩ := hi
        have hc := Any8.slices_Grow_grow laysG i0 z hi0 hz (by omega) none 0 0 n [] W (Nat.le_refl _) (by omega) (by rw [k2]; omega) (by omega) (by simp) (fun _ => rfl) (fun a e => by cases e)
        refine hc.mono fun e W' ⟨he, hw⟩ => ?_
        subst he hw
        refine ⟨_, _, rfl, rfl, ?_⟩
        rw [celG]
        have hge := grownCap_ge W (0 + n) 0 3
        simp only [Array.size_append, size_zeroCells, k3, Nat.mul_one, List.size_toArray, List.length_nil]
        omega
theorem good : Ai.Good Tryz.prog kn tabx told where
  known := fun f hf v w => by simp [kn] at hf
  tab := tab_ok
  prim := fun gl hgl g args v h => h.elim
  grow := grow_ok
theorem told_xf : ∀ g args v, xf g args = some v → told.rel g args v := fun _ _ _ h => by cases h
end Go.Proofs.YtopbdgdfnmlldaaGreatDoor
