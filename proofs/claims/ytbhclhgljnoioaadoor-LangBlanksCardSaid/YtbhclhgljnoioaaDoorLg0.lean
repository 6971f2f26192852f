/- What is told of the library's functions, and of the package variables. -/
import Derived.Test.YtbhclhgljnoioaaDoorAi12
import Derived.Test.YtbhclhgljnoioaaDoorAi11
import Derived.Test.YtbhclhgljnoioaaDoorTab
import Derived.KernelRfl
import Derived.WalkKit
set_option linter.unusedSimpArgs false
set_option linter.unusedVariables false
namespace Go.Proofs.YtbhclhgljnoioaaDoor
open Ai Go.Shelf
/-- Code, opened. -/
theorem M_open {c c' : AC} (h : c = c') {xf : FuncId → List V → Option V} {kz : Nat → List Nat} {k : List Fr} {st : St} {Q : AEx → St → Prop} : M xf kz (.code c) k st Q = M xf kz (.code c') k st Q := by rw [h]
theorem Hp_open {c c' : AC} (h : c = c') {xf : FuncId → List V → Option V} {xh : FuncId → List V → H → Option (V × H)} {kz : Nat → List Nat} {k : List Fr} {st : St} {Q : AEx → St → Prop} : Hp.M xf xh kz (.code c) k st Q = Hp.M xf xh kz (.code c') k st Q := by rw [h]
def fnValid (a : List V) : Option V := match a with
  | [.s l] => if l.length ≤ 9223372036854775807 then some (.b (Lib.validD l)) else none
  | _ => none
def isTold (g : FuncId) : Bool := Nat.beq g 66 || Nat.beq g 93 || Nat.beq g 43 || Nat.beq g 28
def xf (g : FuncId) (a : List V) : Option V := bif Nat.beq g 66 then joinV a else bif Nat.beq g 93 then indexV a else bif Nat.beq g 43 then decV a else bif Nat.beq g 28 then fnValid a else none
def tabx (g : FuncId) : Option AFunc := bif isTold g then none else tab g
/-- The package variables: unicode/utf8.first, unicode/utf8.acceptRanges, math/bits.deBruijn64tab. -/
def db64 : List Int := [0, 1, 56, 2, 57, 49, 28, 3, 61, 58, 42, 50, 38, 29, 17, 4, 62, 47, 59, 36, 45, 43, 51, 22, 53, 39, 33, 30, 24, 18, 12, 5, 63, 55, 48, 27, 60, 41, 37, 16, 46, 35, 44, 21, 52, 32, 23, 11, 54, 26, 40, 15, 34, 20, 31, 10, 25, 14, 19, 9, 13, 8, 7, 6]
def gl0 (g : Nat) : List V := if g = 0 then ints .u8 firstV else if g = 1 then ints .u8 acceptV else if g = 5 then ints .u8 db64 else []
def told : Prims := ⟨fun gl => gl = gl0, fun g a v => xf g a = some v⟩
def renn156 : Go.Shelf.Ren := ⟨fun x => (al [(156, 66), (165, 56), (166, 33), (169, 35), (240, 62), (241, 78), (276, 82), (277, 99)] x).getD 0, fun x => (al [(0, 0), (3, 3), (4, 4), (5, 5), (9, 9), (20, 20), (31, 106), (37, 55), (70, 54), (72, 57), (75, 59), (76, 61), (80, 65), (127, 104), (164, 122)] x).getD 0, fun x => (al [] x).getD 0⟩
theorem lays156 : Go.Proofs.Lays.n156 Tryd.prog renn156 := {
  mixed := by kernel_rfl,
  f156 := by kernel_rfl,
  f165 := by kernel_rfl,
  f166 := by kernel_rfl,
  f169 := by kernel_rfl,
  f240 := by kernel_rfl,
  f241 := by kernel_rfl,
  f276 := by kernel_rfl,
  f277 := by kernel_rfl,
  t0 := by kernel_rfl,
  a0 := fun _ => by kernel_rfl,
  z0 := fun _ => by kernel_rfl,
  v0 := fun _ => by kernel_rfl,
  t3 := by kernel_rfl,
  a3 := fun _ => by kernel_rfl,
  z3 := fun _ => by kernel_rfl,
  v3 := fun _ => by kernel_rfl,
  t4 := by kernel_rfl,
  a4 := fun _ => by kernel_rfl,
  z4 := fun _ => by kernel_rfl,
  v4 := fun _ => by kernel_rfl,
  t9 := by kernel_rfl,
  a9 := fun _ => by kernel_rfl,
  z9 := fun _ => by kernel_rfl,
  v9 := fun _ => by kernel_rfl,
  t20 := by kernel_rfl,
  a20 := fun _ => by kernel_rfl,
  z20 := fun _ => by kernel_rfl,
  v20 := fun _ => by kernel_rfl,
  t31 := by kernel_rfl,
  a31 := fun _ => by kernel_rfl,
  z31 := fun _ => by kernel_rfl,
  v31 := fun _ => by kernel_rfl,
  t37 := by kernel_rfl,
  a37 := fun _ => by kernel_rfl,
  z37 := fun _ => by kernel_rfl,
  v37 := fun _ => by kernel_rfl,
  t70 := by kernel_rfl,
  a70 := fun _ => by kernel_rfl,
  z70 := fun _ => by kernel_rfl,
  v70 := fun _ => by kernel_rfl,
  t72 := by kernel_rfl,
  a72 := fun _ => by kernel_rfl,
  z72 := fun _ => by kernel_rfl,
  v72 := fun _ => by kernel_rfl,
  t75 := by kernel_rfl,
  a75 := fun _ => by kernel_rfl,
  z75 := fun _ => by kernel_rfl,
  v75 := fun _ => by kernel_rfl,
  t76 := by kernel_rfl,
  a76 := fun _ => by kernel_rfl,
  z76 := fun _ => by kernel_rfl,
  v76 := fun _ => by kernel_rfl,
  t127 := by kernel_rfl,
  a127 := fun _ => by kernel_rfl,
  z127 := fun _ => by kernel_rfl,
  v127 := fun _ => by kernel_rfl,
  t164 := by kernel_rfl,
  a164 := fun _ => by kernel_rfl,
  z164 := fun _ => by kernel_rfl,
  v164 := fun _ => by kernel_rfl }

def renn137 : Go.Shelf.Ren := ⟨fun x => (al [(137, 93), (217, 113), (266, 121)] x).getD 0, fun x => (al [(3, 3), (5, 5), (9, 9)] x).getD 0, fun x => (al [] x).getD 0⟩
theorem lays137 : Go.Proofs.Lays.n137 Tryd.prog renn137 := {
  mixed := by kernel_rfl,
  f137 := by kernel_rfl,
  f217 := by kernel_rfl,
  f266 := by kernel_rfl,
  t3 := by kernel_rfl,
  a3 := fun _ => by kernel_rfl,
  z3 := fun _ => by kernel_rfl,
  v3 := fun _ => by kernel_rfl,
  t5 := by kernel_rfl,
  a5 := fun _ => by kernel_rfl,
  z5 := fun _ => by kernel_rfl,
  v5 := fun _ => by kernel_rfl,
  t9 := by kernel_rfl,
  a9 := fun _ => by kernel_rfl,
  z9 := fun _ => by kernel_rfl,
  v9 := fun _ => by kernel_rfl }

def renn196 : Go.Shelf.Ren := ⟨fun x => (al [(196, 28), (259, 53)] x).getD 0, fun x => (al [(0, 0), (3, 3), (4, 4), (5, 5), (9, 9), (12, 12), (46, 51), (53, 114), (119, 88), (138, 90), (139, 91)] x).getD 0, fun x => (al [(3, 0), (4, 1)] x).getD 0⟩
theorem lays196 : Go.Proofs.Lays.n196 Tryd.prog renn196 := {
  mixed := by kernel_rfl,
  f196 := by kernel_rfl,
  f259 := by kernel_rfl,
  t0 := by kernel_rfl,
  a0 := fun _ => by kernel_rfl,
  z0 := fun _ => by kernel_rfl,
  v0 := fun _ => by kernel_rfl,
  t3 := by kernel_rfl,
  a3 := fun _ => by kernel_rfl,
  z3 := fun _ => by kernel_rfl,
  v3 := fun _ => by kernel_rfl,
  t4 := by kernel_rfl,
  a4 := fun _ => by kernel_rfl,
  z4 := fun _ => by kernel_rfl,
  v4 := fun _ => by kernel_rfl,
  t5 := by kernel_rfl,
  a5 := fun _ => by kernel_rfl,
  z5 := fun _ => by kernel_rfl,
  v5 := fun _ => by kernel_rfl,
  t9 := by kernel_rfl,
  a9 := fun _ => by kernel_rfl,
  z9 := fun _ => by kernel_rfl,
  v9 := fun _ => by kernel_rfl,
  t12 := by kernel_rfl,
  a12 := fun _ => by kernel_rfl,
  z12 := fun _ => by kernel_rfl,
  v12 := fun _ => by kernel_rfl,
  t46 := by kernel_rfl,
  a46 := fun _ => by kernel_rfl,
  z46 := fun _ => by kernel_rfl,
  v46 := fun _ => by kernel_rfl,
  t53 := by kernel_rfl,
  a53 := fun _ => by kernel_rfl,
  z53 := fun _ => by kernel_rfl,
  v53 := fun _ => by kernel_rfl,
  t119 := by kernel_rfl,
  a119 := fun _ => by kernel_rfl,
  z119 := fun _ => by kernel_rfl,
  t138 := by kernel_rfl,
  a138 := fun _ => by kernel_rfl,
  z138 := fun _ => by kernel_rfl,
  v138 := fun _ => by kernel_rfl,
  t139 := by kernel_rfl,
  a139 := fun _ => by kernel_rfl,
  z139 := fun _ => by kernel_rfl,
  v139 := fun _ => by kernel_rfl,
  g3 := by kernel_rfl,
  g4 := by kernel_rfl }

def renn197 : Go.Shelf.Ren := ⟨fun x => (al [(197, 43), (260, 70)] x).getD 0, fun x => (al [(0, 0), (3, 3), (4, 4), (5, 5), (9, 9), (21, 21), (46, 51), (105, 76), (119, 88), (138, 90), (139, 91)] x).getD 0, fun x => (al [(3, 0), (4, 1)] x).getD 0⟩
theorem lays197 : Go.Proofs.Lays.n197 Tryd.prog renn197 := {
  mixed := by kernel_rfl,
  f197 := by kernel_rfl,
  f260 := by kernel_rfl,
  t0 := by kernel_rfl,
  a0 := fun _ => by kernel_rfl,
  z0 := fun _ => by kernel_rfl,
  v0 := fun _ => by kernel_rfl,
  t3 := by kernel_rfl,
  a3 := fun _ => by kernel_rfl,
  z3 := fun _ => by kernel_rfl,
  v3 := fun _ => by kernel_rfl,
  t4 := by kernel_rfl,
  a4 := fun _ => by kernel_rfl,
  z4 := fun _ => by kernel_rfl,
  v4 := fun _ => by kernel_rfl,
  t5 := by kernel_rfl,
  a5 := fun _ => by kernel_rfl,
  z5 := fun _ => by kernel_rfl,
  v5 := fun _ => by kernel_rfl,
  t9 := by kernel_rfl,
  a9 := fun _ => by kernel_rfl,
  z9 := fun _ => by kernel_rfl,
  v9 := fun _ => by kernel_rfl,
  t21 := by kernel_rfl,
  a21 := fun _ => by kernel_rfl,
  z21 := fun _ => by kernel_rfl,
  v21 := fun _ => by kernel_rfl,
  t46 := by kernel_rfl,
  a46 := fun _ => by kernel_rfl,
  z46 := fun _ => by kernel_rfl,
  v46 := fun _ => by kernel_rfl,
  t105 := by kernel_rfl,
  a105 := fun _ => by kernel_rfl,
  z105 := fun _ => by kernel_rfl,
  v105 := fun _ => by kernel_rfl,
  t119 := by kernel_rfl,
  a119 := fun _ => by kernel_rfl,
  z119 := fun _ => by kernel_rfl,
  t138 := by kernel_rfl,
  a138 := fun _ => by kernel_rfl,
  z138 := fun _ => by kernel_rfl,
  v138 := fun _ => by kernel_rfl,
  t139 := by kernel_rfl,
  a139 := fun _ => by kernel_rfl,
  z139 := fun _ => by kernel_rfl,
  v139 := fun _ => by kernel_rfl,
  g3 := by kernel_rfl,
  g4 := by kernel_rfl }

theorem extra156 : Go.Proofs.Builder.Extra Tryd.prog renn156 := {
  sizeBuilder := by kernel_rfl, liesBuilder := by kernel_rfl,
  t5 := by kernel_rfl, a5 := fun _ => by kernel_rfl, z5 := fun _ => by kernel_rfl, v5 := fun _ => by kernel_rfl, infoByte := by kernel_rfl, cellsByte := by kernel_rfl, sizeByte := by kernel_rfl, neB5 := by decide }
theorem tab_ok (g : FuncId) (fn : AFunc) (h : tabx g = some fn) : fnOk Tryd.prog kn g fn = true := by
  unfold tabx at h
  cases hb : isTold g with
  | true => rw [hb] at h; cases h
  | false =>
    rw [hb] at h
    exact List.all_eq_true.1 lst_ok (g, fn) (al_mem h)
set_option maxRecDepth 100000 in
theorem good : Ai.Good Tryd.prog kn tabx told where
  known := fun f hf v w => by
    have : f = 82 := by simpa [kn] using hf
    subst this
    show (callFunc 82 #[v]).run Tryd.prog w = .ok (.value v) w
    kernel_rfl
  tab := tab_ok
  prim := fun gl hgl g args v h => by
    have hgl : gl = gl0 := hgl
    subst hgl
    replace h : xf g args = some v := h
    unfold xf at h
    cases hb : Nat.beq g 66 with
    | true =>
      rw [hb] at h
      have := Nat.eq_of_beq_eq_true hb
      subst this
      have := join_ok (ρ := renn156) lays156 extra156 lays156.f156 (by kernel_rfl) (by kernel_rfl) h
      exact ⟨this.1, fun G W cs hv _ => this.2 G W cs hv⟩
    | false =>
      rw [hb] at h
      simp only [cond_false] at h
      cases hb2 : Nat.beq g 93 with
      | true =>
        rw [hb2] at h
        have := Nat.eq_of_beq_eq_true hb2
        subst this
        have := index_ok (ρ := renn137) lays137 lays137.f137 (by kernel_rfl) (by kernel_rfl) h
        exact ⟨this.1, fun G W cs hv _ => this.2 G W cs hv⟩
      | false =>
        rw [hb2] at h
        simp only [cond_false] at h
        cases hb3 : Nat.beq g 43 with
        | true =>
          rw [hb3] at h
          have := Nat.eq_of_beq_eq_true hb3
          subst this
          have := decode_ok (ρ := renn197) lays197 lays197.f197 (by kernel_rfl) (by kernel_rfl) h
          exact ⟨this.1, fun G W cs hv hi => this.2 G W cs hv (tabs_of (hi 0).2.1 (hi 1).2.1)⟩
        | false =>
          rw [hb3] at h
          simp only [cond_false] at h
          cases hb4 : Nat.beq g 28 with
          | true =>
            rw [hb4] at h
            have := Nat.eq_of_beq_eq_true hb4
            subst this
            simp only [cond_true] at h
            unfold fnValid at h
            split at h
            · split at h
              · rename_i l hl
                cases h
                exact ⟨rfl, fun G W cs hv hi => valid_ok (ρ := renn196) lays196 lays196.f196 (by kernel_rfl) (by kernel_rfl) l hl G W cs hv (tabs_of (hi 0).2.1 (hi 1).2.1)⟩
              · cases h
            · cases h
          | false => rw [hb4] at h; cases h
/-- A rune's digits to the base 16, where it is told so. -/
def hexD (n : Nat) : UInt8 := if n < 10 then UInt8.ofNat (48 + n) else UInt8.ofNat (87 + n)
def hexs (c : Nat) : List UInt8 := if c < 16 then [hexD c] else if c < 256 then [hexD (c / 16), hexD (c % 16)] else [hexD (c / 4096), hexD (c / 256 % 16), hexD (c / 16 % 16), hexD (c % 16)]
def ctl : List Nat := 127 :: 65533 :: List.range 32
end Go.Proofs.YtbhclhgljnoioaaDoor
