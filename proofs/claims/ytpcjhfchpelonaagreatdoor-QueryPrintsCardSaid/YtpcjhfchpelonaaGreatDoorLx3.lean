/- What is told of the library's functions, and of the package variables. -/
import Derived.Test.YtpcjhfchpelonaaGreatDoorAi12
import Derived.Test.YtpcjhfchpelonaaGreatDoorAi11
import Derived.Test.YtpcjhfchpelonaaGreatDoorAi13
import Derived.Test.YtpcjhfchpelonaaGreatDoorTab
import Derived.KernelRfl
import Derived.WalkKit
set_option linter.unusedSimpArgs false
set_option linter.unusedVariables false
namespace Go.Proofs.YtpcjhfchpelonaaGreatDoor
open Ai Go.Shelf
theorem M_open {c c' : AC} (h : c = c') {xf : FuncId → List V → Option V} {kz : Nat → List Nat} {k : List Fr} {st : St} {Q : AEx → St → Prop} : M xf kz (.code c) k st Q = M xf kz (.code c') k st Q := by rw [h]
theorem Hp_open {c c' : AC} (h : c = c') {xf : FuncId → List V → Option V} {xh : FuncId → List V → H → Option (V × H)} {kz : Nat → List Nat} {k : List Fr} {st : St} {Q : AEx → St → Prop} : Hp.M xf xh kz (.code c) k st Q = Hp.M xf xh kz (.code c') k st Q := by rw [h]
def fnItoa (a : List V) : Option V := match a with
 | [.i .i64 n] => if -9223372036854775808 ≤ n ∧ n ≤ 9223372036854775807 then some (.s (Lib.itoa n)) else none
 | _ => none
theorem pow_cons : Lib.pow10Tab = 1 :: Lib.pow10Tab.tail := by decide
def isTold (g : FuncId) : Bool := Nat.beq g 38 || Nat.beq g 39 || Nat.beq g 160 || Nat.beq g 101
def xf (g : FuncId) (a : List V) : Option V := bif Nat.beq g 38 then fnItoa a else bif Nat.beq g 39 then joinV a else bif Nat.beq g 160 then indexV a else bif Nat.beq g 101 then decV a else none
def tabx (g : FuncId) : Option AFunc := bif isTold g then none else tab g
def db64 : List Int := [0, 1, 56, 2, 57, 49, 28, 3, 61, 58, 42, 50, 38, 29, 17, 4, 62, 47, 59, 36, 45, 43, 51, 22, 53, 39, 33, 30, 24, 18, 12, 5, 63, 55, 48, 27, 60, 41, 37, 16, 46, 35, 44, 21, 52, 32, 23, 11, 54, 26, 40, 15, 34, 20, 31, 10, 25, 14, 19, 9, 13, 8, 7, 6]
def gl0 (g : Nat) : List V := if g = 1 then ints .u64 Lib.pow10Tab else if g = 2 then ints .u8 firstV else if g = 3 then ints .u8 acceptV else if g = 5 then ints .u8 db64 else []
def told : Prims := ⟨fun gl => gl = gl0, fun g a v => xf g a = some v⟩
def renn156 : Go.Shelf.Ren := ⟨fun x => (al [(156, 39), (165, 71), (166, 72), (169, 73), (240, 97), (241, 98), (276, 132), (277, 133)] x).getD 0, fun x => (al [(0, 0), (3, 3), (4, 4), (5, 5), (9, 9), (20, 20), (31, 58), (37, 128), (70, 127), (72, 130), (75, 133), (76, 134), (80, 136), (127, 168), (164, 212)] x).getD 0, fun x => (al [] x).getD 0⟩
theorem lays156 : Go.Proofs.Lays.n156 Tryz.prog renn156 := {
 mixed := by kernel_rfl,
 f156 := by kernel_rfl,
 f165 := by kernel_rfl,
 f166 := by kernel_rfl,
 f169 := by kernel_rfl,
 f240 := by kernel_rfl,
 f241 := by kernel_rfl,
 f276 := by kernel_rfl,
 f277 := by kernel_rfl,
 t0 := by kernel_rfl,
 a0 := fun _ => by kernel_rfl,
 z0 := fun _ => by kernel_rfl,
 v0 := fun _ => by kernel_rfl,
 t3 := by kernel_rfl,
 a3 := fun _ => by kernel_rfl,
 z3 := fun _ => by kernel_rfl,
 v3 := fun _ => by kernel_rfl,
 t4 := by kernel_rfl,
 a4 := fun _ => by kernel_rfl,
 z4 := fun _ => by kernel_rfl,
 v4 := fun _ => by kernel_rfl,
 t9 := by kernel_rfl,
 a9 := fun _ => by kernel_rfl,
 z9 := fun _ => by kernel_rfl,
 v9 := fun _ => by kernel_rfl,
 t20 := by kernel_rfl,
 a20 := fun _ => by kernel_rfl,
 z20 := fun _ => by kernel_rfl,
 v20 := fun _ => by kernel_rfl,
 t31 := by kernel_rfl,
 a31 := fun _ => by kernel_rfl,
 z31 := fun _ => by kernel_rfl,
 v31 := fun _ => by kernel_rfl,
 t37 := by kernel_rfl,
 a37 := fun _ => by kernel_rfl,
 z37 := fun _ => by kernel_rfl,
 v37 := fun _ => by kernel_rfl,
 t70 := by kernel_rfl,
 a70 := fun _ => by kernel_rfl,
 z70 := fun _ => by kernel_rfl,
 v70 := fun _ => by kernel_rfl,
 t72 := by kernel_rfl,
 a72 := fun _ => by kernel_rfl,
 z72 := fun _ => by kernel_rfl,
 v72 := fun _ => by kernel_rfl,
 t75 := by kernel_rfl,
 a75 := fun _ => by kernel_rfl,
 z75 := fun _ => by kernel_rfl,
 v75 := fun _ => by kernel_rfl,
 t76 := by kernel_rfl,
 a76 := fun _ => by kernel_rfl,
 z76 := fun _ => by kernel_rfl,
 v76 := fun _ => by kernel_rfl,
 t127 := by kernel_rfl,
 a127 := fun _ => by kernel_rfl,
 z127 := fun _ => by kernel_rfl,
 v127 := fun _ => by kernel_rfl,
 t164 := by kernel_rfl,
 a164 := fun _ => by kernel_rfl,
 z164 := fun _ => by kernel_rfl,
 v164 := fun _ => by kernel_rfl }

def renn137 : Go.Shelf.Ren := ⟨fun x => (al [(137, 160), (217, 177), (266, 181)] x).getD 0, fun x => (al [(3, 3), (5, 5), (9, 9)] x).getD 0, fun x => (al [] x).getD 0⟩
theorem lays137 : Go.Proofs.Lays.n137 Tryz.prog renn137 := {
 mixed := by kernel_rfl,
 f137 := by kernel_rfl,
 f217 := by kernel_rfl,
 f266 := by kernel_rfl,
 t3 := by kernel_rfl,
 a3 := fun _ => by kernel_rfl,
 z3 := fun _ => by kernel_rfl,
 v3 := fun _ => by kernel_rfl,
 t5 := by kernel_rfl,
 a5 := fun _ => by kernel_rfl,
 z5 := fun _ => by kernel_rfl,
 v5 := fun _ => by kernel_rfl,
 t9 := by kernel_rfl,
 a9 := fun _ => by kernel_rfl,
 z9 := fun _ => by kernel_rfl,
 v9 := fun _ => by kernel_rfl }

def renn197 : Go.Shelf.Ren := ⟨fun x => (al [(197, 101), (260, 135)] x).getD 0, fun x => (al [(0, 0), (3, 3), (4, 4), (5, 5), (9, 9), (21, 21), (46, 196), (105, 169), (119, 234), (138, 236), (139, 237)] x).getD 0, fun x => (al [(3, 2), (4, 3)] x).getD 0⟩
theorem lays197 : Go.Proofs.Lays.n197 Tryz.prog renn197 := {
 mixed := by kernel_rfl,
 f197 := by kernel_rfl,
 f260 := by kernel_rfl,
 t0 := by kernel_rfl,
 a0 := fun _ => by kernel_rfl,
 z0 := fun _ => by kernel_rfl,
 v0 := fun _ => by kernel_rfl,
 t3 := by kernel_rfl,
 a3 := fun _ => by kernel_rfl,
 z3 := fun _ => by kernel_rfl,
 v3 := fun _ => by kernel_rfl,
 t4 := by kernel_rfl,
 a4 := fun _ => by kernel_rfl,
 z4 := fun _ => by kernel_rfl,
 v4 := fun _ => by kernel_rfl,
 t5 := by kernel_rfl,
 a5 := fun _ => by kernel_rfl,
 z5 := fun _ => by kernel_rfl,
 v5 := fun _ => by kernel_rfl,
 t9 := by kernel_rfl,
 a9 := fun _ => by kernel_rfl,
 z9 := fun _ => by kernel_rfl,
 v9 := fun _ => by kernel_rfl,
 t21 := by kernel_rfl,
 a21 := fun _ => by kernel_rfl,
 z21 := fun _ => by kernel_rfl,
 v21 := fun _ => by kernel_rfl,
 t46 := by kernel_rfl,
 a46 := fun _ => by kernel_rfl,
 z46 := fun _ => by kernel_rfl,
 v46 := fun _ => by kernel_rfl,
 t105 := by kernel_rfl,
 a105 := fun _ => by kernel_rfl,
 z105 := fun _ => by kernel_rfl,
 v105 := fun _ => by kernel_rfl,
 t119 := by kernel_rfl,
 a119 := fun _ => by kernel_rfl,
 z119 := fun _ => by kernel_rfl,
 t138 := by kernel_rfl,
 a138 := fun _ => by kernel_rfl,
 z138 := fun _ => by kernel_rfl,
 v138 := fun _ => by kernel_rfl,
 t139 := by kernel_rfl,
 a139 := fun _ => by kernel_rfl,
 z139 := fun _ => by kernel_rfl,
 v139 := fun _ => by kernel_rfl,
 g3 := by kernel_rfl,
 g4 := by kernel_rfl }

def renn171 : Go.Shelf.Ren := ⟨fun x => (al [(129, 152), (171, 38), (243, 70), (246, 96), (283, 128), (284, 129), (285, 130), (286, 131), (317, 156), (318, 157), (319, 158), (320, 159), (337, 175), (338, 176)] x).getD 0, fun x => (al [(0, 0), (2, 2), (3, 3), (4, 4), (5, 5), (9, 9), (20, 20), (37, 128), (46, 196), (51, 227), (53, 197), (171, 207), (173, 210), (212, 231), (213, 232), (232, 250), (233, 251)] x).getD 0, fun x => (al [(17, 1), (18, 4), (19, 5)] x).getD 0⟩
theorem lays171 : Go.Proofs.Lays.n171 Tryz.prog renn171 := {
 mixed := by kernel_rfl,
 f129 := by kernel_rfl,
 f171 := by kernel_rfl,
 f243 := by kernel_rfl,
 f246 := by kernel_rfl,
 f283 := by kernel_rfl,
 f284 := by kernel_rfl,
 f285 := by kernel_rfl,
 f286 := by kernel_rfl,
 f317 := by kernel_rfl,
 f318 := by kernel_rfl,
 f319 := by kernel_rfl,
 f320 := by kernel_rfl,
 f337 := by kernel_rfl,
 f338 := by kernel_rfl,
 t0 := by kernel_rfl,
 a0 := fun _ => by kernel_rfl,
 z0 := fun _ => by kernel_rfl,
 v0 := fun _ => by kernel_rfl,
 t2 := by kernel_rfl,
 a2 := fun _ => by kernel_rfl,
 z2 := fun _ => by kernel_rfl,
 v2 := fun _ => by kernel_rfl,
 t3 := by kernel_rfl,
 a3 := fun _ => by kernel_rfl,
 z3 := fun _ => by kernel_rfl,
 v3 := fun _ => by kernel_rfl,
 t4 := by kernel_rfl,
 a4 := fun _ => by kernel_rfl,
 z4 := fun _ => by kernel_rfl,
 v4 := fun _ => by kernel_rfl,
 t5 := by kernel_rfl,
 a5 := fun _ => by kernel_rfl,
 z5 := fun _ => by kernel_rfl,
 v5 := fun _ => by kernel_rfl,
 t9 := by kernel_rfl,
 a9 := fun _ => by kernel_rfl,
 z9 := fun _ => by kernel_rfl,
 v9 := fun _ => by kernel_rfl,
 t20 := by kernel_rfl,
 a20 := fun _ => by kernel_rfl,
 z20 := fun _ => by kernel_rfl,
 v20 := fun _ => by kernel_rfl,
 t37 := by kernel_rfl,
 a37 := fun _ => by kernel_rfl,
 z37 := fun _ => by kernel_rfl,
 v37 := fun _ => by kernel_rfl,
 t46 := by kernel_rfl,
 a46 := fun _ => by kernel_rfl,
 z46 := fun _ => by kernel_rfl,
 v46 := fun _ => by kernel_rfl,
 t51 := by kernel_rfl,
 a51 := fun _ => by kernel_rfl,
 z51 := fun _ => by kernel_rfl,
 v51 := fun _ => by kernel_rfl,
 t53 := by kernel_rfl,
 a53 := fun _ => by kernel_rfl,
 z53 := fun _ => by kernel_rfl,
 v53 := fun _ => by kernel_rfl,
 t171 := by kernel_rfl,
 a171 := fun _ => by kernel_rfl,
 z171 := fun _ => by kernel_rfl,
 v171 := fun _ => by kernel_rfl,
 t173 := by kernel_rfl,
 a173 := fun _ => by kernel_rfl,
 z173 := fun _ => by kernel_rfl,
 v173 := fun _ => by kernel_rfl,
 t212 := by kernel_rfl,
 a212 := fun _ => by kernel_rfl,
 z212 := fun _ => by kernel_rfl,
 v212 := fun _ => by kernel_rfl,
 t213 := by kernel_rfl,
 a213 := fun _ => by kernel_rfl,
 z213 := fun _ => by kernel_rfl,
 t232 := by kernel_rfl,
 a232 := fun _ => by kernel_rfl,
 z232 := fun _ => by kernel_rfl,
 v232 := fun _ => by kernel_rfl,
 t233 := by kernel_rfl,
 a233 := fun _ => by kernel_rfl,
 z233 := fun _ => by kernel_rfl,
 v233 := fun _ => by kernel_rfl,
 g17 := by kernel_rfl,
 g18 := by kernel_rfl,
 g19 := by kernel_rfl }
theorem laysM171 : Go.Proofs.LaysM.n171 Tryz.prog renn171 := { lays171 with
 i0 := by kernel_rfl,
 i2 := by kernel_rfl,
 i3 := by kernel_rfl,
 i4 := by kernel_rfl,
 i5 := by kernel_rfl,
 i9 := by kernel_rfl,
 i20 := by kernel_rfl,
 i37 := by kernel_rfl,
 i46 := by kernel_rfl,
 i51 := by kernel_rfl,
 i53 := by kernel_rfl,
 i171 := by kernel_rfl,
 i173 := by kernel_rfl,
 i212 := by kernel_rfl,
 i232 := by kernel_rfl,
 i233 := by kernel_rfl,
 m17 := by kernel_rfl,
 m18 := by kernel_rfl,
 m19 := by kernel_rfl }

theorem extra156 : Go.Proofs.Builder.Extra Tryz.prog renn156 := {
 sizeBuilder := by kernel_rfl, liesBuilder := by kernel_rfl,
 t5 := by kernel_rfl, a5 := fun _ => by kernel_rfl, z5 := fun _ => by kernel_rfl, v5 := fun _ => by kernel_rfl, infoByte := by kernel_rfl, cellsByte := by kernel_rfl, sizeByte := by kernel_rfl, neB5 := by decide }
theorem tab_ok (g : FuncId) (fn : AFunc) (h : tabx g = some fn) : fnOk Tryz.prog kn g fn = true := by
 unfold tabx at h
 cases hb : isTold g with
 | true => rw [hb] at h; cases h
 | false =>
   rw [hb] at h
   exact List.all_eq_true.1 lst_ok (g, fn) (al_mem h)
theorem told_xf : ∀ g args v, xf g args = some v → told.rel g args v := fun _ _ _ h => h
set_option maxRecDepth 100000 in
theorem good : Ai.Good Tryz.prog kn tabx told where
 known := fun f hf v w => by
  have : f = 132 := by simpa [kn] using hf
  subst this
  show (callFunc 132 #[v]).run Tryz.prog w = .ok (.value v) w
  kernel_rfl
 tab := tab_ok
 prim := fun gl hgl g args v h => by
  have hgl : gl = gl0 := hgl
  subst hgl
  replace h : xf g args = some v := h
  unfold xf at h
  cases hb0 : Nat.beq g 38 with
  | true =>
    rw [hb0] at h
    have := Nat.eq_of_beq_eq_true hb0
    subst this
    simp only [cond_true] at h
    unfold fnItoa at h
    split at h
    · split at h
      · rename_i n hl
        cases h
        obtain ⟨h0, h1⟩ := hl
        refine ⟨rfl, fun G W cs hv hi => itoa_ok (ρ := renn171) laysM171 lays171.f171 (by kernel_rfl) (by kernel_rfl) n h0 h1 G W cs hv ?_⟩
        have := hi 1
        rw [show gl0 1 = ints .u64 (1 :: Lib.pow10Tab.tail) from congrArg (ints .u64) pow_cons] at this
        rw [pow_cons]
        exact tab_is this (by kernel_rfl)
      · cases h
    · cases h
  | false =>
  rw [hb0] at h
  simp only [cond_false] at h
  cases hb : Nat.beq g 39 with
  | true =>
    rw [hb] at h
    have := Nat.eq_of_beq_eq_true hb
    subst this
    have := join_ok (ρ := renn156) lays156 extra156 lays156.f156 (by kernel_rfl) (by kernel_rfl) h
    exact ⟨this.1, fun G W cs hv _ => this.2 G W cs hv⟩
  | false =>
    rw [hb] at h
    simp only [cond_false] at h
    cases hb2 : Nat.beq g 160 with
    | true =>
      rw [hb2] at h
      have := Nat.eq_of_beq_eq_true hb2
      subst this
      have := index_ok (ρ := renn137) lays137 lays137.f137 (by kernel_rfl) (by kernel_rfl) h
      exact ⟨this.1, fun G W cs hv _ => this.2 G W cs hv⟩
    | false =>
      rw [hb2] at h
      simp only [cond_false] at h
      cases hb3 : Nat.beq g 101 with
      | true =>
        rw [hb3] at h
        have := Nat.eq_of_beq_eq_true hb3
        subst this
        have := decode_ok (ρ := renn197) lays197 lays197.f197 (by kernel_rfl) (by kernel_rfl) h
        exact ⟨this.1, fun G W cs hv hi => this.2 G W cs hv (tabs_of (hi 2).2.1 (hi 3).2.1)⟩
      | false => rw [hb3] at h; cases h
def hexD (n : Nat) : UInt8 := if n < 10 then UInt8.ofNat (48 + n) else UInt8.ofNat (87 + n)
def hexs (c : Nat) : List UInt8 := if c < 16 then [hexD c] else if c < 256 then [hexD (c / 16), hexD (c % 16)] else [hexD (c / 4096), hexD (c / 256 % 16), hexD (c / 16 % 16), hexD (c % 16)]
def ctl : List Nat := 127 :: 65533 :: List.range 32
end Go.Proofs.YtpcjhfchpelonaaGreatDoor
set_option linter.unusedSimpArgs false
set_option linter.unusedVariables false
namespace Go.Proofs.YtpcjhfchpelonaaGreatDoor
open Nat (reduceMul reduceAdd reduceSub reduceEqDiff reduceLeDiff reduceLT)
open Ai
def noX (_ : FuncId) (_ : List V) : Option V := none
theorem tells_noX : Tells tabx told noX := fun _ _ _ h => by cases h
def noY (_ : FuncId) (_ : List V) (_ : H) : Option (V × H) := none
theorem tells_noY : Hp.TellsI tabx told noY := fun _ _ _ _ _ h => by cases h

theorem UH97 : type_of% (@Hp_open _ _ B97.eq_1) := @Hp_open _ _ B97.eq_1
def kz97 (_ : Nat) : List Nat := []
theorem w_cc_new (nx : Nat) (obs : List (Nat × Ai.Obj)) (nt : Nat) (tips : List (Nat × (Nat × TypeId))) (id : Nat) (s : V) (ho : al obs id = some (Ai.Obj.cells 130 [.nilp, s])) (gl : Nat → List V) :
  Hp.M noX noY (kz97) (.code B97) [] (St.init gl 5 [.p id 0] ⟨nx, obs, nt, tips⟩)
   (Hp.FinI [] (.tup []) ⟨nx, alSet obs id (.cells 130 [.p id 0, s]), nt, tips⟩) := by
 rw [UH97]
 have hl : 0 < [V.nilp, s].length := by simp
 simp only [ho, go_sem, reduceIte, reduceMul, reduceAdd, reduceSub, reduceEqDiff, reduceLeDiff, reduceLT]
theorem w_cc_old (nx : Nat) (obs : List (Nat × Ai.Obj)) (nt : Nat) (tips : List (Nat × (Nat × TypeId))) (id : Nat) (s : V) (ho : al obs id = some (Ai.Obj.cells 130 [.p id 0, s])) (gl : Nat → List V) :
  Hp.M noX noY (kz97) (.code B97) [] (St.init gl 5 [.p id 0] ⟨nx, obs, nt, tips⟩)
   (Hp.FinI [] (.tup []) ⟨nx, obs, nt, tips⟩) := by
 rw [UH97]
 simp only [ho, go_sem, reduceIte, reduceMul, reduceAdd, reduceSub, reduceEqDiff, reduceLeDiff, reduceLT]

def H_cc (a : List V) (h : H) : Option (V × H) := match a with
 | [.p id 0] => match al h.objs id with
   | some (.cells ty [.nilp, s]) => if ty = 130 then some (.tup [], ⟨h.next, alSet h.objs id (.cells 130 [.p id 0, s]), h.nt, h.tips⟩) else none
   | some (.cells ty [.p i 0, s]) => if ty = 130 ∧ i = id then some (.tup [], h) else none
   | _ => none
 | _ => none
theorem i_cc : ∀ a h v h', H_cc a h = some (v, h') → Hp.CompI tabx told 97 a h v h' := fun a h v h' e => by
 unfold H_cc at e
 split at e
 · rename_i id
   obtain ⟨nx, obs, nt, tips⟩ := h
   simp only at e
   split at e
   · rename_i ty s ho
     split at e
     · rename_i hy
       subst hy
       cases e
       exact Hp.compI_of tells_noX tells_noY (fn := af97) rfl (Nat.le_of_ble_eq_true rfl) fun gl => w_cc_new nx obs nt tips id s ho gl
     · cases e
   · rename_i ty i s ho
     split at e
     · rename_i hy
       obtain ⟨rfl, rfl⟩ := hy
       cases e
       exact Hp.compI_of tells_noX tells_noY (fn := af97) rfl (Nat.le_of_ble_eq_true rfl) fun gl => w_cc_old nx obs nt tips _ s ho gl
     · cases e
   · cases e
 · cases e
theorem H_cc_new (nx : Nat) (obs : List (Nat × Ai.Obj)) (nt : Nat) (tips : List (Nat × (Nat × TypeId))) (id : Nat) (s : V) (ho : al obs id = some (Ai.Obj.cells 130 [.nilp, s])) :
  H_cc [.p id 0] ⟨nx, obs, nt, tips⟩ = some (.tup [], ⟨nx, alSet obs id (.cells 130 [.p id 0, s]), nt, tips⟩) := by simp [H_cc, ho]
theorem H_cc_old (nx : Nat) (obs : List (Nat × Ai.Obj)) (nt : Nat) (tips : List (Nat × (Nat × TypeId))) (id : Nat) (s : V) (ho : al obs id = some (Ai.Obj.cells 130 [.p id 0, s])) :
  H_cc [.p id 0] ⟨nx, obs, nt, tips⟩ = some (.tup [], ⟨nx, obs, nt, tips⟩) := by simp [H_cc, ho]

/-! ### Impure calls, function by function -/
def ys : List (FuncId × (List V → H → Option (V × H))) → FuncId → List V → H → Option (V × H)
 | [], _, _, _ => none
 | (g, F) :: r, f, a, h => bif Nat.beq f g then F a h else ys r f a h
theorem ys_hit (g : FuncId) (F : List V → H → Option (V × H)) (r : List (FuncId × (List V → H → Option (V × H)))) (a : List V) (h : H) : ys ((g, F) :: r) g a h = F a h := by simp [ys]
theorem ys_miss (g f : FuncId) (F : List V → H → Option (V × H)) (r : List (FuncId × (List V → H → Option (V × H)))) (a : List V) (h : H) (hn : f ≠ g) : ys ((g, F) :: r) f a h = ys r f a h := by
 have : Nat.beq f g = false := by cases hb : Nat.beq f g with | true => exact absurd (Nat.eq_of_beq_eq_true hb) hn | false => rfl
 simp only [ys, this, cond_false]
theorem itells_nil : Hp.TellsI tabx told (ys []) := fun _ _ _ _ _ h => by cases h
theorem itells_cons {g : FuncId} {F : List V → H → Option (V × H)} {r : List (FuncId × (List V → H → Option (V × H)))} (h : ∀ a m v m', F a m = some (v, m') → Hp.CompI tabx told g a m v m') (t : Hp.TellsI tabx told (ys r)) : Hp.TellsI tabx told (ys ((g, F) :: r)) := by
 intro g' a m v m' e
 unfold ys at e
 cases hb : Nat.beq g' g with
 | true =>
   rw [hb] at e
   have := Nat.eq_of_beq_eq_true hb
   subst this
   exact h _ _ _ _ e
 | false =>
   rw [hb] at e
   exact t _ _ _ _ _ e
def Y_cc := ys [(97, H_cc)]
theorem t_cc : Hp.TellsI tabx told Y_cc := itells_cons i_cc itells_nil

/-! ### WriteByte -/
theorem UH124 : type_of% (@Hp_open _ _ B124.eq_1) := @Hp_open _ _ B124.eq_1
def kz124 (_ : Nat) : List Nat := []
theorem w_WB_new (nx : Nat) (obs : List (Nat × Ai.Obj)) (nt : Nat) (tips : List (Nat × (Nat × TypeId))) (id : Nat) (b : Int) (ho : al obs id = some (Ai.Obj.cells 130 [.nilp, .sl [] 0 .nil])) (gl : Nat → List V) :
  Hp.M noX Y_cc (kz124) (.code B124) [] (St.init gl 5 [.p id 0, .i .u8 b] ⟨nx, obs, nt, tips⟩)
   (Hp.FinI [.tmp 4] .nili ⟨nx, alSet obs id (.cells 130 [.p id 0, .sl [.i .u8 b] 1 (.own nt)]), nt + 1, (nt, (1, 5)) :: tips⟩) := by
 rw [UH124]
 have e1 : 1 ≤ most := by unfold most; omega
 simp only [Y_cc, ys_hit, H_cc_new _ _ _ _ _ _ ho, e1, go_sem, reduceIte, reduceMul, reduceAdd, reduceSub, reduceEqDiff, reduceLeDiff, reduceLT]
theorem w_WB_old (nx : Nat) (obs : List (Nat × Ai.Obj)) (nt : Nat) (tips : List (Nat × (Nat × TypeId))) (id : Nat) (b : Int) (xs : List V) (n t : Nat) (hx : xs.length = n) (hm : n + 1 ≤ most) (ht : al tips t = some (n, 5))
  (ho : al obs id = some (Ai.Obj.cells 130 [.p id 0, .sl xs n (.own t)])) (gl : Nat → List V) :
  Hp.M noX Y_cc (kz124) (.code B124) [] (St.init gl 5 [.p id 0, .i .u8 b] ⟨nx, obs, nt, tips⟩)
   (Hp.FinI [.tmp 4] .nili ⟨nx, alSet obs id (.cells 130 [.p id 0, .sl (xs ++ [.i .u8 b]) (n + 1) (.own t)]), nt, alSet tips t (n + 1, 5)⟩) := by
 rw [UH124]
 simp only [Y_cc, ys_hit, H_cc_old _ _ _ _ _ _ ho, ho, hx, hm, ht, go_sem, reduceIte, reduceMul, reduceAdd, reduceSub, reduceEqDiff, reduceLeDiff, reduceLT]
abbrev BI := BInv 130 5
open Classical in
noncomputable def H_WB (a : List V) (h : H) : Option (V × H) := match a with
 | [.p id 0, .i .u8 (Int.ofNat n)] => if n < 256 ∧ ∃ bs, BI h id bs ∧ bs.length + 1 ≤ most then (bwr 5 id [.i .u8 (Int.ofNat n)] h).map fun m => (.nili, m) else none
 | _ => none
theorem i_WB : ∀ a h v h', H_WB a h = some (v, h') → Hp.CompI tabx told 124 a h v h' := fun a h v h' e => by
 unfold H_WB at e
 split at e
 · rename_i id n
   obtain ⟨nx, obs, nt, tips⟩ := h
   split at e
   · rename_i hc
     obtain ⟨_, bs, hi, hm⟩ := hc
     rcases hi with ⟨rfl, ho⟩ | ⟨t, ho, ht, hn⟩
     · simp only at ho
       unfold bwr at e
       simp only [ho, Option.map_some, Option.some.injEq, Prod.mk.injEq] at e
       obtain ⟨rfl, rfl⟩ := e
       exact Hp.compI_of tells_noX t_cc (fn := af124) rfl (Nat.le_of_ble_eq_true rfl) fun gl => w_WB_new nx obs nt tips id n ho gl
     · simp only at ho ht
       unfold bwr at e
       simp only [ho, Option.map_some, Option.some.injEq, Prod.mk.injEq] at e
       obtain ⟨rfl, rfl⟩ := e
       exact Hp.compI_of tells_noX t_cc (fn := af124) rfl (Nat.le_of_ble_eq_true rfl) fun gl => w_WB_old nx obs nt tips id n _ _ t (List.length_map ..) hm ht ho gl
   · cases e
 · cases e
theorem H_WB1 {h : H} {id : Nat} {bs : List UInt8} (hi : BI h id bs) (hm : bs.length + 1 ≤ most) (c : UInt8) : ∃ h', H_WB [.p id 0, .i .u8 (c.toNat : Int)] h = some (.nili, h') ∧ BI h' id (bs ++ [c]) ∧ h'.next = h.next := by
 obtain ⟨h', e, hi', hn⟩ := bwr_inv hi [c]
 refine ⟨h', ?_, hi', hn⟩
 have : H_WB [.p id 0, .i .u8 (c.toNat : Int)] h = (bwr 5 id [.i .u8 (c.toNat : Int)] h).map fun m => (.nili, m) := if_pos ⟨c.toNat_lt, bs, hi, hm⟩
 rw [this, show ([.i .u8 (c.toNat : Int)] : List V) = [c].map byteV from rfl, e]
 rfl

/-! ### WriteString -/
theorem allOne_bytes (l : List UInt8) : allOne (l.map byteV) = true := by
 induction l with
 | nil => rfl
 | cons a r ih => simp only [List.map_cons, allOne, byteV, V.one, ih, cond_true]
theorem UH72 : type_of% (@Hp_open _ _ B72.eq_1) := @Hp_open _ _ B72.eq_1
def kz72 (_ : Nat) : List Nat := []
theorem w_WS_new (nx : Nat) (obs : List (Nat × Ai.Obj)) (nt : Nat) (tips : List (Nat × (Nat × TypeId))) (id : Nat) (l : List UInt8) (hl : l.length ≠ 0) (hm : l.length ≤ most) (ho : al obs id = some (Ai.Obj.cells 130 [.nilp, .sl [] 0 .nil])) (gl : Nat → List V) :
  Hp.M noX Y_cc (kz72) (.code B72) [] (St.init gl 5 [.p id 0, .s l] ⟨nx, obs, nt, tips⟩)
   (Hp.FinI [.tmp 4, .tmp 5] (.tup [.i .i64 l.length, .nili]) ⟨nx, alSet obs id (.cells 130 [.p id 0, .sl (l.map byteV) l.length (.own nt)]), nt + 1, (nt, (l.length, 5)) :: tips⟩) := by
 rw [UH72]
 simp only [Y_cc, ys_hit, H_cc_new _ _ _ _ _ _ ho, allOne_bytes, hl, hm, go_sem, reduceIte, reduceMul, reduceAdd, reduceSub, reduceEqDiff, reduceLeDiff, reduceLT]
theorem w_WS_old (nx : Nat) (obs : List (Nat × Ai.Obj)) (nt : Nat) (tips : List (Nat × (Nat × TypeId))) (id : Nat) (l : List UInt8) (hl : l.length ≠ 0) (xs : List V) (n t : Nat) (hx : xs.length = n) (hm : n + l.length ≤ most) (ht : al tips t = some (n, 5))
  (ho : al obs id = some (Ai.Obj.cells 130 [.p id 0, .sl xs n (.own t)])) (gl : Nat → List V) :
  Hp.M noX Y_cc (kz72) (.code B72) [] (St.init gl 5 [.p id 0, .s l] ⟨nx, obs, nt, tips⟩)
   (Hp.FinI [.tmp 4, .tmp 5] (.tup [.i .i64 l.length, .nili]) ⟨nx, alSet obs id (.cells 130 [.p id 0, .sl (xs ++ l.map byteV) (n + l.length) (.own t)]), nt, alSet tips t (n + l.length, 5)⟩) := by
 rw [UH72]
 simp only [Y_cc, ys_hit, H_cc_old _ _ _ _ _ _ ho, ho, allOne_bytes, hl, hx, hm, ht, go_sem, reduceIte, reduceMul, reduceAdd, reduceSub, reduceEqDiff, reduceLeDiff, reduceLT]
open Classical in
noncomputable def H_WS (a : List V) (h : H) : Option (V × H) := match a with
 | [.p id 0, .s l] => if l.length ≠ 0 ∧ ∃ bs, BI h id bs ∧ bs.length + l.length ≤ most then (bwr 5 id (l.map byteV) h).map fun m => (.tup [.i .i64 l.length, .nili], m) else none
 | _ => none
theorem i_WS : ∀ a h v h', H_WS a h = some (v, h') → Hp.CompI tabx told 72 a h v h' := fun a h v h' e => by
 unfold H_WS at e
 split at e
 · rename_i id l
   obtain ⟨nx, obs, nt, tips⟩ := h
   split at e
   · rename_i hc
     obtain ⟨hl, bs, hi, hm⟩ := hc
     rcases hi with ⟨rfl, ho⟩ | ⟨t, ho, ht, hn⟩
     · simp only at ho
       unfold bwr at e
       simp only [ho, Option.map_some, Option.some.injEq, Prod.mk.injEq, List.length_map] at e
       obtain ⟨rfl, rfl⟩ := e
       exact Hp.compI_of tells_noX t_cc (fn := af72) rfl (Nat.le_of_ble_eq_true rfl) fun gl => w_WS_new nx obs nt tips id l hl (by simpa using hm) ho gl
     · simp only at ho ht
       unfold bwr at e
       simp only [ho, Option.map_some, Option.some.injEq, Prod.mk.injEq, List.length_map] at e
       obtain ⟨rfl, rfl⟩ := e
       exact Hp.compI_of tells_noX t_cc (fn := af72) rfl (Nat.le_of_ble_eq_true rfl) fun gl => w_WS_old nx obs nt tips id l hl _ _ t (List.length_map ..) hm ht ho gl
   · cases e
 · cases e
theorem H_WS1 {h : H} {id : Nat} {bs : List UInt8} (hi : BI h id bs) (l : List UInt8) (hl : l.length ≠ 0) (hm : bs.length + l.length ≤ most) : ∃ h', H_WS [.p id 0, .s l] h = some (.tup [.i .i64 l.length, .nili], h') ∧ BI h' id (bs ++ l) ∧ h'.next = h.next := by
 obtain ⟨h', e, hi', hn⟩ := bwr_inv hi l
 refine ⟨h', ?_, hi', hn⟩
 have : H_WS [.p id 0, .s l] h = (bwr 5 id (l.map byteV) h).map fun m => (.tup [.i .i64 l.length, .nili], m) := if_pos ⟨hl, bs, hi, hm⟩
 rw [this, e]
 rfl

/-! ### String: a pure reading of the builder's bytes; the memory stays -/
theorem bytesOf_map (l : List UInt8) : bytesOf? (l.map byteV) = some l := by
 induction l with
 | nil => rfl
 | cons a r ih => simp [bytesOf?, byteV, ih]
theorem UH73 : type_of% (@Hp_open _ _ B73.eq_1) := @Hp_open _ _ B73.eq_1
def kz73 (_ : Nat) : List Nat := []
theorem w_BS (nx : Nat) (obs : List (Nat × Ai.Obj)) (nt : Nat) (tips : List (Nat × (Nat × TypeId))) (id : Nat) (c : UInt8) (l : List UInt8) (t : Nat) (hm : l.length + 1 ≤ most) (ht : al tips t = some ((c :: l).length, 5))
  (ho : al obs id = some (Ai.Obj.cells 130 [.p id 0, .sl ((c :: l).map byteV) (c :: l).length (.own t)])) (gl : Nat → List V) :
  Hp.M noX noY (kz73) (.code B73) [] (St.init gl 4 [.p id 0] ⟨nx, obs, nt, tips⟩)
   (Hp.FinI [.tmp 2] (.s (c :: l)) ⟨nx, obs, nt, tips⟩) := by
 rw [UH73]
 have hb := bytesOf_map (c :: l)
 simp only [List.map_cons, List.length_cons, byteV] at ho ht hb
 have h0 : l.length + 1 ≠ 0 := by omega
 have hx : (l.map byteV).length = l.length := List.length_map ..
 simp only [ho, ht, hb, hm, h0, hx, go_sem, reduceIte, reduceMul, reduceAdd, reduceSub, reduceEqDiff, reduceLeDiff, reduceLT]
end Go.Proofs.YtpcjhfchpelonaaGreatDoor
set_option linter.unusedSimpArgs false
set_option linter.unusedVariables false
namespace Go.Proofs.YtpcjhfchpelonaaGreatDoor
open Ai
open Classical in
noncomputable def H_BS (a : List V) (h : H) : Option (V × H) := match a with
 | [.p id 0] => if e : ∃ bs : List UInt8, bs ≠ [] ∧ BI h id bs ∧ bs.length ≤ most then some (.s (Classical.choose e), h) else none
 | _ => none
theorem bi_uniq {h : H} {id : Nat} {a b : List UInt8} (ha : BI h id a) (hb : BI h id b) : a = b := by
 rcases ha with ⟨rfl, h1⟩ | ⟨t, h1, _, _⟩ <;> rcases hb with ⟨rfl, h2⟩ | ⟨u, h2, _, _⟩
 · rfl
 · rw [h1] at h2; simp at h2
 · rw [h1] at h2; simp at h2
 · rw [h1] at h2
   simp only [Option.some.injEq, Ai.Obj.cells.injEq, List.cons.injEq, V.sl.injEq, true_and, and_true] at h2
   have := congrArg bytesOf? h2.1
   rw [bytesOf_map, bytesOf_map] at this
   exact Option.some.inj this
theorem i_BS : ∀ a h v h', H_BS a h = some (v, h') → Hp.CompI tabx told 73 a h v h' := fun a h v h' e => by
 unfold H_BS at e
 split at e
 · rename_i id
   obtain ⟨nx, obs, nt, tips⟩ := h
   split at e
   · rename_i hc
     cases e
     have hs := Classical.choose_spec hc
     generalize Classical.choose hc = bs at hs
     obtain ⟨hne, hi, hm⟩ := hs
     rcases hi with ⟨rfl, ho⟩ | ⟨t, ho, ht, hn⟩
     · exact absurd rfl hne
     · cases bs with
       | nil => exact absurd rfl hne
       | cons c l => exact Hp.compI_of tells_noX tells_noY (fn := af73) rfl (Nat.le_of_ble_eq_true rfl) fun gl => w_BS nx obs nt tips id c l t hm ht ho gl
   · cases e
 · cases e
theorem H_BS1 {h : H} {id : Nat} {bs : List UInt8} (hi : BI h id bs) (hne : bs ≠ []) (hm : bs.length ≤ most) : H_BS [.p id 0] h = some (.s bs, h) := by
 have hc : ∃ bs : List UInt8, bs ≠ [] ∧ BI h id bs ∧ bs.length ≤ most := ⟨bs, hne, hi, hm⟩
 have e : H_BS [.p id 0] h = some (.s (Classical.choose hc), h) := dif_pos hc
 rw [e, bi_uniq (Classical.choose_spec hc).2.1 hi]

/-! ### utf8.AppendRune, of a rune that is one -/
def enc (c : Nat) : List UInt8 := if c < 128 then [UInt8.ofNat c] else if c < 2048 then [UInt8.ofNat (192 + c / 64), UInt8.ofNat (128 + c % 64)]
 else if c < 65536 then [UInt8.ofNat (224 + c / 4096), UInt8.ofNat (128 + c / 64 % 64), UInt8.ofNat (128 + c % 64)]
 else [UInt8.ofNat (240 + c / 262144), UInt8.ofNat (128 + c / 4096 % 64), UInt8.ofNat (128 + c / 64 % 64), UInt8.ofNat (128 + c % 64)]
set_option maxRecDepth 100000 in
theorem or192 : ∀ x : Fin 32, wr .u8 ((BitVec.ofInt IntKind.u8.bits 192 ||| BitVec.ofInt IntKind.u8.bits (x.val : Int)).toNat : Int) = ((192 + x.val : Nat) : Int) := by decide
set_option maxRecDepth 100000 in
theorem or224 : ∀ x : Fin 16, wr .u8 ((BitVec.ofInt IntKind.u8.bits 224 ||| BitVec.ofInt IntKind.u8.bits (x.val : Int)).toNat : Int) = ((224 + x.val : Nat) : Int) := by decide
set_option maxRecDepth 100000 in
theorem or240 : ∀ x : Fin 8, wr .u8 ((BitVec.ofInt IntKind.u8.bits 240 ||| BitVec.ofInt IntKind.u8.bits (x.val : Int)).toNat : Int) = ((240 + x.val : Nat) : Int) := by decide
set_option maxRecDepth 100000 in
theorem or128 : ∀ x : Fin 64, wr .u8 ((BitVec.ofInt IntKind.u8.bits 128 ||| BitVec.ofInt IntKind.u8.bits (x.val : Int)).toNat : Int) = ((128 + x.val : Nat) : Int) := by decide
set_option maxRecDepth 100000 in
theorem and63 : ∀ x : Fin 256, wr .u8 ((BitVec.ofInt IntKind.u8.bits (x.val : Int) &&& BitVec.ofInt IntKind.u8.bits 63).toNat : Int) = ((x.val % 64 : Nat) : Int) := by decide
@[go_sem high] theorem b192 {x : Nat} (h : x < 32) : binI .or .u8 192 (x : Int) = some (.i .u8 ((192 + x : Nat) : Int)) := congrArg (fun z => some (V.i .u8 z)) (or192 ⟨x, h⟩)
@[go_sem high] theorem b224 {x : Nat} (h : x < 16) : binI .or .u8 224 (x : Int) = some (.i .u8 ((224 + x : Nat) : Int)) := congrArg (fun z => some (V.i .u8 z)) (or224 ⟨x, h⟩)
@[go_sem high] theorem b240 {x : Nat} (h : x < 8) : binI .or .u8 240 (x : Int) = some (.i .u8 ((240 + x : Nat) : Int)) := congrArg (fun z => some (V.i .u8 z)) (or240 ⟨x, h⟩)
@[go_sem high] theorem b128 {x : Nat} (h : x < 64) : binI .or .u8 128 (x : Int) = some (.i .u8 ((128 + x : Nat) : Int)) := congrArg (fun z => some (V.i .u8 z)) (or128 ⟨x, h⟩)
@[go_sem high] theorem b63 {x : Nat} (h : x < 256) : binI .and .u8 (x : Int) 63 = some (.i .u8 ((x % 64 : Nat) : Int)) := congrArg (fun z => some (V.i .u8 z)) (and63 ⟨x, h⟩)
theorem shf6 (c : Nat) : shf false .i32 (c : Int) 6 = some (.i .i32 ((c / 64 : Nat) : Int)) := by
 have : (c : Int).fdiv (2 ^ 6) = ((c / 64 : Nat) : Int) := by rw [Int.fdiv_eq_ediv_of_nonneg _ (by decide)]; omega
 show some (V.i .i32 ((c : Int).fdiv (2 ^ 6))) = _
 rw [this]
theorem shf12 (c : Nat) : shf false .i32 (c : Int) 12 = some (.i .i32 ((c / 4096 : Nat) : Int)) := by
 have : (c : Int).fdiv (2 ^ 12) = ((c / 4096 : Nat) : Int) := by rw [Int.fdiv_eq_ediv_of_nonneg _ (by decide)]; omega
 show some (V.i .i32 ((c : Int).fdiv (2 ^ 12))) = _
 rw [this]
theorem shf18 (c : Nat) : shf false .i32 (c : Int) 18 = some (.i .i32 ((c / 262144 : Nat) : Int)) := by
 have : (c : Int).fdiv (2 ^ 18) = ((c / 262144 : Nat) : Int) := by rw [Int.fdiv_eq_ediv_of_nonneg _ (by decide)]; omega
 show some (V.i .i32 ((c : Int).fdiv (2 ^ 18))) = _
 rw [this]
theorem wru8 (n : Nat) : wr .u8 (n : Int) = ((n % 256 : Nat) : Int) := by simp only [wr]; omega
theorem wru32 {n : Nat} (h : n < 4294967296) : wr .u32 (n : Int) = (n : Int) := by simp only [wr]; omega
def oks (c : Nat) : Prop := c < 55296 ∨ (57343 < c ∧ c ≤ 1114111)
theorem valid_oks {c : Nat} (h : oks c) : Utf8.valid (c : Int) = true := by
 unfold oks at h
 simp only [Utf8.valid, Bool.or_eq_true, Bool.and_eq_true, decide_eq_true_eq]
 omega
theorem enc_if {c : Nat} (h : Utf8.valid (c : Int) = true) : Utf8.encode (c : Int) = (if c < 0x80 then ⟨#[UInt8.ofNat c]⟩
 else if c < 0x800 then ⟨#[UInt8.ofNat (0xC0 + c / 64), UInt8.ofNat (0x80 + c % 64)]⟩
 else if c < 0x10000 then ⟨#[UInt8.ofNat (0xE0 + c / 4096), UInt8.ofNat (0x80 + c / 64 % 64), UInt8.ofNat (0x80 + c % 64)]⟩
 else ⟨#[UInt8.ofNat (0xF0 + c / 262144), UInt8.ofNat (0x80 + c / 4096 % 64), UInt8.ofNat (0x80 + c / 64 % 64), UInt8.ofNat (0x80 + c % 64)]⟩) := by
 have e : (if Utf8.valid (c : Int) then (c : Int).toNat else Utf8.runeError) = c := by rw [h]; exact Int.toNat_natCast c
 have : ∀ x, (if Utf8.valid (c : Int) then (c : Int).toNat else Utf8.runeError) = x → Utf8.encode (c : Int) = (if x < 0x80 then ⟨#[UInt8.ofNat x]⟩
  else if x < 0x800 then ⟨#[UInt8.ofNat (0xC0 + x / 64), UInt8.ofNat (0x80 + x % 64)]⟩
  else if x < 0x10000 then ⟨#[UInt8.ofNat (0xE0 + x / 4096), UInt8.ofNat (0x80 + x / 64 % 64), UInt8.ofNat (0x80 + x % 64)]⟩
  else ⟨#[UInt8.ofNat (0xF0 + x / 262144), UInt8.ofNat (0x80 + x / 4096 % 64), UInt8.ofNat (0x80 + x / 64 % 64), UInt8.ofNat (0x80 + x % 64)]⟩) := by
  intro x hx; subst hx; rfl
 exact this c e
theorem encode_enc {c : Nat} (h : oks c) : (Utf8.encode (c : Int)).data.toList = enc c := by
 rw [enc_if (valid_oks h)]
 unfold enc
 by_cases k1 : c < 128
 · simp only [k1, if_true]
 · by_cases k2 : c < 2048
   · simp only [k1, k2, if_true, if_false]
   · by_cases k3 : c < 65536
     · simp only [k1, k2, k3, if_true, if_false]
     · simp only [k1, k2, k3, if_false]
theorem enc2 {c : Nat} (h1 : 128 ≤ c) (h2 : c < 2048) : (enc c).map byteV = [.i .u8 ((192 + c / 64 : Nat) : Int), .i .u8 ((128 + c % 64 : Nat) : Int)] := by
 have k1 : ¬ c < 128 := by omega
 have e1 : (UInt8.ofNat (192 + c / 64)).toNat = 192 + c / 64 := by simp; omega
 have e2 : (UInt8.ofNat (128 + c % 64)).toNat = 128 + c % 64 := by simp; omega
 unfold enc
 simp only [k1, h2, if_true, if_false, List.map_cons, List.map_nil, byteV, e1, e2]
theorem enc3 {c : Nat} (h1 : 2048 ≤ c) (h2 : c < 65536) : (enc c).map byteV = [.i .u8 ((224 + c / 4096 : Nat) : Int), .i .u8 ((128 + c / 64 % 64 : Nat) : Int), .i .u8 ((128 + c % 64 : Nat) : Int)] := by
 have k1 : ¬ c < 128 := by omega
 have k2 : ¬ c < 2048 := by omega
 have e1 : (UInt8.ofNat (224 + c / 4096)).toNat = 224 + c / 4096 := by simp; omega
 have e2 : (UInt8.ofNat (128 + c / 64 % 64)).toNat = 128 + c / 64 % 64 := by simp; omega
 have e3 : (UInt8.ofNat (128 + c % 64)).toNat = 128 + c % 64 := by simp; omega
 unfold enc
 simp only [k1, k2, h2, if_true, if_false, List.map_cons, List.map_nil, byteV, e1, e2, e3]
theorem enc4 {c : Nat} (h : oks c) (h1 : 65536 ≤ c) : (enc c).map byteV = [.i .u8 ((240 + c / 262144 : Nat) : Int), .i .u8 ((128 + c / 4096 % 64 : Nat) : Int), .i .u8 ((128 + c / 64 % 64 : Nat) : Int), .i .u8 ((128 + c % 64 : Nat) : Int)] := by
 have hc : c ≤ 1114111 := by unfold oks at h; omega
 have k1 : ¬ c < 128 := by omega
 have k2 : ¬ c < 2048 := by omega
 have k3 : ¬ c < 65536 := by omega
 have e1 : (UInt8.ofNat (240 + c / 262144)).toNat = 240 + c / 262144 := by simp; omega
 have e2 : (UInt8.ofNat (128 + c / 4096 % 64)).toNat = 128 + c / 4096 % 64 := by simp; omega
 have e3 : (UInt8.ofNat (128 + c / 64 % 64)).toNat = 128 + c / 64 % 64 := by simp; omega
 have e4 : (UInt8.ofNat (128 + c % 64)).toNat = 128 + c % 64 := by simp; omega
 unfold enc
 simp only [k1, k2, k3, if_false, List.map_cons, List.map_nil, byteV, e1, e2, e3, e4]
theorem enc1 {c : Nat} (h : c < 128) : (enc c).map byteV = [.i .u8 (c : Int)] := by
 have e1 : (UInt8.ofNat c).toNat = c := by simp; omega
 unfold enc
 simp only [h, if_true, List.map_cons, List.map_nil, byteV, e1]
theorem enc_len (c : Nat) : 1 ≤ (enc c).length ∧ (enc c).length ≤ 4 := by
 unfold enc
 repeat' split
 all_goals simp
end Go.Proofs.YtpcjhfchpelonaaGreatDoor
set_option linter.unusedSimpArgs false
set_option linter.unusedVariables false
namespace Go.Proofs.YtpcjhfchpelonaaGreatDoor
open Nat (reduceMul reduceAdd reduceSub reduceEqDiff reduceLeDiff reduceLT)
open Ai
theorem UH174 : type_of% (@Hp_open _ _ B174.eq_1) := @Hp_open _ _ B174.eq_1
def kz174 (_ : Nat) : List Nat := []
theorem w_NA_own (nx : Nat) (obs : List (Nat × Ai.Obj)) (nt : Nat) (tips : List (Nat × (Nat × TypeId))) (xs : List V) (n t c : Nat) (hx : xs.length = n) (hm : n + 4 ≤ most) (ht : al tips t = some (n, 5)) (hne : ¬ nt = t) (ho : oks c) (hc : 128 ≤ c) (gl : Nat → List V) :
  Hp.M noX noY (kz174) (.code B174) [] (St.init gl 7 [.sl xs n (.own t), .i .i32 c] ⟨nx, obs, nt, tips⟩)
   (Hp.FinI [.tmp 4] (.sl (xs ++ (enc c).map byteV) (n + (enc c).length) (.own t)) ⟨nx, obs, nt + 1, (nt, (0, 5)) :: alSet tips t (n + (enc c).length, 5)⟩) := by
 rw [UH174]
 have hc2 : c ≤ 1114111 := by unfold oks at ho; omega
 have w0 : wr .u32 (c : Int) = (c : Int) := wru32 (by omega)
 have d1 : decide ((c : Int) ≤ 2047) = decide (c < 2048) := decide_eq_decide.2 (by omega)
 have r0 : c % 256 % 64 = c % 64 := by omega
 have r1 : c / 64 % 256 % 64 = c / 64 % 64 := by omega
 have r2 : c / 4096 % 256 % 64 = c / 4096 % 64 := by omega
 have a0 : c % 256 < 256 := Nat.mod_lt _ (by decide)
 have a1 : c / 64 % 256 < 256 := Nat.mod_lt _ (by decide)
 have a2 : c / 4096 % 256 < 256 := Nat.mod_lt _ (by decide)
 have m0 : c % 64 < 64 := Nat.mod_lt _ (by decide)
 have m1 : c / 64 % 64 < 64 := Nat.mod_lt _ (by decide)
 have m2 : c / 4096 % 64 < 64 := Nat.mod_lt _ (by decide)
 by_cases k2 : c < 2048
 · have e := enc2 hc k2
   have l : (enc c).length = 2 := by have := congrArg List.length e; simpa using this
   have n2 : n + 2 ≤ most := by omega
   have f1 : decide (c < 2048) = true := by simpa using k2
   have q0 : c / 64 % 256 = c / 64 := by omega
   have q1 : c / 64 < 32 := by omega
   rw [e, l]
   simp only [w0, d1, f1, shf6, wru8, q0, q1, a0, r0, m0, hx, n2, ht, hne, go_sem, reduceIte, reduceMul, reduceAdd, reduceSub, reduceEqDiff, reduceLeDiff, reduceLT]
 · have f1 : decide (c < 2048) = false := by simpa using k2
   by_cases k3 : c < 65536
   · have e := enc3 (by omega) k3
     have l : (enc c).length = 3 := by have := congrArg List.length e; simpa using this
     have n3 : n + 3 ≤ most := by omega
     have q0 : c / 4096 % 256 = c / 4096 := by omega
     have q1 : c / 4096 < 16 := by omega
     rw [e, l]
     by_cases k4 : c < 55296
     · have f2 : decide ((c : Int) < 55296) = true := decide_eq_true (by omega)
       simp only [w0, d1, f1, f2, shf6, shf12, wru8, q0, q1, a0, a1, r0, r1, m0, m1, hx, n3, ht, hne, go_sem, reduceIte, reduceMul, reduceAdd, reduceSub, reduceEqDiff, reduceLeDiff, reduceLT]
     · have f2 : decide ((c : Int) < 55296) = false := decide_eq_false (by omega)
       have f3 : decide ((57343 : Int) < (c : Int)) = true := decide_eq_true (by unfold oks at ho; omega)
       have f4 : decide ((c : Int) ≤ 65535) = true := decide_eq_true (by omega)
       simp only [w0, d1, f1, f2, f3, f4, shf6, shf12, wru8, q0, q1, a0, a1, r0, r1, m0, m1, hx, n3, ht, hne, go_sem, reduceIte, reduceMul, reduceAdd, reduceSub, reduceEqDiff, reduceLeDiff, reduceLT]
   · have e := enc4 ho (by omega)
     have l : (enc c).length = 4 := by have := congrArg List.length e; simpa using this
     have q0 : c / 262144 % 256 = c / 262144 := by omega
     have q1 : c / 262144 < 8 := by omega
     have f2 : decide ((c : Int) < 55296) = false := decide_eq_false (by omega)
     have f3 : decide ((57343 : Int) < (c : Int)) = true := decide_eq_true (by omega)
     have f4 : decide ((c : Int) ≤ 65535) = false := decide_eq_false (by omega)
     have f5 : decide ((65535 : Int) < (c : Int)) = true := decide_eq_true (by omega)
     have f6 : decide ((c : Int) ≤ 1114111) = true := decide_eq_true (by omega)
     rw [e, l]
     simp only [w0, d1, f1, f2, f3, f4, f5, f6, shf6, shf12, shf18, wru8, q0, q1, a0, a1, a2, r0, r1, r2, m0, m1, m2, hx, hm, ht, hne, go_sem, reduceIte, reduceMul, reduceAdd, reduceSub, reduceEqDiff, reduceLeDiff, reduceLT]
def arT (c nt : Nat) (tips : List (Nat × (Nat × TypeId))) : List (Nat × (Nat × TypeId)) := if c < 128 then (nt, (0, 5)) :: tips else (nt + 1, (0, 5)) :: (nt, (0, 5)) :: tips
def arN (c nt : Nat) : Nat := if c < 128 then nt + 1 else nt + 2
open Classical in
noncomputable def H_NA (a : List V) (h : H) : Option (V × H) := match a with
 | [.sl xs n (.own t), .i .i32 (Int.ofNat c)] => if oks c ∧ 128 ≤ c ∧ xs.length = n ∧ n + 4 ≤ most ∧ al h.tips t = some (n, 5) ∧ ¬ h.nt = t then
    some (.sl (xs ++ (enc c).map byteV) (n + (enc c).length) (.own t), ⟨h.next, h.objs, h.nt + 1, (h.nt, (0, 5)) :: alSet h.tips t (n + (enc c).length, 5)⟩) else none
 | _ => none
theorem H_NA1 {xs : List V} {n t c : Nat} {h : H} (hc : oks c ∧ 128 ≤ c ∧ xs.length = n ∧ n + 4 ≤ most ∧ al h.tips t = some (n, 5) ∧ ¬ h.nt = t) :
  H_NA [.sl xs n (.own t), .i .i32 (c : Int)] h = some (.sl (xs ++ (enc c).map byteV) (n + (enc c).length) (.own t), ⟨h.next, h.objs, h.nt + 1, (h.nt, (0, 5)) :: alSet h.tips t (n + (enc c).length, 5)⟩) := if_pos hc
theorem i_NA : ∀ a h v h', H_NA a h = some (v, h') → Hp.CompI tabx told 174 a h v h' := fun a h v h' e => by
 unfold H_NA at e
 split at e
 · rename_i xs n t c
   obtain ⟨nx, obs, nt, tips⟩ := h
   split at e
   · rename_i hc
     obtain ⟨h1, h2, h3, h4, h5, h6⟩ := hc
     cases e
     exact Hp.compI_of tells_noX tells_noY (fn := af174) rfl (Nat.le_of_ble_eq_true rfl) fun gl => w_NA_own nx obs nt tips xs n t c h3 h4 h5 h6 h1 h2 gl
   · cases e
 · cases e
noncomputable def Y_AR := ys [(174, H_NA)]
theorem t_AR : Hp.TellsI tabx told Y_AR := itells_cons i_NA itells_nil

theorem UH155 : type_of% (@Hp_open _ _ B155.eq_1) := @Hp_open _ _ B155.eq_1
def kz155 (_ : Nat) : List Nat := []
theorem w_AR_own (nx : Nat) (obs : List (Nat × Ai.Obj)) (nt : Nat) (tips : List (Nat × (Nat × TypeId))) (xs : List V) (n t c : Nat) (hx : xs.length = n) (hm : n + 4 ≤ most) (ht : al tips t = some (n, 5)) (hne : t < nt) (ho : oks c) (gl : Nat → List V) :
  Hp.M noX Y_AR (kz155) (.code B155) [] (St.init gl 5 [.sl xs n (.own t), .i .i32 c] ⟨nx, obs, nt, tips⟩)
   (Hp.FinI [.tmp 4] (.sl (xs ++ (enc c).map byteV) (n + (enc c).length) (.own t)) ⟨nx, obs, arN c nt, arT c nt (alSet tips t (n + (enc c).length, 5))⟩) := by
 rw [UH155]
 have hc2 : c ≤ 1114111 := by unfold oks at ho; omega
 have w0 : wr .u32 (c : Int) = (c : Int) := wru32 (by omega)
 have d1 : decide ((c : Int) ≤ 127) = decide (c < 128) := decide_eq_decide.2 (by omega)
 have hn1 : ¬ nt = t := by omega
 have hn2 : ¬ nt + 1 = t := by omega
 by_cases k : c < 128
 · have e := enc1 k
   have l : (enc c).length = 1 := by have := congrArg List.length e; simpa using this
   have f1 : decide (c < 128) = true := by simpa using k
   have n1 : n + 1 ≤ most := by omega
   have w1 : c % 256 = c := by omega
   rw [e, l, arN, arT, if_pos k, if_pos k]
   simp only [w0, d1, f1, wru8, w1, hx, n1, ht, hn1, go_sem, reduceIte, reduceMul, reduceAdd, reduceSub, reduceEqDiff, reduceLeDiff, reduceLT]
 · have f1 : decide (c < 128) = false := by simpa using k
   have hal : al ((nt, (0, 5)) :: tips) t = some (n, 5) := by simp only [al, nat_beq, hn1, decide_false, cond_false, ht]
   have hset : ∀ m : Nat × TypeId, alSet ((nt, (0, 5)) :: tips) t m = (nt, (0, 5)) :: alSet tips t m := fun m => by simp only [alSet, nat_beq, hn1, decide_false, cond_false]
   have hna := H_NA1 (xs := xs) (n := n) (t := t) (c := c) (h := ⟨nx, obs, nt + 1, (nt, (0, 5)) :: tips⟩) ⟨ho, by omega, hx, hm, hal, hn2⟩
   simp only [hset] at hna
   rw [arN, arT, if_neg k, if_neg k]
   simp only [w0, d1, f1, Y_AR, ys_hit, hna, go_sem, reduceIte, reduceMul, reduceAdd, reduceSub, reduceEqDiff, reduceLeDiff, reduceLT]
open Classical in
noncomputable def H_AR (a : List V) (h : H) : Option (V × H) := match a with
 | [.sl xs n (.own t), .i .i32 (Int.ofNat c)] => if oks c ∧ xs.length = n ∧ n + 4 ≤ most ∧ al h.tips t = some (n, 5) ∧ t < h.nt then
    some (.sl (xs ++ (enc c).map byteV) (n + (enc c).length) (.own t), ⟨h.next, h.objs, arN c h.nt, arT c h.nt (alSet h.tips t (n + (enc c).length, 5))⟩) else none
 | _ => none
theorem H_AR1 {xs : List V} {n t c : Nat} {h : H} (hc : oks c ∧ xs.length = n ∧ n + 4 ≤ most ∧ al h.tips t = some (n, 5) ∧ t < h.nt) :
  H_AR [.sl xs n (.own t), .i .i32 (c : Int)] h = some (.sl (xs ++ (enc c).map byteV) (n + (enc c).length) (.own t), ⟨h.next, h.objs, arN c h.nt, arT c h.nt (alSet h.tips t (n + (enc c).length, 5))⟩) := if_pos hc
theorem i_AR : ∀ a h v h', H_AR a h = some (v, h') → Hp.CompI tabx told 155 a h v h' := fun a h v h' e => by
 unfold H_AR at e
 split at e
 · rename_i xs n t c
   obtain ⟨nx, obs, nt, tips⟩ := h
   split at e
   · rename_i hc
     obtain ⟨h1, h3, h4, h5, h6⟩ := hc
     cases e
     exact Hp.compI_of tells_noX t_AR (fn := af155) rfl (Nat.le_of_ble_eq_true rfl) fun gl => w_AR_own nx obs nt tips xs n t c h3 h4 h5 h6 h1 gl
   · cases e
 · cases e

noncomputable def Y_WR := ys [(97, H_cc), (155, H_AR)]
theorem t_WR : Hp.TellsI tabx told Y_WR := itells_cons i_cc (itells_cons i_AR itells_nil)
theorem UH125 : type_of% (@Hp_open _ _ B125.eq_1) := @Hp_open _ _ B125.eq_1
def kz125 (_ : Nat) : List Nat := []
theorem w_WR_own (nx : Nat) (obs : List (Nat × Ai.Obj)) (nt : Nat) (tips : List (Nat × (Nat × TypeId))) (id : Nat) (xs : List V) (n t c : Nat) (hx : xs.length = n) (hm : n + 4 ≤ most) (ht : al tips t = some (n, 5)) (hne : t < nt) (hoc : oks c)
  (ho : al obs id = some (Ai.Obj.cells 130 [.p id 0, .sl xs n (.own t)])) (gl : Nat → List V) :
  Hp.M noX Y_WR (kz125) (.code B125) [] (St.init gl 5 [.p id 0, .i .i32 c] ⟨nx, obs, nt, tips⟩)
   (Hp.FinI [.tmp 4, .tmp 5] (.tup [.i .i64 (enc c).length, .nili]) ⟨nx, alSet obs id (.cells 130 [.p id 0, .sl (xs ++ (enc c).map byteV) (n + (enc c).length) (.own t)]), arN c nt, arT c nt (alSet tips t (n + (enc c).length, 5))⟩) := by
 rw [UH125]
 have har := H_AR1 (xs := xs) (n := n) (t := t) (c := c) (h := ⟨nx, obs, nt, tips⟩) ⟨hoc, hx, hm, ht, hne⟩
 have hel := enc_len c
 have w1 : wr .i64 (((n + (enc c).length : Nat) : Int) - (n : Int)) = ((enc c).length : Int) := by unfold most at hm; rw [wr64] <;> omega
 simp only [Y_WR, ys_hit, ys_miss, H_cc_old _ _ _ _ _ _ ho, ho, har, w1, go_sem, reduceIte, reduceMul, reduceAdd, reduceSub, reduceEqDiff, reduceLeDiff, reduceLT]
open Classical in
noncomputable def H_WR (a : List V) (h : H) : Option (V × H) := match a with
 | [.p id 0, .i .i32 (Int.ofNat c)] => if e : oks c ∧ ∃ (bs : List UInt8) (t : Nat), bs.length + 4 ≤ most ∧ al h.objs id = some (Ai.Obj.cells 130 [.p id 0, .sl (bs.map byteV) bs.length (.own t)]) ∧ al h.tips t = some (bs.length, 5) ∧ t < h.nt then
    (let bs := Classical.choose e.2; let t := Classical.choose (Classical.choose_spec e.2)
     some (.tup [.i .i64 (enc c).length, .nili], ⟨h.next, alSet h.objs id (.cells 130 [.p id 0, .sl (bs.map byteV ++ (enc c).map byteV) (bs.length + (enc c).length) (.own t)]), arN c h.nt, arT c h.nt (alSet h.tips t (bs.length + (enc c).length, 5))⟩)) else none
 | _ => none
theorem i_WR : ∀ a h v h', H_WR a h = some (v, h') → Hp.CompI tabx told 125 a h v h' := fun a h v h' e => by
 unfold H_WR at e
 split at e
 · rename_i id c
   obtain ⟨nx, obs, nt, tips⟩ := h
   split at e
   · rename_i hc
     have hs := Classical.choose_spec (Classical.choose_spec hc.2)
     simp only at e hs
     generalize Classical.choose (Classical.choose_spec hc.2) = t at e hs
     generalize Classical.choose hc.2 = bs at e hs
     obtain ⟨h1, h2, h3, h4⟩ := hs
     cases e
     exact Hp.compI_of tells_noX t_WR (fn := af125) rfl (Nat.le_of_ble_eq_true rfl) fun gl => w_WR_own nx obs nt tips id _ _ t c (List.length_map ..) h1 h3 h4 hc.1 h2 gl
   · cases e
 · cases e
theorem arT_al {c nt t : Nat} {tips : List (Nat × (Nat × TypeId))} (h : t < nt) : al (arT c nt tips) t = al tips t := by
 unfold arT
 split
 · simp only [al, nat_beq]; rw [decide_eq_false (by omega)]; rfl
 · simp only [al, nat_beq]; rw [decide_eq_false (by omega), decide_eq_false (by omega)]; rfl
theorem H_WR1 {h : H} {id : Nat} {bs : List UInt8} (hi : BI h id bs) (hb : bs ≠ []) (hm : bs.length + 4 ≤ most) {c : Nat} (ho : oks c) :
  ∃ h', H_WR [.p id 0, .i .i32 (c : Int)] h = some (.tup [.i .i64 (enc c).length, .nili], h') ∧ BI h' id (bs ++ enc c) ∧ h'.next = h.next := by
 rcases hi with ⟨rfl, _⟩ | ⟨t, h1, h2, h3⟩
 · exact absurd rfl hb
 · have e : oks c ∧ ∃ (bs : List UInt8) (t : Nat), bs.length + 4 ≤ most ∧ al h.objs id = some (Ai.Obj.cells 130 [.p id 0, .sl (bs.map byteV) bs.length (.own t)]) ∧ al h.tips t = some (bs.length, 5) ∧ t < h.nt := ⟨ho, bs, t, hm, h1, h2, h3⟩
   have hs := Classical.choose_spec (Classical.choose_spec e.2)
   have hd : H_WR [.p id 0, .i .i32 (c : Int)] h = some (.tup [.i .i64 (enc c).length, .nili], ⟨h.next, alSet h.objs id (.cells 130 [.p id 0, .sl ((Classical.choose e.2).map byteV ++ (enc c).map byteV) ((Classical.choose e.2).length + (enc c).length) (.own (Classical.choose (Classical.choose_spec e.2)))]), arN c h.nt, arT c h.nt (alSet h.tips (Classical.choose (Classical.choose_spec e.2)) ((Classical.choose e.2).length + (enc c).length, 5))⟩) := dif_pos e
   refine ⟨_, hd, ?_, rfl⟩
   generalize Classical.choose (Classical.choose_spec e.2) = u at hs
   generalize Classical.choose e.2 = bs2 at hs
   obtain ⟨g1, g2, g3, g4⟩ := hs
   have : bs2 = bs := bi_uniq (.inr ⟨u, g2, g3, g4⟩ : BI h id bs2) (.inr ⟨t, h1, h2, h3⟩)
   subst this
   refine .inr ⟨u, ?_, ?_, ?_⟩
   · show al (alSet h.objs id _) id = _
     rw [al_alSet, List.map_append, List.length_append]
   · show al (arT c h.nt _) u = _
     rw [arT_al g4, al_alSet, List.length_append]
   · show u < arN c h.nt
     unfold arN
     split <;> omega
theorem w_NA_nil (nx : Nat) (obs : List (Nat × Ai.Obj)) (nt : Nat) (tips : List (Nat × (Nat × TypeId))) (c : Nat) (ho : oks c) (hc : 128 ≤ c) (gl : Nat → List V) :
  Hp.M noX noY (kz174) (.code B174) [] (St.init gl 7 [.sl [] 0 .nil, .i .i32 c] ⟨nx, obs, nt, tips⟩)
   (Hp.FinI [.tmp 4] (.sl ((enc c).map byteV) (enc c).length (.own (nt + 1))) ⟨nx, obs, nt + 2, (nt + 1, ((enc c).length, 5)) :: (nt, (0, 5)) :: tips⟩) := by
 rw [UH174]
 have n4 : 4 ≤ most := by unfold most; omega
 have hc2 : c ≤ 1114111 := by unfold oks at ho; omega
 have w0 : wr .u32 (c : Int) = (c : Int) := wru32 (by omega)
 have d1 : decide ((c : Int) ≤ 2047) = decide (c < 2048) := decide_eq_decide.2 (by omega)
 have r0 : c % 256 % 64 = c % 64 := by omega
 have r1 : c / 64 % 256 % 64 = c / 64 % 64 := by omega
 have r2 : c / 4096 % 256 % 64 = c / 4096 % 64 := by omega
 have a0 : c % 256 < 256 := Nat.mod_lt _ (by decide)
 have a1 : c / 64 % 256 < 256 := Nat.mod_lt _ (by decide)
 have a2 : c / 4096 % 256 < 256 := Nat.mod_lt _ (by decide)
 have m0 : c % 64 < 64 := Nat.mod_lt _ (by decide)
 have m1 : c / 64 % 64 < 64 := Nat.mod_lt _ (by decide)
 have m2 : c / 4096 % 64 < 64 := Nat.mod_lt _ (by decide)
 by_cases k2 : c < 2048
 · have e := enc2 hc k2
   have l : (enc c).length = 2 := by have := congrArg List.length e; simpa using this
   have n2 : 2 ≤ most := by unfold most; omega
   have f1 : decide (c < 2048) = true := by simpa using k2
   have q0 : c / 64 % 256 = c / 64 := by omega
   have q1 : c / 64 < 32 := by omega
   rw [e, l]
   simp only [w0, d1, f1, shf6, wru8, q0, q1, a0, r0, m0, n2, go_sem, reduceIte, reduceMul, reduceAdd, reduceSub, reduceEqDiff, reduceLeDiff, reduceLT]
 · have f1 : decide (c < 2048) = false := by simpa using k2
   by_cases k3 : c < 65536
   · have e := enc3 (by omega) k3
     have l : (enc c).length = 3 := by have := congrArg List.length e; simpa using this
     have n3 : 3 ≤ most := by unfold most; omega
     have q0 : c / 4096 % 256 = c / 4096 := by omega
     have q1 : c / 4096 < 16 := by omega
     rw [e, l]
     by_cases k4 : c < 55296
     · have f2 : decide ((c : Int) < 55296) = true := decide_eq_true (by omega)
       simp only [w0, d1, f1, f2, shf6, shf12, wru8, q0, q1, a0, a1, r0, r1, m0, m1, n3, go_sem, reduceIte, reduceMul, reduceAdd, reduceSub, reduceEqDiff, reduceLeDiff, reduceLT]
     · have f2 : decide ((c : Int) < 55296) = false := decide_eq_false (by omega)
       have f3 : decide ((57343 : Int) < (c : Int)) = true := decide_eq_true (by unfold oks at ho; omega)
       have f4 : decide ((c : Int) ≤ 65535) = true := decide_eq_true (by omega)
       simp only [w0, d1, f1, f2, f3, f4, shf6, shf12, wru8, q0, q1, a0, a1, r0, r1, m0, m1, n3, go_sem, reduceIte, reduceMul, reduceAdd, reduceSub, reduceEqDiff, reduceLeDiff, reduceLT]
   · have e := enc4 ho (by omega)
     have l : (enc c).length = 4 := by have := congrArg List.length e; simpa using this
     have q0 : c / 262144 % 256 = c / 262144 := by omega
     have q1 : c / 262144 < 8 := by omega
     have f2 : decide ((c : Int) < 55296) = false := decide_eq_false (by omega)
     have f3 : decide ((57343 : Int) < (c : Int)) = true := decide_eq_true (by omega)
     have f4 : decide ((c : Int) ≤ 65535) = false := decide_eq_false (by omega)
     have f5 : decide ((65535 : Int) < (c : Int)) = true := decide_eq_true (by omega)
     have f6 : decide ((c : Int) ≤ 1114111) = true := decide_eq_true (by omega)
     rw [e, l]
     simp only [w0, d1, f1, f2, f3, f4, f5, f6, shf6, shf12, shf18, wru8, q0, q1, a0, a1, a2, r0, r1, r2, m0, m1, m2, n4, go_sem, reduceIte, reduceMul, reduceAdd, reduceSub, reduceEqDiff, reduceLeDiff, reduceLT]

def arT0 (c nt : Nat) (tips : List (Nat × (Nat × TypeId))) : List (Nat × (Nat × TypeId)) := if c < 128 then (nt + 1, ((enc c).length, 5)) :: (nt, (0, 5)) :: tips else (nt + 2, ((enc c).length, 5)) :: (nt + 1, (0, 5)) :: (nt, (0, 5)) :: tips
def arK (c nt : Nat) : Nat := if c < 128 then nt + 1 else nt + 2
def H_NA0 (a : List V) (h : H) : Option (V × H) := match a with
 | [.sl [] 0 .nil, .i .i32 (Int.ofNat c)] => if (c < 55296 ∨ (57343 < c ∧ c ≤ 1114111)) ∧ 128 ≤ c then
    some (.sl ((enc c).map byteV) (enc c).length (.own (h.nt + 1)), ⟨h.next, h.objs, h.nt + 2, (h.nt + 1, ((enc c).length, 5)) :: (h.nt, (0, 5)) :: h.tips⟩) else none
 | _ => none
theorem H_NA01 {c : Nat} {h : H} (hc : oks c) (h2 : 128 ≤ c) : H_NA0 [.sl [] 0 .nil, .i .i32 (c : Int)] h = some (.sl ((enc c).map byteV) (enc c).length (.own (h.nt + 1)), ⟨h.next, h.objs, h.nt + 2, (h.nt + 1, ((enc c).length, 5)) :: (h.nt, (0, 5)) :: h.tips⟩) := if_pos ⟨hc, h2⟩
theorem i_NA0 : ∀ a h v h', H_NA0 a h = some (v, h') → Hp.CompI tabx told 174 a h v h' := fun a h v h' e => by
 unfold H_NA0 at e
 split at e
 · rename_i c
   obtain ⟨nx, obs, nt, tips⟩ := h
   split at e
   · rename_i hc
     cases e
     exact Hp.compI_of tells_noX tells_noY (fn := af174) rfl (Nat.le_of_ble_eq_true rfl) fun gl => w_NA_nil nx obs nt tips c hc.1 hc.2 gl
   · cases e
 · cases e
def Y_AR0 := ys [(174, H_NA0)]
theorem t_AR0 : Hp.TellsI tabx told Y_AR0 := itells_cons i_NA0 itells_nil
theorem w_AR_nil (nx : Nat) (obs : List (Nat × Ai.Obj)) (nt : Nat) (tips : List (Nat × (Nat × TypeId))) (c : Nat) (ho : oks c) (gl : Nat → List V) :
  Hp.M noX Y_AR0 (kz155) (.code B155) [] (St.init gl 5 [.sl [] 0 .nil, .i .i32 c] ⟨nx, obs, nt, tips⟩)
   (Hp.FinI [.tmp 4] (.sl ((enc c).map byteV) (enc c).length (.own (arK c nt))) ⟨nx, obs, arK c nt + 1, arT0 c nt tips⟩) := by
 rw [UH155]
 have hc2 : c ≤ 1114111 := by unfold oks at ho; omega
 have w0 : wr .u32 (c : Int) = (c : Int) := wru32 (by omega)
 have d1 : decide ((c : Int) ≤ 127) = decide (c < 128) := decide_eq_decide.2 (by omega)
 by_cases k : c < 128
 · have e := enc1 k
   have l : (enc c).length = 1 := by have := congrArg List.length e; simpa using this
   have f1 : decide (c < 128) = true := by simpa using k
   have n1 : 1 ≤ most := by unfold most; omega
   have w1 : c % 256 = c := by omega
   rw [arK, arT0, if_pos k, if_pos k, e, l]
   simp only [w0, d1, f1, wru8, w1, n1, go_sem, reduceIte, reduceMul, reduceAdd, reduceSub, reduceEqDiff, reduceLeDiff, reduceLT]
 · have f1 : decide (c < 128) = false := by simpa using k
   have hna := H_NA01 (c := c) (h := ⟨nx, obs, nt + 1, (nt, (0, 5)) :: tips⟩) ho (by omega)
   rw [arK, arT0, if_neg k, if_neg k]
   simp only [w0, d1, f1, Y_AR0, ys_hit, hna, go_sem, reduceIte, reduceMul, reduceAdd, reduceSub, reduceEqDiff, reduceLeDiff, reduceLT]
def H_AR0 (a : List V) (h : H) : Option (V × H) := match a with
 | [.sl [] 0 .nil, .i .i32 (Int.ofNat c)] => if (c < 55296 ∨ (57343 < c ∧ c ≤ 1114111)) then
    some (.sl ((enc c).map byteV) (enc c).length (.own (arK c h.nt)), ⟨h.next, h.objs, arK c h.nt + 1, arT0 c h.nt h.tips⟩) else none
 | _ => none
theorem H_AR01 {c : Nat} {h : H} (hc : oks c) : H_AR0 [.sl [] 0 .nil, .i .i32 (c : Int)] h = some (.sl ((enc c).map byteV) (enc c).length (.own (arK c h.nt)), ⟨h.next, h.objs, arK c h.nt + 1, arT0 c h.nt h.tips⟩) := if_pos hc
theorem i_AR0 : ∀ a h v h', H_AR0 a h = some (v, h') → Hp.CompI tabx told 155 a h v h' := fun a h v h' e => by
 unfold H_AR0 at e
 split at e
 · rename_i c
   obtain ⟨nx, obs, nt, tips⟩ := h
   split at e
   · rename_i hc
     cases e
     exact Hp.compI_of tells_noX t_AR0 (fn := af155) rfl (Nat.le_of_ble_eq_true rfl) fun gl => w_AR_nil nx obs nt tips c hc gl
   · cases e
 · cases e
def Y_WR0 := ys [(97, H_cc), (155, H_AR0)]
theorem t_WR0 : Hp.TellsI tabx told Y_WR0 := itells_cons i_cc (itells_cons i_AR0 itells_nil)
theorem w_WR_nil (nx : Nat) (obs : List (Nat × Ai.Obj)) (nt : Nat) (tips : List (Nat × (Nat × TypeId))) (id : Nat) (c : Nat) (hoc : oks c) (ho : al obs id = some (Ai.Obj.cells 130 [.nilp, .sl [] 0 .nil])) (gl : Nat → List V) :
  Hp.M noX Y_WR0 (kz125) (.code B125) [] (St.init gl 5 [.p id 0, .i .i32 c] ⟨nx, obs, nt, tips⟩)
   (Hp.FinI [.tmp 4, .tmp 5] (.tup [.i .i64 (enc c).length, .nili]) ⟨nx, alSet obs id (.cells 130 [.p id 0, .sl ((enc c).map byteV) (enc c).length (.own (arK c nt))]), arK c nt + 1, arT0 c nt tips⟩) := by
 rw [UH125]
 have har := H_AR01 (c := c) (h := ⟨nx, alSet obs id (.cells 130 [.p id 0, .sl [] 0 .nil]), nt, tips⟩) hoc
 have hel := enc_len c
 have w1 : wr .i64 (((enc c).length : Int) - 0) = ((enc c).length : Int) := by rw [wr64] <;> omega
 simp only [Y_WR0, ys_hit, ys_miss, H_cc_new _ _ _ _ _ _ ho, har, w1, Int.natCast_zero, go_sem, reduceIte, reduceMul, reduceAdd, reduceSub, reduceEqDiff, reduceLeDiff, reduceLT]
noncomputable def H_WR0 (a : List V) (h : H) : Option (V × H) := match a with
 | [.p id 0, .i .i32 (Int.ofNat c)] => (match al h.objs id with
   | some (.cells ty [.nilp, .sl [] 0 .nil]) => if ty = 130 ∧ (c < 55296 ∨ (57343 < c ∧ c ≤ 1114111)) then
      some (.tup [.i .i64 (enc c).length, .nili], ⟨h.next, alSet h.objs id (.cells 130 [.p id 0, .sl ((enc c).map byteV) (enc c).length (.own (arK c h.nt))]), arK c h.nt + 1, arT0 c h.nt h.tips⟩) else none
   | _ => H_WR a h)
 | _ => none
theorem i_WR0 : ∀ a h v h', H_WR0 a h = some (v, h') → Hp.CompI tabx told 125 a h v h' := fun a h v h' e => by
 unfold H_WR0 at e
 split at e
 · rename_i id c
   split at e
   · rename_i ty ho
     obtain ⟨nx, obs, nt, tips⟩ := h
     split at e
     · rename_i hc
       obtain ⟨rfl, hc⟩ := hc
       cases e
       exact Hp.compI_of tells_noX t_WR0 (fn := af125) rfl (Nat.le_of_ble_eq_true rfl) fun gl => w_WR_nil nx obs nt tips id c hc ho gl
     · cases e
   · exact i_WR _ _ _ _ e
 · cases e
def BF (h : H) (id : Nat) (bs : List UInt8) : Prop := BI h id bs ∧ (bs = [] → al h.objs id = some (Ai.Obj.cells 130 [.nilp, .sl [] 0 .nil]))
theorem bf_new {h : H} {id : Nat} (h1 : al h.objs id = some (Ai.Obj.cells 130 [.nilp, .sl [] 0 .nil])) : BF h id [] := ⟨.inl ⟨rfl, h1⟩, fun _ => h1⟩
theorem enc_ne (c : Nat) : enc c ≠ [] := fun e => by have := (enc_len c).1; rw [e] at this; simp at this
theorem H_WB0 {h : H} {id : Nat} {bs : List UInt8} (hi : BF h id bs) (hm : bs.length + 1 ≤ most) (c : UInt8) : ∃ h', H_WB [.p id 0, .i .u8 (c.toNat : Int)] h = some (.nili, h') ∧ BF h' id (bs ++ [c]) ∧ h'.next = h.next := by
 obtain ⟨h', e1, e2, e3⟩ := H_WB1 hi.1 hm c
 exact ⟨h', e1, ⟨e2, fun e => by simp at e⟩, e3⟩
theorem H_WR01 {h : H} {id : Nat} {bs : List UInt8} (hi : BF h id bs) (hm : bs.length + 4 ≤ most) {c : Nat} (ho : oks c) :
  ∃ h', H_WR0 [.p id 0, .i .i32 (c : Int)] h = some (.tup [.i .i64 (enc c).length, .nili], h') ∧ BF h' id (bs ++ enc c) ∧ h'.next = h.next := by
 by_cases hb : bs = []
 · subst hb
   have h1 := hi.2 rfl
   have e : H_WR0 [.p id 0, .i .i32 (c : Int)] h = some (.tup [.i .i64 (enc c).length, .nili], ⟨h.next, alSet h.objs id (.cells 130 [.p id 0, .sl ((enc c).map byteV) (enc c).length (.own (arK c h.nt))]), arK c h.nt + 1, arT0 c h.nt h.tips⟩) := by
    show (match al h.objs id with
     | some (.cells ty [.nilp, .sl [] 0 .nil]) => _
     | _ => _) = _
    rw [h1]
    exact if_pos ⟨rfl, ho⟩
   refine ⟨_, e, ⟨.inr ⟨arK c h.nt, ?_, ?_, Nat.lt_succ_self _⟩, fun e => absurd e (by rw [List.nil_append]; exact enc_ne c)⟩, rfl⟩
   · show al (alSet h.objs id _) id = _
     rw [al_alSet, List.nil_append]
   · show al (arT0 c h.nt h.tips) (arK c h.nt) = _
     unfold arT0 arK
     split <;> simp [al]
 · obtain ⟨h', e1, e2, e3⟩ := H_WR1 hi.1 hb hm ho
   refine ⟨h', ?_, ⟨e2, fun e => absurd (List.append_eq_nil_iff.1 e).1 hb⟩, e3⟩
   rw [← e1]
   rcases hi.1 with ⟨hb', _⟩ | ⟨t, h1, h2, h3⟩
   · exact absurd hb' hb
   · show (match al h.objs id with
      | some (.cells ty [.nilp, .sl [] 0 .nil]) => _
      | _ => _) = _
     rw [h1]
/-! ### String -/
theorem w_BS_nil (nx : Nat) (obs : List (Nat × Ai.Obj)) (nt : Nat) (tips : List (Nat × (Nat × TypeId))) (id : Nat) (q : V) (ho : al obs id = some (Ai.Obj.cells 130 [q, .sl [] 0 .nil])) (gl : Nat → List V) :
  Hp.M noX noY (kz73) (.code B73) [] (St.init gl 4 [.p id 0] ⟨nx, obs, nt, tips⟩)
   (Hp.FinI [.tmp 2] (.s []) ⟨nx, obs, nt, tips⟩) := by
 rw [UH73]
 have h0 : 0 ≤ most := Nat.zero_le _
 simp only [ho, h0, go_sem, reduceIte, reduceMul, reduceAdd, reduceSub, reduceEqDiff, reduceLeDiff, reduceLT]
noncomputable def H_BS0 (a : List V) (h : H) : Option (V × H) := match a with
 | [.p id 0] => (match al h.objs id with
   | some (.cells ty [q, .sl [] 0 .nil]) => if ty = 130 then some (.s [], h) else none
   | _ => H_BS a h)
 | _ => none
theorem i_BS0 : ∀ a h v h', H_BS0 a h = some (v, h') → Hp.CompI tabx told 73 a h v h' := fun a h v h' e => by
 unfold H_BS0 at e
 split at e
 · rename_i id
   split at e
   · rename_i ty q ho
     obtain ⟨nx, obs, nt, tips⟩ := h
     split at e
     · rename_i hc
       subst hc
       cases e
       exact Hp.compI_of tells_noX tells_noY (fn := af73) rfl (Nat.le_of_ble_eq_true rfl) fun gl => w_BS_nil nx obs nt tips id q ho gl
     · cases e
   · exact i_BS _ _ _ _ e
 · cases e
theorem H_BS01 {h : H} {id : Nat} {bs : List UInt8} (hi : BF h id bs) (hm : bs.length ≤ most) : H_BS0 [.p id 0] h = some (.s bs, h) := by
 by_cases hb : bs = []
 · subst hb
   show (match al h.objs id with
    | some (.cells ty [q, .sl [] 0 .nil]) => _
    | _ => _) = _
   rw [hi.2 rfl]
   exact if_pos rfl
 · rw [← H_BS1 hi.1 hb hm]
   rcases hi.1 with ⟨hb', _⟩ | ⟨t, h1, h2, h3⟩
   · exact absurd hb' hb
   · show (match al h.objs id with
      | some (.cells ty [q, .sl [] 0 .nil]) => _
      | _ => _) = _
     rw [h1]
     cases bs with
     | nil => exact absurd rfl hb
     | cons a r => rfl
def letB (c : Nat) : Bool := decide (97 ≤ c) && decide (c ≤ 122)
def digB (c : Nat) : Bool := decide (48 ≤ c) && decide (c ≤ 57)
def sgnB (c : Nat) : Bool := c == 40 || (c == 41 || (c == 61 || (c == 94 || (c == 60 || (c == 62 || c == 44)))))
theorem nz (a b : Nat) : decide ((a : Int) ≤ (b : Int)) = decide (a ≤ b) := decide_eq_decide.2 Int.ofNat_le
theorem nl (a b : Nat) : decide ((a : Int) < (b : Int)) = decide (a < b) := decide_eq_decide.2 Int.ofNat_lt
theorem U103 : type_of% (@M_open _ _ B103.eq_1) := @M_open _ _ B103.eq_1
def kz103 (_ : Nat) : List Nat := []
theorem w_letter (c : Nat) (gl : Nat → List V) : M noX (kz103) (.code B103) [] (St.init gl 4 [.i .i32 c] {}) (Fin [.tmp 2] (.b (letB c))) := by
 have e1 : decide ((97 : Int) ≤ (c : Int)) = decide (97 ≤ c) := nz 97 c
 have e2 : decide ((c : Int) ≤ (122 : Int)) = decide (c ≤ 122) := nz c 122
 rw [U103]
 simp only [e1, e2, go_sem, reduceIte, reduceMul, reduceAdd, reduceSub, reduceEqDiff, reduceLeDiff, reduceLT]
 cases f1 : decide (97 ≤ c) <;> simp only [f1, e2, letB, go_sem, reduceIte, reduceMul, reduceAdd, reduceSub, reduceEqDiff, reduceLeDiff, reduceLT]
def F_let (a : List V) : Option V := match a with
 | [.i .i32 (Int.ofNat n)] => some (.b (letB n))
 | _ => none
theorem o_let : ∀ a v, F_let a = some v → Comp tabx told 103 a v := fun a v e => by
 unfold F_let at e
 split at e
 · cases e; exact comp_of tells_noX (fn := af103) rfl (Nat.le_of_ble_eq_true rfl) fun gl => w_letter _ gl
 · cases e
theorem U105 : type_of% (@M_open _ _ B105.eq_1) := @M_open _ _ B105.eq_1
def kz105 (_ : Nat) : List Nat := []
theorem w_digit (c : Nat) (gl : Nat → List V) : M noX (kz105) (.code B105) [] (St.init gl 4 [.i .i32 c] {}) (Fin [.tmp 2] (.b (digB c))) := by
 have e1 : decide ((48 : Int) ≤ (c : Int)) = decide (48 ≤ c) := nz 48 c
 have e2 : decide ((c : Int) ≤ (57 : Int)) = decide (c ≤ 57) := nz c 57
 rw [U105]
 simp only [e1, e2, go_sem, reduceIte, reduceMul, reduceAdd, reduceSub, reduceEqDiff, reduceLeDiff, reduceLT]
 cases f1 : decide (48 ≤ c) <;> simp only [f1, e2, digB, go_sem, reduceIte, reduceMul, reduceAdd, reduceSub, reduceEqDiff, reduceLeDiff, reduceLT]
def F_dig (a : List V) : Option V := match a with
 | [.i .i32 (Int.ofNat n)] => some (.b (digB n))
 | _ => none
theorem o_dig : ∀ a v, F_dig a = some v → Comp tabx told 105 a v := fun a v e => by
 unfold F_dig at e
 split at e
 · cases e; exact comp_of tells_noX (fn := af105) rfl (Nat.le_of_ble_eq_true rfl) fun gl => w_digit _ gl
 · cases e
theorem ne_ (a b : Nat) : decide ((a : Int) = (b : Int)) = (a == b) := by
 rw [show (a == b) = decide (a = b) from rfl]
 exact decide_eq_decide.2 Int.ofNat_inj
theorem U106 : type_of% (@M_open _ _ B106.eq_1) := @M_open _ _ B106.eq_1
def kz106 (_ : Nat) : List Nat := []
theorem w_sign (c : Nat) (gl : Nat → List V) : M noX (kz106) (.code B106) [] (St.init gl 4 [.i .i32 c] {}) (Fin [.tmp 2] (.b (sgnB c))) := by
 have e1 : decide ((c : Int) = 40) = (c == 40) := ne_ c 40
 have e2 : decide ((c : Int) = 41) = (c == 41) := ne_ c 41
 have e3 : decide ((c : Int) = 61) = (c == 61) := ne_ c 61
 have e4 : decide ((c : Int) = 94) = (c == 94) := ne_ c 94
 have e5 : decide ((c : Int) = 60) = (c == 60) := ne_ c 60
 have e6 : decide ((c : Int) = 62) = (c == 62) := ne_ c 62
 have e7 : decide ((c : Int) = 44) = (c == 44) := ne_ c 44
 rw [U106]
 simp only [e1, e2, e3, e4, e5, e6, e7, go_sem, reduceIte, reduceMul, reduceAdd, reduceSub, reduceEqDiff, reduceLeDiff, reduceLT]
 cases f1 : (c == 40) with
 | true => simp only [f1, sgnB, go_sem, reduceIte, reduceMul, reduceAdd, reduceSub, reduceEqDiff, reduceLeDiff, reduceLT]
 | false =>
 cases f2 : (c == 41) with
 | true => simp only [f1, f2, e1, e2, e3, e4, e5, e6, e7, sgnB, go_sem, reduceIte, reduceMul, reduceAdd, reduceSub, reduceEqDiff, reduceLeDiff, reduceLT]
 | false =>
 cases f3 : (c == 61) with
 | true => simp only [f1, f2, f3, e1, e2, e3, e4, e5, e6, e7, sgnB, go_sem, reduceIte, reduceMul, reduceAdd, reduceSub, reduceEqDiff, reduceLeDiff, reduceLT]
 | false =>
 cases f4 : (c == 94) with
 | true => simp only [f1, f2, f3, f4, e1, e2, e3, e4, e5, e6, e7, sgnB, go_sem, reduceIte, reduceMul, reduceAdd, reduceSub, reduceEqDiff, reduceLeDiff, reduceLT]
 | false =>
 cases f5 : (c == 60) with
 | true => simp only [f1, f2, f3, f4, f5, e1, e2, e3, e4, e5, e6, e7, sgnB, go_sem, reduceIte, reduceMul, reduceAdd, reduceSub, reduceEqDiff, reduceLeDiff, reduceLT]
 | false =>
 cases f6 : (c == 62) with
 | true => simp only [f1, f2, f3, f4, f5, f6, e1, e2, e3, e4, e5, e6, e7, sgnB, go_sem, reduceIte, reduceMul, reduceAdd, reduceSub, reduceEqDiff, reduceLeDiff, reduceLT]
 | false =>
 cases f7 : (c == 44) <;> simp only [f1, f2, f3, f4, f5, f6, f7, e1, e2, e3, e4, e5, e6, e7, sgnB, go_sem, reduceIte, reduceMul, reduceAdd, reduceSub, reduceEqDiff, reduceLeDiff, reduceLT]
def F_sgn (a : List V) : Option V := match a with
 | [.i .i32 (Int.ofNat n)] => some (.b (sgnB n))
 | _ => none
theorem o_sgn : ∀ a v, F_sgn a = some v → Comp tabx told 106 a v := fun a v e => by
 unfold F_sgn at e
 split at e
 · cases e; exact comp_of tells_noX (fn := af106) rfl (Nat.le_of_ble_eq_true rfl) fun gl => w_sign _ gl
 · cases e
def okB (n : Nat) : Bool := decide (n < 55296) || (decide (57343 < n) && decide (n ≤ 1114111))
theorem okB_iff (n : Nat) : okB n = true ↔ oks n := by simp only [okB, oks, Bool.or_eq_true, Bool.and_eq_true, decide_eq_true_eq]
theorem U161 : type_of% (@M_open _ _ B161.eq_1) := @M_open _ _ B161.eq_1
def kz161 (_ : Nat) : List Nat := []
theorem w_ValidRune (c : Nat) (gl : Nat → List V) : M noX (kz161) (.code B161) [] (St.init gl 5 [.i .i32 c] {}) (Fin [.tmp 2] (.b (okB c))) := by
 have e0 : decide ((0 : Int) ≤ (c : Int)) = true := decide_eq_true (by omega)
 have e1 : decide ((c : Int) < (55296 : Int)) = decide (c < 55296) := nl c 55296
 have e2 : decide ((57343 : Int) < (c : Int)) = decide (57343 < c) := nl 57343 c
 have e3 : decide ((c : Int) ≤ (1114111 : Int)) = decide (c ≤ 1114111) := nz c 1114111
 rw [U161]
 simp only [e0, e1, e2, e3, go_sem, reduceIte, reduceMul, reduceAdd, reduceSub, reduceEqDiff, reduceLeDiff, reduceLT]
 cases f1 : decide (c < 55296) with
 | true => simp only [f1, okB, go_sem, reduceIte, reduceMul, reduceAdd, reduceSub, reduceEqDiff, reduceLeDiff, reduceLT]
 | false =>
 cases f2 : decide (57343 < c) with
 | false => simp only [f1, f2, e0, e1, e2, e3, okB, go_sem, reduceIte, reduceMul, reduceAdd, reduceSub, reduceEqDiff, reduceLeDiff, reduceLT]
 | true =>
 cases f3 : decide (c ≤ 1114111) <;> simp only [f1, f2, f3, e0, e1, e2, e3, okB, go_sem, reduceIte, reduceMul, reduceAdd, reduceSub, reduceEqDiff, reduceLeDiff, reduceLT]
def F_vr (a : List V) : Option V := match a with
 | [.i .i32 (Int.ofNat n)] => some (.b (okB n))
 | _ => none
theorem o_vr : ∀ a v, F_vr a = some v → Comp tabx told 161 a v := fun a v e => by
 unfold F_vr at e
 split at e
 · cases e; exact comp_of tells_noX (fn := af161) rfl (Nat.le_of_ble_eq_true rfl) fun gl => w_ValidRune _ gl
 · cases e
theorem o_index : ∀ a v, indexV a = some v → Comp tabx told 160 a v := fun a v e => comp_prim (by show xf _ a = some v; exact e)
theorem o_decode : ∀ a v, decV a = some v → Comp tabx told 101 a v := fun a v e => comp_prim (by show xf _ a = some v; exact e)

/-! ### while -/
def wh (p : Nat → Bool) : List UInt8 → Nat
 | [] => 0
 | a :: r => bif p a.toNat then wh p r + 1 else 0
theorem wh_le (p : Nat → Bool) (l : List UInt8) : wh p l ≤ l.length := by
 induction l with
 | nil => exact Nat.le_refl _
 | cons a r ih => simp only [wh, List.length_cons]; cases p a.toNat <;> simp <;> omega
theorem dec_high {a : UInt8} {r : List UInt8} (h : ¬ a.toNat < 128) : 128 ≤ (dec (a :: r)).1 := Nat.le_of_not_lt fun hl => h (dec_low hl).1
def kindX (f : FuncId) (p : Nat → Bool) (g : FuncId) (a : List V) : Option V := bif Nat.beq g f then (match a with | [.i .i32 (Int.ofNat n)] => some (.b (p n)) | _ => none) else none
def K104_1 : List Fr := [.blk 0,
 .seq (Sr [Om 18 0, Owt 19 18, Om 4 19]
 .ret)]
theorem U104_1 : type_of% (@M_open _ _ L104_1.eq_1) := @M_open _ _ L104_1.eq_1
theorem U104 : type_of% (@M_open _ _ B104.eq_1) := @M_open _ _ B104.eq_1
def kz104 (_ : Nat) : List Nat := [2, 3, 4, 5, 6, 7, 9, 10, 11, 12, 13, 14, 15, 16, 17, 18, 19]
theorem w_while_loop (f : FuncId) (p : Nat → Bool) (hp : ∀ c, 128 ≤ c → p c = false) (s : List UInt8) (gl : Nat → List V) : ∀ (l : List UInt8) (pos : Nat), pos + l.length = s.length →
  M (kindX f p) (kz104) (.code L104_1) (.loop L104_1 :: K104_1) ⟨gl, (.node (.node E3 (.fn f [] []) E3) (.s s) (.node (.node (.node E1 (.it) E1) .any E2) .any E3)), [(8, (l, pos))], [], {}⟩ (Fin [.tmp 4] (.i .i64 ((pos + wh p l : Nat) : Int))) := by
 intro l
 induction l with
 | nil =>
   intro pos hl
   rw [U104_1]
   simp only [List.length_nil, Nat.add_zero] at hl
   subst hl
   simp only [K104_1, wh, Nat.add_zero, go_sem, reduceIte, reduceMul, reduceAdd, reduceSub, reduceEqDiff, reduceLeDiff, reduceLT]
 | cons a r ih =>
   intro pos hl
   rw [U104_1]
   have hk : ∀ c : Nat, kindX f p f [.i .i32 (c : Int)] = some (.b (p c)) := fun c => by simp [kindX]
   by_cases ha : a.toNat < 128
   · have hd := dec_ascii ha r
     cases hpa : p a.toNat with
     | true =>
       simp only [hd, hk, hpa, go_sem, reduceIte, reduceMul, reduceAdd, reduceSub, reduceEqDiff, reduceLeDiff, reduceLT]
       rw [M_loop]
       have := ih (pos + 1) (by simp only [List.length_cons] at hl; omega)
       rw [show wh p (a :: r) = wh p r + 1 from by simp [wh, hpa], show pos + (wh p r + 1) = pos + 1 + wh p r from by omega]
       simp only [kz104, K104_1, List.length_cons, List.length_nil, List.drop_succ_cons, List.drop_zero, go_sem, reduceIte, reduceMul, reduceAdd, reduceSub, reduceEqDiff, reduceLeDiff, reduceLT] at this ⊢
       exact this
     | false =>
       simp only [hd, hk, hpa, wh, Nat.add_zero, K104_1, go_sem, reduceIte, reduceMul, reduceAdd, reduceSub, reduceEqDiff, reduceLeDiff, reduceLT]
   · have h1 := hp _ (dec_high (r := r) ha)
     have h2 := hp _ (Nat.le_of_not_lt ha)
     simp only [hk, h1, h2, wh, Nat.add_zero, K104_1, go_sem, reduceIte, reduceMul, reduceAdd, reduceSub, reduceEqDiff, reduceLeDiff, reduceLT]
theorem w_while (f : FuncId) (p : Nat → Bool) (hp : ∀ c, 128 ≤ c → p c = false) (s : List UInt8) (gl : Nat → List V) :
  M (kindX f p) (kz104) (.code B104) [] (St.init gl 5 [.s s, .fn f [] []] {}) (Fin [.tmp 4] (.i .i64 (wh p s : Nat))) := by
 rw [U104]
 simp only [go_sem, reduceIte, reduceMul, reduceAdd, reduceSub, reduceEqDiff, reduceLeDiff, reduceLT]
 rw [M_loop]
 have := w_while_loop f p hp s gl s 0 (by omega)
 simp only [kz104, K104_1, List.length_cons, List.length_nil, Nat.zero_add, go_sem, reduceIte, reduceMul, reduceAdd, reduceSub, reduceEqDiff, reduceLeDiff, reduceLT] at this ⊢
 exact this
theorem tells_kind {f : FuncId} {p : Nat → Bool} {F : List V → Option V} (h : ∀ a v, F a = some v → Comp tabx told f a v) (hF : ∀ n : Nat, F [.i .i32 (n : Int)] = some (.b (p n))) : Tells tabx told (kindX f p) := by
 intro g a v e
 unfold kindX at e
 cases hb : Nat.beq g f with
 | false => rw [hb] at e; cases e
 | true =>
   rw [hb] at e
   have := Nat.eq_of_beq_eq_true hb
   subst this
   simp only [cond_true] at e
   split at e
   · cases e; exact h _ _ (hF _)
   · cases e
theorem let_hi (c : Nat) (h : 128 ≤ c) : letB c = false := by simp only [letB, Bool.and_eq_false_iff, decide_eq_false_iff_not]; omega
theorem dig_hi (c : Nat) (h : 128 ≤ c) : digB c = false := by simp only [digB, Bool.and_eq_false_iff, decide_eq_false_iff_not]; omega
def F_while (a : List V) : Option V := match a with
 | [.s s, .fn f [] []] => if f = 103 then some (.i .i64 (wh letB s : Nat)) else if f = 105 then some (.i .i64 (wh digB s : Nat)) else none
 | _ => none
theorem o_while : ∀ a v, F_while a = some v → Comp tabx told 104 a v := fun a v e => by
 unfold F_while at e
 split at e
 · split at e
   · rename_i h; subst h; cases e
     exact comp_of (tells_kind (p := letB) o_let fun _ => rfl) (fn := af104) rfl (Nat.le_of_ble_eq_true rfl) fun gl => w_while _ letB let_hi _ gl
   · split at e
     · rename_i h; subst h; cases e
       exact comp_of (tells_kind (p := digB) o_dig fun _ => rfl) (fn := af104) rfl (Nat.le_of_ble_eq_true rfl) fun gl => w_while _ digB dig_hi _ gl
     · cases e
 · cases e
def hexd (c : Nat) : Option Nat := if 48 ≤ c ∧ c ≤ 57 then some (c - 48) else if 97 ≤ c ∧ c ≤ 102 then some (c - 87) else none
def hexN (n : Nat) : List UInt8 → Option Nat
 | [] => some n
 | a :: r => match hexd a.toNat with
   | some d => hexN (16 * n + d) r
   | none => none
theorem hexd_lt {c d : Nat} (h : hexd c = some d) : d < 16 := by
 unfold hexd at h
 split at h
 · simp only [Option.some.injEq] at h; omega
 · split at h
   · simp only [Option.some.injEq] at h; omega
   · cases h
theorem hexd_hi {c : Nat} (h : 128 ≤ c) : hexd c = none := by
 unfold hexd
 rw [if_neg (by omega), if_neg (by omega)]
theorem shl4 {n : Nat} (h : n < 16777216) : shf true .i32 (n : Int) 4 = some (.i .i32 ((16 * n : Nat) : Int)) := by
 have e : wr .i32 ((n : Int) * 2 ^ 4) = ((16 * n : Nat) : Int) := by
  have : (n : Int) * 2 ^ 4 = ((16 * n : Nat) : Int) := by omega
  rw [this, wr32] <;> omega
 show some (V.i .i32 (wr .i32 ((n : Int) * 2 ^ 4))) = _
 rw [e]
theorem or16 {n d : Nat} (hn : n < 16777216) (hd : d < 16) : binI .or .i32 ((16 * n : Nat) : Int) (d : Int) = some (.i .i32 ((16 * n + d : Nat) : Int)) := by
 have e1 : ∀ x : Nat, x < 4294967296 → (BitVec.ofInt IntKind.i32.bits (x : Int)).toNat = x := by
  intro x hx
  show (BitVec.ofInt 32 (x : Int)).toNat = x
  rw [BitVec.toNat_ofInt]
  omega
 have e2 : (16 * n) ||| d = 16 * n + d := by
  have := Nat.two_pow_add_eq_or_of_lt (i := 4) (by simpa using hd) n
  rw [show 2 ^ 4 * n = 16 * n from by omega] at this
  exact this.symm
 show some (V.i .i32 (wr .i32 ((BitVec.ofInt IntKind.i32.bits ((16 * n : Nat) : Int) ||| BitVec.ofInt IntKind.i32.bits (d : Int)).toNat : Int))) = _
 rw [BitVec.toNat_or, e1 _ (by omega), e1 _ (by omega), e2, wr32] <;> omega
def hexV (s : List UInt8) : Nat × Nat :=
 if s.length < 3 ∨ s.head? ≠ some 123 ∨ Lib.indexByte s 125 < 2 ∨ 7 < Lib.indexByte s 125 then (0, 0) else
 match hexN 0 ((s.drop 1).take ((Lib.indexByte s 125).toNat - 1)) with
 | some n => if okB n then (n, (Lib.indexByte s 125).toNat + 1) else (0, 0)
 | none => (0, 0)
theorem index_le (l : List UInt8) (c : UInt8) : Lib.indexByte l c ≤ l.length ∧ (Lib.indexByte l c = l.length → l = [] ) := by
 induction l with
 | nil => simp [Lib.indexByte]
 | cons b r ih =>
   rw [Lib.indexByte]
   split
   · simp; omega
   · split
     · simp; omega
     · simp only [List.length_cons]; refine ⟨by omega, fun h => ?_⟩
       have h1 := ih.2 (by omega)
       subst h1
       rename_i h2
       simp [Lib.indexByte] at h2
theorem index_lt (l : List UInt8) (c : UInt8) (h : 0 ≤ Lib.indexByte l c) : Lib.indexByte l c < l.length := by
 obtain ⟨h1, h2⟩ := index_le l c
 rcases Int.lt_or_eq_of_le h1 with h3 | h3
 · exact h3
 · have := h2 h3; subst this; simp [Lib.indexByte] at h
def X_hex := xs [(160, indexV), (105, F_dig), (161, F_vr)]
theorem t_hex : Tells tabx told X_hex := tells_cons o_index (tells_cons o_dig (tells_cons o_vr tells_nil))
theorem hx_dig (c : Nat) : X_hex 105 [.i .i32 (c : Int)] = some (.b (digB c)) := rfl
theorem hx_vr (c : Nat) : X_hex 161 [.i .i32 (c : Int)] = some (.b (okB c)) := rfl
theorem hx_idx (s : List UInt8) : X_hex 160 [.s s, .i .u8 125] = some (.i .i64 (Lib.indexByte s 125)) := rfl
def K136_1 : List Fr := [.blk 0,
 .seq (.seq (Sr [Om 54 5, Oc 55 true 161 54, Ou 56 55]
 (.cond (.t 56)
 (Sr [Ox 2 (.i .i32 0), On 3 0]
 .ret)
 .skip))
 (Sr [Om 57 5, Om 58 4, Oz 59 .add 58 1, Om 2 57, Om 3 59]
 .ret))]
theorem U136_1 : type_of% (@M_open _ _ L136_1.eq_1) := @M_open _ _ L136_1.eq_1
theorem U136 : type_of% (@M_open _ _ B136.eq_1) := @M_open _ _ B136.eq_1
def kz136 (_ : Nat) : List Nat := [0, 1, 2, 3, 6, 7, 8, 9, 10, 11, 12, 13, 14, 15, 16, 17, 18, 19, 20, 21, 22, 23, 24, 25, 26, 27, 28, 30, 31, 32, 33, 34, 35, 36, 37, 38, 39, 40, 41, 42, 43, 44, 45, 46, 47, 48, 49, 50, 51, 52, 53, 54, 55, 56, 57, 58, 59]
theorem w_hex_loop (e : Nat) (he : e ≤ 7) (gl : Nat → List V) : ∀ (l : List UInt8) (n pos : Nat), n < 16 ^ (6 - l.length) → l.length ≤ 6 →
  M X_hex (kz136) (.code L136_1) (.loop L136_1 :: K136_1) ⟨gl, (.node (.node E4 .any (.node E3 (.i .i32 n) (.node E2 .any (.node E1 (.it) E1)))) .any (.node (.node E3 (.i .i64 e) E3) .any E4)), [(29, (l, pos))], [], {}⟩
   (Fin [.tmp 2, .tmp 3] (match hexN n l with | some m => (bif okB m then .tup [.i .i32 m, .i .i64 ((e + 1 : Nat) : Int)] else .tup [.i .i32 0, .i .i64 0]) | none => .tup [.i .i32 0, .i .i64 0])) := by
 intro l
 induction l with
 | nil =>
   intro n pos hn hl
   rw [U136_1]
   have w : wr .i64 ((e : Int) + 1) = ((e + 1 : Nat) : Int) := by rw [wr64] <;> omega
   cases hk : okB n with
   | true => simp only [K136_1, hexN, hx_vr, hk, w, go_sem, reduceIte, reduceMul, reduceAdd, reduceSub, reduceEqDiff, reduceLeDiff, reduceLT]
   | false => simp only [K136_1, hexN, hx_vr, hk, w, go_sem, reduceIte, reduceMul, reduceAdd, reduceSub, reduceEqDiff, reduceLeDiff, reduceLT]
 | cons a r ih =>
   intro n pos hn hl
   have hlen : r.length ≤ 5 := by simpa using hl
   have hn' : n < 16 ^ (5 - r.length) := by simpa [Nat.succ_sub_succ] using hn
   have hn5 : n < 1048576 := Nat.lt_of_lt_of_le hn' (Nat.le_trans (Nat.pow_le_pow_right (by omega) (show 5 - r.length ≤ 5 by omega)) (by decide))
   rw [U136_1]
   generalize hc : dec (a :: r) = cw
   have hcw : hexd cw.1 = hexd a.toNat ∧ (∀ d, hexd a.toNat = some d → cw = (a.toNat, 1)) := by
    by_cases ha : a.toNat < 128
    · rw [← hc, dec_ascii ha]; exact ⟨rfl, fun _ _ => rfl⟩
    · have h1 := hexd_hi (dec_high (r := r) ha)
      have h2 := hexd_hi (Nat.le_of_not_lt ha)
      rw [← hc, h1, h2]
      exact ⟨rfl, fun _ h => by cases h⟩
   have g1 : decide ((97 : Int) ≤ (cw.1 : Int)) = decide (97 ≤ cw.1) := nz 97 cw.1
   have g2 : decide ((cw.1 : Int) ≤ (102 : Int)) = decide (cw.1 ≤ 102) := nz cw.1 102
   have sh := shl4 (n := n) (by omega)
   cases hd : hexd a.toNat with
   | none =>
     rw [hd] at hcw
     have h3 := hcw.1
     unfold hexd at h3
     have hg : digB cw.1 = false := by
      simp only [digB, Bool.and_eq_false_iff, decide_eq_false_iff_not]
      by_cases h : 48 ≤ cw.1 ∧ cw.1 ≤ 57
      · rw [if_pos h] at h3; cases h3
      · omega
     have hq : ¬ (97 ≤ cw.1 ∧ cw.1 ≤ 102) := by
      intro h
      rw [if_neg (by omega), if_pos h] at h3
      cases h3
     simp only [hexN, hd]
     cases q1 : decide (97 ≤ cw.1) with
     | false => simp only [hc, hx_dig, hg, g1, g2, q1, K136_1, go_sem, reduceIte, reduceMul, reduceAdd, reduceSub, reduceEqDiff, reduceLeDiff, reduceLT]
     | true =>
       have q2 : decide (cw.1 ≤ 102) = false := by simp only [decide_eq_true_eq, decide_eq_false_iff_not] at q1 ⊢; omega
       simp only [hc, hx_dig, hg, g1, g2, q1, q2, K136_1, go_sem, reduceIte, reduceMul, reduceAdd, reduceSub, reduceEqDiff, reduceLeDiff, reduceLT]
   | some d =>
     have hcw2 := hcw.2 d hd
     have hd16 := hexd_lt hd
     have hor := or16 (n := n) (d := d) (by omega) hd16
     have hn2 : 16 * n + d < 16 ^ (6 - r.length) := by
      rw [show 6 - r.length = (5 - r.length) + 1 from by omega, Nat.pow_succ]; omega
     have := ih (16 * n + d) (pos + 1) hn2 (by omega)
     simp only [hexN, hd]
     have ha : cw.1 = a.toNat := by rw [hcw2]
     have hw : cw.2 = 1 := by rw [hcw2]
     unfold hexd at hd
     split at hd
     · rename_i h
       simp only [Option.some.injEq] at hd
       have hg : digB cw.1 = true := by simp only [digB, Bool.and_eq_true, decide_eq_true_eq]; omega
       have s1 : wr .i32 ((cw.1 : Int) - 48) = (d : Int) := by rw [wr32] <;> omega
       simp only [hc, hw, hx_dig, hg, sh, s1, hor, go_sem, reduceIte, reduceMul, reduceAdd, reduceSub, reduceEqDiff, reduceLeDiff, reduceLT]
       rw [M_loop]
       simp only [kz136, K136_1, List.length_cons, List.length_nil, List.drop_succ_cons, List.drop_zero, go_sem, reduceIte, reduceMul, reduceAdd, reduceSub, reduceEqDiff, reduceLeDiff, reduceLT] at this ⊢
       exact this
     · split at hd
       · rename_i h0 h
         simp only [Option.some.injEq] at hd
         have hg : digB cw.1 = false := by simp only [digB, Bool.and_eq_false_iff, decide_eq_false_iff_not]; omega
         have q1 : decide (97 ≤ cw.1) = true := by simp only [decide_eq_true_eq]; omega
         have q2 : decide (cw.1 ≤ 102) = true := by simp only [decide_eq_true_eq]; omega
         have s1 : wr .i32 ((cw.1 : Int) - 97) = ((d - 10 : Nat) : Int) := by rw [wr32] <;> omega
         have s2 : wr .i32 (((d - 10 : Nat) : Int) + 10) = (d : Int) := by rw [wr32] <;> omega
         simp only [hc, hw, hx_dig, hg, g1, g2, q1, q2, sh, s1, s2, hor, go_sem, reduceIte, reduceMul, reduceAdd, reduceSub, reduceEqDiff, reduceLeDiff, reduceLT]
         rw [M_loop]
         simp only [kz136, K136_1, List.length_cons, List.length_nil, List.drop_succ_cons, List.drop_zero, go_sem, reduceIte, reduceMul, reduceAdd, reduceSub, reduceEqDiff, reduceLeDiff, reduceLT] at this ⊢
         exact this
       · cases hd
def pairV (p : Nat × Nat) : V := .tup [.i .i32 p.1, .i .i64 p.2]
theorem w_hex (s : List UInt8) (gl : Nat → List V) : M X_hex (kz136) (.code B136) [] (St.init gl 6 [.s s] {}) (Fin [.tmp 2, .tmp 3] (pairV (hexV s))) := by
 rw [U136]
 have e1 : decide ((s.length : Int) < 3) = decide (s.length < 3) := nl s.length 3
 cases q1 : decide (s.length < 3) with
 | true =>
   have : hexV s = (0, 0) := if_pos (.inl (by simpa using q1))
   simp only [hx_idx, e1, q1, this, pairV, go_sem, reduceIte, reduceMul, reduceAdd, reduceSub, reduceEqDiff, reduceLeDiff, reduceLT]
   rfl
 | false =>
   have h3 : ¬ s.length < 3 := by simpa using q1
   cases s with
   | nil => simp at h3
   | cons a r =>
     have e2 : (a :: r)[0]? = some a := rfl
     have e4 : decide (((r.length + 1 : Nat) : Int) < 3) = false := decide_eq_false (by simp only [List.length_cons] at h3; omega)
     have e3 : decide (((a.toNat : Nat) : Int) = 123) = decide (a = 123) := decide_eq_decide.2 ⟨fun h => UInt8.toNat_inj.1 (by show a.toNat = 123; omega), fun h => by rw [h]; rfl⟩
     cases q2 : decide (a = 123) with
     | false =>
       have : hexV (a :: r) = (0, 0) := if_pos (.inr (.inl (by simpa using q2)))
       simp only [hx_idx, e4, e3, List.getElem?_cons_zero, q2, this, pairV, Nat.zero_lt_succ, go_sem, reduceIte, reduceMul, reduceAdd, reduceSub, reduceEqDiff, reduceLeDiff, reduceLT]
       rfl
     | true =>
       have ha : a = 123 := by simpa using q2
       cases q3 : decide (Lib.indexByte (a :: r) 125 < 2) with
       | true =>
         have : hexV (a :: r) = (0, 0) := if_pos (.inr (.inr (.inl (by simpa using q3))))
         simp only [hx_idx, e4, e3, List.getElem?_cons_zero, q2, q3, this, pairV, Nat.zero_lt_succ, go_sem, reduceIte, reduceMul, reduceAdd, reduceSub, reduceEqDiff, reduceLeDiff, reduceLT]
         rfl
       | false =>
         cases q4 : decide ((7 : Int) < Lib.indexByte (a :: r) 125) with
         | true =>
           have : hexV (a :: r) = (0, 0) := if_pos (.inr (.inr (.inr (by simpa using q4))))
           simp only [hx_idx, e4, e3, List.getElem?_cons_zero, q2, q3, q4, this, pairV, Nat.zero_lt_succ, go_sem, reduceIte, reduceMul, reduceAdd, reduceSub, reduceEqDiff, reduceLeDiff, reduceLT]
           rfl
         | false =>
           have i1 : ¬ Lib.indexByte (a :: r) 125 < 2 := by simpa using q3
           have i2 : ¬ 7 < Lib.indexByte (a :: r) 125 := by simpa using q4
           have i3 := index_lt (a :: r) 125 (by omega)
           have hv : hexV (a :: r) = match hexN 0 (r.take ((Lib.indexByte (a :: r) 125).toNat - 1)) with
            | some n => if okB n then (n, (Lib.indexByte (a :: r) 125).toNat + 1) else (0, 0)
            | none => (0, 0) := if_neg (by
              rintro (h | h | h | h)
              · exact h3 h
              · exact h (by rw [ha]; rfl)
              · exact i1 h
              · exact i2 h)
           generalize hi : Lib.indexByte (a :: r) 125 = ix at *
           obtain ⟨e, rfl⟩ : ∃ e : Nat, ix = (e : Int) := ⟨ix.toNat, by omega⟩
           simp only [Int.toNat_natCast] at hv
           have b1 : 1 ≤ e := by omega
           have b2 : e ≤ r.length + 1 := by simp only [List.length_cons] at i3; omega
           simp only [hx_idx, hi, e4, e3, List.getElem?_cons_zero, q2, q3, q4, b1, b2, Nat.le_refl, Nat.zero_lt_succ, go_sem, reduceIte, reduceMul, reduceAdd, reduceSub, reduceEqDiff, reduceLeDiff, reduceLT]
           rw [M_loop]
           have hl : (r.take (e - 1)).length ≤ 6 := by simp only [List.length_take]; omega
           have := w_hex_loop e (by omega) gl (r.take (e - 1)) 0 0 (Nat.pow_pos (by omega)) hl
           rw [hv]
           have hfin : (match hexN 0 (r.take (e - 1)) with | some m => (bif okB m then V.tup [.i .i32 m, .i .i64 ((e + 1 : Nat) : Int)] else .tup [.i .i32 0, .i .i64 0]) | none => .tup [.i .i32 0, .i .i64 0]) =
            pairV (match hexN 0 (r.take (e - 1)) with | some n => if okB n then (n, e + 1) else (0, 0) | none => (0, 0)) := by
            cases hexN 0 (r.take (e - 1)) with
            | none => rfl
            | some m => cases h : okB m <;> simp [pairV, h]
           rw [hfin] at this
           simp only [kz136, K136_1, List.length_cons, List.length_nil, Int.natCast_zero, Int.cast_ofNat_Int, go_sem, reduceIte, reduceMul, reduceAdd, reduceSub, reduceEqDiff, reduceLeDiff, reduceLT] at this ⊢
           exact this
def F_lhex (a : List V) : Option V := match a with
 | [.s s] => some (pairV (hexV s))
 | _ => none
theorem o_lhex : ∀ a v, F_lhex a = some v → Comp tabx told 136 a v := fun a v e => by
 unfold F_lhex at e
 split at e
 · cases e; exact comp_of t_hex (fn := af136) rfl (Nat.le_of_ble_eq_true rfl) fun gl => w_hex _ gl
 · cases e
end Go.Proofs.YtpcjhfchpelonaaGreatDoor
