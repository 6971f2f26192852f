/- 'LangNobody' returns true for every input: proved, no condition. -/
import Derived.Test.YtbhclhgljnoioaaDoorAiPr
import Derived.Test.YtbhclhgljnoioaaDoorTab
import Derived.Test.YtbhclhgljnoioaaDoorCards
import Derived.Test.YtbhclhgljnoioaaDoorTie
import Derived.WalkKit
import Derived.ProofKit
import Derived.OpenShut
import Derived.ShutString
import Derived.ChangeOld
import Derived.LaidMore
import Derived.Stop.Joined
import Derived.SevenTiedAt
import Derived.Below
namespace Go.Proofs.YtbhclhgljnoioaaDoor
open Ai Go.Shelf

def renn156 : Go.Shelf.Ren := ⟨fun x => (al [(156, 66), (165, 56), (166, 33), (169, 35), (240, 62), (241, 78), (276, 82), (277, 99)] x).getD 0, fun x => (al [(0, 0), (3, 3), (4, 4), (5, 5), (9, 9), (20, 20), (31, 106), (37, 55), (70, 54), (72, 57), (75, 59), (76, 61), (80, 65), (127, 104), (164, 122)] x).getD 0, fun x => (al [] x).getD 0⟩
theorem lays156 : Go.Proofs.Lays.n156 Tryd.prog renn156 := {
  mixed := by kernel_rfl,
  f156 := by kernel_rfl,
  f165 := by kernel_rfl,
  f166 := by kernel_rfl,
  f169 := by kernel_rfl,
  f240 := by kernel_rfl,
  f241 := by kernel_rfl,
  f276 := by kernel_rfl,
  f277 := by kernel_rfl,
  t0 := by kernel_rfl,
  a0 := fun _ => by kernel_rfl,
  z0 := fun _ => by kernel_rfl,
  v0 := fun _ => by kernel_rfl,
  t3 := by kernel_rfl,
  a3 := fun _ => by kernel_rfl,
  z3 := fun _ => by kernel_rfl,
  v3 := fun _ => by kernel_rfl,
  t4 := by kernel_rfl,
  a4 := fun _ => by kernel_rfl,
  z4 := fun _ => by kernel_rfl,
  v4 := fun _ => by kernel_rfl,
  t9 := by kernel_rfl,
  a9 := fun _ => by kernel_rfl,
  z9 := fun _ => by kernel_rfl,
  v9 := fun _ => by kernel_rfl,
  t20 := by kernel_rfl,
  a20 := fun _ => by kernel_rfl,
  z20 := fun _ => by kernel_rfl,
  v20 := fun _ => by kernel_rfl,
  t31 := by kernel_rfl,
  a31 := fun _ => by kernel_rfl,
  z31 := fun _ => by kernel_rfl,
  v31 := fun _ => by kernel_rfl,
  t37 := by kernel_rfl,
  a37 := fun _ => by kernel_rfl,
  z37 := fun _ => by kernel_rfl,
  v37 := fun _ => by kernel_rfl,
  t70 := by kernel_rfl,
  a70 := fun _ => by kernel_rfl,
  z70 := fun _ => by kernel_rfl,
  v70 := fun _ => by kernel_rfl,
  t72 := by kernel_rfl,
  a72 := fun _ => by kernel_rfl,
  z72 := fun _ => by kernel_rfl,
  v72 := fun _ => by kernel_rfl,
  t75 := by kernel_rfl,
  a75 := fun _ => by kernel_rfl,
  z75 := fun _ => by kernel_rfl,
  v75 := fun _ => by kernel_rfl,
  t76 := by kernel_rfl,
  a76 := fun _ => by kernel_rfl,
  z76 := fun _ => by kernel_rfl,
  v76 := fun _ => by kernel_rfl,
  t127 := by kernel_rfl,
  a127 := fun _ => by kernel_rfl,
  z127 := fun _ => by kernel_rfl,
  v127 := fun _ => by kernel_rfl,
  t164 := by kernel_rfl,
  a164 := fun _ => by kernel_rfl,
  z164 := fun _ => by kernel_rfl,
  v164 := fun _ => by kernel_rfl }

theorem extra156 : Go.Proofs.Builder.Extra Tryd.prog renn156 := {
  sizeBuilder := by kernel_rfl, liesBuilder := by kernel_rfl,
  t5 := by kernel_rfl, a5 := fun _ => by kernel_rfl, z5 := fun _ => by kernel_rfl, v5 := fun _ => by kernel_rfl, infoByte := by kernel_rfl, cellsByte := by kernel_rfl, sizeByte := by kernel_rfl, neB5 := by decide }

/-- What is told: strings.Join. -/
def xf (g : FuncId) (a : List V) : Option V := bif Nat.beq g 66 then joinV a else none
def tabx (g : FuncId) : Option AFunc := bif Nat.beq g 66 then none else tab g
def told (g : FuncId) (a : List V) (v : V) : Prop := xf g a = some v


theorem tab_ok (g : FuncId) (fn : AFunc) (h : tabx g = some fn) : fnOk Tryd.prog kn g fn = true := by
  unfold tabx at h
  cases hb : Nat.beq g 66 with
  | true => rw [hb] at h; cases h
  | false =>
    rw [hb] at h
    exact List.all_eq_true.1 lst_ok (g, fn) (al_mem h)

theorem good : Ai.Good Tryd.prog kn tabx told where
  known := fun f hf v w => by
    have : f = 82 := by simpa [kn] using hf
    subst this
    show (callFunc 82 #[v]).run Tryd.prog w = .ok (.value v) w
    kernel_rfl
  tab := tab_ok
  prim := fun g args v h => by
    unfold told xf at h
    cases hb : Nat.beq g 66 with
    | false => rw [hb] at h; cases h
    | true =>
      rw [hb] at h
      have := Nat.eq_of_beq_eq_true hb
      subst this
      exact join_ok (ρ := renn156) lays156 extra156 lays156.f156 (by kernel_rfl) (by kernel_rfl) h

theorem t0 (a : UInt8) (r : List UInt8) : runF (fun _ => []) tabx xf 20000 8 [.i .i64 (Int.ofNat 0), .s (a :: r)] = some (.b true) := by kernel_rfl
theorem t1 : runF (fun _ => []) tabx xf 20000 8 [.i .i64 (Int.ofNat 0), .s []] = some (.b true) := by kernel_rfl
theorem t2 (n : Nat) (s : List UInt8) : runF (fun _ => []) tabx xf 20000 8 [.i .i64 (Int.ofNat (n + 1)), .s s] = some (.b true) := by kernel_rfl
theorem t3 (n : Nat) (s : List UInt8) : runF (fun _ => []) tabx xf 20000 8 [.i .i64 (Int.negSucc n), .s s] = some (.b true) := by kernel_rfl
theorem run_true (k : Int) (s : List UInt8) : runF (fun _ => []) tabx xf 20000 8 [.i .i64 k, .s s] = some (.b true) := by
  cases k with
  | ofNat n => cases n with
    | zero => cases s with
      | nil => exact t1
      | cons a r => exact t0 a r
    | succ n => exact t2 n s
  | negSucc n => exact t3 n s

theorem walk (k : Int) (s : ByteArray) (W : World) : Calls Tryd.prog 8 #[.int .i64 k, .string s] W fun e W' => e = .returned (.bool true) ∧ Go.RowKit.Below W.heap.size W W' :=
  true_of_runF good (fun _ _ _ h => h) (run_true k s.data.toList) ⟨rfl, fun j hj => by
    match j, hj with
    | 0, _ => exact .i .i64 k
    | 1, _ => exact .s _ s rfl⟩

end Go.Proofs.YtbhclhgljnoioaaDoor
