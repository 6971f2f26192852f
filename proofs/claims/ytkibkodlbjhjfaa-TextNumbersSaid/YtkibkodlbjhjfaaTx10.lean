/- The number that a text is: the document's way. -/
import Derived.Test.YtkibkodlbjhjfaaTx9
set_option linter.unusedSimpArgs false
set_option linter.unusedVariables false
namespace Go.Proofs.Ytkibkodlbjhjfaa
open Ai
def dig (c : UInt8) : Bool := decide (48 ≤ c.toNat) && decide (c.toNat ≤ 57)
def dv (n : Nat) (l : List UInt8) : Nat := l.foldl (fun n c => 10 * n + (c.toNat - 48)) n
theorem dv_nil (n : Nat) : dv n [] = n := rfl
theorem dv_cons (n : Nat) (a : UInt8) (r : List UInt8) : dv n (a :: r) = dv (10 * n + (a.toNat - 48)) r := by simp only [dv, List.foldl_cons]
theorem dv_ge (l : List UInt8) : ∀ n, n ≤ dv n l := by
  induction l with
  | nil => intro n; exact Nat.le_refl _
  | cons a r ih => intro n; rw [dv_cons]; have := ih (10 * n + (a.toNat - 48)); omega
def endR (neg : Bool) (v : Nat) : V := if 9223372036854775808 < v then numE 0 5 else if neg = true then numE (-(v : Int)) 0 else if v = 9223372036854775808 then numE 0 5 else numE v 0

def K15_2 : List Fr := [.blk 2,
  .seq (.seq (.seq (.reg [⟨some 83, .mov (.t 4), none⟩,
        ⟨some 84, .len .str (.t 83), none⟩,
        ⟨some 85, .mov (.t 0), none⟩,
        ⟨some 86, .len .str (.t 85), none⟩,
        ⟨some 87, .bin .lss (.t 84) (.t 86), none⟩])
     (.cond (.t 87)
      (.seq (.reg [⟨some 88, .mov (.t 5), none⟩,
         ⟨some 2, .mov (.t 88), none⟩,
         ⟨some 3, .mov (.k (.i .i64 0)), none⟩])
      .ret)
      .skip))
    (.seq (.seq (.reg [⟨some 89, .mov (.t 5), none⟩,
        ⟨some 90, .bin .eql (.t 89) (.k (.i .i64 (-9223372036854775808))), none⟩])
     (.cond (.t 90)
      (.seq (.reg [⟨some 2, .mov (.k (.i .i64 0)), none⟩,
         ⟨some 3, .mov (.k (.i .i64 5)), none⟩])
      .ret)
      .skip))
    (.seq (.reg [⟨some 91, .mov (.t 5), none⟩,
       ⟨some 92, .un .neg (.t 91), none⟩,
       ⟨some 2, .mov (.t 92), none⟩,
       ⟨some 3, .mov (.k (.i .i64 0)), none⟩])
    .ret)))]
theorem U15_2 {xf : FuncId → List V → Option V} {kz : Nat → List Nat} {k : List Fr} {st : St} {Q : AEx → St → Prop} : M xf kz (.code L15_2) k st Q = M xf kz (.code (.seq (.reg [⟨some 61, .bin .lss (.t 60) (.t 59), none⟩])
  (.seq (.cond (.t 61)
    .skip
    (.exit 2))
  (.seq (.blk 3 (.seq (.reg [⟨some 62, .mov (.t 60), none⟩,
       ⟨some 7, .mov (.t 62), none⟩])
    (.seq (.reg [⟨some 63, .mov (.t 4), none⟩,
       ⟨some 64, .mov (.t 7), none⟩,
       ⟨some 65, .idx .str (.t 63) (.t 64), none⟩,
       ⟨some 66, .bin .sub (.t 65) (.k (.i .u8 48)), none⟩,
       ⟨some 67, .conv (.int .i64) (.t 66), none⟩,
       ⟨some 8, .mov (.t 67), none⟩])
    (.seq (.seq (.reg [⟨some 68, .mov (.t 5), none⟩,
        ⟨some 69, .bin .lss (.t 68) (.k (.i .i64 (-922337203685477580))), none⟩,
        ⟨some 70, .mov (.t 69), none⟩,
        ⟨some 71, .mov (.t 5), some (70, false)⟩,
        ⟨some 72, .bin .eql (.t 71) (.k (.i .i64 (-922337203685477580))), some (70, false)⟩,
        ⟨some 73, .mov (.t 72), some (70, false)⟩,
        ⟨some 74, .mov (.t 8), some (73, true)⟩,
        ⟨some 75, .bin .gtr (.t 74) (.k (.i .i64 8)), some (73, true)⟩,
        ⟨some 76, .pick (.t 73) (.t 75) (.k (.b false)), some (70, false)⟩,
        ⟨some 77, .pick (.t 70) (.k (.b true)) (.t 76), none⟩])
     (.cond (.t 77)
      (.seq (.reg [⟨some 2, .mov (.k (.i .i64 0)), none⟩,
         ⟨some 3, .mov (.k (.i .i64 5)), none⟩])
      .ret)
      .skip))
    (.reg [⟨some 78, .mov (.t 5), none⟩,
      ⟨some 79, .bin .mul (.k (.i .i64 10)) (.t 78), none⟩,
      ⟨some 80, .mov (.t 8), none⟩,
      ⟨some 81, .bin .sub (.t 79) (.t 80), none⟩,
      ⟨some 5, .mov (.t 81), none⟩])))))
  (.reg [⟨some 82, .bin .add (.t 60) (.k (.i .i64 1)), none⟩,
    ⟨some 60, .mov (.t 82), none⟩]))))) k st Q := rfl
def K15_1 : List Fr := [.blk 0,
  .seq (.seq (.seq (.reg [⟨some 58, .mov (.t 4), none⟩,
        ⟨some 59, .len .str (.t 58), none⟩,
        ⟨some 60, .mov (.k (.i .i64 0)), none⟩])
     (.blk 2 (.loop L15_2)))
    (.seq (.seq (.reg [⟨some 83, .mov (.t 4), none⟩,
        ⟨some 84, .len .str (.t 83), none⟩,
        ⟨some 85, .mov (.t 0), none⟩,
        ⟨some 86, .len .str (.t 85), none⟩,
        ⟨some 87, .bin .lss (.t 84) (.t 86), none⟩])
     (.cond (.t 87)
      (.seq (.reg [⟨some 88, .mov (.t 5), none⟩,
         ⟨some 2, .mov (.t 88), none⟩,
         ⟨some 3, .mov (.k (.i .i64 0)), none⟩])
      .ret)
      .skip))
    (.seq (.seq (.reg [⟨some 89, .mov (.t 5), none⟩,
        ⟨some 90, .bin .eql (.t 89) (.k (.i .i64 (-9223372036854775808))), none⟩])
     (.cond (.t 90)
      (.seq (.reg [⟨some 2, .mov (.k (.i .i64 0)), none⟩,
         ⟨some 3, .mov (.k (.i .i64 5)), none⟩])
      .ret)
      .skip))
    (.seq (.reg [⟨some 91, .mov (.t 5), none⟩,
       ⟨some 92, .un .neg (.t 91), none⟩,
       ⟨some 2, .mov (.t 92), none⟩,
       ⟨some 3, .mov (.k (.i .i64 0)), none⟩])
    .ret))))]
theorem U15_1 {xf : FuncId → List V → Option V} {kz : Nat → List Nat} {k : List Fr} {st : St} {Q : AEx → St → Prop} : M xf kz (.code L15_1) k st Q = M xf kz (.code (.seq (.reg [⟨some 45, .bin .lss (.t 44) (.t 43), none⟩])
  (.seq (.cond (.t 45)
    .skip
    (.exit 0))
  (.seq (.blk 1 (.seq (.reg [⟨some 46, .mov (.t 44), none⟩,
       ⟨some 6, .mov (.t 46), none⟩])
    (.seq (.reg [⟨some 47, .mov (.t 4), none⟩,
       ⟨some 48, .mov (.t 6), none⟩,
       ⟨some 49, .idx .str (.t 47) (.t 48), none⟩,
       ⟨some 50, .bin .lss (.t 49) (.k (.i .u8 48)), none⟩,
       ⟨some 51, .mov (.t 50), none⟩,
       ⟨some 52, .mov (.t 4), some (51, false)⟩,
       ⟨some 53, .mov (.t 6), some (51, false)⟩,
       ⟨some 54, .idx .str (.t 52) (.t 53), some (51, false)⟩,
       ⟨some 55, .bin .gtr (.t 54) (.k (.i .u8 57)), some (51, false)⟩,
       ⟨some 56, .pick (.t 51) (.k (.b true)) (.t 55), none⟩])
    (.cond (.t 56)
     (.seq (.reg [⟨some 2, .mov (.k (.i .i64 0)), none⟩,
        ⟨some 3, .mov (.k (.i .i64 23)), none⟩])
     .ret)
     .skip))))
  (.reg [⟨some 57, .bin .add (.t 44) (.k (.i .i64 1)), none⟩,
    ⟨some 44, .mov (.t 57), none⟩]))))) k st Q := rfl
theorem U15 {xf : FuncId → List V → Option V} {kz : Nat → List Nat} {k : List Fr} {st : St} {Q : AEx → St → Prop} : M xf kz (.code B15) k st Q = M xf kz (.code (.seq (.reg [⟨some 2, .mov (.k (.i .i64 0)), none⟩,
     ⟨some 3, .mov (.k (.i .i64 0)), none⟩])
  (.seq (.reg [⟨some 9, .mov (.t 0), none⟩,
     ⟨some 4, .mov (.t 9), none⟩])
  (.seq (.seq (.reg [⟨some 10, .mov (.t 0), none⟩,
      ⟨some 11, .len .str (.t 10), none⟩,
      ⟨some 12, .bin .gtr (.t 11) (.k (.i .i64 0)), none⟩,
      ⟨some 13, .mov (.t 12), none⟩,
      ⟨some 14, .mov (.t 0), some (13, true)⟩,
      ⟨some 15, .idx .str (.t 14) (.k (.i .i64 0)), some (13, true)⟩,
      ⟨some 16, .bin .eql (.t 15) (.k (.i .u8 45)), some (13, true)⟩,
      ⟨some 17, .pick (.t 13) (.t 16) (.k (.b false)), none⟩])
   (.cond (.t 17)
    (.reg [⟨some 18, .mov (.t 0), none⟩,
      ⟨some 19, .slc .str (.t 18) (some (.k (.i .i64 1))) none none, none⟩,
      ⟨some 4, .mov (.t 19), none⟩])
    .skip))
  (.seq (.seq (.reg [⟨some 20, .mov (.t 4), none⟩,
      ⟨some 21, .len .str (.t 20), none⟩,
      ⟨some 22, .bin .lss (.t 21) (.k (.i .i64 1)), none⟩,
      ⟨some 23, .mov (.t 22), none⟩,
      ⟨some 24, .mov (.t 4), some (23, false)⟩,
      ⟨some 25, .len .str (.t 24), some (23, false)⟩,
      ⟨some 26, .bin .gtr (.t 25) (.k (.i .i64 19)), some (23, false)⟩,
      ⟨some 27, .pick (.t 23) (.k (.b true)) (.t 26), none⟩,
      ⟨some 28, .mov (.t 27), none⟩,
      ⟨some 29, .mov (.t 4), some (28, false)⟩,
      ⟨some 30, .len .str (.t 29), some (28, false)⟩,
      ⟨some 31, .bin .gtr (.t 30) (.k (.i .i64 1)), some (28, false)⟩,
      ⟨some 32, .mov (.t 31), some (28, false)⟩,
      ⟨some 33, .mov (.t 4), some (32, true)⟩,
      ⟨some 34, .idx .str (.t 33) (.k (.i .i64 0)), some (32, true)⟩,
      ⟨some 35, .bin .eql (.t 34) (.k (.i .u8 48)), some (32, true)⟩,
      ⟨some 36, .pick (.t 32) (.t 35) (.k (.b false)), some (28, false)⟩,
      ⟨some 37, .pick (.t 28) (.k (.b true)) (.t 36), none⟩,
      ⟨some 38, .mov (.t 37), none⟩,
      ⟨some 39, .mov (.t 0), some (38, false)⟩,
      ⟨some 40, .bin .eql (.t 39) (.k (.s [45, 48])), some (38, false)⟩,
      ⟨some 41, .pick (.t 38) (.k (.b true)) (.t 40), none⟩])
   (.cond (.t 41)
    (.seq (.reg [⟨some 2, .mov (.k (.i .i64 0)), none⟩,
       ⟨some 3, .mov (.k (.i .i64 23)), none⟩])
    .ret)
    .skip))
  (.seq (.reg [⟨some 5, .mov (.k (.i .i64 0)), none⟩])
  (.seq (.seq (.reg [⟨some 42, .mov (.t 4), none⟩,
      ⟨some 43, .len .str (.t 42), none⟩,
      ⟨some 44, .mov (.k (.i .i64 0)), none⟩])
   (.blk 0 (.loop L15_1)))
  (.seq (.seq (.reg [⟨some 58, .mov (.t 4), none⟩,
      ⟨some 59, .len .str (.t 58), none⟩,
      ⟨some 60, .mov (.k (.i .i64 0)), none⟩])
   (.blk 2 (.loop L15_2)))
  (.seq (.seq (.reg [⟨some 83, .mov (.t 4), none⟩,
      ⟨some 84, .len .str (.t 83), none⟩,
      ⟨some 85, .mov (.t 0), none⟩,
      ⟨some 86, .len .str (.t 85), none⟩,
      ⟨some 87, .bin .lss (.t 84) (.t 86), none⟩])
   (.cond (.t 87)
    (.seq (.reg [⟨some 88, .mov (.t 5), none⟩,
       ⟨some 2, .mov (.t 88), none⟩,
       ⟨some 3, .mov (.k (.i .i64 0)), none⟩])
    .ret)
    .skip))
  (.seq (.seq (.reg [⟨some 89, .mov (.t 5), none⟩,
      ⟨some 90, .bin .eql (.t 89) (.k (.i .i64 (-9223372036854775808))), none⟩])
   (.cond (.t 90)
    (.seq (.reg [⟨some 2, .mov (.k (.i .i64 0)), none⟩,
       ⟨some 3, .mov (.k (.i .i64 5)), none⟩])
    .ret)
    .skip))
  (.seq (.reg [⟨some 91, .mov (.t 5), none⟩,
     ⟨some 92, .un .neg (.t 91), none⟩,
     ⟨some 2, .mov (.t 92), none⟩,
     ⟨some 3, .mov (.k (.i .i64 0)), none⟩])
  .ret))))))))))) k st Q := rfl
def kz15 (_ : Nat) : List Nat := [1, 2, 3, 6, 7, 8, 9, 10, 11, 12, 13, 14, 15, 16, 17, 18, 19, 20, 21, 22, 23, 24, 25, 26, 27, 28, 29, 30, 31, 32, 33, 34, 35, 36, 37, 38, 39, 40, 41, 42, 45, 46, 47, 48, 49, 50, 51, 52, 53, 54, 55, 56, 57, 58, 61, 62, 63, 64, 65, 66, 67, 68, 69, 70, 71, 72, 73, 74, 75, 76, 77, 78, 79, 80, 81, 82, 83, 84, 85, 86, 87, 88, 89, 90, 91, 92]
theorem w_rN_end (s d : List UInt8) (p : Nat) (hp : p ≤ 9223372036854775808) (x43 x44 x59 x60 : V) (its) (h : H) (gl : Nat → List V) :
    M noX (kz15) (.ex (.exit 2)) K15_2 ⟨gl, (.node (.node (.node (.node (.node (.node (.node .leaf .any .leaf) .any (.node .leaf .any .leaf)) .any (.node (.node .leaf .any .leaf) .any (.node .leaf .any .leaf))) .any (.node (.node (.node .leaf .any .leaf) .any (.node .leaf .any .leaf)) .any (.node (.node .leaf .any .leaf) .any (.node .leaf .any .leaf)))) .any (.node (.node (.node (.node .leaf .any .leaf) .any (.node .leaf .any .leaf)) .any (.node (.node .leaf .any .leaf) .any (.node .leaf .any .leaf))) .any (.node (.node (.node .leaf .any .leaf) (x43) (.node .leaf .any .leaf)) .any (.node (.node .leaf .any .leaf) (x59) (.node .leaf .any .leaf))))) .any (.node (.node (.node (.node (.node .leaf .any .leaf) .any (.node .leaf .any .leaf)) .any (.node (.node .leaf .any .leaf) .any (.node .leaf .any .leaf))) .any (.node (.node (.node .leaf .any .leaf) .any (.node .leaf .any .leaf)) .any (.node (.node .leaf .any .leaf) .any (.node .leaf .any .leaf)))) (.i .i64 (-(p : Int))) (.node (.node (.node (.node .leaf .any .leaf) .any (.node .leaf .any .leaf)) .any (.node (.node .leaf .any .leaf) .any (.node .leaf .any .leaf))) .any (.node (.node (.node .leaf .any .leaf) .any (.node .leaf .any .leaf)) .any (.node (.node .leaf .any .leaf) (.b false) (.node .leaf .any .leaf)))))) (.s s) (.node (.node (.node (.node (.node (.node .leaf .any .leaf) .any (.node .leaf .any .leaf)) .any (.node (.node .leaf .any .leaf) .any (.node .leaf .any .leaf))) .any (.node (.node (.node .leaf .any .leaf) .any (.node .leaf .any .leaf)) .any (.node (.node .leaf .any .leaf) .any (.node .leaf .any .leaf)))) (.s d) (.node (.node (.node (.node .leaf .any .leaf) .any (.node .leaf .any .leaf)) .any (.node (.node .leaf .any .leaf) .any (.node .leaf .any .leaf))) .any (.node (.node (.node .leaf .any .leaf) (x44) (.node .leaf .any .leaf)) .any (.node (.node .leaf .any .leaf) (x60) (.node .leaf .any .leaf))))) .any (.node (.node (.node (.node (.node .leaf .any .leaf) .any (.node .leaf .any .leaf)) .any (.node (.node .leaf .any .leaf) .any (.node .leaf .any .leaf))) .any (.node (.node (.node .leaf .any .leaf) .any (.node .leaf .any .leaf)) .any (.node (.node .leaf .any .leaf) .any (.node .leaf .any .leaf)))) .any (.node (.node (.node (.node .leaf .any .leaf) .any (.node .leaf .any .leaf)) .any (.node (.node .leaf .any .leaf) .any (.node .leaf .any .leaf))) .any (.node (.node (.node .leaf .any .leaf) .any (.node .leaf .any .leaf)) .any (.node (.node .leaf .any .leaf) .any (.node .leaf .any .leaf))))))), its, [], h⟩ (Fin [.tmp 2, .tmp 3] (endR (decide (d.length < s.length)) p)) := by
  have e1 : decide ((d.length : Int) < (s.length : Int)) = decide (d.length < s.length) := decide_eq_decide.2 (by omega)
  have e2 : decide (-(p : Int) = -9223372036854775808) = decide (p = 9223372036854775808) := decide_eq_decide.2 (by omega)
  have h0 : ¬ 9223372036854775808 < p := by omega
  cases f1 : decide (d.length < s.length) with
  | true =>
    simp only [e1, f1, K15_2, go_sem, ne_eq, not_false_eq_true, reduceIte, Nat.reduceMul, Nat.reduceAdd, Nat.reduceSub, Nat.reduceEqDiff, Nat.reduceLeDiff]
    simp [endR, numE, h0]
  | false =>
    cases f2 : decide (p = 9223372036854775808) with
    | true =>
      simp only [e1, f1, e2, f2, K15_2, go_sem, ne_eq, not_false_eq_true, reduceIte, Nat.reduceMul, Nat.reduceAdd, Nat.reduceSub, Nat.reduceEqDiff, Nat.reduceLeDiff]
      simp only [decide_eq_true_eq] at f2
      simp [endR, numE, f2]
    | false =>
      have h2 : ¬ p = 9223372036854775808 := by simpa using f2
      have e3 : wr .i64 (0 - -(p : Int)) = (p : Int) := by rw [wr64] <;> omega
      simp only [e1, f1, e2, f2, e3, K15_2, go_sem, ne_eq, not_false_eq_true, reduceIte, Nat.reduceMul, Nat.reduceAdd, Nat.reduceSub, Nat.reduceEqDiff, Nat.reduceLeDiff]
      simp [endR, numE, h0, h2]
theorem w_rN_two (s d : List UInt8) (hd : d.length ≤ 19) (hdig : ∀ c ∈ d, dig c = true) (x43 x44 : V) (h : H) (gl : Nat → List V) (its) : ∀ (k i p : Nat), i + k = d.length → p ≤ 9223372036854775808 →
    M noX (kz15) (.code L15_2) (.loop L15_2 :: K15_2) ⟨gl, (.node (.node (.node (.node (.node (.node (.node .leaf .any .leaf) .any (.node .leaf .any .leaf)) .any (.node (.node .leaf .any .leaf) .any (.node .leaf .any .leaf))) .any (.node (.node (.node .leaf .any .leaf) .any (.node .leaf .any .leaf)) .any (.node (.node .leaf .any .leaf) .any (.node .leaf .any .leaf)))) .any (.node (.node (.node (.node .leaf .any .leaf) .any (.node .leaf .any .leaf)) .any (.node (.node .leaf .any .leaf) .any (.node .leaf .any .leaf))) .any (.node (.node (.node .leaf .any .leaf) (x43) (.node .leaf .any .leaf)) .any (.node (.node .leaf .any .leaf) (.i .i64 d.length) (.node .leaf .any .leaf))))) .any (.node (.node (.node (.node (.node .leaf .any .leaf) .any (.node .leaf .any .leaf)) .any (.node (.node .leaf .any .leaf) .any (.node .leaf .any .leaf))) .any (.node (.node (.node .leaf .any .leaf) .any (.node .leaf .any .leaf)) .any (.node (.node .leaf .any .leaf) .any (.node .leaf .any .leaf)))) (.i .i64 (-(p : Int))) (.node (.node (.node (.node .leaf .any .leaf) .any (.node .leaf .any .leaf)) .any (.node (.node .leaf .any .leaf) .any (.node .leaf .any .leaf))) .any (.node (.node (.node .leaf .any .leaf) .any (.node .leaf .any .leaf)) .any (.node (.node .leaf .any .leaf) .any (.node .leaf .any .leaf)))))) (.s s) (.node (.node (.node (.node (.node (.node .leaf .any .leaf) .any (.node .leaf .any .leaf)) .any (.node (.node .leaf .any .leaf) .any (.node .leaf .any .leaf))) .any (.node (.node (.node .leaf .any .leaf) .any (.node .leaf .any .leaf)) .any (.node (.node .leaf .any .leaf) .any (.node .leaf .any .leaf)))) (.s d) (.node (.node (.node (.node .leaf .any .leaf) .any (.node .leaf .any .leaf)) .any (.node (.node .leaf .any .leaf) .any (.node .leaf .any .leaf))) .any (.node (.node (.node .leaf .any .leaf) (x44) (.node .leaf .any .leaf)) .any (.node (.node .leaf .any .leaf) (.i .i64 i) (.node .leaf .any .leaf))))) .any (.node (.node (.node (.node (.node .leaf .any .leaf) .any (.node .leaf .any .leaf)) .any (.node (.node .leaf .any .leaf) .any (.node .leaf .any .leaf))) .any (.node (.node (.node .leaf .any .leaf) .any (.node .leaf .any .leaf)) .any (.node (.node .leaf .any .leaf) .any (.node .leaf .any .leaf)))) .any (.node (.node (.node (.node .leaf .any .leaf) .any (.node .leaf .any .leaf)) .any (.node (.node .leaf .any .leaf) .any (.node .leaf .any .leaf))) .any (.node (.node (.node .leaf .any .leaf) .any (.node .leaf .any .leaf)) .any (.node (.node .leaf .any .leaf) .any (.node .leaf .any .leaf))))))), its, [], h⟩
      (Fin [.tmp 2, .tmp 3] (endR (decide (d.length < s.length)) (dv p (d.drop i)))) := by
  intro k
  induction k with
  | zero =>
    intro i p hi hp
    rw [U15_2]
    have e1 : decide ((i : Int) < d.length) = false := by simp; omega
    simp only [e1, go_sem, ne_eq, not_false_eq_true, reduceIte, Nat.reduceMul, Nat.reduceAdd, Nat.reduceSub, Nat.reduceEqDiff, Nat.reduceLeDiff]
    rw [List.drop_eq_nil_of_le (by omega), dv_nil]
    have := w_rN_end s d p hp x43 x44 (.i .i64 d.length) (.i .i64 i) its h gl
    exact this
  | succ k ih =>
    intro i p hi hp
    rw [U15_2]
    have hlt : i < d.length := by omega
    have e1 : decide ((i : Int) < d.length) = true := by simp; omega
    have e2 : d[i]? = some d[i] := by simp [hlt]
    have e4 : wr .i64 ((i : Int) + 1) = ((i + 1 : Nat) : Int) := by rw [wr64] <;> omega
    have hc := hdig d[i] (List.getElem_mem hlt)
    simp only [dig, Bool.and_eq_true, decide_eq_true_eq] at hc
    rw [List.drop_eq_getElem_cons hlt, dv_cons]
    generalize hcc : d[i] = c at *
    have w1 : wr .u8 ((c.toNat : Int) - 48) = ((c.toNat - 48 : Nat) : Int) := by simp only [wr]; omega
    have w2 : wr .i64 ((c.toNat - 48 : Nat) : Int) = ((c.toNat - 48 : Nat) : Int) := by rw [wr64] <;> omega
    have a1 : decide (-(p : Int) < -922337203685477580) = decide (922337203685477580 < p) := decide_eq_decide.2 (by omega)
    have a2 : decide (-(p : Int) = -922337203685477580) = decide (p = 922337203685477580) := decide_eq_decide.2 (by omega)
    have a3 : decide ((8 : Int) < ((c.toNat - 48 : Nat) : Int)) = decide (8 < c.toNat - 48) := decide_eq_decide.2 (by omega)
    have hge := dv_ge (d.drop (i + 1)) (10 * p + (c.toNat - 48))
    cases f1 : decide (922337203685477580 < p) with
    | true =>
      simp only [decide_eq_true_eq] at f1
      have : endR (decide (d.length < s.length)) (dv (10 * p + (c.toNat - 48)) (d.drop (i + 1))) = numE 0 5 := by rw [endR, if_pos (by omega)]
      rw [this]
      have f1 : decide (922337203685477580 < p) = true := by simpa using f1
      simp only [e1, e2, w1, w2, a1, f1, go_sem, ne_eq, not_false_eq_true, reduceIte, Nat.reduceMul, Nat.reduceAdd, Nat.reduceSub, Nat.reduceEqDiff, Nat.reduceLeDiff]
      simp only [K15_2, go_sem, ne_eq, not_false_eq_true, reduceIte, Nat.reduceMul, Nat.reduceAdd, Nat.reduceSub, Nat.reduceEqDiff, Nat.reduceLeDiff]
      rfl
    | false =>
      have g1 : ¬ 922337203685477580 < p := by simpa using f1
      have m1 : wr .i64 (10 * -(p : Int)) = -((10 * p : Nat) : Int) := by rw [wr64] <;> omega
      cases f2 : decide (p = 922337203685477580) with
      | true =>
        have g2 : p = 922337203685477580 := by simpa using f2
        cases f3 : decide (8 < c.toNat - 48) with
        | true =>
          have g3 : 8 < c.toNat - 48 := by simpa using f3
          have : endR (decide (d.length < s.length)) (dv (10 * p + (c.toNat - 48)) (d.drop (i + 1))) = numE 0 5 := by rw [endR, if_pos (by omega)]
          rw [this]
          simp only [e1, e2, w1, w2, a1, f1, a2, f2, a3, f3, go_sem, ne_eq, not_false_eq_true, reduceIte, Nat.reduceMul, Nat.reduceAdd, Nat.reduceSub, Nat.reduceEqDiff, Nat.reduceLeDiff]
          simp only [K15_2, go_sem, ne_eq, not_false_eq_true, reduceIte, Nat.reduceMul, Nat.reduceAdd, Nat.reduceSub, Nat.reduceEqDiff, Nat.reduceLeDiff]
          rfl
        | false =>
          have g3 : ¬ 8 < c.toNat - 48 := by simpa using f3
          have m2 : wr .i64 (-((10 * p : Nat) : Int) - ((c.toNat - 48 : Nat) : Int)) = -((10 * p + (c.toNat - 48) : Nat) : Int) := by rw [wr64] <;> omega
          simp only [e1, e2, e4, w1, w2, a1, f1, a2, f2, a3, f3, m1, m2, go_sem, ne_eq, not_false_eq_true, reduceIte, Nat.reduceMul, Nat.reduceAdd, Nat.reduceSub, Nat.reduceEqDiff, Nat.reduceLeDiff]
          rw [M_loop]
          have := ih (i + 1) (10 * p + (c.toNat - 48)) (by omega) (by omega)
          simp only [kz15, K15_2, List.length_cons, List.length_nil, e4, go_sem, ne_eq, not_false_eq_true, reduceIte, Nat.reduceMul, Nat.reduceAdd, Nat.reduceSub, Nat.reduceEqDiff, Nat.reduceLeDiff] at this ⊢
          exact this
      | false =>
        have g2 : ¬ p = 922337203685477580 := by simpa using f2
        have m2 : wr .i64 (-((10 * p : Nat) : Int) - ((c.toNat - 48 : Nat) : Int)) = -((10 * p + (c.toNat - 48) : Nat) : Int) := by rw [wr64] <;> omega
        simp only [e1, e2, e4, w1, w2, a1, f1, a2, f2, m1, m2, go_sem, ne_eq, not_false_eq_true, reduceIte, Nat.reduceMul, Nat.reduceAdd, Nat.reduceSub, Nat.reduceEqDiff, Nat.reduceLeDiff]
        rw [M_loop]
        have := ih (i + 1) (10 * p + (c.toNat - 48)) (by omega) (by omega)
        simp only [kz15, K15_2, List.length_cons, List.length_nil, e4, go_sem, ne_eq, not_false_eq_true, reduceIte, Nat.reduceMul, Nat.reduceAdd, Nat.reduceSub, Nat.reduceEqDiff, Nat.reduceLeDiff] at this ⊢
        exact this
def midR (s d : List UInt8) : V := if d.all dig = true then endR (decide (d.length < s.length)) (dv 0 d) else numE 0 23
theorem w_rN_one (s d : List UInt8) (hd : d.length ≤ 19) (h : H) (gl : Nat → List V) (its) : ∀ (k i : Nat), i + k = d.length → (∀ c ∈ d.take i, dig c = true) →
    M noX (kz15) (.code L15_1) (.loop L15_1 :: K15_1) ⟨gl, (.node (.node (.node (.node (.node (.node (.node .leaf .any .leaf) .any (.node .leaf .any .leaf)) .any (.node (.node .leaf .any .leaf) .any (.node .leaf .any .leaf))) .any (.node (.node (.node .leaf .any .leaf) .any (.node .leaf .any .leaf)) .any (.node (.node .leaf .any .leaf) .any (.node .leaf .any .leaf)))) .any (.node (.node (.node (.node .leaf .any .leaf) .any (.node .leaf .any .leaf)) .any (.node (.node .leaf .any .leaf) .any (.node .leaf .any .leaf))) .any (.node (.node (.node .leaf .any .leaf) (.i .i64 d.length) (.node .leaf .any .leaf)) .any (.node (.node .leaf .any .leaf) .any (.node .leaf .any .leaf))))) .any (.node (.node (.node (.node (.node .leaf .any .leaf) .any (.node .leaf .any .leaf)) .any (.node (.node .leaf .any .leaf) .any (.node .leaf .any .leaf))) .any (.node (.node (.node .leaf .any .leaf) .any (.node .leaf .any .leaf)) .any (.node (.node .leaf .any .leaf) .any (.node .leaf .any .leaf)))) (.i .i64 0) (.node (.node (.node (.node .leaf .any .leaf) .any (.node .leaf .any .leaf)) .any (.node (.node .leaf .any .leaf) .any (.node .leaf .any .leaf))) .any (.node (.node (.node .leaf .any .leaf) .any (.node .leaf .any .leaf)) .any (.node (.node .leaf .any .leaf) .any (.node .leaf .any .leaf)))))) (.s s) (.node (.node (.node (.node (.node (.node .leaf .any .leaf) .any (.node .leaf .any .leaf)) .any (.node (.node .leaf .any .leaf) .any (.node .leaf .any .leaf))) .any (.node (.node (.node .leaf .any .leaf) .any (.node .leaf .any .leaf)) .any (.node (.node .leaf .any .leaf) .any (.node .leaf .any .leaf)))) (.s d) (.node (.node (.node (.node .leaf .any .leaf) .any (.node .leaf .any .leaf)) .any (.node (.node .leaf .any .leaf) .any (.node .leaf .any .leaf))) .any (.node (.node (.node .leaf .any .leaf) (.i .i64 i) (.node .leaf .any .leaf)) .any (.node (.node .leaf .any .leaf) .any (.node .leaf .any .leaf))))) .any (.node (.node (.node (.node (.node .leaf .any .leaf) .any (.node .leaf .any .leaf)) .any (.node (.node .leaf .any .leaf) .any (.node .leaf .any .leaf))) .any (.node (.node (.node .leaf .any .leaf) .any (.node .leaf .any .leaf)) .any (.node (.node .leaf .any .leaf) .any (.node .leaf .any .leaf)))) .any (.node (.node (.node (.node .leaf .any .leaf) .any (.node .leaf .any .leaf)) .any (.node (.node .leaf .any .leaf) .any (.node .leaf .any .leaf))) .any (.node (.node (.node .leaf .any .leaf) .any (.node .leaf .any .leaf)) .any (.node (.node .leaf .any .leaf) .any (.node .leaf .any .leaf))))))), its, [], h⟩
      (Fin [.tmp 2, .tmp 3] (midR s d)) := by
  intro k
  induction k with
  | zero =>
    intro i hi hdig
    rw [U15_1]
    have e1 : decide ((i : Int) < d.length) = false := by simp; omega
    simp only [e1, K15_1, go_sem, ne_eq, not_false_eq_true, reduceIte, Nat.reduceMul, Nat.reduceAdd, Nat.reduceSub, Nat.reduceEqDiff, Nat.reduceLeDiff]
    rw [M_loop]
    rw [List.take_of_length_le (by omega)] at hdig
    have hall : d.all dig = true := List.all_eq_true.2 hdig
    have := w_rN_two s d hd hdig (.i .i64 d.length) (.i .i64 i) h gl its d.length 0 0 (by omega) (by omega)
    rw [midR, if_pos hall]
    simp only [kz15, K15_2, List.length_cons, List.length_nil, Int.natCast_zero, Int.cast_ofNat_Int, Int.neg_zero, go_sem, ne_eq, not_false_eq_true, reduceIte, Nat.reduceMul, Nat.reduceAdd, Nat.reduceSub, Nat.reduceEqDiff, Nat.reduceLeDiff] at this ⊢
    exact this
  | succ k ih =>
    intro i hi hdig
    rw [U15_1]
    have hlt : i < d.length := by omega
    have e1 : decide ((i : Int) < d.length) = true := by simp; omega
    have e2 : d[i]? = some d[i] := by simp [hlt]
    have e4 : wr .i64 ((i : Int) + 1) = ((i + 1 : Nat) : Int) := by rw [wr64] <;> omega
    have a1 : decide ((d[i].toNat : Int) < 48) = decide (d[i].toNat < 48) := decide_eq_decide.2 (by omega)
    have a2 : decide ((57 : Int) < (d[i].toNat : Int)) = decide (57 < d[i].toNat) := decide_eq_decide.2 (by omega)
    cases f1 : decide (d[i].toNat < 48) with
    | true =>
      have g1 : d[i].toNat < 48 := by simpa using f1
      have : ¬ d.all dig = true := fun e => by
        have := List.all_eq_true.1 e d[i] (List.getElem_mem hlt)
        simp only [dig, Bool.and_eq_true, decide_eq_true_eq] at this
        omega
      rw [midR, if_neg this]
      simp only [e1, e2, a1, f1, go_sem, ne_eq, not_false_eq_true, reduceIte, Nat.reduceMul, Nat.reduceAdd, Nat.reduceSub, Nat.reduceEqDiff, Nat.reduceLeDiff]
      simp only [K15_1, go_sem, ne_eq, not_false_eq_true, reduceIte, Nat.reduceMul, Nat.reduceAdd, Nat.reduceSub, Nat.reduceEqDiff, Nat.reduceLeDiff]
      rfl
    | false =>
      have g1 : ¬ d[i].toNat < 48 := by simpa using f1
      cases f2 : decide (57 < d[i].toNat) with
      | true =>
        have g2 : 57 < d[i].toNat := by simpa using f2
        have : ¬ d.all dig = true := fun e => by
          have := List.all_eq_true.1 e d[i] (List.getElem_mem hlt)
          simp only [dig, Bool.and_eq_true, decide_eq_true_eq] at this
          omega
        rw [midR, if_neg this]
        simp only [e1, e2, a1, f1, a2, f2, go_sem, ne_eq, not_false_eq_true, reduceIte, Nat.reduceMul, Nat.reduceAdd, Nat.reduceSub, Nat.reduceEqDiff, Nat.reduceLeDiff]
        simp only [K15_1, go_sem, ne_eq, not_false_eq_true, reduceIte, Nat.reduceMul, Nat.reduceAdd, Nat.reduceSub, Nat.reduceEqDiff, Nat.reduceLeDiff]
        rfl
      | false =>
        have g2 : ¬ 57 < d[i].toNat := by simpa using f2
        simp only [e1, e2, e4, a1, f1, a2, f2, go_sem, ne_eq, not_false_eq_true, reduceIte, Nat.reduceMul, Nat.reduceAdd, Nat.reduceSub, Nat.reduceEqDiff, Nat.reduceLeDiff]
        rw [M_loop]
        have := ih (i + 1) (by omega) (fun c hc => by
          rw [List.take_succ_eq_append_getElem hlt] at hc
          rcases List.mem_append.1 hc with hc | hc
          · exact hdig c hc
          · simp only [List.mem_singleton] at hc
            subst hc
            simp only [dig, Bool.and_eq_true, decide_eq_true_eq]
            omega)
        simp only [kz15, K15_1, List.length_cons, List.length_nil, e4, go_sem, ne_eq, not_false_eq_true, reduceIte, Nat.reduceMul, Nat.reduceAdd, Nat.reduceSub, Nat.reduceEqDiff, Nat.reduceLeDiff] at this ⊢
        exact this

def dR (s : List UInt8) : List UInt8 := match s with
  | [] => []
  | a :: r => if a.toNat = 45 then r else a :: r
def badR (s d : List UInt8) : Bool := match d with
  | [] => true
  | x :: t => decide (19 < t.length + 1) || ((decide (1 < t.length + 1) && decide (x.toNat = 48)) || strEq s [45, 48])
def numR (s : List UInt8) : V := if badR s (dR s) = true then numE 0 23 else midR s (dR s)
theorem w_rNumber (s : List UInt8) (hs : s.length ≤ 16384) (gl : Nat → List V) : M noX (kz15) (.code B15) [] (St.init gl 7 [.s s] {}) (Fin [.tmp 2, .tmp 3] (numR s)) := by
  rw [U15]
  have fin : ∀ x t, badR s (x :: t) = true ∨ badR s (x :: t) = false ∧ (x :: t).length ≤ 19 := by
    intro x t
    cases h : badR s (x :: t) with
    | true => exact .inl rfl
    | false =>
      refine .inr ⟨rfl, ?_⟩
      simp only [badR, Bool.or_eq_false_iff, decide_eq_false_iff_not] at h
      simp only [List.length_cons]
      omega
  cases s with
  | nil =>
    simp only [Int.natCast_zero, Int.cast_ofNat_Int, Int.reduceLT, go_sem, ne_eq, not_false_eq_true, reduceIte, Nat.reduceMul, Nat.reduceAdd, Nat.reduceSub, Nat.reduceEqDiff, Nat.reduceLeDiff]
    trivial
  | cons a r =>
    have g1 : decide ((0 : Int) < ((r.length + 1 : Nat) : Int)) = true := decide_eq_true (by omega)
    have g2 : decide ((a.toNat : Int) = 45) = decide (a.toNat = 45) := decide_eq_decide.2 (by omega)
    have g3 : 1 ≤ r.length + 1 := by omega
    have g4 : (a :: r)[0]? = some a := rfl
    cases ha : decide (a.toNat = 45) with
    | true =>
      have hd : dR (a :: r) = r := by simp only [decide_eq_true_eq] at ha; simp [dR, ha]
      have hr : List.take (r.length + 1 - 1) (List.drop 1 (a :: r)) = r := by simp
      cases r with
      | nil =>
        have : numR [a] = numE 0 23 := by rw [numR, hd]; rfl
        rw [this]
        simp only [g1, g2, g3, g4, Nat.le_refl, ha, hr, Int.natCast_zero, Int.cast_ofNat_Int, Int.reduceLT, List.take_zero, go_sem, ne_eq, not_false_eq_true, reduceIte, Nat.reduceMul, Nat.reduceAdd, Nat.reduceSub, Nat.reduceEqDiff, Nat.reduceLeDiff]
        rfl
      | cons x t =>
        have f1 : decide ((((t.length + 1 : Nat)) : Int) < 1) = false := decide_eq_false (by omega)
        have f2 : decide ((19 : Int) < ((t.length + 1 : Nat) : Int)) = decide (19 < t.length + 1) := decide_eq_decide.2 (by omega)
        have f3 : decide ((1 : Int) < ((t.length + 1 : Nat) : Int)) = decide (1 < t.length + 1) := decide_eq_decide.2 (by omega)
        have f4 : decide ((x.toNat : Int) = 48) = decide (x.toNat = 48) := decide_eq_decide.2 (by omega)
        have f5 : (x :: t)[0]? = some x := rfl
        have hN : numR (a :: x :: t) = if badR (a :: x :: t) (x :: t) = true then numE 0 23 else midR (a :: x :: t) (x :: t) := by rw [numR, hd]
        simp only [List.length_cons] at g1 g3 hr
        rw [hN]
        have L := fun hh => w_rN_one (a :: x :: t) (x :: t) hh {} gl [] (x :: t).length 0 (by omega) (by simp)
        simp only [kz15, K15_1, List.length_cons, List.length_nil, Int.natCast_zero, Int.cast_ofNat_Int, Int.neg_zero, go_sem, ne_eq, not_false_eq_true, reduceIte, Nat.reduceMul, Nat.reduceAdd, Nat.reduceSub, Nat.reduceEqDiff, Nat.reduceLeDiff] at L
        rcases Bool.eq_false_or_eq_true (decide (19 < t.length + 1)) with b1 | b1
        · rw [if_pos (by simp only [badR, b1]; rfl)]; simp only [g1, g2, g3, g4, Nat.le_refl, ha, hr, f1, f2, f3, f4, f5, b1, go_sem, ne_eq, not_false_eq_true, reduceIte, Nat.reduceMul, Nat.reduceAdd, Nat.reduceSub, Nat.reduceEqDiff, Nat.reduceLeDiff]; rfl
        · skip
          have hl : t.length + 1 ≤ 19 := by simp only [decide_eq_false_iff_not] at b1; omega
          rcases Bool.eq_false_or_eq_true (decide (1 < t.length + 1)) with b2 | b2
          · skip
            rcases Bool.eq_false_or_eq_true (decide (x.toNat = 48)) with b3 | b3
            · rw [if_pos (by simp only [badR, b1, b2, b3]; rfl)]; simp only [g1, g2, g3, g4, Nat.le_refl, ha, hr, f1, f2, f3, f4, f5, b1, b2, b3, go_sem, ne_eq, not_false_eq_true, reduceIte, Nat.reduceMul, Nat.reduceAdd, Nat.reduceSub, Nat.reduceEqDiff, Nat.reduceLeDiff]; rfl
            · skip
              rcases Bool.eq_false_or_eq_true (strEq (a :: x :: t) [45, 48]) with b4 | b4
              · rw [if_pos (by simp only [badR, b1, b2, b3, b4]; rfl)]; simp only [g1, g2, g3, g4, Nat.le_refl, ha, hr, f1, f2, f3, f4, f5, b1, b2, b3, b4, go_sem, ne_eq, not_false_eq_true, reduceIte, Nat.reduceMul, Nat.reduceAdd, Nat.reduceSub, Nat.reduceEqDiff, Nat.reduceLeDiff]; rfl
              · skip
                rw [if_neg (by simp only [badR, b1, b2, b3, b4]; decide)]
                simp only [g1, g2, g3, g4, Nat.le_refl, ha, hr, f1, f2, f3, f4, f5, b1, b2, b3, b4, go_sem, ne_eq, not_false_eq_true, reduceIte, Nat.reduceMul, Nat.reduceAdd, Nat.reduceSub, Nat.reduceEqDiff, Nat.reduceLeDiff]
                rw [M_loop]
                simp only [kz15, List.length_cons, List.length_nil, Bool.false_eq_true, go_sem, ne_eq, not_false_eq_true, reduceIte, Nat.reduceMul, Nat.reduceAdd, Nat.reduceSub, Nat.reduceEqDiff, Nat.reduceLeDiff]
                exact L (by omega)
          · skip
            rcases Bool.eq_false_or_eq_true (strEq (a :: x :: t) [45, 48]) with b4 | b4
            · rw [if_pos (by simp only [badR, b1, b2, b4]; rfl)]; simp only [g1, g2, g3, g4, Nat.le_refl, ha, hr, f1, f2, f3, f4, f5, b1, b2, b4, go_sem, ne_eq, not_false_eq_true, reduceIte, Nat.reduceMul, Nat.reduceAdd, Nat.reduceSub, Nat.reduceEqDiff, Nat.reduceLeDiff]; rfl
            · skip
              rw [if_neg (by simp only [badR, b1, b2, b4, Bool.false_and]; decide)]
              simp only [g1, g2, g3, g4, Nat.le_refl, ha, hr, f1, f2, f3, f4, f5, b1, b2, b4, go_sem, ne_eq, not_false_eq_true, reduceIte, Nat.reduceMul, Nat.reduceAdd, Nat.reduceSub, Nat.reduceEqDiff, Nat.reduceLeDiff]
              rw [M_loop]
              simp only [kz15, List.length_cons, List.length_nil, Bool.false_eq_true, go_sem, ne_eq, not_false_eq_true, reduceIte, Nat.reduceMul, Nat.reduceAdd, Nat.reduceSub, Nat.reduceEqDiff, Nat.reduceLeDiff]
              exact L (by omega)
    | false =>
      have hd : dR (a :: r) = a :: r := by simp only [decide_eq_false_iff_not] at ha; simp [dR, ha]
      have f1 : decide ((((r.length + 1 : Nat)) : Int) < 1) = false := decide_eq_false (by omega)
      have f2 : decide ((19 : Int) < ((r.length + 1 : Nat) : Int)) = decide (19 < r.length + 1) := decide_eq_decide.2 (by omega)
      have f3 : decide ((1 : Int) < ((r.length + 1 : Nat) : Int)) = decide (1 < r.length + 1) := decide_eq_decide.2 (by omega)
      have f4 : decide ((a.toNat : Int) = 48) = decide (a.toNat = 48) := decide_eq_decide.2 (by omega)
      have hN : numR (a :: r) = if badR (a :: r) (a :: r) = true then numE 0 23 else midR (a :: r) (a :: r) := by rw [numR, hd]
      rw [hN]
      have L := fun hh => w_rN_one (a :: r) (a :: r) hh {} gl [] (a :: r).length 0 (by omega) (by simp)
      simp only [kz15, K15_1, List.length_cons, List.length_nil, Int.natCast_zero, Int.cast_ofNat_Int, Int.neg_zero, go_sem, ne_eq, not_false_eq_true, reduceIte, Nat.reduceMul, Nat.reduceAdd, Nat.reduceSub, Nat.reduceEqDiff, Nat.reduceLeDiff] at L
      rcases Bool.eq_false_or_eq_true (decide (19 < r.length + 1)) with b1 | b1
      · rw [if_pos (by simp only [badR, b1]; rfl)]; simp only [g1, g2, g3, g4, Nat.le_refl, ha, f1, f2, f3, f4, b1, go_sem, ne_eq, not_false_eq_true, reduceIte, Nat.reduceMul, Nat.reduceAdd, Nat.reduceSub, Nat.reduceEqDiff, Nat.reduceLeDiff]; rfl
      · skip
        have hl : r.length + 1 ≤ 19 := by simp only [decide_eq_false_iff_not] at b1; omega
        rcases Bool.eq_false_or_eq_true (decide (1 < r.length + 1)) with b2 | b2
        · skip
          rcases Bool.eq_false_or_eq_true (decide (a.toNat = 48)) with b3 | b3
          · rw [if_pos (by simp only [badR, b1, b2, b3]; rfl)]; simp only [g1, g2, g3, g4, Nat.le_refl, ha, f1, f2, f3, f4, b1, b2, b3, go_sem, ne_eq, not_false_eq_true, reduceIte, Nat.reduceMul, Nat.reduceAdd, Nat.reduceSub, Nat.reduceEqDiff, Nat.reduceLeDiff]; rfl
          · skip
            rcases Bool.eq_false_or_eq_true (strEq (a :: r) [45, 48]) with b4 | b4
            · rw [if_pos (by simp only [badR, b1, b2, b3, b4]; rfl)]; simp only [g1, g2, g3, g4, Nat.le_refl, ha, f1, f2, f3, f4, b1, b2, b3, b4, go_sem, ne_eq, not_false_eq_true, reduceIte, Nat.reduceMul, Nat.reduceAdd, Nat.reduceSub, Nat.reduceEqDiff, Nat.reduceLeDiff]; rfl
            · skip
              rw [if_neg (by simp only [badR, b1, b2, b3, b4]; decide)]
              simp only [g1, g2, g3, g4, Nat.le_refl, ha, f1, f2, f3, f4, b1, b2, b3, b4, go_sem, ne_eq, not_false_eq_true, reduceIte, Nat.reduceMul, Nat.reduceAdd, Nat.reduceSub, Nat.reduceEqDiff, Nat.reduceLeDiff]
              rw [M_loop]
              simp only [kz15, List.length_cons, List.length_nil, Bool.false_eq_true, go_sem, ne_eq, not_false_eq_true, reduceIte, Nat.reduceMul, Nat.reduceAdd, Nat.reduceSub, Nat.reduceEqDiff, Nat.reduceLeDiff]
              exact L (by omega)
        · skip
          rcases Bool.eq_false_or_eq_true (strEq (a :: r) [45, 48]) with b4 | b4
          · rw [if_pos (by simp only [badR, b1, b2, b4]; rfl)]; simp only [g1, g2, g3, g4, Nat.le_refl, ha, f1, f2, f3, f4, b1, b2, b4, go_sem, ne_eq, not_false_eq_true, reduceIte, Nat.reduceMul, Nat.reduceAdd, Nat.reduceSub, Nat.reduceEqDiff, Nat.reduceLeDiff]; rfl
          · skip
            rw [if_neg (by simp only [badR, b1, b2, b4, Bool.false_and]; decide)]
            simp only [g1, g2, g3, g4, Nat.le_refl, ha, f1, f2, f3, f4, b1, b2, b4, go_sem, ne_eq, not_false_eq_true, reduceIte, Nat.reduceMul, Nat.reduceAdd, Nat.reduceSub, Nat.reduceEqDiff, Nat.reduceLeDiff]
            rw [M_loop]
            simp only [kz15, List.length_cons, List.length_nil, Bool.false_eq_true, go_sem, ne_eq, not_false_eq_true, reduceIte, Nat.reduceMul, Nat.reduceAdd, Nat.reduceSub, Nat.reduceEqDiff, Nat.reduceLeDiff]
            exact L (by omega)
end Go.Proofs.Ytkibkodlbjhjfaa
