/- The number that a text is: the program's way. -/
import Derived.Test.YtkibkodlbjhjfaaDoorTx1t
import Derived.Test.YtkibkodlbjhjfaaDoorAi10
set_option linter.unusedSimpArgs false
set_option linter.unusedVariables false
namespace Go.Proofs.YtkibkodlbjhjfaaDoor
open Ai
def badC (k n c : Nat) : Bool := decide (c < 48) || (decide (57 < c) || ((decide (0 < k) && decide (n = 0)) || decide (18 < k)))
def scan (k n : Nat) (l : List UInt8) : Option (Nat × Nat) :=
  match l with
  | [] => some (k, n)
  | a :: r => if badC k n (dec (a :: r)).1 = true then none else scan (k + 1) (10 * n + ((dec (a :: r)).1 - 48)) ((a :: r).drop (dec (a :: r)).2)
termination_by l.length
decreasing_by exact dec_nil_free a r
theorem scan_nil (k n : Nat) : scan k n [] = some (k, n) := by rw [scan]
theorem scan_cons (k n : Nat) (a : UInt8) (r : List UInt8) : scan k n (a :: r) = if badC k n (dec (a :: r)).1 = true then none else scan (k + 1) (10 * n + ((dec (a :: r)).1 - 48)) ((a :: r).drop (dec (a :: r)).2) := by rw [scan]
def numE (n e : Int) : V := .tup [.i .i64 n, .i .i64 e]
def numEnd (neg : Bool) (o : Option (Nat × Nat)) : V := match o with
  | none => numE 0 23
  | some (k, n) => if k = 0 ∨ (neg = true ∧ n = 0) then numE 0 23 else if neg = true ∧ n ≤ 9223372036854775808 then numE (-(n : Int)) 0 else if 9223372036854775807 < n then numE 0 5 else numE n 0

def K12_1 : List Fr := [.blk 0,
  .seq (.seq (.blk 3 (.seq (.reg [⟨some 55, .mov (.t 6), none⟩,
         ⟨some 56, .bin .eql (.t 55) (.k (.i .i64 0)), none⟩,
         ⟨some 57, .mov (.t 56), none⟩,
         ⟨some 58, .mov (.t 4), some (57, false)⟩,
         ⟨some 59, .mov (.t 58), some (57, false)⟩,
         ⟨some 60, .mov (.t 5), some (59, true)⟩,
         ⟨some 61, .bin .eql (.t 60) (.k (.i .u64 0)), some (59, true)⟩,
         ⟨some 62, .pick (.t 59) (.t 61) (.k (.b false)), some (57, false)⟩,
         ⟨some 63, .pick (.t 57) (.k (.b true)) (.t 62), none⟩,
         ⟨some 54, .mov (.t 63), none⟩])
      (.cond (.t 54)
       (.seq (.reg [⟨some 2, .mov (.k (.i .i64 0)), none⟩,
          ⟨some 3, .mov (.k (.i .i64 23)), none⟩])
       .ret)
       (.seq (.reg [⟨some 65, .mov (.t 4), none⟩,
          ⟨some 66, .mov (.t 65), none⟩,
          ⟨some 67, .mov (.t 5), some (66, true)⟩,
          ⟨some 68, .bin .leq (.t 67) (.k (.i .u64 9223372036854775808)), some (66, true)⟩,
          ⟨some 69, .pick (.t 66) (.t 68) (.k (.b false)), none⟩,
          ⟨some 64, .mov (.t 69), none⟩])
       (.cond (.t 64)
        (.seq (.reg [⟨some 70, .mov (.t 5), none⟩,
           ⟨some 71, .conv (.int .i64) (.t 70), none⟩,
           ⟨some 72, .un .neg (.t 71), none⟩,
           ⟨some 2, .mov (.t 72), none⟩,
           ⟨some 3, .mov (.k (.i .i64 0)), none⟩])
        .ret)
        (.seq (.reg [⟨some 74, .mov (.t 5), none⟩,
           ⟨some 75, .bin .gtr (.t 74) (.k (.i .u64 9223372036854775807)), none⟩,
           ⟨some 73, .mov (.t 75), none⟩])
        (.cond (.t 73)
         (.seq (.reg [⟨some 2, .mov (.k (.i .i64 0)), none⟩,
            ⟨some 3, .mov (.k (.i .i64 5)), none⟩])
         .ret)
         .skip)))))))
    (.seq (.reg [⟨some 76, .mov (.t 5), none⟩,
       ⟨some 77, .conv (.int .i64) (.t 76), none⟩,
       ⟨some 2, .mov (.t 77), none⟩,
       ⟨some 3, .mov (.k (.i .i64 0)), none⟩])
    .ret))]
theorem U12_1 {xf : FuncId → List V → Option V} {kz : Nat → List Nat} {k : List Fr} {st : St} {Q : AEx → St → Prop} : M xf kz (.code L12_1) k st Q = M xf kz (.code (.seq (.reg [⟨some 11, .next 10, none⟩,
     ⟨some 12, .ext (.t 11) 0, none⟩])
  (.seq (.cond (.t 12)
    .skip
    (.exit 0))
  (.blk 1 (.seq (.reg [⟨some 13, .ext (.t 11) 1, none⟩,
      ⟨some 14, .ext (.t 11) 2, none⟩,
      ⟨some 7, .mov (.t 13), none⟩,
      ⟨some 8, .mov (.t 14), none⟩])
   (.blk 2 (.seq (.reg [⟨some 24, .mov (.t 7), none⟩,
       ⟨some 25, .bin .eql (.t 24) (.k (.i .i64 0)), none⟩,
       ⟨some 26, .mov (.t 25), none⟩,
       ⟨some 27, .mov (.t 8), some (26, true)⟩,
       ⟨some 28, .bin .eql (.t 27) (.k (.i .i32 45)), some (26, true)⟩,
       ⟨some 29, .pick (.t 26) (.t 28) (.k (.b false)), none⟩,
       ⟨some 30, .mov (.t 29), none⟩,
       ⟨some 31, .mov (.t 0), some (30, true)⟩,
       ⟨some 32, .len .str (.t 31), some (30, true)⟩,
       ⟨some 33, .bin .gtr (.t 32) (.k (.i .i64 1)), some (30, true)⟩,
       ⟨some 34, .pick (.t 30) (.t 33) (.k (.b false)), none⟩,
       ⟨some 23, .mov (.t 34), none⟩])
    (.cond (.t 23)
     (.reg [⟨some 4, .mov (.k (.b true)), none⟩])
     (.seq (.reg [⟨some 36, .mov (.t 8), none⟩,
        ⟨some 37, .bin .lss (.t 36) (.k (.i .i32 48)), none⟩,
        ⟨some 38, .mov (.t 37), none⟩,
        ⟨some 39, .mov (.t 8), some (38, false)⟩,
        ⟨some 40, .bin .gtr (.t 39) (.k (.i .i32 57)), some (38, false)⟩,
        ⟨some 41, .pick (.t 38) (.k (.b true)) (.t 40), none⟩,
        ⟨some 42, .mov (.t 41), none⟩,
        ⟨some 43, .mov (.t 6), some (42, false)⟩,
        ⟨some 44, .bin .gtr (.t 43) (.k (.i .i64 0)), some (42, false)⟩,
        ⟨some 45, .mov (.t 44), some (42, false)⟩,
        ⟨some 46, .mov (.t 5), some (45, true)⟩,
        ⟨some 47, .bin .eql (.t 46) (.k (.i .u64 0)), some (45, true)⟩,
        ⟨some 48, .pick (.t 45) (.t 47) (.k (.b false)), some (42, false)⟩,
        ⟨some 49, .pick (.t 42) (.k (.b true)) (.t 48), none⟩,
        ⟨some 50, .mov (.t 49), none⟩,
        ⟨some 51, .mov (.t 6), some (50, false)⟩,
        ⟨some 52, .bin .gtr (.t 51) (.k (.i .i64 18)), some (50, false)⟩,
        ⟨some 53, .pick (.t 50) (.k (.b true)) (.t 52), none⟩,
        ⟨some 35, .mov (.t 53), none⟩])
     (.cond (.t 35)
      (.seq (.reg [⟨some 2, .mov (.k (.i .i64 0)), none⟩,
         ⟨some 3, .mov (.k (.i .i64 23)), none⟩])
      .ret)
      (.seq (.reg [⟨some 15, .mov (.t 5), none⟩,
         ⟨some 16, .bin .mul (.k (.i .u64 10)) (.t 15), none⟩,
         ⟨some 17, .mov (.t 8), none⟩,
         ⟨some 18, .bin .sub (.t 17) (.k (.i .i32 48)), none⟩,
         ⟨some 19, .conv (.int .u64) (.t 18), none⟩,
         ⟨some 20, .bin .add (.t 16) (.t 19), none⟩,
         ⟨some 5, .mov (.t 20), none⟩])
      (.reg [⟨some 21, .mov (.t 6), none⟩,
        ⟨some 22, .bin .add (.t 21) (.k (.i .i64 1)), none⟩,
        ⟨some 6, .mov (.t 22), none⟩])))))))))))) k st Q := rfl
theorem U12 {xf : FuncId → List V → Option V} {kz : Nat → List Nat} {k : List Fr} {st : St} {Q : AEx → St → Prop} : M xf kz (.code B12) k st Q = M xf kz (.code (.seq (.reg [⟨some 2, .mov (.k (.i .i64 0)), none⟩,
     ⟨some 3, .mov (.k (.i .i64 0)), none⟩])
  (.seq (.reg [⟨some 4, .mov (.k (.b false)), none⟩])
  (.seq (.reg [⟨some 5, .mov (.k (.i .u64 0)), none⟩])
  (.seq (.reg [⟨some 6, .mov (.k (.i .i64 0)), none⟩])
  (.seq (.seq (.reg [⟨some 9, .mov (.t 0), none⟩,
      ⟨some 10, .range (.t 9), none⟩])
   (.blk 0 (.loop L12_1)))
  (.seq (.blk 3 (.seq (.reg [⟨some 55, .mov (.t 6), none⟩,
       ⟨some 56, .bin .eql (.t 55) (.k (.i .i64 0)), none⟩,
       ⟨some 57, .mov (.t 56), none⟩,
       ⟨some 58, .mov (.t 4), some (57, false)⟩,
       ⟨some 59, .mov (.t 58), some (57, false)⟩,
       ⟨some 60, .mov (.t 5), some (59, true)⟩,
       ⟨some 61, .bin .eql (.t 60) (.k (.i .u64 0)), some (59, true)⟩,
       ⟨some 62, .pick (.t 59) (.t 61) (.k (.b false)), some (57, false)⟩,
       ⟨some 63, .pick (.t 57) (.k (.b true)) (.t 62), none⟩,
       ⟨some 54, .mov (.t 63), none⟩])
    (.cond (.t 54)
     (.seq (.reg [⟨some 2, .mov (.k (.i .i64 0)), none⟩,
        ⟨some 3, .mov (.k (.i .i64 23)), none⟩])
     .ret)
     (.seq (.reg [⟨some 65, .mov (.t 4), none⟩,
        ⟨some 66, .mov (.t 65), none⟩,
        ⟨some 67, .mov (.t 5), some (66, true)⟩,
        ⟨some 68, .bin .leq (.t 67) (.k (.i .u64 9223372036854775808)), some (66, true)⟩,
        ⟨some 69, .pick (.t 66) (.t 68) (.k (.b false)), none⟩,
        ⟨some 64, .mov (.t 69), none⟩])
     (.cond (.t 64)
      (.seq (.reg [⟨some 70, .mov (.t 5), none⟩,
         ⟨some 71, .conv (.int .i64) (.t 70), none⟩,
         ⟨some 72, .un .neg (.t 71), none⟩,
         ⟨some 2, .mov (.t 72), none⟩,
         ⟨some 3, .mov (.k (.i .i64 0)), none⟩])
      .ret)
      (.seq (.reg [⟨some 74, .mov (.t 5), none⟩,
         ⟨some 75, .bin .gtr (.t 74) (.k (.i .u64 9223372036854775807)), none⟩,
         ⟨some 73, .mov (.t 75), none⟩])
      (.cond (.t 73)
       (.seq (.reg [⟨some 2, .mov (.k (.i .i64 0)), none⟩,
          ⟨some 3, .mov (.k (.i .i64 5)), none⟩])
       .ret)
       .skip)))))))
  (.seq (.reg [⟨some 76, .mov (.t 5), none⟩,
     ⟨some 77, .conv (.int .i64) (.t 76), none⟩,
     ⟨some 2, .mov (.t 77), none⟩,
     ⟨some 3, .mov (.k (.i .i64 0)), none⟩])
  .ret)))))))) k st Q := rfl
def kz12 (_ : Nat) : List Nat := [1, 2, 3, 7, 8, 9, 11, 12, 13, 14, 15, 16, 17, 18, 19, 20, 21, 22, 23, 24, 25, 26, 27, 28, 29, 30, 31, 32, 33, 34, 35, 36, 37, 38, 39, 40, 41, 42, 43, 44, 45, 46, 47, 48, 49, 50, 51, 52, 53, 54, 55, 56, 57, 58, 59, 60, 61, 62, 63, 64, 65, 66, 67, 68, 69, 70, 71, 72, 73, 74, 75, 76, 77]
theorem w_Number_end (s : List UInt8) (neg : Bool) (k n : Nat) (hn : n < 10000000000000000000) (hk : k ≤ 19) (its) (x10 : V) (gl : Nat → List V) :
    M noX (kz12) (.ex (.exit 0)) K12_1 ⟨gl, (.node (.node (.node (.node (.node (.node (.node .leaf .any .leaf) .any (.node .leaf .any .leaf)) .any (.node (.node .leaf .any .leaf) .any (.node .leaf .any .leaf))) .any (.node (.node (.node .leaf .any .leaf) .any (.node .leaf .any .leaf)) .any (.node (.node .leaf .any .leaf) .any (.node .leaf .any .leaf)))) .any (.node (.node (.node (.node .leaf .any .leaf) .any (.node .leaf .any .leaf)) .any (.node (.node .leaf .any .leaf) .any (.node .leaf .any .leaf))) (.tup [.b false]) (.node (.node (.node .leaf .any .leaf) .any (.node .leaf .any .leaf)) .any (.node (.node .leaf .any .leaf) .any (.node .leaf .any .leaf))))) .any (.node (.node (.node (.node (.node .leaf .any .leaf) .any (.node .leaf .any .leaf)) .any (.node (.node .leaf .any .leaf) .any (.node .leaf .any .leaf))) .any (.node (.node (.node .leaf .any .leaf) .any (.node .leaf .any .leaf)) .any (.node (.node .leaf .any .leaf) .any (.node .leaf .any .leaf)))) (.i .u64 n) (.node (.node (.node (.node .leaf .any .leaf) .any (.node .leaf .any .leaf)) .any (.node (.node .leaf .any .leaf) .any (.node .leaf .any .leaf))) .any (.node (.node (.node .leaf .any .leaf) .any (.node .leaf .any .leaf)) .any (.node (.node .leaf .any .leaf) .any (.node .leaf .any .leaf)))))) (.s s) (.node (.node (.node (.node (.node (.node .leaf .any .leaf) .any (.node .leaf .any .leaf)) .any (.node (.node .leaf .any .leaf) .any (.node .leaf .any .leaf))) .any (.node (.node (.node .leaf .any .leaf) .any (.node .leaf .any .leaf)) .any (.node (.node .leaf .any .leaf) .any (.node .leaf .any .leaf)))) (.b neg) (.node (.node (.node (.node .leaf .any .leaf) .any (.node .leaf .any .leaf)) .any (.node (.node .leaf .any .leaf) .any (.node .leaf .any .leaf))) (.b false) (.node (.node (.node .leaf .any .leaf) .any (.node .leaf .any .leaf)) .any (.node (.node .leaf .any .leaf) .any (.node .leaf .any .leaf))))) .any (.node (.node (.node (.node (.node .leaf .any .leaf) .any (.node .leaf .any .leaf)) .any (.node (.node .leaf .any .leaf) .any (.node .leaf .any .leaf))) (x10) (.node (.node (.node .leaf .any .leaf) .any (.node .leaf .any .leaf)) .any (.node (.node .leaf .any .leaf) .any (.node .leaf .any .leaf)))) (.i .i64 k) (.node (.node (.node (.node .leaf .any .leaf) .any (.node .leaf .any .leaf)) .any (.node (.node .leaf .any .leaf) .any (.node .leaf .any .leaf))) .any (.node (.node (.node .leaf .any .leaf) .any (.node .leaf .any .leaf)) .any (.node (.node .leaf .any .leaf) .any (.node .leaf .any .leaf))))))), its, [], {}⟩ (Fin [.tmp 2, .tmp 3] (numEnd neg (some (k, n)))) := by
  have e0 : decide (((k : Nat) : Int) = 0) = decide (k = 0) := decide_eq_decide.2 (by omega)
  have e1 : decide (((n : Nat) : Int) = 0) = decide (n = 0) := decide_eq_decide.2 (by omega)
  have e2 : decide (((n : Nat) : Int) ≤ 9223372036854775808) = decide (n ≤ 9223372036854775808) := decide_eq_decide.2 (by omega)
  have e3 : decide ((9223372036854775807 : Int) < ((n : Nat) : Int)) = decide (9223372036854775807 < n) := decide_eq_decide.2 (by omega)
  cases f0 : decide (k = 0) with
  | true =>
    simp only [e0, f0, K12_1, go_sem, ne_eq, not_false_eq_true, reduceIte, Nat.reduceMul, Nat.reduceAdd, Nat.reduceSub, Nat.reduceEqDiff, Nat.reduceLeDiff, Nat.reduceLT, List.take_succ_cons, List.take_zero, List.drop_succ_cons, List.cons_append]
    simp only [decide_eq_true_eq] at f0
    simp [numEnd, numE, f0]
  | false =>
    have h0 : ¬ k = 0 := by simpa using f0
    cases neg with
    | false =>
      cases f3 : decide (9223372036854775807 < n) with
      | true =>
        simp only [e0, f0, e3, f3, K12_1, go_sem, ne_eq, not_false_eq_true, reduceIte, Nat.reduceMul, Nat.reduceAdd, Nat.reduceSub, Nat.reduceEqDiff, Nat.reduceLeDiff, Nat.reduceLT, List.take_succ_cons, List.take_zero, List.drop_succ_cons, List.cons_append]
        simp only [decide_eq_true_eq] at f3
        simp [numEnd, numE, h0, f3]
      | false =>
        have h3 : ¬ 9223372036854775807 < n := by simpa using f3
        have e4 : wr .i64 (n : Int) = n := by rw [wr64] <;> omega
        simp only [e0, f0, e3, f3, e4, K12_1, go_sem, ne_eq, not_false_eq_true, reduceIte, Nat.reduceMul, Nat.reduceAdd, Nat.reduceSub, Nat.reduceEqDiff, Nat.reduceLeDiff, Nat.reduceLT, List.take_succ_cons, List.take_zero, List.drop_succ_cons, List.cons_append]
        simp [numEnd, numE, h0, h3]
    | true =>
      cases f1 : decide (n = 0) with
      | true =>
        simp only [e0, f0, e1, f1, K12_1, go_sem, ne_eq, not_false_eq_true, reduceIte, Nat.reduceMul, Nat.reduceAdd, Nat.reduceSub, Nat.reduceEqDiff, Nat.reduceLeDiff, Nat.reduceLT, List.take_succ_cons, List.take_zero, List.drop_succ_cons, List.cons_append]
        simp only [decide_eq_true_eq] at f1
        simp [numEnd, numE, f1]
      | false =>
        have h1 : ¬ n = 0 := by simpa using f1
        cases f2 : decide (n ≤ 9223372036854775808) with
        | true =>
          have h2 : n ≤ 9223372036854775808 := by simpa using f2
          have e5 : wr .i64 (0 - wr .i64 (n : Int)) = -(n : Int) := by
            simp only [wr, lo]
            split <;> split <;> omega
          simp only [e0, f0, e1, f1, e2, f2, e5, K12_1, go_sem, ne_eq, not_false_eq_true, reduceIte, Nat.reduceMul, Nat.reduceAdd, Nat.reduceSub, Nat.reduceEqDiff, Nat.reduceLeDiff, Nat.reduceLT, List.take_succ_cons, List.take_zero, List.drop_succ_cons, List.cons_append]
          simp [numEnd, numE, h0, h1, h2]
        | false =>
          have h2 : ¬ n ≤ 9223372036854775808 := by simpa using f2
          have h3 : 9223372036854775807 < n := by omega
          have f3 : decide (9223372036854775807 < n) = true := by simpa using h3
          simp only [e0, f0, e1, f1, e2, f2, e3, f3, K12_1, go_sem, ne_eq, not_false_eq_true, reduceIte, Nat.reduceMul, Nat.reduceAdd, Nat.reduceSub, Nat.reduceEqDiff, Nat.reduceLeDiff, Nat.reduceLT, List.take_succ_cons, List.take_zero, List.drop_succ_cons, List.cons_append]
          simp [numEnd, numE, h0, h1, h2, h3]
theorem w_Number_loop (s : List UInt8) (neg : Bool) (gl : Nat → List V) : ∀ (l : List UInt8) (k n pos : Nat), n < 10 ^ k → k ≤ 19 → (pos = 0 → ∀ a r, l = a :: r → ¬ ((dec (a :: r)).1 = 45 ∧ 1 < s.length)) →
    M noX (kz12) (.code L12_1) (.loop L12_1 :: K12_1) ⟨gl, (.node (.node (.node (.node (.node (.node (.node .leaf .any .leaf) .any (.node .leaf .any .leaf)) .any (.node (.node .leaf .any .leaf) .any (.node .leaf .any .leaf))) .any (.node (.node (.node .leaf .any .leaf) .any (.node .leaf .any .leaf)) .any (.node (.node .leaf .any .leaf) .any (.node .leaf .any .leaf)))) .any (.node (.node (.node (.node .leaf .any .leaf) .any (.node .leaf .any .leaf)) .any (.node (.node .leaf .any .leaf) .any (.node .leaf .any .leaf))) .any (.node (.node (.node .leaf .any .leaf) .any (.node .leaf .any .leaf)) .any (.node (.node .leaf .any .leaf) .any (.node .leaf .any .leaf))))) .any (.node (.node (.node (.node (.node .leaf .any .leaf) .any (.node .leaf .any .leaf)) .any (.node (.node .leaf .any .leaf) .any (.node .leaf .any .leaf))) .any (.node (.node (.node .leaf .any .leaf) .any (.node .leaf .any .leaf)) .any (.node (.node .leaf .any .leaf) .any (.node .leaf .any .leaf)))) (.i .u64 n) (.node (.node (.node (.node .leaf .any .leaf) .any (.node .leaf .any .leaf)) .any (.node (.node .leaf .any .leaf) .any (.node .leaf .any .leaf))) .any (.node (.node (.node .leaf .any .leaf) .any (.node .leaf .any .leaf)) .any (.node (.node .leaf .any .leaf) .any (.node .leaf .any .leaf)))))) (.s s) (.node (.node (.node (.node (.node (.node .leaf .any .leaf) .any (.node .leaf .any .leaf)) .any (.node (.node .leaf .any .leaf) .any (.node .leaf .any .leaf))) .any (.node (.node (.node .leaf .any .leaf) .any (.node .leaf .any .leaf)) .any (.node (.node .leaf .any .leaf) .any (.node .leaf .any .leaf)))) (.b neg) (.node (.node (.node (.node .leaf .any .leaf) .any (.node .leaf .any .leaf)) .any (.node (.node .leaf .any .leaf) .any (.node .leaf .any .leaf))) .any (.node (.node (.node .leaf .any .leaf) .any (.node .leaf .any .leaf)) .any (.node (.node .leaf .any .leaf) .any (.node .leaf .any .leaf))))) .any (.node (.node (.node (.node (.node .leaf .any .leaf) .any (.node .leaf .any .leaf)) .any (.node (.node .leaf .any .leaf) .any (.node .leaf .any .leaf))) (.it) (.node (.node (.node .leaf .any .leaf) .any (.node .leaf .any .leaf)) .any (.node (.node .leaf .any .leaf) .any (.node .leaf .any .leaf)))) (.i .i64 k) (.node (.node (.node (.node .leaf .any .leaf) .any (.node .leaf .any .leaf)) .any (.node (.node .leaf .any .leaf) .any (.node .leaf .any .leaf))) .any (.node (.node (.node .leaf .any .leaf) .any (.node .leaf .any .leaf)) .any (.node (.node .leaf .any .leaf) .any (.node .leaf .any .leaf))))))), [(10, (l, pos))], [], {}⟩ (Fin [.tmp 2, .tmp 3] (numEnd neg (scan k n l))) := by
  intro l
  induction l using rune_ind with
  | h0 =>
    intro k n pos hn hk hz
    rw [U12_1]
    simp only [go_sem, ne_eq, not_false_eq_true, reduceIte, Nat.reduceMul, Nat.reduceAdd, Nat.reduceSub, Nat.reduceEqDiff, Nat.reduceLeDiff, Nat.reduceLT, List.take_succ_cons, List.take_zero, List.drop_succ_cons, List.cons_append]
    rw [scan_nil]
    have hn' : n < 10000000000000000000 := Nat.lt_of_lt_of_le hn (Nat.le_trans (Nat.pow_le_pow_right (by omega) hk) (by decide))
    have := w_Number_end s neg k n hn' hk [(10, ([], pos))] .it gl
    exact this
  | h1 a r ih =>
    intro k n pos hn hk hz
    rw [U12_1]
    rw [scan_cons]
    have hn' : n < 10000000000000000000 := Nat.lt_of_lt_of_le hn (Nat.le_trans (Nat.pow_le_pow_right (by omega) hk) (by decide))
    have hz' : decide (((pos : Nat) : Int) = 0) = true → decide (((dec (a :: r)).1 : Int) = 45) = true → decide ((1 : Int) < (s.length : Int)) = false := by
      intro h1 h2
      simp only [decide_eq_true_eq, decide_eq_false_iff_not] at h1 h2 ⊢
      have := hz (by omega) a r rfl
      omega
    have hw := dec_pos (a :: r)
    have c1 : decide (((dec (a :: r)).1 : Int) < 48) = decide ((dec (a :: r)).1 < 48) := decide_eq_decide.2 (by omega)
    have c2 : decide ((57 : Int) < ((dec (a :: r)).1 : Int)) = decide (57 < (dec (a :: r)).1) := decide_eq_decide.2 (by omega)
    have c3 : decide ((0 : Int) < (k : Int)) = decide (0 < k) := decide_eq_decide.2 (by omega)
    have c4 : decide (((n : Nat) : Int) = 0) = decide (n = 0) := decide_eq_decide.2 (by omega)
    have c5 : decide ((18 : Int) < (k : Int)) = decide (18 < k) := decide_eq_decide.2 (by omega)
    have hm : wr .u64 (10 * (n : Int)) = ((10 * n : Nat) : Int) ∨ 1000000000000000000 ≤ n := by
      by_cases h : n < 1000000000000000000
      · exact .inl (by rw [wru64] <;> omega)
      · exact .inr (by omega)
    generalize hp : decide (((pos : Nat) : Int) = 0) = h0 at hz'
    generalize hc : decide (((dec (a :: r)).1 : Int) = 45) = h1 at hz'
    generalize hs : decide ((1 : Int) < (s.length : Int)) = h2 at hz'
    cases b1 : decide ((dec (a :: r)).1 < 48) with
    | true =>
      rw [if_pos (by simp [badC, b1])]
      cases h0 <;> cases h1 <;> cases h2 <;> (first | (exfalso; exact Bool.noConfusion (hz' rfl rfl)) | (simp only [hp, hc, hs, c1, b1, go_sem, ne_eq, not_false_eq_true, reduceIte, Nat.reduceMul, Nat.reduceAdd, Nat.reduceSub, Nat.reduceEqDiff, Nat.reduceLeDiff, Nat.reduceLT, List.take_succ_cons, List.take_zero, List.drop_succ_cons, List.cons_append]; simp only [K12_1, go_sem, ne_eq, not_false_eq_true, reduceIte, Nat.reduceMul, Nat.reduceAdd, Nat.reduceSub, Nat.reduceEqDiff, Nat.reduceLeDiff, Nat.reduceLT, List.take_succ_cons, List.take_zero, List.drop_succ_cons, List.cons_append]; rfl))
    | false =>
      cases b2 : decide (57 < (dec (a :: r)).1) with
      | true =>
        rw [if_pos (by simp [badC, b2])]
        cases h0 <;> cases h1 <;> cases h2 <;> (first | (exfalso; exact Bool.noConfusion (hz' rfl rfl)) | (simp only [hp, hc, hs, c1, b1, c2, b2, go_sem, ne_eq, not_false_eq_true, reduceIte, Nat.reduceMul, Nat.reduceAdd, Nat.reduceSub, Nat.reduceEqDiff, Nat.reduceLeDiff, Nat.reduceLT, List.take_succ_cons, List.take_zero, List.drop_succ_cons, List.cons_append]; simp only [K12_1, go_sem, ne_eq, not_false_eq_true, reduceIte, Nat.reduceMul, Nat.reduceAdd, Nat.reduceSub, Nat.reduceEqDiff, Nat.reduceLeDiff, Nat.reduceLT, List.take_succ_cons, List.take_zero, List.drop_succ_cons, List.cons_append]; rfl))
      | false =>
        cases b5 : decide (18 < k) with
        | true =>
          rw [if_pos (by simp [badC, b5])]
          cases b3 : decide (0 < k) with
          | false => exfalso; simp only [decide_eq_true_eq, decide_eq_false_iff_not] at b3 b5; omega
          | true =>
            cases b4 : decide (n = 0) with
            | true => cases h0 <;> cases h1 <;> cases h2 <;> (first | (exfalso; exact Bool.noConfusion (hz' rfl rfl)) | (simp only [hp, hc, hs, c1, b1, c2, b2, c3, b3, c4, b4, go_sem, ne_eq, not_false_eq_true, reduceIte, Nat.reduceMul, Nat.reduceAdd, Nat.reduceSub, Nat.reduceEqDiff, Nat.reduceLeDiff, Nat.reduceLT, List.take_succ_cons, List.take_zero, List.drop_succ_cons, List.cons_append]; simp only [K12_1, go_sem, ne_eq, not_false_eq_true, reduceIte, Nat.reduceMul, Nat.reduceAdd, Nat.reduceSub, Nat.reduceEqDiff, Nat.reduceLeDiff, Nat.reduceLT, List.take_succ_cons, List.take_zero, List.drop_succ_cons, List.cons_append]; rfl))
            | false => cases h0 <;> cases h1 <;> cases h2 <;> (first | (exfalso; exact Bool.noConfusion (hz' rfl rfl)) | (simp only [hp, hc, hs, c1, b1, c2, b2, c3, b3, c4, b4, c5, b5, go_sem, ne_eq, not_false_eq_true, reduceIte, Nat.reduceMul, Nat.reduceAdd, Nat.reduceSub, Nat.reduceEqDiff, Nat.reduceLeDiff, Nat.reduceLT, List.take_succ_cons, List.take_zero, List.drop_succ_cons, List.cons_append]; simp only [K12_1, go_sem, ne_eq, not_false_eq_true, reduceIte, Nat.reduceMul, Nat.reduceAdd, Nat.reduceSub, Nat.reduceEqDiff, Nat.reduceLeDiff, Nat.reduceLT, List.take_succ_cons, List.take_zero, List.drop_succ_cons, List.cons_append]; rfl))
        | false =>
          have k18 : k ≤ 18 := by simp only [decide_eq_false_iff_not] at b5; omega
          have n18 : n < 1000000000000000000 := Nat.lt_of_lt_of_le hn (Nat.le_trans (Nat.pow_le_pow_right (by omega) k18) (by decide))
          have c48 : 48 ≤ (dec (a :: r)).1 := by simp only [decide_eq_false_iff_not] at b1; omega
          have c57 : (dec (a :: r)).1 ≤ 57 := by simp only [decide_eq_false_iff_not] at b2; omega
          have w1 : wr .u64 (10 * (n : Int)) = ((10 * n : Nat) : Int) := by rw [wru64] <;> omega
          have w2 : wr .i32 (((dec (a :: r)).1 : Int) - 48) = (((dec (a :: r)).1 - 48 : Nat) : Int) := by rw [wr32] <;> omega
          have w3 : wr .u64 (((dec (a :: r)).1 - 48 : Nat) : Int) = (((dec (a :: r)).1 - 48 : Nat) : Int) := by rw [wru64] <;> omega
          have w4 : wr .u64 (((10 * n : Nat) : Int) + (((dec (a :: r)).1 - 48 : Nat) : Int)) = ((10 * n + ((dec (a :: r)).1 - 48) : Nat) : Int) := by rw [wru64] <;> omega
          have w5 : wr .i64 ((k : Int) + 1) = ((k + 1 : Nat) : Int) := by rw [wr64] <;> omega
          have hn2 : 10 * n + ((dec (a :: r)).1 - 48) < 10 ^ (k + 1) := by rw [Nat.pow_succ]; omega
          have := ih (k + 1) (10 * n + ((dec (a :: r)).1 - 48)) (pos + (dec (a :: r)).2) hn2 (by omega) (by omega)
          cases b3 : decide (0 < k) with
          | false =>
            rw [if_neg (by simp [badC, b1, b2, b3, b5])]
            cases h0 <;> cases h1 <;> cases h2 <;> (first | (exfalso; exact Bool.noConfusion (hz' rfl rfl)) | (simp only [hp, hc, hs, c1, b1, c2, b2, c3, b3, c5, b5, w1, w2, w3, w4, w5, go_sem, ne_eq, not_false_eq_true, reduceIte, Nat.reduceMul, Nat.reduceAdd, Nat.reduceSub, Nat.reduceEqDiff, Nat.reduceLeDiff, Nat.reduceLT, List.take_succ_cons, List.take_zero, List.drop_succ_cons, List.cons_append]; rw [M_loop]; simp only [kz12, K12_1, List.length_cons, List.length_nil, go_sem, ne_eq, not_false_eq_true, reduceIte, Nat.reduceMul, Nat.reduceAdd, Nat.reduceSub, Nat.reduceEqDiff, Nat.reduceLeDiff, Nat.reduceLT, List.take_succ_cons, List.take_zero, List.drop_succ_cons, List.cons_append] at this ⊢; exact this))
          | true =>
            cases b4 : decide (n = 0) with
            | true =>
              rw [if_pos (by simp [badC, b3, b4])]
              cases h0 <;> cases h1 <;> cases h2 <;> (first | (exfalso; exact Bool.noConfusion (hz' rfl rfl)) | (simp only [hp, hc, hs, c1, b1, c2, b2, c3, b3, c4, b4, go_sem, ne_eq, not_false_eq_true, reduceIte, Nat.reduceMul, Nat.reduceAdd, Nat.reduceSub, Nat.reduceEqDiff, Nat.reduceLeDiff, Nat.reduceLT, List.take_succ_cons, List.take_zero, List.drop_succ_cons, List.cons_append]; simp only [K12_1, go_sem, ne_eq, not_false_eq_true, reduceIte, Nat.reduceMul, Nat.reduceAdd, Nat.reduceSub, Nat.reduceEqDiff, Nat.reduceLeDiff, Nat.reduceLT, List.take_succ_cons, List.take_zero, List.drop_succ_cons, List.cons_append]; rfl))
            | false =>
              rw [if_neg (by simp [badC, b1, b2, b4, b5])]
              cases h0 <;> cases h1 <;> cases h2 <;> (first | (exfalso; exact Bool.noConfusion (hz' rfl rfl)) | (simp only [hp, hc, hs, c1, b1, c2, b2, c3, b3, c4, b4, c5, b5, w1, w2, w3, w4, w5, go_sem, ne_eq, not_false_eq_true, reduceIte, Nat.reduceMul, Nat.reduceAdd, Nat.reduceSub, Nat.reduceEqDiff, Nat.reduceLeDiff, Nat.reduceLT, List.take_succ_cons, List.take_zero, List.drop_succ_cons, List.cons_append]; rw [M_loop]; simp only [kz12, K12_1, List.length_cons, List.length_nil, go_sem, ne_eq, not_false_eq_true, reduceIte, Nat.reduceMul, Nat.reduceAdd, Nat.reduceSub, Nat.reduceEqDiff, Nat.reduceLeDiff, Nat.reduceLT, List.take_succ_cons, List.take_zero, List.drop_succ_cons, List.cons_append] at this ⊢; exact this))

/-- Is it a minus, with something behind it? -/
def negOf (l : List UInt8) : Bool := match l with
  | [] => false
  | a :: r => decide (a.toNat = 45) && !r.isEmpty
def digsOf (l : List UInt8) : List UInt8 := if negOf l = true then l.drop 1 else l
def numT (l : List UInt8) : V := numEnd (negOf l) (scan 0 0 (digsOf l))
theorem w_Number (s : List UInt8) (hs : s.length ≤ 16384) (gl : Nat → List V) : M noX (kz12) (.code B12) [] (St.init gl 7 [.s s] {}) (Fin [.tmp 2, .tmp 3] (numT s)) := by
  rw [U12]
  simp only [go_sem, ne_eq, not_false_eq_true, reduceIte, Nat.reduceMul, Nat.reduceAdd, Nat.reduceSub, Nat.reduceEqDiff, Nat.reduceLeDiff, Nat.reduceLT, List.take_succ_cons, List.take_zero, List.drop_succ_cons, List.cons_append]
  rw [M_loop]
  simp only [kz12, go_sem, ne_eq, not_false_eq_true, reduceIte, Nat.reduceMul, Nat.reduceAdd, Nat.reduceSub, Nat.reduceEqDiff, Nat.reduceLeDiff, Nat.reduceLT, List.take_succ_cons, List.take_zero, List.drop_succ_cons, List.cons_append]
  cases hn : negOf s with
  | false =>
    have hd : digsOf s = s := by simp [digsOf, hn]
    have := w_Number_loop s false gl s 0 0 0 (by decide) (by omega) (fun _ a r e => by
      subst e
      rintro ⟨h1, h2⟩
      obtain ⟨h3, h4⟩ := dec_low (a := a) (r := r) (by omega)
      rw [h4] at h1
      cases r with
      | nil => simp at h2
      | cons b t => simp [negOf] at hn; exact hn h1)
    rw [numT, hn, hd]
    exact this
  | true =>
    cases s with
    | nil => simp [negOf] at hn
    | cons a r =>
      simp only [negOf, Bool.and_eq_true, decide_eq_true_eq, Bool.not_eq_true', List.isEmpty_eq_false_iff] at hn
      have hn' : negOf (a :: r) = true := by simp [negOf, hn]
      have hdec : dec (a :: r) = (45, 1) := by rw [dec_ascii (by omega), hn.1]
      have hlen : decide ((1 : Int) < ((r.length + 1 : Nat) : Int)) = true := by
        have := List.length_pos_iff.2 hn.2
        simp; omega
      rw [U12_1]
      have := w_Number_loop (a :: r) true gl r 0 0 1 (by decide) (by omega) (by omega)
      rw [numT, hn', show digsOf (a :: r) = r from by simp [digsOf, hn']]
      simp only [hdec, hlen, Int.reduceEq, Int.natCast_zero, Int.cast_ofNat_Int, go_sem, ne_eq, not_false_eq_true, reduceIte, Nat.reduceMul, Nat.reduceAdd, Nat.reduceSub, Nat.reduceEqDiff, Nat.reduceLeDiff, Nat.reduceLT, List.take_succ_cons, List.take_zero, List.drop_succ_cons, List.cons_append]
      rw [M_loop]
      simp only [kz12, K12_1, List.length_cons, List.length_nil, Int.natCast_zero, Int.cast_ofNat_Int, go_sem, ne_eq, not_false_eq_true, reduceIte, Nat.reduceMul, Nat.reduceAdd, Nat.reduceSub, Nat.reduceEqDiff, Nat.reduceLeDiff, Nat.reduceLT, List.take_succ_cons, List.take_zero, List.drop_succ_cons, List.cons_append] at this ⊢
      exact this
def F_Number (a : List V) : Option V := match a with
  | [.s s] => if s.length ≤ 16384 then some (numT s) else none
  | _ => none
theorem F_Number1 (s : List UInt8) (hs : s.length ≤ 16384) : F_Number [.s s] = some (numT s) := if_pos hs
theorem o_Number : ∀ a v, F_Number a = some v → Comp tabx told 12 a v := fun a v e => by
  unfold F_Number at e
  split at e
  · split at e
    · rename_i h; cases e; exact comp_of tells_noX (fn := af12) rfl (Nat.le_of_ble_eq_true rfl) fun gl => w_Number _ h gl
    · cases e
  · cases e
end Go.Proofs.YtkibkodlbjhjfaaDoor
