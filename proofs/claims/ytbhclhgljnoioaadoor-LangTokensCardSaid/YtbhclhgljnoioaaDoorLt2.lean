/- ref08: a rune by its digits in braces. -/
import Derived.Test.YtbhclhgljnoioaaDoorLt1
set_option linter.unusedSimpArgs false
set_option linter.unusedVariables false
namespace Go.Proofs.YtbhclhgljnoioaaDoor
open Ai
/-- The digits, from the k-th byte on. -/
def escL : List UInt8 → Nat → Nat → Option (Nat × Nat)
  | [], _, _ => none
  | a :: r, k, n =>
    if 7 < k then none else
    if a = 125 then (if k = 1 ∨ 1114111 < n ∨ (55296 ≤ n ∧ n ≤ 57343) then none else some (n, k + 1)) else
    match hexd a.toNat with
    | none => none
    | some d => if k = 7 then none else escL r (k + 1) (16 * n + d)
def escR (o : Option (Nat × Nat)) (i : Nat) : V := match o with
  | some (n, k) => .tup [.i .i32 n, .i .i64 ((i + k : Nat) : Int)]
  | none => .tup [.i .i32 (-1), .i .i64 0]
def X_esc := xs [(98, F_rval)]
theorem t_esc : Tells tabx told X_esc := tells_cons o_rval tells_nil
theorem es_val (a : UInt8) : X_esc 98 [.i .u8 (a.toNat : Int)] = some (.i .i32 (hexI a.toNat)) := F_rval1 a
def K74_1 : List Fr := [.blk 0,
  .seq (.seq (.reg [⟨some 4, .mov (.k (.i .i32 (-1))), none⟩,
       ⟨some 5, .mov (.k (.i .i64 0)), none⟩])
    .ret)]
theorem U74_1 {xf : FuncId → List V → Option V} {kz : Nat → List Nat} {k : List Fr} {st : St} {Q : AEx → St → Prop} : M xf kz (.code L74_1) k st Q = M xf kz (.code (.seq (.seq (.reg [⟨some 19, .mov (.t 7), none⟩,
      ⟨some 20, .bin .leq (.t 19) (.k (.i .i64 7)), none⟩,
      ⟨some 21, .mov (.t 20), none⟩,
      ⟨some 22, .mov (.t 1), some (21, true)⟩,
      ⟨some 23, .mov (.t 7), some (21, true)⟩,
      ⟨some 24, .bin .add (.t 22) (.t 23), some (21, true)⟩,
      ⟨some 25, .mov (.t 0), some (21, true)⟩,
      ⟨some 26, .len .str (.t 25), some (21, true)⟩,
      ⟨some 27, .bin .lss (.t 24) (.t 26), some (21, true)⟩,
      ⟨some 28, .pick (.t 21) (.t 27) (.k (.b false)), none⟩])
   (.cond (.t 28)
    .skip
    (.exit 0)))
  (.seq (.blk 1 (.seq (.seq (.reg [⟨some 31, .mov (.t 0), none⟩,
        ⟨some 32, .mov (.t 1), none⟩,
        ⟨some 33, .mov (.t 7), none⟩,
        ⟨some 34, .bin .add (.t 32) (.t 33), none⟩,
        ⟨some 35, .idx .str (.t 31) (.t 34), none⟩,
        ⟨some 36, .bin .eql (.t 35) (.k (.i .u8 125)), none⟩])
     (.cond (.t 36)
      (.seq (.seq (.reg [⟨some 37, .mov (.t 7), none⟩,
          ⟨some 38, .bin .eql (.t 37) (.k (.i .i64 1)), none⟩,
          ⟨some 39, .mov (.t 38), none⟩,
          ⟨some 40, .mov (.t 6), some (39, false)⟩,
          ⟨some 41, .bin .gtr (.t 40) (.k (.i .i32 1114111)), some (39, false)⟩,
          ⟨some 42, .pick (.t 39) (.k (.b true)) (.t 41), none⟩,
          ⟨some 43, .mov (.t 42), none⟩,
          ⟨some 44, .mov (.t 6), some (43, false)⟩,
          ⟨some 45, .bin .geq (.t 44) (.k (.i .i32 55296)), some (43, false)⟩,
          ⟨some 46, .mov (.t 45), some (43, false)⟩,
          ⟨some 47, .mov (.t 6), some (46, true)⟩,
          ⟨some 48, .bin .leq (.t 47) (.k (.i .i32 57343)), some (46, true)⟩,
          ⟨some 49, .pick (.t 46) (.t 48) (.k (.b false)), some (43, false)⟩,
          ⟨some 50, .pick (.t 43) (.k (.b true)) (.t 49), none⟩])
       (.cond (.t 50)
        (.seq (.reg [⟨some 4, .mov (.k (.i .i32 (-1))), none⟩,
           ⟨some 5, .mov (.k (.i .i64 0)), none⟩])
        .ret)
        .skip))
      (.seq (.reg [⟨some 51, .mov (.t 6), none⟩,
         ⟨some 52, .mov (.t 1), none⟩,
         ⟨some 53, .mov (.t 7), none⟩,
         ⟨some 54, .bin .add (.t 52) (.t 53), none⟩,
         ⟨some 55, .bin .add (.t 54) (.k (.i .i64 1)), none⟩,
         ⟨some 4, .mov (.t 51), none⟩,
         ⟨some 5, .mov (.t 55), none⟩])
      .ret))
      .skip))
    (.seq (.reg [⟨some 56, .mov (.t 0), none⟩,
       ⟨some 57, .mov (.t 1), none⟩,
       ⟨some 58, .mov (.t 7), none⟩,
       ⟨some 59, .bin .add (.t 57) (.t 58), none⟩,
       ⟨some 60, .idx .str (.t 56) (.t 59), none⟩,
       ⟨some 61, .call true 98 [(.t 60)], none⟩,
       ⟨some 8, .mov (.t 61), none⟩])
    (.seq (.seq (.reg [⟨some 62, .mov (.t 8), none⟩,
        ⟨some 63, .bin .lss (.t 62) (.k (.i .i32 0)), none⟩,
        ⟨some 64, .mov (.t 63), none⟩,
        ⟨some 65, .mov (.t 7), some (64, false)⟩,
        ⟨some 66, .bin .eql (.t 65) (.k (.i .i64 7)), some (64, false)⟩,
        ⟨some 67, .pick (.t 64) (.k (.b true)) (.t 66), none⟩])
     (.cond (.t 67)
      (.seq (.reg [⟨some 4, .mov (.k (.i .i32 (-1))), none⟩,
         ⟨some 5, .mov (.k (.i .i64 0)), none⟩])
      .ret)
      .skip))
    (.reg [⟨some 68, .mov (.t 6), none⟩,
      ⟨some 69, .bin .mul (.k (.i .i32 16)) (.t 68), none⟩,
      ⟨some 70, .mov (.t 8), none⟩,
      ⟨some 71, .bin .add (.t 69) (.t 70), none⟩,
      ⟨some 6, .mov (.t 71), none⟩])))))
  (.reg [⟨some 29, .mov (.t 7), none⟩,
    ⟨some 30, .bin .add (.t 29) (.k (.i .i64 1)), none⟩,
    ⟨some 7, .mov (.t 30), none⟩])))) k st Q := rfl
theorem U74 {xf : FuncId → List V → Option V} {kz : Nat → List Nat} {k : List Fr} {st : St} {Q : AEx → St → Prop} : M xf kz (.code B74) k st Q = M xf kz (.code (.seq (.reg [⟨some 4, .mov (.k (.i .i32 0)), none⟩,
     ⟨some 5, .mov (.k (.i .i64 0)), none⟩])
  (.seq (.seq (.reg [⟨some 9, .mov (.t 1), none⟩,
      ⟨some 10, .mov (.t 0), none⟩,
      ⟨some 11, .len .str (.t 10), none⟩,
      ⟨some 12, .bin .geq (.t 9) (.t 11), none⟩,
      ⟨some 13, .mov (.t 12), none⟩,
      ⟨some 14, .mov (.t 0), some (13, false)⟩,
      ⟨some 15, .mov (.t 1), some (13, false)⟩,
      ⟨some 16, .idx .str (.t 14) (.t 15), some (13, false)⟩,
      ⟨some 17, .bin .neq (.t 16) (.k (.i .u8 123)), some (13, false)⟩,
      ⟨some 18, .pick (.t 13) (.k (.b true)) (.t 17), none⟩])
   (.cond (.t 18)
    (.seq (.reg [⟨some 4, .mov (.k (.i .i32 (-1))), none⟩,
       ⟨some 5, .mov (.k (.i .i64 0)), none⟩])
    .ret)
    .skip))
  (.seq (.reg [⟨some 6, .mov (.k (.i .i32 0)), none⟩])
  (.seq (.seq (.reg [⟨some 7, .mov (.k (.i .i64 1)), none⟩])
   (.blk 0 (.loop L74_1)))
  (.seq (.reg [⟨some 4, .mov (.k (.i .i32 (-1))), none⟩,
     ⟨some 5, .mov (.k (.i .i64 0)), none⟩])
  .ret)))))) k st Q := rfl
def kz74 (_ : Nat) : List Nat := [2, 3, 4, 5, 8, 9, 10, 11, 12, 13, 14, 15, 16, 17, 18, 19, 20, 21, 22, 23, 24, 25, 26, 27, 28, 29, 30, 31, 32, 33, 34, 35, 36, 37, 38, 39, 40, 41, 42, 43, 44, 45, 46, 47, 48, 49, 50, 51, 52, 53, 54, 55, 56, 57, 58, 59, 60, 61, 62, 63, 64, 65, 66, 67, 68, 69, 70, 71]
theorem w_escape_loop (s : List UInt8) (hs : s.length ≤ 1048576) (i : Nat) (hi : i ≤ s.length) (gl : Nat → List V) : ∀ (l : List UInt8) (k n : Nat), s.drop (i + k) = l → i + k ≤ s.length → 1 ≤ k → k ≤ 8 → n < 16 ^ (k - 1) →
    M X_esc (kz74) (.code L74_1) (.loop L74_1 :: K74_1) ⟨gl, (.node (.node (.node (.node (.node (.node (.node .leaf .any .leaf) .any (.node .leaf .any .leaf)) .any (.node (.node .leaf .any .leaf) .any (.node .leaf .any .leaf))) (.i .i64 k) (.node (.node (.node .leaf .any .leaf) .any (.node .leaf .any .leaf)) .any (.node (.node .leaf .any .leaf) .any (.node .leaf .any .leaf)))) .any (.node (.node (.node (.node .leaf .any .leaf) .any (.node .leaf .any .leaf)) .any (.node (.node .leaf .any .leaf) .any (.node .leaf .any .leaf))) .any (.node (.node (.node .leaf .any .leaf) .any (.node .leaf .any .leaf)) .any (.node (.node .leaf .any .leaf) .any (.node .leaf .any .leaf))))) (.i .i64 i) (.node (.node (.node (.node (.node .leaf .any .leaf) .any (.node .leaf .any .leaf)) .any (.node (.node .leaf .any .leaf) .any (.node .leaf .any .leaf))) .any (.node (.node (.node .leaf .any .leaf) .any (.node .leaf .any .leaf)) .any (.node (.node .leaf .any .leaf) .any (.node .leaf .any .leaf)))) .any (.node (.node (.node (.node .leaf .any .leaf) .any (.node .leaf .any .leaf)) .any (.node (.node .leaf .any .leaf) .any (.node .leaf .any .leaf))) .any (.node (.node (.node .leaf .any .leaf) .any (.node .leaf .any .leaf)) .any (.node (.node .leaf .any .leaf) .any (.node .leaf .any .leaf)))))) (.s s) (.node (.node (.node (.node (.node (.node .leaf .any .leaf) .any (.node .leaf .any .leaf)) .any (.node (.node .leaf .any .leaf) .any (.node .leaf .any .leaf))) .any (.node (.node (.node .leaf .any .leaf) .any (.node .leaf .any .leaf)) .any (.node (.node .leaf .any .leaf) .any (.node .leaf .any .leaf)))) .any (.node (.node (.node (.node .leaf .any .leaf) .any (.node .leaf .any .leaf)) .any (.node (.node .leaf .any .leaf) .any (.node .leaf .any .leaf))) .any (.node (.node (.node .leaf .any .leaf) .any (.node .leaf .any .leaf)) .any (.node (.node .leaf .any .leaf) .any (.node .leaf .any .leaf))))) .any (.node (.node (.node (.node (.node .leaf .any .leaf) .any (.node .leaf .any .leaf)) .any (.node (.node .leaf .any .leaf) .any (.node .leaf .any .leaf))) .any (.node (.node (.node .leaf .any .leaf) .any (.node .leaf .any .leaf)) .any (.node (.node .leaf .any .leaf) .any (.node .leaf .any .leaf)))) (.i .i32 n) (.node (.node (.node (.node .leaf .any .leaf) .any (.node .leaf .any .leaf)) .any (.node (.node .leaf .any .leaf) .any (.node .leaf .any .leaf))) .any (.node (.node (.node .leaf .any .leaf) .any (.node .leaf .any .leaf)) .any (.node (.node .leaf .any .leaf) .any (.node .leaf .any .leaf))))))), [], [], {}⟩ (Fin [.tmp 4, .tmp 5] (escR (escL l k n) i)) := by
  intro l
  induction l with
  | nil =>
    intro k n hd hk h1 h8 hn
    have hl := drop_len hd hk
    simp only [List.length_nil, Nat.add_zero] at hl
    have w1 : wr .i64 ((i : Int) + (k : Int)) = ((i + k : Nat) : Int) := by rw [wr64] <;> omega
    have e2 : decide (((i + k : Nat) : Int) < (s.length : Int)) = false := decide_eq_false (by omega)
    rw [U74_1]
    cases e1 : decide ((k : Int) ≤ 7) <;> simp only [e1, e2, w1, escL, escR, K74_1, go_sem, ne_eq, not_false_eq_true, reduceIte, Nat.reduceMul, Nat.reduceAdd, Nat.reduceSub, Nat.reduceEqDiff, Nat.reduceLeDiff, Nat.reduceLT, List.take_succ_cons, List.take_zero, List.drop_succ_cons, List.cons_append]
  | cons a r ih =>
    intro k n hd hk h1 h8 hn
    have hl := drop_len hd hk
    simp only [List.length_cons] at hl
    have w1 : wr .i64 ((i : Int) + (k : Int)) = ((i + k : Nat) : Int) := by rw [wr64] <;> omega
    have w2 : wr .i64 (((i + k : Nat) : Int) + 1) = ((i + (k + 1) : Nat) : Int) := by rw [wr64] <;> omega
    have w3 : wr .i64 ((k : Int) + 1) = ((k + 1 : Nat) : Int) := by rw [wr64] <;> omega
    have e2 : decide (((i + k : Nat) : Int) < (s.length : Int)) = true := decide_eq_true (by omega)
    have eg := get_drop hd
    have g1 : decide ((a.toNat : Int) = 125) = decide (a = 125) := decide_eq_decide.2 ⟨fun h => UInt8.toNat_inj.1 (by show a.toNat = 125; omega), fun h => by rw [h]; rfl⟩
    rw [U74_1, escL]
    by_cases k7 : 7 < k
    · have e1 : decide ((k : Int) ≤ 7) = false := decide_eq_false (by omega)
      rw [if_pos k7]
      simp only [e1, escR, K74_1, go_sem, ne_eq, not_false_eq_true, reduceIte, Nat.reduceMul, Nat.reduceAdd, Nat.reduceSub, Nat.reduceEqDiff, Nat.reduceLeDiff, Nat.reduceLT, List.take_succ_cons, List.take_zero, List.drop_succ_cons, List.cons_append]
    · have e1 : decide ((k : Int) ≤ 7) = true := decide_eq_true (by omega)
      have hn7 : n < 16777216 := Nat.lt_of_lt_of_le hn (Nat.le_trans (Nat.pow_le_pow_right (by omega) (show k - 1 ≤ 6 by omega)) (by decide))
      rw [if_neg k7]
      by_cases c1 : a = 125
      · have f1 : decide (a = 125) = true := decide_eq_true c1
        rw [if_pos c1]
        by_cases b1 : k = 1
        · have f2 : decide ((k : Int) = 1) = true := decide_eq_true (by omega)
          rw [if_pos (.inl b1)]
          simp only [e1, e2, w1, w2, eg, g1, f1, f2, escR, K74_1, go_sem, ne_eq, not_false_eq_true, reduceIte, Nat.reduceMul, Nat.reduceAdd, Nat.reduceSub, Nat.reduceEqDiff, Nat.reduceLeDiff, Nat.reduceLT, List.take_succ_cons, List.take_zero, List.drop_succ_cons, List.cons_append]
        · have f2 : decide ((k : Int) = 1) = false := decide_eq_false (by omega)
          by_cases b2 : 1114111 < n
          · have f3 : decide ((1114111 : Int) < (n : Int)) = true := decide_eq_true (by omega)
            rw [if_pos (.inr (.inl b2))]
            simp only [e1, e2, w1, w2, eg, g1, f1, f2, f3, escR, K74_1, go_sem, ne_eq, not_false_eq_true, reduceIte, Nat.reduceMul, Nat.reduceAdd, Nat.reduceSub, Nat.reduceEqDiff, Nat.reduceLeDiff, Nat.reduceLT, List.take_succ_cons, List.take_zero, List.drop_succ_cons, List.cons_append]
          · have f3 : decide ((1114111 : Int) < (n : Int)) = false := decide_eq_false (by omega)
            by_cases b3 : 55296 ≤ n
            · have f4 : decide ((55296 : Int) ≤ (n : Int)) = true := decide_eq_true (by omega)
              by_cases b4 : n ≤ 57343
              · have f5 : decide ((n : Int) ≤ 57343) = true := decide_eq_true (by omega)
                rw [if_pos (.inr (.inr ⟨b3, b4⟩))]
                simp only [e1, e2, w1, w2, eg, g1, f1, f2, f3, f4, f5, escR, K74_1, go_sem, ne_eq, not_false_eq_true, reduceIte, Nat.reduceMul, Nat.reduceAdd, Nat.reduceSub, Nat.reduceEqDiff, Nat.reduceLeDiff, Nat.reduceLT, List.take_succ_cons, List.take_zero, List.drop_succ_cons, List.cons_append]
              · have f5 : decide ((n : Int) ≤ 57343) = false := decide_eq_false (by omega)
                rw [if_neg (by omega)]
                simp only [e1, e2, w1, w2, eg, g1, f1, f2, f3, f4, f5, escR, K74_1, go_sem, ne_eq, not_false_eq_true, reduceIte, Nat.reduceMul, Nat.reduceAdd, Nat.reduceSub, Nat.reduceEqDiff, Nat.reduceLeDiff, Nat.reduceLT, List.take_succ_cons, List.take_zero, List.drop_succ_cons, List.cons_append]
            · have f4 : decide ((55296 : Int) ≤ (n : Int)) = false := decide_eq_false (by omega)
              rw [if_neg (by omega)]
              simp only [e1, e2, w1, w2, eg, g1, f1, f2, f3, f4, escR, K74_1, go_sem, ne_eq, not_false_eq_true, reduceIte, Nat.reduceMul, Nat.reduceAdd, Nat.reduceSub, Nat.reduceEqDiff, Nat.reduceLeDiff, Nat.reduceLT, List.take_succ_cons, List.take_zero, List.drop_succ_cons, List.cons_append]
      · have f1 : decide (a = 125) = false := decide_eq_false c1
        rw [if_neg c1]
        cases hx : hexd a.toNat with
        | none =>
          have hI : hexI a.toNat = -1 := by unfold hexI; rw [hx]
          simp only [e1, e2, w1, w2, eg, g1, f1, es_val, hI, escR, Int.reduceNeg, Int.reduceLT, K74_1, go_sem, ne_eq, not_false_eq_true, reduceIte, Nat.reduceMul, Nat.reduceAdd, Nat.reduceSub, Nat.reduceEqDiff, Nat.reduceLeDiff, Nat.reduceLT, List.take_succ_cons, List.take_zero, List.drop_succ_cons, List.cons_append]
        | some d =>
          have hd16 := hexd_lt hx
          have hI : hexI a.toNat = (d : Int) := by unfold hexI; rw [hx]
          have f2 : decide ((d : Int) < 0) = false := decide_eq_false (by omega)
          simp only
          by_cases b1 : k = 7
          · have f3 : decide ((k : Int) = 7) = true := decide_eq_true (by omega)
            rw [if_pos b1]
            simp only [e1, e2, w1, w2, eg, g1, f1, es_val, hI, f2, f3, escR, K74_1, go_sem, ne_eq, not_false_eq_true, reduceIte, Nat.reduceMul, Nat.reduceAdd, Nat.reduceSub, Nat.reduceEqDiff, Nat.reduceLeDiff, Nat.reduceLT, List.take_succ_cons, List.take_zero, List.drop_succ_cons, List.cons_append]
          · have f3 : decide ((k : Int) = 7) = false := decide_eq_false (by omega)
            rw [if_neg b1]
            have hn6 : n < 1048576 := Nat.lt_of_lt_of_le hn (Nat.le_trans (Nat.pow_le_pow_right (by omega) (show k - 1 ≤ 5 by omega)) (by decide))
            have w4 : wr .i32 (16 * (n : Int)) = ((16 * n : Nat) : Int) := by rw [wr32] <;> omega
            have w5 : wr .i32 (((16 * n : Nat) : Int) + (d : Int)) = ((16 * n + d : Nat) : Int) := by rw [wr32] <;> omega
            have := ih (k + 1) (16 * n + d) (by rw [← Nat.add_assoc, ← List.drop_drop, hd]; rfl) (by omega) (by omega) (by omega) (by
              rw [show k + 1 - 1 = (k - 1) + 1 from by omega, Nat.pow_succ]; omega)
            simp only [e1, e2, w1, w2, w3, w4, w5, eg, g1, f1, es_val, hI, f2, f3, go_sem, ne_eq, not_false_eq_true, reduceIte, Nat.reduceMul, Nat.reduceAdd, Nat.reduceSub, Nat.reduceEqDiff, Nat.reduceLeDiff, Nat.reduceLT, List.take_succ_cons, List.take_zero, List.drop_succ_cons, List.cons_append]
            rw [M_loop]
            simp only [kz74, K74_1, List.length_cons, List.length_nil, go_sem, ne_eq, not_false_eq_true, reduceIte, Nat.reduceMul, Nat.reduceAdd, Nat.reduceSub, Nat.reduceEqDiff, Nat.reduceLeDiff, Nat.reduceLT, List.take_succ_cons, List.take_zero, List.drop_succ_cons, List.cons_append] at this ⊢
            exact this
/-- The braces, too. -/
def escV (l : List UInt8) : Option (Nat × Nat) := match l with
  | [] => none
  | a :: r => if a = 123 then escL r 1 0 else none
theorem w_escape (s : List UInt8) (hs : s.length ≤ 1048576) (i : Nat) (hi : i ≤ s.length) (gl : Nat → List V) : M X_esc (kz74) (.code B74) [] (St.init gl 7 [.s s, .i .i64 i] {}) (Fin [.tmp 4, .tmp 5] (escR (escV (s.drop i)) i)) := by
  rw [U74]
  cases hd : s.drop i with
  | nil =>
    have hl := drop_len hd hi
    simp only [List.length_nil, Nat.add_zero] at hl
    have e1 : decide ((s.length : Int) ≤ (i : Int)) = true := decide_eq_true (by omega)
    simp only [e1, escV, escR, go_sem, ne_eq, not_false_eq_true, reduceIte, Nat.reduceMul, Nat.reduceAdd, Nat.reduceSub, Nat.reduceEqDiff, Nat.reduceLeDiff, Nat.reduceLT, List.take_succ_cons, List.take_zero, List.drop_succ_cons, List.cons_append]
  | cons a r =>
    have hl := drop_len hd hi
    simp only [List.length_cons] at hl
    have e1 : decide ((s.length : Int) ≤ (i : Int)) = false := decide_eq_false (by omega)
    have eg := get_drop hd
    have g1 : decide ((a.toNat : Int) = 123) = decide (a = 123) := decide_eq_decide.2 ⟨fun h => UInt8.toNat_inj.1 (by show a.toNat = 123; omega), fun h => by rw [h]; rfl⟩
    by_cases c1 : a = 123
    · have f1 : decide (a = 123) = true := decide_eq_true c1
      have := w_escape_loop s hs i hi gl r 1 0 (by rw [← List.drop_drop, hd]; rfl) (by omega) (by omega) (by omega) (by decide)
      rw [escV, if_pos c1]
      simp only [e1, eg, g1, f1, go_sem, ne_eq, not_false_eq_true, reduceIte, Nat.reduceMul, Nat.reduceAdd, Nat.reduceSub, Nat.reduceEqDiff, Nat.reduceLeDiff, Nat.reduceLT, List.take_succ_cons, List.take_zero, List.drop_succ_cons, List.cons_append]
      rw [M_loop]
      simp only [kz74, K74_1, List.length_cons, List.length_nil, Int.natCast_zero, Int.cast_ofNat_Int, go_sem, ne_eq, not_false_eq_true, reduceIte, Nat.reduceMul, Nat.reduceAdd, Nat.reduceSub, Nat.reduceEqDiff, Nat.reduceLeDiff, Nat.reduceLT, List.take_succ_cons, List.take_zero, List.drop_succ_cons, List.cons_append] at this ⊢
      exact this
    · have f1 : decide (a = 123) = false := decide_eq_false c1
      rw [escV, if_neg c1]
      simp only [e1, eg, g1, f1, escR, go_sem, ne_eq, not_false_eq_true, reduceIte, Nat.reduceMul, Nat.reduceAdd, Nat.reduceSub, Nat.reduceEqDiff, Nat.reduceLeDiff, Nat.reduceLT, List.take_succ_cons, List.take_zero, List.drop_succ_cons, List.cons_append]
def F_esc (a : List V) : Option V := match a with
  | [.s s, .i .i64 (Int.ofNat i)] => if s.length ≤ 1048576 ∧ i ≤ s.length then some (escR (escV (s.drop i)) i) else none
  | _ => none
theorem F_esc1 {s : List UInt8} {i : Nat} (h : s.length ≤ 1048576) (hi : i ≤ s.length) : F_esc [.s s, .i .i64 (i : Int)] = some (escR (escV (s.drop i)) i) := if_pos ⟨h, hi⟩
theorem o_esc : ∀ a v, F_esc a = some v → Comp tabx told 74 a v := fun a v e => by
  unfold F_esc at e
  split at e
  · split at e
    · rename_i h; cases e; exact comp_of t_esc (fn := af74) rfl (Nat.le_of_ble_eq_true rfl) fun gl => w_escape _ h.1 _ h.2 gl
    · cases e
  · cases e
/-! ### It is lang's -/
theorem index_cons (a : UInt8) (r : List UInt8) (c : UInt8) : Lib.indexByte (a :: r) c = if a = c then 0 else if Lib.indexByte r c = -1 then -1 else Lib.indexByte r c + 1 := by
  rw [Lib.indexByte]
  by_cases h : a = c
  · subst h; simp
  · have : (a == c) = false := by simpa using h
    simp only [this, Bool.false_eq_true, if_false, if_neg h, beq_iff_eq]
theorem index_or : ∀ (l : List UInt8) (c : UInt8), Lib.indexByte l c = -1 ∨ ∃ j : Nat, Lib.indexByte l c = (j : Int)
  | [], c => .inl rfl
  | a :: r, c => by
    rw [index_cons]
    by_cases h : a = c
    · rw [if_pos h]; exact .inr ⟨0, rfl⟩
    · rw [if_neg h]
      rcases index_or r c with e | ⟨j, e⟩
      · rw [if_pos e]; exact .inl rfl
      · rw [e, if_neg (by omega)]; exact .inr ⟨j + 1, by omega⟩
theorem escL_none : ∀ (l : List UInt8) (k n : Nat), Lib.indexByte l 125 = -1 → escL l k n = none
  | [], _, _, _ => rfl
  | a :: r, k, n, h => by
    rw [index_cons] at h
    rw [escL]
    by_cases c1 : a = 125
    · rw [if_pos c1] at h; omega
    · rw [if_neg c1] at h
      have hr : Lib.indexByte r 125 = -1 := by
        rcases index_or r 125 with e | ⟨j, e⟩
        · exact e
        · rw [e, if_neg (by omega)] at h; omega
      by_cases k7 : 7 < k
      · rw [if_pos k7]
      · rw [if_neg k7, if_neg c1]
        cases hexd a.toNat with
        | none => rfl
        | some d =>
          simp only
          by_cases b1 : k = 7
          · rw [if_pos b1]
          · rw [if_neg b1]; exact escL_none r _ _ hr
def escT (k j n : Nat) (l : List UInt8) : Option (Nat × Nat) :=
  match hexN n (l.take j) with
  | some m => if okB m then some (m, k + j + 1) else none
  | none => none
theorem escL_some : ∀ (l : List UInt8) (j k n : Nat), Lib.indexByte l 125 = (j : Int) → 1 ≤ k → (2 ≤ k + j ∧ k + j ≤ 7 → escL l k n = escT k j n l) ∧ (¬ (2 ≤ k + j ∧ k + j ≤ 7) → escL l k n = none)
  | [], j, k, n, h, _ => by simp [Lib.indexByte] at h
  | a :: r, j, k, n, h, hk => by
    rw [index_cons] at h
    rw [escL]
    by_cases c1 : a = 125
    · rw [if_pos c1] at h
      obtain rfl : j = 0 := by omega
      refine ⟨fun hb => ?_, fun hb => ?_⟩
      · have k7 : ¬ 7 < k := by omega
        have k1 : k ≠ 1 := by omega
        rw [if_neg k7, if_pos c1]
        unfold escT
        simp only [List.take_zero, hexN, Nat.add_zero]
        have hok : okB n = true ↔ ¬ (k = 1 ∨ 1114111 < n ∨ (55296 ≤ n ∧ n ≤ 57343)) := by
          unfold okB
          simp only [Bool.or_eq_true, Bool.and_eq_true, decide_eq_true_eq]
          omega
        by_cases q : k = 1 ∨ 1114111 < n ∨ (55296 ≤ n ∧ n ≤ 57343)
        · rw [if_pos q, if_neg (fun h => hok.1 h q)]
        · rw [if_neg q, if_pos (hok.2 q)]
      · by_cases k7 : 7 < k
        · rw [if_pos k7]
        · have k1 : k = 1 := by omega
          rw [if_neg k7, if_pos c1, if_pos (.inl k1)]
    · rw [if_neg c1] at h
      rcases index_or r 125 with e | ⟨i, e⟩
      · rw [if_pos e] at h; exact absurd h (by omega)
      · rw [e, if_neg (by omega)] at h
        obtain rfl : j = i + 1 := by omega
        by_cases k7 : 7 < k
        · exact ⟨fun hb => by omega, fun _ => by rw [if_pos k7]⟩
        · rw [if_neg k7, if_neg c1]
          have e2 : escT k (i + 1) n (a :: r) = match hexd a.toNat with | some d => escT (k + 1) i (16 * n + d) r | none => none := by
            unfold escT
            rw [List.take_succ_cons, hexN]
            cases hexd a.toNat with
            | none => rfl
            | some d => simp only [show k + (i + 1) + 1 = k + 1 + i + 1 from by omega]
          rw [e2]
          cases hexd a.toNat with
          | none => exact ⟨fun _ => rfl, fun _ => rfl⟩
          | some d =>
            simp only
            by_cases b1 : k = 7
            · rw [if_pos b1]
              exact ⟨fun hb => by omega, fun _ => rfl⟩
            · rw [if_neg b1]
              have := escL_some r i (k + 1) (16 * n + d) e (by omega)
              exact ⟨fun hb => this.1 (by omega), fun hb => this.2 (by omega)⟩
theorem escV_eq (l : List UInt8) : escV l = if (hexV l).2 = 0 then none else some (hexV l) := by
  cases l with
  | nil => simp [escV, hexV]
  | cons a r =>
    rw [escV]
    by_cases c1 : a = 123
    · rw [if_pos c1]
      have hix : Lib.indexByte (a :: r) 125 = if Lib.indexByte r 125 = -1 then -1 else Lib.indexByte r 125 + 1 := by
        rw [index_cons, if_neg (by rw [c1]; decide)]
      rcases index_or r 125 with e | ⟨j, e⟩
      · rw [escL_none r 1 0 e]
        have : hexV (a :: r) = (0, 0) := by
          unfold hexV
          rw [hix, if_pos e]
          exact if_pos (.inr (.inr (.inl (by omega))))
        rw [this]; rfl
      · have hlt := index_lt r 125 (by omega)
        have hs := escL_some r j 1 0 e (Nat.le_refl 1)
        have hI : Lib.indexByte (a :: r) 125 = ((j + 1 : Nat) : Int) := by rw [hix, e, if_neg (by omega)]; omega
        by_cases q : 2 ≤ 1 + j ∧ 1 + j ≤ 7
        · rw [hs.1 q]
          have : hexV (a :: r) = match hexN 0 (r.take j) with | some n => if okB n then (n, j + 2) else (0, 0) | none => (0, 0) := by
            unfold hexV
            rw [hI]
            refine (if_neg ?_).trans ?_
            · rintro (h | h | h | h)
              · simp only [List.length_cons] at h; omega
              · exact h (by rw [c1]; rfl)
              · omega
              · omega
            · simp only [Int.toNat_natCast, List.drop_succ_cons, List.drop_zero, Nat.add_sub_cancel]
              rfl
          rw [this]
          unfold escT
          cases hexN 0 (r.take j) with
          | none => rfl
          | some m =>
            simp only
            cases okB m with
            | true => simp [show 1 + j + 1 = j + 2 from by omega]
            | false => simp
        · rw [hs.2 q]
          have : hexV (a :: r) = (0, 0) := by
            unfold hexV
            rw [hI]
            refine if_pos ?_
            by_cases h2 : j + 1 < 2
            · exact .inr (.inr (.inl (by omega)))
            · exact .inr (.inr (.inr (by omega)))
          rw [this]; rfl
    · rw [if_neg c1]
      have : hexV (a :: r) = (0, 0) := by
        unfold hexV
        exact if_pos (.inr (.inl (by simpa using c1)))
      rw [this]; rfl
end Go.Proofs.YtbhclhgljnoioaaDoor
