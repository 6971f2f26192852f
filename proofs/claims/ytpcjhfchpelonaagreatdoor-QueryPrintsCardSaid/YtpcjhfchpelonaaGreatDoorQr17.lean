/- The number that a text is: the program's way. -/
import Derived.Test.YtpcjhfchpelonaaGreatDoorQr4
import Derived.Test.YtpcjhfchpelonaaGreatDoorAi10
import Derived.Test.YtpcjhfchpelonaaGreatDoorAi11
import Derived.Test.YtpcjhfchpelonaaGreatDoorPg4
set_option linter.unusedSimpArgs false
set_option linter.unusedVariables false
namespace Go.Proofs.YtpcjhfchpelonaaGreatDoor
open Nat (reduceMul reduceAdd reduceSub reduceEqDiff reduceLeDiff reduceLT)
open Ai
def badC (k n c : Nat) : Bool := decide (c < 48) || (decide (57 < c) || ((decide (0 < k) && decide (n = 0)) || decide (18 < k)))
def scan (k n : Nat) (l : List UInt8) : Option (Nat × Nat) :=
 match l with
 | [] => some (k, n)
 | a :: r => if badC k n (dec (a :: r)).1 = true then none else scan (k + 1) (10 * n + ((dec (a :: r)).1 - 48)) ((a :: r).drop (dec (a :: r)).2)
termination_by l.length
decreasing_by exact dec_nil_free a r
theorem scan_nil (k n : Nat) : scan k n [] = some (k, n) := by rw [scan]
theorem scan_cons (k n : Nat) (a : UInt8) (r : List UInt8) : scan k n (a :: r) = if badC k n (dec (a :: r)).1 = true then none else scan (k + 1) (10 * n + ((dec (a :: r)).1 - 48)) ((a :: r).drop (dec (a :: r)).2) := by rw [scan]
def numE (n e : Int) : V := .tup [.i .i64 n, .i .i64 e]
def numEnd (neg : Bool) (o : Option (Nat × Nat)) : V := match o with
 | none => numE 0 23
 | some (k, n) => if k = 0 ∨ (neg = true ∧ n = 0) then numE 0 23 else if neg = true ∧ n ≤ 9223372036854775808 then numE (-(n : Int)) 0 else if 9223372036854775807 < n then numE 0 5 else numE n 0

def K122_1 : List Fr := [.blk 0,
 .seq (.seq (.blk 3 (Sr [Om 55 6, Oz 56 .eql 55 0, Om 57 56, Gf (Om 58 4) 57,
 Gf (Om 59 58) 57,
 Gt (Om 60 5) 59,
 Gt (Oq 61 (.bin .eql (.t 60) (.k (.i .u64 0)))) 59,
 Gf (Oj 62 59 61) 57,
 Oo 63 57 62, Om 54 63]
 (.cond (.t 54)
 (Sr [On 2 0, On 3 23]
 .ret)
 (Sr [Om 65 4, Om 66 65, Gt (Om 67 5) 66,
 Gt (Oq 68 (.bin .leq (.t 67) (.k (.i .u64 9223372036854775808)))) 66,
 Oj 69 66 68, Om 64 69]
 (.cond (.t 64)
 (Sr [Om 70 5, Ov 71 .i64 70, Oq 72 (.un .neg (.t 71)), Om 2 72, On 3 0]
 .ret)
 (Sr [Om 74 5, Oq 75 (.bin .gtr (.t 74) (.k (.i .u64 9223372036854775807))), Om 73 75]
 (.cond (.t 73)
 (Sr [On 2 0, On 3 5]
 .ret)
 .skip)))))))
 (Sr [Om 76 5, Ov 77 .i64 76, Om 2 77, On 3 0]
 .ret))]
theorem U122_1 : type_of% (@M_open _ _ L122_1.eq_1) := @M_open _ _ L122_1.eq_1
theorem U122 : type_of% (@M_open _ _ B122.eq_1) := @M_open _ _ B122.eq_1
def kz122 (_ : Nat) : List Nat := [1, 2, 3, 7, 8, 9, 11, 12, 13, 14, 15, 16, 17, 18, 19, 20, 21, 22, 23, 24, 25, 26, 27, 28, 29, 30, 31, 32, 33, 34, 35, 36, 37, 38, 39, 40, 41, 42, 43, 44, 45, 46, 47, 48, 49, 50, 51, 52, 53, 54, 55, 56, 57, 58, 59, 60, 61, 62, 63, 64, 65, 66, 67, 68, 69, 70, 71, 72, 73, 74, 75, 76, 77]
theorem w_Number_end (s : List UInt8) (neg : Bool) (k n : Nat) (hn : n < 10000000000000000000) (hk : k ≤ 19) (its) (x10 : V) (gl : Nat → List V) :
  M noX (kz122) (.ex (.exit 0)) K122_1 ⟨gl, (.node (.node (.node E4 .any (.node E3 (.tup [.b false]) E3)) .any (.node E4 (.i .u64 n) E4)) (.s s) (.node (.node E4 (.b neg) (.node E3 (.b false) E3)) .any (.node (.node E3 (x10) E3) (.i .i64 k) E4))), its, [], {}⟩ (Fin [.tmp 2, .tmp 3] (numEnd neg (some (k, n)))) := by
 have e0 : decide (((k : Nat) : Int) = 0) = decide (k = 0) := decide_eq_decide.2 (by omega)
 have e1 : decide (((n : Nat) : Int) = 0) = decide (n = 0) := decide_eq_decide.2 (by omega)
 have e2 : decide (((n : Nat) : Int) ≤ 9223372036854775808) = decide (n ≤ 9223372036854775808) := decide_eq_decide.2 (by omega)
 have e3 : decide ((9223372036854775807 : Int) < ((n : Nat) : Int)) = decide (9223372036854775807 < n) := decide_eq_decide.2 (by omega)
 cases f0 : decide (k = 0) with
 | true =>
   simp only [e0, f0, K122_1, go_sem, reduceIte, reduceMul, reduceAdd, reduceSub, reduceEqDiff, reduceLeDiff, reduceLT]
   simp only [decide_eq_true_eq] at f0
   simp [numEnd, numE, f0]
 | false =>
   have h0 : ¬ k = 0 := by simpa using f0
   cases neg with
   | false =>
     cases f3 : decide (9223372036854775807 < n) with
     | true =>
       simp only [e0, f0, e3, f3, K122_1, go_sem, reduceIte, reduceMul, reduceAdd, reduceSub, reduceEqDiff, reduceLeDiff, reduceLT]
       simp only [decide_eq_true_eq] at f3
       simp [numEnd, numE, h0, f3]
     | false =>
       have h3 : ¬ 9223372036854775807 < n := by simpa using f3
       have e4 : wr .i64 (n : Int) = n := by rw [wr64] <;> omega
       simp only [e0, f0, e3, f3, e4, K122_1, go_sem, reduceIte, reduceMul, reduceAdd, reduceSub, reduceEqDiff, reduceLeDiff, reduceLT]
       simp [numEnd, numE, h0, h3]
   | true =>
     cases f1 : decide (n = 0) with
     | true =>
       simp only [e0, f0, e1, f1, K122_1, go_sem, reduceIte, reduceMul, reduceAdd, reduceSub, reduceEqDiff, reduceLeDiff, reduceLT]
       simp only [decide_eq_true_eq] at f1
       simp [numEnd, numE, f1]
     | false =>
       have h1 : ¬ n = 0 := by simpa using f1
       cases f2 : decide (n ≤ 9223372036854775808) with
       | true =>
         have h2 : n ≤ 9223372036854775808 := by simpa using f2
         have e5 : wr .i64 (0 - wr .i64 (n : Int)) = -(n : Int) := by
          simp only [wr, lo]
          split <;> split <;> omega
         simp only [e0, f0, e1, f1, e2, f2, e5, K122_1, go_sem, reduceIte, reduceMul, reduceAdd, reduceSub, reduceEqDiff, reduceLeDiff, reduceLT]
         simp [numEnd, numE, h0, h1, h2]
       | false =>
         have h2 : ¬ n ≤ 9223372036854775808 := by simpa using f2
         have h3 : 9223372036854775807 < n := by omega
         have f3 : decide (9223372036854775807 < n) = true := by simpa using h3
         simp only [e0, f0, e1, f1, e2, f2, e3, f3, K122_1, go_sem, reduceIte, reduceMul, reduceAdd, reduceSub, reduceEqDiff, reduceLeDiff, reduceLT]
         simp [numEnd, numE, h0, h1, h2, h3]
theorem w_Number_loop (s : List UInt8) (neg : Bool) (gl : Nat → List V) : ∀ (l : List UInt8) (k n pos : Nat), n < 10 ^ k → k ≤ 19 → (pos = 0 → ∀ a r, l = a :: r → ¬ ((dec (a :: r)).1 = 45 ∧ 1 < s.length)) →
  M noX (kz122) (.code L122_1) (.loop L122_1 :: K122_1) ⟨gl, (.node (.node E5 .any (.node E4 (.i .u64 n) E4)) (.s s) (.node (.node E4 (.b neg) E4) .any (.node (.node E3 (.it) E3) (.i .i64 k) E4))), [(10, (l, pos))], [], {}⟩ (Fin [.tmp 2, .tmp 3] (numEnd neg (scan k n l))) := by
 intro l
 induction l using rune_ind with
 | h0 =>
   intro k n pos hn hk hz
   rw [U122_1]
   simp only [go_sem, reduceIte, reduceMul, reduceAdd, reduceSub, reduceEqDiff, reduceLeDiff, reduceLT]
   rw [scan_nil]
   have hn' : n < 10000000000000000000 := Nat.lt_of_lt_of_le hn (Nat.le_trans (Nat.pow_le_pow_right (by omega) hk) (by decide))
   have := w_Number_end s neg k n hn' hk [(10, ([], pos))] .it gl
   exact this
 | h1 a r ih =>
   intro k n pos hn hk hz
   rw [U122_1]
   rw [scan_cons]
   have hn' : n < 10000000000000000000 := Nat.lt_of_lt_of_le hn (Nat.le_trans (Nat.pow_le_pow_right (by omega) hk) (by decide))
   have hz' : decide (((pos : Nat) : Int) = 0) = true → decide (((dec (a :: r)).1 : Int) = 45) = true → decide ((1 : Int) < (s.length : Int)) = false := by
    intro h1 h2
    simp only [decide_eq_true_eq, decide_eq_false_iff_not] at h1 h2 ⊢
    have := hz (by omega) a r rfl
    omega
   have hw := dec_pos (a :: r)
   have c1 : decide (((dec (a :: r)).1 : Int) < 48) = decide ((dec (a :: r)).1 < 48) := decide_eq_decide.2 (by omega)
   have c2 : decide ((57 : Int) < ((dec (a :: r)).1 : Int)) = decide (57 < (dec (a :: r)).1) := decide_eq_decide.2 (by omega)
   have c3 : decide ((0 : Int) < (k : Int)) = decide (0 < k) := decide_eq_decide.2 (by omega)
   have c4 : decide (((n : Nat) : Int) = 0) = decide (n = 0) := decide_eq_decide.2 (by omega)
   have c5 : decide ((18 : Int) < (k : Int)) = decide (18 < k) := decide_eq_decide.2 (by omega)
   have hm : wr .u64 (10 * (n : Int)) = ((10 * n : Nat) : Int) ∨ 1000000000000000000 ≤ n := by
    by_cases h : n < 1000000000000000000
    · exact .inl (by rw [wru64] <;> omega)
    · exact .inr (by omega)
   generalize hp : decide (((pos : Nat) : Int) = 0) = h0 at hz'
   generalize hc : decide (((dec (a :: r)).1 : Int) = 45) = h1 at hz'
   generalize hs : decide ((1 : Int) < (s.length : Int)) = h2 at hz'
   cases b1 : decide ((dec (a :: r)).1 < 48) with
   | true =>
     rw [if_pos (by simp [badC, b1])]
     cases h0 <;> cases h1 <;> cases h2 <;> (first | (exfalso; exact Bool.noConfusion (hz' rfl rfl)) | (simp only [hp, hc, hs, c1, b1, go_sem, reduceIte, reduceMul, reduceAdd, reduceSub, reduceEqDiff, reduceLeDiff, reduceLT]; simp only [K122_1, go_sem, reduceIte, reduceMul, reduceAdd, reduceSub, reduceEqDiff, reduceLeDiff, reduceLT]; rfl))
   | false =>
     cases b2 : decide (57 < (dec (a :: r)).1) with
     | true =>
       rw [if_pos (by simp [badC, b2])]
       cases h0 <;> cases h1 <;> cases h2 <;> (first | (exfalso; exact Bool.noConfusion (hz' rfl rfl)) | (simp only [hp, hc, hs, c1, b1, c2, b2, go_sem, reduceIte, reduceMul, reduceAdd, reduceSub, reduceEqDiff, reduceLeDiff, reduceLT]; simp only [K122_1, go_sem, reduceIte, reduceMul, reduceAdd, reduceSub, reduceEqDiff, reduceLeDiff, reduceLT]; rfl))
     | false =>
       cases b5 : decide (18 < k) with
       | true =>
         rw [if_pos (by simp [badC, b5])]
         cases b3 : decide (0 < k) with
         | false => exfalso; simp only [decide_eq_true_eq, decide_eq_false_iff_not] at b3 b5; omega
         | true =>
           cases b4 : decide (n = 0) with
           | true => cases h0 <;> cases h1 <;> cases h2 <;> (first | (exfalso; exact Bool.noConfusion (hz' rfl rfl)) | (simp only [hp, hc, hs, c1, b1, c2, b2, c3, b3, c4, b4, go_sem, reduceIte, reduceMul, reduceAdd, reduceSub, reduceEqDiff, reduceLeDiff, reduceLT]; simp only [K122_1, go_sem, reduceIte, reduceMul, reduceAdd, reduceSub, reduceEqDiff, reduceLeDiff, reduceLT]; rfl))
           | false => cases h0 <;> cases h1 <;> cases h2 <;> (first | (exfalso; exact Bool.noConfusion (hz' rfl rfl)) | (simp only [hp, hc, hs, c1, b1, c2, b2, c3, b3, c4, b4, c5, b5, go_sem, reduceIte, reduceMul, reduceAdd, reduceSub, reduceEqDiff, reduceLeDiff, reduceLT]; simp only [K122_1, go_sem, reduceIte, reduceMul, reduceAdd, reduceSub, reduceEqDiff, reduceLeDiff, reduceLT]; rfl))
       | false =>
         have k18 : k ≤ 18 := by simp only [decide_eq_false_iff_not] at b5; omega
         have n18 : n < 1000000000000000000 := Nat.lt_of_lt_of_le hn (Nat.le_trans (Nat.pow_le_pow_right (by omega) k18) (by decide))
         have c48 : 48 ≤ (dec (a :: r)).1 := by simp only [decide_eq_false_iff_not] at b1; omega
         have c57 : (dec (a :: r)).1 ≤ 57 := by simp only [decide_eq_false_iff_not] at b2; omega
         have w1 : wr .u64 (10 * (n : Int)) = ((10 * n : Nat) : Int) := by rw [wru64] <;> omega
         have w2 : wr .i32 (((dec (a :: r)).1 : Int) - 48) = (((dec (a :: r)).1 - 48 : Nat) : Int) := by rw [wr32] <;> omega
         have w3 : wr .u64 (((dec (a :: r)).1 - 48 : Nat) : Int) = (((dec (a :: r)).1 - 48 : Nat) : Int) := by rw [wru64] <;> omega
         have w4 : wr .u64 (((10 * n : Nat) : Int) + (((dec (a :: r)).1 - 48 : Nat) : Int)) = ((10 * n + ((dec (a :: r)).1 - 48) : Nat) : Int) := by rw [wru64] <;> omega
         have w5 : wr .i64 ((k : Int) + 1) = ((k + 1 : Nat) : Int) := by rw [wr64] <;> omega
         have hn2 : 10 * n + ((dec (a :: r)).1 - 48) < 10 ^ (k + 1) := by rw [Nat.pow_succ]; omega
         have := ih (k + 1) (10 * n + ((dec (a :: r)).1 - 48)) (pos + (dec (a :: r)).2) hn2 (by omega) (by omega)
         cases b3 : decide (0 < k) with
         | false =>
           rw [if_neg (by simp [badC, b1, b2, b3, b5])]
           cases h0 <;> cases h1 <;> cases h2 <;> (first | (exfalso; exact Bool.noConfusion (hz' rfl rfl)) | (simp only [hp, hc, hs, c1, b1, c2, b2, c3, b3, c5, b5, w1, w2, w3, w4, w5, go_sem, reduceIte, reduceMul, reduceAdd, reduceSub, reduceEqDiff, reduceLeDiff, reduceLT]; rw [M_loop]; simp only [kz122, K122_1, List.length_cons, List.length_nil, go_sem, reduceIte, reduceMul, reduceAdd, reduceSub, reduceEqDiff, reduceLeDiff, reduceLT] at this ⊢; exact this))
         | true =>
           cases b4 : decide (n = 0) with
           | true =>
             rw [if_pos (by simp [badC, b3, b4])]
             cases h0 <;> cases h1 <;> cases h2 <;> (first | (exfalso; exact Bool.noConfusion (hz' rfl rfl)) | (simp only [hp, hc, hs, c1, b1, c2, b2, c3, b3, c4, b4, go_sem, reduceIte, reduceMul, reduceAdd, reduceSub, reduceEqDiff, reduceLeDiff, reduceLT]; simp only [K122_1, go_sem, reduceIte, reduceMul, reduceAdd, reduceSub, reduceEqDiff, reduceLeDiff, reduceLT]; rfl))
           | false =>
             rw [if_neg (by simp [badC, b1, b2, b4, b5])]
             cases h0 <;> cases h1 <;> cases h2 <;> (first | (exfalso; exact Bool.noConfusion (hz' rfl rfl)) | (simp only [hp, hc, hs, c1, b1, c2, b2, c3, b3, c4, b4, c5, b5, w1, w2, w3, w4, w5, go_sem, reduceIte, reduceMul, reduceAdd, reduceSub, reduceEqDiff, reduceLeDiff, reduceLT]; rw [M_loop]; simp only [kz122, K122_1, List.length_cons, List.length_nil, go_sem, reduceIte, reduceMul, reduceAdd, reduceSub, reduceEqDiff, reduceLeDiff, reduceLT] at this ⊢; exact this))

def negOf (l : List UInt8) : Bool := match l with
 | [] => false
 | a :: r => decide (a.toNat = 45) && !r.isEmpty
def digsOf (l : List UInt8) : List UInt8 := if negOf l = true then l.drop 1 else l
def numT (l : List UInt8) : V := numEnd (negOf l) (scan 0 0 (digsOf l))
theorem w_Number (s : List UInt8) (hs : s.length ≤ 16384) (gl : Nat → List V) : M noX (kz122) (.code B122) [] (St.init gl 7 [.s s] {}) (Fin [.tmp 2, .tmp 3] (numT s)) := by
 rw [U122]
 simp only [go_sem, reduceIte, reduceMul, reduceAdd, reduceSub, reduceEqDiff, reduceLeDiff, reduceLT]
 rw [M_loop]
 simp only [kz122, go_sem, reduceIte, reduceMul, reduceAdd, reduceSub, reduceEqDiff, reduceLeDiff, reduceLT]
 cases hn : negOf s with
 | false =>
   have hd : digsOf s = s := by simp [digsOf, hn]
   have := w_Number_loop s false gl s 0 0 0 (by decide) (by omega) (fun _ a r e => by
    subst e
    rintro ⟨h1, h2⟩
    obtain ⟨h3, h4⟩ := dec_low (a := a) (r := r) (by omega)
    rw [h4] at h1
    cases r with
    | nil => simp at h2
    | cons b t => simp [negOf] at hn; exact hn h1)
   rw [numT, hn, hd]
   exact this
 | true =>
   cases s with
   | nil => simp [negOf] at hn
   | cons a r =>
     simp only [negOf, Bool.and_eq_true, decide_eq_true_eq, Bool.not_eq_true', List.isEmpty_eq_false_iff] at hn
     have hn' : negOf (a :: r) = true := by simp [negOf, hn]
     have hdec : dec (a :: r) = (45, 1) := by rw [dec_ascii (by omega), hn.1]
     have hlen : decide ((1 : Int) < ((r.length + 1 : Nat) : Int)) = true := by
      have := List.length_pos_iff.2 hn.2
      simp; omega
     rw [U122_1]
     have := w_Number_loop (a :: r) true gl r 0 0 1 (by decide) (by omega) (by omega)
     rw [numT, hn', show digsOf (a :: r) = r from by simp [digsOf, hn']]
     simp only [hdec, hlen, Int.reduceEq, Int.natCast_zero, Int.cast_ofNat_Int, go_sem, reduceIte, reduceMul, reduceAdd, reduceSub, reduceEqDiff, reduceLeDiff, reduceLT]
     rw [M_loop]
     simp only [kz122, K122_1, List.length_cons, List.length_nil, Int.natCast_zero, Int.cast_ofNat_Int, go_sem, reduceIte, reduceMul, reduceAdd, reduceSub, reduceEqDiff, reduceLeDiff, reduceLT] at this ⊢
     exact this
def F_Number (a : List V) : Option V := match a with
 | [.s s] => if s.length ≤ 16384 then some (numT s) else none
 | _ => none
theorem F_Number1 (s : List UInt8) (hs : s.length ≤ 16384) : F_Number [.s s] = some (numT s) := if_pos hs
theorem o_Number : ∀ a v, F_Number a = some v → Comp tabx told 122 a v := fun a v e => by
 unfold F_Number at e
 split at e
 · split at e
   · rename_i h; cases e; exact comp_of tells_noX (fn := af122) rfl (Nat.le_of_ble_eq_true rfl) fun gl => w_Number _ h gl
   · cases e
 · cases e
end Go.Proofs.YtpcjhfchpelonaaGreatDoor
set_option linter.unusedSimpArgs false
set_option linter.unusedVariables false
namespace Go.Proofs.YtpcjhfchpelonaaGreatDoor
open Ai
def digQ (c : UInt8) : Bool := decide (48 ≤ c.toNat) && decide (c.toNat ≤ 57)
def dv (n : Nat) (l : List UInt8) : Nat := l.foldl (fun n c => 10 * n + (c.toNat - 48)) n
theorem dv_nil (n : Nat) : dv n [] = n := rfl
theorem dv_cons (n : Nat) (a : UInt8) (r : List UInt8) : dv n (a :: r) = dv (10 * n + (a.toNat - 48)) r := by simp only [dv, List.foldl_cons]
theorem digQ_dec {a : UInt8} (h : digQ a = true) (r : List UInt8) : dec (a :: r) = (a.toNat, 1) := dec_ascii (by simp only [digQ, Bool.and_eq_true, decide_eq_true_eq] at h; omega) r
theorem badC_false {k n c : Nat} : badC k n c = false ↔ 48 ≤ c ∧ c ≤ 57 ∧ (k = 0 ∨ n ≠ 0) ∧ k ≤ 18 := by
 simp only [badC, Bool.or_eq_false_iff, Bool.and_eq_false_iff, decide_eq_false_iff_not]
 omega
theorem scan_big (l : List UInt8) : ∀ (k n : Nat), 0 < n → k ≤ 19 → scan k n l = if l.all digQ = true ∧ k + l.length ≤ 19 then some (k + l.length, dv n l) else none := by
 induction l using rune_ind with
 | h0 => intro k n hn hk; rw [scan_nil]; simp [dv_nil, hk]
 | h1 a r ih =>
   intro k n hn hk
   rw [scan_cons]
   cases hb : badC k n (dec (a :: r)).1 with
   | true =>
     rw [if_pos rfl, if_neg]
     rintro ⟨h1, h2⟩
     rw [List.all_cons, Bool.and_eq_true] at h1
     have hd := digQ_dec h1.1 r
     have h3 := h1.1
     simp only [digQ, Bool.and_eq_true, decide_eq_true_eq] at h3
     have : badC k n (dec (a :: r)).1 = false := badC_false.2 (by rw [hd]; simp only [List.length_cons] at h2; omega)
     rw [hb] at this
     cases this
   | false =>
     obtain ⟨h1, h2, h3, h4⟩ := badC_false.1 hb
     obtain ⟨h5, h6⟩ := dec_low (a := a) (r := r) (by omega)
     rw [h6] at ih h1 h2 ⊢
     simp only [List.drop_succ_cons, List.drop_zero] at ih h1 h2 ⊢
     have hdig : digQ a = true := by simp only [digQ, Bool.and_eq_true, decide_eq_true_eq]; omega
     rw [if_neg (by simp), ih (k + 1) _ (by omega) (by omega), dv_cons, List.all_cons, hdig, Bool.true_and, List.length_cons]
     rw [show k + 1 + r.length = k + (r.length + 1) from by omega]
theorem scan_zero (k : Nat) (a : UInt8) (r : List UInt8) : scan (k + 1) 0 (a :: r) = none := by
 rw [scan_cons, if_pos]
 cases h : badC (k + 1) 0 (dec (a :: r)).1 with
 | true => rfl
 | false => have := badC_false.1 h; omega
theorem scan_all (d : List UInt8) : scan 0 0 d = if d.all digQ = true ∧ d.length ≤ 19 ∧ ¬ (1 < d.length ∧ d.head? = some 48) then some (d.length, dv 0 d) else none := by
 cases d with
 | nil => rw [scan_nil]; simp [dv_nil]
 | cons a r =>
   rw [scan_cons]
   cases hb : badC 0 0 (dec (a :: r)).1 with
   | true =>
     rw [if_pos rfl, if_neg]
     rintro ⟨h1, h2⟩
     rw [List.all_cons, Bool.and_eq_true] at h1
     have hd := digQ_dec h1.1 r
     have h3 := h1.1
     simp only [digQ, Bool.and_eq_true, decide_eq_true_eq] at h3
     have : badC 0 0 (dec (a :: r)).1 = false := badC_false.2 (by rw [hd]; simp only [List.length_cons] at h2; omega)
     rw [hb] at this
     cases this
   | false =>
     obtain ⟨h1, h2, h3, h4⟩ := badC_false.1 hb
     obtain ⟨h5, h6⟩ := dec_low (a := a) (r := r) (by omega)
     rw [h6] at h1 h2 ⊢
     simp only [List.drop_succ_cons, List.drop_zero] at h1 h2 ⊢
     have hdig : digQ a = true := by simp only [digQ, Bool.and_eq_true, decide_eq_true_eq]; omega
     rw [if_neg (by simp), List.all_cons, hdig, Bool.true_and, dv_cons]
     by_cases h0 : a.toNat = 48
     · have ha : a = 48 := UInt8.toNat_inj.1 h0
       cases r with
       | nil => rw [h0, scan_nil]; simp [dv_nil]
       | cons b t =>
         rw [h0, scan_zero, if_neg]
         rintro ⟨_, _, h⟩
         exact h ⟨by simp, by simp [ha]⟩
     · have ha : ¬ a = 48 := fun e => h0 (by rw [e]; rfl)
       rw [scan_big _ _ _ (by omega) (by omega), List.length_cons, show 0 + 1 + r.length = r.length + 1 from by omega]
       have : (r.all digQ = true ∧ r.length + 1 ≤ 19) ↔ (r.all digQ = true ∧ r.length + 1 ≤ 19 ∧ ¬ (1 < r.length + 1 ∧ (a :: r).head? = some 48)) := by
        rw [show ((a :: r).head? = some 48) = False from by simp [ha]]
        simp
       by_cases hx : r.all digQ = true ∧ r.length + 1 ≤ 19
       · rw [if_pos hx, if_pos (this.1 hx)]
       · rw [if_neg hx, if_neg (fun e => hx (this.2 e))]
theorem dv_snoc (d : List UInt8) (a : UInt8) : ∀ n, dv n (d ++ [a]) = 10 * dv n d + (a.toNat - 48) := by
 intro n
 simp only [dv, List.foldl_append, List.foldl_cons, List.foldl_nil]
theorem of48 (c : Nat) (h : c < 10) : (UInt8.ofNat (48 + c)).toNat = 48 + c := by
 rw [UInt8.toNat_ofNat']; omega
structure Dec (u : Nat) (d : List UInt8) : Prop where
 digQ : d.all digQ = true
 val : dv 0 d = u
 ne : d ≠ []
 lead : ¬ (1 < d.length ∧ d.head? = some 48)
theorem dec_of (u : Nat) : Dec u (Lib.decDigits u) := by
 induction u using Nat.strongRecOn with
 | _ u ih =>
   rw [Lib.decDigits]
   by_cases h : u < 10
   · rw [dif_pos h]
     refine ⟨?_, ?_, by simp, by simp⟩
     · simp only [List.all_cons, List.all_nil, Bool.and_true, digQ, of48 u h, Bool.and_eq_true, decide_eq_true_eq]; omega
     · rw [dv_cons, dv_nil, of48 u h]; omega
   · rw [dif_neg h]
     obtain ⟨h1, h2, h3, h4⟩ := ih (u / 10) (by omega)
     have hm : u % 10 < 10 := Nat.mod_lt _ (by omega)
     refine ⟨?_, ?_, by simp, ?_⟩
     · rw [List.all_append, h1]
       simp only [List.all_cons, List.all_nil, Bool.and_true, digQ, of48 _ hm, Bool.and_eq_true, decide_eq_true_eq, Bool.true_and]; omega
     · rw [dv_snoc, h2, of48 _ hm]; omega
     · rintro ⟨_, h5⟩
       have h6 : (Lib.decDigits (u / 10)).head? = some 48 := by
        cases hd : Lib.decDigits (u / 10) with
        | nil => exact absurd hd h3
        | cons x t => rw [hd] at h5; simpa using h5
       by_cases hl : 1 < (Lib.decDigits (u / 10)).length
       · exact h4 ⟨hl, h6⟩
       · cases hd : Lib.decDigits (u / 10) with
         | nil => exact h3 hd
         | cons x t =>
           rw [hd] at h6 hl h2
           simp only [List.head?_cons, Option.some.injEq] at h6
           subst h6
           cases t with
           | nil => rw [dv_cons, dv_nil] at h2; simp at h2; omega
           | cons y t => simp at hl
theorem nd_le (u : Nat) (h : u < 10000000000000000000) : (Lib.decDigits u).length ≤ 19 := by
 have hk : ∀ k u, u < 10 ^ (k + 1) → (Lib.decDigits u).length ≤ k + 1 := by
  intro k
  induction k with
  | zero => intro u hu; rw [Lib.decDigits, dif_pos (by omega)]; simp
  | succ k ih =>
    intro u hu
    rw [Lib.decDigits]
    split
    · simp
    · have := ih (u / 10) (by rw [Nat.pow_succ] at hu; omega)
      simp; omega
 exact hk 18 u h
theorem scan_dec (u : Nat) (h : u < 10000000000000000000) : scan 0 0 (Lib.decDigits u) = some ((Lib.decDigits u).length, u) := by
 obtain ⟨h1, h2, h3, h4⟩ := dec_of u
 rw [scan_all, if_pos ⟨h1, nd_le u h, h4⟩, h2]
theorem num_itoa (n : Int) (h0 : -9223372036854775808 ≤ n) (h1 : n ≤ 9223372036854775807) : numT (Lib.itoa n) = numE n 0 := by
 unfold numT Lib.itoa
 by_cases hn : n < 0
 · rw [if_pos hn]
   have hd := dec_of n.natAbs
   have e1 : negOf (45 :: Lib.decDigits n.natAbs) = true := by
    simp only [negOf, Bool.and_eq_true, Bool.not_eq_true', List.isEmpty_eq_false_iff]
    exact ⟨by decide, hd.ne⟩
   have e2 : digsOf (45 :: Lib.decDigits n.natAbs) = Lib.decDigits n.natAbs := by rw [digsOf, if_pos e1]; rfl
   rw [e1, e2, scan_dec _ (by omega)]
   have hl : (Lib.decDigits n.natAbs).length ≠ 0 := fun h => hd.ne (List.length_eq_zero_iff.1 h)
   simp only [numEnd]
   rw [if_neg (by omega), if_pos ⟨trivial, by omega⟩]
   congr 1; omega
 · rw [if_neg hn]
   have hd := dec_of n.toNat
   have e1 : negOf (Lib.decDigits n.toNat) = false := by
    cases hx : Lib.decDigits n.toNat with
    | nil => rfl
    | cons a r =>
      have := hd.digQ
      rw [hx, List.all_cons, Bool.and_eq_true] at this
      have := this.1
      simp only [digQ, Bool.and_eq_true, decide_eq_true_eq] at this
      simp only [negOf, Bool.and_eq_false_iff, decide_eq_false_iff_not]
      left; omega
   have e2 : digsOf (Lib.decDigits n.toNat) = Lib.decDigits n.toNat := by rw [digsOf, e1]; rfl
   rw [e1, e2, scan_dec _ (by omega)]
   have hl : (Lib.decDigits n.toNat).length ≠ 0 := fun h => hd.ne (List.length_eq_zero_iff.1 h)
   simp only [numEnd]
   rw [if_neg (by simp [hl]), if_neg (by simp), if_neg (by omega)]
   congr 1; omega
theorem itoa_len (n : Int) (h0 : -9223372036854775808 ≤ n) (h1 : n ≤ 9223372036854775807) : (Lib.itoa n).length ≤ 16384 := by
 unfold Lib.itoa
 have a := nd_le n.natAbs (by omega)
 have b := nd_le n.toNat (by omega)
 split
 · simp; omega
 · omega

/-! ### The law -/
end Go.Proofs.YtpcjhfchpelonaaGreatDoor
set_option linter.unusedSimpArgs false
set_option linter.unusedVariables false
namespace Go.Proofs.YtpcjhfchpelonaaGreatDoor
open Nat (reduceMul reduceAdd reduceSub reduceEqDiff reduceLeDiff reduceLT)
open Ai Go
def X_digits := xs [(122, F_Number)]
theorem t_digits : Tells tabx told X_digits := tells_cons o_Number tells_nil
theorem U110 : type_of% (@M_open _ _ B110.eq_1) := @M_open _ _ B110.eq_1
def kz110 (_ : Nat) : List Nat := []
def R_digits (a : List V) (v : V) : Prop := ∀ (n at_ : Int), 0 ≤ n → n ≤ 1099511627776 → a = [.agg [.i .i64 3, .s (Lib.itoa n), .i .i64 at_]] → v = .tup [.i .i64 n, .b true]
noncomputable def F_digits : List V → Option V := pickP 110 R_digits
theorem o_digits : ∀ a v, F_digits a = some v → Comp tabx told 110 a v := pickP_tells
theorem c_digits (n at_ : Int) (h0 : 0 ≤ n) (h1 : n ≤ 1099511627776) : Comp tabx told 110 [.agg [.i .i64 3, .s (Lib.itoa n), .i .i64 at_]] (.tup [.i .i64 n, .b true]) := by
 refine comp_of (xf := X_digits) (kz := kz110) t_digits (fn := af110) rfl (Nat.le_of_ble_eq_true rfl) fun gl => ?_
 show M _ _ (.code B110) _ (St.init gl 5 [.agg [.i .i64 3, .s (Lib.itoa n), .i .i64 at_]] _) (Fin [.tmp 2, .tmp 3] _)
 rw [U110]
 have hn := num_itoa n (by omega) (by omega)
 have y1 : X_digits 122 [.s (Lib.itoa n)] = some (.tup [.i .i64 n, .i .i64 0]) := by
  have := F_Number1 (Lib.itoa n) (itoa_len n (by omega) (by omega))
  rw [hn] at this
  exact this
 have e0 : decide ((0 : Int) = 0) = true := rfl
 have e3 : decide ((3 : Int) = 3) = true := rfl
 have e1 : decide ((0 : Int) ≤ n) = true := decide_eq_true h0
 have e2 : decide (n ≤ 1099511627776) = true := decide_eq_true h1
 generalize Lib.itoa n = t at *
 simp only [y1, e0, e1, e2, e3, ge_iff_le, splice, go_sem, reduceIte, reduceMul, reduceAdd, reduceSub, reduceEqDiff, reduceLeDiff, reduceLT]
theorem itoa_inj {n m : Int} (a : 0 ≤ n) (b : n ≤ 1099511627776) (c : 0 ≤ m) (d : m ≤ 1099511627776) (h : Lib.itoa n = Lib.itoa m) : n = m := by
 have h1 := num_itoa n (by omega) (by omega)
 have h2 := num_itoa m (by omega) (by omega)
 rw [h, h2] at h1
 unfold numE at h1
 simp only [V.tup.injEq, List.cons.injEq, V.i.injEq, true_and, and_true] at h1
 exact h1.symm
theorem digits_eq (n at_ : Int) (h0 : 0 ≤ n) (h1 : n ≤ 1099511627776) : F_digits [.agg [.i .i64 3, .s (Lib.itoa n), .i .i64 at_]] = some (.tup [.i .i64 n, .b true]) := by
 obtain ⟨v, e1, r⟩ := pickP_spec (R := R_digits) (c_digits n at_ h0 h1) (by
  intro m at' a b e
  simp only [List.cons.injEq, V.agg.injEq, V.s.injEq, V.i.injEq, true_and, and_true] at e
  rw [itoa_inj h0 h1 a b e.1])
 rw [r n at_ h0 h1 rfl] at e1
 exact e1
section
variable (ts : List Tok) (e id : Nat)
def R_isW (a : List V) (h : H) (v : V) (h' : H) : Prop := ∀ (at_ : Nat) (tx : List UInt8), a = [.p id 0, .i .i64 1, .s tx] → SO h id ts e at_ → v = .b (isW ts e at_ tx) ∧ h' = bif isW ts e at_ tx then setAt h id ts e (at_ + 1) else h
theorem isW_eq {h : H} {at_ : Nat} (ho : SO h id ts e at_) (tx : List UInt8) : pick 80 (R_isW ts e id) [.p id 0, .i .i64 1, .s tx] h = some (.b (isW ts e at_ tx), bif isW ts e at_ tx then setAt h id ts e (at_ + 1) else h) := by
 obtain ⟨nx, obs, nt, tips⟩ := h
 have ha := peek_eq ts e id ho
 have hc : Hp.CompI tabx told 80 [.p id 0, .i .i64 1, .s tx] ⟨nx, obs, nt, tips⟩ (.b (isW ts e at_ tx)) (bif isW ts e at_ tx then setAt ⟨nx, obs, nt, tips⟩ id ts e (at_ + 1) else ⟨nx, obs, nt, tips⟩) := Hp.compI_of tells_noX (t_is ts e id) (fn := af80) (kz := kz80) rfl (Nat.le_of_ble_eq_true rfl) fun gl => by
  show Hp.M _ _ _ (.code B80) _ (St.init gl 5 _ _) (Hp.FinI [.tmp 6] _ _)
  rw [UH80]
  have e1 := kd (tokAt ts e at_).kind 1
  have e0 : decide ((1 : Int) = 0) = false := by decide
  simp only [Int.cast_ofNat_Int] at e1
  simp only [Tok.cells] at ha
  by_cases hk : (tokAt ts e at_).kind = 1
  · have e2 : decide ((tokAt ts e at_).kind = 1) = true := decide_eq_true hk
    have ht := take_eq ts e id ho (tokAt_lt (e := e) (by omega))
    simp only [Tok.cells] at ht
    cases hs : strEq (tokAt ts e at_).text tx with
    | true =>
      have hi : isW ts e at_ tx = true := by unfold isW; rw [e2, hs]; rfl
      rw [hi]
      simp only [Y_is, ys_hit, ys_miss, ha, e1, e2, e0, hs, ht, setAt, go_sem, reduceIte, reduceMul, reduceAdd, reduceSub, reduceEqDiff, reduceLeDiff, reduceLT]
    | false =>
      have hi : isW ts e at_ tx = false := by unfold isW; rw [e2, hs]; rfl
      rw [hi]
      simp only [Y_is, ys_hit, ys_miss, ha, e1, e2, e0, hs, go_sem, reduceIte, reduceMul, reduceAdd, reduceSub, reduceEqDiff, reduceLeDiff, reduceLT]
  · have e2 : decide ((tokAt ts e at_).kind = 1) = false := decide_eq_false hk
    have hi : isW ts e at_ tx = false := by unfold isW; rw [e2]; rfl
    rw [hi]
    simp only [Y_is, ys_hit, ys_miss, ha, e1, e2, go_sem, reduceIte, reduceMul, reduceAdd, reduceSub, reduceEqDiff, reduceLeDiff, reduceLT]
 obtain ⟨v, h', e1, r⟩ := pick_spec (R := R_isW ts e id) hc (by
  intro at' tx' e1 ho'
  simp only [List.cons.injEq, V.s.injEq, true_and, and_true] at e1
  subst e1
  rw [ho.uniq ho']; exact ⟨rfl, rfl⟩)
 obtain ⟨rfl, rfl⟩ := r at_ tx rfl ho
 exact e1
end
def RO (h : H) (rid id : Nat) (q : List V) : Prop := al h.objs rid = some (.cells 91 (.p id 0 :: q))
theorem RO.set {h : H} {rid id : Nat} {q : List V} (hr : RO h rid id q) (hne : rid ≠ id) (ts : List Tok) (e b : Nat) : RO (setAt h id ts e b) rid id q := by
 show al (alSet _ _ _) _ = _
 rw [al_set, if_neg hne]
 exact hr
section
variable (ts : List Tok) (e id rid : Nat)
def R_qword (a : List V) (h : H) (v : V) (h' : H) : Prop := ∀ (at_ : Nat), SO h id ts e at_ → (tokAt ts e at_).kind = 1 → v = .tup [.s (tokAt ts e at_).text, .b true] ∧ h' = setAt h id ts e (at_ + 1)
theorem UH79 : type_of% (@Hp_open _ _ B79.eq_1) := @Hp_open _ _ B79.eq_1
def kz79 (_ : Nat) : List Nat := []
theorem qword_eq {h : H} {at_ : Nat} {q : List V} (ho : SO h id ts e at_) (hr : RO h rid id q) (hk : (tokAt ts e at_).kind = 1) : pick 79 (R_qword ts e id) [.p rid 0] h = some (.tup [.s (tokAt ts e at_).text, .b true], setAt h id ts e (at_ + 1)) := by
 obtain ⟨nx, obs, nt, tips⟩ := h
 have ha := peek_eq ts e id ho
 have ht := take_eq ts e id ho (tokAt_lt (e := e) (by omega))
 have hr' : al obs rid = some (.cells 91 (.p id 0 :: q)) := hr
 have hc : Hp.CompI tabx told 79 [.p rid 0] ⟨nx, obs, nt, tips⟩ (.tup [.s (tokAt ts e at_).text, .b true]) (setAt ⟨nx, obs, nt, tips⟩ id ts e (at_ + 1)) := Hp.compI_of tells_noX (t_is ts e id) (fn := af79) (kz := kz79) rfl (Nat.le_of_ble_eq_true rfl) fun gl => by
  show Hp.M _ _ _ (.code B79) _ (St.init gl 5 _ _) (Hp.FinI [.tmp 2, .tmp 3] _ _)
  rw [UH79]
  have e1 : decide ((((tokAt ts e at_).kind : Nat) : Int) = 1) = true := decide_eq_true (by omega)
  simp only [Tok.cells] at ha ht
  simp only [Y_is, ys_hit, ys_miss, ha, ht, hr', e1, setAt, go_sem, reduceIte, reduceMul, reduceAdd, reduceSub, reduceEqDiff, reduceLeDiff, reduceLT]
 obtain ⟨v, h', e1, r⟩ := pick_spec (R := R_qword ts e id) hc (by
  intro at' ho' _
  rw [ho.uniq ho']; exact ⟨rfl, rfl⟩)
 obtain ⟨rfl, rfl⟩ := r at_ ho hk
 exact e1
end
section
variable (ts : List Tok) (e id rid : Nat)
noncomputable def Y_num := ys [(80, pick 80 (R_isW ts e id)), (76, pick 76 (R_peek ts e id)), (78, pick 78 (R_take ts e id))]
theorem t_num : Hp.TellsI tabx told (Y_num ts e id) := itells_cons pick_tells (itells_cons pick_tells (itells_cons pick_tells itells_nil))
noncomputable def X_num := xs [(110, F_digits)]
theorem x_num : Tells tabx told X_num := tells_cons o_digits tells_nil
theorem UH82 : type_of% (@Hp_open _ _ B82.eq_1) := @Hp_open _ _ B82.eq_1
def kz82 (_ : Nat) : List Nat := []
theorem qnum_no {h : H} {at_ : Nat} {q : List V} (ho : SO h id ts e at_) (hr : RO h rid id q) (w : List UInt8) (off : Nat) (hw : isW ts e at_ w = false) :
  Hp.CompI tabx told 82 [.p rid 0, .s w, .p rid off] h (.b true) h := by
 obtain ⟨nx, obs, nt, tips⟩ := h
 have ha := isW_eq ts e id ho w
 rw [hw] at ha
 have hr' : al obs rid = some (.cells 91 (.p id 0 :: q)) := hr
 exact Hp.compI_of x_num (t_num ts e id) (fn := af82) (kz := kz82) rfl (Nat.le_of_ble_eq_true rfl) fun gl => by
  show Hp.M _ _ _ (.code B82) _ (St.init gl 6 _ _) (Hp.FinI [.tmp 6] _ _)
  rw [UH82]
  simp only [cond_false] at ha
  simp only [Y_num, ys_hit, ys_miss, ha, hr', go_sem, reduceIte, reduceMul, reduceAdd, reduceSub, reduceEqDiff, reduceLeDiff, reduceLT]
theorem qnum_skip {h : H} {at_ : Nat} {c0 c1 c2 c3 c4 c5 c6 c7 c8 c9 : V} (ho : SO h id ts e at_) (hr : RO h rid id [c0, c1, c2, c3, c4, c5, c6, c7, c8, c9]) (hne : rid ≠ id) (w : List UInt8) (hw : isW ts e at_ w = true) (n : Int) (h1 : 1 ≤ n) (h2 : n ≤ 1099511627776)
  (hk : (tokAt ts e (at_ + 1)).kind = 3) (ht : (tokAt ts e (at_ + 1)).text = Lib.itoa n) (hl : at_ + 1 < ts.length) :
  Hp.CompI tabx told 82 [.p rid 0, .s w, .p rid 9] h (.b true) ⟨h.next, alSet (setAt h id ts e (at_ + 1 + 1)).objs rid (.cells 91 [.p id 0, c0, c1, c2, c3, c4, c5, c6, c7, .i .i64 n, c9]), h.nt, h.tips⟩ := by
 obtain ⟨nx, obs, nt, tips⟩ := h
 have ha := isW_eq ts e id ho w
 rw [hw] at ha
 have ho1 : SO (setAt ⟨nx, obs, nt, tips⟩ id ts e (at_ + 1)) id ts e (at_ + 1) := ho.set (by omega)
 have hr1 : al (alSet obs id (srcC ts (at_ + 1) e)) rid = some (.cells 91 (.p id 0 :: [c0, c1, c2, c3, c4, c5, c6, c7, c8, c9])) := hr.set hne ts e (at_ + 1)
 have hr2 : al (alSet obs id (srcC ts (at_ + 1 + 1) e)) rid = some (.cells 91 (.p id 0 :: [c0, c1, c2, c3, c4, c5, c6, c7, c8, c9])) := by
  rw [al_set, if_neg hne]; exact hr
 have hp := peek_eq ts e id ho1
 have htk := take_eq ts e id ho1 hl
 have hr' : al obs rid = some (.cells 91 (.p id 0 :: [c0, c1, c2, c3, c4, c5, c6, c7, c8, c9])) := hr
 have hd : X_num 110 [.agg [.i .i64 3, .s (Lib.itoa n), .i .i64 ((tokAt ts e (at_ + 1)).at_ : Nat)]] = some (.tup [.i .i64 n, .b true]) := digits_eq n _ (by omega) h2
 have e1 : decide (n = 0) = false := decide_eq_false (by omega)
 exact Hp.compI_of x_num (t_num ts e id) (fn := af82) (kz := kz82) rfl (Nat.le_of_ble_eq_true rfl) fun gl => by
  show Hp.M _ _ _ (.code B82) _ (St.init gl 6 _ _) (Hp.FinI [.tmp 6] _ _)
  rw [UH82]
  simp only [cond_true, setAt] at ha
  simp only [Tok.cells, hk, ht, Int.cast_ofNat_Int, setAt] at hp htk
  simp only [Y_num, ys_hit, ys_miss, ha, hp, htk, hr', hr1, hr2, hd, e1, setAt, splice, go_sem, reduceIte, reduceMul, reduceAdd, reduceSub, reduceEqDiff, reduceLeDiff, reduceLT]
theorem qnum_first {h : H} {at_ : Nat} {c0 c1 c2 c3 c4 c5 c6 c7 c8 c9 : V} (ho : SO h id ts e at_) (hr : RO h rid id [c0, c1, c2, c3, c4, c5, c6, c7, c8, c9]) (hne : rid ≠ id) (w : List UInt8) (hw : isW ts e at_ w = true) (n : Int) (h1 : 1 ≤ n) (h2 : n ≤ 1099511627776)
  (hk : (tokAt ts e (at_ + 1)).kind = 3) (ht : (tokAt ts e (at_ + 1)).text = Lib.itoa n) (hl : at_ + 1 < ts.length) :
  Hp.CompI tabx told 82 [.p rid 0, .s w, .p rid 10] h (.b true) ⟨h.next, alSet (setAt h id ts e (at_ + 1 + 1)).objs rid (.cells 91 [.p id 0, c0, c1, c2, c3, c4, c5, c6, c7, c8, .i .i64 n]), h.nt, h.tips⟩ := by
 obtain ⟨nx, obs, nt, tips⟩ := h
 have ha := isW_eq ts e id ho w
 rw [hw] at ha
 have ho1 : SO (setAt ⟨nx, obs, nt, tips⟩ id ts e (at_ + 1)) id ts e (at_ + 1) := ho.set (by omega)
 have hr1 : al (alSet obs id (srcC ts (at_ + 1) e)) rid = some (.cells 91 (.p id 0 :: [c0, c1, c2, c3, c4, c5, c6, c7, c8, c9])) := hr.set hne ts e (at_ + 1)
 have hr2 : al (alSet obs id (srcC ts (at_ + 1 + 1) e)) rid = some (.cells 91 (.p id 0 :: [c0, c1, c2, c3, c4, c5, c6, c7, c8, c9])) := by
  rw [al_set, if_neg hne]; exact hr
 have hp := peek_eq ts e id ho1
 have htk := take_eq ts e id ho1 hl
 have hr' : al obs rid = some (.cells 91 (.p id 0 :: [c0, c1, c2, c3, c4, c5, c6, c7, c8, c9])) := hr
 have hd : X_num 110 [.agg [.i .i64 3, .s (Lib.itoa n), .i .i64 ((tokAt ts e (at_ + 1)).at_ : Nat)]] = some (.tup [.i .i64 n, .b true]) := digits_eq n _ (by omega) h2
 have e1 : decide (n = 0) = false := decide_eq_false (by omega)
 exact Hp.compI_of x_num (t_num ts e id) (fn := af82) (kz := kz82) rfl (Nat.le_of_ble_eq_true rfl) fun gl => by
  show Hp.M _ _ _ (.code B82) _ (St.init gl 6 _ _) (Hp.FinI [.tmp 6] _ _)
  rw [UH82]
  simp only [cond_true, setAt] at ha
  simp only [Tok.cells, hk, ht, Int.cast_ofNat_Int, setAt] at hp htk
  simp only [Y_num, ys_hit, ys_miss, ha, hp, htk, hr', hr1, hr2, hd, e1, setAt, splice, go_sem, reduceIte, reduceMul, reduceAdd, reduceSub, reduceEqDiff, reduceLeDiff, reduceLT]
end
theorem U21 : type_of% (@M_open _ _ B21.eq_1) := @M_open _ _ B21.eq_1
def kz21 (_ : Nat) : List Nat := []
theorem same_q {k : Int} {of_ : List UInt8} {f : Fil} {c c' : List V} {by_ : List UInt8} {dn : Bool} {sk fi : Int} (h1 : FilR f c) (h2 : FilR f c') (hk : chk f = 0) : Comp tabx told 21 [.agg (qC k of_ c by_ dn sk fi), .agg (qC k of_ c' by_ dn sk fi)] (.b true) := by
 refine comp_of (xf := X_same) (kz := kz21) t_same (fn := af21) rfl (Nat.le_of_ble_eq_true rfl) fun gl => ?_
 have hs : stripL [.agg (qC k of_ c by_ dn sk fi), .agg (qC k of_ c' by_ dn sk fi)] = [.agg (qC k of_ (stripL c) by_ dn sk fi), .agg (qC k of_ (stripL c') by_ dn sk fi)] := by
  unfold qC
  simp only [stripL, V.strip, stripL_app]
 rw [hs]
 have h3 := FilR.strip f c h1
 have h4 := FilR.strip f c' h2
 generalize stripL c = c2 at h3
 generalize stripL c' = c3 at h4
 show M _ _ (.code B21) _ (St.init gl 6 _ _) (Fin [.tmp 4] _)
 rw [U21]
 have y1 : X_same 45 [.agg c2, .agg c3] = some (.b true) := call_same (D := 8) (s_same_all 8) (d := 1) (w := 0) h3 h4 (by decide) hk (by decide)
 have ek : decide (k = k) = true := decide_eq_true rfl
 have es : decide (sk = sk) = true := decide_eq_true rfl
 have ef : decide (fi = fi) = true := decide_eq_true rfl
 have ed : (dn == dn) = true := beq_self_eq_true dn
 cases h3 with | mk k1 nm tx kids xs n tk hn hx =>
 cases h4 with | mk _ _ _ _ xs' n' tk' hn' hx' =>
 simp only [qC, ek, es, ef, ed, y1, strEq_self, splice, go_sem, reduceIte, reduceMul, reduceAdd, reduceSub, reduceEqDiff, reduceLeDiff, reduceLT]
end Go.Proofs.YtpcjhfchpelonaaGreatDoor
set_option linter.unusedSimpArgs false
set_option linter.unusedVariables false
namespace Go.Proofs.YtpcjhfchpelonaaGreatDoor
open Ai Go Go.Shelf
def stopS (t : List UInt8) : Prop := ∀ c r, t = c :: r → c = 32
theorem stopS.b {t : List UInt8} (h : stopS t) : stopB t := fun c r e => by rw [h c r e]; decide
theorem stopS_nil : stopS [] := fun c r e => by cases e
theorem stopS_sp (t : List UInt8) : stopS (32 :: t) := fun c r e => by cases e; rfl
def LxE (s : List UInt8) (l : List TK) : Prop := ∀ (t : List UInt8) (k : Nat) (m : List Tok), stopS t → lx t (k + s.length) = .ok m → ∃ m', lx (s ++ t) k = .ok (m' ++ m) ∧ m'.map Tok.kt = l
theorem LxS.e {s : List UInt8} {l : List TK} (h : LxS s l) : LxE s l := fun t k m ht hm => h t k m ht.b hm
theorem LxF.appE {s s' : List UInt8} {l l' : List TK} (h : LxF s l) (g : LxE s' l') : LxE (s ++ s') (l ++ l') := by
 intro t k m ht hm
 rw [List.length_append, ← Nat.add_assoc] at hm
 obtain ⟨m1, e1, q1⟩ := g t (k + s.length) m ht hm
 obtain ⟨m2, e2, q2⟩ := h (s' ++ t) k (m1 ++ m) e1
 exact ⟨m2 ++ m1, by rw [List.append_assoc, e2, List.append_assoc], by rw [List.map_append, q1, q2]⟩
theorem LxE.sp {s s' : List UInt8} {l l' : List TK} (h : LxE s l) (g : LxE s' l') : LxE (s ++ [32] ++ s') (l ++ l') := by
 intro t k m ht hm
 have h1 := lx_sp1.appE g
 rw [List.append_assoc, List.length_append, ← Nat.add_assoc] at hm
 obtain ⟨m1, e1, q1⟩ := h1 t (k + s.length) m ht hm
 obtain ⟨m2, e2, q2⟩ := h ([32] ++ s' ++ t) k (m1 ++ m) (stopS_sp _) e1
 exact ⟨m2 ++ m1, by rw [List.append_assoc s, List.append_assoc s, e2, List.append_assoc], by rw [List.map_append, q1, q2, List.nil_append]⟩
theorem lx_num (w : List UInt8) (hne : w ≠ []) (ha : (w.all fun c => digB c.toNat) = true) : LxE w [(3, w)] := by
 intro t k m ht hm
 cases w with
 | nil => exact absurd rfl hne
 | cons a r =>
   rw [List.all_cons, Bool.and_eq_true] at ha
   have hr := wh_all (p := digB) (t := t) (fun c r e => by rw [ht c r e]; decide) r ha.2
   have hd := ha.1
   simp only [digB, Bool.and_eq_true, decide_eq_true_eq] at hd
   have hl : letB a.toNat = false := by simp only [letB, Bool.and_eq_false_iff, decide_eq_false_iff_not]; omega
   have ne : ∀ d : UInt8, a = d → a.toNat = d.toNat := fun d e => by rw [e]
   refine ⟨[⟨3, a :: r, k⟩], ?_, rfl⟩
   rw [List.cons_append, lx_cons, if_neg (fun e => by have := ne _ e; rw [show (32 : UInt8).toNat = 32 from rfl] at this; omega), if_neg (fun e => by have := ne _ e; rw [show (34 : UInt8).toNat = 34 from rfl] at this; omega), if_neg (by rw [hl]; decide), if_pos ha.1, hr,
    List.drop_left, List.take_left]
   rw [List.length_cons, show k + (r.length + 1) = k + 1 + r.length by omega] at hm
   rw [hm]; rfl
theorem itoa_num (n : Int) (h : 0 ≤ n) : LxE (Lib.itoa n) [(3, Lib.itoa n)] := by
 rw [Lib.itoa, if_neg (by omega)]
 have hd := dec_of n.toNat
 refine lx_num _ hd.ne ?_
 refine List.all_eq_true.2 fun c hc => ?_
 have := List.all_eq_true.1 hd.digQ c hc
 simp only [digQ, Bool.and_eq_true, decide_eq_true_eq] at this
 simp only [digB, Bool.and_eq_true, decide_eq_true_eq]
 omega
theorem join_e : ∀ (ps : List (List UInt8 × List TK)), (∀ p ∈ ps, LxE p.1 p.2) → ps ≠ [] → LxE (Lib.join (ps.map (·.1)) [32]) (ps.flatMap (·.2)) := by
 intro ps
 induction ps with
 | nil => intro _ h; exact absurd rfl h
 | cons p r ih =>
   intro h _
   cases r with
   | nil =>
     rw [List.map_cons, List.map_nil, Lib.join_one, List.flatMap_cons, List.flatMap_nil, List.append_nil]
     exact h p (by simp)
   | cons q r =>
     have h2 := ih (fun x hx => h x (by simp [hx])) (by simp)
     have h1 := (h p (by simp)).sp h2
     have e1 : Lib.join ((p :: q :: r).map (·.1)) [32] = p.1 ++ [32] ++ Lib.join ((q :: r).map (·.1)) [32] := by
      simp [Lib.join, List.intercalate]
     rw [e1, List.flatMap_cons]
     exact h1
/-! ### The parts of a question's text, and their tokens -/
def wWhere : List UInt8 := [119, 104, 101, 114, 101]
def wBy : List UInt8 := [98, 121]
def wDown : List UInt8 := [100, 111, 119, 110]
def wSkip : List UInt8 := [115, 107, 105, 112]
def wFirst : List UInt8 := [102, 105, 114, 115, 116]
def partsT (k : Nat) (of_ : List UInt8) (f : Fil) (b2 : Bool) (by_ : List UInt8) (dn : Bool) (sk fi : Int) : List (List UInt8 × List TK) :=
 (kwQ k, [(1, kwQ k)]) :: ((bif decide (of_ = []) then [] else [(of_, [(1, of_)])]) ++ ((bif b2 then [] else [([119, 104, 101, 114, 101, 32] ++ tellF f, (1, wWhere) :: tkF f)]) ++ ((bif decide (by_ = []) then [] else [([98, 121, 32] ++ by_, [(1, wBy), (1, by_)])]) ++ ((bif dn then [(wDown, [(1, wDown)])] else []) ++
   ((bif decide (0 < sk) then [([115, 107, 105, 112, 32] ++ Lib.itoa sk, [(1, wSkip), (3, Lib.itoa sk)])] else []) ++ (bif decide (0 < fi) then [([102, 105, 114, 115, 116, 32] ++ Lib.itoa fi, [(1, wFirst), (3, Lib.itoa fi)])] else []))))))
theorem partsT_fst (k : Nat) (of_ : List UInt8) (f : Fil) (b2 : Bool) (by_ : List UInt8) (dn : Bool) (sk fi : Int) : (partsT k of_ f b2 by_ dn sk fi).map (·.1) = partsQ k of_ (tellF f) b2 by_ dn sk fi := by
 unfold partsT partsQ
 generalize tellF f = t
 generalize Lib.itoa sk = a
 generalize Lib.itoa fi = b
 cases decide (of_ = []) <;> cases b2 <;> cases decide (by_ = []) <;> cases dn <;> cases decide (0 < sk) <;> cases decide (0 < fi) <;> rfl
def tokQ (k : Nat) (of_ : List UInt8) (f : Fil) (b2 : Bool) (by_ : List UInt8) (dn : Bool) (sk fi : Int) : List TK :=
 (1, kwQ k) :: ((bif decide (of_ = []) then [] else [(1, of_)]) ++ ((bif b2 then [] else (1, wWhere) :: tkF f) ++ ((bif decide (by_ = []) then [] else [(1, wBy), (1, by_)]) ++ ((bif dn then [(1, wDown)] else []) ++
   ((bif decide (0 < sk) then [(1, wSkip), (3, Lib.itoa sk)] else []) ++ (bif decide (0 < fi) then [(1, wFirst), (3, Lib.itoa fi)] else []))))))
theorem partsT_snd (k : Nat) (of_ : List UInt8) (f : Fil) (b2 : Bool) (by_ : List UInt8) (dn : Bool) (sk fi : Int) : (partsT k of_ f b2 by_ dn sk fi).flatMap (·.2) = tokQ k of_ f b2 by_ dn sk fi := by
 unfold partsT tokQ
 generalize tkF f = t
 generalize Lib.itoa sk = a
 generalize Lib.itoa fi = b
 cases decide (of_ = []) <;> cases b2 <;> cases decide (by_ = []) <;> cases dn <;> cases decide (0 < sk) <;> cases decide (0 < fi) <;> simp
theorem nmQ_word {l : List UInt8} (h : nmQ l = true) (hne : decide (l = []) = false) : LxS l [(1, l)] := by
 unfold nmQ at h
 rw [hne, Bool.false_or] at h
 exact nam_word h
theorem lx_kw (k : Nat) : LxS (kwQ k) [(1, kwQ k)] := by
 unfold kwQ
 split <;> exact lx_word _ (by simp) (by decide)
theorem all_app {p : List UInt8 × List TK → Prop} {a b : List (List UInt8 × List TK)} (h : ∀ x ∈ a, p x) (g : ∀ x ∈ b, p x) : ∀ x ∈ a ++ b, p x := fun x hx => (List.mem_append.1 hx).elim (h x) (g x)
theorem all_bif {p : List UInt8 × List TK → Prop} {c : Bool} {a b : List (List UInt8 × List TK)} (h : c = true → ∀ x ∈ a, p x) (g : c = false → ∀ x ∈ b, p x) : ∀ x ∈ (bif c then a else b), p x := by
 cases c
 · exact g rfl
 · exact h rfl
theorem all_one {p : List UInt8 × List TK → Prop} {a : List UInt8 × List TK} (h : p a) : ∀ x ∈ [a], p x := fun x hx => by rw [List.mem_singleton.1 hx]; exact h
theorem all_none {p : List UInt8 × List TK → Prop} : ∀ x ∈ ([] : List (List UInt8 × List TK)), p x := fun x hx => by cases hx
theorem partsT_lx {k : Nat} {of_ : List UInt8} {f : Fil} {b2 : Bool} {by_ : List UInt8} {dn : Bool} {sk fi : Int} {d : Nat} (hf : Fine f d) (h1 : nmQ by_ = true) (h2 : nmQ of_ = true) (h3 : 0 ≤ sk) (h4 : 0 ≤ fi) : ∀ p ∈ partsT k of_ f b2 by_ dn sk fi, LxE p.1 p.2 := by
 unfold partsT
 rw [← List.singleton_append]
 refine all_app (all_one (lx_kw k).e) (all_app (all_bif (fun _ => all_none) fun e => all_one (nmQ_word h2 e).e) (all_app (all_bif (fun _ => all_none) fun _ => all_one ?_) (all_app (all_bif (fun _ => all_none) fun e => all_one ?_) (all_app (all_bif (fun _ => all_one ?_) fun _ => all_none) (all_app (all_bif (fun _ => all_one ?_) fun _ => all_none) (all_bif (fun _ => all_one ?_) fun _ => all_none))))))
 · exact ((word_sp [119, 104, 101, 114, 101] (by simp) (by decide)).appS (tell_lx (cnt f) f d (Nat.le_refl _) hf)).e
 · exact ((word_sp [98, 121] (by simp) (by decide)).appS (nmQ_word h1 e)).e
 · exact (lx_word wDown (by simp [wDown]) (by decide)).e
 · exact (word_sp [115, 107, 105, 112] (by simp) (by decide)).appE (itoa_num sk h3)
 · exact (word_sp [102, 105, 114, 115, 116] (by simp) (by decide)).appE (itoa_num fi h4)
theorem lx_textQ {k : Nat} {of_ : List UInt8} {f : Fil} {b2 : Bool} {by_ : List UInt8} {dn : Bool} {sk fi : Int} {d : Nat} (hf : Fine f d) (h1 : nmQ by_ = true) (h2 : nmQ of_ = true) (h3 : 0 ≤ sk) (h4 : 0 ≤ fi) : ∃ ts, lx (textQ k of_ (tellF f) b2 by_ dn sk fi) 0 = .ok ts ∧ ts.map Tok.kt = tokQ k of_ f b2 by_ dn sk fi := by
 obtain ⟨m', e, q⟩ := join_e (partsT k of_ f b2 by_ dn sk fi) (partsT_lx hf h1 h2 h3 h4) (by unfold partsT; simp) [] 0 [] stopS_nil (lx_nil _)
 rw [List.append_nil, List.append_nil, partsT_fst] at e
 rw [partsT_snd] at q
 exact ⟨m', e, q⟩
theorem at_all {ts : List Tok} {l : List TK} (h : ts.map Tok.kt = l) : At ts 0 l := by
 intro i x hx
 rw [← h, List.getElem?_map] at hx
 cases ht : ts[i]? with
 | none => rw [ht] at hx; cases hx
 | some t =>
   rw [ht] at hx
   simp only [Option.map_some, Option.some.injEq] at hx
   exact ⟨t, by rw [Nat.zero_add]; exact ht, hx⟩
end Go.Proofs.YtpcjhfchpelonaaGreatDoor
set_option linter.unusedSimpArgs false
set_option linter.unusedVariables false
namespace Go.Proofs.YtpcjhfchpelonaaGreatDoor
open Nat (reduceMul reduceAdd reduceSub reduceEqDiff reduceLeDiff reduceLT)
open Ai Go
section
variable (ts : List Tok) (e id : Nat)
def R_filA (a : List V) (h : H) (v : V) (h' : H) : Prop := ∀ (at_ a1 : Nat) (f : Fil), SO h id ts e at_ → Pr ts e (.parse 1 1) at_ (f, 0, a1) → chk f = 0 → ∃ c, v = .tup [.agg c, .i .i64 0, .i .i64 0] ∧ FilR f c ∧ Hop h h' id ∧ SO h' id ts e a1
theorem Pr.uniq {ts : List Tok} {e : Nat} {q : PQ} {a : Nat} {r r' : PR} (h : Pr ts e q a r) (h' : Pr ts e q a r') : r = r' := by
 obtain ⟨n, h⟩ := h
 obtain ⟨m, h'⟩ := h'
 have a := P_mono (Nat.le_max_left n m) h
 have b := P_mono (Nat.le_max_right n m) h'
 rw [a] at b
 exact Option.some.inj b
theorem filA_eq {h : H} {at_ a1 : Nat} {f : Fil} (ho : SO h id ts e at_) (hp : Pr ts e (.parse 1 1) at_ (f, 0, a1)) (hk : chk f = 0) :
  ∃ c h', pick 81 (R_filA ts e id) [.p id 0] h = some (.tup [.agg c, .i .i64 0, .i .i64 0], h') ∧ FilR f c ∧ Hop h h' id ∧ SO h' id ts e a1 := by
 have key : ∃ v h', Hp.CompI tabx told 81 [.p id 0] h v h' ∧ ∃ c, v = .tup [.agg c, .i .i64 0, .i .i64 0] ∧ FilR f c ∧ Hop h h' id ∧ SO h' id ts e a1 := by
  obtain ⟨n, hn⟩ := hp
  refine compI_ex (xf := X_filc) (xh := YN ts e id n) (kz := kz81) (fn := af81) x_filc (t_YN ts e id _) rfl (Nat.le_of_ble_eq_true rfl) ?_
  show Hp.M _ _ _ (.code B81) _ (St.init gl0 6 _ _) (fun ex st => ∃ v h', Hp.FinI [.cell 2 true 4, .tmp 3, .tmp 4] v h' ex st ∧ _)
  rw [UH81]
  have y1 := y_peek (N := n) ho
  obtain ⟨c, h', y4, q1, q2, q3⟩ := call_parse (s_all ts e id n).1 (Nat.le_refl _) (by omega) (by omega) ho hn
  have h1 := ho.1
  simp only [srcC] at h1
  simp only [Int.cast_ofNat_Int] at y4
  have yc : X_filc 23 [.agg c] = some (.i .i64 (chk f : Nat)) := check_eq f c q1
  have q1' := q1
  have f1 : decide ((chk f : Int) = 0) = true := decide_eq_true (by omega)
  cases q1 with | mk k nm tx kids xs n tk hn hx =>
  simp only [h1, y1, y4, yc, f1, Int.cast_ofNat_Int, go_sem, reduceIte, reduceMul, reduceAdd, reduceSub, reduceEqDiff, reduceLeDiff, reduceLT]
  exact ⟨_, _, ⟨rfl, rfl⟩, _, rfl, q1', q2, q3⟩
 obtain ⟨v, h', hc, hr⟩ := key
 obtain ⟨v, h', e1, r⟩ := pick_spec (R := R_filA ts e id) hc (fun at' a' f' ho' hp' _ => by
  obtain rfl := ho.uniq ho'
  have := hp.uniq hp'
  simp only [Prod.mk.injEq, true_and] at this
  obtain ⟨rfl, rfl⟩ := this
  exact hr)
 obtain ⟨c, rfl, r1, r2, r3⟩ := r at_ a1 f ho hp hk
 exact ⟨c, h', e1, r1, r2, r3⟩
end
end Go.Proofs.YtpcjhfchpelonaaGreatDoor
set_option linter.unusedSimpArgs false
set_option linter.unusedVariables false
namespace Go.Proofs.YtpcjhfchpelonaaGreatDoor
open Ai Go
section
variable (ts : List Tok) (e id rid : Nat)
def putR (h : H) (rid id : Nat) (q : List V) : H := ⟨h.next, alSet h.objs rid (.cells 91 (.p id 0 :: q)), h.nt, h.tips⟩
theorem RO.setR {h : H} {rid id : Nat} (q : List V) : RO (putR h rid id q) rid id q := al_alSet _ _ _
theorem SO.setR {h : H} {ts : List Tok} {e id rid a : Nat} (ho : SO h id ts e a) (hne : rid ≠ id) (q : List V) : SO (putR h rid id q) id ts e a := by
 refine ⟨?_, ho.2⟩
 show al (alSet _ _ _) _ = _
 rw [al_set, if_neg (fun h => hne h.symm)]
 exact ho.1
theorem RO.uniq {h : H} {rid id : Nat} {q q' : List V} (h1 : RO h rid id q) (h2 : RO h rid id q') : q = q' := by
 have := h1.symm.trans h2
 simp only [Option.some.injEq, Ai.Obj.cells.injEq, List.cons.injEq, true_and] at this
 exact this
def R_num (a : List V) (h : H) (v : V) (h' : H) : Prop := ∀ (at_ off : Nat) (w : List UInt8) (q : List V), a = [.p rid 0, .s w, .p rid off] → SO h id ts e at_ → RO h rid id q →
 (isW ts e at_ w = false → v = .b true ∧ h' = h) ∧
 (∀ n : Int, isW ts e at_ w = true → 1 ≤ n → n ≤ 1099511627776 → (tokAt ts e (at_ + 1)).kind = 3 → (tokAt ts e (at_ + 1)).text = Lib.itoa n → v = .b true ∧ h' = putR (setAt h id ts e (at_ + 1 + 1)) rid id (q.set (off - 1) (.i .i64 n)))
theorem num_no {h : H} {at_ : Nat} {q : List V} (ho : SO h id ts e at_) (hr : RO h rid id q) (w : List UInt8) (off : Nat) (hw : isW ts e at_ w = false) :
  pick 82 (R_num ts e id rid) [.p rid 0, .s w, .p rid off] h = some (.b true, h) := by
 obtain ⟨v, h', e1, r⟩ := pick_spec (R := R_num ts e id rid) (qnum_no ts e id rid ho hr w off hw) (by
  intro at' off' w' q' e1 ho' hr'
  simp only [List.cons.injEq, V.s.injEq, V.p.injEq, true_and, and_true] at e1
  obtain ⟨rfl, rfl⟩ := e1
  obtain rfl := ho.uniq ho'
  exact ⟨fun _ => ⟨rfl, rfl⟩, fun n hw' => by rw [hw] at hw'; cases hw'⟩)
 obtain ⟨rfl, rfl⟩ := (r at_ off w q rfl ho hr).1 hw
 exact e1
theorem num_skip {h : H} {at_ : Nat} {c0 c1 c2 c3 c4 c5 c6 c7 c8 c9 : V} (ho : SO h id ts e at_) (hr : RO h rid id [c0, c1, c2, c3, c4, c5, c6, c7, c8, c9]) (hne : rid ≠ id) (w : List UInt8) (hw : isW ts e at_ w = true) (n : Int) (h1 : 1 ≤ n) (h2 : n ≤ 1099511627776)
  (hk : (tokAt ts e (at_ + 1)).kind = 3) (ht : (tokAt ts e (at_ + 1)).text = Lib.itoa n) (hl : at_ + 1 < ts.length) :
  pick 82 (R_num ts e id rid) [.p rid 0, .s w, .p rid 9] h = some (.b true, putR (setAt h id ts e (at_ + 1 + 1)) rid id [c0, c1, c2, c3, c4, c5, c6, c7, .i .i64 n, c9]) := by
 obtain ⟨v, h', e1, r⟩ := pick_spec (R := R_num ts e id rid) (qnum_skip ts e id rid ho hr hne w hw n h1 h2 hk ht hl) (by
  intro at' off' w' q' e1 ho' hr'
  simp only [List.cons.injEq, V.s.injEq, V.p.injEq, true_and, and_true] at e1
  obtain ⟨rfl, rfl⟩ := e1
  obtain rfl := ho.uniq ho'
  obtain rfl := hr.uniq hr'
  refine ⟨fun hw' => (by rw [hw] at hw'; cases hw'), fun m _ m1 m2 _ mt => ?_⟩
  rw [ht] at mt
  rw [itoa_inj (by omega) h2 (by omega) m2 mt]
  exact ⟨rfl, rfl⟩)
 obtain ⟨rfl, rfl⟩ := (r at_ 9 w _ rfl ho hr).2 n hw h1 h2 hk ht
 exact e1
theorem num_first {h : H} {at_ : Nat} {c0 c1 c2 c3 c4 c5 c6 c7 c8 c9 : V} (ho : SO h id ts e at_) (hr : RO h rid id [c0, c1, c2, c3, c4, c5, c6, c7, c8, c9]) (hne : rid ≠ id) (w : List UInt8) (hw : isW ts e at_ w = true) (n : Int) (h1 : 1 ≤ n) (h2 : n ≤ 1099511627776)
  (hk : (tokAt ts e (at_ + 1)).kind = 3) (ht : (tokAt ts e (at_ + 1)).text = Lib.itoa n) (hl : at_ + 1 < ts.length) :
  pick 82 (R_num ts e id rid) [.p rid 0, .s w, .p rid 10] h = some (.b true, putR (setAt h id ts e (at_ + 1 + 1)) rid id [c0, c1, c2, c3, c4, c5, c6, c7, c8, .i .i64 n]) := by
 obtain ⟨v, h', e1, r⟩ := pick_spec (R := R_num ts e id rid) (qnum_first ts e id rid ho hr hne w hw n h1 h2 hk ht hl) (by
  intro at' off' w' q' e1 ho' hr'
  simp only [List.cons.injEq, V.s.injEq, V.p.injEq, true_and, and_true] at e1
  obtain ⟨rfl, rfl⟩ := e1
  obtain rfl := ho.uniq ho'
  obtain rfl := hr.uniq hr'
  refine ⟨fun hw' => (by rw [hw] at hw'; cases hw'), fun m _ m1 m2 _ mt => ?_⟩
  rw [ht] at mt
  rw [itoa_inj (by omega) h2 (by omega) m2 mt]
  exact ⟨rfl, rfl⟩)
 obtain ⟨rfl, rfl⟩ := (r at_ 10 w _ rfl ho hr).2 n hw h1 h2 hk ht
 exact e1
end
end Go.Proofs.YtpcjhfchpelonaaGreatDoor
set_option linter.unusedSimpArgs false
set_option linter.unusedVariables false
namespace Go.Proofs.YtpcjhfchpelonaaGreatDoor
open Nat (reduceMul reduceAdd reduceSub reduceEqDiff reduceLeDiff reduceLT)
open Ai Go
section
variable (ts : List Tok) (e id rid : Nat)
noncomputable def Y_rd := ys [(80, pick 80 (R_isW ts e id)), (76, pick 76 (R_peek ts e id)), (78, pick 78 (R_take ts e id)), (79, pick 79 (R_qword ts e id)), (81, pick 81 (R_filA ts e id)), (82, pick 82 (R_num ts e id rid))]
theorem t_rd : Hp.TellsI tabx told (Y_rd ts e id rid) := itells_cons pick_tells (itells_cons pick_tells (itells_cons pick_tells (itells_cons pick_tells (itells_cons pick_tells (itells_cons pick_tells itells_nil)))))
def X_rd := xs [(77, F_kinds)]
theorem x_rd : Tells tabx told X_rd := tells_cons o_kinds tells_nil
def kz44 (_ : Nat) : List Nat := []
variable {ts e id rid}
structure RS (ts : List Tok) (e id rid : Nat) (a : Nat) (q : List V) (t : Ai.T) (h : H) : Prop where
 wf : t.wf 8 = true
 t0 : t.get 0 = .p rid 0
 so : SO h id ts e a
 ro : RO h rid id q
abbrev Kt (ts : List Tok) (e id rid : Nat) (C : AC) (Q : AEx → St → Prop) (a : Nat) (q : List V) : Prop := ∀ (t : Ai.T) (its : List (Nat × (List UInt8 × Nat))) (loc : List (Nat × List V)) (h : H), RS ts e id rid a q t h → t.get 5 = .b true →
 Hp.M X_rd (Y_rd ts e id rid) (kz44) (.code C) [] ⟨gl0, t, its, loc, h⟩ Q
theorem st_kind (C : AC) (Q : AEx → St → Prop) {h : H} (hne : rid ≠ id) (ho : SO h id ts e 0) (hr : RO h rid id [.i .i64 0, .s [], .i .i64 0, .s [], .s [], .sl [] 0 .nil, .s [], .b false, .i .i64 0, .i .i64 0]) (k : Nat) (hk : k ≤ 4) (h1 : (tokAt ts e 0).kind = 1) (h2 : (tokAt ts e 0).text = kwQ k)
  (K : Kt ts e id rid C Q 1 [.i .i64 k, .s [], .i .i64 0, .s [], .s [], .sl [] 0 .nil, .s [], .b false, .i .i64 0, .i .i64 0]) :
  Hp.M X_rd (Y_rd ts e id rid) (kz44) (.code (AC.cut 5 B44 C)) [] (St.init gl0 8 [.p rid 0] h) Q := by
 obtain ⟨nx, obs, nt, tips⟩ := h
 have hr0 : al obs rid = some (.cells 91 [.p id 0, .i .i64 0, .s [], .i .i64 0, .s [], .s [], .sl [] 0 .nil, .s [], .b false, .i .i64 0, .i .i64 0]) := hr
 have hp := peek_eq ts e id ho
 have hlt := tokAt_lt (ts := ts) (e := e) (a := 0) (by omega)
 have ho1 := ho.setR hne [.i .i64 k, .s [], .i .i64 0, .s [], .s [], .sl [] 0 .nil, .s [], .b false, .i .i64 0, .i .i64 0]
 have ht := take_eq ts e id ho1 hlt
 have ho2 := ho1.set (b := 1) (by omega)
 have hr2 := (RO.setR (h := ⟨nx, obs, nt, tips⟩) (rid := rid) (id := id) [.i .i64 k, .s [], .i .i64 0, .s [], .s [], .sl [] 0 .nil, .s [], .b false, .i .i64 0, .i .i64 0]).set hne ts e 1
 have yk : X_rd 77 [.s (kwQ k)] = some (.i .i64 k) := by
  show some (V.i .i64 (kindV (kwQ k))) = _
  rw [kind_kw k hk]
 have e1 : decide ((k : Int) < 0) = false := decide_eq_false (by omega)
 have e2 : decide ((1 : Int) = 1) = true := rfl
 have hr1 := RO.setR (h := ⟨nx, obs, nt, tips⟩) (rid := rid) (id := id) [.i .i64 k, .s [], .i .i64 0, .s [], .s [], .sl [] 0 .nil, .s [], .b false, .i .i64 0, .i .i64 0]
 simp only [Tok.cells, h1, h2, Int.cast_ofNat_Int, putR, setAt] at hp ht hr1
 have hr1 : al (alSet obs rid (.cells 91 [.p id 0, .i .i64 k, .s [], .i .i64 0, .s [], .s [], .sl [] 0 .nil, .s [], .b false, .i .i64 0, .i .i64 0])) rid = some (.cells 91 [.p id 0, .i .i64 k, .s [], .i .i64 0, .s [], .s [], .sl [] 0 .nil, .s [], .b false, .i .i64 0, .i .i64 0]) := hr1
 simp only [B44, AC.tl, AC.cut]
 simp only [Y_rd, ys_hit, ys_miss, hp, ht, hr0, hr1, yk, e1, e2, splice, putR, setAt, Int.cast_ofNat_Int, go_sem, reduceIte, reduceMul, reduceAdd, reduceSub, reduceEqDiff, reduceLeDiff, reduceLT]
 exact K _ _ _ _ ⟨rfl, rfl, ho2, hr2⟩ rfl
theorem st_of (C : AC) (Q : AEx → St → Prop) {a : Nat} {k : Nat} {of_ : List UInt8} {c2 c3 c4 c5 c6 c7 c8 c9 : V} (hne : rid ≠ id) (b : Bool) (hb : decide (2 ≤ (k : Int)) = b) (hb1 : b = true → (tokAt ts e a).kind = 1 ∧ (tokAt ts e a).text = of_) (hb2 : b = false → of_ = [])
  (K : Kt ts e id rid C Q (bif b then a + 1 else a) [.i .i64 k, .s of_, c2, c3, c4, c5, c6, c7, c8, c9]) :
  Kt ts e id rid (AC.cut 2 (AC.tl 5 B44) C) Q a [.i .i64 k, .s [], c2, c3, c4, c5, c6, c7, c8, c9] := by
 intro t its loc h hs h5
 obtain ⟨hwf, h0, ho, hr⟩ := hs
 obtain ⟨nx, obs, nt, tips⟩ := h
 have hr0 : al obs rid = some (.cells 91 [.p id 0, .i .i64 k, .s [], c2, c3, c4, c5, c6, c7, c8, c9]) := hr
 simp only [B44, AC.tl, AC.cut]
 cases b with
 | false =>
   obtain rfl := hb2 rfl
   simp only [Y_rd, ys_hit, ys_miss, T.get_ne, T.get_same 8, T.wf_set, T.kill_nil, T.kill_cons, hwf, h0, ne_eq, Nat.reducePow, splice, al_lset, hr0, hb, h5, ge_iff_le, go_sem, reduceIte, reduceMul, reduceAdd, reduceSub, reduceEqDiff, reduceLeDiff, reduceLT]
   exact K _ _ _ _ ⟨by simp only [T.wf_set, hwf], by simp (disch := decide) only [T.get_ne, h0], ho, hr⟩ (by simp (disch := decide) only [T.get_ne, T.kill_nil, T.kill_cons, h5])
 | true =>
   obtain ⟨h1, rfl⟩ := hb1 rfl
   have hlt := tokAt_lt (ts := ts) (e := e) (a := a) (by omega)
   have ho1 := ho.set (b := a + 1) (by omega)
   have hw := qword_eq ts e id rid ho hr h1
   have hr1 : al (alSet obs id (srcC ts (a + 1) e)) rid = some (.cells 91 [.p id 0, .i .i64 k, .s [], c2, c3, c4, c5, c6, c7, c8, c9]) := hr.set hne ts e (a + 1)
   have g : RS ts e id rid (a + 1) [.i .i64 k, .s (tokAt ts e a).text, c2, c3, c4, c5, c6, c7, c8, c9] t (putR (setAt ⟨nx, obs, nt, tips⟩ id ts e (a + 1)) rid id [.i .i64 k, .s (tokAt ts e a).text, c2, c3, c4, c5, c6, c7, c8, c9]) := ⟨hwf, h0, ho1.setR hne _, RO.setR _⟩
   simp only [setAt] at hw
   generalize (tokAt ts e a).text = tx at *
   simp only [Y_rd, ys_hit, ys_miss, T.get_ne, T.get_same 8, T.wf_set, T.kill_nil, T.kill_cons, hwf, h0, ne_eq, Nat.reducePow, splice, al_lset, hr0, hr1, hw, hb, h5, ge_iff_le, go_sem, reduceIte, reduceMul, reduceAdd, reduceSub, reduceEqDiff, reduceLeDiff, reduceLT]
   exact K _ _ _ _ ⟨by simp only [T.wf_set, T.kill_nil, T.kill_cons, hwf], by simp (disch := decide) only [T.get_ne, T.kill_nil, T.kill_cons, h0], g.so, g.ro⟩ (by (try simp (disch := decide) only [T.get_ne]); exact T.get_same 8 _ _ _ (by simp only [T.wf_set, hwf]) (by decide))
theorem st_where0 (C : AC) (Q : AEx → St → Prop) {a : Nat} {q : List V} (hw : isW ts e a wWhere = false) (K : Kt ts e id rid C Q a q) :
  Kt ts e id rid (AC.cut 1 (AC.tl 7 B44) C) Q a q := by
 intro t its loc h hs h5
 obtain ⟨hwf, h0, ho, hr⟩ := hs
 obtain ⟨nx, obs, nt, tips⟩ := h
 have hr0 : al obs rid = some (.cells 91 (.p id 0 :: q)) := hr
 have ha := isW_eq ts e id ho wWhere
 rw [hw] at ha
 simp only [B44, AC.tl, AC.cut]
 simp only [wWhere, cond_false] at ha
 simp only [Y_rd, ys_hit, ys_miss, T.get_ne, T.get_same 8, T.wf_set, T.kill_nil, T.kill_cons, hwf, h0, ne_eq, Nat.reducePow, splice, al_lset, ha, hr0, go_sem, reduceIte, reduceMul, reduceAdd, reduceSub, reduceEqDiff, reduceLeDiff, reduceLT]
 exact K _ _ _ _ ⟨by simp only [T.wf_set, hwf], by simp (disch := decide) only [T.get_ne, h0], ho, hr⟩ (by simp (disch := decide) only [T.get_ne, T.kill_nil, T.kill_cons, h5])
theorem st_where1 (C : AC) (Q : AEx → St → Prop) {a a1 : Nat} {f : Fil} {c0 c1 c2 c3 c4 c5 c6 c7 c8 c9 : V} (hne : rid ≠ id) (hw : isW ts e a wWhere = true) (hp : Pr ts e (.parse 1 1) (a + 1) (f, 0, a1)) (hk : chk f = 0)
  (K : ∀ c, FilR f c → Kt ts e id rid C Q a1 (c0 :: c1 :: (c ++ [c6, c7, c8, c9]))) :
  Kt ts e id rid (AC.cut 1 (AC.tl 7 B44) C) Q a [c0, c1, c2, c3, c4, c5, c6, c7, c8, c9] := by
 intro t its loc h hs h5
 obtain ⟨hwf, h0, ho, hr⟩ := hs
 have hlt := isW_lt hw
 have ho1 := ho.set (b := a + 1) (by omega)
 obtain ⟨c, h2, yf, hf, hop, ho2⟩ := filA_eq ts e id ho1 hp hk
 obtain ⟨nx, obs, nt, tips⟩ := h
 have hr0 : al obs rid = some (.cells 91 [.p id 0, c0, c1, c2, c3, c4, c5, c6, c7, c8, c9]) := hr
 have ha := isW_eq ts e id ho wWhere
 rw [hw] at ha
 have hr1 : al (alSet obs id (srcC ts (a + 1) e)) rid = some (.cells 91 [.p id 0, c0, c1, c2, c3, c4, c5, c6, c7, c8, c9]) := hr.set hne ts e (a + 1)
 have hr2 : al h2.objs rid = some (.cells 91 [.p id 0, c0, c1, c2, c3, c4, c5, c6, c7, c8, c9]) := (hop.objs rid hne).trans hr1
 obtain ⟨nx2, obs2, nt2, tips2⟩ := h2
 replace hr2 : al obs2 rid = some (.cells 91 [.p id 0, c0, c1, c2, c3, c4, c5, c6, c7, c8, c9]) := hr2
 have K' := K c hf
 simp only [B44, AC.tl, AC.cut]
 cases hf with | mk k nm tx kids xs n tk hn hx =>
 have g : RS ts e id rid a1 [c0, c1, .i .i64 k, .s nm, .s tx, .sl xs n tk, c6, c7, c8, c9] t (putR ⟨nx2, obs2, nt2, tips2⟩ rid id [c0, c1, .i .i64 k, .s nm, .s tx, .sl xs n tk, c6, c7, c8, c9]) := ⟨hwf, h0, ho2.setR hne _, RO.setR _⟩
 simp only [wWhere, cond_true, setAt] at ha yf
 simp only [Y_rd, ys_hit, ys_miss, T.get_ne, T.get_same 8, T.wf_set, T.kill_nil, T.kill_cons, hwf, h0, ne_eq, Nat.reducePow, splice, al_lset, ha, hr0, hr1, hr2, yf, go_sem, reduceIte, reduceMul, reduceAdd, reduceSub, reduceEqDiff, reduceLeDiff, reduceLT]
 exact K' _ _ _ _ ⟨by simp only [T.wf_set, T.kill_nil, T.kill_cons, hwf], by simp (disch := decide) only [T.get_ne, T.kill_nil, T.kill_cons, h0], g.so, g.ro⟩ (by simp (disch := decide) only [T.get_ne, T.kill_nil, T.kill_cons, h5])
theorem st_by (C : AC) (Q : AEx → St → Prop) {a : Nat} {by_ : List UInt8} {c0 c1 c2 c3 c4 c5 c7 c8 c9 : V} (hne : rid ≠ id) (b : Bool) (hw : isW ts e a wBy = b) (hb1 : b = true → (tokAt ts e (a + 1)).kind = 1 ∧ (tokAt ts e (a + 1)).text = by_) (hb2 : b = false → by_ = [])
  (K : Kt ts e id rid C Q (bif b then a + 2 else a) [c0, c1, c2, c3, c4, c5, .s by_, c7, c8, c9]) :
  Kt ts e id rid (AC.cut 1 (AC.tl 8 B44) C) Q a [c0, c1, c2, c3, c4, c5, .s [], c7, c8, c9] := by
 intro t its loc h hs h5
 obtain ⟨hwf, h0, ho, hr⟩ := hs
 have ha := isW_eq ts e id ho wBy
 rw [hw] at ha
 obtain ⟨nx, obs, nt, tips⟩ := h
 have hr0 : al obs rid = some (.cells 91 [.p id 0, c0, c1, c2, c3, c4, c5, .s [], c7, c8, c9]) := hr
 simp only [B44, AC.tl, AC.cut]
 cases b with
 | false =>
   obtain rfl := hb2 rfl
   simp only [wBy, cond_false] at ha
   simp only [Y_rd, ys_hit, ys_miss, T.get_ne, T.get_same 8, T.wf_set, T.kill_nil, T.kill_cons, hwf, h0, ne_eq, Nat.reducePow, splice, al_lset, ha, hr0, h5, go_sem, reduceIte, reduceMul, reduceAdd, reduceSub, reduceEqDiff, reduceLeDiff, reduceLT]
   exact K _ _ _ _ ⟨by simp only [T.wf_set, hwf], by simp (disch := decide) only [T.get_ne, h0], ho, hr⟩ (by simp (disch := decide) only [T.get_ne, T.kill_nil, T.kill_cons, h5])
 | true =>
   obtain ⟨h1, rfl⟩ := hb1 rfl
   have hlt := isW_lt hw
   have hlt1 := tokAt_lt (ts := ts) (e := e) (a := a + 1) (by omega)
   have ho1 := ho.set (b := a + 1) (by omega)
   have hR1 := hr.set hne ts e (a + 1)
   have ho2 := ho.set (b := a + 1 + 1) (by omega)
   have hyw := qword_eq ts e id rid ho1 hR1 h1
   have hr1 : al (alSet obs id (srcC ts (a + 1) e)) rid = some (.cells 91 [.p id 0, c0, c1, c2, c3, c4, c5, .s [], c7, c8, c9]) := hR1
   have hr2 : al (alSet obs id (srcC ts (a + 1 + 1) e)) rid = some (.cells 91 [.p id 0, c0, c1, c2, c3, c4, c5, .s [], c7, c8, c9]) := hr.set hne ts e (a + 1 + 1)
   have g : RS ts e id rid (a + 1 + 1) [c0, c1, c2, c3, c4, c5, .s (tokAt ts e (a + 1)).text, c7, c8, c9] t (putR (setAt ⟨nx, obs, nt, tips⟩ id ts e (a + 1 + 1)) rid id [c0, c1, c2, c3, c4, c5, .s (tokAt ts e (a + 1)).text, c7, c8, c9]) := ⟨hwf, h0, ho2.setR hne _, RO.setR _⟩
   simp only [wBy, cond_true, setAt] at ha hyw
   generalize (tokAt ts e (a + 1)).text = tx at *
   simp only [Y_rd, ys_hit, ys_miss, T.get_ne, T.get_same 8, T.wf_set, T.kill_nil, T.kill_cons, hwf, h0, ne_eq, Nat.reducePow, splice, al_lset, ha, hyw, hr0, hr1, hr2, h5, go_sem, reduceIte, reduceMul, reduceAdd, reduceSub, reduceEqDiff, reduceLeDiff, reduceLT]
   exact K _ _ _ _ ⟨by simp only [T.wf_set, T.kill_nil, T.kill_cons, hwf], by simp (disch := decide) only [T.get_ne, T.kill_nil, T.kill_cons, h0], g.so, g.ro⟩ (by (try simp (disch := decide) only [T.get_ne]); exact T.get_same 8 _ _ _ (by simp only [T.wf_set, hwf]) (by decide))
theorem st_down (C : AC) (Q : AEx → St → Prop) {a : Nat} {c0 c1 c2 c3 c4 c5 c6 c7 c8 c9 : V} (hne : rid ≠ id) (dn : Bool) (hw : isW ts e a wDown = dn) (K : Kt ts e id rid C Q (bif dn then a + 1 else a) [c0, c1, c2, c3, c4, c5, c6, .b dn, c8, c9]) :
  Kt ts e id rid (AC.cut 1 (AC.tl 9 B44) C) Q a [c0, c1, c2, c3, c4, c5, c6, c7, c8, c9] := by
 intro t its loc h hs h5
 obtain ⟨hwf, h0, ho, hr⟩ := hs
 obtain ⟨nx, obs, nt, tips⟩ := h
 have hr0 : al obs rid = some (.cells 91 [.p id 0, c0, c1, c2, c3, c4, c5, c6, c7, c8, c9]) := hr
 have ha := isW_eq ts e id ho wDown
 have hlt : dn = true → a < ts.length := fun e1 => by rw [e1] at hw; exact isW_lt hw
 rw [hw] at ha
 simp only [B44, AC.tl, AC.cut]
 cases dn with
 | false =>
   have g : RS ts e id rid a [c0, c1, c2, c3, c4, c5, c6, .b false, c8, c9] t (putR ⟨nx, obs, nt, tips⟩ rid id [c0, c1, c2, c3, c4, c5, c6, .b false, c8, c9]) := ⟨hwf, h0, ho.setR hne _, RO.setR _⟩
   simp only [wDown, cond_false] at ha
   simp only [Y_rd, ys_hit, ys_miss, ha, hr0, h0, T.get_ne, T.get_same 8, T.wf_set, hwf, ne_eq, Nat.reducePow, splice, go_sem, reduceIte, reduceMul, reduceAdd, reduceSub, reduceEqDiff, reduceLeDiff, reduceLT]
   exact K _ _ _ _ ⟨by simp only [T.wf_set, hwf], by simp (disch := decide) only [T.get_ne, h0], g.so, g.ro⟩ (by simp (disch := decide) only [T.get_ne, h5])
 | true =>
   have ho1 := ho.set (b := a + 1) (by have := hlt rfl; omega)
   have hr1 : al (alSet obs id (srcC ts (a + 1) e)) rid = some (.cells 91 [.p id 0, c0, c1, c2, c3, c4, c5, c6, c7, c8, c9]) := hr.set hne ts e (a + 1)
   have g : RS ts e id rid (a + 1) [c0, c1, c2, c3, c4, c5, c6, .b true, c8, c9] t (putR (setAt ⟨nx, obs, nt, tips⟩ id ts e (a + 1)) rid id [c0, c1, c2, c3, c4, c5, c6, .b true, c8, c9]) := ⟨hwf, h0, ho1.setR hne _, RO.setR _⟩
   simp only [wDown, cond_true, setAt] at ha
   simp only [Y_rd, ys_hit, ys_miss, ha, hr0, hr1, h0, T.get_ne, T.get_same 8, T.wf_set, hwf, ne_eq, Nat.reducePow, splice, go_sem, reduceIte, reduceMul, reduceAdd, reduceSub, reduceEqDiff, reduceLeDiff, reduceLT]
   exact K _ _ _ _ ⟨by simp only [T.wf_set, hwf], by simp (disch := decide) only [T.get_ne, h0], g.so, g.ro⟩ (by simp (disch := decide) only [T.get_ne, h5])
theorem st_nums (C : AC) (Q : AEx → St → Prop) {a : Nat} {c0 c1 c2 c3 c4 c5 c6 c7 : V} (hne : rid ≠ id) (sk fi : Int) (h1 : 0 ≤ sk) (h2 : sk ≤ 1099511627776) (h3 : 0 ≤ fi) (h4 : fi ≤ 1099511627776) (b b' : Bool)
  (hw : isW ts e a wSkip = b) (hb1 : b = true → 1 ≤ sk ∧ (tokAt ts e (a + 1)).kind = 3 ∧ (tokAt ts e (a + 1)).text = Lib.itoa sk) (hb0 : b = false → sk = 0)
  (hw' : isW ts e (bif b then a + 2 else a) wFirst = b') (hb1' : b' = true → 1 ≤ fi ∧ (tokAt ts e ((bif b then a + 2 else a) + 1)).kind = 3 ∧ (tokAt ts e ((bif b then a + 2 else a) + 1)).text = Lib.itoa fi) (hb0' : b' = false → fi = 0)
  (K : Kt ts e id rid C Q (bif b' then (bif b then a + 2 else a) + 2 else (bif b then a + 2 else a)) [c0, c1, c2, c3, c4, c5, c6, c7, .i .i64 sk, .i .i64 fi]) :
  Kt ts e id rid (AC.cut 1 (AC.tl 10 B44) C) Q a [c0, c1, c2, c3, c4, c5, c6, c7, .i .i64 0, .i .i64 0] := by
 intro t its loc h hs h5
 obtain ⟨hwf, h0, ho, hr⟩ := hs
 obtain ⟨h', a', y1, ho', hr', ea, K⟩ : ∃ (h' : H) (a' : Nat), pick 82 (R_num ts e id rid) [.p rid 0, .s wSkip, .p rid 9] h = some (.b true, h') ∧ SO h' id ts e a' ∧ RO h' rid id [c0, c1, c2, c3, c4, c5, c6, c7, .i .i64 sk, .i .i64 0] ∧ a' = (bif b then a + 2 else a) ∧ Kt ts e id rid C Q (bif b' then a' + 2 else a') [c0, c1, c2, c3, c4, c5, c6, c7, .i .i64 sk, .i .i64 fi] := by
  cases b with
  | false =>
    obtain rfl := hb0 rfl
    exact ⟨h, a, num_no ts e id rid ho hr wSkip 9 hw, ho, hr, rfl, K⟩
  | true =>
    obtain ⟨g1, g2, g3⟩ := hb1 rfl
    have hl := tokAt_lt (ts := ts) (e := e) (a := a + 1) (by omega)
    exact ⟨_, a + 1 + 1, num_skip ts e id rid ho hr hne wSkip hw sk g1 h2 g2 g3 hl, (ho.set (by omega)).setR hne _, RO.setR _, rfl, K⟩
 rw [← ea] at hw' hb1'
 obtain ⟨h'', a'', y2, ho'', hr'', K⟩ : ∃ (h'' : H) (a'' : Nat), pick 82 (R_num ts e id rid) [.p rid 0, .s wFirst, .p rid 10] h' = some (.b true, h'') ∧ SO h'' id ts e a'' ∧ RO h'' rid id [c0, c1, c2, c3, c4, c5, c6, c7, .i .i64 sk, .i .i64 fi] ∧ Kt ts e id rid C Q a'' [c0, c1, c2, c3, c4, c5, c6, c7, .i .i64 sk, .i .i64 fi] := by
  cases b' with
  | false =>
    obtain rfl := hb0' rfl
    exact ⟨h', a', num_no ts e id rid ho' hr' wFirst 10 hw', ho', hr', K⟩
  | true =>
    obtain ⟨g1, g2, g3⟩ := hb1' rfl
    have hl := tokAt_lt (ts := ts) (e := e) (a := a' + 1) (by omega)
    exact ⟨_, a' + 1 + 1, num_first ts e id rid ho' hr' hne wFirst hw' fi g1 h4 g2 g3 hl, (ho'.set (by omega)).setR hne _, RO.setR _, K⟩
 clear hw hw' hb1 hb1' hb0 hb0' ea
 have hr0 : al h.objs rid = some (.cells 91 [.p id 0, c0, c1, c2, c3, c4, c5, c6, c7, .i .i64 0, .i .i64 0]) := hr
 have hr1 : al h'.objs rid = some (.cells 91 [.p id 0, c0, c1, c2, c3, c4, c5, c6, c7, .i .i64 sk, .i .i64 0]) := hr'
 obtain ⟨nx, obs, nt, tips⟩ := h
 obtain ⟨nx1, obs1, nt1, tips1⟩ := h'
 obtain ⟨nx2, obs2, nt2, tips2⟩ := h''
 simp only [wSkip, wFirst] at y1 y2
 simp only [B44, AC.tl, AC.cut]
 simp only [Y_rd, ys_hit, ys_miss, T.get_ne, T.get_same 8, T.wf_set, T.kill_nil, T.kill_cons, hwf, h0, ne_eq, Nat.reducePow, splice, al_lset, y1, y2, hr0, hr1, h5, go_sem, reduceIte, reduceMul, reduceAdd, reduceSub, reduceEqDiff, reduceLeDiff, reduceLT]
 exact K _ _ _ _ ⟨by simp only [T.wf_set, hwf], by simp (disch := decide) only [T.get_ne, h0], ho'', hr''⟩ (by simp (disch := decide) only [T.get_ne, T.kill_nil, T.kill_cons, h5])
theorem st_end {a : Nat} {q : List V} (hk : (tokAt ts e a).kind = 0) (Q : V → H → Prop) {t : Ai.T} {its : List (Nat × (List UInt8 × Nat))} {loc : List (Nat × List V)} {h : H} (hs : RS ts e id rid a q t h) (hq : Q (.tup [.i .i64 0, .i .i64 0]) h) :
  Hp.M X_rd (Y_rd ts e id rid) (kz44) (.code (AC.tl 11 B44)) [] ⟨gl0, t, its, loc, h⟩ (fun ex st => ∃ v h', Hp.FinI [.tmp 2, .tmp 3] v h' ex st ∧ Q v h') := by
 obtain ⟨hwf, h0, ho, hr⟩ := hs
 have hp := peek_eq ts e id ho
 obtain ⟨nx, obs, nt, tips⟩ := h
 have hr0 : al obs rid = some (.cells 91 (.p id 0 :: q)) := hr
 have e0 : decide ((0 : Int) = 0) = true := rfl
 simp only [Tok.cells, hk, Int.cast_ofNat_Int, Int.natCast_zero] at hp
 simp only [B44, AC.tl]
 simp only [Y_rd, ys_hit, ys_miss, T.get_ne, T.get_same 8, T.wf_set, T.kill_nil, T.kill_cons, hwf, h0, ne_eq, Nat.reducePow, splice, al_lset, hp, hr0, e0, go_sem, reduceIte, reduceMul, reduceAdd, reduceSub, reduceEqDiff, reduceLeDiff, reduceLT]
 refine ⟨_, _, ⟨rfl, ?_⟩, hq⟩
 simp only [Y_rd, ys_hit, ys_miss, T.get_ne, T.get_same 8, T.wf_set, T.kill_nil, T.kill_cons, hwf, h0, ne_eq, Nat.reducePow, splice, al_lset, resV, oneOf, go_sem, reduceIte, reduceMul, reduceAdd, reduceSub, reduceEqDiff, reduceLeDiff, reduceLT]
end
end Go.Proofs.YtpcjhfchpelonaaGreatDoor
set_option linter.unusedSimpArgs false
set_option linter.unusedVariables false
namespace Go.Proofs.YtpcjhfchpelonaaGreatDoor
open Ai Go
structure AtE (ts : List Tok) (a : Nat) (l : List TK) : Prop where
 at_ : At ts a l
 len : ts.length = a + l.length
def hdW (l : List TK) (w : List UInt8) : Bool := match l with
 | [] => false
 | x :: _ => decide (x.1 = 1) && decide (x.2 = w)
def hdT (l : List TK) (w : List UInt8) : Bool := match l with
 | [] => false
 | x :: _ => decide (x.1 = 4) && decide (x.2 = w)
section
variable {ts : List Tok} {e a : Nat}
theorem AtE.right {l m : List TK} (h : AtE ts a (l ++ m)) : AtE ts (a + l.length) m := ⟨h.at_.right, by rw [h.len, List.length_append]; omega⟩
theorem tokAt_end (h : ts.length = a) : tokAt ts e a = ⟨0, [], e⟩ := by unfold tokAt; rw [List.getElem?_eq_none (by omega)]; rfl
theorem AtE.isW {l : List TK} (h : AtE ts a l) (e : Nat) (w : List UInt8) : isW ts e a w = hdW l w := by
 cases l with
 | nil => unfold Go.Proofs.YtpcjhfchpelonaaGreatDoor.isW; rw [tokAt_end (a := a) (by have := h.len; simpa using this)]; rfl
 | cons x r => exact h.at_.isW e w
theorem AtE.isT {l : List TK} (h : AtE ts a l) (e : Nat) (w : List UInt8) : isT ts e a w = hdT l w := by
 cases l with
 | nil => unfold Go.Proofs.YtpcjhfchpelonaaGreatDoor.isT; rw [tokAt_end (a := a) (by have := h.len; simpa using this)]; rfl
 | cons x r => exact h.at_.isT e w
end
section
variable (o : Bool) (of_ : List UInt8) (b : Bool) (f : List TK) (y : Bool) (by_ : List UInt8) (d s i : Bool) (sk fi : List UInt8)
def Lfi : List TK := bif i then [(1, wFirst), (3, fi)] else []
def Lsk : List TK := bif s then [(1, wSkip), (3, sk)] else []
def Ldn : List TK := bif d then [(1, wDown)] else []
def Lby : List TK := bif y then [] else [(1, wBy), (1, by_)]
def Lwh : List TK := bif b then [] else (1, wWhere) :: f
def Lof : List TK := bif o then [] else [(1, of_)]
theorem hd_where : hdW (Lwh b f ++ (Lby y by_ ++ (Ldn d ++ (Lsk s sk ++ Lfi i fi)))) wWhere = !b := by
 cases b <;> cases y <;> cases d <;> cases s <;> cases i <;> rfl
theorem hd_by : hdW (Lby y by_ ++ (Ldn d ++ (Lsk s sk ++ Lfi i fi))) wBy = !y := by
 cases y <;> cases d <;> cases s <;> cases i <;> rfl
theorem hd_by_or : hdW (Lby y by_ ++ (Ldn d ++ (Lsk s sk ++ Lfi i fi))) wOr = false := by
 cases y <;> cases d <;> cases s <;> cases i <;> rfl
theorem hd_by_and : hdW (Lby y by_ ++ (Ldn d ++ (Lsk s sk ++ Lfi i fi))) wAnd = false := by
 cases y <;> cases d <;> cases s <;> cases i <;> rfl
theorem hd_by_eq : hdT (Lby y by_ ++ (Ldn d ++ (Lsk s sk ++ Lfi i fi))) [61] = false := by
 cases y <;> cases d <;> cases s <;> cases i <;> rfl
theorem hd_dn : hdW (Ldn d ++ (Lsk s sk ++ Lfi i fi)) wDown = d := by
 cases d <;> cases s <;> cases i <;> rfl
theorem hd_sk : hdW (Lsk s sk ++ Lfi i fi) wSkip = s := by
 cases s <;> cases i <;> rfl
theorem hd_fi : hdW (Lfi i fi) wFirst = i := by
 cases i <;> rfl
end
section
variable (ts : List Tok) (e id rid : Nat) (k : Nat) (of_ : List UInt8) (f : Fil) (by_ : List UInt8) (dn : Bool) (sk fi : Int)
def R_all (a : List V) (h : H) (v : V) (h' : H) : Prop := v = .tup [.i .i64 0, .i .i64 0] ∧ ∃ c, FilR f c ∧ RO h' rid id (qC k of_ c by_ dn sk fi)
def zerosQ : List V := [.i .i64 0, .s [], .i .i64 0, .s [], .s [], .sl [] 0 .nil, .s [], .b false, .i .i64 0, .i .i64 0]
variable {ts e id rid k of_ f by_ dn sk fi}
theorem all_ok {h : H} (hne : rid ≠ id) (ho : SO h id ts e 0) (hr : RO h rid id zerosQ) (hA : AtE ts 0 (tokQ k of_ f (fk0 f) by_ dn sk fi)) (he : qchk k of_ f by_ dn sk fi = 0) :
  ∃ v h', Hp.CompI tabx told 44 [.p rid 0] h v h' ∧ R_all id rid k of_ f by_ dn sk fi [.p rid 0] h v h' := by
 obtain ⟨q1, q2, q3, q4, q5, q6, q7, q8, q9, q10, q11⟩ := qchk_all he
 have hfi := fine1 (chk_ok q1) q1
 have A0 : AtE ts 0 ([(1, kwQ k)] ++ (Lof (decide (of_ = [])) of_ ++ (Lwh (fk0 f) (tkF f) ++ (Lby (decide (by_ = [])) by_ ++ (Ldn dn ++ (Lsk (decide (0 < sk)) (Lib.itoa sk) ++ Lfi (decide (0 < fi)) (Lib.itoa fi))))))) := hA
 have A1 := A0.right
 have A2 := A1.right
 have A3 := A2.right
 have A4 := A3.right
 have A5 := A4.right
 have A6 := A5.right
 have A7 : AtE ts _ ([] : List TK) := AtE.right (l := Lfi (decide (0 < fi)) (Lib.itoa fi)) (by rw [List.append_nil]; exact A6)
 have t0 := A0.at_.tok e
 have w2 := A2.isW e wWhere
 have w3 := A3.isW e wBy
 have w4 := A4.isW e wDown
 have w5 := A5.isW e wSkip
 have w6 := A6.isW e wFirst
 rw [hd_where] at w2
 rw [hd_by] at w3
 rw [hd_dn] at w4
 rw [hd_sk] at w5
 rw [hd_fi] at w6
 refine compI_ex (Q := fun v h' => v = .tup [.i .i64 0, .i .i64 0] ∧ ∃ c, FilR f c ∧ RO h' rid id (qC k of_ c by_ dn sk fi)) (xf := X_rd) (xh := Y_rd ts e id rid) (kz := kz44) (fn := af44) x_rd (t_rd ts e id rid) rfl (Nat.le_of_ble_eq_true rfl) ?_
 show Hp.M _ _ _ (.code (AC.cut 5 B44 (AC.cut 2 (AC.tl 5 B44) (AC.cut 1 (AC.tl 7 B44) (AC.cut 1 (AC.tl 8 B44) (AC.cut 1 (AC.tl 9 B44) (AC.cut 1 (AC.tl 10 B44) (AC.tl 11 B44)))))))) _ (St.init gl0 8 [.p rid 0] h) (fun ex st => ∃ v h', Hp.FinI [.tmp 2, .tmp 3] v h' ex st ∧ _)
 refine st_kind _ _ hne ho hr k (by omega) t0.1 t0.2 ?_
 refine st_of (of_ := of_) _ _ hne (decide (2 ≤ (k : Int))) rfl (fun hb => ?_) (fun hb => ?_) ?_
 · have hn : decide (of_ = []) = false := by rw [hb] at q11; simpa using q11.symm
   have A1' := A1
   rw [hn] at A1'
   exact A1'.at_.tok e
 · rw [hb] at q11
   have : decide (of_ = []) = true := by simpa using q11.symm
   exact of_decide_eq_true this
 have p2 : (bif decide (2 ≤ (k : Int)) then 1 + 1 else 1) = 0 + [(1, kwQ k)].length + (Lof (decide (of_ = [])) of_).length := by
  rw [q11]; cases decide (of_ = []) <;> rfl
 rw [p2]
 generalize 0 + [(1, kwQ k)].length + (Lof (decide (of_ = [])) of_).length = a2 at *
 have rest : ∀ c, FilR f c → Kt ts e id rid (AC.cut 1 (AC.tl 8 B44) (AC.cut 1 (AC.tl 9 B44) (AC.cut 1 (AC.tl 10 B44) (AC.tl 11 B44))))
   (fun ex st => ∃ v h', Hp.FinI [.tmp 2, .tmp 3] v h' ex st ∧ (v = .tup [.i .i64 0, .i .i64 0] ∧ ∃ c, FilR f c ∧ RO h' rid id (qC k of_ c by_ dn sk fi))) (a2 + (Lwh (fk0 f) (tkF f)).length) (.i .i64 k :: .s of_ :: (c ++ [.s [], .b false, .i .i64 0, .i .i64 0])) := by
  intro c hc
  have hc' := hc
  cases hc with | mk k1 nm tx kids xs n tk hn hx =>
  refine st_by (by_ := by_) _ _ hne _ w3 (fun hb => ?_) (fun hb => ?_) ?_
  · have hn : decide (by_ = []) = false := by simpa using hb
    have A3' := A3
    rw [hn] at A3'
    exact A3'.at_.tail.tok e
  · exact of_decide_eq_true (by simpa using hb)
  have p4 : ∀ a : Nat, (bif !decide (by_ = []) then a + 2 else a) = a + (Lby (decide (by_ = [])) by_).length := by
   intro a; cases decide (by_ = []) <;> rfl
  rw [p4]
  generalize a2 + (Lwh (fk0 (.mk k1 nm tx kids)) (tkF (.mk k1 nm tx kids))).length + (Lby (decide (by_ = [])) by_).length = a4 at *
  refine st_down _ _ hne dn w4 ?_
  have p5 : (bif dn then a4 + 1 else a4) = a4 + (Ldn dn).length := by cases dn <;> rfl
  rw [p5]
  generalize a4 + (Ldn dn).length = a5 at *
  have p6 : (bif decide (0 < sk) then a5 + 2 else a5) = a5 + (Lsk (decide (0 < sk)) (Lib.itoa sk)).length := by cases decide (0 < sk) <;> rfl
  refine st_nums _ _ hne sk fi q5 q6 q7 q8 (decide (0 < sk)) (decide (0 < fi)) w5 (fun hb => ?_) (fun hb => ?_) (by rw [p6]; exact w6) (fun hb => ?_) (fun hb => ?_) ?_
  · have A5' := A5
    rw [hb] at A5'
    have := of_decide_eq_true hb
    exact ⟨by omega, A5'.at_.tail.tok e⟩
  · have := of_decide_eq_false hb; omega
  · rw [p6]
    have A6' := A6
    rw [hb] at A6'
    have := of_decide_eq_true hb
    exact ⟨by omega, A6'.at_.tail.tok e⟩
  · have := of_decide_eq_false hb; omega
  rw [p6]
  generalize a5 + (Lsk (decide (0 < sk)) (Lib.itoa sk)).length = a6 at *
  have p7 : (bif decide (0 < fi) then a6 + 2 else a6) = a6 + (Lfi (decide (0 < fi)) (Lib.itoa fi)).length := by cases decide (0 < fi) <;> rfl
  rw [p7]
  intro t its loc h2 hs h5
  exact st_end (by rw [tokAt_end (a := a6 + (Lfi (decide (0 < fi)) (Lib.itoa fi)).length) A7.len]) _ hs ⟨rfl, _, hc', hs.ro⟩
 cases hb2 : fk0 f with
 | true =>
   rw [hb2] at w2
   have hf0 : FilR f [.i .i64 0, .s [], .s [], .sl [] 0 .nil] := by
    cases f with | mk k1 nm tx kids =>
    have hk0 : k1 = 0 := of_decide_eq_true hb2
    obtain ⟨hm, _⟩ := hfi.may
    rcases may_cases hm with ⟨rfl, rfl, rfl, hl⟩ | ⟨h, _⟩ | ⟨h, _⟩ | ⟨h, _⟩ | ⟨h, _⟩ | ⟨h, _⟩
    · obtain rfl := List.eq_nil_of_length_eq_zero hl
      exact fil0R
    · omega
    · omega
    · omega
    · omega
    · omega
   have := rest _ hf0
   rw [hb2] at this
   exact st_where0 _ _ w2 this
 | false =>
   rw [hb2] at w2
   have A2' := A2
   rw [hb2] at A2'
   have A3' := A3
   rw [hb2] at A3'
   have e3 : a2 + (Lwh false (tkF f)).length = a2 + 1 + (tkF f).length := by show a2 + ((tkF f).length + 1) = _; omega
   rw [e3] at A3'
   have hS : Stp ts e (a2 + 1 + (tkF f).length) 1 := ⟨by rw [A3'.isT e]; exact hd_by_eq .., fun c h1 h2 => by
    rw [A3'.isW e]
    have : c = 1 ∨ c = 2 := by omega
    rcases this with rfl | rfl
    · exact hd_by_or ..
    · exact hd_by_and ..⟩
   have hAt : At ts (a2 + 1) (tkF f) := (At.left (l := tkF f) A2'.at_.tail)
   have hp := (back_all (ts := ts) (e := e) (cnt f) f 1 (Nat.le_refl _) hfi).pt (a2 + 1) 1 1 hAt hS (Nat.le_refl _) (bindF_ge f) (by decide)
   refine st_where1 _ _ hne w2 hp q1 (fun c hc => ?_)
   have := rest c hc
   rw [hb2, e3] at this
   exact this
end
end Go.Proofs.YtpcjhfchpelonaaGreatDoor
set_option linter.unusedSimpArgs false
set_option linter.unusedVariables false
namespace Go.Proofs.YtpcjhfchpelonaaGreatDoor
open Nat (reduceMul reduceAdd reduceSub reduceEqDiff reduceLeDiff reduceLT)
open Ai Go
theorem textQ_len2 (k : Nat) (of_ fT : List UInt8) (b2 : Bool) (by_ : List UInt8) (dn : Bool) (sk fi : Int) (h1 : of_.length ≤ 1000) (h2 : fT.length ≤ 100000) (h3 : by_.length ≤ 1000) (h4 : (Lib.itoa sk).length ≤ 20000) (h5 : (Lib.itoa fi).length ≤ 20000) : (textQ k of_ fT b2 by_ dn sk fi).length ≤ 1048576 := by
 have hk := kwQ_len k
 unfold textQ partsQ
 cases decide (of_ = []) <;> cases b2 <;> cases decide (by_ = []) <;> cases dn <;> cases decide (0 < sk) <;> cases decide (0 < fi) <;>
  simp only [cond_true, cond_false, List.nil_append, List.cons_append, List.append_nil, Lib.join, List.intercalate, List.intersperse, List.flatten_cons, List.flatten_nil, List.length_append, List.length_cons, List.length_nil] <;> omega
section
variable {k : Nat} {of_ : List UInt8} {f : Fil} {by_ : List UInt8} {dn : Bool} {sk fi : Int}
noncomputable def Y_qp (k : Nat) (of_ : List UInt8) (f : Fil) (by_ : List UInt8) (dn : Bool) (sk fi : Int) := ys [(43, pick 43 R_read), (44, pick 44 (R_all 0 1 k of_ f by_ dn sk fi))]
theorem t_qp (k : Nat) (of_ : List UInt8) (f : Fil) (by_ : List UInt8) (dn : Bool) (sk fi : Int) : Hp.TellsI tabx told (Y_qp k of_ f by_ dn sk fi) := itells_cons pick_tells (itells_cons pick_tells itells_nil)
noncomputable def X_qp := xs [(8, F_qcheck)]
theorem x_qp : Tells tabx told X_qp := tells_cons o_qcheck tells_nil
theorem UH20 : type_of% (@Hp_open _ _ B20.eq_1) := @Hp_open _ _ B20.eq_1
def kz20 (_ : Nat) : List Nat := []
theorem qparse_ok (he : qchk k of_ f by_ dn sk fi = 0) : ∃ v, Comp tabx told 20 [.s (textQ k of_ (tellF f) (fk0 f) by_ dn sk fi)] v ∧ ∃ c, v = .tup [.agg (qC k of_ c by_ dn sk fi), .i .i64 0, .i .i64 0] ∧ FilR f c := by
 obtain ⟨q1, q2, q3, q4, q5, q6, q7, q8, q9, q10, q11⟩ := qchk_all he
 have hfi := fine1 (chk_ok q1) q1
 have hs := textQ_len2 k of_ (tellF f) (fk0 f) by_ dn sk fi (by have := nmQ_len q3; omega) (by have := chk_len q1; omega) (by have := nmQ_len q2; omega) (by have := itoa_len sk (by omega) (by omega); omega) (by have := itoa_len fi (by omega) (by omega); omega)
 obtain ⟨ts, hl, hm⟩ := lx_textQ (k := k) (of_ := of_) (f := f) (b2 := fk0 f) (by_ := by_) (dn := dn) (sk := sk) (fi := fi) hfi q2 q3 q5 q7
 generalize textQ k of_ (tellF f) (fk0 f) by_ dn sk fi = s at *
 have hk := lx_kind _ s 0 ts (Nat.le_refl _) hl
 have hlen := lx_len _ s 0 ts (Nat.le_refl _) hl
 have hA : AtE ts 0 (tokQ k of_ f (fk0 f) by_ dn sk fi) := ⟨at_all hm, by rw [← hm, List.length_map]; omega⟩
 have ho : SO ⟨2, [(1, .cells 91 (.p 0 0 :: zerosQ)), (0, srcC ts 0 s.length)], 0, []⟩ 0 ts s.length 0 := ⟨rfl, Nat.zero_le _, by omega, fun t ht => (hk t ht).1⟩
 have hr : RO ⟨2, [(1, .cells 91 (.p 0 0 :: zerosQ)), (0, srcC ts 0 s.length)], 0, []⟩ 1 0 zerosQ := rfl
 obtain ⟨v, h', hc, hR⟩ := all_ok (by decide) ho hr hA he
 obtain ⟨v, h', y2, rfl, c, hfc, hro⟩ := pick_spec hc hR
 have hfz := FilR.frz h' _ c 1 0 98 hfc q1 (by decide)
 refine comp_ex (xf := X_qp) (xh := Y_qp k of_ f by_ dn sk fi) (kz := kz20) (fn := af20) x_qp (t_qp _ _ _ _ _ _ _) rfl (Nat.le_of_ble_eq_true rfl) ?_
 show Hp.M _ _ _ (.code B20) _ (St.init gl0 6 [.s s] _) (fun ex st => ∃ v, Fin [.cell 2 true 10, .tmp 3, .tmp 4] v ex st ∧ _)
 rw [UH20]
 have y1 : Y_qp k of_ f by_ dn sk fi 43 [.s s] {} = _ := read_ok hs hl
 replace y2 : Y_qp k of_ f by_ dn sk fi 44 [.p 1 0] _ = _ := y2
 have y3 : X_qp 8 [.agg (qC k of_ c by_ dn sk fi)] = some (.i .i64 0) := by
  have := qcheck_eq k of_ f c by_ dn sk fi hfc
  rw [he] at this
  exact this
 have hr1 : al h'.objs 1 = some (.cells 91 (.p 0 0 :: qC k of_ c by_ dn sk fi)) := hro
 have e0 : decide ((0 : Int) = 0) = true := rfl
 obtain ⟨nx, obs, nt, tips⟩ := h'
 replace hr1 : al obs 1 = some (.cells 91 (.p 0 0 :: qC k of_ c by_ dn sk fi)) := hr1
 simp only [zerosQ] at y2
 cases hfc with | mk k1 nm tx kids xs n tk1 hn hx =>
 simp only [qC, List.cons_append, List.nil_append] at hr1 y3
 simp only [y1, y2, y3, hr1, e0, k_box, splice, Int.cast_ofNat_Int, go_sem, reduceIte, reduceMul, reduceAdd, reduceSub, reduceEqDiff, reduceLeDiff, reduceLT]
 exact ⟨_, rfl, _, rfl, hfz⟩
end
/-! ### The law -/
noncomputable def F_same16 (f : Fil) : List V → Option V := pickP 21 fun _ v => v = .b true
noncomputable def F_qparse (k : Nat) (of_ : List UInt8) (f : Fil) (by_ : List UInt8) (dn : Bool) (sk fi : Int) : List V → Option V := pickP 20 fun _ v => ∃ c, v = .tup [.agg (qC k of_ c by_ dn sk fi), .i .i64 0, .i .i64 0] ∧ FilR f c
def F_awake (a : List V) : Option V := match a with
 | [] => some (.b true)
 | _ => none
theorem o_awake : ∀ a v, F_awake a = some v → Comp tabx told 10 a v := fun a v e => by
 unfold F_awake at e
 split at e
 · cases e; exact memo_all
 · cases e
noncomputable def X_qpl (k : Nat) (of_ : List UInt8) (f : Fil) (by_ : List UInt8) (dn : Bool) (sk fi : Int) := xs [(7, F_light), (10, F_awake), (18, F_qprint), (19, F_rqprint), (20, F_qparse k of_ f by_ dn sk fi), (21, F_same16 f)]
theorem t_qpl (k : Nat) (of_ : List UInt8) (f : Fil) (by_ : List UInt8) (dn : Bool) (sk fi : Int) : Tells tabx told (X_qpl k of_ f by_ dn sk fi) := tells_cons o_light (tells_cons o_awake (tells_cons o_qprint (tells_cons o_rqprint (tells_cons pickP_tells (tells_cons pickP_tells tells_nil)))))
theorem U6 : type_of% (@M_open _ _ B6.eq_1) := @M_open _ _ B6.eq_1
def kz6 (_ : Nat) : List Nat := []
set_option maxRecDepth 100000 in
theorem w_qprints (k : Int) (of_ : List UInt8) (f : Fil) (c : List V) (by_ : List UInt8) (dn : Bool) (sk fi : Int) (hf : FilR f c) (gl : Nat → List V) :
  M (X_qpl k.toNat of_ f by_ dn sk fi) (kz6) (.code B6) [] (St.init gl 6 [.agg (qC k of_ c by_ dn sk fi)] {}) (Fin [.tmp 2] (.b true)) := by
 rw [U6]
 have y0 : X_qpl k.toNat of_ f by_ dn sk fi 10 [] = some (.b true) := rfl
 have y1 : X_qpl k.toNat of_ f by_ dn sk fi 7 [.agg (qC k of_ c by_ dn sk fi)] = some (.b (wgh f 0 (min of_.length 8192 + min by_.length 8192)).1) := light_eq k of_ f c by_ dn sk fi hf
 cases hw : (wgh f 0 (min of_.length 8192 + min by_.length 8192)).1 with
 | false =>
   rw [hw] at y1
   cases hf with | mk k1 nm tx kids xs n tk hn hx =>
   simp only [qC, List.cons_append, List.nil_append] at y1
   simp only [qC, y0, y1, List.cons_append, List.nil_append, go_sem, reduceIte, reduceMul, reduceAdd, reduceSub, reduceEqDiff, reduceLeDiff, reduceLT]
 | true =>
   rw [hw] at y1
   have hok := wgh_ok f 0 _ hw
   have hlt := wgh_lt hw
   have y2 : X_qpl k.toNat of_ f by_ dn sk fi 18 [.agg (qC k of_ c by_ dn sk fi)] = some (.tup [.s (prQ k of_ f by_ dn sk fi), .i .i64 (qchk k of_ f by_ dn sk fi)]) := qprint_eq k of_ f c by_ dn sk fi hf hok
   have y3 : X_qpl k.toNat of_ f by_ dn sk fi 19 [.agg (qC k of_ c by_ dn sk fi)] = some (.tup [.s (prQ k of_ f by_ dn sk fi), .i .i64 (qchk k of_ f by_ dn sk fi)]) := rqprint_eq k of_ f c by_ dn sk fi hf hok (by omega) (by omega)
   by_cases he : qchk k of_ f by_ dn sk fi = 0
   · obtain ⟨q1, q2, q3, q4, q5, q6, q7, q8, q9, q10, q11⟩ := qchk_all he
     obtain ⟨m, rfl⟩ : ∃ m : Nat, k = (m : Int) := ⟨k.toNat, by omega⟩
     have hpr : prQ m of_ f by_ dn sk fi = textQ m of_ (tellF f) (fk0 f) by_ dn sk fi := by
      unfold prQ
      rw [if_pos he, Int.toNat_natCast]
      have : printV f = tellF f := by unfold printV; rw [if_pos q1]
      rw [this]
     obtain ⟨v, hc, hR⟩ := qparse_ok he
     rw [← hpr] at hc
     obtain ⟨v, y4, c', rfl, hf'⟩ := pickP_spec (R := fun _ v => ∃ c, v = .tup [.agg (qC m of_ c by_ dn sk fi), .i .i64 0, .i .i64 0] ∧ FilR f c) hc hR
     obtain ⟨v, y5, rfl⟩ := pickP_spec (R := fun _ v => v = .b true) (same_q (k := m) (of_ := of_) (by_ := by_) (dn := dn) (sk := sk) (fi := fi) hf hf' q1) rfl
     replace y4 : X_qpl (m : Int).toNat of_ f by_ dn sk fi 20 _ = _ := y4
     replace y5 : X_qpl (m : Int).toNat of_ f by_ dn sk fi 21 _ = _ := y5
     rw [he] at y2 y3
     have e0 : decide ((0 : Int) = 0) = true := rfl
     generalize prQ m of_ f by_ dn sk fi = t at *
     generalize X_qpl (m : Int).toNat of_ f by_ dn sk fi = X at *
     cases hf with | mk k1 nm tx kids xs n tk hn hx =>
     cases hf' with | mk _ _ _ _ xs' n' tk' hn' hx' =>
     simp only [qC, List.cons_append, List.nil_append] at y1 y2 y3 y4 y5
     simp only [qC, y0, y1, y2, y3, y4, y5, e0, strEq_self, splice, List.cons_append, List.nil_append, go_sem, reduceIte, reduceMul, reduceAdd, reduceSub, reduceEqDiff, reduceLeDiff, reduceLT]
   · have e0 : decide (qchk k of_ f by_ dn sk fi = 0) = false := decide_eq_false he
     have e1 : decide (qchk k of_ f by_ dn sk fi = qchk k of_ f by_ dn sk fi) = true := decide_eq_true rfl
     generalize qchk k of_ f by_ dn sk fi = e at *
     generalize prQ k of_ f by_ dn sk fi = t at *
     cases hf with | mk k1 nm tx kids xs n tk hn hx =>
     simp only [qC, List.cons_append, List.nil_append] at y1 y2 y3
     simp only [qC, y0, y1, y2, y3, e0, e1, strEq_self, List.cons_append, List.nil_append, go_sem, reduceIte, reduceMul, reduceAdd, reduceSub, reduceEqDiff, reduceLeDiff, reduceLT]
theorem w_QueryPrints (x0 : V) (y0 : ArgV Tryz.prog 26 x0) : Comp tabx told 6 [x0] (.b true) := by
 obtain ⟨k, of_, f, c, by_, dn, sk, fi, rfl, hf⟩ := arg_q filT Tryz.underlying4 ⟨_, Tryz.underlying26, by kernel_rfl⟩ y0
 refine comp_of (xf := X_qpl k.toNat of_ f by_ dn sk fi) (kz := kz6) (t_qpl _ _ _ _ _ _ _) (fn := af6) rfl (Nat.le_of_ble_eq_true rfl) fun gl => ?_
 rw [qC_strip]
 exact w_qprints k of_ f (stripL c) by_ dn sk fi (FilR.strip f c hf) gl
end Go.Proofs.YtpcjhfchpelonaaGreatDoor
