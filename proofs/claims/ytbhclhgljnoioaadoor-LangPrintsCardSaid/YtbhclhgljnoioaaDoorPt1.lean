/- Keys, values and names: what the program's functions and the document's compute. -/
import Derived.Test.YtbhclhgljnoioaaDoorPs6
set_option linter.unusedSimpArgs false
set_option linter.unusedVariables false
namespace Go.Proofs.YtbhclhgljnoioaaDoor
open Ai

def plain (n : Nat) : Bool := decide ((32 : Int) ≤ n) && (!decide ((n : Int) = 127) && !decide ((n : Int) = 65533))
def letter (n : Nat) : Bool := decide ((97 : Int) ≤ n) && decide ((n : Int) ≤ 122)

theorem U111 {xf : FuncId → List V → Option V} {kz : Nat → List Nat} {k : List Fr} {st : St} {Q : AEx → St → Prop} : M xf kz (.code B111) k st Q = M xf kz (.code (.seq (.reg [⟨some 2, .mov (.k (.b false)), none⟩])
  (.seq (.reg [⟨some 3, .mov (.t 0), none⟩,
     ⟨some 4, .bin .geq (.t 3) (.k (.i .i32 32)), none⟩,
     ⟨some 5, .mov (.t 4), none⟩,
     ⟨some 6, .mov (.t 0), some (5, true)⟩,
     ⟨some 7, .bin .neq (.t 6) (.k (.i .i32 127)), some (5, true)⟩,
     ⟨some 8, .pick (.t 5) (.t 7) (.k (.b false)), none⟩,
     ⟨some 9, .mov (.t 8), none⟩,
     ⟨some 10, .mov (.t 0), some (9, true)⟩,
     ⟨some 11, .bin .neq (.t 10) (.k (.i .i32 65533)), some (9, true)⟩,
     ⟨some 12, .pick (.t 9) (.t 11) (.k (.b false)), none⟩,
     ⟨some 2, .mov (.t 12), none⟩])
  .ret))) k st Q := rfl
def kz111 (_ : Nat) : List Nat := []
theorem w_plain (n : Nat) (gl : Nat → List V) : M noX (kz111) (.code B111) [] (St.init gl 4 [.i .i32 n] {}) (Fin [.tmp 2] (.b (plain n))) := by
  rw [U111]
  simp only [go_sem, ne_eq, not_false_eq_true, reduceIte, Nat.reduceMul, Nat.reduceAdd, Nat.reduceSub, Nat.reduceEqDiff, Nat.reduceLeDiff, Nat.reduceLT, List.take_succ_cons, List.take_zero, List.drop_succ_cons, List.cons_append]
  refine G_split _ _ _ _ _ ?_ ?_ <;> intro h1 <;> simp only [h1, go_sem, ne_eq, not_false_eq_true, reduceIte, Nat.reduceMul, Nat.reduceAdd, Nat.reduceSub, Nat.reduceEqDiff, Nat.reduceLeDiff, Nat.reduceLT, List.take_succ_cons, List.take_zero, List.drop_succ_cons, List.cons_append]
  · refine G_split _ _ _ _ _ ?_ ?_ <;> intro h2 <;> simp only [h2, go_sem, ne_eq, not_false_eq_true, reduceIte, Nat.reduceMul, Nat.reduceAdd, Nat.reduceSub, Nat.reduceEqDiff, Nat.reduceLeDiff, Nat.reduceLT, List.take_succ_cons, List.take_zero, List.drop_succ_cons, List.cons_append]
    · simp only [plain, h1, h2, Bool.true_and]
    · simp only [plain, h1, h2, Bool.true_and, Bool.false_and]
  · simp only [plain, h1, Bool.false_and]

theorem U112 {xf : FuncId → List V → Option V} {kz : Nat → List Nat} {k : List Fr} {st : St} {Q : AEx → St → Prop} : M xf kz (.code B112) k st Q = M xf kz (.code (.seq (.reg [⟨some 2, .mov (.k (.b false)), none⟩])
  (.seq (.reg [⟨some 3, .mov (.t 0), none⟩,
     ⟨some 4, .bin .geq (.t 3) (.k (.i .i32 97)), none⟩,
     ⟨some 5, .mov (.t 4), none⟩,
     ⟨some 6, .mov (.t 0), some (5, true)⟩,
     ⟨some 7, .bin .leq (.t 6) (.k (.i .i32 122)), some (5, true)⟩,
     ⟨some 8, .pick (.t 5) (.t 7) (.k (.b false)), none⟩,
     ⟨some 2, .mov (.t 8), none⟩])
  .ret))) k st Q := rfl
def kz112 (_ : Nat) : List Nat := []
theorem w_tletter (n : Nat) (gl : Nat → List V) : M noX (kz112) (.code B112) [] (St.init gl 4 [.i .i32 n] {}) (Fin [.tmp 2] (.b (letter n))) := by
  rw [U112]
  simp only [go_sem, ne_eq, not_false_eq_true, reduceIte, Nat.reduceMul, Nat.reduceAdd, Nat.reduceSub, Nat.reduceEqDiff, Nat.reduceLeDiff, Nat.reduceLT, List.take_succ_cons, List.take_zero, List.drop_succ_cons, List.cons_append]
  refine G_split _ _ _ _ _ ?_ ?_ <;> intro h1 <;> simp only [h1, go_sem, ne_eq, not_false_eq_true, reduceIte, Nat.reduceMul, Nat.reduceAdd, Nat.reduceSub, Nat.reduceEqDiff, Nat.reduceLeDiff, Nat.reduceLT, List.take_succ_cons, List.take_zero, List.drop_succ_cons, List.cons_append]
  · simp only [letter, h1, Bool.true_and]
  · simp only [letter, h1, Bool.false_and]

def K110_1 : List Fr := [.blk 0,
  .seq (.seq (.reg [⟨some 28, .mov (.t 9), none⟩,
       ⟨some 29, .mov (.t 1), none⟩,
       ⟨some 30, .bin .geq (.t 28) (.t 29), none⟩,
       ⟨some 8, .mov (.t 30), none⟩])
    .ret)]
theorem U110_1 {xf : FuncId → List V → Option V} {kz : Nat → List Nat} {k : List Fr} {st : St} {Q : AEx → St → Prop} : M xf kz (.code L110_1) k st Q = M xf kz (.code (.seq (.reg [⟨some 14, .next 13, none⟩,
     ⟨some 15, .ext (.t 14) 0, none⟩])
  (.seq (.cond (.t 15)
    .skip
    (.exit 0))
  (.blk 1 (.seq (.reg [⟨some 16, .ext (.t 14) 2, none⟩,
      ⟨some 11, .mov (.t 16), none⟩])
   (.seq (.reg [⟨some 17, .mov (.t 9), none⟩,
      ⟨some 18, .bin .add (.t 17) (.k (.i .i64 1)), none⟩,
      ⟨some 9, .mov (.t 18), none⟩])
   (.seq (.reg [⟨some 19, .mov (.t 9), none⟩,
      ⟨some 20, .mov (.t 2), none⟩,
      ⟨some 21, .bin .gtr (.t 19) (.t 20), none⟩,
      ⟨some 22, .mov (.t 21), none⟩,
      ⟨some 23, .mov (.t 3), some (22, false)⟩,
      ⟨some 24, .mov (.t 11), some (22, false)⟩,
      ⟨some 25, .callv true (.t 23) [(.t 24)], some (22, false)⟩,
      ⟨some 26, .un .not (.t 25), some (22, false)⟩,
      ⟨some 27, .pick (.t 22) (.k (.b true)) (.t 26), none⟩])
   (.cond (.t 27)
    (.seq (.reg [⟨some 8, .mov (.k (.b false)), none⟩])
    .ret)
    .skip)))))))) k st Q := rfl
theorem U110 {xf : FuncId → List V → Option V} {kz : Nat → List Nat} {k : List Fr} {st : St} {Q : AEx → St → Prop} : M xf kz (.code B110) k st Q = M xf kz (.code (.seq (.reg [⟨some 8, .mov (.k (.b false)), none⟩])
  (.seq (.reg [⟨some 9, .mov (.k (.i .i64 0)), none⟩])
  (.seq (.seq (.reg [⟨some 12, .mov (.t 0), none⟩,
      ⟨some 13, .range (.t 12), none⟩])
   (.blk 0 (.loop L110_1)))
  (.seq (.reg [⟨some 28, .mov (.t 9), none⟩,
     ⟨some 29, .mov (.t 1), none⟩,
     ⟨some 30, .bin .geq (.t 28) (.t 29), none⟩,
     ⟨some 8, .mov (.t 30), none⟩])
  .ret))))) k st Q := rfl
def kz110 (_ : Nat) : List Nat := [0, 4, 5, 6, 7, 8, 10, 11, 12, 14, 15, 16, 17, 18, 19, 20, 21, 22, 23, 24, 25, 26, 27, 28, 29, 30]
def allV (p : Nat → Bool) (lo hi : Nat) (l : List UInt8) : Bool := decide (lo ≤ (rns l).length) && (decide ((rns l).length ≤ hi) && (rns l).all p)
def allX (f : FuncId) (p : Nat → Bool) (g : FuncId) (a : List V) : Option V := bif Nat.beq g f then (match a with | [.i .i32 (Int.ofNat n)] => some (.b (p n)) | _ => none) else none
theorem allX_eq (f : FuncId) (p : Nat → Bool) (n : Nat) : allX f p f [.i .i32 n] = some (.b (p n)) := by unfold allX; simp only [nat_beq, decide_true, cond_true]

def allQ (p : Nat → Bool) (lo hi n : Nat) (l : List UInt8) : Bool := decide (lo ≤ n + (rns l).length) && (decide (n + (rns l).length ≤ hi) && (rns l).all p)
theorem w_all_loop (f : FuncId) (p : Nat → Bool) (lo hi : Nat) (hh : hi < 4611686018427387904) (gl : Nat → List V) : ∀ (l : List UInt8) (n pos : Nat), n ≤ hi →
    M (allX f p) (kz110) (.code L110_1) (.loop L110_1 :: K110_1) ⟨gl, (.node (.node (.node (.node (.node .leaf .any .leaf) .any (.node .leaf .any .leaf)) (.fn f [] []) (.node (.node .leaf .any .leaf) .any (.node .leaf .any .leaf))) (.i .i64 lo) (.node (.node (.node .leaf .any .leaf) (.i .i64 n) (.node .leaf .any .leaf)) .any (.node (.node .leaf .any .leaf) (.it) (.node .leaf .any .leaf)))) .any (.node (.node (.node (.node .leaf .any .leaf) .any (.node .leaf .any .leaf)) .any (.node (.node .leaf .any .leaf) .any (.node .leaf .any .leaf))) (.i .i64 hi) (.node (.node (.node .leaf .any .leaf) .any (.node .leaf .any .leaf)) .any (.node (.node .leaf .any .leaf) .any (.node .leaf .any .leaf))))), [(13, (l, pos))], [], {}⟩ (Fin [.tmp 8] (.b (allQ p lo hi n l))) := by
  intro l
  induction l using rune_ind with
  | h0 =>
    intro n pos hn
    rw [U110_1]
    simp only [K110_1, go_sem, ne_eq, not_false_eq_true, reduceIte, Nat.reduceMul, Nat.reduceAdd, Nat.reduceSub, Nat.reduceEqDiff, Nat.reduceLeDiff, Nat.reduceLT, List.take_succ_cons, List.take_zero, List.drop_succ_cons, List.cons_append]
    simp [allQ, rns_nil, hn]
  | h1 a r ih =>
    intro n pos hn
    have e : wr .i64 ((n : Int) + 1) = ((n + 1 : Nat) : Int) := by rw [wr64] <;> omega
    rw [U110_1]
    simp only [e, go_sem, ne_eq, not_false_eq_true, reduceIte, Nat.reduceMul, Nat.reduceAdd, Nat.reduceSub, Nat.reduceEqDiff, Nat.reduceLeDiff, Nat.reduceLT, List.take_succ_cons, List.take_zero, List.drop_succ_cons, List.cons_append]
    refine G_split _ _ _ _ _ ?_ ?_ <;> intro h1 <;> simp only [h1, allX_eq, go_sem, ne_eq, not_false_eq_true, reduceIte, Nat.reduceMul, Nat.reduceAdd, Nat.reduceSub, Nat.reduceEqDiff, Nat.reduceLeDiff, Nat.reduceLT, List.take_succ_cons, List.take_zero, List.drop_succ_cons, List.cons_append]
    · simp only [K110_1, go_sem, ne_eq, not_false_eq_true, reduceIte, Nat.reduceMul, Nat.reduceAdd, Nat.reduceSub, Nat.reduceEqDiff, Nat.reduceLeDiff, Nat.reduceLT, List.take_succ_cons, List.take_zero, List.drop_succ_cons, List.cons_append]
      simp only [decide_eq_true_eq] at h1
      simp only [allQ, rns_cons, List.length_cons]
      rw [decide_eq_false (p := n + _ ≤ hi) (by omega)]
      simp
    · refine B_split _ _ _ ?_ ?_ <;> intro h2 <;> simp only [h2, go_sem, ne_eq, not_false_eq_true, reduceIte, Nat.reduceMul, Nat.reduceAdd, Nat.reduceSub, Nat.reduceEqDiff, Nat.reduceLeDiff, Nat.reduceLT, List.take_succ_cons, List.take_zero, List.drop_succ_cons, List.cons_append]
      · simp only [K110_1, go_sem, ne_eq, not_false_eq_true, reduceIte, Nat.reduceMul, Nat.reduceAdd, Nat.reduceSub, Nat.reduceEqDiff, Nat.reduceLeDiff, Nat.reduceLT, List.take_succ_cons, List.take_zero, List.drop_succ_cons, List.cons_append]
        simp only [Bool.not_eq_true'] at h2
        simp [allQ, rns_cons, h2]
      · rw [M_loop]
        simp only [kz110, go_sem, ne_eq, not_false_eq_true, reduceIte, Nat.reduceMul, Nat.reduceAdd, Nat.reduceSub, Nat.reduceEqDiff, Nat.reduceLeDiff, Nat.reduceLT, List.take_succ_cons, List.take_zero, List.drop_succ_cons, List.cons_append]
        simp only [Bool.not_eq_false'] at h2
        simp only [decide_eq_false_iff_not] at h1
        rw [show allQ p lo hi n (a :: r) = allQ p lo hi (n + 1) ((a :: r).drop (dec (a :: r)).2) from by
          simp only [allQ, rns_cons, List.length_cons, List.all_cons, h2, Bool.true_and]
          simp only [Nat.add_assoc, Nat.add_comm 1]]
        exact ih (n + 1) _ (by omega)
theorem w_all (f : FuncId) (p : Nat → Bool) (lo hi : Nat) (hh : hi < 4611686018427387904) (l : List UInt8) (gl : Nat → List V) :
    M (allX f p) (kz110) (.code B110) [] (St.init gl 5 [.s l, .i .i64 lo, .i .i64 hi, .fn f [] []] {}) (Fin [.tmp 8] (.b (allV p lo hi l))) := by
  rw [U110]
  simp only [go_sem, ne_eq, not_false_eq_true, reduceIte, Nat.reduceMul, Nat.reduceAdd, Nat.reduceSub, Nat.reduceEqDiff, Nat.reduceLeDiff, Nat.reduceLT, List.take_succ_cons, List.take_zero, List.drop_succ_cons, List.cons_append]
  rw [M_loop]
  simp only [kz110, go_sem, ne_eq, not_false_eq_true, reduceIte, Nat.reduceMul, Nat.reduceAdd, Nat.reduceSub, Nat.reduceEqDiff, Nat.reduceLeDiff, Nat.reduceLT, List.take_succ_cons, List.take_zero, List.drop_succ_cons, List.cons_append]
  rw [show allV p lo hi l = allQ p lo hi 0 l from by simp [allV, allQ]]
  exact w_all_loop f p lo hi hh gl l 0 0 (by omega)

theorem c_plain (n : Nat) : Comp tabx told 111 [.i .i32 n] (.b (plain n)) := comp_of tells_noX (fn := af111) rfl (Nat.le_of_ble_eq_true rfl) fun gl => w_plain n gl
theorem c_letter (n : Nat) : Comp tabx told 112 [.i .i32 n] (.b (letter n)) := comp_of tells_noX (fn := af112) rfl (Nat.le_of_ble_eq_true rfl) fun gl => w_tletter n gl
theorem tells_all {f : FuncId} {p : Nat → Bool} (h : ∀ n : Nat, Comp tabx told f [.i .i32 n] (.b (p n))) : Tells tabx told (allX f p) := by
  intro g a v e
  unfold allX at e
  cases hb : Nat.beq g f with
  | false => rw [hb] at e; cases e
  | true =>
    rw [hb] at e
    have := Nat.eq_of_beq_eq_true hb
    subst this
    simp only [cond_true] at e
    split at e
    · rename_i n
      cases e
      exact h n
    · cases e
theorem c_all {f : FuncId} {p : Nat → Bool} (h : ∀ n : Nat, Comp tabx told f [.i .i32 n] (.b (p n))) (lo hi : Nat) (hh : hi < 4611686018427387904) (l : List UInt8) :
    Comp tabx told 110 [.s l, .i .i64 lo, .i .i64 hi, .fn f [] []] (.b (allV p lo hi l)) := comp_of (tells_all h) (fn := af110) rfl (Nat.le_of_ble_eq_true rfl) fun gl => w_all f p lo hi hh l gl

/-! ### text.Key, Value, Name -/
def F_all (a : List V) : Option V := match a with
  | [.s l, .i .i64 1, .i .i64 24, .fn 111 [] []] => some (.b (allV plain 1 24 l))
  | [.s l, .i .i64 0, .i .i64 48, .fn 111 [] []] => some (.b (allV plain 0 48 l))
  | [.s l, .i .i64 1, .i .i64 8, .fn 112 [] []] => some (.b (allV letter 1 8 l))
  | _ => none
theorem F_all1 (l : List UInt8) : F_all [.s l, .i .i64 1, .i .i64 24, .fn 111 [] []] = some (.b (allV plain 1 24 l)) := rfl
theorem F_all2 (l : List UInt8) : F_all [.s l, .i .i64 0, .i .i64 48, .fn 111 [] []] = some (.b (allV plain 0 48 l)) := rfl
theorem F_all3 (l : List UInt8) : F_all [.s l, .i .i64 1, .i .i64 8, .fn 112 [] []] = some (.b (allV letter 1 8 l)) := rfl
def X_all := xs [(110, F_all)]
theorem t_all : Tells tabx told X_all := tells_cons (fun a v e => by
  unfold F_all at e
  split at e
  · cases e; exact c_all c_plain 1 24 (by decide) _
  · cases e; exact c_all c_plain 0 48 (by decide) _
  · cases e; exact c_all c_letter 1 8 (by decide) _
  · cases e) tells_nil
def errV (b : Bool) (n : Int) : Int := bif b then 0 else n

theorem U90 {xf : FuncId → List V → Option V} {kz : Nat → List Nat} {k : List Fr} {st : St} {Q : AEx → St → Prop} : M xf kz (.code B90) k st Q = M xf kz (.code (.seq (.reg [⟨some 2, .mov (.k (.i .i64 0)), none⟩])
  (.seq (.seq (.reg [⟨some 3, .mov (.t 0), none⟩,
      ⟨some 4, .call true 110 [(.t 3), (.k (.i .i64 1)), (.k (.i .i64 24)), (.f 111)], none⟩,
      ⟨some 5, .un .not (.t 4), none⟩])
   (.cond (.t 5)
    (.seq (.reg [⟨some 2, .mov (.k (.i .i64 20)), none⟩])
    .ret)
    .skip))
  (.seq (.reg [⟨some 2, .mov (.k (.i .i64 0)), none⟩])
  .ret)))) k st Q := rfl
def kz90 (_ : Nat) : List Nat := []
theorem w_Key (l : List UInt8) (gl : Nat → List V) : M X_all (kz90) (.code B90) [] (St.init gl 3 [.s l] {}) (Fin [.tmp 2] (.i .i64 (errV (allV plain 1 24 l) 20))) := by
  rw [U90]
  simp only [X_all, F_all1, go_sem, ne_eq, not_false_eq_true, reduceIte, Nat.reduceMul, Nat.reduceAdd, Nat.reduceSub, Nat.reduceEqDiff, Nat.reduceLeDiff, Nat.reduceLT, List.take_succ_cons, List.take_zero, List.drop_succ_cons, List.cons_append]
  refine B_split _ _ _ ?_ ?_ <;> intro h <;> simp only [h, go_sem, ne_eq, not_false_eq_true, reduceIte, Nat.reduceMul, Nat.reduceAdd, Nat.reduceSub, Nat.reduceEqDiff, Nat.reduceLeDiff, Nat.reduceLT, List.take_succ_cons, List.take_zero, List.drop_succ_cons, List.cons_append]
  · simp only [Bool.not_eq_true'] at h
    simp [errV, h]
  · simp only [Bool.not_eq_false'] at h
    simp [errV, h]
theorem c_Key (l : List UInt8) : Comp tabx told 90 [.s l] (.i .i64 (errV (allV plain 1 24 l) 20)) := comp_of t_all (fn := af90) rfl (Nat.le_of_ble_eq_true rfl) fun gl => w_Key l gl

theorem U92 {xf : FuncId → List V → Option V} {kz : Nat → List Nat} {k : List Fr} {st : St} {Q : AEx → St → Prop} : M xf kz (.code B92) k st Q = M xf kz (.code (.seq (.reg [⟨some 2, .mov (.k (.i .i64 0)), none⟩])
  (.seq (.seq (.reg [⟨some 3, .mov (.t 0), none⟩,
      ⟨some 4, .call true 110 [(.t 3), (.k (.i .i64 0)), (.k (.i .i64 48)), (.f 111)], none⟩,
      ⟨some 5, .un .not (.t 4), none⟩])
   (.cond (.t 5)
    (.seq (.reg [⟨some 2, .mov (.k (.i .i64 21)), none⟩])
    .ret)
    .skip))
  (.seq (.reg [⟨some 2, .mov (.k (.i .i64 0)), none⟩])
  .ret)))) k st Q := rfl
def kz92 (_ : Nat) : List Nat := []
theorem w_Value (l : List UInt8) (gl : Nat → List V) : M X_all (kz92) (.code B92) [] (St.init gl 3 [.s l] {}) (Fin [.tmp 2] (.i .i64 (errV (allV plain 0 48 l) 21))) := by
  rw [U92]
  simp only [X_all, F_all2, go_sem, ne_eq, not_false_eq_true, reduceIte, Nat.reduceMul, Nat.reduceAdd, Nat.reduceSub, Nat.reduceEqDiff, Nat.reduceLeDiff, Nat.reduceLT, List.take_succ_cons, List.take_zero, List.drop_succ_cons, List.cons_append]
  refine B_split _ _ _ ?_ ?_ <;> intro h <;> simp only [h, go_sem, ne_eq, not_false_eq_true, reduceIte, Nat.reduceMul, Nat.reduceAdd, Nat.reduceSub, Nat.reduceEqDiff, Nat.reduceLeDiff, Nat.reduceLT, List.take_succ_cons, List.take_zero, List.drop_succ_cons, List.cons_append]
  · simp only [Bool.not_eq_true'] at h
    simp [errV, h]
  · simp only [Bool.not_eq_false'] at h
    simp [errV, h]
theorem c_Value (l : List UInt8) : Comp tabx told 92 [.s l] (.i .i64 (errV (allV plain 0 48 l) 21)) := comp_of t_all (fn := af92) rfl (Nat.le_of_ble_eq_true rfl) fun gl => w_Value l gl

theorem U91 {xf : FuncId → List V → Option V} {kz : Nat → List Nat} {k : List Fr} {st : St} {Q : AEx → St → Prop} : M xf kz (.code B91) k st Q = M xf kz (.code (.seq (.reg [⟨some 2, .mov (.k (.i .i64 0)), none⟩])
  (.seq (.seq (.reg [⟨some 3, .mov (.t 0), none⟩,
      ⟨some 4, .call true 110 [(.t 3), (.k (.i .i64 1)), (.k (.i .i64 8)), (.f 112)], none⟩,
      ⟨some 5, .un .not (.t 4), none⟩])
   (.cond (.t 5)
    (.seq (.reg [⟨some 2, .mov (.k (.i .i64 22)), none⟩])
    .ret)
    .skip))
  (.seq (.reg [⟨some 2, .mov (.k (.i .i64 0)), none⟩])
  .ret)))) k st Q := rfl
def kz91 (_ : Nat) : List Nat := []
theorem w_Name (l : List UInt8) (gl : Nat → List V) : M X_all (kz91) (.code B91) [] (St.init gl 3 [.s l] {}) (Fin [.tmp 2] (.i .i64 (errV (allV letter 1 8 l) 22))) := by
  rw [U91]
  simp only [X_all, F_all3, go_sem, ne_eq, not_false_eq_true, reduceIte, Nat.reduceMul, Nat.reduceAdd, Nat.reduceSub, Nat.reduceEqDiff, Nat.reduceLeDiff, Nat.reduceLT, List.take_succ_cons, List.take_zero, List.drop_succ_cons, List.cons_append]
  refine B_split _ _ _ ?_ ?_ <;> intro h <;> simp only [h, go_sem, ne_eq, not_false_eq_true, reduceIte, Nat.reduceMul, Nat.reduceAdd, Nat.reduceSub, Nat.reduceEqDiff, Nat.reduceLeDiff, Nat.reduceLT, List.take_succ_cons, List.take_zero, List.drop_succ_cons, List.cons_append]
  · simp only [Bool.not_eq_true'] at h
    simp [errV, h]
  · simp only [Bool.not_eq_false'] at h
    simp [errV, h]
theorem c_Name (l : List UInt8) : Comp tabx told 91 [.s l] (.i .i64 (errV (allV letter 1 8 l) 22)) := comp_of t_all (fn := af91) rfl (Nat.le_of_ble_eq_true rfl) fun gl => w_Name l gl
end Go.Proofs.YtbhclhgljnoioaaDoor
