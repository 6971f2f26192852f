/- Keys, values and names: what the program's functions and the document's compute. -/
import Derived.Test.YtbhclhgljnoioaaDoorPs6
import Derived.Test.YtbhclhgljnoioaaDoorLg7
import Derived.Lib.Join
set_option linter.unusedSimpArgs false
set_option linter.unusedVariables false
namespace Go.Proofs.YtbhclhgljnoioaaDoor
open Ai

def plain (n : Nat) : Bool := decide ((32 : Int) ≤ n) && (!decide ((n : Int) = 127) && !decide ((n : Int) = 65533))
def letter (n : Nat) : Bool := decide ((97 : Int) ≤ n) && decide ((n : Int) ≤ 122)

theorem U111 : type_of% (@M_open _ _ B111.eq_1) := @M_open _ _ B111.eq_1
def kz111 (_ : Nat) : List Nat := []
theorem w_plain (n : Nat) (gl : Nat → List V) : M noX (kz111) (.code B111) [] (St.init gl 4 [.i .i32 n] {}) (Fin [.tmp 2] (.b (plain n))) := by
  rw [U111]
  simp only [go_sem, ne_eq, not_false_eq_true, reduceIte, Nat.reduceMul, Nat.reduceAdd, Nat.reduceSub, Nat.reduceEqDiff, Nat.reduceLeDiff, Nat.reduceLT, List.take_succ_cons, List.take_zero, List.drop_succ_cons, List.cons_append]
  refine G_split _ _ _ _ _ ?_ ?_ <;> intro h1 <;> simp only [h1, go_sem, ne_eq, not_false_eq_true, reduceIte, Nat.reduceMul, Nat.reduceAdd, Nat.reduceSub, Nat.reduceEqDiff, Nat.reduceLeDiff, Nat.reduceLT, List.take_succ_cons, List.take_zero, List.drop_succ_cons, List.cons_append]
  · refine G_split _ _ _ _ _ ?_ ?_ <;> intro h2 <;> simp only [h2, go_sem, ne_eq, not_false_eq_true, reduceIte, Nat.reduceMul, Nat.reduceAdd, Nat.reduceSub, Nat.reduceEqDiff, Nat.reduceLeDiff, Nat.reduceLT, List.take_succ_cons, List.take_zero, List.drop_succ_cons, List.cons_append]
    · simp only [plain, h1, h2, Bool.true_and]
    · simp only [plain, h1, h2, Bool.true_and, Bool.false_and]
  · simp only [plain, h1, Bool.false_and]

theorem U112 : type_of% (@M_open _ _ B112.eq_1) := @M_open _ _ B112.eq_1
def kz112 (_ : Nat) : List Nat := []
theorem w_tletter (n : Nat) (gl : Nat → List V) : M noX (kz112) (.code B112) [] (St.init gl 4 [.i .i32 n] {}) (Fin [.tmp 2] (.b (letter n))) := by
  rw [U112]
  simp only [go_sem, ne_eq, not_false_eq_true, reduceIte, Nat.reduceMul, Nat.reduceAdd, Nat.reduceSub, Nat.reduceEqDiff, Nat.reduceLeDiff, Nat.reduceLT, List.take_succ_cons, List.take_zero, List.drop_succ_cons, List.cons_append]
  refine G_split _ _ _ _ _ ?_ ?_ <;> intro h1 <;> simp only [h1, go_sem, ne_eq, not_false_eq_true, reduceIte, Nat.reduceMul, Nat.reduceAdd, Nat.reduceSub, Nat.reduceEqDiff, Nat.reduceLeDiff, Nat.reduceLT, List.take_succ_cons, List.take_zero, List.drop_succ_cons, List.cons_append]
  · simp only [letter, h1, Bool.true_and]
  · simp only [letter, h1, Bool.false_and]

def K110_1 : List Fr := [.blk 0,
 .seq (.seq (.reg [⟨some 28, .mov (.t 9), none⟩, ⟨some 29, .mov (.t 1), none⟩, ⟨some 30, .bin .geq (.t 28) (.t 29), none⟩, ⟨some 8, .mov (.t 30), none⟩])
 .ret)]
theorem U110_1 : type_of% (@M_open _ _ L110_1.eq_1) := @M_open _ _ L110_1.eq_1
theorem U110 : type_of% (@M_open _ _ B110.eq_1) := @M_open _ _ B110.eq_1
def kz110 (_ : Nat) : List Nat := [0, 4, 5, 6, 7, 8, 10, 11, 12, 14, 15, 16, 17, 18, 19, 20, 21, 22, 23, 24, 25, 26, 27, 28, 29, 30]
def allV (p : Nat → Bool) (lo hi : Nat) (l : List UInt8) : Bool := decide (lo ≤ (rns l).length) && (decide ((rns l).length ≤ hi) && (rns l).all p)
def allX (f : FuncId) (p : Nat → Bool) (g : FuncId) (a : List V) : Option V := bif Nat.beq g f then (match a with | [.i .i32 (Int.ofNat n)] => some (.b (p n)) | _ => none) else none
theorem allX_eq (f : FuncId) (p : Nat → Bool) (n : Nat) : allX f p f [.i .i32 n] = some (.b (p n)) := by unfold allX; simp only [nat_beq, decide_true, cond_true]

def allQ (p : Nat → Bool) (lo hi n : Nat) (l : List UInt8) : Bool := decide (lo ≤ n + (rns l).length) && (decide (n + (rns l).length ≤ hi) && (rns l).all p)
theorem w_all_loop (f : FuncId) (p : Nat → Bool) (lo hi : Nat) (hh : hi < 4611686018427387904) (gl : Nat → List V) : ∀ (l : List UInt8) (n pos : Nat), n ≤ hi →
    M (allX f p) (kz110) (.code L110_1) (.loop L110_1 :: K110_1) ⟨gl, (.node (.node (.node (.node (.node .leaf .any .leaf) .any (.node .leaf .any .leaf)) (.fn f [] []) (.node (.node .leaf .any .leaf) .any (.node .leaf .any .leaf))) (.i .i64 lo) (.node (.node (.node .leaf .any .leaf) (.i .i64 n) (.node .leaf .any .leaf)) .any (.node (.node .leaf .any .leaf) (.it) (.node .leaf .any .leaf)))) .any (.node (.node (.node (.node .leaf .any .leaf) .any (.node .leaf .any .leaf)) .any (.node (.node .leaf .any .leaf) .any (.node .leaf .any .leaf))) (.i .i64 hi) (.node (.node (.node .leaf .any .leaf) .any (.node .leaf .any .leaf)) .any (.node (.node .leaf .any .leaf) .any (.node .leaf .any .leaf))))), [(13, (l, pos))], [], {}⟩ (Fin [.tmp 8] (.b (allQ p lo hi n l))) := by
  intro l
  induction l using rune_ind with
  | h0 =>
    intro n pos hn
    rw [U110_1]
    simp only [K110_1, go_sem, ne_eq, not_false_eq_true, reduceIte, Nat.reduceMul, Nat.reduceAdd, Nat.reduceSub, Nat.reduceEqDiff, Nat.reduceLeDiff, Nat.reduceLT, List.take_succ_cons, List.take_zero, List.drop_succ_cons, List.cons_append]
    simp [allQ, rns_nil, hn]
  | h1 a r ih =>
    intro n pos hn
    have e : wr .i64 ((n : Int) + 1) = ((n + 1 : Nat) : Int) := by rw [wr64] <;> omega
    rw [U110_1]
    simp only [e, go_sem, ne_eq, not_false_eq_true, reduceIte, Nat.reduceMul, Nat.reduceAdd, Nat.reduceSub, Nat.reduceEqDiff, Nat.reduceLeDiff, Nat.reduceLT, List.take_succ_cons, List.take_zero, List.drop_succ_cons, List.cons_append]
    refine G_split _ _ _ _ _ ?_ ?_ <;> intro h1 <;> simp only [h1, allX_eq, go_sem, ne_eq, not_false_eq_true, reduceIte, Nat.reduceMul, Nat.reduceAdd, Nat.reduceSub, Nat.reduceEqDiff, Nat.reduceLeDiff, Nat.reduceLT, List.take_succ_cons, List.take_zero, List.drop_succ_cons, List.cons_append]
    · simp only [K110_1, go_sem, ne_eq, not_false_eq_true, reduceIte, Nat.reduceMul, Nat.reduceAdd, Nat.reduceSub, Nat.reduceEqDiff, Nat.reduceLeDiff, Nat.reduceLT, List.take_succ_cons, List.take_zero, List.drop_succ_cons, List.cons_append]
      simp only [decide_eq_true_eq] at h1
      simp only [allQ, rns_cons, List.length_cons]
      rw [decide_eq_false (p := n + _ ≤ hi) (by omega)]
      simp
    · refine B_split _ _ _ ?_ ?_ <;> intro h2 <;> simp only [h2, go_sem, ne_eq, not_false_eq_true, reduceIte, Nat.reduceMul, Nat.reduceAdd, Nat.reduceSub, Nat.reduceEqDiff, Nat.reduceLeDiff, Nat.reduceLT, List.take_succ_cons, List.take_zero, List.drop_succ_cons, List.cons_append]
      · simp only [K110_1, go_sem, ne_eq, not_false_eq_true, reduceIte, Nat.reduceMul, Nat.reduceAdd, Nat.reduceSub, Nat.reduceEqDiff, Nat.reduceLeDiff, Nat.reduceLT, List.take_succ_cons, List.take_zero, List.drop_succ_cons, List.cons_append]
        simp only [Bool.not_eq_true'] at h2
        simp [allQ, rns_cons, h2]
      · rw [M_loop]
        simp only [kz110, go_sem, ne_eq, not_false_eq_true, reduceIte, Nat.reduceMul, Nat.reduceAdd, Nat.reduceSub, Nat.reduceEqDiff, Nat.reduceLeDiff, Nat.reduceLT, List.take_succ_cons, List.take_zero, List.drop_succ_cons, List.cons_append]
        simp only [Bool.not_eq_false'] at h2
        simp only [decide_eq_false_iff_not] at h1
        rw [show allQ p lo hi n (a :: r) = allQ p lo hi (n + 1) ((a :: r).drop (dec (a :: r)).2) from by
          simp only [allQ, rns_cons, List.length_cons, List.all_cons, h2, Bool.true_and]
          simp only [Nat.add_assoc, Nat.add_comm 1]]
        exact ih (n + 1) _ (by omega)
theorem w_all (f : FuncId) (p : Nat → Bool) (lo hi : Nat) (hh : hi < 4611686018427387904) (l : List UInt8) (gl : Nat → List V) :
    M (allX f p) (kz110) (.code B110) [] (St.init gl 5 [.s l, .i .i64 lo, .i .i64 hi, .fn f [] []] {}) (Fin [.tmp 8] (.b (allV p lo hi l))) := by
  rw [U110]
  simp only [go_sem, ne_eq, not_false_eq_true, reduceIte, Nat.reduceMul, Nat.reduceAdd, Nat.reduceSub, Nat.reduceEqDiff, Nat.reduceLeDiff, Nat.reduceLT, List.take_succ_cons, List.take_zero, List.drop_succ_cons, List.cons_append]
  rw [M_loop]
  simp only [kz110, go_sem, ne_eq, not_false_eq_true, reduceIte, Nat.reduceMul, Nat.reduceAdd, Nat.reduceSub, Nat.reduceEqDiff, Nat.reduceLeDiff, Nat.reduceLT, List.take_succ_cons, List.take_zero, List.drop_succ_cons, List.cons_append]
  rw [show allV p lo hi l = allQ p lo hi 0 l from by simp [allV, allQ]]
  exact w_all_loop f p lo hi hh gl l 0 0 (by omega)

theorem c_plain (n : Nat) : Comp tabx told 111 [.i .i32 n] (.b (plain n)) := comp_of tells_noX (fn := af111) rfl (Nat.le_of_ble_eq_true rfl) fun gl => w_plain n gl
theorem c_letter (n : Nat) : Comp tabx told 112 [.i .i32 n] (.b (letter n)) := comp_of tells_noX (fn := af112) rfl (Nat.le_of_ble_eq_true rfl) fun gl => w_tletter n gl
theorem tells_all {f : FuncId} {p : Nat → Bool} (h : ∀ n : Nat, Comp tabx told f [.i .i32 n] (.b (p n))) : Tells tabx told (allX f p) := by
  intro g a v e
  unfold allX at e
  cases hb : Nat.beq g f with
  | false => rw [hb] at e; cases e
  | true =>
    rw [hb] at e
    have := Nat.eq_of_beq_eq_true hb
    subst this
    simp only [cond_true] at e
    split at e
    · rename_i n
      cases e
      exact h n
    · cases e
theorem c_all {f : FuncId} {p : Nat → Bool} (h : ∀ n : Nat, Comp tabx told f [.i .i32 n] (.b (p n))) (lo hi : Nat) (hh : hi < 4611686018427387904) (l : List UInt8) :
    Comp tabx told 110 [.s l, .i .i64 lo, .i .i64 hi, .fn f [] []] (.b (allV p lo hi l)) := comp_of (tells_all h) (fn := af110) rfl (Nat.le_of_ble_eq_true rfl) fun gl => w_all f p lo hi hh l gl

/-! ### text.Key, Value, Name -/
def F_all (a : List V) : Option V := match a with
  | [.s l, .i .i64 1, .i .i64 24, .fn 111 [] []] => some (.b (allV plain 1 24 l))
  | [.s l, .i .i64 0, .i .i64 48, .fn 111 [] []] => some (.b (allV plain 0 48 l))
  | [.s l, .i .i64 1, .i .i64 8, .fn 112 [] []] => some (.b (allV letter 1 8 l))
  | _ => none
theorem F_all1 (l : List UInt8) : F_all [.s l, .i .i64 1, .i .i64 24, .fn 111 [] []] = some (.b (allV plain 1 24 l)) := rfl
theorem F_all2 (l : List UInt8) : F_all [.s l, .i .i64 0, .i .i64 48, .fn 111 [] []] = some (.b (allV plain 0 48 l)) := rfl
theorem F_all3 (l : List UInt8) : F_all [.s l, .i .i64 1, .i .i64 8, .fn 112 [] []] = some (.b (allV letter 1 8 l)) := rfl
def X_all := xs [(110, F_all)]
theorem t_all : Tells tabx told X_all := tells_cons (fun a v e => by
  unfold F_all at e
  split at e
  · cases e; exact c_all c_plain 1 24 (by decide) _
  · cases e; exact c_all c_plain 0 48 (by decide) _
  · cases e; exact c_all c_letter 1 8 (by decide) _
  · cases e) tells_nil
def errV (b : Bool) (n : Int) : Int := bif b then 0 else n

theorem U90 : type_of% (@M_open _ _ B90.eq_1) := @M_open _ _ B90.eq_1
def kz90 (_ : Nat) : List Nat := []
theorem w_Key (l : List UInt8) (gl : Nat → List V) : M X_all (kz90) (.code B90) [] (St.init gl 3 [.s l] {}) (Fin [.tmp 2] (.i .i64 (errV (allV plain 1 24 l) 20))) := by
  rw [U90]
  simp only [X_all, F_all1, go_sem, ne_eq, not_false_eq_true, reduceIte, Nat.reduceMul, Nat.reduceAdd, Nat.reduceSub, Nat.reduceEqDiff, Nat.reduceLeDiff, Nat.reduceLT, List.take_succ_cons, List.take_zero, List.drop_succ_cons, List.cons_append]
  refine B_split _ _ _ ?_ ?_ <;> intro h <;> simp only [h, go_sem, ne_eq, not_false_eq_true, reduceIte, Nat.reduceMul, Nat.reduceAdd, Nat.reduceSub, Nat.reduceEqDiff, Nat.reduceLeDiff, Nat.reduceLT, List.take_succ_cons, List.take_zero, List.drop_succ_cons, List.cons_append]
  · simp only [Bool.not_eq_true'] at h
    simp [errV, h]
  · simp only [Bool.not_eq_false'] at h
    simp [errV, h]
theorem c_Key (l : List UInt8) : Comp tabx told 90 [.s l] (.i .i64 (errV (allV plain 1 24 l) 20)) := comp_of t_all (fn := af90) rfl (Nat.le_of_ble_eq_true rfl) fun gl => w_Key l gl

theorem U92 : type_of% (@M_open _ _ B92.eq_1) := @M_open _ _ B92.eq_1
def kz92 (_ : Nat) : List Nat := []
theorem w_Value (l : List UInt8) (gl : Nat → List V) : M X_all (kz92) (.code B92) [] (St.init gl 3 [.s l] {}) (Fin [.tmp 2] (.i .i64 (errV (allV plain 0 48 l) 21))) := by
  rw [U92]
  simp only [X_all, F_all2, go_sem, ne_eq, not_false_eq_true, reduceIte, Nat.reduceMul, Nat.reduceAdd, Nat.reduceSub, Nat.reduceEqDiff, Nat.reduceLeDiff, Nat.reduceLT, List.take_succ_cons, List.take_zero, List.drop_succ_cons, List.cons_append]
  refine B_split _ _ _ ?_ ?_ <;> intro h <;> simp only [h, go_sem, ne_eq, not_false_eq_true, reduceIte, Nat.reduceMul, Nat.reduceAdd, Nat.reduceSub, Nat.reduceEqDiff, Nat.reduceLeDiff, Nat.reduceLT, List.take_succ_cons, List.take_zero, List.drop_succ_cons, List.cons_append]
  · simp only [Bool.not_eq_true'] at h
    simp [errV, h]
  · simp only [Bool.not_eq_false'] at h
    simp [errV, h]
theorem c_Value (l : List UInt8) : Comp tabx told 92 [.s l] (.i .i64 (errV (allV plain 0 48 l) 21)) := comp_of t_all (fn := af92) rfl (Nat.le_of_ble_eq_true rfl) fun gl => w_Value l gl

theorem U91 : type_of% (@M_open _ _ B91.eq_1) := @M_open _ _ B91.eq_1
def kz91 (_ : Nat) : List Nat := []
theorem w_Name (l : List UInt8) (gl : Nat → List V) : M X_all (kz91) (.code B91) [] (St.init gl 3 [.s l] {}) (Fin [.tmp 2] (.i .i64 (errV (allV letter 1 8 l) 22))) := by
  rw [U91]
  simp only [X_all, F_all3, go_sem, ne_eq, not_false_eq_true, reduceIte, Nat.reduceMul, Nat.reduceAdd, Nat.reduceSub, Nat.reduceEqDiff, Nat.reduceLeDiff, Nat.reduceLT, List.take_succ_cons, List.take_zero, List.drop_succ_cons, List.cons_append]
  refine B_split _ _ _ ?_ ?_ <;> intro h <;> simp only [h, go_sem, ne_eq, not_false_eq_true, reduceIte, Nat.reduceMul, Nat.reduceAdd, Nat.reduceSub, Nat.reduceEqDiff, Nat.reduceLeDiff, Nat.reduceLT, List.take_succ_cons, List.take_zero, List.drop_succ_cons, List.cons_append]
  · simp only [Bool.not_eq_true'] at h
    simp [errV, h]
  · simp only [Bool.not_eq_false'] at h
    simp [errV, h]
theorem c_Name (l : List UInt8) : Comp tabx told 91 [.s l] (.i .i64 (errV (allV letter 1 8 l) 22)) := comp_of t_all (fn := af91) rfl (Nat.le_of_ble_eq_true rfl) fun gl => w_Name l gl
end Go.Proofs.YtbhclhgljnoioaaDoor
set_option linter.unusedSimpArgs false
set_option linter.unusedVariables false
namespace Go.Proofs.YtbhclhgljnoioaaDoor
open Ai

/-! ### The document's Name: byte by byte -/
/-! ### The law -/
def F_Key (a : List V) : Option V := match a with
  | [.s l] => some (.i .i64 (errV (allV plain 1 24 l) 20))
  | _ => none
def F_Value (a : List V) : Option V := match a with
  | [.s l] => some (.i .i64 (errV (allV plain 0 48 l) 21))
  | _ => none
def F_Name (a : List V) : Option V := match a with
  | [.s l] => some (.i .i64 (errV (allV letter 1 8 l) 22))
  | _ => none
theorem o_Key : ∀ a v, F_Key a = some v → Comp tabx told 90 a v := fun a v e => by
  unfold F_Key at e
  split at e <;> cases e
  exact c_Key _
theorem o_Value : ∀ a v, F_Value a = some v → Comp tabx told 92 a v := fun a v e => by
  unfold F_Value at e
  split at e <;> cases e
  exact c_Value _
theorem o_Name : ∀ a v, F_Name a = some v → Comp tabx told 91 a v := fun a v e => by
  unfold F_Name at e
  split at e <;> cases e
  exact c_Name _
end Go.Proofs.YtbhclhgljnoioaaDoor
set_option linter.unusedSimpArgs false
set_option linter.unusedVariables false
namespace Go.Proofs.YtbhclhgljnoioaaDoor
open Ai
mutual
theorem FilR.uniq : ∀ (f g : Fil) (c : List V), FilR f c → FilR g c → f = g
  | .mk k nm tx kids, g, c, h1, h2 => by
    cases h1 with | mk _ _ _ _ xs n tk hn hx =>
    cases h2 with | mk _ _ _ kids' _ _ _ hn' hx' =>
    rw [KidsR.uniq kids kids' xs hx hx']
theorem KidsR.uniq : ∀ (l m : List Fil) (xs : List V), KidsR l xs → KidsR m xs → l = m
  | [], m, xs, h1, h2 => by
    have e := h2.len
    cases h1
    cases m with
    | nil => rfl
    | cons g r => simp only [List.length_nil, List.length_cons] at e; omega
  | f :: r, m, xs, h1, h2 => by
    cases h1 with | cons _ _ c ys h3 h4 =>
    generalize he : c ++ ys = zs at h2
    cases h2 with
    | nil => have := h3.len; have := congrArg List.length he; simp only [List.length_append, List.length_nil] at this; omega
    | cons g r' c' ys' h5 h6 =>
      have hc : c = c' ∧ ys = ys' := List.append_inj he (by rw [h3.len, h5.len])
      obtain ⟨rfl, rfl⟩ := hc
      rw [FilR.uniq f g c h3 h5, KidsR.uniq r r' ys h4 h6]
end
def keyB (l : List UInt8) : Bool := allV plain 1 24 l
def valB (l : List UInt8) : Bool := allV plain 0 48 l
def namB (l : List UInt8) : Bool := allV letter 1 8 l
/-- May a part be, whatever its kids are? 'n': how many. -/
def mayB (k : Int) (nm tx : List UInt8) (n : Nat) : Bool :=
  if k = 0 ∨ k = 3 then decide (n = 0) && (decide (nm = []) && decide (tx = []))
  else if k = 1 then decide (n = 0) && (decide (nm = []) && keyB tx)
  else if k = 2 then decide (n = 0) && (namB nm && valB tx)
  else if k = 4 then decide (nm = []) && (decide (tx = []) && decide (n = 1))
  else if k = 5 ∨ k = 6 then decide (nm = []) && decide (tx = [])
  else false
mutual
/-- Whether a filter may be: the error, and how many parts were gone through. -/
def bld : Fil → Nat → Nat → Nat × Nat
  | .mk k nm tx kids, d, w => if 6 < d ∨ 24 < w + 1 then (51, w + 1) else if mayB k nm tx kids.length = false then (50, w + 1) else blds kids (d + 1) (w + 1)
def blds : List Fil → Nat → Nat → Nat × Nat
  | [], _, w => (0, w)
  | f :: r, d, w => if (bld f d w).1 = 0 then blds r d (bld f d w).2 else bld f d w
end
mutual
theorem bld_le : ∀ (f : Fil) (d w : Nat), w ≤ 24 → w ≤ (bld f d w).2 ∧ ((bld f d w).1 = 0 → (bld f d w).2 ≤ 24)
  | .mk k nm tx kids, d, w, h => by
    rw [bld]
    split
    · exact ⟨by simp only; omega, fun h => by simp only at h; omega⟩
    · split
      · exact ⟨by simp only; omega, fun h => by simp only at h; omega⟩
      · have := blds_le kids (d + 1) (w + 1) (by omega)
        exact ⟨by omega, this.2⟩
theorem blds_le : ∀ (l : List Fil) (d w : Nat), w ≤ 24 → w ≤ (blds l d w).2 ∧ ((blds l d w).1 = 0 → (blds l d w).2 ≤ 24)
  | [], d, w, h => by rw [blds]; exact ⟨Nat.le_refl _, fun _ => h⟩
  | f :: r, d, w, h => by
    rw [blds]
    have h1 := bld_le f d w h
    split
    · rename_i h0
      have h2 := blds_le r d (bld f d w).2 (h1.2 h0)
      exact ⟨by omega, h2.2⟩
    · exact h1
end
/-! ### The walk -/
def WB (h : H) (id w : Nat) : Prop := al h.objs id = some (.cells 3 [.i .i64 (w : Nat)])
def setW (h : H) (id w : Nat) : H := ⟨h.next, alSet h.objs id (.cells 3 [.i .i64 (w : Nat)]), h.nt, h.tips⟩
theorem WB.set (h : H) (id w : Nat) : WB (setW h id w) id w := al_alSet _ _ _
theorem WB.uniq {h : H} {id w w' : Nat} (h1 : WB h id w) (h2 : WB h id w') : w = w' := by
  have := h1.symm.trans h2
  simp only [Option.some.injEq, Ai.Obj.cells.injEq, List.cons.injEq, V.i.injEq, true_and, and_true] at this
  omega
theorem Hop.setW (h : H) (id w : Nat) : Hop h (setW h id w) id :=
  ⟨rfl, Nat.le_refl _, fun _ _ => rfl, fun j hj => by show al (alSet _ _ _) _ = _; rw [al_set, if_neg (fun h => hj h)]⟩
def isQ (t : Nat) : Bool := [132, 135, 137, 138, 142, 144, 145].contains t
def ResB (id : Nat) (h : H) (v : V) (h' : H) (q : Nat × Nat) : Prop := ∃ x, v = .tup [x, .i .i64 (q.1 : Nat)] ∧ ((q.1 = 0 ∧ ∃ t y, x = .ifc t y ∧ isQ t = true) ∨ (q.1 ≠ 0 ∧ x = .nili)) ∧ Hop h h' id ∧ WB h' id q.2
def R_build (id : Nat) (a : List V) (h : H) (v : V) (h' : H) : Prop := ∀ (f : Fil) (c : List V) (d w : Nat), a = [.agg c, .i .i64 (d : Nat), .p id 0] → FilR f c → WB h id w → ResB id h v h' (bld f d w)
def S_build (id D : Nat) : Prop := ∀ (f : Fil) (c : List V) (d w : Nat) (h : H), FilR f c → WB h id w → w ≤ 24 → 8 ≤ d + D → d ≤ 7 →
  ∃ v h', Hp.CompI tabx told 69 [.agg c, .i .i64 (d : Nat), .p id 0] h v h' ∧ ResB id h v h' (bld f d w)
noncomputable def Y_build (id : Nat) := ys [(69, pick 69 (R_build id))]
theorem t_build (id : Nat) : Hp.TellsI tabx told (Y_build id) := itells_cons pick_tells itells_nil
def X_build := xs [(90, F_Key), (92, F_Value), (91, F_Name)]
theorem x_build : Tells tabx told X_build := tells_cons o_Key (tells_cons o_Value (tells_cons o_Name tells_nil))
theorem call_build {id D : Nat} (S : S_build id D) {f : Fil} {c : List V} {d w : Nat} {h : H} (hf : FilR f c) (hw : WB h id w) (h1 : w ≤ 24) (h2 : 8 ≤ d + D) (h3 : d ≤ 7) :
    ∃ x h', Y_build id 69 [.agg c, .i .i64 (d : Nat), .p id 0] h = some (.tup [x, .i .i64 ((bld f d w).1 : Nat)], h') ∧ (((bld f d w).1 = 0 ∧ ∃ t y, x = .ifc t y ∧ isQ t = true) ∨ ((bld f d w).1 ≠ 0 ∧ x = .nili)) ∧ Hop h h' id ∧ WB h' id (bld f d w).2 := by
  obtain ⟨v, h', hc, hr⟩ := S f c d w h hf hw h1 h2 h3
  obtain ⟨v, h', e1, r1⟩ := pick_spec (R := R_build id) hc (by
    intro f' c' d' w' e1 hf' hw'
    simp only [List.cons.injEq, V.i.injEq, V.agg.injEq, true_and, and_true] at e1
    obtain ⟨e1, e2⟩ := e1
    have e2 : d = d' := by omega
    subst e1 e2
    rw [← FilR.uniq f f' c hf hf', ← hw.uniq hw']
    exact hr)
  obtain ⟨x, rfl, q1, q2, q3⟩ := r1 f c d w rfl hf hw
  exact ⟨x, h', e1, q1, q2, q3⟩
/-! Rows that are being built, of any type. -/
def TkH (h0 h : H) (ty m : Nat) (tk : Tk) : Prop := ∃ t, tk = .own t ∧ h0.nt ≤ t ∧ t < h.nt ∧ al h.tips t = some (m, ty)
theorem TkH.hop {h0 h h' : H} {ty m id : Nat} {tk : Tk} (g : TkH h0 h ty m tk) (hp : Hop h h' id) : TkH h0 h' ty m tk := by
  obtain ⟨t, g1, g2, g3, g4⟩ := g
  exact ⟨t, g1, g2, Nat.lt_of_lt_of_le g3 hp.nt, (hp.tips t g3).trans g4⟩
theorem app_tkH {h0 : H} {nx : Nat} {obs : List (Nat × Ai.Obj)} {nt : Nat} {tips : List (Nat × (Nat × TypeId))} {ty sz m id : Nat} {tk : Tk} (g : TkH h0 ⟨nx, obs, nt, tips⟩ ty m tk) {xs c : List V} (hx : xs.length = m * sz) (hc : c.length = 1 * sz) (h1 : allOne c = true) (hm : m + 1 ≤ most) (hp : Hop h0 ⟨nx, obs, nt, tips⟩ id) :
    ∃ tips', (∀ gl T its loc, St.app ⟨gl, T, its, loc, ⟨nx, obs, nt, tips⟩⟩ ty sz (.sl xs m tk) (.sl c 1 .full) = some (.sl (xs ++ c) (m + 1) tk, ⟨gl, T, its, loc, ⟨nx, obs, nt, tips'⟩⟩)) ∧ TkH h0 ⟨nx, obs, nt, tips'⟩ ty (m + 1) tk ∧ Hop h0 ⟨nx, obs, nt, tips'⟩ id := by
  obtain ⟨t, rfl, g2, g3, g4⟩ := g
  refine ⟨alSet tips t (m + 1, ty), fun gl T its loc => ?_, ⟨t, rfl, g2, g3, ?_⟩, ⟨hp.next, hp.nt, fun t' ht => ?_, hp.objs⟩⟩
  · simp only at g4
    simp only [hx, hc, h1, hm, g4, go_sem, ne_eq, not_false_eq_true, reduceIte, Nat.reduceMul, Nat.reduceAdd, Nat.reduceSub, Nat.reduceEqDiff, Nat.reduceLeDiff, Nat.reduceLT, List.take_succ_cons, List.take_zero, List.drop_succ_cons, List.cons_append]
  · simp only [go_sem, ne_eq, not_false_eq_true, reduceIte, Nat.reduceMul, Nat.reduceAdd, Nat.reduceSub, Nat.reduceEqDiff, Nat.reduceLeDiff, Nat.reduceLT, List.take_succ_cons, List.take_zero, List.drop_succ_cons, List.cons_append]
  · show al (alSet _ _ _) _ = _
    rw [al_set, if_neg (by omega)]
    exact hp.tips t' ht
theorem KidsR.split {l : List Fil} {xs : List V} (h : KidsR l xs) : ∀ (pre : List Fil) (f : Fil) (post : List Fil), l = pre ++ f :: post → ∃ c, FilR f c ∧ (xs.drop (pre.length * 4)).take 4 = c := by
  intro pre
  induction pre generalizing l xs with
  | nil =>
    intro f post e
    subst e
    cases h with | cons _ _ c ys h1 h2 =>
    refine ⟨c, h1, ?_⟩
    have := h1.len
    simp only [List.length_nil, Nat.zero_mul, List.drop_zero]
    rw [← this, List.take_left]
  | cons g pre ih =>
    intro f post e
    subst e
    cases h with | cons _ _ c ys h1 h2 =>
    obtain ⟨c', h3, h4⟩ := ih h2 f post rfl
    refine ⟨c', h3, ?_⟩
    have := h1.len
    rw [List.length_cons, show (pre.length + 1) * 4 = c.length + pre.length * 4 from by omega, ← List.drop_drop, List.drop_left, h4]
def K69_1 : List Fr := [.blk 1,
 .seq (.seq (.seq (.reg [⟨some 177, .faddr 0 (.t 3), none⟩, ⟨some 178, .load false 1 (.t 177), none⟩])
 (.blk 3 (.seq (.reg [⟨some 180, .bin .eql (.t 178) (.k (.i .i64 4)), none⟩, ⟨some 179, .mov (.t 180), none⟩])
 (.cond (.t 179)
 (.seq (.reg [⟨some 181, .mov (.t 9), none⟩, ⟨some 182, .iaddr (.slice 1) (.t 181) (.k (.i .i64 0)), none⟩, ⟨some 183, .load false 1 (.t 182), none⟩, ⟨some 184, .build [.nili] [(0, 1, (.t 183))], none⟩, ⟨some 185, .mkif 142 (.t 184), none⟩, ⟨some 6, .mov (.t 185), none⟩, ⟨some 7, .mov (.k (.i .i64 0)), none⟩])
 .ret)
 (.seq (.reg [⟨some 187, .bin .eql (.t 178) (.k (.i .i64 5)), none⟩, ⟨some 186, .mov (.t 187), none⟩])
 (.cond (.t 186)
 (.seq (.reg [⟨some 188, .mov (.t 9), none⟩, ⟨some 189, .build [(.sl [] 0 .nil)] [(0, 1, (.t 188))], none⟩, ⟨some 190, .mkif 144 (.t 189), none⟩, ⟨some 6, .mov (.t 190), none⟩, ⟨some 7, .mov (.k (.i .i64 0)), none⟩])
 .ret)
 .skip))))))
 (.seq (.reg [⟨some 191, .mov (.t 9), none⟩, ⟨some 192, .build [(.sl [] 0 .nil)] [(0, 1, (.t 191))], none⟩, ⟨some 193, .mkif 145 (.t 192), none⟩, ⟨some 6, .mov (.t 193), none⟩, ⟨some 7, .mov (.k (.i .i64 0)), none⟩])
 .ret))]
theorem UH69_1 : type_of% (@Hp_open _ _ L69_1.eq_1) := @Hp_open _ _ L69_1.eq_1
theorem UH69 : type_of% (@Hp_open _ _ B69.eq_1) := @Hp_open _ _ B69.eq_1
def kz69 (_ : Nat) : List Nat := [0, 4, 5, 6, 7, 8, 10, 11, 12, 13, 14, 15, 16, 17, 18, 19, 20, 21, 22, 23, 24, 25, 26, 27, 28, 29, 30, 31, 32, 33, 34, 35, 36, 37, 38, 39, 40, 41, 42, 43, 44, 45, 46, 47, 48, 49, 50, 51, 52, 53, 54, 55, 56, 57, 58, 59, 60, 61, 62, 63, 64, 65, 66, 67, 68, 69, 70, 71, 72, 73, 74, 75, 76, 77, 78, 79, 80, 81, 82, 83, 84, 85, 86, 87, 88, 89, 90, 91, 92, 93, 94, 95, 96, 97, 98, 99, 100, 101, 102, 103, 104, 105, 106, 107, 108, 109, 110, 111, 112, 113, 114, 115, 116, 117, 118, 119, 120, 121, 122, 123, 124, 125, 126, 127, 128, 129, 130, 131, 132, 133, 134, 135, 136, 137, 138, 139, 140, 141, 142, 143, 144, 145, 146, 147, 148, 152, 153, 154, 155, 156, 157, 158, 159, 160, 161, 162, 163, 164, 165, 166, 167, 168, 169, 170, 171, 172, 173, 174, 175, 176, 177, 178, 179, 180, 181, 182, 183, 184, 185, 186, 187, 188, 189, 190, 191, 192, 193]
theorem isQ_c {t : Nat} (h : isQ t = true) : ([132, 135, 137, 138, 142, 144, 145] : List Nat).contains t = true := h
end Go.Proofs.YtbhclhgljnoioaaDoor
set_option linter.unusedSimpArgs false
set_option linter.unusedVariables false
namespace Go.Proofs.YtbhclhgljnoioaaDoor
open Ai
theorem bld_gt (f : Fil) (d w : Nat) (h : w ≤ 24) : w + 1 ≤ (bld f d w).2 := by
  cases f with | mk k nm tx kids =>
  rw [bld]
  split
  · exact Nat.le_refl _
  · split
    · exact Nat.le_refl _
    · exact (blds_le kids (d + 1) (w + 1) (by omega)).1
section
variable {id D : Nat}
set_option maxRecDepth 100000 in
theorem w_kids (S : S_build id D) (k : Int) (nm tx : List UInt8) (kids : List Fil) (ys : List V) (tk0 : Tk) (hy : KidsR kids ys) (hk : 4 ≤ k ∧ k ≤ 6) (hk4 : k = 4 → kids.length = 1) (d : Nat) (hd : d ≤ 6) (hD : 8 ≤ d + 1 + D) (h0 : H) : ∀ (post pre : List Fil) (w : Nat) (h : H) (xs : List V) (tk : Tk) (l11 : List (Nat × List V)), kids = pre ++ post → WB h id w → w ≤ 24 → pre.length ≤ w → TkH h0 h 71 pre.length tk → Hop h0 h id → xs.length = pre.length → (∀ x ∈ xs, ∃ t y, x = .ifc t y) →
    Hp.M X_build (Y_build id) (kz69) (.code L69_1) (.loop L69_1 :: K69_1) ⟨gl0, (.node (.node (.node (.node (.node (.node (.node (.node .leaf .any .leaf) .any (.node .leaf .any .leaf)) .any (.node (.node .leaf .any .leaf) .any (.node .leaf .any .leaf))) .any (.node (.node (.node .leaf .any .leaf) .any (.node .leaf .any .leaf)) .any (.node (.node .leaf .any .leaf) .any (.node .leaf .any .leaf)))) .any (.node (.node (.node (.node .leaf .any .leaf) .any (.node .leaf .any .leaf)) .any (.node (.node .leaf .any .leaf) .any (.node .leaf .any .leaf))) .any (.node (.node (.node .leaf (.i .i64 (pre.length : Nat)) .leaf) .any (.node .leaf .any .leaf)) .any (.node (.node .leaf .any .leaf) .any (.node .leaf .any .leaf))))) (.l 3 0) (.node (.node (.node (.node (.node .leaf .any .leaf) .any (.node .leaf .any .leaf)) .any (.node (.node .leaf .any .leaf) .any (.node .leaf .any .leaf))) .any (.node (.node (.node .leaf .any .leaf) .any (.node .leaf .any .leaf)) .any (.node (.node .leaf .any .leaf) .any (.node .leaf .any .leaf)))) .any (.node (.node (.node (.node .leaf .any .leaf) .any (.node .leaf .any .leaf)) .any (.node (.node .leaf .any .leaf) .any (.node .leaf .any .leaf))) .any (.node (.node (.node .leaf .any .leaf) .any (.node .leaf .any .leaf)) .any (.node (.node .leaf .any .leaf) .any (.node .leaf .any .leaf)))))) (.i .i64 (d : Nat)) (.node (.node (.node (.node (.node (.node .leaf .any .leaf) .any (.node .leaf .any .leaf)) .any (.node (.node .leaf .any .leaf) .any (.node .leaf .any .leaf))) .any (.node (.node (.node .leaf .any .leaf) .any (.node .leaf .any .leaf)) .any (.node (.node .leaf .any .leaf) .any (.node .leaf .any .leaf)))) (.sl xs pre.length tk) (.node (.node (.node (.node .leaf .any .leaf) .any (.node .leaf .any .leaf)) .any (.node (.node .leaf .any .leaf) .any (.node .leaf .any .leaf))) .any (.node (.node (.node .leaf .any .leaf) .any (.node .leaf .any .leaf)) .any (.node (.node .leaf .any .leaf) .any (.node .leaf .any .leaf))))) .any (.node (.node (.node (.node (.node .leaf .any .leaf) .any (.node .leaf .any .leaf)) .any (.node (.node .leaf .any .leaf) .any (.node .leaf .any .leaf))) .any (.node (.node (.node .leaf (.sl ys kids.length tk0) .leaf) .any (.node .leaf .any .leaf)) .any (.node (.node .leaf .any .leaf) .any (.node .leaf .any .leaf)))) .any (.node (.node (.node (.node .leaf .any .leaf) .any (.node .leaf .any .leaf)) .any (.node (.node .leaf .any .leaf) .any (.node .leaf .any .leaf))) .any (.node (.node (.node .leaf .any .leaf) .any (.node .leaf .any .leaf)) .any (.node (.node .leaf .any .leaf) .any (.node .leaf .any .leaf))))))) .any (.node (.node (.node (.node (.node (.node (.node .leaf .any .leaf) .any (.node .leaf .any .leaf)) .any (.node (.node .leaf .any .leaf) .any (.node .leaf .any .leaf))) .any (.node (.node (.node .leaf .any .leaf) .any (.node .leaf .any .leaf)) .any (.node (.node .leaf .any .leaf) .any (.node .leaf .any .leaf)))) .any (.node (.node (.node (.node .leaf .any .leaf) .any (.node .leaf .any .leaf)) .any (.node (.node .leaf .any .leaf) .any (.node .leaf .any .leaf))) .any (.node (.node (.node .leaf .any .leaf) .any (.node .leaf .any .leaf)) .any (.node (.node .leaf .any .leaf) .any (.node .leaf .any .leaf))))) .any (.node (.node (.node (.node (.node .leaf .any .leaf) .any (.node .leaf .any .leaf)) .any (.node (.node .leaf .any .leaf) .any (.node .leaf .any .leaf))) .any (.node (.node (.node .leaf .any .leaf) .any (.node .leaf .any .leaf)) .any (.node (.node .leaf .any .leaf) .any (.node .leaf .any .leaf)))) .any (.node (.node (.node (.node .leaf .any .leaf) .any (.node .leaf .any .leaf)) .any (.node (.node .leaf .any .leaf) .any (.node .leaf .any .leaf))) .any (.node (.node (.node .leaf .any .leaf) .any (.node .leaf .any .leaf)) .any (.node (.node .leaf .any .leaf) .any (.node .leaf .any .leaf)))))) (.p id 0) (.node (.node (.node (.node (.node (.node .leaf .any .leaf) .any (.node .leaf .any .leaf)) .any (.node (.node .leaf .any .leaf) .any (.node .leaf .any .leaf))) .any (.node (.node (.node .leaf .any .leaf) .any (.node .leaf .any .leaf)) .any (.node (.node .leaf .any .leaf) .any (.node .leaf .any .leaf)))) .any (.node (.node (.node (.node .leaf .any .leaf) .any (.node .leaf .any .leaf)) .any (.node (.node .leaf .any .leaf) .any (.node .leaf .any .leaf))) .any (.node (.node (.node .leaf .any .leaf) .any (.node .leaf .any .leaf)) .any (.node (.node .leaf .any .leaf) .any (.node .leaf .any .leaf))))) .any (.node (.node (.node (.node (.node .leaf .any .leaf) .any (.node .leaf .any .leaf)) .any (.node (.node .leaf .any .leaf) .any (.node .leaf .any .leaf))) .any (.node (.node (.node .leaf (.i .i64 (kids.length : Nat)) .leaf) .any (.node .leaf .any .leaf)) .any (.node (.node .leaf .any .leaf) .any (.node .leaf .any .leaf)))) .any (.node (.node (.node (.node .leaf .any .leaf) .any (.node .leaf .any .leaf)) .any (.node (.node .leaf .any .leaf) .any (.node .leaf .any .leaf))) .any (.node (.node (.node .leaf .any .leaf) .any (.node .leaf .any .leaf)) .any (.node (.node .leaf .any .leaf) .any (.node .leaf .any .leaf)))))))), [], (3, [.i .i64 k, .s nm, .s tx, .sl ys kids.length tk0]) :: l11, h⟩
      (fun ex st => ∃ v h', Hp.FinI [.tmp 6, .tmp 7] v h' ex st ∧ ResB id h0 v h' (blds post (d + 1) w)) := by
  intro post
  induction post with
  | nil =>
    intro pre w h xs tk l11 hk1 hw hw2 hpw htk hop hxl hxs
    have hl : kids.length = pre.length := by rw [hk1]; simp
    have e1 : decide ((pre.length : Int) < (kids.length : Int)) = false := decide_eq_false (by omega)
    rw [UH69_1, blds]
    rcases (by omega : k = 4 ∨ k = 5 ∨ k = 6) with rfl | rfl | rfl
    · have h1 := hk4 rfl
      obtain ⟨x0, rfl⟩ : ∃ x, xs = [x] := by
        match xs, (show xs.length = 1 by omega) with
        | [x], _ => exact ⟨x, rfl⟩
      obtain ⟨t, y, rfl⟩ := hxs x0 (by simp)
      have hp1 : pre.length = 1 := by omega
      rw [h1, hp1] at *
      have e1 : decide (((1 : Nat) : Int) < ((1 : Nat) : Int)) = false := by decide
      simp only [e1, K69_1, List.getElem?_cons_zero, Int.cast_ofNat_Int, go_sem, ne_eq, not_false_eq_true, reduceIte, Nat.reduceMul, Nat.reduceAdd, Nat.reduceSub, Nat.reduceEqDiff, Nat.reduceLeDiff, Nat.reduceLT, List.take_succ_cons, List.take_zero, List.drop_succ_cons, List.cons_append]
      simp only [show decide ((1 : Int) < 1) = false by decide, K69_1, List.getElem?_cons_zero, Int.cast_ofNat_Int, go_sem, ne_eq, not_false_eq_true, reduceIte, Nat.reduceMul, Nat.reduceAdd, Nat.reduceSub, Nat.reduceEqDiff, Nat.reduceLeDiff, Nat.reduceLT, List.take_succ_cons, List.take_zero, List.drop_succ_cons, List.cons_append]
      exact ⟨_, _, ⟨rfl, rfl⟩, _, rfl, .inl ⟨rfl, _, _, rfl, rfl⟩, hop, hw⟩
    · have e2 : decide ((5 : Int) = 4) = false := by decide
      simp only [e1, e2, K69_1, Int.cast_ofNat_Int, go_sem, ne_eq, not_false_eq_true, reduceIte, Nat.reduceMul, Nat.reduceAdd, Nat.reduceSub, Nat.reduceEqDiff, Nat.reduceLeDiff, Nat.reduceLT, List.take_succ_cons, List.take_zero, List.drop_succ_cons, List.cons_append]
      exact ⟨_, _, ⟨rfl, rfl⟩, _, rfl, .inl ⟨rfl, _, _, rfl, rfl⟩, hop, hw⟩
    · have e2 : decide ((6 : Int) = 4) = false := by decide
      have e3 : decide ((6 : Int) = 5) = false := by decide
      simp only [e1, e2, e3, K69_1, Int.cast_ofNat_Int, go_sem, ne_eq, not_false_eq_true, reduceIte, Nat.reduceMul, Nat.reduceAdd, Nat.reduceSub, Nat.reduceEqDiff, Nat.reduceLeDiff, Nat.reduceLT, List.take_succ_cons, List.take_zero, List.drop_succ_cons, List.cons_append]
      exact ⟨_, _, ⟨rfl, rfl⟩, _, rfl, .inl ⟨rfl, _, _, rfl, rfl⟩, hop, hw⟩
  | cons f post ih =>
    intro pre w h xs tk l11 hk1 hw hw2 hpw htk hop hxl hxs
    have hl : kids.length = pre.length + post.length + 1 := by rw [hk1]; simp; omega
    have e1 : decide ((pre.length : Int) < (kids.length : Int)) = true := decide_eq_true (by omega)
    have g1 : pre.length < kids.length := by omega
    have hyl := hy.len
    have g2 : (pre.length + 1) * 4 ≤ kids.length * 4 := by omega
    obtain ⟨c, hc, ht⟩ := hy.split pre f post hk1
    obtain ⟨x, h', y4, q1, q2, q3⟩ := call_build S hc hw hw2 hD (by omega)
    have hle := bld_le f (d + 1) w hw2
    have w1 : wr .i64 ((d : Int) + 1) = ((d + 1 : Nat) : Int) := by rw [wr64] <;> omega
    rw [UH69_1, blds]
    cases hc with | mk k1 nm1 tx1 kids1 xs1 n1 tk1 hn1 hx1 =>
    generalize hq : bld (.mk k1 nm1 tx1 kids1) (d + 1) w = q at *
    obtain ⟨er, w'⟩ := q
    simp only at q1 q3 y4 hle
    by_cases he : er = 0
    · subst he
      rw [if_pos rfl]
      rcases q1 with ⟨_, t, y, rfl, hq2⟩ | ⟨hq1, _⟩
      · have hqc := isQ_c hq2
        obtain ⟨nx, obs, nt, tips⟩ := h'
        obtain ⟨tips', hap, g3, g4⟩ := app_tkH (htk.hop q2) (sz := 1) (by rw [hxl]; simp) (c := [.ifc t y]) rfl rfl (by unfold most; omega) (hop.trans q2)
        have hw' : WB ⟨nx, obs, nt, tips'⟩ id w' := q3
        have w2 : wr .i64 ((pre.length : Int) + 1) = ((pre.length + 1 : Nat) : Int) := by rw [wr64] <;> omega
        have hgrow : pre.length + 1 ≤ w' := by
          have := bld_gt (.mk k1 nm1 tx1 kids1) (d + 1) w hw2
          rw [hq] at this
          simp only at this
          omega
        have := fun l11 => ih (pre ++ [.mk k1 nm1 tx1 kids1]) w' ⟨nx, obs, nt, tips'⟩ (xs ++ [.ifc t y]) tk l11 (by rw [hk1]; simp) hw' (hle.2 rfl) (by simp; omega) (by simpa using g3) g4 (by simp [hxl]) (by
          intro z hz
          rcases List.mem_append.1 hz with hz | hz
          · exact hxs z hz
          · simp only [List.mem_singleton] at hz; exact ⟨t, y, hz⟩)
        simp only [e1, g1, hyl, g2, rd_ip, ht, w1, y4, hqc, hap, w2, splice, Int.cast_ofNat_Int, go_sem, ne_eq, not_false_eq_true, reduceIte, Nat.reduceMul, Nat.reduceAdd, Nat.reduceSub, Nat.reduceEqDiff, Nat.reduceLeDiff, Nat.reduceLT, List.take_succ_cons, List.take_zero, List.drop_succ_cons, List.cons_append]
        rw [Hp.M_loop]
        simp only [kz69, K69_1, List.length_append, List.length_cons, List.length_nil, Nat.zero_add, go_sem, ne_eq, not_false_eq_true, reduceIte, Nat.reduceMul, Nat.reduceAdd, Nat.reduceSub, Nat.reduceEqDiff, Nat.reduceLeDiff, Nat.reduceLT, List.take_succ_cons, List.take_zero, List.drop_succ_cons, List.cons_append] at this ⊢
        exact this _
      · exact absurd rfl hq1
    · rw [if_neg he]
      rcases q1 with ⟨hq1, _⟩ | ⟨hq1, rfl⟩
      · exact absurd hq1 he
      · have f1 : decide ((er : Int) = 0) = false := decide_eq_false (by omega)
        simp only [e1, g1, hyl, g2, rd_ip, ht, w1, y4, f1, splice, K69_1, go_sem, ne_eq, not_false_eq_true, reduceIte, Nat.reduceMul, Nat.reduceAdd, Nat.reduceSub, Nat.reduceEqDiff, Nat.reduceLeDiff, Nat.reduceLT, List.take_succ_cons, List.take_zero, List.drop_succ_cons, List.cons_append]
        exact ⟨_, _, ⟨rfl, rfl⟩, _, rfl, .inr ⟨he, rfl⟩, hop.trans q2, q3⟩
theorem errB (b : Bool) (e : Nat) (he : e ≠ 0) : decide (errV b e = 0) = b := by
  cases b with
  | true => rfl
  | false => exact decide_eq_false (by show ¬ ((e : Int) = 0); omega)
end
section
variable {id D : Nat}
set_option maxRecDepth 100000 in
set_option maxHeartbeats 1000000 in
theorem s_build (S : S_build id D) : S_build id (D + 1) := by
  intro f c d w h hf hw hw2 hD hd
  cases hf with | mk k nm tx kids xs n tk hn hx =>
  subst hn
  obtain ⟨nx, obs, nt, tips⟩ := h
  refine compI_ex (xf := X_build) (kz := kz69) (fn := af69) x_build (t_build id) rfl (Nat.le_of_ble_eq_true rfl) ?_
  show Hp.M _ _ _ (.code B69) _ (St.init gl0 8 _ _) (fun ex st => ∃ v h', Hp.FinI [.tmp 6, .tmp 7] v h' ex st ∧ _)
  rw [UH69]
  have hw' : al obs id = some (Ai.Obj.cells 3 [.i .i64 (w : Nat)]) := hw
  have w1 : wr .i64 ((w : Int) + 1) = ((w + 1 : Nat) : Int) := by rw [wr64] <;> omega
  rw [bld]
  by_cases c1 : 6 < d
  · have e1 : decide ((6 : Int) < (d : Int)) = true := decide_eq_true (by omega)
    rw [if_pos (.inl c1)]
    simp only [hw', w1, e1, splice, go_sem, ne_eq, not_false_eq_true, reduceIte, Nat.reduceMul, Nat.reduceAdd, Nat.reduceSub, Nat.reduceEqDiff, Nat.reduceLeDiff, Nat.reduceLT, List.take_succ_cons, List.take_zero, List.drop_succ_cons, List.cons_append]
    exact ⟨_, _, ⟨rfl, rfl⟩, _, rfl, .inr ⟨(show (51 : Nat) ≠ 0 from by decide), rfl⟩, Hop.setW ⟨nx, obs, nt, tips⟩ id (w + 1), WB.set ⟨nx, obs, nt, tips⟩ id (w + 1)⟩
  · have e1 : decide ((6 : Int) < (d : Int)) = false := decide_eq_false (by omega)
    by_cases c2 : 24 < w + 1
    · have e2 : decide ((24 : Int) < ((w + 1 : Nat) : Int)) = true := decide_eq_true (by omega)
      rw [if_pos (.inr c2)]
      simp only [hw', w1, e1, e2, splice, go_sem, ne_eq, not_false_eq_true, reduceIte, Nat.reduceMul, Nat.reduceAdd, Nat.reduceSub, Nat.reduceEqDiff, Nat.reduceLeDiff, Nat.reduceLT, List.take_succ_cons, List.take_zero, List.drop_succ_cons, List.cons_append]
      exact ⟨_, _, ⟨rfl, rfl⟩, _, rfl, .inr ⟨(show (51 : Nat) ≠ 0 from by decide), rfl⟩, Hop.setW ⟨nx, obs, nt, tips⟩ id (w + 1), WB.set ⟨nx, obs, nt, tips⟩ id (w + 1)⟩
    · have e2 : decide ((24 : Int) < ((w + 1 : Nat) : Int)) = false := decide_eq_false (by omega)
      rw [if_neg (by omega)]
      have eL : decide ((kids.length : Int) = 0) = decide (kids.length = 0) := decide_eq_decide.2 (by omega)
      have eN := strEq_dec nm []
      have eT := strEq_dec tx []
      have xk : X_build 90 [.s tx] = some (.i .i64 (errV (keyB tx) 20)) := rfl
      have xv : X_build 92 [.s tx] = some (.i .i64 (errV (valB tx) 21)) := rfl
      have xn : X_build 91 [.s nm] = some (.i .i64 (errV (namB nm) 22)) := rfl
      have ek : decide (errV (keyB tx) 20 = 0) = keyB tx := errB (keyB tx) 20 (by decide)
      have ev : decide (errV (valB tx) 21 = 0) = valB tx := errB (valB tx) 21 (by decide)
      have en : decide (errV (namB nm) 22 = 0) = namB nm := errB (namB nm) 22 (by decide)
      by_cases k0 : k = 0
      · skip
        have hM : mayB k nm tx kids.length = (decide (kids.length = 0) && (decide (nm = []) && decide (tx = []))) := by unfold mayB; rw [if_pos (by omega)]
        have d0 : decide (k = 0) = true := decide_eq_true (by omega)
        have d1 : decide (k = 1) = false := decide_eq_false (by omega)
        have d2 : decide (k = 2) = false := decide_eq_false (by omega)
        have d3 : decide (k = 3) = false := decide_eq_false (by omega)
        have d4 : decide (k < 4) = true := decide_eq_true (by omega)
        rw [hM]
        cases hL : decide (kids.length = 0) <;> cases hN : decide (nm = []) <;> cases hT : decide (tx = []) <;> rw [hL] at eL <;> rw [hN] at eN <;> rw [hT] at eT
        all_goals first
          | (rw [if_pos (show (_ && (_ && _)) = false from rfl)]; simp only [hw', w1, e1, e2, eL, eN, eT, d0, d1, d2, d3, d4, xk, xv, xn, ek, ev, en, splice, Int.cast_ofNat_Int, go_sem, ne_eq, not_false_eq_true, reduceIte, Nat.reduceMul, Nat.reduceAdd, Nat.reduceSub, Nat.reduceEqDiff, Nat.reduceLeDiff, Nat.reduceLT, List.take_succ_cons, List.take_zero, List.drop_succ_cons, List.cons_append]; exact ⟨_, _, ⟨rfl, rfl⟩, _, rfl, .inr ⟨(show (50 : Nat) ≠ 0 from by decide), rfl⟩, Hop.setW ⟨nx, obs, nt, tips⟩ id (w + 1), WB.set ⟨nx, obs, nt, tips⟩ id (w + 1)⟩)
          | (obtain rfl : kids = [] := List.eq_nil_of_length_eq_zero (of_decide_eq_true hL)
             rw [if_neg (by decide), blds]
             simp only [hw', w1, e1, e2, eL, eN, eT, d0, d1, d2, d3, d4, xk, xv, xn, ek, ev, en, splice, Int.cast_ofNat_Int, go_sem, ne_eq, not_false_eq_true, reduceIte, Nat.reduceMul, Nat.reduceAdd, Nat.reduceSub, Nat.reduceEqDiff, Nat.reduceLeDiff, Nat.reduceLT, List.take_succ_cons, List.take_zero, List.drop_succ_cons, List.cons_append]
             exact ⟨_, _, ⟨rfl, rfl⟩, _, rfl, .inl ⟨rfl, _, _, rfl, rfl⟩, Hop.setW ⟨nx, obs, nt, tips⟩ id (w + 1), WB.set ⟨nx, obs, nt, tips⟩ id (w + 1)⟩)
      · by_cases k1 : k = 1
        · skip
          have hM : mayB k nm tx kids.length = (decide (kids.length = 0) && (decide (nm = []) && keyB tx)) := by unfold mayB; rw [if_neg (by omega), if_pos k1]
          have d0 : decide (k = 0) = false := decide_eq_false (by omega)
          have d1 : decide (k = 1) = true := decide_eq_true (by omega)
          have d2 : decide (k = 2) = false := decide_eq_false (by omega)
          have d3 : decide (k = 3) = false := decide_eq_false (by omega)
          have d4 : decide (k < 4) = true := decide_eq_true (by omega)
          rw [hM]
          cases hL : decide (kids.length = 0) <;> cases hN : decide (nm = []) <;> cases hT : decide (tx = []) <;> cases hK : keyB tx <;> rw [hL] at eL <;> rw [hN] at eN <;> rw [hT] at eT <;> rw [hK] at ek xk
          all_goals first
            | (rw [if_pos (show (_ && (_ && _)) = false from rfl)]; simp only [hw', w1, e1, e2, eL, eN, eT, d0, d1, d2, d3, d4, xk, xv, xn, ek, ev, en, splice, Int.cast_ofNat_Int, go_sem, ne_eq, not_false_eq_true, reduceIte, Nat.reduceMul, Nat.reduceAdd, Nat.reduceSub, Nat.reduceEqDiff, Nat.reduceLeDiff, Nat.reduceLT, List.take_succ_cons, List.take_zero, List.drop_succ_cons, List.cons_append]; exact ⟨_, _, ⟨rfl, rfl⟩, _, rfl, .inr ⟨(show (50 : Nat) ≠ 0 from by decide), rfl⟩, Hop.setW ⟨nx, obs, nt, tips⟩ id (w + 1), WB.set ⟨nx, obs, nt, tips⟩ id (w + 1)⟩)
            | (obtain rfl : kids = [] := List.eq_nil_of_length_eq_zero (of_decide_eq_true hL)
               rw [if_neg (by decide), blds]
               simp only [hw', w1, e1, e2, eL, eN, eT, d0, d1, d2, d3, d4, xk, xv, xn, ek, ev, en, splice, Int.cast_ofNat_Int, go_sem, ne_eq, not_false_eq_true, reduceIte, Nat.reduceMul, Nat.reduceAdd, Nat.reduceSub, Nat.reduceEqDiff, Nat.reduceLeDiff, Nat.reduceLT, List.take_succ_cons, List.take_zero, List.drop_succ_cons, List.cons_append]
               exact ⟨_, _, ⟨rfl, rfl⟩, _, rfl, .inl ⟨rfl, _, _, rfl, rfl⟩, Hop.setW ⟨nx, obs, nt, tips⟩ id (w + 1), WB.set ⟨nx, obs, nt, tips⟩ id (w + 1)⟩)
        · by_cases k2 : k = 2
          · skip
            have hM : mayB k nm tx kids.length = (decide (kids.length = 0) && (namB nm && valB tx)) := by unfold mayB; rw [if_neg (by omega), if_neg k1, if_pos k2]
            have d0 : decide (k = 0) = false := decide_eq_false (by omega)
            have d1 : decide (k = 1) = false := decide_eq_false (by omega)
            have d2 : decide (k = 2) = true := decide_eq_true (by omega)
            have d3 : decide (k = 3) = false := decide_eq_false (by omega)
            have d4 : decide (k < 4) = true := decide_eq_true (by omega)
            rw [hM]
            cases hL : decide (kids.length = 0) <;> cases hN : decide (nm = []) <;> cases hT : decide (tx = []) <;> cases hK : namB nm <;> cases hV : valB tx <;> rw [hL] at eL <;> rw [hN] at eN <;> rw [hT] at eT <;> rw [hK] at en xn <;> rw [hV] at ev xv
            all_goals first
              | (rw [if_pos (show (_ && (_ && _)) = false from rfl)]; simp only [hw', w1, e1, e2, eL, eN, eT, d0, d1, d2, d3, d4, xk, xv, xn, ek, ev, en, splice, Int.cast_ofNat_Int, go_sem, ne_eq, not_false_eq_true, reduceIte, Nat.reduceMul, Nat.reduceAdd, Nat.reduceSub, Nat.reduceEqDiff, Nat.reduceLeDiff, Nat.reduceLT, List.take_succ_cons, List.take_zero, List.drop_succ_cons, List.cons_append]; exact ⟨_, _, ⟨rfl, rfl⟩, _, rfl, .inr ⟨(show (50 : Nat) ≠ 0 from by decide), rfl⟩, Hop.setW ⟨nx, obs, nt, tips⟩ id (w + 1), WB.set ⟨nx, obs, nt, tips⟩ id (w + 1)⟩)
              | (obtain rfl : kids = [] := List.eq_nil_of_length_eq_zero (of_decide_eq_true hL)
                 rw [if_neg (by decide), blds]
                 simp only [hw', w1, e1, e2, eL, eN, eT, d0, d1, d2, d3, d4, xk, xv, xn, ek, ev, en, splice, Int.cast_ofNat_Int, go_sem, ne_eq, not_false_eq_true, reduceIte, Nat.reduceMul, Nat.reduceAdd, Nat.reduceSub, Nat.reduceEqDiff, Nat.reduceLeDiff, Nat.reduceLT, List.take_succ_cons, List.take_zero, List.drop_succ_cons, List.cons_append]
                 exact ⟨_, _, ⟨rfl, rfl⟩, _, rfl, .inl ⟨rfl, _, _, rfl, rfl⟩, Hop.setW ⟨nx, obs, nt, tips⟩ id (w + 1), WB.set ⟨nx, obs, nt, tips⟩ id (w + 1)⟩)
          · by_cases k3 : k = 3
            · skip
              have hM : mayB k nm tx kids.length = (decide (kids.length = 0) && (decide (nm = []) && decide (tx = []))) := by unfold mayB; rw [if_pos (by omega)]
              have d0 : decide (k = 0) = false := decide_eq_false (by omega)
              have d1 : decide (k = 1) = false := decide_eq_false (by omega)
              have d2 : decide (k = 2) = false := decide_eq_false (by omega)
              have d3 : decide (k = 3) = true := decide_eq_true (by omega)
              have d4 : decide (k < 4) = true := decide_eq_true (by omega)
              rw [hM]
              cases hL : decide (kids.length = 0) <;> cases hN : decide (nm = []) <;> cases hT : decide (tx = []) <;> rw [hL] at eL <;> rw [hN] at eN <;> rw [hT] at eT
              all_goals first
                | (rw [if_pos (show (_ && (_ && _)) = false from rfl)]; simp only [hw', w1, e1, e2, eL, eN, eT, d0, d1, d2, d3, d4, xk, xv, xn, ek, ev, en, splice, Int.cast_ofNat_Int, go_sem, ne_eq, not_false_eq_true, reduceIte, Nat.reduceMul, Nat.reduceAdd, Nat.reduceSub, Nat.reduceEqDiff, Nat.reduceLeDiff, Nat.reduceLT, List.take_succ_cons, List.take_zero, List.drop_succ_cons, List.cons_append]; exact ⟨_, _, ⟨rfl, rfl⟩, _, rfl, .inr ⟨(show (50 : Nat) ≠ 0 from by decide), rfl⟩, Hop.setW ⟨nx, obs, nt, tips⟩ id (w + 1), WB.set ⟨nx, obs, nt, tips⟩ id (w + 1)⟩)
                | (obtain rfl : kids = [] := List.eq_nil_of_length_eq_zero (of_decide_eq_true hL)
                   rw [if_neg (by decide), blds]
                   simp only [hw', w1, e1, e2, eL, eN, eT, d0, d1, d2, d3, d4, xk, xv, xn, ek, ev, en, splice, Int.cast_ofNat_Int, go_sem, ne_eq, not_false_eq_true, reduceIte, Nat.reduceMul, Nat.reduceAdd, Nat.reduceSub, Nat.reduceEqDiff, Nat.reduceLeDiff, Nat.reduceLT, List.take_succ_cons, List.take_zero, List.drop_succ_cons, List.cons_append]
                   exact ⟨_, _, ⟨rfl, rfl⟩, _, rfl, .inl ⟨rfl, _, _, rfl, rfl⟩, Hop.setW ⟨nx, obs, nt, tips⟩ id (w + 1), WB.set ⟨nx, obs, nt, tips⟩ id (w + 1)⟩)
            · have d0 : decide (k = 0) = false := decide_eq_false k0
              have d1 : decide (k = 1) = false := decide_eq_false k1
              have d2 : decide (k = 2) = false := decide_eq_false k2
              have d3 : decide (k = 3) = false := decide_eq_false k3
              -- not one of the kinds
              by_cases k4 : k < 4 ∨ 6 < k
              · have hM : mayB k nm tx kids.length = false := by unfold mayB; rw [if_neg (by omega), if_neg k1, if_neg k2, if_neg (by omega), if_neg (by omega)]
                rw [if_pos hM]
                by_cases k5 : k < 4
                · have d4 : decide (k < 4) = true := decide_eq_true k5
                  cases hN : decide (nm = []) <;> cases hT : decide (tx = []) <;> rw [hN] at eN <;> rw [hT] at eT <;> simp only [hw', w1, e1, e2, eL, eN, eT, d0, d1, d2, d3, d4, splice, go_sem, ne_eq, not_false_eq_true, reduceIte, Nat.reduceMul, Nat.reduceAdd, Nat.reduceSub, Nat.reduceEqDiff, Nat.reduceLeDiff, Nat.reduceLT, List.take_succ_cons, List.take_zero, List.drop_succ_cons, List.cons_append] <;> exact ⟨_, _, ⟨rfl, rfl⟩, _, rfl, .inr ⟨(show (50 : Nat) ≠ 0 from by decide), rfl⟩, Hop.setW ⟨nx, obs, nt, tips⟩ id (w + 1), WB.set ⟨nx, obs, nt, tips⟩ id (w + 1)⟩
                · have d4 : decide (k < 4) = false := decide_eq_false k5
                  have d6 : decide (6 < k) = true := decide_eq_true (by omega)
                  cases hN : decide (nm = []) <;> cases hT : decide (tx = []) <;> rw [hN] at eN <;> rw [hT] at eT <;> simp only [hw', w1, e1, e2, eL, eN, eT, d0, d1, d2, d3, d4, d6, splice, go_sem, ne_eq, not_false_eq_true, reduceIte, Nat.reduceMul, Nat.reduceAdd, Nat.reduceSub, Nat.reduceEqDiff, Nat.reduceLeDiff, Nat.reduceLT, List.take_succ_cons, List.take_zero, List.drop_succ_cons, List.cons_append] <;> exact ⟨_, _, ⟨rfl, rfl⟩, _, rfl, .inr ⟨(show (50 : Nat) ≠ 0 from by decide), rfl⟩, Hop.setW ⟨nx, obs, nt, tips⟩ id (w + 1), WB.set ⟨nx, obs, nt, tips⟩ id (w + 1)⟩
              · have d4 : decide (k < 4) = false := decide_eq_false (by omega)
                have d6 : decide (6 < k) = false := decide_eq_false (by omega)
                have eK : decide ((kids.length : Int) = 1) = decide (kids.length = 1) := decide_eq_decide.2 (by omega)
                have hM : mayB k nm tx kids.length = (decide (nm = []) && (decide (tx = []) && (!decide (k = 4) || decide (kids.length = 1)))) := by
                  unfold mayB
                  rw [if_neg (by omega), if_neg k1, if_neg k2]
                  by_cases h4 : k = 4
                  · rw [if_pos h4, decide_eq_true h4]; rfl
                  · rw [if_neg h4, if_pos (by omega), decide_eq_false h4]; simp
                rw [hM]
                have fin : ((k = 4) → kids.length = 1) → _ := fun hk4 => w_kids S k nm tx kids xs tk hx (by omega) hk4 d (by omega) (by omega) ⟨nx, obs, nt, tips⟩ kids [] (w + 1) ⟨nx, alSet obs id (.cells 3 [.i .i64 ((w + 1 : Nat) : Int)]), nt + 1, (nt, (0, 71)) :: tips⟩ [] (.own nt) [] rfl (WB.set ⟨nx, obs, nt, tips⟩ id (w + 1)) (by omega) (Nat.zero_le _) ⟨nt, rfl, Nat.le_refl _, Nat.lt_succ_self _, by simp only [go_sem, ne_eq, not_false_eq_true, reduceIte, Nat.reduceMul, Nat.reduceAdd, Nat.reduceSub, Nat.reduceEqDiff, Nat.reduceLeDiff, Nat.reduceLT, List.take_succ_cons, List.take_zero, List.drop_succ_cons, List.cons_append]⟩
                  ⟨rfl, Nat.le_succ _, fun t ht => by
                    have hne : Nat.beq nt t = false := by
                      cases hb : Nat.beq nt t with
                      | true => have h1 := Nat.eq_of_beq_eq_true hb; simp only at ht; omega
                      | false => rfl
                    show al ((nt, _) :: tips) t = _
                    simp only [al, hne, cond_false], (Hop.setW ⟨nx, obs, nt, tips⟩ id (w + 1)).objs⟩ rfl (fun x hx => by cases hx)
                cases h4 : decide (k = 4) <;> cases hK : decide (kids.length = 1) <;> cases hN : decide (nm = []) <;> cases hT : decide (tx = []) <;> rw [hN] at eN <;> rw [hT] at eT <;> rw [hK] at eK
                all_goals first
                  | (rw [if_pos (show (_ && (_ && (_ || _))) = false from rfl)]; simp only [hw', w1, e1, e2, eL, eN, eT, eK, h4, d0, d1, d2, d3, d4, d6, splice, go_sem, ne_eq, not_false_eq_true, reduceIte, Nat.reduceMul, Nat.reduceAdd, Nat.reduceSub, Nat.reduceEqDiff, Nat.reduceLeDiff, Nat.reduceLT, List.take_succ_cons, List.take_zero, List.drop_succ_cons, List.cons_append]; exact ⟨_, _, ⟨rfl, rfl⟩, _, rfl, .inr ⟨(show (50 : Nat) ≠ 0 from by decide), rfl⟩, Hop.setW ⟨nx, obs, nt, tips⟩ id (w + 1), WB.set ⟨nx, obs, nt, tips⟩ id (w + 1)⟩)
                  | (rw [if_neg (by decide)]
                     have fin := fin (fun h5 => by first | exact of_decide_eq_true hK | exact absurd h5 (of_decide_eq_false h4))
                     simp only [hw', w1, e1, e2, eL, eN, eT, eK, h4, d0, d1, d2, d3, d4, d6, splice, go_sem, ne_eq, not_false_eq_true, reduceIte, Nat.reduceMul, Nat.reduceAdd, Nat.reduceSub, Nat.reduceEqDiff, Nat.reduceLeDiff, Nat.reduceLT, List.take_succ_cons, List.take_zero, List.drop_succ_cons, List.cons_append]
                     rw [Hp.M_loop]
                     simp only [kz69, K69_1, List.length_cons, List.length_nil, Int.cast_ofNat_Int, go_sem, ne_eq, not_false_eq_true, reduceIte, Nat.reduceMul, Nat.reduceAdd, Nat.reduceSub, Nat.reduceEqDiff, Nat.reduceLeDiff, Nat.reduceLT, List.take_succ_cons, List.take_zero, List.drop_succ_cons, List.cons_append] at fin ⊢
                     exact fin)
theorem s_build_all (id : Nat) : ∀ D, S_build id D
  | 0 => fun _ _ _ _ _ _ _ _ h1 h2 => by omega
  | D + 1 => s_build (s_build_all id D)
end
end Go.Proofs.YtbhclhgljnoioaaDoor
set_option linter.unusedSimpArgs false
set_option linter.unusedVariables false
namespace Go.Proofs.YtbhclhgljnoioaaDoor
open Ai
/-! ### Pure functions, told by what they do -/
noncomputable def pickP (g : FuncId) (R : List V → V → Prop) (a : List V) : Option V := open Classical in if e : ∃ v : V, Comp tabx told g a v ∧ R a v then some e.choose else none
theorem pickP_tells {g : FuncId} {R : List V → V → Prop} : ∀ a v, pickP g R a = some v → Comp tabx told g a v := fun a v e => by
  unfold pickP at e
  split at e
  · rename_i hp
    have hs := hp.choose_spec
    simp only [Option.some.injEq] at e
    rw [e] at hs
    exact hs.1
  · cases e
theorem pickP_spec {g : FuncId} {R : List V → V → Prop} {a : List V} {v : V} (hc : Comp tabx told g a v) (hr : R a v) : ∃ v, pickP g R a = some v ∧ R a v := by
  have hp : ∃ v : V, Comp tabx told g a v ∧ R a v := ⟨v, hc, hr⟩
  exact ⟨hp.choose, dif_pos hp, hp.choose_spec.2⟩
theorem comp_ex {xf : FuncId → List V → Option V} {xh : FuncId → List V → H → Option (V × H)} {kz : Nat → List Nat} (hx : Tells tabx told xf) (hy : Hp.TellsI tabx told xh) {g : FuncId} {fn : AFunc} {args : List V} {Q : V → Prop} (ht : tabx g = some fn) (hn : args.length ≤ fn.n)
    (h : Hp.M xf xh kz (.code fn.body) [] (St.init gl0 fn.depth (stripL args) {}) (fun ex st => ∃ v, Fin fn.res v ex st ∧ Q v)) : ∃ v, Comp tabx told g args v ∧ Q v := by
  obtain ⟨f, ex, st', e, v, hf, q⟩ := h
  refine ⟨v, fun hh gl hok => ?_, q⟩
  have hgl : gl = gl0 := hok
  subst hgl
  obtain ⟨he, hl⟩ := hf
  obtain ⟨ex1, st1, f1, _, _, hr, hev⟩ := Hp.runK_ev hx hy f f (Nat.le_refl _) _ _ _ _ _ hok e
  simp only at hev
  have : ex1 = ex ∧ st1 = st' := by
    match f1, hr with
    | 0, hr => simp [Hp.runK] at hr
    | f1 + 1, hr => simp only [Hp.runK, Option.some.injEq, Prod.mk.injEq] at hr; exact hr
  obtain ⟨rfl, rfl⟩ := this
  have hl' : leave fn true hh st1 = some (v, hh) := by
    unfold leave
    cases hv : resV st1 fn.res with
    | none => rw [hv] at hl; cases hl
    | some vs =>
      rw [hv] at hl
      simp only [Option.map_some, Option.some.injEq] at hl
      simp only [cond_true, hl]
  exact .fn ht hn hev he hl'
/-! ### Filters, stripped and frozen -/
theorem stripL_app (a b : List V) : stripL (a ++ b) = stripL a ++ stripL b := by
  induction a with
  | nil => rfl
  | cons x r ih => simp only [List.cons_append, stripL, ih]
mutual
theorem FilR.strip : ∀ (f : Fil) (c : List V), FilR f c → FilR f (stripL c)
  | .mk k nm tx kids, c, h => by
    cases h with | mk _ _ _ _ xs n tk hn hx =>
    exact .mk k nm tx kids (stripL xs) n tk.cp hn (KidsR.strip kids xs hx)
theorem KidsR.strip : ∀ (l : List Fil) (xs : List V), KidsR l xs → KidsR l (stripL xs)
  | [], xs, h => by cases h; exact .nil
  | f :: r, xs, h => by
    cases h with | cons _ _ c ys h1 h2 =>
    rw [stripL_app]
    exact .cons f r _ _ (FilR.strip f c h1) (KidsR.strip r ys h2)
end
mutual
theorem FilR.frz (h : H) : ∀ (f : Fil) (c : List V) (d w m : Nat), FilR f c → (bld f d w).1 = 0 → 8 ≤ d + m → FilR f (c.map (frz h m))
  | .mk k nm tx kids, c, d, w, m, hf, hb, hm => by
    cases hf with | mk _ _ _ _ xs n tk hn hx =>
    rw [bld] at hb
    split at hb
    · cases hb
    · rename_i h1
      split at hb
      · cases hb
      · match m, (show m ≠ 0 by omega) with
        | m + 1, _ =>
          have := KidsR.frz h kids xs (d + 1) (w + 1) m hx hb (by omega)
          exact .mk k nm tx kids (xs.map (Ai.frz h m)) n tk.cp hn this
theorem KidsR.frz (h : H) : ∀ (l : List Fil) (xs : List V) (d w m : Nat), KidsR l xs → (blds l d w).1 = 0 → 8 ≤ d + m → KidsR l (xs.map (frz h m))
  | [], xs, d, w, m, hf, hb, hm => by cases hf; exact .nil
  | f :: r, xs, d, w, m, hf, hb, hm => by
    cases hf with | cons _ _ c ys h1 h2 =>
    rw [blds] at hb
    split at hb
    · rename_i h0
      rw [List.map_append]
      exact .cons f r _ _ (FilR.frz h f c d w m h1 h0 hm) (KidsR.frz h r ys d _ m h2 hb hm)
    · rename_i h0; exact absurd hb h0
end
/-! ### Check -/
def chk (f : Fil) : Nat := (bld f 1 0).1
def R_ready (a : List V) (h : H) (v : V) (h' : H) : Prop := ∀ (f : Fil) (c : List V), a = [.agg c] → FilR f c → ∃ x, v = .tup [x, .i .i64 (chk f : Nat)] ∧ (x = .nili ∨ ∃ t y, x = .ifc t y)
theorem UH41 : type_of% (@Hp_open _ _ B41.eq_1) := @Hp_open _ _ B41.eq_1
def kz41 (_ : Nat) : List Nat := []
set_option maxRecDepth 100000 in
theorem ready_ex (f : Fil) (c : List V) (hf : FilR f c) : ∃ x h', pick 41 R_ready [.agg c] {} = some (.tup [x, .i .i64 (chk f : Nat)], h') ∧ (x = .nili ∨ ∃ t y, x = .ifc t y) := by
  have key : ∃ v h', Hp.CompI tabx told 41 [.agg c] {} v h' ∧ ∃ x, v = .tup [x, .i .i64 (chk f : Nat)] ∧ (x = .nili ∨ ∃ t y, x = .ifc t y) := by
    refine compI_ex (xf := noX) (xh := Y_build 0) (kz := kz41) (fn := af41) tells_noX (t_build 0) rfl (Nat.le_of_ble_eq_true rfl) ?_
    show Hp.M _ _ _ (.code B41) _ (St.init gl0 5 _ _) (fun ex st => ∃ v h', Hp.FinI [.tmp 2, .tmp 3] v h' ex st ∧ _)
    rw [UH41]
    obtain ⟨x, h', y4, q1, q2, q3⟩ := call_build (s_build_all 0 7) (d := 1) (w := 0) (h := ⟨1, [(0, .cells 3 [.i .i64 ((0 : Nat) : Int)])], 0, []⟩) hf rfl (by decide) (by decide) (by decide)
    have hch : (bld f 1 0).1 = chk f := rfl
    rw [hch] at y4 q1
    cases hf with | mk k nm tx kids xs n tk hn hx =>
    simp only [Int.cast_ofNat_Int] at y4
    rcases q1 with ⟨q, t, y, rfl, hq2⟩ | ⟨q, rfl⟩
    · have hqc := isQ_c hq2
      have f1 : decide (((chk (.mk k nm tx kids) : Nat) : Int) = 0) = true := decide_eq_true (by omega)
      simp only [y4, f1, hqc, splice, go_sem, ne_eq, not_false_eq_true, reduceIte, Nat.reduceMul, Nat.reduceAdd, Nat.reduceSub, Nat.reduceEqDiff, Nat.reduceLeDiff, Nat.reduceLT, List.take_succ_cons, List.take_zero, List.drop_succ_cons, List.cons_append]
      exact ⟨_, _, ⟨rfl, rfl⟩, _, by rw [q]; rfl, .inr ⟨_, _, rfl⟩⟩
    · have f1 : decide (((chk (.mk k nm tx kids) : Nat) : Int) = 0) = false := decide_eq_false (by omega)
      simp only [y4, f1, splice, go_sem, ne_eq, not_false_eq_true, reduceIte, Nat.reduceMul, Nat.reduceAdd, Nat.reduceSub, Nat.reduceEqDiff, Nat.reduceLeDiff, Nat.reduceLT, List.take_succ_cons, List.take_zero, List.drop_succ_cons, List.cons_append]
      exact ⟨_, _, ⟨rfl, rfl⟩, _, rfl, .inl rfl⟩
  obtain ⟨v, h', hc, x, rfl, hxx⟩ := key
  obtain ⟨v, h', e1, r⟩ := pick_spec (R := R_ready) hc (by
    intro f' c' e1 hf'
    simp only [List.cons.injEq, V.agg.injEq, and_true] at e1
    subst e1
    rw [← FilR.uniq f f' c hf hf']
    exact ⟨x, rfl, hxx⟩)
  obtain ⟨x, rfl, hxx⟩ := r f c rfl hf
  exact ⟨x, h', e1, hxx⟩
noncomputable def Y_check := ys [(41, pick 41 R_ready)]
theorem t_check : Hp.TellsI tabx told Y_check := itells_cons pick_tells itells_nil
def R_check (a : List V) (v : V) : Prop := ∀ (f : Fil) (c : List V), a = [.agg c] → FilR f c → v = .i .i64 (chk f : Nat)
noncomputable def F_check : List V → Option V := pickP 18 R_check
theorem o_check : ∀ a v, F_check a = some v → Comp tabx told 18 a v := pickP_tells
theorem UH18 : type_of% (@Hp_open _ _ B18.eq_1) := @Hp_open _ _ B18.eq_1
def kz18 (_ : Nat) : List Nat := []
theorem check_eq (f : Fil) (c : List V) (hf : FilR f c) : F_check [.agg c] = some (.i .i64 (chk f : Nat)) := by
  have hc : Comp tabx told 18 [.agg c] (.i .i64 (chk f : Nat)) := Hp.comp_of tells_noX t_check (fn := af18) (kz := kz18) rfl (Nat.le_of_ble_eq_true rfl) fun gl => by
    have hs := FilR.strip f c hf
    obtain ⟨x, h', y4, hxx⟩ := ready_ex f (stripL c) hs
    show Hp.M _ _ _ (.code B18) _ (St.init gl 4 [.agg (stripL c)] _) (Fin [.tmp 2] _)
    rw [UH18]
    generalize stripL c = c2 at hs y4 ⊢
    cases hs with | mk k nm tx kids xs n tk hn hx =>
    rcases hxx with rfl | ⟨t, y, rfl⟩ <;> simp only [Y_check, ys_hit, y4, go_sem, ne_eq, not_false_eq_true, reduceIte, Nat.reduceMul, Nat.reduceAdd, Nat.reduceSub, Nat.reduceEqDiff, Nat.reduceLeDiff, Nat.reduceLT, List.take_succ_cons, List.take_zero, List.drop_succ_cons, List.cons_append]
  obtain ⟨v, e1, r⟩ := pickP_spec (R := R_check) hc (by
    intro f' c' e1 hf'
    simp only [List.cons.injEq, V.agg.injEq, and_true] at e1
    subst e1
    rw [← FilR.uniq f f' c hf hf'])
  rw [r f c rfl hf] at e1
  exact e1
end Go.Proofs.YtbhclhgljnoioaaDoor
set_option linter.unusedSimpArgs false
set_option linter.unusedVariables false
namespace Go.Proofs.YtbhclhgljnoioaaDoor
open Ai
/-- What parse says of tokens. -/
def parR (ts : List Tok) (e : Nat) : PR := (P ts e (20 * ts.length + 9) (.parse 1 1) 0).getD (fil0, 0, 0)
theorem parR_eq (ts : List Tok) (e : Nat) : P ts e (20 * ts.length + 9) (.parse 1 1) 0 = some (parR ts e) ∧ (parR ts e).2.2 ≤ ts.length := by
  obtain ⟨r, h1, _, h2⟩ := P_total ts e (20 * ts.length + 9) (.parse 1 1) 0 (Nat.zero_le _) (by simp only; omega) (by simp only [PQ.rank]; omega)
  unfold parR
  rw [h1]
  exact ⟨rfl, h2⟩
/-- What Filter says: the filter, where an error stands, the error. -/
def filV (ts : List Tok) (e : Nat) : Fil × Nat × Nat :=
  if (parR ts e).2.1 ≠ 0 then (fil0, (tokAt ts e (parR ts e).2.2).at_, (parR ts e).2.1) else
  if chk (parR ts e).1 ≠ 0 then (fil0, (tokAt ts e 0).at_, chk (parR ts e).1) else ((parR ts e).1, 0, 0)
def parseV (s : List UInt8) : Fil × Nat × Nat :=
  match lx s 0 with
  | .bad a e => (fil0, a, e)
  | .ok ts => if (filV ts s.length).2.2 = 0 ∧ (tokAt ts s.length (parR ts s.length).2.2).kind ≠ 0 then (fil0, (tokAt ts s.length (parR ts s.length).2.2).at_, 3) else filV ts s.length
theorem lx_kind : ∀ (n : Nat) (l : List UInt8) (k : Nat) (m : List Tok), l.length ≤ n → lx l k = .ok m → ∀ t ∈ m, 1 ≤ t.kind ∧ t.at_ < k + l.length := by
  intro n
  induction n with
  | zero =>
    intro l k m hn h
    obtain rfl : l = [] := List.length_eq_zero_iff.1 (by omega)
    rw [lx_nil] at h; cases h; intro t ht; cases ht
  | succ n ih =>
    intro l k m hn h
    cases l with
    | nil => rw [lx_nil] at h; cases h; intro t ht; cases ht
    | cons a r =>
      simp only [List.length_cons] at hn ⊢
      rw [lx_cons] at h
      have wl := wh_le letB r
      have wd := wh_le digB r
      have one : ∀ (kd : Nat) (tx : List UInt8) (m' : List Tok) (j j2 : Nat), 1 ≤ kd → lx (r.drop j) (k + j2) = .ok m' → j2 = j + 1 → j ≤ r.length → ∀ t ∈ (⟨kd, tx, k⟩ : Tok) :: m', 1 ≤ t.kind ∧ t.at_ < k + (r.length + 1) := by
        intro kd tx m' j j2 hk hm hj hjr t ht
        rcases List.mem_cons.1 ht with rfl | ht
        · exact ⟨hk, by simp only; omega⟩
        · have := ih _ _ _ (by rw [List.length_drop]; omega) hm t ht
          rw [List.length_drop] at this
          exact ⟨this.1, by omega⟩
      split at h
      · intro t ht; have := ih r _ _ (by omega) h t ht; exact ⟨this.1, by omega⟩
      · split at h
        · cases hq : qscan r [] 1 with
          | none => rw [hq] at h; cases h
          | some p =>
            obtain ⟨x, j⟩ := p
            rw [hq] at h
            obtain ⟨m1, m2⟩ := qscan_k r.length r [] 1 (Nat.le_refl _) x j hq
            obtain ⟨m', e1, rfl⟩ := Lx.cons_ok h
            exact one 2 x m' (j - 1) j (by omega) e1 (by omega) (by omega)
        · split at h
          · obtain ⟨m', e1, rfl⟩ := Lx.cons_ok h
            rw [Nat.add_assoc] at e1
            exact one 1 _ m' _ _ (by omega) e1 (by omega) wl
          · split at h
            · obtain ⟨m', e1, rfl⟩ := Lx.cons_ok h
              rw [Nat.add_assoc] at e1
              exact one 3 _ m' _ _ (by omega) e1 (by omega) wd
            · split at h
              · obtain ⟨m', e1, rfl⟩ := Lx.cons_ok h
                rw [Nat.add_assoc] at e1
                exact one 3 _ m' _ _ (by omega) e1 (by omega) wd
              · split at h
                · obtain ⟨m', e1, rfl⟩ := Lx.cons_ok h
                  exact one 4 _ m' 0 1 (by omega) e1 (by omega) (by omega)
                · cases h
/-! ### Filter -/
def X_fil := xs [(21, F_Tokens)]
noncomputable def X_filc := xs [(18, F_check)]
theorem x_filc : Tells tabx told X_filc := tells_cons o_check tells_nil
def R_fil (ts : List Tok) (e id : Nat) (a : List V) (h : H) (v : V) (h' : H) : Prop := a = [.p id 0] → SO h id ts e 0 → ∃ c, v = .tup [.agg c, .i .i64 ((filV ts e).2.1 : Nat), .i .i64 ((filV ts e).2.2 : Nat)] ∧ FilR (filV ts e).1 c ∧ SO h' id ts e (parR ts e).2.2
theorem UH22 : type_of% (@Hp_open _ _ B22.eq_1) := @Hp_open _ _ B22.eq_1
def kz22 (_ : Nat) : List Nat := []
theorem fil_eq {ts : List Tok} {e id : Nat} {h : H} (ho : SO h id ts e 0) : ∃ c h', pick 22 (R_fil ts e id) [.p id 0] h = some (.tup [.agg c, .i .i64 ((filV ts e).2.1 : Nat), .i .i64 ((filV ts e).2.2 : Nat)], h') ∧ FilR (filV ts e).1 c ∧ SO h' id ts e (parR ts e).2.2 := by
  have key : ∃ v h', Hp.CompI tabx told 22 [.p id 0] h v h' ∧ ∃ c, v = .tup [.agg c, .i .i64 ((filV ts e).2.1 : Nat), .i .i64 ((filV ts e).2.2 : Nat)] ∧ FilR (filV ts e).1 c ∧ SO h' id ts e (parR ts e).2.2 := by
    refine compI_ex (xf := X_filc) (xh := YN ts e id (20 * ts.length + 9)) (kz := kz22) (fn := af22) x_filc (t_YN ts e id _) rfl (Nat.le_of_ble_eq_true rfl) ?_
    show Hp.M _ _ _ (.code B22) _ (St.init gl0 6 _ _) (fun ex st => ∃ v h', Hp.FinI [.cell 2 true 4, .tmp 3, .tmp 4] v h' ex st ∧ _)
    rw [UH22]
    have y1 := y_peek (N := 20 * ts.length + 9) ho
    have hp := (parR_eq ts e).1
    obtain ⟨c, h', y4, q1, q2, q3⟩ := call_parse (s_all ts e id (20 * ts.length + 9)).1 (Nat.le_refl _) (by omega) (by omega) ho hp
    have h1 := ho.1
    simp only [srcC] at h1
    unfold filV
    generalize hr : parR ts e = r at *
    obtain ⟨f, er, a1⟩ := r
    simp only at y4 q1 q3 ⊢
    have y5 := y_peek (N := 20 * ts.length + 9) q3
    simp only [Int.cast_ofNat_Int] at y4
    by_cases he : er = 0
    · subst he
      rw [if_neg (by simp)]
      have yc : X_filc 18 [.agg c] = some (.i .i64 (chk f : Nat)) := check_eq f c q1
      have q1' := q1
      by_cases hk : chk f = 0
      · have f1 : decide ((chk f : Int) = 0) = true := decide_eq_true (by omega)
        rw [if_neg (by rw [hk]; simp)]
        cases q1 with | mk k nm tx kids xs n tk hn hx =>
        simp only [h1, y1, y4, yc, f1, Int.cast_ofNat_Int, go_sem, ne_eq, not_false_eq_true, reduceIte, Nat.reduceMul, Nat.reduceAdd, Nat.reduceSub, Nat.reduceEqDiff, Nat.reduceLeDiff, Nat.reduceLT, List.take_succ_cons, List.take_zero, List.drop_succ_cons, List.cons_append]
        exact ⟨_, _, ⟨rfl, rfl⟩, _, rfl, q1', q3⟩
      · have f1 : decide ((chk f : Int) = 0) = false := decide_eq_false (by omega)
        rw [if_pos hk]
        cases q1 with | mk k nm tx kids xs n tk hn hx =>
        simp only [h1, y1, y4, yc, f1, Int.cast_ofNat_Int, go_sem, ne_eq, not_false_eq_true, reduceIte, Nat.reduceMul, Nat.reduceAdd, Nat.reduceSub, Nat.reduceEqDiff, Nat.reduceLeDiff, Nat.reduceLT, List.take_succ_cons, List.take_zero, List.drop_succ_cons, List.cons_append]
        exact ⟨_, _, ⟨rfl, rfl⟩, _, rfl, fil0R, q3⟩
    · rw [if_pos he]
      have f1 : decide ((er : Int) = 0) = false := decide_eq_false (by omega)
      cases q1 with | mk k nm tx kids xs n tk hn hx =>
      simp only [h1, y1, y4, y5, f1, Int.cast_ofNat_Int, go_sem, ne_eq, not_false_eq_true, reduceIte, Nat.reduceMul, Nat.reduceAdd, Nat.reduceSub, Nat.reduceEqDiff, Nat.reduceLeDiff, Nat.reduceLT, List.take_succ_cons, List.take_zero, List.drop_succ_cons, List.cons_append]
      exact ⟨_, _, ⟨rfl, rfl⟩, _, rfl, fil0R, q3⟩
  obtain ⟨v, h', hc, hr⟩ := key
  obtain ⟨v, h', e1, r⟩ := pick_spec (R := R_fil ts e id) hc (fun _ _ => hr)
  obtain ⟨c, rfl, r1, r2⟩ := r rfl ho
  exact ⟨c, h', e1, r1, r2⟩
end Go.Proofs.YtbhclhgljnoioaaDoor
set_option linter.unusedSimpArgs false
set_option linter.unusedVariables false
namespace Go.Proofs.YtbhclhgljnoioaaDoor
open Ai
theorem x_fil : Tells tabx told X_fil := tells_cons o_Tokens tells_nil
theorem k_box {xf : FuncId → List V → Option V} {xh : FuncId → List V → H → Option (V × H)} (gl : Nat → List V) (T : T) (its : List (Nat × (List UInt8 × Nat))) (loc : List (Nat × List V)) (nx : Nat) (obs : List (Nat × Ai.Obj)) (nt : Nat) (tips : List (Nat × (Nat × TypeId))) (d : Nat) (ty : TypeId) (x : Opd) :
    Hp.stepK xf xh ⟨gl, T, its, loc, ⟨nx, obs, nt, tips⟩⟩ d (.box ty x) = (match (St.ev ⟨gl, T, its, loc, ⟨nx, obs, nt, tips⟩⟩ x).cells? with
      | some cs => some (.p nx 0, ⟨gl, T, its, loc, ⟨nx + 1, (nx, .cells ty cs) :: obs, nt, tips⟩⟩)
      | none => none) := rfl
def R_read (a : List V) (h : H) (v : V) (h' : H) : Prop := ∀ s : List UInt8, a = [.s s] → h = {} → match lx s 0 with
  | .bad a e => v = .tup [.nilp, .i .i64 (a : Nat), .i .i64 (e : Nat)] ∧ h' = {}
  | .ok ts => v = .tup [.p 0 0, .i .i64 0, .i .i64 0] ∧ h' = ⟨1, [(0, srcC ts 0 s.length)], 0, []⟩
theorem UH42 : type_of% (@Hp_open _ _ B42.eq_1) := @Hp_open _ _ B42.eq_1
def kz42 (_ : Nat) : List Nat := []
theorem read_bad {s : List UInt8} (hs : s.length ≤ 1048576) {a e : Nat} (hl : lx s 0 = .bad a e) : pick 42 R_read [.s s] {} = some (.tup [.nilp, .i .i64 (a : Nat), .i .i64 (e : Nat)], {}) := by
  have hc : Hp.CompI tabx told 42 [.s s] {} (.tup [.nilp, .i .i64 (a : Nat), .i .i64 (e : Nat)]) {} := Hp.compI_of (kz := kz42) x_fil tells_noY (fn := af42) rfl (Nat.le_of_ble_eq_true rfl) fun gl => by
    show Hp.M _ _ _ (.code B42) _ (St.init gl 5 _ _) (Hp.FinI [.tmp 2, .tmp 3, .tmp 4] _ _)
    rw [UH42]
    have y1 : X_fil 21 [.s s] = some (tokR [] (lx s 0)) := F_Tokens1 s hs
    rw [hl] at y1
    have he := (lx_bad _ s 0 a e (Nat.le_refl _) hl).1
    have f1 : decide ((e : Int) = 0) = false := decide_eq_false (by omega)
    simp only [tokR] at y1
    simp only [y1, f1, go_sem, ne_eq, not_false_eq_true, reduceIte, Nat.reduceMul, Nat.reduceAdd, Nat.reduceSub, Nat.reduceEqDiff, Nat.reduceLeDiff, Nat.reduceLT, List.take_succ_cons, List.take_zero, List.drop_succ_cons, List.cons_append]
  obtain ⟨v, h', e1, r⟩ := pick_spec (R := R_read) hc (by
    intro s' e1 _
    simp only [List.cons.injEq, V.s.injEq, and_true] at e1
    subst e1
    rw [hl]
    exact ⟨rfl, rfl⟩)
  have r := r s rfl rfl
  rw [hl] at r
  obtain ⟨rfl, rfl⟩ := r
  exact e1
theorem read_ok {s : List UInt8} (hs : s.length ≤ 1048576) {ts : List Tok} (hl : lx s 0 = .ok ts) : pick 42 R_read [.s s] {} = some (.tup [.p 0 0, .i .i64 0, .i .i64 0], ⟨1, [(0, srcC ts 0 s.length)], 0, []⟩) := by
  have hc : Hp.CompI tabx told 42 [.s s] {} (.tup [.p 0 0, .i .i64 0, .i .i64 0]) ⟨1, [(0, srcC ts 0 s.length)], 0, []⟩ := Hp.compI_of (kz := kz42) x_fil tells_noY (fn := af42) rfl (Nat.le_of_ble_eq_true rfl) fun gl => by
    show Hp.M _ _ _ (.code B42) _ (St.init gl 5 _ _) (Hp.FinI [.tmp 2, .tmp 3, .tmp 4] _ _)
    rw [UH42]
    have y1 : X_fil 21 [.s s] = some (tokR [] (lx s 0)) := F_Tokens1 s hs
    rw [hl] at y1
    simp only [tokR, List.nil_append] at y1
    simp only [y1, srcC, k_box, Int.cast_ofNat_Int, go_sem, ne_eq, not_false_eq_true, reduceIte, Nat.reduceMul, Nat.reduceAdd, Nat.reduceSub, Nat.reduceEqDiff, Nat.reduceLeDiff, Nat.reduceLT, List.take_succ_cons, List.take_zero, List.drop_succ_cons, List.cons_append]
  obtain ⟨v, h', e1, r⟩ := pick_spec (R := R_read) hc (by
    intro s' e1 _
    simp only [List.cons.injEq, V.s.injEq, and_true] at e1
    subst e1
    rw [hl]
    exact ⟨rfl, rfl⟩)
  have r := r s rfl rfl
  rw [hl] at r
  obtain ⟨rfl, rfl⟩ := r
  exact e1
noncomputable def Y_parse (ts : List Tok) (e : Nat) := ys [(42, pick 42 R_read), (22, pick 22 (R_fil ts e 0)), (23, pick 23 (R_peek ts e 0))]
theorem t_parse (ts : List Tok) (e : Nat) : Hp.TellsI tabx told (Y_parse ts e) := itells_cons pick_tells (itells_cons pick_tells (itells_cons pick_tells itells_nil))
def R_parseP (a : List V) (v : V) : Prop := ∀ s : List UInt8, a = [.s s] → ∃ c, v = .tup [.agg c, .i .i64 ((parseV s).2.1 : Nat), .i .i64 ((parseV s).2.2 : Nat)] ∧ FilR (parseV s).1 c
noncomputable def F_parse : List V → Option V := pickP 19 R_parseP
theorem o_parse : ∀ a v, F_parse a = some v → Comp tabx told 19 a v := pickP_tells
theorem fil0_ok : (bld fil0 1 0).1 = 0 := by decide
theorem filV_ok (ts : List Tok) (e : Nat) : (bld (filV ts e).1 1 0).1 = 0 := by
  unfold filV
  split
  · exact fil0_ok
  · split
    · exact fil0_ok
    · rename_i h; exact Decidable.not_not.1 h
theorem UH19 : type_of% (@Hp_open _ _ B19.eq_1) := @Hp_open _ _ B19.eq_1
def kz19 (_ : Nat) : List Nat := []
theorem parse_eq (s : List UInt8) (hs : s.length ≤ 1048576) : ∃ c, F_parse [.s s] = some (.tup [.agg c, .i .i64 ((parseV s).2.1 : Nat), .i .i64 ((parseV s).2.2 : Nat)]) ∧ FilR (parseV s).1 c := by
  have key : ∃ v, Comp tabx told 19 [.s s] v ∧ ∃ c, v = .tup [.agg c, .i .i64 ((parseV s).2.1 : Nat), .i .i64 ((parseV s).2.2 : Nat)] ∧ FilR (parseV s).1 c := by
    unfold parseV
    cases hl : lx s 0 with
    | bad a e =>
      refine comp_ex (xf := noX) (xh := Y_parse [] 0) (kz := kz19) (fn := af19) tells_noX (t_parse _ _) rfl (Nat.le_of_ble_eq_true rfl) ?_
      show Hp.M _ _ _ (.code B19) _ (St.init gl0 6 [.s s] _) (fun ex st => ∃ v, Fin [.cell 2 true 4, .tmp 3, .tmp 4] v ex st ∧ _)
      rw [UH19]
      have y1 : Y_parse [] 0 42 [.s s] {} = _ := read_bad hs hl
      have he := (lx_bad _ s 0 a e (Nat.le_refl _) hl).1
      have f1 : decide ((e : Int) = 0) = false := decide_eq_false (by omega)
      simp only [y1, f1, go_sem, ne_eq, not_false_eq_true, reduceIte, Nat.reduceMul, Nat.reduceAdd, Nat.reduceSub, Nat.reduceEqDiff, Nat.reduceLeDiff, Nat.reduceLT, List.take_succ_cons, List.take_zero, List.drop_succ_cons, List.cons_append]
      exact ⟨_, rfl, _, rfl, fil0R⟩
    | ok ts =>
      have hk := lx_kind _ s 0 ts (Nat.le_refl _) hl
      have hlen := lx_len _ s 0 ts (Nat.le_refl _) hl
      have ho : SO ⟨1, [(0, srcC ts 0 s.length)], 0, []⟩ 0 ts s.length 0 := ⟨rfl, Nat.zero_le _, by omega, fun t ht => (hk t ht).1⟩
      obtain ⟨c, h', y2, q1, q2⟩ := fil_eq ho
      have hbo := filV_ok ts s.length
      have hfz := FilR.frz h' _ c 1 0 98 q1 hbo (by decide)
      refine comp_ex (xf := noX) (xh := Y_parse ts s.length) (kz := kz19) (fn := af19) tells_noX (t_parse _ _) rfl (Nat.le_of_ble_eq_true rfl) ?_
      show Hp.M _ _ _ (.code B19) _ (St.init gl0 6 [.s s] _) (fun ex st => ∃ v, Fin [.cell 2 true 4, .tmp 3, .tmp 4] v ex st ∧ _)
      rw [UH19]
      have y1 : Y_parse ts s.length 42 [.s s] {} = _ := read_ok hs hl
      replace y2 : Y_parse ts s.length 22 [.p 0 0] _ = _ := y2
      have y3 : Y_parse ts s.length 23 [.p 0 0] h' = some (.agg [.i .i64 (tokAt ts s.length (parR ts s.length).2.2).kind, .s (tokAt ts s.length (parR ts s.length).2.2).text, .i .i64 (tokAt ts s.length (parR ts s.length).2.2).at_], h') := peek_eq ts s.length 0 q2
      dsimp only
      generalize filV ts s.length = r at *
      obtain ⟨f, pos, er⟩ := r
      generalize tokAt ts s.length (parR ts s.length).2.2 = tk at *
      simp only at y2 q1 hfz ⊢
      by_cases he : er = 0
      · subst he
        by_cases hkk : tk.kind = 0
        · rw [if_neg (by omega)]
          have f1 : decide ((tk.kind : Int) = 0) = true := decide_eq_true (by omega)
          cases q1 with | mk k nm tx kids xs n tk1 hn hx =>
          simp only [y1, y2, y3, f1, Int.cast_ofNat_Int, go_sem, ne_eq, not_false_eq_true, reduceIte, Nat.reduceMul, Nat.reduceAdd, Nat.reduceSub, Nat.reduceEqDiff, Nat.reduceLeDiff, Nat.reduceLT, List.take_succ_cons, List.take_zero, List.drop_succ_cons, List.cons_append]
          exact ⟨_, rfl, _, rfl, hfz⟩
        · rw [if_pos ⟨rfl, hkk⟩]
          have f1 : decide ((tk.kind : Int) = 0) = false := decide_eq_false (by omega)
          cases q1 with | mk k nm tx kids xs n tk1 hn hx =>
          simp only [y1, y2, y3, f1, Int.cast_ofNat_Int, go_sem, ne_eq, not_false_eq_true, reduceIte, Nat.reduceMul, Nat.reduceAdd, Nat.reduceSub, Nat.reduceEqDiff, Nat.reduceLeDiff, Nat.reduceLT, List.take_succ_cons, List.take_zero, List.drop_succ_cons, List.cons_append]
          exact ⟨_, rfl, _, rfl, fil0R⟩
      · rw [if_neg (by omega)]
        have f1 : decide ((er : Int) = 0) = false := decide_eq_false (by omega)
        cases q1 with | mk k nm tx kids xs n tk1 hn hx =>
        simp only [y1, y2, y3, f1, Int.cast_ofNat_Int, go_sem, ne_eq, not_false_eq_true, reduceIte, Nat.reduceMul, Nat.reduceAdd, Nat.reduceSub, Nat.reduceEqDiff, Nat.reduceLeDiff, Nat.reduceLT, List.take_succ_cons, List.take_zero, List.drop_succ_cons, List.cons_append]
        exact ⟨_, rfl, _, rfl, hfz⟩
  obtain ⟨v, hc, hr⟩ := key
  obtain ⟨v, e1, r⟩ := pickP_spec (R := R_parseP) hc (by
    intro s' e1
    simp only [List.cons.injEq, V.s.injEq, and_true] at e1
    subst e1
    exact hr)
  obtain ⟨c, rfl, r1⟩ := r s rfl
  exact ⟨c, e1, r1⟩
end Go.Proofs.YtbhclhgljnoioaaDoor
set_option linter.unusedSimpArgs false
set_option linter.unusedVariables false
namespace Go.Proofs.YtbhclhgljnoioaaDoor
open Ai
/-! Texts that are not too long. -/
mutual
def okL : Fil → Prop
  | .mk _ nm tx kids => nm.length ≤ 4096 ∧ tx.length ≤ 4096 ∧ okLs kids
def okLs : List Fil → Prop
  | [] => True
  | f :: r => okL f ∧ okLs r
end
/-! ### The walk -/
section
variable {id D : Nat}
end
/-! ### light -/
end Go.Proofs.YtbhclhgljnoioaaDoor
set_option linter.unusedSimpArgs false
set_option linter.unusedVariables false
namespace Go.Proofs.YtbhclhgljnoioaaDoor
open Ai
/-! ### May -/
/-! ### walk -/
theorem blds_cnt : ∀ (l : List Fil) (d w : Nat), w ≤ 24 → (blds l d w).1 = 0 → w + l.length ≤ (blds l d w).2
  | [], d, w, _, _ => by rw [blds]; exact Nat.le_refl _
  | f :: r, d, w, hw, h => by
    rw [blds] at h ⊢
    split at h
    · rename_i h0
      rw [if_pos h0]
      have h1 := bld_gt f d w hw
      have h2 := blds_cnt r d _ ((bld_le f d w hw).2 h0) h
      simp only [List.length_cons]; omega
    · rename_i h0; exact absurd h h0
theorem blds_mem : ∀ (l : List Fil) (d w : Nat), w ≤ 24 → (blds l d w).1 = 0 → ∀ (pre : List Fil) (f : Fil) (post : List Fil), l = pre ++ f :: post → ∃ w', w' ≤ 24 ∧ (bld f d w').1 = 0
  | [], d, w, _, _, pre, f, post, e => by cases pre <;> cases e
  | g :: r, d, w, hw, h, pre, f, post, e => by
    rw [blds] at h
    split at h
    · rename_i h0
      cases pre with
      | nil => cases e; exact ⟨w, hw, h0⟩
      | cons p pre => cases e; exact blds_mem _ d _ ((bld_le g d w hw).2 h0) h pre f post rfl
    · rename_i h0; exact absurd h h0
theorem okLs_split : ∀ (l : List Fil), okLs l → ∀ (pre : List Fil) (f : Fil) (post : List Fil), l = pre ++ f :: post → okL f
  | [], _, pre, f, post, e => by cases pre <;> cases e
  | g :: r, h, pre, f, post, e => by
    rw [okLs] at h
    cases pre with
    | nil => cases e; exact h.1
    | cons p pre => cases e; exact okLs_split _ h.2 pre f post rfl
section
variable {D : Nat}
end
/-! ### Check -/
end Go.Proofs.YtbhclhgljnoioaaDoor
set_option linter.unusedSimpArgs false
set_option linter.unusedVariables false
namespace Go.Proofs.YtbhclhgljnoioaaDoor
open Ai Go.Shelf
/-! ### Join over rows of the shared memory -/
def H_Join (a : List V) (h : H) : Option (V × H) := match joinV (a.map (thaw h)) with
  | some (.s l) => some (.s l, h)
  | _ => none
theorem i_Join : ∀ a h v h', H_Join a h = some (v, h') → Hp.CompI tabx told 66 a h v h' := fun a h v h' e => by
  unfold H_Join at e
  split at e
  · rename_i l hl
    cases e
    refine Hp.compI_primH ?_
    show xf 66 _ = _
    rw [show xf 66 (a.map (thaw h)) = joinV (a.map (thaw h)) from rfl]
    exact hl
  · cases e
theorem strsOf_map (l : List (List UInt8)) : strsOf (l.map V.s) = some l := by
  induction l with
  | nil => rfl
  | cons x r ih => simp only [List.map_cons, strsOf, ih, Option.map_some]
theorem nble {a b : Nat} (h : a ≤ b) : Nat.ble a b = true := Nat.ble_eq_true_of_le h
theorem nbeq (a : Nat) : Nat.beq a a = true := Nat.beq_refl a
theorem nbne {a b : Nat} (h : a ≠ b) : Nat.beq a b = false := by
  cases hb : Nat.beq a b with
  | true => exact absurd (Nat.eq_of_beq_eq_true hb) h
  | false => rfl
theorem H_JoinS {l : List (List UInt8)} {n : Nat} {tk : Tk} (sep : List UInt8) (h : H) (hn : l.length = n) (h1 : n ≤ 1000) (h2 : (Lib.join l sep).length ≤ 140737488355328) : H_Join [.sl (l.map V.s) n tk, .s sep] h = some (.s (Lib.join l sep), h) := by
  unfold H_Join
  simp only [List.map_cons, List.map_nil, thaw, joinV, strsOf_map, List.length_map, hn, nbeq, nble (show n ≤ 140737488355328 by omega), nble h2, Bool.and_self, cond_true]
theorem H_JoinH {h : H} {id n : Nat} {ty : TypeId} {l : List (List UInt8)} (sep : List UInt8) (ho : al h.objs id = some (.cells ty (l.map V.s))) (hn : l.length = n) (h1 : n ≤ 1000) (h2 : (Lib.join l sep).length ≤ 140737488355328) :
    H_Join [.hs id 0 n 1, .s sep] h = some (.s (Lib.join l sep), h) := by
  have e : ([.hs id 0 n 1, .s sep] : List V).map (thaw h) = [.sl (l.map V.s) n .no, .s sep] := by
    have hs : sub? (l.map V.s) 0 (n * 1) = some (l.map V.s) := by
      rw [Nat.mul_one]
      unfold sub?
      have : (List.take n (List.drop 0 (List.map V.s l))) = l.map V.s := by rw [List.drop_zero, List.take_of_length_le (by simp; omega)]
      simp only [this, List.length_map, hn, nbeq, cond_true]
    simp only [List.map_cons, List.map_nil, thaw, ho, hs]
  have := H_JoinS (tk := .no) sep h hn h1 h2
  unfold H_Join at this ⊢
  rw [e]
  simpa only [List.map_cons, List.map_nil, thaw] using this
/-- A row of texts that is appended to: an object, once it is not empty. -/
def LB (h : H) (v : V) (l : List (List UInt8)) : Prop := (l = [] ∧ v = .sl [] 0 .nil) ∨ (l ≠ [] ∧ ∃ id, v = .hs id 0 l.length 1 ∧ id < h.next ∧ al h.objs id = some (.cells 9 (l.map V.s)))
theorem LB.step {nx : Nat} {obs : List (Nat × Ai.Obj)} {nt : Nat} {tips : List (Nat × (Nat × TypeId))} {v : V} {l : List (List UInt8)} (hb : LB ⟨nx, obs, nt, tips⟩ v l) (x : List UInt8) (hm : l.length + 1 ≤ most) :
    ∃ v' h', (∀ gl T its loc, St.appo ⟨gl, T, its, loc, ⟨nx + 1, (nx, .cells 9 [.s x]) :: obs, nt, tips⟩⟩ 9 1 v (.hs nx 0 1 1) = some (v', ⟨gl, T, its, loc, h'⟩)) ∧ LB h' v' (l ++ [x]) := by
  have hrow : ∀ gl T its loc, St.row ⟨gl, T, its, loc, ⟨nx + 1, (nx, .cells 9 [.s x]) :: obs, nt, tips⟩⟩ 1 (.hs nx 0 1 1) = some ([.s x], 1) := by
    intro gl T its loc
    simp only [St.row, nbeq, cond_true, al, sub?, List.drop_zero, Nat.mul_one, List.take_succ_cons, List.take_nil, List.length_cons, List.length_nil, Nat.zero_add, Option.map_some]
  have ha : allOne [V.s x] = true := rfl
  rcases hb with ⟨rfl, rfl⟩ | ⟨hne, id, rfl, hid, ho⟩
  · refine ⟨.hs (nx + 1) 0 1 1, ⟨nx + 2, (nx + 1, .cells 9 [.s x]) :: (nx, .cells 9 [.s x]) :: obs, nt, tips⟩, fun gl T its loc => ?_, .inr ⟨by simp, nx + 1, rfl, ?_, ?_⟩⟩
    · unfold St.appo
      rw [hrow]
      rfl
    · exact Nat.lt_succ_self _
    · simp only [al, nbeq, cond_true]; rfl
  · simp only at hid ho
    have hl0 : 0 < l.length := List.length_pos_iff.2 hne
    refine ⟨.hs (nx + 1) 0 (l.length + 1) 1, ⟨nx + 2, (nx + 1, .cells 9 (l.map V.s ++ [.s x])) :: (((nx, .cells 9 [.s x]) :: obs).filter fun p => !Nat.beq p.1 id), nt, tips⟩, fun gl T its loc => ?_, .inr ⟨by simp, nx + 1, ?_, ?_, ?_⟩⟩
    · unfold St.appo
      rw [hrow]
      have ho' : al ((nx, Ai.Obj.cells 9 [.s x]) :: obs) id = some (.cells 9 (l.map V.s)) := by simp only [al, nbne (show nx ≠ id by omega), cond_false]; exact ho
      simp only [ho', ha, Bool.not_true, cond_false, nbne (show (1 : Nat) ≠ 0 by decide), nbeq, List.length_map, Nat.mul_one, Bool.and_true, Bool.true_and, Nat.blt, nble (show 0 + 1 ≤ l.length by omega), nble hm, cond_true, H.drop, H.new]
    · rw [List.length_append]; rfl
    · exact Nat.lt_succ_self _
    · simp only [al, nbeq, cond_true, List.map_append, List.map_cons, List.map_nil]
/-! ### The text of a filter -/
def bindF : Fil → Nat
  | .mk k _ _ kids => if k = 6 ∧ 1 < kids.length then 1 else if k = 5 ∧ 1 < kids.length then 2 else 3
mutual
def tellF : Fil → List UInt8
  | .mk k nm tx kids =>
    if k = 0 then [97, 108, 108] else if k = 1 then [107, 101, 121, 32, 94, 32] ++ quoteV tx else if k = 2 then nm ++ [32, 61, 32] ++ quoteV tx else if k = 3 then [112, 117, 116] else
    if k = 4 then [110, 111, 116, 32] ++ (tellW kids 3).headD [] else
    if 1 < kids.length then Lib.join (tellW kids (if k = 5 then 3 else 2)) (if k = 5 then [32, 97, 110, 100, 32] else [32, 111, 114, 32]) else
    (if k = 5 then [101, 97, 99, 104, 40] else [97, 110, 121, 40]) ++ Lib.join (tellL kids) [44, 32] ++ [41]
def tellW : List Fil → Nat → List (List UInt8)
  | [], _ => []
  | f :: r, b => (if bindF f < b then [40] ++ tellF f ++ [41] else tellF f) :: tellW r b
def tellL : List Fil → List (List UInt8)
  | [] => []
  | f :: r => tellF f :: tellL r
end
def withinF (f : Fil) (b : Nat) : List UInt8 := if bindF f < b then [40] ++ tellF f ++ [41] else tellF f
theorem tellW_len (b : Nat) : ∀ l : List Fil, (tellW l b).length = l.length
  | [] => by rw [tellW]; rfl
  | f :: r => by rw [tellW, List.length_cons, tellW_len b r, List.length_cons]
theorem tellW_app (b : Nat) (l m : List Fil) : tellW (l ++ m) b = tellW l b ++ tellW m b := by
  induction l with
  | nil => rw [tellW]; rfl
  | cons f r ih => rw [List.cons_append, tellW, tellW, ih]; rfl
theorem tellW_one (f : Fil) (b : Nat) : tellW [f] b = [withinF f b] := by rw [tellW, tellW]; rfl
/-! It is not too long. -/
mutual
def cnt : Fil → Nat
  | .mk _ _ _ kids => 1 + cnts kids
def cnts : List Fil → Nat
  | [] => 0
  | f :: r => cnt f + cnts r
end
mutual
theorem bld_cnt : ∀ (f : Fil) (d w : Nat), w ≤ 24 → (bld f d w).1 = 0 → w + cnt f ≤ (bld f d w).2
  | .mk k nm tx kids, d, w, hw, h => by
    rw [bld] at h ⊢
    split at h
    · cases h
    · rename_i h1
      rw [if_neg h1]
      split at h
      · cases h
      · rename_i h2
        rw [if_neg h2]
        have := blds_cnt' kids (d + 1) (w + 1) (by omega) h
        rw [cnt]; omega
theorem blds_cnt' : ∀ (l : List Fil) (d w : Nat), w ≤ 24 → (blds l d w).1 = 0 → w + cnts l ≤ (blds l d w).2
  | [], d, w, _, _ => by rw [blds, cnts]; exact Nat.le_refl _
  | f :: r, d, w, hw, h => by
    rw [blds] at h ⊢
    split at h
    · rename_i h0
      rw [if_pos h0]
      have h1 := bld_cnt f d w hw h0
      have h2 := blds_cnt' r d _ ((bld_le f d w hw).2 h0) h
      rw [cnts]; omega
    · rename_i h0; exact absurd h h0
end
/-- The texts' bytes, and so many more for each. -/
def lsum (l : List (List UInt8)) (a : Nat) : Nat := match l with
  | [] => 0
  | x :: r => x.length + a + lsum r a
theorem join_le (l : List (List UInt8)) (sep : List UInt8) (a : Nat) (h : sep.length ≤ a) : (Lib.join l sep).length ≤ lsum l a := by
  cases l with
  | nil => exact Nat.zero_le _
  | cons x r =>
    have key : ∀ (r : List (List UInt8)) (x : List UInt8), (Lib.join (x :: r) sep).length ≤ lsum (x :: r) a := by
      intro r
      induction r with
      | nil => intro x; rw [Lib.join_one]; simp only [lsum]; omega
      | cons y r ih =>
        intro x
        have := ih y
        have e : Lib.join (x :: y :: r) sep = x ++ (sep ++ Lib.join (y :: r) sep) := by simp [Lib.join, List.intercalate]
        rw [e, List.length_append, List.length_append, lsum]
        omega
    exact key r x
mutual
theorem tellF_len : ∀ f : Fil, okL f → (tellF f).length + 100 ≤ 50000 * cnt f
  | .mk k nm tx kids, h => by
    rw [okL] at h
    obtain ⟨h1, h2, h3⟩ := h
    have hq := quoteV_len tx
    have hW := fun b => tellW_sum kids b h3
    have hL := tellL_sum kids h3
    rw [tellF, cnt]
    split
    · simp only [List.length_cons, List.length_nil]; omega
    · split
      · simp only [List.length_append, List.length_cons, List.length_nil]; omega
      · split
        · simp only [List.length_append, List.length_cons, List.length_nil]; omega
        · split
          · simp only [List.length_cons, List.length_nil]; omega
          · split
            · have := hW 3
              cases hk : tellW kids 3 with
              | nil => simp only [List.headD_nil, List.length_append, List.length_cons, List.length_nil]; omega
              | cons x r =>
                rw [hk, lsum] at this
                simp only [List.headD_cons, List.length_append, List.length_cons, List.length_nil]; omega
            · split
              · have hb := hW (if k = 5 then 3 else 2)
                have := join_le (tellW kids (if k = 5 then 3 else 2)) (if k = 5 then [32, 97, 110, 100, 32] else [32, 111, 114, 32]) 5 (by split <;> simp)
                omega
              · have := join_le (tellL kids) [44, 32] 5 (by simp)
                have hc : (if k = 5 then [101, 97, 99, 104, 40] else [97, 110, 121, 40] : List UInt8).length ≤ 5 := by split <;> simp
                simp only [List.length_append, List.length_cons, List.length_nil]; omega
theorem tellW_sum : ∀ (l : List Fil) (b : Nat), okLs l → lsum (tellW l b) 5 ≤ 50000 * cnts l
  | [], b, _ => by rw [tellW]; exact Nat.zero_le _
  | f :: r, b, h => by
    rw [okLs] at h
    have h1 := tellF_len f h.1
    have h2 := tellW_sum r b h.2
    rw [tellW, lsum, cnts]
    split
    · simp only [List.length_append, List.length_cons, List.length_nil]; omega
    · omega
theorem tellL_sum : ∀ (l : List Fil), okLs l → lsum (tellL l) 5 ≤ 50000 * cnts l
  | [], _ => by rw [tellL]; exact Nat.zero_le _
  | f :: r, h => by
    rw [okLs] at h
    have h1 := tellF_len f h.1
    have h2 := tellL_sum r h.2
    rw [tellL, lsum, cnts]
    omega
end
/-- What holds of a filter that is told. -/
structure Fine (f : Fil) (d : Nat) : Prop where
  ok : okL f
  b : ∃ w, w ≤ 24 ∧ (bld f d w).1 = 0
theorem Fine.len {f : Fil} {d : Nat} (h : Fine f d) : (tellF f).length ≤ 1300000 := by
  obtain ⟨w, h1, h2⟩ := h.b
  have h3 := bld_cnt f d w h1 h2
  have h4 := (bld_le f d w h1).2 h2
  have := tellF_len f h.ok
  omega
theorem Fine.kid {k : Int} {nm tx : List UInt8} {kids : List Fil} {d : Nat} (h : Fine (.mk k nm tx kids) d) : ∀ (pre : List Fil) (f : Fil) (post : List Fil), kids = pre ++ f :: post → Fine f (d + 1) := by
  intro pre f post e
  obtain ⟨w, h1, h2⟩ := h.b
  have ho := h.ok
  rw [okL] at ho
  rw [bld] at h2
  split at h2
  · cases h2
  · split at h2
    · cases h2
    · exact ⟨okLs_split _ ho.2.2 pre f post e, blds_mem kids _ _ (by omega) h2 pre f post e⟩
theorem Fine.may {k : Int} {nm tx : List UInt8} {kids : List Fil} {d : Nat} (h : Fine (.mk k nm tx kids) d) : mayB k nm tx kids.length = true ∧ d ≤ 6 ∧ kids.length ≤ 24 ∧ nm.length ≤ 4096 ∧ tx.length ≤ 4096 ∧ 50000 * cnts kids ≤ 1200000 ∧ okLs kids := by
  obtain ⟨w, h1, h2⟩ := h.b
  have ho := h.ok
  rw [okL] at ho
  rw [bld] at h2
  split at h2
  · cases h2
  · split at h2
    · cases h2
    · rename_i h3 h4
      have h5 := blds_cnt kids (d + 1) (w + 1) (by omega) h2
      have h6 := (blds_le kids (d + 1) (w + 1) (by omega)).2 h2
      have h7 := blds_cnt' kids (d + 1) (w + 1) (by omega) h2
      exact ⟨by simpa using h4, by omega, by omega, ho.1, ho.2.1, by omega, ho.2.2⟩
theorem may_kind {k : Int} {nm tx : List UInt8} {n : Nat} (h : mayB k nm tx n = true) : 0 ≤ k ∧ k ≤ 6 ∧ (k = 4 → n = 1) := by
  unfold mayB at h
  split at h
  · omega
  · split at h
    · omega
    · split at h
      · omega
      · split at h
        · simp only [Bool.and_eq_true, decide_eq_true_eq] at h
          exact ⟨by omega, by omega, fun _ => h.2.2⟩
        · split at h
          · omega
          · cases h
end Go.Proofs.YtbhclhgljnoioaaDoor
