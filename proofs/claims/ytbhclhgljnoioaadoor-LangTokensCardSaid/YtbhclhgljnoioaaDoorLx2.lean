/- lang: letters, digits, signs; a rune by its digits to the base 16. -/
import Derived.Test.YtbhclhgljnoioaaDoorLx1
set_option linter.unusedSimpArgs false
set_option linter.unusedVariables false
namespace Go.Proofs.YtbhclhgljnoioaaDoor
open Ai
def letB (c : Nat) : Bool := decide (97 ≤ c) && decide (c ≤ 122)
def digB (c : Nat) : Bool := decide (48 ≤ c) && decide (c ≤ 57)
def sgnB (c : Nat) : Bool := c == 40 || (c == 41 || (c == 61 || (c == 94 || (c == 60 || (c == 62 || c == 44)))))
theorem nz (a b : Nat) : decide ((a : Int) ≤ (b : Int)) = decide (a ≤ b) := decide_eq_decide.2 Int.ofNat_le
theorem nl (a b : Nat) : decide ((a : Int) < (b : Int)) = decide (a < b) := decide_eq_decide.2 Int.ofNat_lt
theorem U45 {xf : FuncId → List V → Option V} {kz : Nat → List Nat} {k : List Fr} {st : St} {Q : AEx → St → Prop} : M xf kz (.code B45) k st Q = M xf kz (.code (.seq (.reg [⟨some 2, .mov (.k (.b false)), none⟩])
  (.seq (.reg [⟨some 3, .mov (.t 0), none⟩,
     ⟨some 4, .bin .geq (.t 3) (.k (.i .i32 97)), none⟩,
     ⟨some 5, .mov (.t 4), none⟩,
     ⟨some 6, .mov (.t 0), some (5, true)⟩,
     ⟨some 7, .bin .leq (.t 6) (.k (.i .i32 122)), some (5, true)⟩,
     ⟨some 8, .pick (.t 5) (.t 7) (.k (.b false)), none⟩,
     ⟨some 2, .mov (.t 8), none⟩])
  .ret))) k st Q := rfl
def kz45 (_ : Nat) : List Nat := []
theorem w_letter (c : Nat) (gl : Nat → List V) : M noX (kz45) (.code B45) [] (St.init gl 4 [.i .i32 c] {}) (Fin [.tmp 2] (.b (letB c))) := by
  have e1 : decide ((97 : Int) ≤ (c : Int)) = decide (97 ≤ c) := nz 97 c
  have e2 : decide ((c : Int) ≤ (122 : Int)) = decide (c ≤ 122) := nz c 122
  rw [U45]
  simp only [e1, e2, go_sem, ne_eq, not_false_eq_true, reduceIte, Nat.reduceMul, Nat.reduceAdd, Nat.reduceSub, Nat.reduceEqDiff, Nat.reduceLeDiff, Nat.reduceLT, List.take_succ_cons, List.take_zero, List.drop_succ_cons, List.cons_append]
  cases f1 : decide (97 ≤ c) <;> simp only [f1, e2, letB, go_sem, ne_eq, not_false_eq_true, reduceIte, Nat.reduceMul, Nat.reduceAdd, Nat.reduceSub, Nat.reduceEqDiff, Nat.reduceLeDiff, Nat.reduceLT, List.take_succ_cons, List.take_zero, List.drop_succ_cons, List.cons_append]
def F_let (a : List V) : Option V := match a with
  | [.i .i32 (Int.ofNat n)] => some (.b (letB n))
  | _ => none
theorem o_let : ∀ a v, F_let a = some v → Comp tabx told 45 a v := fun a v e => by
  unfold F_let at e
  split at e
  · cases e; exact comp_of tells_noX (fn := af45) rfl (Nat.le_of_ble_eq_true rfl) fun gl => w_letter _ gl
  · cases e
theorem U47 {xf : FuncId → List V → Option V} {kz : Nat → List Nat} {k : List Fr} {st : St} {Q : AEx → St → Prop} : M xf kz (.code B47) k st Q = M xf kz (.code (.seq (.reg [⟨some 2, .mov (.k (.b false)), none⟩])
  (.seq (.reg [⟨some 3, .mov (.t 0), none⟩,
     ⟨some 4, .bin .geq (.t 3) (.k (.i .i32 48)), none⟩,
     ⟨some 5, .mov (.t 4), none⟩,
     ⟨some 6, .mov (.t 0), some (5, true)⟩,
     ⟨some 7, .bin .leq (.t 6) (.k (.i .i32 57)), some (5, true)⟩,
     ⟨some 8, .pick (.t 5) (.t 7) (.k (.b false)), none⟩,
     ⟨some 2, .mov (.t 8), none⟩])
  .ret))) k st Q := rfl
def kz47 (_ : Nat) : List Nat := []
theorem w_digit (c : Nat) (gl : Nat → List V) : M noX (kz47) (.code B47) [] (St.init gl 4 [.i .i32 c] {}) (Fin [.tmp 2] (.b (digB c))) := by
  have e1 : decide ((48 : Int) ≤ (c : Int)) = decide (48 ≤ c) := nz 48 c
  have e2 : decide ((c : Int) ≤ (57 : Int)) = decide (c ≤ 57) := nz c 57
  rw [U47]
  simp only [e1, e2, go_sem, ne_eq, not_false_eq_true, reduceIte, Nat.reduceMul, Nat.reduceAdd, Nat.reduceSub, Nat.reduceEqDiff, Nat.reduceLeDiff, Nat.reduceLT, List.take_succ_cons, List.take_zero, List.drop_succ_cons, List.cons_append]
  cases f1 : decide (48 ≤ c) <;> simp only [f1, e2, digB, go_sem, ne_eq, not_false_eq_true, reduceIte, Nat.reduceMul, Nat.reduceAdd, Nat.reduceSub, Nat.reduceEqDiff, Nat.reduceLeDiff, Nat.reduceLT, List.take_succ_cons, List.take_zero, List.drop_succ_cons, List.cons_append]
def F_dig (a : List V) : Option V := match a with
  | [.i .i32 (Int.ofNat n)] => some (.b (digB n))
  | _ => none
theorem o_dig : ∀ a v, F_dig a = some v → Comp tabx told 47 a v := fun a v e => by
  unfold F_dig at e
  split at e
  · cases e; exact comp_of tells_noX (fn := af47) rfl (Nat.le_of_ble_eq_true rfl) fun gl => w_digit _ gl
  · cases e
theorem ne_ (a b : Nat) : decide ((a : Int) = (b : Int)) = (a == b) := by
  rw [show (a == b) = decide (a = b) from rfl]
  exact decide_eq_decide.2 Int.ofNat_inj
theorem U48 {xf : FuncId → List V → Option V} {kz : Nat → List Nat} {k : List Fr} {st : St} {Q : AEx → St → Prop} : M xf kz (.code B48) k st Q = M xf kz (.code (.seq (.reg [⟨some 2, .mov (.k (.b false)), none⟩])
  (.seq (.seq (.reg [⟨some 3, .mov (.t 0), none⟩])
   (.blk 0 (.seq (.seq (.reg [⟨some 5, .bin .eql (.t 3) (.k (.i .i32 40)), none⟩,
        ⟨some 4, .mov (.t 5), none⟩])
     (.cond (.t 4)
      .skip
      (.seq (.reg [⟨some 6, .bin .eql (.t 3) (.k (.i .i32 41)), none⟩,
         ⟨some 4, .mov (.t 6), none⟩])
      (.cond (.t 4)
       .skip
       (.seq (.reg [⟨some 7, .bin .eql (.t 3) (.k (.i .i32 61)), none⟩,
          ⟨some 4, .mov (.t 7), none⟩])
       (.cond (.t 4)
        .skip
        (.seq (.reg [⟨some 8, .bin .eql (.t 3) (.k (.i .i32 94)), none⟩,
           ⟨some 4, .mov (.t 8), none⟩])
        (.cond (.t 4)
         .skip
         (.seq (.reg [⟨some 9, .bin .eql (.t 3) (.k (.i .i32 60)), none⟩,
            ⟨some 4, .mov (.t 9), none⟩])
         (.cond (.t 4)
          .skip
          (.seq (.reg [⟨some 10, .bin .eql (.t 3) (.k (.i .i32 62)), none⟩,
             ⟨some 4, .mov (.t 10), none⟩])
          (.cond (.t 4)
           .skip
           (.reg [⟨some 11, .bin .eql (.t 3) (.k (.i .i32 44)), none⟩,
             ⟨some 4, .mov (.t 11), none⟩])))))))))))))
    (.cond (.t 4)
     (.seq (.reg [⟨some 2, .mov (.k (.b true)), none⟩])
     .ret)
     .skip))))
  (.seq (.reg [⟨some 2, .mov (.k (.b false)), none⟩])
  .ret)))) k st Q := rfl
def kz48 (_ : Nat) : List Nat := []
theorem w_sign (c : Nat) (gl : Nat → List V) : M noX (kz48) (.code B48) [] (St.init gl 4 [.i .i32 c] {}) (Fin [.tmp 2] (.b (sgnB c))) := by
  have e1 : decide ((c : Int) = 40) = (c == 40) := ne_ c 40
  have e2 : decide ((c : Int) = 41) = (c == 41) := ne_ c 41
  have e3 : decide ((c : Int) = 61) = (c == 61) := ne_ c 61
  have e4 : decide ((c : Int) = 94) = (c == 94) := ne_ c 94
  have e5 : decide ((c : Int) = 60) = (c == 60) := ne_ c 60
  have e6 : decide ((c : Int) = 62) = (c == 62) := ne_ c 62
  have e7 : decide ((c : Int) = 44) = (c == 44) := ne_ c 44
  rw [U48]
  simp only [e1, e2, e3, e4, e5, e6, e7, go_sem, ne_eq, not_false_eq_true, reduceIte, Nat.reduceMul, Nat.reduceAdd, Nat.reduceSub, Nat.reduceEqDiff, Nat.reduceLeDiff, Nat.reduceLT, List.take_succ_cons, List.take_zero, List.drop_succ_cons, List.cons_append]
  cases f1 : (c == 40) with
  | true => simp only [f1, sgnB, go_sem, ne_eq, not_false_eq_true, reduceIte, Nat.reduceMul, Nat.reduceAdd, Nat.reduceSub, Nat.reduceEqDiff, Nat.reduceLeDiff, Nat.reduceLT, List.take_succ_cons, List.take_zero, List.drop_succ_cons, List.cons_append]
  | false =>
  cases f2 : (c == 41) with
  | true => simp only [f1, f2, e1, e2, e3, e4, e5, e6, e7, sgnB, go_sem, ne_eq, not_false_eq_true, reduceIte, Nat.reduceMul, Nat.reduceAdd, Nat.reduceSub, Nat.reduceEqDiff, Nat.reduceLeDiff, Nat.reduceLT, List.take_succ_cons, List.take_zero, List.drop_succ_cons, List.cons_append]
  | false =>
  cases f3 : (c == 61) with
  | true => simp only [f1, f2, f3, e1, e2, e3, e4, e5, e6, e7, sgnB, go_sem, ne_eq, not_false_eq_true, reduceIte, Nat.reduceMul, Nat.reduceAdd, Nat.reduceSub, Nat.reduceEqDiff, Nat.reduceLeDiff, Nat.reduceLT, List.take_succ_cons, List.take_zero, List.drop_succ_cons, List.cons_append]
  | false =>
  cases f4 : (c == 94) with
  | true => simp only [f1, f2, f3, f4, e1, e2, e3, e4, e5, e6, e7, sgnB, go_sem, ne_eq, not_false_eq_true, reduceIte, Nat.reduceMul, Nat.reduceAdd, Nat.reduceSub, Nat.reduceEqDiff, Nat.reduceLeDiff, Nat.reduceLT, List.take_succ_cons, List.take_zero, List.drop_succ_cons, List.cons_append]
  | false =>
  cases f5 : (c == 60) with
  | true => simp only [f1, f2, f3, f4, f5, e1, e2, e3, e4, e5, e6, e7, sgnB, go_sem, ne_eq, not_false_eq_true, reduceIte, Nat.reduceMul, Nat.reduceAdd, Nat.reduceSub, Nat.reduceEqDiff, Nat.reduceLeDiff, Nat.reduceLT, List.take_succ_cons, List.take_zero, List.drop_succ_cons, List.cons_append]
  | false =>
  cases f6 : (c == 62) with
  | true => simp only [f1, f2, f3, f4, f5, f6, e1, e2, e3, e4, e5, e6, e7, sgnB, go_sem, ne_eq, not_false_eq_true, reduceIte, Nat.reduceMul, Nat.reduceAdd, Nat.reduceSub, Nat.reduceEqDiff, Nat.reduceLeDiff, Nat.reduceLT, List.take_succ_cons, List.take_zero, List.drop_succ_cons, List.cons_append]
  | false =>
  cases f7 : (c == 44) <;> simp only [f1, f2, f3, f4, f5, f6, f7, e1, e2, e3, e4, e5, e6, e7, sgnB, go_sem, ne_eq, not_false_eq_true, reduceIte, Nat.reduceMul, Nat.reduceAdd, Nat.reduceSub, Nat.reduceEqDiff, Nat.reduceLeDiff, Nat.reduceLT, List.take_succ_cons, List.take_zero, List.drop_succ_cons, List.cons_append]
def F_sgn (a : List V) : Option V := match a with
  | [.i .i32 (Int.ofNat n)] => some (.b (sgnB n))
  | _ => none
theorem o_sgn : ∀ a v, F_sgn a = some v → Comp tabx told 48 a v := fun a v e => by
  unfold F_sgn at e
  split at e
  · cases e; exact comp_of tells_noX (fn := af48) rfl (Nat.le_of_ble_eq_true rfl) fun gl => w_sign _ gl
  · cases e
def okB (n : Nat) : Bool := decide (n < 55296) || (decide (57343 < n) && decide (n ≤ 1114111))
theorem okB_iff (n : Nat) : okB n = true ↔ oks n := by simp only [okB, oks, Bool.or_eq_true, Bool.and_eq_true, decide_eq_true_eq]
theorem U94 {xf : FuncId → List V → Option V} {kz : Nat → List Nat} {k : List Fr} {st : St} {Q : AEx → St → Prop} : M xf kz (.code B94) k st Q = M xf kz (.code (.seq (.reg [⟨some 2, .mov (.k (.b false)), none⟩])
  (.seq (.blk 0 (.seq (.reg [⟨some 4, .mov (.t 0), none⟩,
       ⟨some 5, .bin .leq (.k (.i .i32 0)) (.t 4), none⟩,
       ⟨some 6, .mov (.t 5), none⟩,
       ⟨some 7, .mov (.t 0), some (6, true)⟩,
       ⟨some 8, .bin .lss (.t 7) (.k (.i .i32 55296)), some (6, true)⟩,
       ⟨some 9, .pick (.t 6) (.t 8) (.k (.b false)), none⟩,
       ⟨some 3, .mov (.t 9), none⟩])
    (.cond (.t 3)
     (.seq (.reg [⟨some 2, .mov (.k (.b true)), none⟩])
     .ret)
     (.seq (.reg [⟨some 11, .mov (.t 0), none⟩,
        ⟨some 12, .bin .lss (.k (.i .i32 57343)) (.t 11), none⟩,
        ⟨some 13, .mov (.t 12), none⟩,
        ⟨some 14, .mov (.t 0), some (13, true)⟩,
        ⟨some 15, .bin .leq (.t 14) (.k (.i .i32 1114111)), some (13, true)⟩,
        ⟨some 16, .pick (.t 13) (.t 15) (.k (.b false)), none⟩,
        ⟨some 10, .mov (.t 16), none⟩])
     (.cond (.t 10)
      (.seq (.reg [⟨some 2, .mov (.k (.b true)), none⟩])
      .ret)
      .skip)))))
  (.seq (.reg [⟨some 2, .mov (.k (.b false)), none⟩])
  .ret)))) k st Q := rfl
def kz94 (_ : Nat) : List Nat := []
theorem w_ValidRune (c : Nat) (gl : Nat → List V) : M noX (kz94) (.code B94) [] (St.init gl 5 [.i .i32 c] {}) (Fin [.tmp 2] (.b (okB c))) := by
  have e0 : decide ((0 : Int) ≤ (c : Int)) = true := decide_eq_true (by omega)
  have e1 : decide ((c : Int) < (55296 : Int)) = decide (c < 55296) := nl c 55296
  have e2 : decide ((57343 : Int) < (c : Int)) = decide (57343 < c) := nl 57343 c
  have e3 : decide ((c : Int) ≤ (1114111 : Int)) = decide (c ≤ 1114111) := nz c 1114111
  rw [U94]
  simp only [e0, e1, e2, e3, go_sem, ne_eq, not_false_eq_true, reduceIte, Nat.reduceMul, Nat.reduceAdd, Nat.reduceSub, Nat.reduceEqDiff, Nat.reduceLeDiff, Nat.reduceLT, List.take_succ_cons, List.take_zero, List.drop_succ_cons, List.cons_append]
  cases f1 : decide (c < 55296) with
  | true => simp only [f1, okB, go_sem, ne_eq, not_false_eq_true, reduceIte, Nat.reduceMul, Nat.reduceAdd, Nat.reduceSub, Nat.reduceEqDiff, Nat.reduceLeDiff, Nat.reduceLT, List.take_succ_cons, List.take_zero, List.drop_succ_cons, List.cons_append]
  | false =>
  cases f2 : decide (57343 < c) with
  | false => simp only [f1, f2, e0, e1, e2, e3, okB, go_sem, ne_eq, not_false_eq_true, reduceIte, Nat.reduceMul, Nat.reduceAdd, Nat.reduceSub, Nat.reduceEqDiff, Nat.reduceLeDiff, Nat.reduceLT, List.take_succ_cons, List.take_zero, List.drop_succ_cons, List.cons_append]
  | true =>
  cases f3 : decide (c ≤ 1114111) <;> simp only [f1, f2, f3, e0, e1, e2, e3, okB, go_sem, ne_eq, not_false_eq_true, reduceIte, Nat.reduceMul, Nat.reduceAdd, Nat.reduceSub, Nat.reduceEqDiff, Nat.reduceLeDiff, Nat.reduceLT, List.take_succ_cons, List.take_zero, List.drop_succ_cons, List.cons_append]
def F_vr (a : List V) : Option V := match a with
  | [.i .i32 (Int.ofNat n)] => some (.b (okB n))
  | _ => none
theorem o_vr : ∀ a v, F_vr a = some v → Comp tabx told 94 a v := fun a v e => by
  unfold F_vr at e
  split at e
  · cases e; exact comp_of tells_noX (fn := af94) rfl (Nat.le_of_ble_eq_true rfl) fun gl => w_ValidRune _ gl
  · cases e
theorem o_index : ∀ a v, indexV a = some v → Comp tabx told 93 a v := fun a v e => comp_prim (by show xf _ a = some v; exact e)
theorem o_decode : ∀ a v, decV a = some v → Comp tabx told 43 a v := fun a v e => comp_prim (by show xf _ a = some v; exact e)

/-! ### while -/
/-- How many bytes at the beginning are of a kind. -/
def wh (p : Nat → Bool) : List UInt8 → Nat
  | [] => 0
  | a :: r => bif p a.toNat then wh p r + 1 else 0
theorem wh_le (p : Nat → Bool) (l : List UInt8) : wh p l ≤ l.length := by
  induction l with
  | nil => exact Nat.le_refl _
  | cons a r ih => simp only [wh, List.length_cons]; cases p a.toNat <;> simp <;> omega
theorem dec_high {a : UInt8} {r : List UInt8} (h : ¬ a.toNat < 128) : 128 ≤ (dec (a :: r)).1 := Nat.le_of_not_lt fun hl => h (dec_low hl).1
def kindX (f : FuncId) (p : Nat → Bool) (g : FuncId) (a : List V) : Option V := bif Nat.beq g f then (match a with | [.i .i32 (Int.ofNat n)] => some (.b (p n)) | _ => none) else none
def K46_1 : List Fr := [.blk 0,
  .seq (.seq (.reg [⟨some 18, .mov (.t 0), none⟩,
       ⟨some 19, .len .str (.t 18), none⟩,
       ⟨some 4, .mov (.t 19), none⟩])
    .ret)]
theorem U46_1 {xf : FuncId → List V → Option V} {kz : Nat → List Nat} {k : List Fr} {st : St} {Q : AEx → St → Prop} : M xf kz (.code L46_1) k st Q = M xf kz (.code (.seq (.reg [⟨some 9, .next 8, none⟩,
     ⟨some 10, .ext (.t 9) 0, none⟩])
  (.seq (.cond (.t 10)
    .skip
    (.exit 0))
  (.blk 1 (.seq (.reg [⟨some 11, .ext (.t 9) 1, none⟩,
      ⟨some 12, .ext (.t 9) 2, none⟩,
      ⟨some 5, .mov (.t 11), none⟩,
      ⟨some 6, .mov (.t 12), none⟩])
   (.seq (.reg [⟨some 13, .mov (.t 1), none⟩,
      ⟨some 14, .mov (.t 6), none⟩,
      ⟨some 15, .callv true (.t 13) [(.t 14)], none⟩,
      ⟨some 16, .un .not (.t 15), none⟩])
   (.cond (.t 16)
    (.seq (.reg [⟨some 17, .mov (.t 5), none⟩,
       ⟨some 4, .mov (.t 17), none⟩])
    .ret)
    .skip))))))) k st Q := rfl
theorem U46 {xf : FuncId → List V → Option V} {kz : Nat → List Nat} {k : List Fr} {st : St} {Q : AEx → St → Prop} : M xf kz (.code B46) k st Q = M xf kz (.code (.seq (.reg [⟨some 4, .mov (.k (.i .i64 0)), none⟩])
  (.seq (.seq (.reg [⟨some 7, .mov (.t 0), none⟩,
      ⟨some 8, .range (.t 7), none⟩])
   (.blk 0 (.loop L46_1)))
  (.seq (.reg [⟨some 18, .mov (.t 0), none⟩,
     ⟨some 19, .len .str (.t 18), none⟩,
     ⟨some 4, .mov (.t 19), none⟩])
  .ret)))) k st Q := rfl
def kz46 (_ : Nat) : List Nat := [2, 3, 4, 5, 6, 7, 9, 10, 11, 12, 13, 14, 15, 16, 17, 18, 19]
theorem w_while_loop (f : FuncId) (p : Nat → Bool) (hp : ∀ c, 128 ≤ c → p c = false) (s : List UInt8) (gl : Nat → List V) : ∀ (l : List UInt8) (pos : Nat), pos + l.length = s.length →
    M (kindX f p) (kz46) (.code L46_1) (.loop L46_1 :: K46_1) ⟨gl, (.node (.node (.node (.node (.node .leaf .any .leaf) .any (.node .leaf .any .leaf)) .any (.node (.node .leaf .any .leaf) .any (.node .leaf .any .leaf))) (.fn f [] []) (.node (.node (.node .leaf .any .leaf) .any (.node .leaf .any .leaf)) .any (.node (.node .leaf .any .leaf) .any (.node .leaf .any .leaf)))) (.s s) (.node (.node (.node (.node .leaf .any .leaf) (.it) (.node .leaf .any .leaf)) .any (.node (.node .leaf .any .leaf) .any (.node .leaf .any .leaf))) .any (.node (.node (.node .leaf .any .leaf) .any (.node .leaf .any .leaf)) .any (.node (.node .leaf .any .leaf) .any (.node .leaf .any .leaf))))), [(8, (l, pos))], [], {}⟩ (Fin [.tmp 4] (.i .i64 ((pos + wh p l : Nat) : Int))) := by
  intro l
  induction l with
  | nil =>
    intro pos hl
    rw [U46_1]
    simp only [List.length_nil, Nat.add_zero] at hl
    subst hl
    simp only [K46_1, wh, Nat.add_zero, go_sem, ne_eq, not_false_eq_true, reduceIte, Nat.reduceMul, Nat.reduceAdd, Nat.reduceSub, Nat.reduceEqDiff, Nat.reduceLeDiff, Nat.reduceLT, List.take_succ_cons, List.take_zero, List.drop_succ_cons, List.cons_append]
  | cons a r ih =>
    intro pos hl
    rw [U46_1]
    have hk : ∀ c : Nat, kindX f p f [.i .i32 (c : Int)] = some (.b (p c)) := fun c => by simp [kindX]
    by_cases ha : a.toNat < 128
    · have hd := dec_ascii ha r
      cases hpa : p a.toNat with
      | true =>
        simp only [hd, hk, hpa, go_sem, ne_eq, not_false_eq_true, reduceIte, Nat.reduceMul, Nat.reduceAdd, Nat.reduceSub, Nat.reduceEqDiff, Nat.reduceLeDiff, Nat.reduceLT, List.take_succ_cons, List.take_zero, List.drop_succ_cons, List.cons_append]
        rw [M_loop]
        have := ih (pos + 1) (by simp only [List.length_cons] at hl; omega)
        rw [show wh p (a :: r) = wh p r + 1 from by simp [wh, hpa], show pos + (wh p r + 1) = pos + 1 + wh p r from by omega]
        simp only [kz46, K46_1, List.length_cons, List.length_nil, List.drop_succ_cons, List.drop_zero, go_sem, ne_eq, not_false_eq_true, reduceIte, Nat.reduceMul, Nat.reduceAdd, Nat.reduceSub, Nat.reduceEqDiff, Nat.reduceLeDiff, Nat.reduceLT, List.take_succ_cons, List.take_zero, List.drop_succ_cons, List.cons_append] at this ⊢
        exact this
      | false =>
        simp only [hd, hk, hpa, wh, Nat.add_zero, K46_1, go_sem, ne_eq, not_false_eq_true, reduceIte, Nat.reduceMul, Nat.reduceAdd, Nat.reduceSub, Nat.reduceEqDiff, Nat.reduceLeDiff, Nat.reduceLT, List.take_succ_cons, List.take_zero, List.drop_succ_cons, List.cons_append]
    · have h1 := hp _ (dec_high (r := r) ha)
      have h2 := hp _ (Nat.le_of_not_lt ha)
      simp only [hk, h1, h2, wh, Nat.add_zero, K46_1, go_sem, ne_eq, not_false_eq_true, reduceIte, Nat.reduceMul, Nat.reduceAdd, Nat.reduceSub, Nat.reduceEqDiff, Nat.reduceLeDiff, Nat.reduceLT, List.take_succ_cons, List.take_zero, List.drop_succ_cons, List.cons_append]
theorem w_while (f : FuncId) (p : Nat → Bool) (hp : ∀ c, 128 ≤ c → p c = false) (s : List UInt8) (gl : Nat → List V) :
    M (kindX f p) (kz46) (.code B46) [] (St.init gl 5 [.s s, .fn f [] []] {}) (Fin [.tmp 4] (.i .i64 (wh p s : Nat))) := by
  rw [U46]
  simp only [go_sem, ne_eq, not_false_eq_true, reduceIte, Nat.reduceMul, Nat.reduceAdd, Nat.reduceSub, Nat.reduceEqDiff, Nat.reduceLeDiff, Nat.reduceLT, List.take_succ_cons, List.take_zero, List.drop_succ_cons, List.cons_append]
  rw [M_loop]
  have := w_while_loop f p hp s gl s 0 (by omega)
  simp only [kz46, K46_1, List.length_cons, List.length_nil, Nat.zero_add, go_sem, ne_eq, not_false_eq_true, reduceIte, Nat.reduceMul, Nat.reduceAdd, Nat.reduceSub, Nat.reduceEqDiff, Nat.reduceLeDiff, Nat.reduceLT, List.take_succ_cons, List.take_zero, List.drop_succ_cons, List.cons_append] at this ⊢
  exact this
theorem tells_kind {f : FuncId} {p : Nat → Bool} {F : List V → Option V} (h : ∀ a v, F a = some v → Comp tabx told f a v) (hF : ∀ n : Nat, F [.i .i32 (n : Int)] = some (.b (p n))) : Tells tabx told (kindX f p) := by
  intro g a v e
  unfold kindX at e
  cases hb : Nat.beq g f with
  | false => rw [hb] at e; cases e
  | true =>
    rw [hb] at e
    have := Nat.eq_of_beq_eq_true hb
    subst this
    simp only [cond_true] at e
    split at e
    · cases e; exact h _ _ (hF _)
    · cases e
theorem let_hi (c : Nat) (h : 128 ≤ c) : letB c = false := by simp only [letB, Bool.and_eq_false_iff, decide_eq_false_iff_not]; omega
theorem dig_hi (c : Nat) (h : 128 ≤ c) : digB c = false := by simp only [digB, Bool.and_eq_false_iff, decide_eq_false_iff_not]; omega
def F_while (a : List V) : Option V := match a with
  | [.s s, .fn f [] []] => if f = 45 then some (.i .i64 (wh letB s : Nat)) else if f = 47 then some (.i .i64 (wh digB s : Nat)) else none
  | _ => none
theorem o_while : ∀ a v, F_while a = some v → Comp tabx told 46 a v := fun a v e => by
  unfold F_while at e
  split at e
  · split at e
    · rename_i h; subst h; cases e
      exact comp_of (tells_kind (p := letB) o_let fun _ => rfl) (fn := af46) rfl (Nat.le_of_ble_eq_true rfl) fun gl => w_while _ letB let_hi _ gl
    · split at e
      · rename_i h; subst h; cases e
        exact comp_of (tells_kind (p := digB) o_dig fun _ => rfl) (fn := af46) rfl (Nat.le_of_ble_eq_true rfl) fun gl => w_while _ digB dig_hi _ gl
      · cases e
  · cases e
end Go.Proofs.YtbhclhgljnoioaaDoor
