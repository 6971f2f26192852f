/- Keys, values and names are short, and right UTF-8; the law. -/
import Derived.Test.YtkibkodlbjhjfaaDoorTx1
set_option linter.unusedSimpArgs false
set_option linter.unusedVariables false
namespace Go.Proofs.YtkibkodlbjhjfaaDoor
open Ai
theorem dec_w4 (l : List UInt8) : (dec l).2 ≤ 4 := by
  unfold dec
  simp only
  repeat' split
  all_goals simp
theorem rns_four (l : List UInt8) : l.length ≤ 4 * (rns l).length := by
  induction l using rune_ind with
  | h0 => simp
  | h1 a r ih =>
    have := dec_w4 (a :: r)
    rw [rns_cons]
    simp only [List.length_drop, List.length_cons] at *
    omega
theorem valid_of : ∀ (n : Nat) (l : List UInt8), l.length ≤ n → (rns l).all plain = true → Lib.validGoD n l = true
  | 0, l, _, _ => rfl
  | n + 1, l, hl, h => by
    unfold Lib.validGoD
    cases l with
    | nil => simp
    | cons a r =>
      rw [if_neg (by simp), decodeL_dec]
      rw [rns_cons, List.all_cons, Bool.and_eq_true] at h
      have hp := h.1
      rw [if_neg (fun e => by rw [e.1] at hp; exact absurd hp (by decide))]
      have := dec_nil_free a r
      exact valid_of n _ (by omega) h.2
theorem valid_plain {lo hi : Nat} {l : List UInt8} (h : allV plain lo hi l = true) : Lib.validD l = true ∧ l.length ≤ 4 * hi ∧ lo ≤ (rns l).length := by
  simp only [allV, Bool.and_eq_true, decide_eq_true_eq] at h
  obtain ⟨h1, h2, h3⟩ := h
  have := rns_four l
  exact ⟨valid_of _ _ (Nat.le_refl _) h3, by omega, h1⟩
theorem letter_plain {n : Nat} (h : letter n = true) : plain n = true := by
  simp only [letter, plain, Bool.and_eq_true, Bool.not_eq_true', decide_eq_true_eq, decide_eq_false_iff_not] at *
  omega
theorem name_key {l : List UInt8} (h : allV letter 1 8 l = true) : allV plain 1 24 l = true := by
  simp only [allV, Bool.and_eq_true, decide_eq_true_eq] at *
  refine ⟨h.1, by omega, ?_⟩
  rw [List.all_eq_true] at *
  exact fun x hx => letter_plain (h.2.2 x hx)
theorem key_value {l : List UInt8} (h : allV plain 1 24 l = true) : allV plain 0 48 l = true := by
  simp only [allV, Bool.and_eq_true, decide_eq_true_eq] at *
  exact ⟨by omega, by omega, h.2.2⟩
theorem name_len {l : List UInt8} (h : allV letter 1 8 l = true) : l.length ≤ 8 := by
  simp only [allV, Bool.and_eq_true, decide_eq_true_eq] at h
  obtain ⟨h1, h2, h3⟩ := h
  have key : ∀ l : List UInt8, (rns l).all letter = true → (rns l).length = l.length := by
    intro l
    induction l using rune_ind with
    | h0 => intro _; simp [rns_nil]
    | h1 a r ih =>
      intro h
      rw [rns_cons, List.all_cons, Bool.and_eq_true] at h
      have hp := h.1
      simp only [letter, Bool.and_eq_true, decide_eq_true_eq] at hp
      obtain ⟨_, h6⟩ := dec_low (a := a) (r := r) (by omega)
      rw [h6] at ih h
      simp only [List.drop_succ_cons, List.drop_zero] at ih h
      rw [rns_cons, h6]
      simp only [List.drop_succ_cons, List.drop_zero, List.length_cons]
      rw [ih h.2]
  rw [key l h3] at h2
  exact h2
def F_Key (a : List V) : Option V := match a with
  | [.s l] => some (.i .i64 (errV (allV plain 1 24 l) 20))
  | _ => none
def F_Value (a : List V) : Option V := match a with
  | [.s l] => some (.i .i64 (errV (allV plain 0 48 l) 21))
  | _ => none
def F_Name (a : List V) : Option V := match a with
  | [.s l] => some (.i .i64 (errV (allV letter 1 8 l) 22))
  | _ => none
theorem F_Key1 (l : List UInt8) : F_Key [.s l] = some (.i .i64 (errV (allV plain 1 24 l) 20)) := rfl
theorem F_Value1 (l : List UInt8) : F_Value [.s l] = some (.i .i64 (errV (allV plain 0 48 l) 21)) := rfl
theorem F_Name1 (l : List UInt8) : F_Name [.s l] = some (.i .i64 (errV (allV letter 1 8 l) 22)) := rfl
theorem o_Key : ∀ a v, F_Key a = some v → Comp tabx told 7 a v := fun a v e => by
  unfold F_Key at e
  split at e <;> cases e
  exact c_Key _
theorem o_Value : ∀ a v, F_Value a = some v → Comp tabx told 8 a v := fun a v e => by
  unfold F_Value at e
  split at e <;> cases e
  exact c_Value _
theorem o_Name : ∀ a v, F_Name a = some v → Comp tabx told 9 a v := fun a v e => by
  unfold F_Name at e
  split at e <;> cases e
  exact c_Name _
theorem fnValid1 (l : List UInt8) (h : l.length ≤ 16384) : fnValid [.s l] = some (.b (Lib.validD l)) := if_pos (by omega)
theorem o_valid : ∀ a v, fnValid a = some v → Comp tabx told 10 a v := fun a v e => comp_prim e
def X_short := xs [(6, F_awake), (7, F_Key), (8, F_Value), (9, F_Name), (10, fnValid)]
theorem t_TextShort : Tells tabx told X_short := tells_cons o_awake (tells_cons o_Key (tells_cons o_Value (tells_cons o_Name (tells_cons o_valid tells_nil))))

theorem U3 {xf : FuncId → List V → Option V} {kz : Nat → List Nat} {k : List Fr} {st : St} {Q : AEx → St → Prop} : M xf kz (.code B3) k st Q = M xf kz (.code (.seq (.reg [⟨some 2, .mov (.k (.b false)), none⟩])
  (.seq (.seq (.reg [⟨some 6, .mov (.t 0), none⟩,
      ⟨some 7, .len .str (.t 6), none⟩,
      ⟨some 8, .bin .gtr (.t 7) (.k (.i .i64 16384)), none⟩])
   (.cond (.t 8)
    (.seq (.reg [⟨some 9, .call true 6 [], none⟩,
       ⟨some 2, .mov (.t 9), none⟩])
    .ret)
    .skip))
  (.seq (.reg [⟨some 10, .mov (.t 0), none⟩,
     ⟨some 11, .call true 7 [(.t 10)], none⟩,
     ⟨some 12, .bin .eql (.t 11) (.k (.i .i64 0)), none⟩,
     ⟨some 13, .mov (.t 0), none⟩,
     ⟨some 14, .call true 8 [(.t 13)], none⟩,
     ⟨some 15, .bin .eql (.t 14) (.k (.i .i64 0)), none⟩,
     ⟨some 16, .mov (.t 0), none⟩,
     ⟨some 17, .call true 9 [(.t 16)], none⟩,
     ⟨some 18, .bin .eql (.t 17) (.k (.i .i64 0)), none⟩,
     ⟨some 3, .mov (.t 12), none⟩,
     ⟨some 4, .mov (.t 15), none⟩,
     ⟨some 5, .mov (.t 18), none⟩])
  (.seq (.seq (.reg [⟨some 19, .mov (.t 3), none⟩,
      ⟨some 20, .mov (.t 19), none⟩,
      ⟨some 21, .mov (.t 4), some (20, false)⟩,
      ⟨some 22, .pick (.t 20) (.k (.b true)) (.t 21), none⟩,
      ⟨some 23, .mov (.t 22), none⟩,
      ⟨some 24, .mov (.t 5), some (23, false)⟩,
      ⟨some 25, .pick (.t 23) (.k (.b true)) (.t 24), none⟩,
      ⟨some 26, .mov (.t 25), none⟩,
      ⟨some 27, .mov (.t 0), some (26, true)⟩,
      ⟨some 28, .call true 10 [(.t 27)], some (26, true)⟩,
      ⟨some 29, .un .not (.t 28), some (26, true)⟩,
      ⟨some 30, .pick (.t 26) (.t 29) (.k (.b false)), none⟩,
      ⟨some 31, .mov (.t 30), none⟩,
      ⟨some 32, .mov (.t 3), some (31, false)⟩,
      ⟨some 33, .mov (.t 32), some (31, false)⟩,
      ⟨some 34, .mov (.t 0), some (33, true)⟩,
      ⟨some 35, .len .str (.t 34), some (33, true)⟩,
      ⟨some 36, .bin .gtr (.t 35) (.k (.i .i64 96)), some (33, true)⟩,
      ⟨some 37, .mov (.t 36), some (33, true)⟩,
      ⟨some 38, .mov (.t 0), some (37, false)⟩,
      ⟨some 39, .bin .eql (.t 38) (.k (.s [])), some (37, false)⟩,
      ⟨some 40, .pick (.t 37) (.k (.b true)) (.t 39), some (33, true)⟩,
      ⟨some 41, .pick (.t 33) (.t 40) (.k (.b false)), some (31, false)⟩,
      ⟨some 42, .pick (.t 31) (.k (.b true)) (.t 41), none⟩,
      ⟨some 43, .mov (.t 42), none⟩,
      ⟨some 44, .mov (.t 4), some (43, false)⟩,
      ⟨some 45, .mov (.t 44), some (43, false)⟩,
      ⟨some 46, .mov (.t 0), some (45, true)⟩,
      ⟨some 47, .len .str (.t 46), some (45, true)⟩,
      ⟨some 48, .bin .gtr (.t 47) (.k (.i .i64 192)), some (45, true)⟩,
      ⟨some 49, .pick (.t 45) (.t 48) (.k (.b false)), some (43, false)⟩,
      ⟨some 50, .pick (.t 43) (.k (.b true)) (.t 49), none⟩,
      ⟨some 51, .mov (.t 50), none⟩,
      ⟨some 52, .mov (.t 5), some (51, false)⟩,
      ⟨some 53, .mov (.t 52), some (51, false)⟩,
      ⟨some 54, .mov (.t 0), some (53, true)⟩,
      ⟨some 55, .len .str (.t 54), some (53, true)⟩,
      ⟨some 56, .bin .gtr (.t 55) (.k (.i .i64 8)), some (53, true)⟩,
      ⟨some 57, .pick (.t 53) (.t 56) (.k (.b false)), some (51, false)⟩,
      ⟨some 58, .pick (.t 51) (.k (.b true)) (.t 57), none⟩,
      ⟨some 59, .mov (.t 58), none⟩,
      ⟨some 60, .mov (.t 5), some (59, false)⟩,
      ⟨some 61, .mov (.t 60), some (59, false)⟩,
      ⟨some 62, .mov (.t 3), some (61, true)⟩,
      ⟨some 63, .un .not (.t 62), some (61, true)⟩,
      ⟨some 64, .pick (.t 61) (.t 63) (.k (.b false)), some (59, false)⟩,
      ⟨some 65, .pick (.t 59) (.k (.b true)) (.t 64), none⟩,
      ⟨some 66, .mov (.t 65), none⟩,
      ⟨some 67, .mov (.t 3), some (66, false)⟩,
      ⟨some 68, .mov (.t 67), some (66, false)⟩,
      ⟨some 69, .mov (.t 4), some (68, true)⟩,
      ⟨some 70, .un .not (.t 69), some (68, true)⟩,
      ⟨some 71, .pick (.t 68) (.t 70) (.k (.b false)), some (66, false)⟩,
      ⟨some 72, .pick (.t 66) (.k (.b true)) (.t 71), none⟩])
   (.cond (.t 72)
    (.seq (.reg [⟨some 2, .mov (.k (.b false)), none⟩])
    .ret)
    .skip))
  (.seq (.reg [⟨some 73, .call true 6 [], none⟩,
     ⟨some 2, .mov (.t 73), none⟩])
  .ret)))))) k st Q := rfl
def kz3 (_ : Nat) : List Nat := []
theorem w_TextShort (l : List UInt8) (gl : Nat → List V) : M X_short (kz3) (.code B3) [] (St.init gl 7 [.s l] {}) (Fin [.tmp 2] (.b true)) := by
  rw [U3]
  simp only [go_sem, ne_eq, not_false_eq_true, reduceIte, Nat.reduceMul, Nat.reduceAdd, Nat.reduceSub, Nat.reduceEqDiff, Nat.reduceLeDiff]
  refine B_split _ _ _ ?_ ?_ <;> intro h <;> simp only [h, X_short, F_awake1, go_sem, ne_eq, not_false_eq_true, reduceIte, Nat.reduceMul, Nat.reduceAdd, Nat.reduceSub, Nat.reduceEqDiff, Nat.reduceLeDiff]
  have hl : l.length ≤ 16384 := by simp only [decide_eq_false_iff_not] at h; omega
  simp only [F_Key1, F_Value1, F_Name1, go_sem, ne_eq, not_false_eq_true, reduceIte, Nat.reduceMul, Nat.reduceAdd, Nat.reduceSub, Nat.reduceEqDiff, Nat.reduceLeDiff]
  have e0 : ∀ (b : Bool) (n : Int), n ≠ 0 → decide (errV b n = 0) = b := by intro b n hn; cases b <;> simp [errV, hn]
  rw [e0 _ 20 (by decide), e0 _ 21 (by decide), e0 _ 22 (by decide)]
  rcases Bool.eq_false_or_eq_true (allV plain 1 24 l) with hA | hA
  · have hB := key_value hA
    obtain ⟨v1, v2, v3⟩ := valid_plain hA
    have n1 : decide ((96 : Int) < (l.length : Int)) = false := decide_eq_false (by omega)
    have n2 : decide ((192 : Int) < (l.length : Int)) = false := decide_eq_false (by omega)
    have ne : strEq l [] = false := by
      cases l with
      | nil => simp [rns_nil] at v3
      | cons a r => rfl
    rcases Bool.eq_false_or_eq_true (allV letter 1 8 l) with hC | hC
    · have := name_len hC
      have n3 : decide ((8 : Int) < (l.length : Int)) = false := decide_eq_false (by omega)
      simp only [hA, hB, hC, fnValid1 l hl, v1, n1, n2, n3, ne, F_awake1, go_sem, ne_eq, not_false_eq_true, reduceIte, Nat.reduceMul, Nat.reduceAdd, Nat.reduceSub, Nat.reduceEqDiff, Nat.reduceLeDiff]
    · simp only [hA, hB, hC, fnValid1 l hl, v1, n1, n2, ne, F_awake1, go_sem, ne_eq, not_false_eq_true, reduceIte, Nat.reduceMul, Nat.reduceAdd, Nat.reduceSub, Nat.reduceEqDiff, Nat.reduceLeDiff]
  · have hC : allV letter 1 8 l = false := by
      cases hc : allV letter 1 8 l with
      | false => rfl
      | true => rw [name_key hc] at hA; cases hA
    rcases Bool.eq_false_or_eq_true (allV plain 0 48 l) with hB | hB
    · obtain ⟨v1, v2, v3⟩ := valid_plain hB
      have n2 : decide ((192 : Int) < (l.length : Int)) = false := decide_eq_false (by omega)
      simp only [hA, hB, hC, fnValid1 l hl, v1, n2, F_awake1, go_sem, ne_eq, not_false_eq_true, reduceIte, Nat.reduceMul, Nat.reduceAdd, Nat.reduceSub, Nat.reduceEqDiff, Nat.reduceLeDiff]
    · simp only [hA, hB, hC, F_awake1, go_sem, ne_eq, not_false_eq_true, reduceIte, Nat.reduceMul, Nat.reduceAdd, Nat.reduceSub, Nat.reduceEqDiff, Nat.reduceLeDiff]
end Go.Proofs.YtkibkodlbjhjfaaDoor
