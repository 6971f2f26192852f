/- The number that a text is: both ways are the same; the law. -/
import Derived.Test.YtkibkodlbjhjfaaTx10
set_option linter.unusedSimpArgs false
set_option linter.unusedVariables false
namespace Go.Proofs.Ytkibkodlbjhjfaa
open Ai
theorem dig_dec {a : UInt8} (h : dig a = true) (r : List UInt8) : dec (a :: r) = (a.toNat, 1) := dec_ascii (by simp only [dig, Bool.and_eq_true, decide_eq_true_eq] at h; omega) r
theorem badC_false {k n c : Nat} : badC k n c = false ↔ 48 ≤ c ∧ c ≤ 57 ∧ (k = 0 ∨ n ≠ 0) ∧ k ≤ 18 := by
  simp only [badC, Bool.or_eq_false_iff, Bool.and_eq_false_iff, decide_eq_false_iff_not]
  omega
theorem scan_big (l : List UInt8) : ∀ (k n : Nat), 0 < n → k ≤ 19 → scan k n l = if l.all dig = true ∧ k + l.length ≤ 19 then some (k + l.length, dv n l) else none := by
  induction l using rune_ind with
  | h0 => intro k n hn hk; rw [scan_nil]; simp [dv_nil, hk]
  | h1 a r ih =>
    intro k n hn hk
    rw [scan_cons]
    cases hb : badC k n (dec (a :: r)).1 with
    | true =>
      rw [if_pos rfl, if_neg]
      rintro ⟨h1, h2⟩
      rw [List.all_cons, Bool.and_eq_true] at h1
      have hd := dig_dec h1.1 r
      have h3 := h1.1
      simp only [dig, Bool.and_eq_true, decide_eq_true_eq] at h3
      have : badC k n (dec (a :: r)).1 = false := badC_false.2 (by rw [hd]; simp only [List.length_cons] at h2; omega)
      rw [hb] at this
      cases this
    | false =>
      obtain ⟨h1, h2, h3, h4⟩ := badC_false.1 hb
      obtain ⟨h5, h6⟩ := dec_low (a := a) (r := r) (by omega)
      rw [h6] at ih h1 h2 ⊢
      simp only [List.drop_succ_cons, List.drop_zero] at ih h1 h2 ⊢
      have hdig : dig a = true := by simp only [dig, Bool.and_eq_true, decide_eq_true_eq]; omega
      rw [if_neg (by simp), ih (k + 1) _ (by omega) (by omega), dv_cons, List.all_cons, hdig, Bool.true_and, List.length_cons]
      rw [show k + 1 + r.length = k + (r.length + 1) from by omega]
theorem scan_zero (k : Nat) (a : UInt8) (r : List UInt8) : scan (k + 1) 0 (a :: r) = none := by
  rw [scan_cons, if_pos]
  cases h : badC (k + 1) 0 (dec (a :: r)).1 with
  | true => rfl
  | false => have := badC_false.1 h; omega
theorem scan_all (d : List UInt8) : scan 0 0 d = if d.all dig = true ∧ d.length ≤ 19 ∧ ¬ (1 < d.length ∧ d.head? = some 48) then some (d.length, dv 0 d) else none := by
  cases d with
  | nil => rw [scan_nil]; simp [dv_nil]
  | cons a r =>
    rw [scan_cons]
    cases hb : badC 0 0 (dec (a :: r)).1 with
    | true =>
      rw [if_pos rfl, if_neg]
      rintro ⟨h1, h2⟩
      rw [List.all_cons, Bool.and_eq_true] at h1
      have hd := dig_dec h1.1 r
      have h3 := h1.1
      simp only [dig, Bool.and_eq_true, decide_eq_true_eq] at h3
      have : badC 0 0 (dec (a :: r)).1 = false := badC_false.2 (by rw [hd]; simp only [List.length_cons] at h2; omega)
      rw [hb] at this
      cases this
    | false =>
      obtain ⟨h1, h2, h3, h4⟩ := badC_false.1 hb
      obtain ⟨h5, h6⟩ := dec_low (a := a) (r := r) (by omega)
      rw [h6] at h1 h2 ⊢
      simp only [List.drop_succ_cons, List.drop_zero] at h1 h2 ⊢
      have hdig : dig a = true := by simp only [dig, Bool.and_eq_true, decide_eq_true_eq]; omega
      rw [if_neg (by simp), List.all_cons, hdig, Bool.true_and, dv_cons]
      by_cases h0 : a.toNat = 48
      · have ha : a = 48 := UInt8.toNat_inj.1 h0
        cases r with
        | nil => rw [h0, scan_nil]; simp [dv_nil]
        | cons b t =>
          rw [h0, scan_zero, if_neg]
          rintro ⟨_, _, h⟩
          exact h ⟨by simp, by simp [ha]⟩
      · have ha : ¬ a = 48 := fun e => h0 (by rw [e]; rfl)
        rw [scan_big _ _ _ (by omega) (by omega), List.length_cons, show 0 + 1 + r.length = r.length + 1 from by omega]
        have : (r.all dig = true ∧ r.length + 1 ≤ 19) ↔ (r.all dig = true ∧ r.length + 1 ≤ 19 ∧ ¬ (1 < r.length + 1 ∧ (a :: r).head? = some 48)) := by
          rw [show ((a :: r).head? = some 48) = False from by simp [ha]]
          simp
        by_cases hx : r.all dig = true ∧ r.length + 1 ≤ 19
        · rw [if_pos hx, if_pos (this.1 hx)]
        · rw [if_neg hx, if_neg (fun e => hx (this.2 e))]
theorem dv_pos (d : List UInt8) (hd : d.all dig = true) (h1 : d ≠ []) (h2 : ¬ (1 < d.length ∧ d.head? = some 48)) : dv 0 d = 0 ↔ d = [48] := by
  constructor
  · intro h
    cases d with
    | nil => exact absurd rfl h1
    | cons a r =>
      rw [dv_cons] at h
      have := dv_ge r (10 * 0 + (a.toNat - 48))
      rw [List.all_cons, Bool.and_eq_true] at hd
      have h3 := hd.1
      simp only [dig, Bool.and_eq_true, decide_eq_true_eq] at h3
      have ha : a = 48 := UInt8.toNat_inj.1 (by show a.toNat = 48; omega)
      subst ha
      cases r with
      | nil => rfl
      | cons b t => exact absurd ⟨by simp, rfl⟩ h2
  · rintro rfl; rfl
theorem end_neg (k v : Nat) (hk : k ≠ 0) (hv : v ≠ 0) : numEnd true (some (k, v)) = endR true v := by
  dsimp only [numEnd, endR]
  rw [if_neg (by omega)]
  by_cases h : v ≤ 9223372036854775808
  · rw [if_pos ⟨rfl, h⟩, if_neg (by omega), if_pos rfl]
  · rw [if_neg (fun e => h e.2), if_pos (by omega), if_pos (by omega)]
theorem end_pos (k v : Nat) (hk : k ≠ 0) : numEnd false (some (k, v)) = endR false v := by
  dsimp only [numEnd, endR]
  rw [if_neg (by simp [hk]), if_neg (by simp)]
  by_cases h : 9223372036854775808 < v
  · rw [if_pos (by omega), if_pos h]
  · rw [if_neg h, if_neg (by simp : ¬ false = true)]
    by_cases h2 : v = 9223372036854775808
    · rw [if_pos (by omega), if_pos h2]
    · rw [if_neg (by omega), if_neg h2]
theorem badR_cons {s : List UInt8} {x : UInt8} {t : List UInt8} : badR s (x :: t) = false ↔ t.length + 1 ≤ 19 ∧ ¬ (1 < t.length + 1 ∧ x = 48) ∧ s ≠ [45, 48] := by
  simp only [badR, Bool.or_eq_false_iff, Bool.and_eq_false_iff, decide_eq_false_iff_not, strEq_iff]
  have : x.toNat = 48 ↔ x = 48 := ⟨fun h => UInt8.toNat_inj.1 h, fun h => by rw [h]; rfl⟩
  rw [this]
  constructor
  · rintro ⟨h1, h2, h3⟩
    exact ⟨by omega, fun e => by rcases h2 with h2 | h2; exact h2 e.1; exact h2 e.2, h3⟩
  · rintro ⟨h1, h2, h3⟩
    refine ⟨by omega, ?_, h3⟩
    by_cases h : x = 48
    · exact .inl fun e => h2 ⟨e, h⟩
    · exact .inr h
theorem num_core (s : List UInt8) (x : UInt8) (t : List UInt8) (neg : Bool) (hneg : decide ((x :: t).length < s.length) = neg) (h45 : neg = false → s ≠ [45, 48]) (hs : neg = true → s = 45 :: x :: t) :
    numEnd neg (scan 0 0 (x :: t)) = if badR s (x :: t) = true then numE 0 23 else midR s (x :: t) := by
  rw [scan_all]
  cases hb : badR s (x :: t) with
  | true =>
    rw [if_pos rfl]
    by_cases hc : (x :: t).all dig = true ∧ (x :: t).length ≤ 19 ∧ ¬ (1 < (x :: t).length ∧ (x :: t).head? = some 48)
    · rw [if_pos hc]
      obtain ⟨h1, h2, h3⟩ := hc
      have : s = [45, 48] := by
        apply Classical.byContradiction
        intro hn
        have : badR s (x :: t) = false := badR_cons.2 ⟨by simpa using h2, by simpa using h3, hn⟩
        rw [hb] at this
        cases this
      cases neg with
      | false => exact absurd this (h45 rfl)
      | true =>
        have e := hs rfl
        rw [this] at e
        simp only [List.cons.injEq, true_and] at e
        obtain ⟨rfl, rfl⟩ := e
        simp [numEnd, dv]
    · rw [if_neg hc]; rfl
  | false =>
    obtain ⟨h1, h2, h3⟩ := badR_cons.1 hb
    rw [if_neg (show ¬ (false = true) by simp)]
    unfold midR
    rcases Bool.eq_false_or_eq_true ((x :: t).all dig) with ha | ha
    · have h2' : ¬ (1 < (x :: t).length ∧ (x :: t).head? = some 48) := by simpa using h2
      rw [if_pos ⟨ha, by simpa using h1, h2'⟩, if_pos ha, hneg]
      cases neg with
      | false => exact end_pos _ _ (by simp)
      | true =>
        refine end_neg _ _ (by simp) (fun e => ?_)
        have := (dv_pos (x :: t) ha (by simp) h2').1 e
        exact h3 (by rw [hs rfl, this])
    · rw [if_neg (show ¬ ((x :: t).all dig = true ∧ _) from fun e => by rw [ha] at e; cases e.1), if_neg (show ¬ ((x :: t).all dig = true) by rw [ha]; simp)]; rfl
theorem num_eq (s : List UInt8) : numT s = numR s := by
  unfold numT numR
  cases s with
  | nil => rw [show digsOf [] = [] from rfl, scan_nil]; simp [numEnd, negOf, badR, dR]
  | cons a r =>
    by_cases ha : a.toNat = 45
    · have ha' : a = 45 := UInt8.toNat_inj.1 ha
      subst ha'
      have hd : dR (45 :: r) = r := by simp [dR]
      rw [hd]
      cases r with
      | nil =>
        rw [show digsOf [45] = [45] from rfl, scan_all]
        simp [dig, numEnd, badR]
      | cons x t =>
        have hn : negOf (45 :: x :: t) = true := by simp [negOf]
        rw [show digsOf (45 :: x :: t) = x :: t from by simp [digsOf, hn], hn]
        exact num_core _ x t true (by simp) (fun e => by cases e) (fun _ => rfl)
    · have hd : dR (a :: r) = a :: r := by simp [dR, ha]
      have hn : negOf (a :: r) = false := by simp [negOf, ha]
      rw [hd, show digsOf (a :: r) = a :: r from by simp [digsOf, hn], hn]
      refine num_core _ a r false (by simp) (fun _ e => ha ?_) (fun e => by cases e)
      simp only [List.cons.injEq] at e
      rw [e.1]; rfl
def F_rNumber (a : List V) : Option V := match a with
  | [.s s] => if s.length ≤ 16384 then some (numT s) else none
  | _ => none
theorem F_rNumber1 (s : List UInt8) (hs : s.length ≤ 16384) : F_rNumber [.s s] = some (numT s) := if_pos hs
theorem o_rNumber : ∀ a v, F_rNumber a = some v → Comp tabx told 15 a v := fun a v e => by
  unfold F_rNumber at e
  split at e
  · split at e
    · rename_i h; cases e; rw [num_eq]; exact comp_of tells_noX (fn := af15) rfl (Nat.le_of_ble_eq_true rfl) fun gl => w_rNumber _ h gl
    · cases e
  · cases e
theorem numT_form (s : List UInt8) : ∃ n e, numT s = numE n e := by
  rw [num_eq]
  unfold numR midR endR
  repeat' split
  all_goals exact ⟨_, _, rfl⟩

def X_numbers := xs [(11, F_awake), (14, F_Number), (15, F_rNumber)]
theorem t_TextNumbers : Tells tabx told X_numbers := tells_cons o_awake (tells_cons o_Number (tells_cons o_rNumber tells_nil))
theorem U4 {xf : FuncId → List V → Option V} {kz : Nat → List Nat} {k : List Fr} {st : St} {Q : AEx → St → Prop} : M xf kz (.code B4) k st Q = M xf kz (.code (.seq (.reg [⟨some 2, .mov (.k (.b false)), none⟩])
  (.seq (.seq (.reg [⟨some 7, .mov (.t 0), none⟩,
      ⟨some 8, .len .str (.t 7), none⟩,
      ⟨some 9, .bin .gtr (.t 8) (.k (.i .i64 16384)), none⟩])
   (.cond (.t 9)
    (.seq (.reg [⟨some 10, .call true 11 [], none⟩,
       ⟨some 2, .mov (.t 10), none⟩])
    .ret)
    .skip))
  (.seq (.reg [⟨some 12, .mov (.t 0), none⟩,
     ⟨some 13, .call true 14 [(.t 12)], none⟩,
     ⟨some 11, .mov (.t 13), none⟩,
     ⟨some 14, .ext (.t 11) 0, none⟩,
     ⟨some 15, .ext (.t 11) 1, none⟩,
     ⟨some 3, .mov (.t 14), none⟩,
     ⟨some 4, .mov (.t 15), none⟩])
  (.seq (.reg [⟨some 17, .mov (.t 0), none⟩,
     ⟨some 18, .call true 15 [(.t 17)], none⟩,
     ⟨some 16, .mov (.t 18), none⟩,
     ⟨some 19, .ext (.t 16) 0, none⟩,
     ⟨some 20, .ext (.t 16) 1, none⟩,
     ⟨some 5, .mov (.t 19), none⟩,
     ⟨some 6, .mov (.t 20), none⟩])
  (.seq (.reg [⟨some 21, .mov (.t 3), none⟩,
     ⟨some 22, .mov (.t 5), none⟩,
     ⟨some 23, .bin .eql (.t 21) (.t 22), none⟩,
     ⟨some 24, .mov (.t 23), none⟩,
     ⟨some 25, .mov (.t 4), some (24, true)⟩,
     ⟨some 26, .mov (.t 6), some (24, true)⟩,
     ⟨some 27, .bin .eql (.t 25) (.t 26), some (24, true)⟩,
     ⟨some 28, .pick (.t 24) (.t 27) (.k (.b false)), none⟩,
     ⟨some 29, .mov (.t 28), none⟩,
     ⟨some 30, .call true 11 [], some (29, true)⟩,
     ⟨some 31, .pick (.t 29) (.t 30) (.k (.b false)), none⟩,
     ⟨some 2, .mov (.t 31), none⟩])
  .ret)))))) k st Q := rfl
def kz4 (_ : Nat) : List Nat := []
theorem w_TextNumbers (s : List UInt8) (gl : Nat → List V) : M X_numbers (kz4) (.code B4) [] (St.init gl 6 [.s s] {}) (Fin [.tmp 2] (.b true)) := by
  rw [U4]
  simp only [go_sem, ne_eq, not_false_eq_true, reduceIte, Nat.reduceMul, Nat.reduceAdd, Nat.reduceSub, Nat.reduceEqDiff, Nat.reduceLeDiff]
  refine B_split _ _ _ ?_ ?_ <;> intro h <;> simp only [h, X_numbers, F_awake1, go_sem, ne_eq, not_false_eq_true, reduceIte, Nat.reduceMul, Nat.reduceAdd, Nat.reduceSub, Nat.reduceEqDiff, Nat.reduceLeDiff]
  have hl : s.length ≤ 16384 := by simp only [decide_eq_false_iff_not] at h; omega
  obtain ⟨n, e, he⟩ := numT_form s
  simp only [F_Number1 s hl, F_rNumber1 s hl, he, numE, F_awake1, go_sem, ne_eq, not_false_eq_true, reduceIte, Nat.reduceMul, Nat.reduceAdd, Nat.reduceSub, Nat.reduceEqDiff, Nat.reduceLeDiff]
end Go.Proofs.Ytkibkodlbjhjfaa
