/- A key without its last rune, or with something behind it; the law. -/
import Derived.Test.YtkibkodlbjhjfaaDoorTx12
import Derived.Lib.TrimAscii
import Derived.Lib.SpaceUEq
set_option linter.unusedSimpArgs false
set_option linter.unusedVariables false
namespace Go.Proofs.YtkibkodlbjhjfaaDoor
open Ai
theorem decF_more (b0 b1 b2 b3 b1' b2' b3' : Nat) (c1 c2 c3 d1 d2 d3 : Bool) (h : (decF b0 b1 b2 b3 c1 c2 c3).1 ≠ 65533) (h1 : c1 = true → d1 = true ∧ b1' = b1) (h2 : c2 = true → d2 = true ∧ b2' = b2) (h3 : c3 = true → d3 = true ∧ b3' = b3) :
    decF b0 b1' b2' b3' d1 d2 d3 = decF b0 b1 b2 b3 c1 c2 c3 := by
  unfold decF at h ⊢
  by_cases k0 : b0 < 128
  · simp only [k0, if_true]
  · simp only [k0, if_false] at h ⊢
    have er : Utf8.runeError = 65533 := rfl
    by_cases k1 : b0 / 32 = 6
    · have k2 : ¬ b0 / 16 = 14 := by omega
      have k3 : ¬ b0 / 8 = 30 := by omega
      have e1 : (b0 / 32 == 6) = true := by simpa using k1
      have e2 : (b0 / 16 == 14) = false := by simpa using k2
      have e3 : (b0 / 8 == 30) = false := by simpa using k3
      cases c1 with
      | false => simp [e1, e2, e3, er] at h
      | true => obtain ⟨rfl, rfl⟩ := h1 rfl; simp only [e1, Bool.true_and, if_true]
    · have e1 : (b0 / 32 == 6) = false := by simpa using k1
      by_cases k2 : b0 / 16 = 14
      · have k3 : ¬ b0 / 8 = 30 := by omega
        have e2 : (b0 / 16 == 14) = true := by simpa using k2
        have e3 : (b0 / 8 == 30) = false := by simpa using k3
        cases c1 with
        | false => simp [e1, e2, e3, er] at h
        | true =>
          cases c2 with
          | false => simp [e1, e2, e3, er] at h
          | true =>
            obtain ⟨rfl, rfl⟩ := h1 rfl
            obtain ⟨rfl, rfl⟩ := h2 rfl
            simp only [e1, e2, e3, Bool.true_and, Bool.false_and, Bool.false_eq_true, if_false, if_true]
      · have e2 : (b0 / 16 == 14) = false := by simpa using k2
        by_cases k3 : b0 / 8 = 30
        · have e3 : (b0 / 8 == 30) = true := by simpa using k3
          cases c1 with
          | false => simp [e1, e2, e3, er] at h
          | true =>
            cases c2 with
            | false => simp [e1, e2, e3, er] at h
            | true =>
              cases c3 with
              | false => simp [e1, e2, e3, er] at h
              | true =>
                obtain ⟨rfl, rfl⟩ := h1 rfl
                obtain ⟨rfl, rfl⟩ := h2 rfl
                obtain ⟨rfl, rfl⟩ := h3 rfl
                simp only [e1, e2, e3, Bool.true_and, Bool.false_and, Bool.false_eq_true, if_false, if_true]
        · have e3 : (b0 / 8 == 30) = false := by simpa using k3
          simp only [e1, e2, e3, Bool.false_and, Bool.false_eq_true, if_false]
theorem dec_ext (x y : List UInt8) (hx : x ≠ []) (h : (dec x).1 ≠ 65533) : dec (x ++ y) = dec x := by
  rw [dec_F] at h
  rw [dec_F, dec_F]
  have key : ∀ k, contB x k = true → contB (x ++ y) k = true ∧ ((x ++ y).getD k 0).toNat = (x.getD k 0).toNat := by
    intro k hk
    simp only [contB, Bool.and_eq_true, decide_eq_true_eq] at hk ⊢
    have e : (x ++ y).getD k 0 = x.getD k 0 := by simp [List.getD, List.getElem?_append_left hk.1]
    rw [e]
    exact ⟨⟨by rw [List.length_append]; omega, hk.2⟩, rfl⟩
  have e0 : (x ++ y).getD 0 0 = x.getD 0 0 := by
    have : 0 < x.length := List.length_pos_iff.2 hx
    simp [List.getD, List.getElem?_append_left this]
  rw [e0]
  exact decF_more _ _ _ _ _ _ _ _ _ _ _ _ _ h (key 1) (key 2) (key 3)
theorem rns_app (x y : List UInt8) (h : ∀ c ∈ rns x, c ≠ 65533) : rns (x ++ y) = rns x ++ rns y := by
  induction x using rune_ind with
  | h0 => simp [rns_nil]
  | h1 a r ih =>
    rw [rns_cons] at h
    have h0 := h _ (List.mem_cons_self ..)
    have e := dec_ext (a :: r) y (by simp) h0
    have hw := dec_le a r
    rw [List.cons_append, rns_cons, ← List.cons_append, e, rns_cons, List.drop_append_of_le_length hw, ih (fun c hc => h c (List.mem_cons_of_mem _ hc))]
    rfl
theorem split_last (l : List UInt8) (hl : l ≠ []) : ∃ t q c, l = t ++ q ∧ dec q = (c, q.length) ∧ q ≠ [] ∧ rns l = rns t ++ [c] := by
  induction l using rune_ind with
  | h0 => exact absurd rfl hl
  | h1 a r ih =>
    have hw := dec_pos (a :: r)
    have hw2 := dec_le a r
    by_cases hr : (a :: r).drop (dec (a :: r)).2 = []
    · have : (dec (a :: r)).2 = (a :: r).length := by
        have := List.drop_eq_nil_iff.1 hr
        omega
      exact ⟨[], a :: r, (dec (a :: r)).1, rfl, by rw [← this], by simp, by rw [rns_cons, hr, rns_nil]; rfl⟩
    · obtain ⟨t, q, c, h1, h2, h3, h4⟩ := ih hr
      refine ⟨(a :: r).take (dec (a :: r)).2 ++ t, q, c, ?_, h2, h3, ?_⟩
      · rw [List.append_assoc, ← h1, List.take_append_drop]
      · have hne : (a :: r).take (dec (a :: r)).2 ++ t ≠ [] := by
          intro e
          have := congrArg List.length e
          simp only [List.length_append, List.length_take, List.length_nil] at this
          omega
        have hp := dec_prefix ((a :: r).take (dec (a :: r)).2 ++ t) q hne (by
          rw [List.append_assoc, ← h1, List.take_append_drop, List.length_append, List.length_take]; omega)
        rw [List.append_assoc, ← h1, List.take_append_drop] at hp
        rw [rns_cons, h4]
        generalize hx : (a :: r).take (dec (a :: r)).2 ++ t = x at *
        cases x with
        | nil => exact absurd rfl hne
        | cons b s =>
          rw [rns_cons, hp, ← hx, List.drop_append_of_le_length (by rw [List.length_take]; omega), List.drop_eq_nil_of_le (by rw [List.length_take]; omega)]
          rfl
theorem getD_app {α : Type} (t q : List α) (k : Nat) (d : α) (hk : k < q.length) : (t ++ q).getD (t.length + k) d = q.getD k d := by
  simp [List.getD, List.getElem?_append_right]
theorem decF_w2 {b0 b1 b2 b3 : Nat} {c1 c2 c3 : Bool} (h : (decF b0 b1 b2 b3 c1 c2 c3).2 = 2) : b0 / 32 = 6 ∧ c1 = true := by
  revert h
  unfold decF
  simp only
  repeat' split
  all_goals (intro h; simp_all)
theorem decF_w3 {b0 b1 b2 b3 : Nat} {c1 c2 c3 : Bool} (h : (decF b0 b1 b2 b3 c1 c2 c3).2 = 3) : b0 / 16 = 14 ∧ c1 = true ∧ c2 = true := by
  revert h
  unfold decF
  simp only
  repeat' split
  all_goals (intro h; simp_all)
theorem decF_w4 {b0 b1 b2 b3 : Nat} {c1 c2 c3 : Bool} (h : (decF b0 b1 b2 b3 c1 c2 c3).2 = 4) : b0 / 8 = 30 ∧ c1 = true ∧ c2 = true ∧ c3 = true := by
  revert h
  unfold decF
  simp only
  repeat' split
  all_goals (intro h; simp_all)
theorem start_of {b : UInt8} (h : b.toNat / 64 ≠ 2) : Lib.runeStartB b = true := by simp [Lib.runeStartB, h]
theorem nostart_of {b : UInt8} (h : b.toNat / 64 = 2) : Lib.runeStartB b = false := by simp [Lib.runeStartB, h]
theorem last4 (t : List UInt8) (c0 c1 c2 c3 : UInt8) (h3 : 128 ≤ c3.toNat) (h2 : Lib.runeStartB c2 = false) (h1 : Lib.runeStartB c1 = false) (h0 : Lib.runeStartB c0 = true) (hd : (Lib.decodeL [c0, c1, c2, c3]).2 = 4) : Lib.decodeLastL (t ++ [c0, c1, c2, c3]) = Lib.decodeL [c0, c1, c2, c3] := by
  have g : ∀ k, 1 ≤ k → k ≤ 4 → (t ++ [c0, c1, c2, c3]).getD ((t ++ [c0, c1, c2, c3]).length - k) 0 = [c0, c1, c2, c3].getD (4 - k) 0 := by
    intro k hk hk4
    rw [show (t ++ [c0, c1, c2, c3]).length - k = t.length + (4 - k) from by simp only [List.length_append, List.length_cons, List.length_nil]; omega]
    exact getD_app _ _ _ _ (by simp only [List.length_cons, List.length_nil]; omega)
  have g1 := g 1 (by omega) (by omega)
  have g2 := g 2 (by omega) (by omega)
  have g3 := g 3 (by omega) (by omega)
  have g4 := g 4 (by omega) (by omega)
  simp only [Nat.reduceSub, List.getD_cons_succ, List.getD_cons_zero, Nat.sub_self] at g1 g2 g3 g4
  have hl : (t ++ [c0, c1, c2, c3]).length = t.length + 4 := by simp
  have hs : Lib.lastStart (t ++ [c0, c1, c2, c3]) = (t ++ [c0, c1, c2, c3]).length - 4 := by
    unfold Lib.lastStart
    simp only [g2, g3, g4, h2, h1, h0, Bool.false_eq_true, if_false, if_true]
    rw [if_neg (by omega), if_neg (by omega), if_neg (by omega)]
  have hdrop : (t ++ [c0, c1, c2, c3]).drop ((t ++ [c0, c1, c2, c3]).length - 4) = [c0, c1, c2, c3] := by
    rw [hl, Nat.add_sub_cancel, List.drop_append_of_le_length (Nat.le_refl _), List.drop_length]; rfl
  unfold Lib.decodeLastL
  rw [if_neg (by simp), g1, if_neg (by omega), hs]
  simp only [hdrop, hd]
  rw [if_pos (by omega)]
theorem last_width (t q : List UInt8) (c : Nat) (hq : dec q = (c, q.length)) (hne : q ≠ []) (hc : c ≠ 65533) : (Lib.decodeLastL (t ++ q)).2 = q.length := by
  have h4 := dec_w4 q
  rw [hq] at h4
  simp only at h4
  match q, hne, hq, h4 with
  | [b], _, hq, _ =>
    have hb : b.toNat < 128 := by
      apply Classical.byContradiction
      intro hb
      rw [dec_F] at hq
      unfold decF at hq
      simp only [List.getD_cons_zero, hb, if_false, contB, List.length_cons, List.length_nil] at hq
      simp only [Nat.reduceAdd, Nat.lt_irrefl, decide_false, Bool.false_and, Bool.and_false, Bool.false_eq_true, if_false, Prod.mk.injEq] at hq
      exact hc hq.1.symm
    rw [Lib.decodeLastL_ascii t b hb]; rfl
  | [c0, c1], _, hq, _ =>
    have h := congrArg Prod.snd hq
    rw [dec_F] at h
    obtain ⟨h1, h2⟩ := decF_w2 h
    simp only [List.getD_cons_zero] at h1
    simp only [contB, Bool.and_eq_true, decide_eq_true_eq, beq_iff_eq, List.getD_cons_succ, List.getD_cons_zero] at h2
    rw [Lib.last2 t c0 c1 (by omega) (start_of (by omega)) (by rw [decodeL_dec, hq]; rfl), decodeL_dec, hq]
  | [c0, c1, c2], _, hq, _ =>
    have h := congrArg Prod.snd hq
    rw [dec_F] at h
    obtain ⟨h1, h2, h3⟩ := decF_w3 h
    simp only [List.getD_cons_zero] at h1
    simp only [contB, Bool.and_eq_true, decide_eq_true_eq, beq_iff_eq, List.getD_cons_succ, List.getD_cons_zero] at h2 h3
    rw [Lib.last3 t c0 c1 c2 (by omega) (nostart_of h2.2) (start_of (by omega)) (by rw [decodeL_dec, hq]; rfl), decodeL_dec, hq]
  | [c0, c1, c2, c3], _, hq, _ =>
    have h := congrArg Prod.snd hq
    rw [dec_F] at h
    obtain ⟨h1, h2, h3, h4⟩ := decF_w4 h
    simp only [List.getD_cons_zero] at h1
    simp only [contB, Bool.and_eq_true, decide_eq_true_eq, beq_iff_eq, List.getD_cons_succ, List.getD_cons_zero] at h2 h3 h4
    rw [last4 t c0 c1 c2 c3 (by omega) (nostart_of h3.2) (nostart_of h2.2) (start_of (by omega)) (by rw [decodeL_dec, hq]; rfl), decodeL_dec, hq]
  | _ :: _ :: _ :: _ :: _ :: _, _, _, h4 => simp only [List.length_cons] at h4; omega

theorem plain_not {c : Nat} (h : plain c = true) : c ≠ 65533 := by
  rintro rfl
  exact absurd h (by decide)
theorem fnLast1 (l : List UInt8) (h : l.length ≤ 16384) : fnLast [.s l] = some (.tup [.i .i32 (Lib.decodeLastL l).1, .i .i64 (Lib.decodeLastL l).2]) := if_pos (by omega)
theorem o_last : ∀ a v, fnLast a = some v → Comp tabx told 11 a v := fun a v e => comp_prim e
def X_cut := xs [(6, F_awake), (7, F_Key), (11, fnLast)]
theorem t_TextCut : Tells tabx told X_cut := tells_cons o_awake (tells_cons o_Key (tells_cons o_last tells_nil))
theorem bad_behind {l y : List UInt8} {c : Nat} (h : allV plain 1 24 l = true) (hy : rns y = [c]) (hc : plain c = false) : allV plain 1 24 (l ++ y) = false := by
  simp only [allV, Bool.and_eq_true, decide_eq_true_eq] at h
  have hv : ∀ c ∈ rns l, c ≠ 65533 := fun c hm => plain_not (List.all_eq_true.1 h.2.2 c hm)
  have := rns_app l y hv
  unfold allV
  rw [this, hy]
  simp [hc]
theorem cut_front {t q : List UInt8} {c : Nat} (h : allV plain 1 24 (t ++ q) = true) (hr : rns (t ++ q) = rns t ++ [c]) : allV plain 1 24 t = !strEq t [] := by
  simp only [allV, Bool.and_eq_true, decide_eq_true_eq] at h
  rw [hr] at h
  obtain ⟨h1, h2, h3⟩ := h
  rw [List.all_append, Bool.and_eq_true] at h3
  simp only [List.length_append, List.length_cons, List.length_nil] at h2
  cases t with
  | nil => simp [allV, rns_nil, strEq]
  | cons a r =>
    simp only [allV, h3.1, Bool.and_true, strEq, Bool.not_false]
    rw [rns_cons] at h2 ⊢
    simp only [List.length_cons] at h2 ⊢
    rw [decide_eq_true (by omega), decide_eq_true (by omega)]; rfl
theorem U4 {xf : FuncId → List V → Option V} {kz : Nat → List Nat} {k : List Fr} {st : St} {Q : AEx → St → Prop} : M xf kz (.code B4) k st Q = M xf kz (.code (.seq (.reg [⟨some 2, .mov (.k (.b false)), none⟩])
  (.seq (.seq (.reg [⟨some 6, .mov (.t 0), none⟩,
      ⟨some 7, .len .str (.t 6), none⟩,
      ⟨some 8, .bin .gtr (.t 7) (.k (.i .i64 16384)), none⟩,
      ⟨some 9, .mov (.t 8), none⟩,
      ⟨some 10, .mov (.t 0), some (9, false)⟩,
      ⟨some 11, .call true 7 [(.t 10)], some (9, false)⟩,
      ⟨some 12, .bin .neq (.t 11) (.k (.i .i64 0)), some (9, false)⟩,
      ⟨some 13, .pick (.t 9) (.k (.b true)) (.t 12), none⟩])
   (.cond (.t 13)
    (.seq (.reg [⟨some 14, .call true 6 [], none⟩,
       ⟨some 2, .mov (.t 14), none⟩])
    .ret)
    .skip))
  (.seq (.reg [⟨some 16, .mov (.t 0), none⟩,
     ⟨some 17, .call true 11 [(.t 16)], none⟩,
     ⟨some 15, .mov (.t 17), none⟩,
     ⟨some 18, .ext (.t 15) 0, none⟩,
     ⟨some 19, .ext (.t 15) 1, none⟩,
     ⟨some 3, .mov (.t 18), none⟩,
     ⟨some 4, .mov (.t 19), none⟩])
  (.seq (.reg [⟨some 20, .mov (.t 0), none⟩,
     ⟨some 21, .mov (.t 0), none⟩,
     ⟨some 22, .len .str (.t 21), none⟩,
     ⟨some 23, .mov (.t 4), none⟩,
     ⟨some 24, .bin .sub (.t 22) (.t 23), none⟩,
     ⟨some 25, .slc .str (.t 20) none (some (.t 24)) none, none⟩,
     ⟨some 5, .mov (.t 25), none⟩])
  (.seq (.reg [⟨some 26, .mov (.t 5), none⟩,
     ⟨some 27, .call true 7 [(.t 26)], none⟩,
     ⟨some 28, .bin .eql (.t 27) (.k (.i .i64 0)), none⟩,
     ⟨some 29, .mov (.t 5), none⟩,
     ⟨some 30, .bin .neq (.t 29) (.k (.s [])), none⟩,
     ⟨some 31, .eq false .bool (.t 28) (.t 30), none⟩,
     ⟨some 32, .mov (.t 31), none⟩,
     ⟨some 33, .mov (.t 0), some (32, true)⟩,
     ⟨some 34, .bin .add (.t 33) (.k (.s [1])), some (32, true)⟩,
     ⟨some 35, .call true 7 [(.t 34)], some (32, true)⟩,
     ⟨some 36, .bin .eql (.t 35) (.k (.i .i64 20)), some (32, true)⟩,
     ⟨some 37, .pick (.t 32) (.t 36) (.k (.b false)), none⟩,
     ⟨some 38, .mov (.t 37), none⟩,
     ⟨some 39, .mov (.t 0), some (38, true)⟩,
     ⟨some 40, .bin .add (.t 39) (.k (.s [255])), some (38, true)⟩,
     ⟨some 41, .call true 7 [(.t 40)], some (38, true)⟩,
     ⟨some 42, .bin .eql (.t 41) (.k (.i .i64 20)), some (38, true)⟩,
     ⟨some 43, .pick (.t 38) (.t 42) (.k (.b false)), none⟩,
     ⟨some 44, .mov (.t 43), none⟩,
     ⟨some 45, .call true 6 [], some (44, true)⟩,
     ⟨some 46, .pick (.t 44) (.t 45) (.k (.b false)), none⟩,
     ⟨some 2, .mov (.t 46), none⟩])
  .ret)))))) k st Q := rfl
def kz4 (_ : Nat) : List Nat := []
theorem w_TextCut (l : List UInt8) (gl : Nat → List V) : M X_cut (kz4) (.code B4) [] (St.init gl 6 [.s l] {}) (Fin [.tmp 2] (.b true)) := by
  rw [U4]
  simp only [go_sem, ne_eq, not_false_eq_true, reduceIte, Nat.reduceMul, Nat.reduceAdd, Nat.reduceSub, Nat.reduceEqDiff, Nat.reduceLeDiff]
  refine G_split _ _ _ _ _ ?_ ?_ <;> intro h <;> simp only [h, X_cut, F_awake1, go_sem, ne_eq, not_false_eq_true, reduceIte, Nat.reduceMul, Nat.reduceAdd, Nat.reduceSub, Nat.reduceEqDiff, Nat.reduceLeDiff]
  have hl : l.length ≤ 16384 := by simp only [decide_eq_false_iff_not] at h; omega
  have e0 : ∀ (b : Bool) (n : Int), n ≠ 0 → decide (errV b n = 0) = b := by intro b n hn; cases b <;> simp [errV, hn]
  have e20 : ∀ (b : Bool), decide (errV b 20 = 20) = !b := by intro b; cases b <;> simp [errV]
  simp only [F_Key1, e0 _ 20 (by decide), go_sem, ne_eq, not_false_eq_true, reduceIte, Nat.reduceMul, Nat.reduceAdd, Nat.reduceSub, Nat.reduceEqDiff, Nat.reduceLeDiff]
  rcases Bool.eq_false_or_eq_true (allV plain 1 24 l) with hA | hA
  · simp only [hA, go_sem, ne_eq, not_false_eq_true, reduceIte, Nat.reduceMul, Nat.reduceAdd, Nat.reduceSub, Nat.reduceEqDiff, Nat.reduceLeDiff]
    have hne : l ≠ [] := by
      rintro rfl
      simp [allV, rns_nil] at hA
    obtain ⟨t, q, c, h1, h2, h3, h4⟩ := split_last l hne
    have hc : plain c = true := by
      simp only [allV, Bool.and_eq_true, decide_eq_true_eq] at hA
      rw [h4, List.all_append, Bool.and_eq_true] at hA
      simpa using hA.2.2.2
    have hw := last_width t q c h2 h3 (plain_not hc)
    rw [← h1] at hw
    have hlen : l.length = t.length + q.length := by rw [h1, List.length_append]
    have hq1 : 1 ≤ q.length := List.length_pos_iff.2 h3
    have hs : wr .i64 ((l.length : Int) - (q.length : Int)) = ((t.length : Nat) : Int) := by rw [wr64] <;> omega
    have htl : t.length ≤ l.length := by omega
    have htake : List.take t.length l = t := by rw [h1]; simp
    have hcat1 : l.length + 1 ≤ 4611686018427387904 := by omega
    have k1 := bad_behind hA (y := [1]) (c := 1) (by rw [rns_cons, dec_ascii (by decide), show List.drop 1 [(1 : UInt8)] = [] from rfl, rns_nil]; rfl) (by decide)
    have k2 := bad_behind hA (y := [255]) (c := 65533) (by rw [rns_cons, show dec [255] = (65533, 1) from by decide, show List.drop 1 [(255 : UInt8)] = [] from rfl, rns_nil]) (by decide)
    have kf : allV plain 1 24 t = !strEq t [] := by rw [h1] at hA h4; exact cut_front hA h4
    have e3 : (true != false) = true := rfl
    simp only [fnLast1 l hl, hw, hs, htl, htake, hcat1, Nat.zero_le, Nat.le_refl, F_Key1, e0 _ 20 (by decide), e20, kf, k1, k2, beq_self_eq_true, e3, F_awake1, go_sem, ne_eq, not_false_eq_true, reduceIte, Nat.reduceMul, Nat.reduceAdd, Nat.reduceSub, Nat.reduceEqDiff, Nat.reduceLeDiff]
  · simp only [hA, F_awake1, go_sem, ne_eq, not_false_eq_true, reduceIte, Nat.reduceMul, Nat.reduceAdd, Nat.reduceSub, Nat.reduceEqDiff, Nat.reduceLeDiff]
end Go.Proofs.YtkibkodlbjhjfaaDoor
