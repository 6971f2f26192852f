/- ref08: the tokens of a text: its loop. -/
import Derived.Test.YtbhclhgljnoioaaDoorLt4
set_option linter.unusedSimpArgs false
set_option linter.unusedVariables false
namespace Go.Proofs.YtbhclhgljnoioaaDoor
open Ai
theorem clsP1 : clsP 1 = letB := by
  funext c
  unfold clsP clsV
  cases h1 : letB c <;> cases h2 : digB c <;> cases h3 : sgnB c <;> rfl
theorem let_dig {c : Nat} (h : digB c = true) : letB c = false := by
  simp only [digB, letB, Bool.and_eq_true, decide_eq_true_eq, Bool.and_eq_false_iff, decide_eq_false_iff_not] at h ⊢
  omega
theorem clsP3 : clsP 3 = digB := by
  funext c
  unfold clsP clsV
  cases h2 : digB c with
  | true => rw [let_dig h2]; rfl
  | false => cases h1 : letB c <;> cases h3 : sgnB c <;> rfl
set_option maxHeartbeats 1000000 in
theorem w_rt_loop (s : List UInt8) (hs : s.length ≤ 1048576) (gl : Nat → List V) : ∀ (n : Nat) (l : List UInt8) (k cnt : Nat) (acc : List Tok) (loc : List (Nat × List V)), l.length ≤ n → s.drop k = l → k ≤ s.length → acc.length ≤ k → cnt ≤ k →
    M X_rt (kz26) (.code L26_1) (.loop L26_1 :: K26_1) ⟨gl, (.node (.node (.node (.node (.node (.node (.node .leaf .any .leaf) .any (.node .leaf .any .leaf)) .any (.node (.node .leaf .any .leaf) .any (.node .leaf .any .leaf))) .any (.node (.node (.node .leaf .any .leaf) .any (.node .leaf .any .leaf)) .any (.node (.node .leaf .any .leaf) .any (.node .leaf .any .leaf)))) .any (.node (.node (.node (.node .leaf .any .leaf) .any (.node .leaf .any .leaf)) .any (.node (.node .leaf .any .leaf) .any (.node .leaf .any .leaf))) (.i .i64 s.length) (.node (.node (.node .leaf .any .leaf) .any (.node .leaf .any .leaf)) .any (.node (.node .leaf .any .leaf) .any (.node .leaf .any .leaf))))) .any (.node (.node (.node (.node (.node .leaf .any .leaf) .any (.node .leaf .any .leaf)) .any (.node (.node .leaf .any .leaf) .any (.node .leaf .any .leaf))) .any (.node (.node (.node .leaf .any .leaf) .any (.node .leaf .any .leaf)) .any (.node (.node .leaf .any .leaf) .any (.node .leaf .any .leaf)))) (.sl (acc.flatMap Tok.cells) acc.length (.own 1)) (.node (.node (.node (.node .leaf .any .leaf) .any (.node .leaf .any .leaf)) .any (.node (.node .leaf .any .leaf) .any (.node .leaf .any .leaf))) .any (.node (.node (.node .leaf .any .leaf) .any (.node .leaf .any .leaf)) .any (.node (.node .leaf .any .leaf) .any (.node .leaf .any .leaf)))))) (.s s) (.node (.node (.node (.node (.node (.node .leaf .any .leaf) .any (.node .leaf .any .leaf)) .any (.node (.node .leaf .any .leaf) .any (.node .leaf .any .leaf))) .any (.node (.node (.node .leaf .any .leaf) .any (.node .leaf .any .leaf)) .any (.node (.node .leaf .any .leaf) .any (.node .leaf .any .leaf)))) .any (.node (.node (.node (.node .leaf .any .leaf) .any (.node .leaf .any .leaf)) .any (.node (.node .leaf .any .leaf) .any (.node .leaf .any .leaf))) (.i .i64 cnt) (.node (.node (.node .leaf .any .leaf) .any (.node .leaf .any .leaf)) .any (.node (.node .leaf .any .leaf) .any (.node .leaf .any .leaf))))) .any (.node (.node (.node (.node (.node .leaf .any .leaf) .any (.node .leaf .any .leaf)) .any (.node (.node .leaf .any .leaf) .any (.node .leaf .any .leaf))) .any (.node (.node (.node .leaf .any .leaf) .any (.node .leaf .any .leaf)) .any (.node (.node .leaf .any .leaf) .any (.node .leaf .any .leaf)))) (.i .i64 k) (.node (.node (.node (.node .leaf .any .leaf) .any (.node .leaf .any .leaf)) .any (.node (.node .leaf .any .leaf) .any (.node .leaf .any .leaf))) .any (.node (.node (.node .leaf .any .leaf) .any (.node .leaf .any .leaf)) .any (.node (.node .leaf .any .leaf) .any (.node .leaf .any .leaf))))))), [], loc, tokH acc.length⟩
      (Fin [.tmp 2, .tmp 3, .tmp 4] (tokR acc (lx l k))) := by
  intro n
  have base : ∀ (k cnt : Nat) (acc : List Tok) (loc : List (Nat × List V)), s.drop k = [] → k ≤ s.length →
      M X_rt (kz26) (.code L26_1) (.loop L26_1 :: K26_1) ⟨gl, (.node (.node (.node (.node (.node (.node (.node .leaf .any .leaf) .any (.node .leaf .any .leaf)) .any (.node (.node .leaf .any .leaf) .any (.node .leaf .any .leaf))) .any (.node (.node (.node .leaf .any .leaf) .any (.node .leaf .any .leaf)) .any (.node (.node .leaf .any .leaf) .any (.node .leaf .any .leaf)))) .any (.node (.node (.node (.node .leaf .any .leaf) .any (.node .leaf .any .leaf)) .any (.node (.node .leaf .any .leaf) .any (.node .leaf .any .leaf))) (.i .i64 s.length) (.node (.node (.node .leaf .any .leaf) .any (.node .leaf .any .leaf)) .any (.node (.node .leaf .any .leaf) .any (.node .leaf .any .leaf))))) .any (.node (.node (.node (.node (.node .leaf .any .leaf) .any (.node .leaf .any .leaf)) .any (.node (.node .leaf .any .leaf) .any (.node .leaf .any .leaf))) .any (.node (.node (.node .leaf .any .leaf) .any (.node .leaf .any .leaf)) .any (.node (.node .leaf .any .leaf) .any (.node .leaf .any .leaf)))) (.sl (acc.flatMap Tok.cells) acc.length (.own 1)) (.node (.node (.node (.node .leaf .any .leaf) .any (.node .leaf .any .leaf)) .any (.node (.node .leaf .any .leaf) .any (.node .leaf .any .leaf))) .any (.node (.node (.node .leaf .any .leaf) .any (.node .leaf .any .leaf)) .any (.node (.node .leaf .any .leaf) .any (.node .leaf .any .leaf)))))) (.s s) (.node (.node (.node (.node (.node (.node .leaf .any .leaf) .any (.node .leaf .any .leaf)) .any (.node (.node .leaf .any .leaf) .any (.node .leaf .any .leaf))) .any (.node (.node (.node .leaf .any .leaf) .any (.node .leaf .any .leaf)) .any (.node (.node .leaf .any .leaf) .any (.node .leaf .any .leaf)))) .any (.node (.node (.node (.node .leaf .any .leaf) .any (.node .leaf .any .leaf)) .any (.node (.node .leaf .any .leaf) .any (.node .leaf .any .leaf))) (.i .i64 cnt) (.node (.node (.node .leaf .any .leaf) .any (.node .leaf .any .leaf)) .any (.node (.node .leaf .any .leaf) .any (.node .leaf .any .leaf))))) .any (.node (.node (.node (.node (.node .leaf .any .leaf) .any (.node .leaf .any .leaf)) .any (.node (.node .leaf .any .leaf) .any (.node .leaf .any .leaf))) .any (.node (.node (.node .leaf .any .leaf) .any (.node .leaf .any .leaf)) .any (.node (.node .leaf .any .leaf) .any (.node .leaf .any .leaf)))) (.i .i64 k) (.node (.node (.node (.node .leaf .any .leaf) .any (.node .leaf .any .leaf)) .any (.node (.node .leaf .any .leaf) .any (.node .leaf .any .leaf))) .any (.node (.node (.node .leaf .any .leaf) .any (.node .leaf .any .leaf)) .any (.node (.node .leaf .any .leaf) .any (.node .leaf .any .leaf))))))), [], loc, tokH acc.length⟩
        (Fin [.tmp 2, .tmp 3, .tmp 4] (tokR acc (lx [] k))) := by
    intro k cnt acc loc hd hk
    have hl := drop_len hd hk
    simp only [List.length_nil, Nat.add_zero] at hl
    have e2 : decide ((s.length : Int) ≤ (k : Int)) = true := decide_eq_true (by omega)
    rw [U26_1, lx_nil]
    cases e1 : decide ((cnt : Int) < (s.length : Int)) <;> simp only [e1, e2, K26_1, tokR, List.append_nil, frz_toks, go_sem, ne_eq, not_false_eq_true, reduceIte, Nat.reduceMul, Nat.reduceAdd, Nat.reduceSub, Nat.reduceEqDiff, Nat.reduceLeDiff, Nat.reduceLT, List.take_succ_cons, List.take_zero, List.drop_succ_cons, List.cons_append]
  induction n with
  | zero =>
    intro l k cnt acc loc hn hd hk ha hc
    obtain rfl : l = [] := List.length_eq_zero_iff.1 (by omega)
    exact base k cnt acc loc hd hk
  | succ n ih =>
    intro l k cnt acc loc hn hd hk ha hc
    cases l with
    | nil => exact base k cnt acc loc hd hk
    | cons a r =>
      have hl := drop_len hd hk
      simp only [List.length_cons] at hl hn
      have e1 : decide ((cnt : Int) < (s.length : Int)) = true := decide_eq_true (by omega)
      have e2 : decide ((s.length : Int) ≤ (k : Int)) = false := decide_eq_false (by omega)
      have eg := get_drop hd
      have hm : acc.length + 1 ≤ most := by unfold most; omega
      have hcl := toks_len acc
      have w1 : wr .i64 ((k : Int) + 1) = ((k + 1 : Nat) : Int) := by rw [wr64] <;> omega
      have wc : wr .i64 ((cnt : Int) + 1) = ((cnt + 1 : Nat) : Int) := by rw [wr64] <;> omega
      have hd1 : s.drop (k + 1) = r := by rw [← List.drop_drop, hd]; rfl
      have i32 : decide (((a.toNat : Nat) : Int) = 32) = decide (a = 32) := decide_eq_decide.2 ⟨fun h => UInt8.toNat_inj.1 (by show a.toNat = 32; omega), fun h => by rw [h]; rfl⟩
      have i34 : decide (((a.toNat : Nat) : Int) = 34) = decide (a = 34) := decide_eq_decide.2 ⟨fun h => UInt8.toNat_inj.1 (by show a.toNat = 34; omega), fun h => by rw [h]; rfl⟩
      have i45 : decide (((a.toNat : Nat) : Int) = 45) = decide (a = 45) := decide_eq_decide.2 ⟨fun h => UInt8.toNat_inj.1 (by show a.toNat = 45; omega), fun h => by rw [h]; rfl⟩
      rw [U26_1, lx_cons]
      by_cases c1 : a = 32
      · have f1 : decide (a = 32) = true := decide_eq_true c1
        rw [if_pos c1]
        have := ih r (k + 1) (cnt + 1) acc loc (by omega) hd1 (by omega) (by omega) (by omega)
        simp only [e1, e2, eg, i32, f1, w1, wc, go_sem, ne_eq, not_false_eq_true, reduceIte, Nat.reduceMul, Nat.reduceAdd, Nat.reduceSub, Nat.reduceEqDiff, Nat.reduceLeDiff, Nat.reduceLT, List.take_succ_cons, List.take_zero, List.drop_succ_cons, List.cons_append]
        rw [M_loop]
        simp only [kz26, K26_1, List.length_cons, List.length_nil, go_sem, ne_eq, not_false_eq_true, reduceIte, Nat.reduceMul, Nat.reduceAdd, Nat.reduceSub, Nat.reduceEqDiff, Nat.reduceLeDiff, Nat.reduceLT, List.take_succ_cons, List.take_zero, List.drop_succ_cons, List.cons_append] at this ⊢
        exact this
      · have f1 : decide (a = 32) = false := decide_eq_false c1
        rw [if_neg c1]
        by_cases c2 : a = 34
        · have f2 : decide (a = 34) = true := decide_eq_true c2
          have hq := rt_quo (s := s) (i := k) hs (by omega)
          rw [hd1] at hq
          rw [if_pos c2]
          cases hqs : qscan r [] 1 with
          | none =>
            rw [hqs] at hq
            simp only [rqV] at hq
            simp only [e1, e2, eg, i32, f1, i34, f2, w1, hq, splice, List.take_zero, K26_1, tokR, tokH, Int.cast_ofNat_Int, go_sem, ne_eq, not_false_eq_true, reduceIte, Nat.reduceMul, Nat.reduceAdd, Nat.reduceSub, Nat.reduceEqDiff, Nat.reduceLeDiff, Nat.reduceLT, List.take_succ_cons, List.take_zero, List.drop_succ_cons, List.cons_append]
          | some p =>
            obtain ⟨x, m⟩ := p
            rw [hqs] at hq
            simp only [rqV] at hq
            obtain ⟨m1, m2⟩ := qscan_k r.length r [] 1 (Nat.le_refl _) x m hqs
            have f3 : decide (((k + m : Nat) : Int) = 0) = false := decide_eq_false (by omega)
            dsimp only
            rw [tokR_cons]
            have := ih (r.drop (m - 1)) (k + m) (cnt + 1) (acc ++ [⟨2, x, k⟩]) (lset loc 7 [.i .i64 2, .s x, .i .i64 k]) (by rw [List.length_drop]; omega) (by
              rw [← hd1, List.drop_drop, show k + 1 + (m - 1) = k + m from by omega]) (by omega) (by simp; omega) (by omega)
            rw [rt_cells] at this
            simp only [List.length_append, List.length_cons, List.length_nil, Nat.zero_add] at this
            simp only [e1, e2, eg, i32, f1, i34, f2, f3, w1, wc, hq, hcl, hm, tokH, splice, List.take_zero, go_sem, ne_eq, not_false_eq_true, reduceIte, Nat.reduceMul, Nat.reduceAdd, Nat.reduceSub, Nat.reduceEqDiff, Nat.reduceLeDiff, Nat.reduceLT, List.take_succ_cons, List.take_zero, List.drop_succ_cons, List.cons_append]
            rw [M_loop]
            simp only [kz26, K26_1, tokH, List.length_cons, List.length_nil, Int.cast_ofNat_Int, go_sem, ne_eq, not_false_eq_true, reduceIte, Nat.reduceMul, Nat.reduceAdd, Nat.reduceSub, Nat.reduceEqDiff, Nat.reduceLeDiff, Nat.reduceLT, List.take_succ_cons, List.take_zero, List.drop_succ_cons, List.cons_append] at this ⊢
            exact this
        · have f2 : decide (a = 34) = false := decide_eq_false c2
          rw [if_neg c2]
          have word : ∀ kd : Nat, (kd = 1 ∨ kd = 3) → M X_rt (kz26) (.code L26_2) (.loop L26_2 :: K26_2) ⟨gl, (.node (.node (.node (.node (.node (.node (.node .leaf .any .leaf) .any (.node .leaf .any .leaf)) .any (.node (.node .leaf .any .leaf) .any (.node .leaf .any .leaf))) (.l 7 0) (.node (.node (.node .leaf .any .leaf) .any (.node .leaf .any .leaf)) .any (.node (.node .leaf .any .leaf) .any (.node .leaf .any .leaf)))) .any (.node (.node (.node (.node .leaf .any .leaf) .any (.node .leaf .any .leaf)) .any (.node (.node .leaf .any .leaf) .any (.node .leaf .any .leaf))) (.i .i64 s.length) (.node (.node (.node .leaf .any .leaf) .any (.node .leaf .any .leaf)) .any (.node (.node .leaf .any .leaf) .any (.node .leaf .any .leaf))))) .any (.node (.node (.node (.node (.node .leaf .any .leaf) .any (.node .leaf .any .leaf)) .any (.node (.node .leaf .any .leaf) .any (.node .leaf .any .leaf))) (.i .i64 kd) (.node (.node (.node .leaf .any .leaf) .any (.node .leaf .any .leaf)) .any (.node (.node .leaf .any .leaf) .any (.node .leaf .any .leaf)))) (.sl (acc.flatMap Tok.cells) acc.length (.own 1)) (.node (.node (.node (.node .leaf .any .leaf) .any (.node .leaf .any .leaf)) .any (.node (.node .leaf .any .leaf) .any (.node .leaf .any .leaf))) .any (.node (.node (.node .leaf .any .leaf) .any (.node .leaf .any .leaf)) .any (.node (.node .leaf .any .leaf) .any (.node .leaf .any .leaf)))))) (.s s) (.node (.node (.node (.node (.node (.node .leaf .any .leaf) .any (.node .leaf .any .leaf)) .any (.node (.node .leaf .any .leaf) .any (.node .leaf .any .leaf))) (.i .i64 ((k + 1 : Nat) : Int)) (.node (.node (.node .leaf .any .leaf) .any (.node .leaf .any .leaf)) .any (.node (.node .leaf .any .leaf) .any (.node .leaf .any .leaf)))) .any (.node (.node (.node (.node .leaf .any .leaf) .any (.node .leaf .any .leaf)) .any (.node (.node .leaf .any .leaf) .any (.node .leaf .any .leaf))) (.i .i64 cnt) (.node (.node (.node .leaf .any .leaf) .any (.node .leaf .any .leaf)) .any (.node (.node .leaf .any .leaf) .any (.node .leaf .any .leaf))))) .any (.node (.node (.node (.node (.node .leaf .any .leaf) .any (.node .leaf .any .leaf)) .any (.node (.node .leaf .any .leaf) .any (.node .leaf .any .leaf))) .any (.node (.node (.node .leaf .any .leaf) .any (.node .leaf .any .leaf)) .any (.node (.node .leaf .any .leaf) .any (.node .leaf .any .leaf)))) (.i .i64 k) (.node (.node (.node (.node .leaf .any .leaf) .any (.node .leaf .any .leaf)) .any (.node (.node .leaf .any .leaf) .any (.node .leaf .any .leaf))) .any (.node (.node (.node .leaf .any .leaf) .any (.node .leaf .any .leaf)) .any (.node (.node .leaf .any .leaf) .any (.node .leaf .any .leaf))))))), [], lset loc 7 [.i .i64 0, .s [], .i .i64 k], tokH acc.length⟩
              (Fin [.tmp 2, .tmp 3, .tmp 4] (tokR (acc ++ [Tok.mk kd (a :: r.take (wh (clsP kd) r)) k]) (lx (r.drop (wh (clsP kd) r)) (k + 1 + wh (clsP kd) r)))) := by
            intro kd hkd
            have hle := wh_le (clsP kd) r
            refine rt_word s hs kd hkd k cnt (by omega) acc hm loc gl _ r (k + 1) hd1 (by omega) (by omega) ?_
            have := ih (r.drop (wh (clsP kd) r)) (k + 1 + wh (clsP kd) r) (cnt + 1) (acc ++ [Tok.mk kd (a :: r.take (wh (clsP kd) r)) k]) (lset loc 7 [.i .i64 kd, .s (a :: r.take (wh (clsP kd) r)), .i .i64 k]) (by rw [List.length_drop]; omega) (by
              rw [← hd1, List.drop_drop]) (by omega) (by simp; omega) (by omega)
            have hcat : (s.drop k).take (k + 1 + wh (clsP kd) r - k) = a :: r.take (wh (clsP kd) r) := by
              rw [show k + 1 + wh (clsP kd) r - k = k + (wh (clsP kd) r + 1) - k from by omega]; exact take_cat hd _
            rw [hcat]
            simp only [List.length_append, List.length_cons, List.length_nil, Nat.zero_add] at this
            exact this
          have hcls := rt_cls a
          by_cases c3 : letB a.toNat = true
          · rw [if_pos c3, tokR_cons]
            have h45 : a ≠ 45 := fun e => by rw [e] at c3; exact absurd c3 (by decide)
            have f3 : decide (a = 45) = false := decide_eq_false h45
            have hcv : clsV a.toNat = 1 := by unfold clsV; rw [if_pos c3]
            have := word 1 (.inl rfl)
            rw [clsP1] at this
            rw [hcv] at hcls
            simp only [e1, e2, eg, i32, f1, i34, f2, i45, f3, w1, hcls, tokH, splice, List.take_zero, Int.cast_ofNat_Int, Int.natCast_one, Int.reduceEq, go_sem, ne_eq, not_false_eq_true, reduceIte, Nat.reduceMul, Nat.reduceAdd, Nat.reduceSub, Nat.reduceEqDiff, Nat.reduceLeDiff, Nat.reduceLT, List.take_succ_cons, List.take_zero, List.drop_succ_cons, List.cons_append]
            rw [M_loop]
            simp only [kz26, K26_2, K26_1, tokH, List.length_cons, List.length_nil, Int.cast_ofNat_Int, Int.natCast_one, go_sem, ne_eq, not_false_eq_true, reduceIte, Nat.reduceMul, Nat.reduceAdd, Nat.reduceSub, Nat.reduceEqDiff, Nat.reduceLeDiff, Nat.reduceLT, List.take_succ_cons, List.take_zero, List.drop_succ_cons, List.cons_append] at this ⊢
            exact this
          · rw [if_neg c3]
            by_cases c4 : digB a.toNat = true
            · rw [if_pos c4, tokR_cons]
              have h45 : a ≠ 45 := fun e => by rw [e] at c4; exact absurd c4 (by decide)
              have f3 : decide (a = 45) = false := decide_eq_false h45
              have hcv : clsV a.toNat = 3 := by unfold clsV; rw [if_neg c3, if_pos c4]
              have := word 3 (.inr rfl)
              rw [clsP3] at this
              rw [hcv] at hcls
              simp only [e1, e2, eg, i32, f1, i34, f2, i45, f3, w1, hcls, tokH, splice, List.take_zero, Int.cast_ofNat_Int, Int.natCast_one, Int.reduceEq, go_sem, ne_eq, not_false_eq_true, reduceIte, Nat.reduceMul, Nat.reduceAdd, Nat.reduceSub, Nat.reduceEqDiff, Nat.reduceLeDiff, Nat.reduceLT, List.take_succ_cons, List.take_zero, List.drop_succ_cons, List.cons_append]
              rw [M_loop]
              simp only [kz26, K26_2, K26_1, tokH, List.length_cons, List.length_nil, Int.cast_ofNat_Int, Int.natCast_one, go_sem, ne_eq, not_false_eq_true, reduceIte, Nat.reduceMul, Nat.reduceAdd, Nat.reduceSub, Nat.reduceEqDiff, Nat.reduceLeDiff, Nat.reduceLT, List.take_succ_cons, List.take_zero, List.drop_succ_cons, List.cons_append] at this ⊢
              exact this
            · rw [if_neg c4]
              by_cases c5 : a = 45 ∧ headDig r = true
              · rw [if_pos c5, tokR_cons]
                obtain ⟨c5, c6⟩ := c5
                have f3 : decide (a = 45) = true := decide_eq_true c5
                have hcv : clsV a.toNat = 0 := by rw [c5]; decide
                rw [hcv] at hcls
                have := word 3 (.inr rfl)
                rw [clsP3] at this
                cases r with
                | nil => cases c6
                | cons b r2 =>
                  have c6' : digB b.toNat = true := c6
                  have eb := get_drop hd1
                  have hclb := rt_cls b
                  have hcb : clsV b.toNat = 3 := by unfold clsV; rw [let_dig c6', c6']; rfl
                  rw [hcb] at hclb
                  have e3 : decide (((k + 1 : Nat) : Int) < (s.length : Int)) = true := decide_eq_true (by simp only [List.length_cons] at hl; omega)
                  simp only [e1, e2, e3, eg, eb, i32, f1, i34, f2, i45, f3, w1, hcls, hclb, tokH, splice, List.take_zero, Int.cast_ofNat_Int, Int.reduceEq, go_sem, ne_eq, not_false_eq_true, reduceIte, Nat.reduceMul, Nat.reduceAdd, Nat.reduceSub, Nat.reduceEqDiff, Nat.reduceLeDiff, Nat.reduceLT, List.take_succ_cons, List.take_zero, List.drop_succ_cons, List.cons_append]
                  rw [M_loop]
                  simp only [kz26, K26_2, K26_1, tokH, List.length_cons, List.length_nil, Int.cast_ofNat_Int, Int.natCast_one, go_sem, ne_eq, not_false_eq_true, reduceIte, Nat.reduceMul, Nat.reduceAdd, Nat.reduceSub, Nat.reduceEqDiff, Nat.reduceLeDiff, Nat.reduceLT, List.take_succ_cons, List.take_zero, List.drop_succ_cons, List.cons_append] at this ⊢
                  exact this
              · rw [if_neg c5]
                by_cases c7 : sgnB a.toNat = true
                · rw [if_pos c7, tokR_cons]
                  have h45 : a ≠ 45 := fun e => by rw [e] at c7; exact absurd c7 (by decide)
                  have f3 : decide (a = 45) = false := decide_eq_false h45
                  have hcv : clsV a.toNat = 4 := by unfold clsV; rw [if_neg c3, if_neg c4, if_pos c7]
                  rw [hcv] at hcls
                  have g1 : k + 1 ≤ s.length := by omega
                  have g2 : k ≤ k + 1 := by omega
                  have hc0 : (s.drop k).take (k + 1 - k) = [a] := take_cat hd 0
                  have := ih r (k + 1) (cnt + 1) (acc ++ [Tok.mk 4 [a] k]) (lset loc 7 [.i .i64 4, .s [a], .i .i64 k]) (by omega) hd1 (by omega) (by simp; omega) (by omega)
                  rw [rt_cells] at this
                  simp only [List.length_append, List.length_cons, List.length_nil, Nat.zero_add] at this
                  simp only [e1, e2, eg, i32, f1, i34, f2, i45, f3, w1, hcls, tokH, splice, List.take_zero, Int.cast_ofNat_Int, Int.reduceEq, go_sem, ne_eq, not_false_eq_true, reduceIte, Nat.reduceMul, Nat.reduceAdd, Nat.reduceSub, Nat.reduceEqDiff, Nat.reduceLeDiff, Nat.reduceLT, List.take_succ_cons, List.take_zero, List.drop_succ_cons, List.cons_append]
                  rw [M_loop, U26_2]
                  simp only [wc, g1, g2, Nat.le_refl, hc0, hcl, hm, tokH, splice, List.take_zero, kz26, K26_2, K26_1, List.length_cons, List.length_nil, Int.cast_ofNat_Int, Int.reduceEq, go_sem, ne_eq, not_false_eq_true, reduceIte, Nat.reduceMul, Nat.reduceAdd, Nat.reduceSub, Nat.reduceEqDiff, Nat.reduceLeDiff, Nat.reduceLT, List.take_succ_cons, List.take_zero, List.drop_succ_cons, List.cons_append]
                  rw [M_loop]
                  simp only [kz26, K26_1, tokH, List.length_cons, List.length_nil, Int.cast_ofNat_Int, go_sem, ne_eq, not_false_eq_true, reduceIte, Nat.reduceMul, Nat.reduceAdd, Nat.reduceSub, Nat.reduceEqDiff, Nat.reduceLeDiff, Nat.reduceLT, List.take_succ_cons, List.take_zero, List.drop_succ_cons, List.cons_append] at this ⊢
                  exact this
                · rw [if_neg c7]
                  have hcv : clsV a.toNat = 0 := by unfold clsV; rw [if_neg c3, if_neg c4, if_neg c7]
                  rw [hcv] at hcls
                  by_cases c8 : a = 45
                  · have f3 : decide (a = 45) = true := decide_eq_true c8
                    cases r with
                    | nil =>
                      have e3 : decide (((k + 1 : Nat) : Int) < (s.length : Int)) = false := decide_eq_false (by simp only [List.length_nil] at hl; omega)
                      simp only [e1, e2, e3, eg, i32, f1, i34, f2, i45, f3, w1, hcls, tokH, tokR, splice, List.take_zero, Int.natCast_zero, Int.cast_ofNat_Int, Int.reduceEq, K26_1, go_sem, ne_eq, not_false_eq_true, reduceIte, Nat.reduceMul, Nat.reduceAdd, Nat.reduceSub, Nat.reduceEqDiff, Nat.reduceLeDiff, Nat.reduceLT, List.take_succ_cons, List.take_zero, List.drop_succ_cons, List.cons_append]
                    | cons b r2 =>
                      have c6' : digB b.toNat = false := by
                        cases h : digB b.toNat with
                        | false => rfl
                        | true => exact absurd ⟨c8, h⟩ c5
                      have eb := get_drop hd1
                      have hclb := rt_cls b
                      have e3 : decide (((k + 1 : Nat) : Int) < (s.length : Int)) = true := decide_eq_true (by simp only [List.length_cons] at hl; omega)
                      have e4 : decide (((clsV b.toNat : Nat) : Int) = 3) = false := by
                        have : clsP 3 b.toNat = false := by rw [clsP3]; exact c6'
                        unfold clsP at this
                        refine decide_eq_false fun h => ?_
                        rw [show clsV b.toNat = 3 from by omega] at this
                        cases this
                      simp only [e1, e2, e3, e4, eg, eb, i32, f1, i34, f2, i45, f3, w1, hcls, hclb, tokH, tokR, splice, List.take_zero, Int.natCast_zero, Int.cast_ofNat_Int, Int.reduceEq, K26_1, go_sem, ne_eq, not_false_eq_true, reduceIte, Nat.reduceMul, Nat.reduceAdd, Nat.reduceSub, Nat.reduceEqDiff, Nat.reduceLeDiff, Nat.reduceLT, List.take_succ_cons, List.take_zero, List.drop_succ_cons, List.cons_append]
                  · have f3 : decide (a = 45) = false := decide_eq_false c8
                    simp only [e1, e2, eg, i32, f1, i34, f2, i45, f3, w1, hcls, tokH, tokR, splice, List.take_zero, Int.natCast_zero, Int.cast_ofNat_Int, Int.reduceEq, K26_1, go_sem, ne_eq, not_false_eq_true, reduceIte, Nat.reduceMul, Nat.reduceAdd, Nat.reduceSub, Nat.reduceEqDiff, Nat.reduceLeDiff, Nat.reduceLT, List.take_succ_cons, List.take_zero, List.drop_succ_cons, List.cons_append]
end Go.Proofs.YtbhclhgljnoioaaDoor
