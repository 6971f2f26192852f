/- lang.tell: walked, whole; Print. -/
import Derived.Test.YtbhclhgljnoioaaDoorPg4
set_option linter.unusedSimpArgs false
set_option linter.unusedVariables false
namespace Go.Proofs.YtbhclhgljnoioaaDoor
open Ai Go.Shelf
section
variable {D : Nat}
set_option maxRecDepth 100000 in
theorem w_t1 (S : S_tell D) (k : Int) (nm tx : List UInt8) (kids : List Fil) (ys : List V) (tk0 : Tk) (hy : KidsR kids ys) (d : Nat) (hfi : Fine (.mk k nm tx kids) d) (hD : 8 ≤ d + 1 + D) (word li : List UInt8) (hwo : word.length = 4 ∨ word.length = 5) (hli : li.length = 4 ∨ li.length = 5) (b : Nat) (hb1 : b ≤ 2) (gl : Nat → List V) :
    ∀ (post pre : List Fil) (l : List (List UInt8)) (v : V) (h : H) (l8 : List (Nat × List V)), kids = pre ++ post → l = tellW pre (b + 1) → LB h v l →
    Hp.M X_tell Y_tell (kz38) (.code L38_1) (.loop L38_1 :: K38_1) ⟨gl, (.node (.node (.node (.node (.node (.node (.node .leaf .any .leaf) .any (.node .leaf .any .leaf)) .any (.node (.node .leaf .any .leaf) .any (.node .leaf .any .leaf))) .any (.node (.node (.node .leaf .any .leaf) .any (.node .leaf .any .leaf)) .any (.node (.node .leaf .any .leaf) .any (.node .leaf .any .leaf)))) (.s word) (.node (.node (.node (.node .leaf .any .leaf) .any (.node .leaf .any .leaf)) .any (.node (.node .leaf .any .leaf) .any (.node .leaf .any .leaf))) .any (.node (.node (.node .leaf .any .leaf) .any (.node .leaf .any .leaf)) .any (.node (.node .leaf .any .leaf) .any (.node .leaf .any .leaf))))) (.l 1 0) (.node (.node (.node (.node (.node .leaf .any .leaf) .any (.node .leaf .any .leaf)) .any (.node (.node .leaf .any .leaf) .any (.node .leaf .any .leaf))) .any (.node (.node (.node .leaf .any .leaf) .any (.node .leaf .any .leaf)) .any (.node (.node .leaf .any .leaf) .any (.node .leaf .any .leaf)))) (.i .i64 (b : Nat)) (.node (.node (.node (.node .leaf .any .leaf) .any (.node .leaf .any .leaf)) .any (.node (.node .leaf .any .leaf) .any (.node .leaf .any .leaf))) .any (.node (.node (.node .leaf .any .leaf) (.i .i64 (kids.length : Nat)) (.node .leaf .any .leaf)) .any (.node (.node .leaf .any .leaf) .any (.node .leaf .any .leaf)))))) .any (.node (.node (.node (.node (.node (.node .leaf .any .leaf) .any (.node .leaf .any .leaf)) .any (.node (.node .leaf .any .leaf) .any (.node .leaf .any .leaf))) .any (.node (.node (.node .leaf .any .leaf) .any (.node .leaf .any .leaf)) .any (.node (.node .leaf .any .leaf) .any (.node .leaf .any .leaf)))) (.s li) (.node (.node (.node (.node .leaf .any .leaf) .any (.node .leaf .any .leaf)) .any (.node (.node .leaf .any .leaf) .any (.node .leaf .any .leaf))) .any (.node (.node (.node .leaf .any .leaf) (.sl ys kids.length tk0) (.node .leaf .any .leaf)) .any (.node (.node .leaf .any .leaf) .any (.node .leaf .any .leaf))))) .any (.node (.node (.node (.node (.node .leaf .any .leaf) .any (.node .leaf .any .leaf)) .any (.node (.node .leaf .any .leaf) .any (.node .leaf .any .leaf))) .any (.node (.node (.node .leaf .any .leaf) .any (.node .leaf .any .leaf)) .any (.node (.node .leaf .any .leaf) .any (.node .leaf .any .leaf)))) (v) (.node (.node (.node (.node .leaf .any .leaf) .any (.node .leaf .any .leaf)) .any (.node (.node .leaf .any .leaf) .any (.node .leaf .any .leaf))) .any (.node (.node (.node .leaf .any .leaf) (.i .i64 (pre.length : Nat)) (.node .leaf .any .leaf)) .any (.node (.node .leaf .any .leaf) .any (.node .leaf .any .leaf))))))), [], (1, [.i .i64 k, .s nm, .s tx, .sl ys kids.length tk0]) :: l8, h⟩
      (Fin [.tmp 2] (.s (if 1 < kids.length then Lib.join (tellW kids (b + 1)) word else li ++ Lib.join (tellL kids) [44, 32] ++ [41]))) := by
  obtain ⟨m1, m2, m3, m4, m5, m6, m7⟩ := hfi.may
  intro post
  induction post with
  | nil =>
    intro pre l v h l8 hk1 hl hb
    have hkl : kids.length = pre.length := by rw [hk1]; simp
    rw [List.append_nil] at hk1
    have hll : l.length = kids.length := by rw [hl, tellW_len, hkl]
    have e1 : decide ((pre.length : Int) < (kids.length : Int)) = false := decide_eq_false (by omega)
    rw [UH38_1]
    by_cases hk2 : 1 < kids.length
    · rw [if_pos hk2]
      rcases hb with ⟨rfl, rfl⟩ | ⟨hne, id, rfl, hid, ho⟩
      · simp only [List.length_nil] at hll; omega
      · have e2 : decide ((1 : Int) < (l.length : Int)) = true := decide_eq_true (by omega)
        have yj : Y_tell 66 [.hs id 0 l.length 1, .s word] h = some (.s (Lib.join l word), h) := H_JoinH word ho rfl (by omega) (by
          rw [hl]; have := tellW_le pre (b + 1) word (by omega) (hk1 ▸ m7); rw [hk1] at m6; omega)
        have hjl : Lib.join l word = Lib.join (tellW kids (b + 1)) word := by rw [hl, hk1]
        rw [hjl] at yj
        simp only [e1, e2, yj, K38_1, go_sem, ne_eq, not_false_eq_true, reduceIte, Nat.reduceMul, Nat.reduceAdd, Nat.reduceSub, Nat.reduceEqDiff, Nat.reduceLeDiff, Nat.reduceLT, List.take_succ_cons, List.take_zero, List.drop_succ_cons, List.cons_append]
    · rw [if_neg hk2]
      have key := fun x1 x3 x5 x44 x45 x46 => w_t2 S kids ys tk0 hy d (hfi.kid) hD li hli gl l hll (by omega) v h hb ((1, [.i .i64 k, .s nm, .s tx, .sl ys kids.length tk0]) :: l8) x1 x3 x5 x44 x45 x46
      rcases hb with ⟨rfl, rfl⟩ | ⟨hne, id, rfl, hid, ho⟩
      · have e2 : decide ((1 : Int) < 0) = false := by decide
        simp only [e1, e2, K38_1, Int.cast_ofNat_Int, Int.natCast_zero, go_sem, ne_eq, not_false_eq_true, reduceIte, Nat.reduceMul, Nat.reduceAdd, Nat.reduceSub, Nat.reduceEqDiff, Nat.reduceLeDiff, Nat.reduceLT, List.take_succ_cons, List.take_zero, List.drop_succ_cons, List.cons_append]
        rw [Hp.M_loop]
        simp only [kz38, K38_2, List.length_cons, List.length_nil, go_sem, ne_eq, not_false_eq_true, reduceIte, Nat.reduceMul, Nat.reduceAdd, Nat.reduceSub, Nat.reduceEqDiff, Nat.reduceLeDiff, Nat.reduceLT, List.take_succ_cons, List.take_zero, List.drop_succ_cons, List.cons_append] at key ⊢
        exact key _ _ _ _ _ _
      · have e2 : decide ((1 : Int) < (l.length : Int)) = false := decide_eq_false (by omega)
        simp only [e1, e2, K38_1, go_sem, ne_eq, not_false_eq_true, reduceIte, Nat.reduceMul, Nat.reduceAdd, Nat.reduceSub, Nat.reduceEqDiff, Nat.reduceLeDiff, Nat.reduceLT, List.take_succ_cons, List.take_zero, List.drop_succ_cons, List.cons_append]
        rw [Hp.M_loop]
        simp only [kz38, K38_2, List.length_cons, List.length_nil, go_sem, ne_eq, not_false_eq_true, reduceIte, Nat.reduceMul, Nat.reduceAdd, Nat.reduceSub, Nat.reduceEqDiff, Nat.reduceLeDiff, Nat.reduceLT, List.take_succ_cons, List.take_zero, List.drop_succ_cons, List.cons_append] at key ⊢
        exact key _ _ _ _ _ _
  | cons f post ih =>
    intro pre l v h l8 hk1 hl hb
    have hkl : kids.length = pre.length + post.length + 1 := by rw [hk1]; simp; omega
    have hll : l.length = pre.length := by rw [hl, tellW_len]
    have e1 : decide ((pre.length : Int) < (kids.length : Int)) = true := decide_eq_true (by omega)
    have g1 : pre.length < kids.length := by omega
    have hyl := hy.len
    have g2 : (pre.length + 1) * 4 ≤ kids.length * 4 := by omega
    obtain ⟨c, hc, ht⟩ := hy.split pre f post hk1
    have w1 : wr .i64 ((b : Int) + 1) = ((b + 1 : Nat) : Int) := by rw [wr64] <;> omega
    have w2 : wr .i64 ((pre.length : Int) + 1) = ((pre.length + 1 : Nat) : Int) := by rw [wr64] <;> omega
    have y1 : X_tell 65 [.agg c, .i .i64 ((b + 1 : Nat) : Int)] = some (.s (withinF f (b + 1))) := call_within (s_within S) hc (hfi.kid pre f post hk1) hD (by omega)
    obtain ⟨nx, obs, nt, tips⟩ := h
    obtain ⟨v', h', hap, hb'⟩ := hb.step (withinF f (b + 1)) (by unfold most; omega)
    have hl' : l ++ [withinF f (b + 1)] = tellW (pre ++ [f]) (b + 1) := by rw [tellW_app, tellW_one, hl]
    have hb2 := hb'
    rcases hb' with ⟨h0, _⟩ | ⟨_, id', rfl, _, _⟩
    · simp at h0
    · have := fun l8 => ih (pre ++ [f]) _ _ h' l8 (by rw [hk1]; simp) hl' hb2
      rw [UH38_1]
      cases hc with | mk k1 nm1 tx1 kids1 xs1 n1 tk1 hn1 hx1 =>
      rcases hb with ⟨rfl, rfl⟩ | ⟨hne, id, rfl, hid, ho⟩
      · simp only [e1, g1, hyl, g2, rd_ip, ht, w1, w2, y1, k_bsliceT, hap, splice, Int.cast_ofNat_Int, go_sem, ne_eq, not_false_eq_true, reduceIte, Nat.reduceMul, Nat.reduceAdd, Nat.reduceSub, Nat.reduceEqDiff, Nat.reduceLeDiff, Nat.reduceLT, List.take_succ_cons, List.take_zero, List.drop_succ_cons, List.cons_append]
        rw [Hp.M_loop]
        simp only [kz38, K38_1, List.length_append, List.length_cons, List.length_nil, Nat.zero_add, go_sem, ne_eq, not_false_eq_true, reduceIte, Nat.reduceMul, Nat.reduceAdd, Nat.reduceSub, Nat.reduceEqDiff, Nat.reduceLeDiff, Nat.reduceLT, List.take_succ_cons, List.take_zero, List.drop_succ_cons, List.cons_append] at this ⊢
        exact this _
      · simp only [e1, g1, hyl, g2, rd_ip, ht, w1, w2, y1, k_bsliceT, hap, splice, Int.cast_ofNat_Int, go_sem, ne_eq, not_false_eq_true, reduceIte, Nat.reduceMul, Nat.reduceAdd, Nat.reduceSub, Nat.reduceEqDiff, Nat.reduceLeDiff, Nat.reduceLT, List.take_succ_cons, List.take_zero, List.drop_succ_cons, List.cons_append]
        rw [Hp.M_loop]
        simp only [kz38, K38_1, List.length_append, List.length_cons, List.length_nil, Nat.zero_add, go_sem, ne_eq, not_false_eq_true, reduceIte, Nat.reduceMul, Nat.reduceAdd, Nat.reduceSub, Nat.reduceEqDiff, Nat.reduceLeDiff, Nat.reduceLT, List.take_succ_cons, List.take_zero, List.drop_succ_cons, List.cons_append] at this ⊢
        exact this _
set_option maxRecDepth 100000 in
set_option maxHeartbeats 1000000 in
theorem s_tell (S : S_tell D) : S_tell (D + 1) := by
  intro f c d hf hfi hD
  have hs := FilR.strip f c hf
  refine Hp.comp_of (kz := kz38) t_tell u_tell (fn := af38) rfl (Nat.le_of_ble_eq_true rfl) fun gl => ?_
  show Hp.M _ _ _ (.code B38) _ (St.init gl 7 [.agg (stripL c)] _) (Fin [.tmp 2] _)
  rw [UH38]
  generalize stripL c = c2 at hs
  clear hf c
  cases hs with | mk k nm tx kids xs n tk hn hx =>
  subst hn
  obtain ⟨m1, m2, m3, m4, m5, m6, m7⟩ := hfi.may
  obtain ⟨q1, q2, q3⟩ := may_kind m1
  have y1 : X_tell 12 [.s tx] = some (.s (quoteV tx)) := F_Quote1 tx (by omega)
  have hql := quoteV_len tx
  rw [tellF]
  by_cases k0 : k = 0
  · have d0 : decide (k = 0) = true := decide_eq_true k0
    rw [if_pos k0]
    simp only [d0, go_sem, ne_eq, not_false_eq_true, reduceIte, Nat.reduceMul, Nat.reduceAdd, Nat.reduceSub, Nat.reduceEqDiff, Nat.reduceLeDiff, Nat.reduceLT, List.take_succ_cons, List.take_zero, List.drop_succ_cons, List.cons_append]
  · have d0 : decide (k = 0) = false := decide_eq_false k0
    rw [if_neg k0]
    by_cases k1 : k = 1
    · have d1 : decide (k = 1) = true := decide_eq_true k1
      have g1 : 6 + (quoteV tx).length ≤ 4611686018427387904 := by omega
      rw [if_pos k1]
      generalize quoteV tx = q at *
      simp only [d0, d1, y1, g1, go_sem, ne_eq, not_false_eq_true, reduceIte, Nat.reduceMul, Nat.reduceAdd, Nat.reduceSub, Nat.reduceEqDiff, Nat.reduceLeDiff, Nat.reduceLT, List.take_succ_cons, List.take_zero, List.drop_succ_cons, List.cons_append]
    · have d1 : decide (k = 1) = false := decide_eq_false k1
      rw [if_neg k1]
      by_cases k2 : k = 2
      · have d2 : decide (k = 2) = true := decide_eq_true k2
        have g1 : nm.length + 3 ≤ 4611686018427387904 := by omega
        have g2 : nm.length + 3 + (quoteV tx).length ≤ 4611686018427387904 := by omega
        rw [if_pos k2]
        generalize quoteV tx = q at *
        simp only [d0, d1, d2, y1, g1, g2, List.length_append, go_sem, ne_eq, not_false_eq_true, reduceIte, Nat.reduceMul, Nat.reduceAdd, Nat.reduceSub, Nat.reduceEqDiff, Nat.reduceLeDiff, Nat.reduceLT, List.take_succ_cons, List.take_zero, List.drop_succ_cons, List.cons_append]
      · have d2 : decide (k = 2) = false := decide_eq_false k2
        rw [if_neg k2]
        by_cases k3 : k = 3
        · have d3 : decide (k = 3) = true := decide_eq_true k3
          rw [if_pos k3]
          simp only [d0, d1, d2, d3, go_sem, ne_eq, not_false_eq_true, reduceIte, Nat.reduceMul, Nat.reduceAdd, Nat.reduceSub, Nat.reduceEqDiff, Nat.reduceLeDiff, Nat.reduceLT, List.take_succ_cons, List.take_zero, List.drop_succ_cons, List.cons_append]
        · have d3 : decide (k = 3) = false := decide_eq_false k3
          rw [if_neg k3]
          by_cases k4 : k = 4
          · have d4 : decide (k = 4) = true := decide_eq_true k4
            rw [if_pos k4]
            obtain ⟨g, rfl⟩ : ∃ g, kids = [g] := by
              match kids, q3 k4 with
              | [g], _ => exact ⟨g, rfl⟩
            have hfk := hfi.kid [] g [] rfl
            obtain ⟨c, hc, ht⟩ := hx.split [] g [] rfl
            have y2 : X_tell 65 [.agg c, .i .i64 ((3 : Nat) : Int)] = some (.s (withinF g 3)) := call_within (s_within S) hc hfk (by omega) (by omega)
            have hwl : (withinF g 3).length ≤ 1300002 := by
              have := hfk.len
              unfold withinF
              split
              · simp only [List.length_append, List.length_cons, List.length_nil]; omega
              · omega
            have hyl := hx.len
            have g3 : 4 ≤ xs.length := by simp only [List.length_cons, List.length_nil] at hyl; omega
            rw [tellW_one, List.headD_cons]
            generalize withinF g 3 = w at *
            have g1 : 4 + w.length ≤ 4611686018427387904 := by omega
            cases hc with | mk k1 nm1 tx1 kids1 xs1 n1 tk1 hn1 hx1 =>
            simp only [List.length_cons, List.length_nil, Nat.zero_add, Nat.zero_mul, Nat.one_mul, List.drop_zero, Int.cast_ofNat_Int] at hyl ht y2 ⊢
            simp only [d0, d1, d2, d3, d4, hyl, g3, rd_ip, ht, y2, g1, Int.cast_ofNat_Int, go_sem, ne_eq, not_false_eq_true, reduceIte, Nat.reduceMul, Nat.reduceAdd, Nat.reduceSub, Nat.reduceEqDiff, Nat.reduceLeDiff, Nat.reduceLT, List.take_succ_cons, List.take_zero, List.drop_succ_cons, List.cons_append]
          · have d4 : decide (k = 4) = false := decide_eq_false k4
            rw [if_neg k4]
            by_cases k5 : k = 5
            · have d5 : decide (k = 5) = true := decide_eq_true k5
              have key := w_t1 S k nm tx kids xs tk hx d hfi (by omega) [32, 97, 110, 100, 32] [101, 97, 99, 104, 40] (.inr rfl) (.inr rfl) 2 (by decide) gl kids [] [] (.sl [] 0 .nil) ⟨0, [], 0, []⟩ [] rfl (by rw [tellW]) (.inl ⟨rfl, rfl⟩)
              rw [if_pos k5, if_pos k5, if_pos k5]
              simp only [d0, d1, d2, d3, d4, d5, splice, go_sem, ne_eq, not_false_eq_true, reduceIte, Nat.reduceMul, Nat.reduceAdd, Nat.reduceSub, Nat.reduceEqDiff, Nat.reduceLeDiff, Nat.reduceLT, List.take_succ_cons, List.take_zero, List.drop_succ_cons, List.cons_append]
              rw [Hp.M_loop]
              simp only [kz38, K38_1, List.length_cons, List.length_nil, Int.cast_ofNat_Int, Int.natCast_zero, go_sem, ne_eq, not_false_eq_true, reduceIte, Nat.reduceMul, Nat.reduceAdd, Nat.reduceSub, Nat.reduceEqDiff, Nat.reduceLeDiff, Nat.reduceLT, List.take_succ_cons, List.take_zero, List.drop_succ_cons, List.cons_append] at key ⊢
              exact key
            · have d5 : decide (k = 5) = false := decide_eq_false k5
              have key := w_t1 S k nm tx kids xs tk hx d hfi (by omega) [32, 111, 114, 32] [97, 110, 121, 40] (.inl rfl) (.inl rfl) 1 (by decide) gl kids [] [] (.sl [] 0 .nil) ⟨0, [], 0, []⟩ [] rfl (by rw [tellW]) (.inl ⟨rfl, rfl⟩)
              rw [if_neg k5, if_neg k5, if_neg k5]
              simp only [d0, d1, d2, d3, d4, d5, splice, go_sem, ne_eq, not_false_eq_true, reduceIte, Nat.reduceMul, Nat.reduceAdd, Nat.reduceSub, Nat.reduceEqDiff, Nat.reduceLeDiff, Nat.reduceLT, List.take_succ_cons, List.take_zero, List.drop_succ_cons, List.cons_append]
              rw [Hp.M_loop]
              simp only [kz38, K38_1, List.length_cons, List.length_nil, Int.cast_ofNat_Int, Int.natCast_zero, go_sem, ne_eq, not_false_eq_true, reduceIte, Nat.reduceMul, Nat.reduceAdd, Nat.reduceSub, Nat.reduceEqDiff, Nat.reduceLeDiff, Nat.reduceLT, List.take_succ_cons, List.take_zero, List.drop_succ_cons, List.cons_append] at key ⊢
              exact key
theorem s_tell_all : ∀ D, S_tell D
  | 0 => fun f c d _ hfi h => by
    obtain ⟨w, h1, h2⟩ := hfi.b
    cases f with | mk k nm tx kids =>
    have := hfi.may
    omega
  | D + 1 => s_tell (s_tell_all D)
end
end Go.Proofs.YtbhclhgljnoioaaDoor
