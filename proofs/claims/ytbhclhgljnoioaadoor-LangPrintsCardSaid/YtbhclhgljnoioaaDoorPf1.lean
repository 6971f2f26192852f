/- filter: whether a filter may be: walked, whole. -/
import Derived.Test.YtbhclhgljnoioaaDoorPf0
set_option linter.unusedSimpArgs false
set_option linter.unusedVariables false
namespace Go.Proofs.YtbhclhgljnoioaaDoor
open Ai
theorem bld_gt (f : Fil) (d w : Nat) (h : w ≤ 24) : w + 1 ≤ (bld f d w).2 := by
  cases f with | mk k nm tx kids =>
  rw [bld]
  split
  · exact Nat.le_refl _
  · split
    · exact Nat.le_refl _
    · exact (blds_le kids (d + 1) (w + 1) (by omega)).1
section
variable {id D : Nat}
set_option maxRecDepth 100000 in
theorem w_kids (S : S_build id D) (k : Int) (nm tx : List UInt8) (kids : List Fil) (ys : List V) (tk0 : Tk) (hy : KidsR kids ys) (hk : 4 ≤ k ∧ k ≤ 6) (hk4 : k = 4 → kids.length = 1) (d : Nat) (hd : d ≤ 6) (hD : 8 ≤ d + 1 + D) (h0 : H) : ∀ (post pre : List Fil) (w : Nat) (h : H) (xs : List V) (tk : Tk) (l11 : List (Nat × List V)), kids = pre ++ post → WB h id w → w ≤ 24 → pre.length ≤ w → TkH h0 h 71 pre.length tk → Hop h0 h id → xs.length = pre.length → (∀ x ∈ xs, ∃ t y, x = .ifc t y) →
    Hp.M X_build (Y_build id) (kz69) (.code L69_1) (.loop L69_1 :: K69_1) ⟨gl0, (.node (.node (.node (.node (.node (.node (.node (.node .leaf .any .leaf) .any (.node .leaf .any .leaf)) .any (.node (.node .leaf .any .leaf) .any (.node .leaf .any .leaf))) .any (.node (.node (.node .leaf .any .leaf) .any (.node .leaf .any .leaf)) .any (.node (.node .leaf .any .leaf) .any (.node .leaf .any .leaf)))) .any (.node (.node (.node (.node .leaf .any .leaf) .any (.node .leaf .any .leaf)) .any (.node (.node .leaf .any .leaf) .any (.node .leaf .any .leaf))) .any (.node (.node (.node .leaf (.i .i64 (pre.length : Nat)) .leaf) .any (.node .leaf .any .leaf)) .any (.node (.node .leaf .any .leaf) .any (.node .leaf .any .leaf))))) (.l 3 0) (.node (.node (.node (.node (.node .leaf .any .leaf) .any (.node .leaf .any .leaf)) .any (.node (.node .leaf .any .leaf) .any (.node .leaf .any .leaf))) .any (.node (.node (.node .leaf .any .leaf) .any (.node .leaf .any .leaf)) .any (.node (.node .leaf .any .leaf) .any (.node .leaf .any .leaf)))) .any (.node (.node (.node (.node .leaf .any .leaf) .any (.node .leaf .any .leaf)) .any (.node (.node .leaf .any .leaf) .any (.node .leaf .any .leaf))) .any (.node (.node (.node .leaf .any .leaf) .any (.node .leaf .any .leaf)) .any (.node (.node .leaf .any .leaf) .any (.node .leaf .any .leaf)))))) (.i .i64 (d : Nat)) (.node (.node (.node (.node (.node (.node .leaf .any .leaf) .any (.node .leaf .any .leaf)) .any (.node (.node .leaf .any .leaf) .any (.node .leaf .any .leaf))) .any (.node (.node (.node .leaf .any .leaf) .any (.node .leaf .any .leaf)) .any (.node (.node .leaf .any .leaf) .any (.node .leaf .any .leaf)))) (.sl xs pre.length tk) (.node (.node (.node (.node .leaf .any .leaf) .any (.node .leaf .any .leaf)) .any (.node (.node .leaf .any .leaf) .any (.node .leaf .any .leaf))) .any (.node (.node (.node .leaf .any .leaf) .any (.node .leaf .any .leaf)) .any (.node (.node .leaf .any .leaf) .any (.node .leaf .any .leaf))))) .any (.node (.node (.node (.node (.node .leaf .any .leaf) .any (.node .leaf .any .leaf)) .any (.node (.node .leaf .any .leaf) .any (.node .leaf .any .leaf))) .any (.node (.node (.node .leaf (.sl ys kids.length tk0) .leaf) .any (.node .leaf .any .leaf)) .any (.node (.node .leaf .any .leaf) .any (.node .leaf .any .leaf)))) .any (.node (.node (.node (.node .leaf .any .leaf) .any (.node .leaf .any .leaf)) .any (.node (.node .leaf .any .leaf) .any (.node .leaf .any .leaf))) .any (.node (.node (.node .leaf .any .leaf) .any (.node .leaf .any .leaf)) .any (.node (.node .leaf .any .leaf) .any (.node .leaf .any .leaf))))))) .any (.node (.node (.node (.node (.node (.node (.node .leaf .any .leaf) .any (.node .leaf .any .leaf)) .any (.node (.node .leaf .any .leaf) .any (.node .leaf .any .leaf))) .any (.node (.node (.node .leaf .any .leaf) .any (.node .leaf .any .leaf)) .any (.node (.node .leaf .any .leaf) .any (.node .leaf .any .leaf)))) .any (.node (.node (.node (.node .leaf .any .leaf) .any (.node .leaf .any .leaf)) .any (.node (.node .leaf .any .leaf) .any (.node .leaf .any .leaf))) .any (.node (.node (.node .leaf .any .leaf) .any (.node .leaf .any .leaf)) .any (.node (.node .leaf .any .leaf) .any (.node .leaf .any .leaf))))) .any (.node (.node (.node (.node (.node .leaf .any .leaf) .any (.node .leaf .any .leaf)) .any (.node (.node .leaf .any .leaf) .any (.node .leaf .any .leaf))) .any (.node (.node (.node .leaf .any .leaf) .any (.node .leaf .any .leaf)) .any (.node (.node .leaf .any .leaf) .any (.node .leaf .any .leaf)))) .any (.node (.node (.node (.node .leaf .any .leaf) .any (.node .leaf .any .leaf)) .any (.node (.node .leaf .any .leaf) .any (.node .leaf .any .leaf))) .any (.node (.node (.node .leaf .any .leaf) .any (.node .leaf .any .leaf)) .any (.node (.node .leaf .any .leaf) .any (.node .leaf .any .leaf)))))) (.p id 0) (.node (.node (.node (.node (.node (.node .leaf .any .leaf) .any (.node .leaf .any .leaf)) .any (.node (.node .leaf .any .leaf) .any (.node .leaf .any .leaf))) .any (.node (.node (.node .leaf .any .leaf) .any (.node .leaf .any .leaf)) .any (.node (.node .leaf .any .leaf) .any (.node .leaf .any .leaf)))) .any (.node (.node (.node (.node .leaf .any .leaf) .any (.node .leaf .any .leaf)) .any (.node (.node .leaf .any .leaf) .any (.node .leaf .any .leaf))) .any (.node (.node (.node .leaf .any .leaf) .any (.node .leaf .any .leaf)) .any (.node (.node .leaf .any .leaf) .any (.node .leaf .any .leaf))))) .any (.node (.node (.node (.node (.node .leaf .any .leaf) .any (.node .leaf .any .leaf)) .any (.node (.node .leaf .any .leaf) .any (.node .leaf .any .leaf))) .any (.node (.node (.node .leaf (.i .i64 (kids.length : Nat)) .leaf) .any (.node .leaf .any .leaf)) .any (.node (.node .leaf .any .leaf) .any (.node .leaf .any .leaf)))) .any (.node (.node (.node (.node .leaf .any .leaf) .any (.node .leaf .any .leaf)) .any (.node (.node .leaf .any .leaf) .any (.node .leaf .any .leaf))) .any (.node (.node (.node .leaf .any .leaf) .any (.node .leaf .any .leaf)) .any (.node (.node .leaf .any .leaf) .any (.node .leaf .any .leaf)))))))), [], (3, [.i .i64 k, .s nm, .s tx, .sl ys kids.length tk0]) :: l11, h⟩
      (fun ex st => ∃ v h', Hp.FinI [.tmp 6, .tmp 7] v h' ex st ∧ ResB id h0 v h' (blds post (d + 1) w)) := by
  intro post
  induction post with
  | nil =>
    intro pre w h xs tk l11 hk1 hw hw2 hpw htk hop hxl hxs
    have hl : kids.length = pre.length := by rw [hk1]; simp
    have e1 : decide ((pre.length : Int) < (kids.length : Int)) = false := decide_eq_false (by omega)
    rw [UH69_1, blds]
    rcases (by omega : k = 4 ∨ k = 5 ∨ k = 6) with rfl | rfl | rfl
    · have h1 := hk4 rfl
      obtain ⟨x0, rfl⟩ : ∃ x, xs = [x] := by
        match xs, (show xs.length = 1 by omega) with
        | [x], _ => exact ⟨x, rfl⟩
      obtain ⟨t, y, rfl⟩ := hxs x0 (by simp)
      have hp1 : pre.length = 1 := by omega
      rw [h1, hp1] at *
      have e1 : decide (((1 : Nat) : Int) < ((1 : Nat) : Int)) = false := by decide
      simp only [e1, K69_1, List.getElem?_cons_zero, Int.cast_ofNat_Int, go_sem, ne_eq, not_false_eq_true, reduceIte, Nat.reduceMul, Nat.reduceAdd, Nat.reduceSub, Nat.reduceEqDiff, Nat.reduceLeDiff, Nat.reduceLT, List.take_succ_cons, List.take_zero, List.drop_succ_cons, List.cons_append]
      simp only [show decide ((1 : Int) < 1) = false by decide, K69_1, List.getElem?_cons_zero, Int.cast_ofNat_Int, go_sem, ne_eq, not_false_eq_true, reduceIte, Nat.reduceMul, Nat.reduceAdd, Nat.reduceSub, Nat.reduceEqDiff, Nat.reduceLeDiff, Nat.reduceLT, List.take_succ_cons, List.take_zero, List.drop_succ_cons, List.cons_append]
      exact ⟨_, _, ⟨rfl, rfl⟩, _, rfl, .inl ⟨rfl, _, _, rfl, rfl⟩, hop, hw⟩
    · have e2 : decide ((5 : Int) = 4) = false := by decide
      simp only [e1, e2, K69_1, Int.cast_ofNat_Int, go_sem, ne_eq, not_false_eq_true, reduceIte, Nat.reduceMul, Nat.reduceAdd, Nat.reduceSub, Nat.reduceEqDiff, Nat.reduceLeDiff, Nat.reduceLT, List.take_succ_cons, List.take_zero, List.drop_succ_cons, List.cons_append]
      exact ⟨_, _, ⟨rfl, rfl⟩, _, rfl, .inl ⟨rfl, _, _, rfl, rfl⟩, hop, hw⟩
    · have e2 : decide ((6 : Int) = 4) = false := by decide
      have e3 : decide ((6 : Int) = 5) = false := by decide
      simp only [e1, e2, e3, K69_1, Int.cast_ofNat_Int, go_sem, ne_eq, not_false_eq_true, reduceIte, Nat.reduceMul, Nat.reduceAdd, Nat.reduceSub, Nat.reduceEqDiff, Nat.reduceLeDiff, Nat.reduceLT, List.take_succ_cons, List.take_zero, List.drop_succ_cons, List.cons_append]
      exact ⟨_, _, ⟨rfl, rfl⟩, _, rfl, .inl ⟨rfl, _, _, rfl, rfl⟩, hop, hw⟩
  | cons f post ih =>
    intro pre w h xs tk l11 hk1 hw hw2 hpw htk hop hxl hxs
    have hl : kids.length = pre.length + post.length + 1 := by rw [hk1]; simp; omega
    have e1 : decide ((pre.length : Int) < (kids.length : Int)) = true := decide_eq_true (by omega)
    have g1 : pre.length < kids.length := by omega
    have hyl := hy.len
    have g2 : (pre.length + 1) * 4 ≤ kids.length * 4 := by omega
    obtain ⟨c, hc, ht⟩ := hy.split pre f post hk1
    obtain ⟨x, h', y4, q1, q2, q3⟩ := call_build S hc hw hw2 hD (by omega)
    have hle := bld_le f (d + 1) w hw2
    have w1 : wr .i64 ((d : Int) + 1) = ((d + 1 : Nat) : Int) := by rw [wr64] <;> omega
    rw [UH69_1, blds]
    cases hc with | mk k1 nm1 tx1 kids1 xs1 n1 tk1 hn1 hx1 =>
    generalize hq : bld (.mk k1 nm1 tx1 kids1) (d + 1) w = q at *
    obtain ⟨er, w'⟩ := q
    simp only at q1 q3 y4 hle
    by_cases he : er = 0
    · subst he
      rw [if_pos rfl]
      rcases q1 with ⟨_, t, y, rfl, hq2⟩ | ⟨hq1, _⟩
      · have hqc := isQ_c hq2
        obtain ⟨nx, obs, nt, tips⟩ := h'
        obtain ⟨tips', hap, g3, g4⟩ := app_tkH (htk.hop q2) (sz := 1) (by rw [hxl]; simp) (c := [.ifc t y]) rfl rfl (by unfold most; omega) (hop.trans q2)
        have hw' : WB ⟨nx, obs, nt, tips'⟩ id w' := q3
        have w2 : wr .i64 ((pre.length : Int) + 1) = ((pre.length + 1 : Nat) : Int) := by rw [wr64] <;> omega
        have hgrow : pre.length + 1 ≤ w' := by
          have := bld_gt (.mk k1 nm1 tx1 kids1) (d + 1) w hw2
          rw [hq] at this
          simp only at this
          omega
        have := fun l11 => ih (pre ++ [.mk k1 nm1 tx1 kids1]) w' ⟨nx, obs, nt, tips'⟩ (xs ++ [.ifc t y]) tk l11 (by rw [hk1]; simp) hw' (hle.2 rfl) (by simp; omega) (by simpa using g3) g4 (by simp [hxl]) (by
          intro z hz
          rcases List.mem_append.1 hz with hz | hz
          · exact hxs z hz
          · simp only [List.mem_singleton] at hz; exact ⟨t, y, hz⟩)
        simp only [e1, g1, hyl, g2, rd_ip, ht, w1, y4, hqc, hap, w2, splice, Int.cast_ofNat_Int, go_sem, ne_eq, not_false_eq_true, reduceIte, Nat.reduceMul, Nat.reduceAdd, Nat.reduceSub, Nat.reduceEqDiff, Nat.reduceLeDiff, Nat.reduceLT, List.take_succ_cons, List.take_zero, List.drop_succ_cons, List.cons_append]
        rw [Hp.M_loop]
        simp only [kz69, K69_1, List.length_append, List.length_cons, List.length_nil, Nat.zero_add, go_sem, ne_eq, not_false_eq_true, reduceIte, Nat.reduceMul, Nat.reduceAdd, Nat.reduceSub, Nat.reduceEqDiff, Nat.reduceLeDiff, Nat.reduceLT, List.take_succ_cons, List.take_zero, List.drop_succ_cons, List.cons_append] at this ⊢
        exact this _
      · exact absurd rfl hq1
    · rw [if_neg he]
      rcases q1 with ⟨hq1, _⟩ | ⟨hq1, rfl⟩
      · exact absurd hq1 he
      · have f1 : decide ((er : Int) = 0) = false := decide_eq_false (by omega)
        simp only [e1, g1, hyl, g2, rd_ip, ht, w1, y4, f1, splice, K69_1, go_sem, ne_eq, not_false_eq_true, reduceIte, Nat.reduceMul, Nat.reduceAdd, Nat.reduceSub, Nat.reduceEqDiff, Nat.reduceLeDiff, Nat.reduceLT, List.take_succ_cons, List.take_zero, List.drop_succ_cons, List.cons_append]
        exact ⟨_, _, ⟨rfl, rfl⟩, _, rfl, .inr ⟨he, rfl⟩, hop.trans q2, q3⟩
theorem errB (b : Bool) (e : Nat) (he : e ≠ 0) : decide (errV b e = 0) = b := by
  cases b with
  | true => rfl
  | false => exact decide_eq_false (by show ¬ ((e : Int) = 0); omega)
end
section
variable {id D : Nat}
set_option maxRecDepth 100000 in
set_option maxHeartbeats 1000000 in
theorem s_build (S : S_build id D) : S_build id (D + 1) := by
  intro f c d w h hf hw hw2 hD hd
  cases hf with | mk k nm tx kids xs n tk hn hx =>
  subst hn
  obtain ⟨nx, obs, nt, tips⟩ := h
  refine compI_ex (xf := X_build) (kz := kz69) (fn := af69) x_build (t_build id) rfl (Nat.le_of_ble_eq_true rfl) ?_
  show Hp.M _ _ _ (.code B69) _ (St.init gl0 8 _ _) (fun ex st => ∃ v h', Hp.FinI [.tmp 6, .tmp 7] v h' ex st ∧ _)
  rw [UH69]
  have hw' : al obs id = some (Ai.Obj.cells 3 [.i .i64 (w : Nat)]) := hw
  have w1 : wr .i64 ((w : Int) + 1) = ((w + 1 : Nat) : Int) := by rw [wr64] <;> omega
  rw [bld]
  by_cases c1 : 6 < d
  · have e1 : decide ((6 : Int) < (d : Int)) = true := decide_eq_true (by omega)
    rw [if_pos (.inl c1)]
    simp only [hw', w1, e1, splice, go_sem, ne_eq, not_false_eq_true, reduceIte, Nat.reduceMul, Nat.reduceAdd, Nat.reduceSub, Nat.reduceEqDiff, Nat.reduceLeDiff, Nat.reduceLT, List.take_succ_cons, List.take_zero, List.drop_succ_cons, List.cons_append]
    exact ⟨_, _, ⟨rfl, rfl⟩, _, rfl, .inr ⟨(show (51 : Nat) ≠ 0 from by decide), rfl⟩, Hop.setW ⟨nx, obs, nt, tips⟩ id (w + 1), WB.set ⟨nx, obs, nt, tips⟩ id (w + 1)⟩
  · have e1 : decide ((6 : Int) < (d : Int)) = false := decide_eq_false (by omega)
    by_cases c2 : 24 < w + 1
    · have e2 : decide ((24 : Int) < ((w + 1 : Nat) : Int)) = true := decide_eq_true (by omega)
      rw [if_pos (.inr c2)]
      simp only [hw', w1, e1, e2, splice, go_sem, ne_eq, not_false_eq_true, reduceIte, Nat.reduceMul, Nat.reduceAdd, Nat.reduceSub, Nat.reduceEqDiff, Nat.reduceLeDiff, Nat.reduceLT, List.take_succ_cons, List.take_zero, List.drop_succ_cons, List.cons_append]
      exact ⟨_, _, ⟨rfl, rfl⟩, _, rfl, .inr ⟨(show (51 : Nat) ≠ 0 from by decide), rfl⟩, Hop.setW ⟨nx, obs, nt, tips⟩ id (w + 1), WB.set ⟨nx, obs, nt, tips⟩ id (w + 1)⟩
    · have e2 : decide ((24 : Int) < ((w + 1 : Nat) : Int)) = false := decide_eq_false (by omega)
      rw [if_neg (by omega)]
      have eL : decide ((kids.length : Int) = 0) = decide (kids.length = 0) := decide_eq_decide.2 (by omega)
      have eN := strEq_dec nm []
      have eT := strEq_dec tx []
      have xk : X_build 90 [.s tx] = some (.i .i64 (errV (keyB tx) 20)) := rfl
      have xv : X_build 92 [.s tx] = some (.i .i64 (errV (valB tx) 21)) := rfl
      have xn : X_build 91 [.s nm] = some (.i .i64 (errV (namB nm) 22)) := rfl
      have ek : decide (errV (keyB tx) 20 = 0) = keyB tx := errB (keyB tx) 20 (by decide)
      have ev : decide (errV (valB tx) 21 = 0) = valB tx := errB (valB tx) 21 (by decide)
      have en : decide (errV (namB nm) 22 = 0) = namB nm := errB (namB nm) 22 (by decide)
      by_cases k0 : k = 0
      · skip
        have hM : mayB k nm tx kids.length = (decide (kids.length = 0) && (decide (nm = []) && decide (tx = []))) := by unfold mayB; rw [if_pos (by omega)]
        have d0 : decide (k = 0) = true := decide_eq_true (by omega)
        have d1 : decide (k = 1) = false := decide_eq_false (by omega)
        have d2 : decide (k = 2) = false := decide_eq_false (by omega)
        have d3 : decide (k = 3) = false := decide_eq_false (by omega)
        have d4 : decide (k < 4) = true := decide_eq_true (by omega)
        rw [hM]
        cases hL : decide (kids.length = 0) <;> cases hN : decide (nm = []) <;> cases hT : decide (tx = []) <;> rw [hL] at eL <;> rw [hN] at eN <;> rw [hT] at eT
        all_goals first
          | (rw [if_pos (show (_ && (_ && _)) = false from rfl)]; simp only [hw', w1, e1, e2, eL, eN, eT, d0, d1, d2, d3, d4, xk, xv, xn, ek, ev, en, splice, Int.cast_ofNat_Int, go_sem, ne_eq, not_false_eq_true, reduceIte, Nat.reduceMul, Nat.reduceAdd, Nat.reduceSub, Nat.reduceEqDiff, Nat.reduceLeDiff, Nat.reduceLT, List.take_succ_cons, List.take_zero, List.drop_succ_cons, List.cons_append]; exact ⟨_, _, ⟨rfl, rfl⟩, _, rfl, .inr ⟨(show (50 : Nat) ≠ 0 from by decide), rfl⟩, Hop.setW ⟨nx, obs, nt, tips⟩ id (w + 1), WB.set ⟨nx, obs, nt, tips⟩ id (w + 1)⟩)
          | (obtain rfl : kids = [] := List.eq_nil_of_length_eq_zero (of_decide_eq_true hL)
             rw [if_neg (by decide), blds]
             simp only [hw', w1, e1, e2, eL, eN, eT, d0, d1, d2, d3, d4, xk, xv, xn, ek, ev, en, splice, Int.cast_ofNat_Int, go_sem, ne_eq, not_false_eq_true, reduceIte, Nat.reduceMul, Nat.reduceAdd, Nat.reduceSub, Nat.reduceEqDiff, Nat.reduceLeDiff, Nat.reduceLT, List.take_succ_cons, List.take_zero, List.drop_succ_cons, List.cons_append]
             exact ⟨_, _, ⟨rfl, rfl⟩, _, rfl, .inl ⟨rfl, _, _, rfl, rfl⟩, Hop.setW ⟨nx, obs, nt, tips⟩ id (w + 1), WB.set ⟨nx, obs, nt, tips⟩ id (w + 1)⟩)
      · by_cases k1 : k = 1
        · skip
          have hM : mayB k nm tx kids.length = (decide (kids.length = 0) && (decide (nm = []) && keyB tx)) := by unfold mayB; rw [if_neg (by omega), if_pos k1]
          have d0 : decide (k = 0) = false := decide_eq_false (by omega)
          have d1 : decide (k = 1) = true := decide_eq_true (by omega)
          have d2 : decide (k = 2) = false := decide_eq_false (by omega)
          have d3 : decide (k = 3) = false := decide_eq_false (by omega)
          have d4 : decide (k < 4) = true := decide_eq_true (by omega)
          rw [hM]
          cases hL : decide (kids.length = 0) <;> cases hN : decide (nm = []) <;> cases hT : decide (tx = []) <;> cases hK : keyB tx <;> rw [hL] at eL <;> rw [hN] at eN <;> rw [hT] at eT <;> rw [hK] at ek xk
          all_goals first
            | (rw [if_pos (show (_ && (_ && _)) = false from rfl)]; simp only [hw', w1, e1, e2, eL, eN, eT, d0, d1, d2, d3, d4, xk, xv, xn, ek, ev, en, splice, Int.cast_ofNat_Int, go_sem, ne_eq, not_false_eq_true, reduceIte, Nat.reduceMul, Nat.reduceAdd, Nat.reduceSub, Nat.reduceEqDiff, Nat.reduceLeDiff, Nat.reduceLT, List.take_succ_cons, List.take_zero, List.drop_succ_cons, List.cons_append]; exact ⟨_, _, ⟨rfl, rfl⟩, _, rfl, .inr ⟨(show (50 : Nat) ≠ 0 from by decide), rfl⟩, Hop.setW ⟨nx, obs, nt, tips⟩ id (w + 1), WB.set ⟨nx, obs, nt, tips⟩ id (w + 1)⟩)
            | (obtain rfl : kids = [] := List.eq_nil_of_length_eq_zero (of_decide_eq_true hL)
               rw [if_neg (by decide), blds]
               simp only [hw', w1, e1, e2, eL, eN, eT, d0, d1, d2, d3, d4, xk, xv, xn, ek, ev, en, splice, Int.cast_ofNat_Int, go_sem, ne_eq, not_false_eq_true, reduceIte, Nat.reduceMul, Nat.reduceAdd, Nat.reduceSub, Nat.reduceEqDiff, Nat.reduceLeDiff, Nat.reduceLT, List.take_succ_cons, List.take_zero, List.drop_succ_cons, List.cons_append]
               exact ⟨_, _, ⟨rfl, rfl⟩, _, rfl, .inl ⟨rfl, _, _, rfl, rfl⟩, Hop.setW ⟨nx, obs, nt, tips⟩ id (w + 1), WB.set ⟨nx, obs, nt, tips⟩ id (w + 1)⟩)
        · by_cases k2 : k = 2
          · skip
            have hM : mayB k nm tx kids.length = (decide (kids.length = 0) && (namB nm && valB tx)) := by unfold mayB; rw [if_neg (by omega), if_neg k1, if_pos k2]
            have d0 : decide (k = 0) = false := decide_eq_false (by omega)
            have d1 : decide (k = 1) = false := decide_eq_false (by omega)
            have d2 : decide (k = 2) = true := decide_eq_true (by omega)
            have d3 : decide (k = 3) = false := decide_eq_false (by omega)
            have d4 : decide (k < 4) = true := decide_eq_true (by omega)
            rw [hM]
            cases hL : decide (kids.length = 0) <;> cases hN : decide (nm = []) <;> cases hT : decide (tx = []) <;> cases hK : namB nm <;> cases hV : valB tx <;> rw [hL] at eL <;> rw [hN] at eN <;> rw [hT] at eT <;> rw [hK] at en xn <;> rw [hV] at ev xv
            all_goals first
              | (rw [if_pos (show (_ && (_ && _)) = false from rfl)]; simp only [hw', w1, e1, e2, eL, eN, eT, d0, d1, d2, d3, d4, xk, xv, xn, ek, ev, en, splice, Int.cast_ofNat_Int, go_sem, ne_eq, not_false_eq_true, reduceIte, Nat.reduceMul, Nat.reduceAdd, Nat.reduceSub, Nat.reduceEqDiff, Nat.reduceLeDiff, Nat.reduceLT, List.take_succ_cons, List.take_zero, List.drop_succ_cons, List.cons_append]; exact ⟨_, _, ⟨rfl, rfl⟩, _, rfl, .inr ⟨(show (50 : Nat) ≠ 0 from by decide), rfl⟩, Hop.setW ⟨nx, obs, nt, tips⟩ id (w + 1), WB.set ⟨nx, obs, nt, tips⟩ id (w + 1)⟩)
              | (obtain rfl : kids = [] := List.eq_nil_of_length_eq_zero (of_decide_eq_true hL)
                 rw [if_neg (by decide), blds]
                 simp only [hw', w1, e1, e2, eL, eN, eT, d0, d1, d2, d3, d4, xk, xv, xn, ek, ev, en, splice, Int.cast_ofNat_Int, go_sem, ne_eq, not_false_eq_true, reduceIte, Nat.reduceMul, Nat.reduceAdd, Nat.reduceSub, Nat.reduceEqDiff, Nat.reduceLeDiff, Nat.reduceLT, List.take_succ_cons, List.take_zero, List.drop_succ_cons, List.cons_append]
                 exact ⟨_, _, ⟨rfl, rfl⟩, _, rfl, .inl ⟨rfl, _, _, rfl, rfl⟩, Hop.setW ⟨nx, obs, nt, tips⟩ id (w + 1), WB.set ⟨nx, obs, nt, tips⟩ id (w + 1)⟩)
          · by_cases k3 : k = 3
            · skip
              have hM : mayB k nm tx kids.length = (decide (kids.length = 0) && (decide (nm = []) && decide (tx = []))) := by unfold mayB; rw [if_pos (by omega)]
              have d0 : decide (k = 0) = false := decide_eq_false (by omega)
              have d1 : decide (k = 1) = false := decide_eq_false (by omega)
              have d2 : decide (k = 2) = false := decide_eq_false (by omega)
              have d3 : decide (k = 3) = true := decide_eq_true (by omega)
              have d4 : decide (k < 4) = true := decide_eq_true (by omega)
              rw [hM]
              cases hL : decide (kids.length = 0) <;> cases hN : decide (nm = []) <;> cases hT : decide (tx = []) <;> rw [hL] at eL <;> rw [hN] at eN <;> rw [hT] at eT
              all_goals first
                | (rw [if_pos (show (_ && (_ && _)) = false from rfl)]; simp only [hw', w1, e1, e2, eL, eN, eT, d0, d1, d2, d3, d4, xk, xv, xn, ek, ev, en, splice, Int.cast_ofNat_Int, go_sem, ne_eq, not_false_eq_true, reduceIte, Nat.reduceMul, Nat.reduceAdd, Nat.reduceSub, Nat.reduceEqDiff, Nat.reduceLeDiff, Nat.reduceLT, List.take_succ_cons, List.take_zero, List.drop_succ_cons, List.cons_append]; exact ⟨_, _, ⟨rfl, rfl⟩, _, rfl, .inr ⟨(show (50 : Nat) ≠ 0 from by decide), rfl⟩, Hop.setW ⟨nx, obs, nt, tips⟩ id (w + 1), WB.set ⟨nx, obs, nt, tips⟩ id (w + 1)⟩)
                | (obtain rfl : kids = [] := List.eq_nil_of_length_eq_zero (of_decide_eq_true hL)
                   rw [if_neg (by decide), blds]
                   simp only [hw', w1, e1, e2, eL, eN, eT, d0, d1, d2, d3, d4, xk, xv, xn, ek, ev, en, splice, Int.cast_ofNat_Int, go_sem, ne_eq, not_false_eq_true, reduceIte, Nat.reduceMul, Nat.reduceAdd, Nat.reduceSub, Nat.reduceEqDiff, Nat.reduceLeDiff, Nat.reduceLT, List.take_succ_cons, List.take_zero, List.drop_succ_cons, List.cons_append]
                   exact ⟨_, _, ⟨rfl, rfl⟩, _, rfl, .inl ⟨rfl, _, _, rfl, rfl⟩, Hop.setW ⟨nx, obs, nt, tips⟩ id (w + 1), WB.set ⟨nx, obs, nt, tips⟩ id (w + 1)⟩)
            · have d0 : decide (k = 0) = false := decide_eq_false k0
              have d1 : decide (k = 1) = false := decide_eq_false k1
              have d2 : decide (k = 2) = false := decide_eq_false k2
              have d3 : decide (k = 3) = false := decide_eq_false k3
              -- not one of the kinds
              by_cases k4 : k < 4 ∨ 6 < k
              · have hM : mayB k nm tx kids.length = false := by unfold mayB; rw [if_neg (by omega), if_neg k1, if_neg k2, if_neg (by omega), if_neg (by omega)]
                rw [if_pos hM]
                by_cases k5 : k < 4
                · have d4 : decide (k < 4) = true := decide_eq_true k5
                  cases hN : decide (nm = []) <;> cases hT : decide (tx = []) <;> rw [hN] at eN <;> rw [hT] at eT <;> simp only [hw', w1, e1, e2, eL, eN, eT, d0, d1, d2, d3, d4, splice, go_sem, ne_eq, not_false_eq_true, reduceIte, Nat.reduceMul, Nat.reduceAdd, Nat.reduceSub, Nat.reduceEqDiff, Nat.reduceLeDiff, Nat.reduceLT, List.take_succ_cons, List.take_zero, List.drop_succ_cons, List.cons_append] <;> exact ⟨_, _, ⟨rfl, rfl⟩, _, rfl, .inr ⟨(show (50 : Nat) ≠ 0 from by decide), rfl⟩, Hop.setW ⟨nx, obs, nt, tips⟩ id (w + 1), WB.set ⟨nx, obs, nt, tips⟩ id (w + 1)⟩
                · have d4 : decide (k < 4) = false := decide_eq_false k5
                  have d6 : decide (6 < k) = true := decide_eq_true (by omega)
                  cases hN : decide (nm = []) <;> cases hT : decide (tx = []) <;> rw [hN] at eN <;> rw [hT] at eT <;> simp only [hw', w1, e1, e2, eL, eN, eT, d0, d1, d2, d3, d4, d6, splice, go_sem, ne_eq, not_false_eq_true, reduceIte, Nat.reduceMul, Nat.reduceAdd, Nat.reduceSub, Nat.reduceEqDiff, Nat.reduceLeDiff, Nat.reduceLT, List.take_succ_cons, List.take_zero, List.drop_succ_cons, List.cons_append] <;> exact ⟨_, _, ⟨rfl, rfl⟩, _, rfl, .inr ⟨(show (50 : Nat) ≠ 0 from by decide), rfl⟩, Hop.setW ⟨nx, obs, nt, tips⟩ id (w + 1), WB.set ⟨nx, obs, nt, tips⟩ id (w + 1)⟩
              · have d4 : decide (k < 4) = false := decide_eq_false (by omega)
                have d6 : decide (6 < k) = false := decide_eq_false (by omega)
                have eK : decide ((kids.length : Int) = 1) = decide (kids.length = 1) := decide_eq_decide.2 (by omega)
                have hM : mayB k nm tx kids.length = (decide (nm = []) && (decide (tx = []) && (!decide (k = 4) || decide (kids.length = 1)))) := by
                  unfold mayB
                  rw [if_neg (by omega), if_neg k1, if_neg k2]
                  by_cases h4 : k = 4
                  · rw [if_pos h4, decide_eq_true h4]; rfl
                  · rw [if_neg h4, if_pos (by omega), decide_eq_false h4]; simp
                rw [hM]
                have fin : ((k = 4) → kids.length = 1) → _ := fun hk4 => w_kids S k nm tx kids xs tk hx (by omega) hk4 d (by omega) (by omega) ⟨nx, obs, nt, tips⟩ kids [] (w + 1) ⟨nx, alSet obs id (.cells 3 [.i .i64 ((w + 1 : Nat) : Int)]), nt + 1, (nt, (0, 71)) :: tips⟩ [] (.own nt) [] rfl (WB.set ⟨nx, obs, nt, tips⟩ id (w + 1)) (by omega) (Nat.zero_le _) ⟨nt, rfl, Nat.le_refl _, Nat.lt_succ_self _, by simp only [go_sem, ne_eq, not_false_eq_true, reduceIte, Nat.reduceMul, Nat.reduceAdd, Nat.reduceSub, Nat.reduceEqDiff, Nat.reduceLeDiff, Nat.reduceLT, List.take_succ_cons, List.take_zero, List.drop_succ_cons, List.cons_append]⟩
                  ⟨rfl, Nat.le_succ _, fun t ht => by
                    have hne : Nat.beq nt t = false := by
                      cases hb : Nat.beq nt t with
                      | true => have h1 := Nat.eq_of_beq_eq_true hb; simp only at ht; omega
                      | false => rfl
                    show al ((nt, _) :: tips) t = _
                    simp only [al, hne, cond_false], (Hop.setW ⟨nx, obs, nt, tips⟩ id (w + 1)).objs⟩ rfl (fun x hx => by cases hx)
                cases h4 : decide (k = 4) <;> cases hK : decide (kids.length = 1) <;> cases hN : decide (nm = []) <;> cases hT : decide (tx = []) <;> rw [hN] at eN <;> rw [hT] at eT <;> rw [hK] at eK
                all_goals first
                  | (rw [if_pos (show (_ && (_ && (_ || _))) = false from rfl)]; simp only [hw', w1, e1, e2, eL, eN, eT, eK, h4, d0, d1, d2, d3, d4, d6, splice, go_sem, ne_eq, not_false_eq_true, reduceIte, Nat.reduceMul, Nat.reduceAdd, Nat.reduceSub, Nat.reduceEqDiff, Nat.reduceLeDiff, Nat.reduceLT, List.take_succ_cons, List.take_zero, List.drop_succ_cons, List.cons_append]; exact ⟨_, _, ⟨rfl, rfl⟩, _, rfl, .inr ⟨(show (50 : Nat) ≠ 0 from by decide), rfl⟩, Hop.setW ⟨nx, obs, nt, tips⟩ id (w + 1), WB.set ⟨nx, obs, nt, tips⟩ id (w + 1)⟩)
                  | (rw [if_neg (by decide)]
                     have fin := fin (fun h5 => by first | exact of_decide_eq_true hK | exact absurd h5 (of_decide_eq_false h4))
                     simp only [hw', w1, e1, e2, eL, eN, eT, eK, h4, d0, d1, d2, d3, d4, d6, splice, go_sem, ne_eq, not_false_eq_true, reduceIte, Nat.reduceMul, Nat.reduceAdd, Nat.reduceSub, Nat.reduceEqDiff, Nat.reduceLeDiff, Nat.reduceLT, List.take_succ_cons, List.take_zero, List.drop_succ_cons, List.cons_append]
                     rw [Hp.M_loop]
                     simp only [kz69, K69_1, List.length_cons, List.length_nil, Int.cast_ofNat_Int, go_sem, ne_eq, not_false_eq_true, reduceIte, Nat.reduceMul, Nat.reduceAdd, Nat.reduceSub, Nat.reduceEqDiff, Nat.reduceLeDiff, Nat.reduceLT, List.take_succ_cons, List.take_zero, List.drop_succ_cons, List.cons_append] at fin ⊢
                     exact fin)
theorem s_build_all (id : Nat) : ∀ D, S_build id D
  | 0 => fun _ _ _ _ _ _ _ _ h1 h2 => by omega
  | D + 1 => s_build (s_build_all id D)
end
end Go.Proofs.YtbhclhgljnoioaaDoor
