/- filter: whether a filter may be: walked, whole. -/
import Derived.Test.YtpcjhfchpelonaaGreatDoorPf0
import Derived.Test.YtpcjhfchpelonaaGreatDoorPs1
import Derived.Lib.Join
set_option linter.unusedSimpArgs false
set_option linter.unusedVariables false
namespace Go.Proofs.YtpcjhfchpelonaaGreatDoor
open Nat (reduceMul reduceAdd reduceSub reduceEqDiff reduceLeDiff reduceLT)
open Ai
theorem bld_gt (f : Fil) (d w : Nat) (h : w ≤ 24) : w + 1 ≤ (bld f d w).2 := by
 cases f with | mk k nm tx kids =>
 rw [bld]
 split
 · exact Nat.le_refl _
 · split
   · exact Nat.le_refl _
   · exact (blds_le kids (d + 1) (w + 1) (by omega)).1
section
variable {id D : Nat}
set_option maxRecDepth 100000 in
theorem w_kids (S : S_build id D) (k : Int) (nm tx : List UInt8) (kids : List Fil) (ys : List V) (tk0 : Tk) (hy : KidsR kids ys) (hk : 4 ≤ k ∧ k ≤ 6) (hk4 : k = 4 → kids.length = 1) (d : Nat) (hd : d ≤ 6) (hD : 8 ≤ d + 1 + D) (h0 : H) : ∀ (post pre : List Fil) (w : Nat) (h : H) (xs : List V) (tk : Tk) (l11 : List (Nat × List V)), kids = pre ++ post → WB h id w → w ≤ 24 → pre.length ≤ w → TkH h0 h 96 pre.length tk → Hop h0 h id → xs.length = pre.length → (∀ x ∈ xs, ∃ t y, x = .ifc t y) →
  Hp.M X_build (Y_build id) (kz83) (.code L83_1) (.loop L83_1 :: K83_1) ⟨gl0, (.node (.node (.node (.node E4 .any (.node E3 .any (.node (.node (.node .leaf (.i .i64 (pre.length : Nat)) .leaf) .any E1) .any E2))) (.l 3 0) E5) (.i .i64 (d : Nat)) (.node (.node E4 (.sl xs pre.length tk) E4) .any (.node (.node E3 .any (.node (.node (.node .leaf (.sl ys kids.length tk0) .leaf) .any E1) .any E2)) .any E4))) .any (.node E6 (.p id 0) (.node E5 .any (.node (.node E3 .any (.node (.node (.node .leaf (.i .i64 (kids.length : Nat)) .leaf) .any E1) .any E2)) .any E4)))), [], (3, [.i .i64 k, .s nm, .s tx, .sl ys kids.length tk0]) :: l11, h⟩
   (fun ex st => ∃ v h', Hp.FinI [.tmp 6, .tmp 7] v h' ex st ∧ ResB id h0 v h' (blds post (d + 1) w)) := by
 intro post
 induction post with
 | nil =>
   intro pre w h xs tk l11 hk1 hw hw2 hpw htk hop hxl hxs
   have hl : kids.length = pre.length := by rw [hk1]; simp
   have e1 : decide ((pre.length : Int) < (kids.length : Int)) = false := decide_eq_false (by omega)
   rw [UH83_1, blds]
   rcases (by omega : k = 4 ∨ k = 5 ∨ k = 6) with rfl | rfl | rfl
   · have h1 := hk4 rfl
     obtain ⟨x0, rfl⟩ : ∃ x, xs = [x] := by
      match xs, (show xs.length = 1 by omega) with
      | [x], _ => exact ⟨x, rfl⟩
     obtain ⟨t, y, rfl⟩ := hxs x0 (by simp)
     have hp1 : pre.length = 1 := by omega
     rw [h1, hp1] at *
     have e1 : decide (((1 : Nat) : Int) < ((1 : Nat) : Int)) = false := by decide
     simp only [e1, K83_1, List.getElem?_cons_zero, Int.cast_ofNat_Int, go_sem, reduceIte, reduceMul, reduceAdd, reduceSub, reduceEqDiff, reduceLeDiff, reduceLT]
     simp only [show decide ((1 : Int) < 1) = false by decide, K83_1, List.getElem?_cons_zero, Int.cast_ofNat_Int, go_sem, reduceIte, reduceMul, reduceAdd, reduceSub, reduceEqDiff, reduceLeDiff, reduceLT]
     exact ⟨_, _, ⟨rfl, rfl⟩, _, rfl, .inl ⟨rfl, _, _, rfl, rfl⟩, hop, hw⟩
   · have e2 : decide ((5 : Int) = 4) = false := by decide
     simp only [e1, e2, K83_1, Int.cast_ofNat_Int, go_sem, reduceIte, reduceMul, reduceAdd, reduceSub, reduceEqDiff, reduceLeDiff, reduceLT]
     exact ⟨_, _, ⟨rfl, rfl⟩, _, rfl, .inl ⟨rfl, _, _, rfl, rfl⟩, hop, hw⟩
   · have e2 : decide ((6 : Int) = 4) = false := by decide
     have e3 : decide ((6 : Int) = 5) = false := by decide
     simp only [e1, e2, e3, K83_1, Int.cast_ofNat_Int, go_sem, reduceIte, reduceMul, reduceAdd, reduceSub, reduceEqDiff, reduceLeDiff, reduceLT]
     exact ⟨_, _, ⟨rfl, rfl⟩, _, rfl, .inl ⟨rfl, _, _, rfl, rfl⟩, hop, hw⟩
 | cons f post ih =>
   intro pre w h xs tk l11 hk1 hw hw2 hpw htk hop hxl hxs
   have hl : kids.length = pre.length + post.length + 1 := by rw [hk1]; simp; omega
   have e1 : decide ((pre.length : Int) < (kids.length : Int)) = true := decide_eq_true (by omega)
   have g1 : pre.length < kids.length := by omega
   have hyl := hy.len
   have g2 : (pre.length + 1) * 4 ≤ kids.length * 4 := by omega
   obtain ⟨c, hc, ht⟩ := hy.split pre f post hk1
   obtain ⟨x, h', y4, q1, q2, q3⟩ := call_build S hc hw hw2 hD (by omega)
   have hle := bld_le f (d + 1) w hw2
   have w1 : wr .i64 ((d : Int) + 1) = ((d + 1 : Nat) : Int) := by rw [wr64] <;> omega
   rw [UH83_1, blds]
   cases hc with | mk k1 nm1 tx1 kids1 xs1 n1 tk1 hn1 hx1 =>
   generalize hq : bld (.mk k1 nm1 tx1 kids1) (d + 1) w = q at *
   obtain ⟨er, w'⟩ := q
   simp only at q1 q3 y4 hle
   by_cases he : er = 0
   · subst he
     rw [if_pos rfl]
     rcases q1 with ⟨_, t, y, rfl, hq2⟩ | ⟨hq1, _⟩
     · have hqc := isQ_c hq2
       obtain ⟨nx, obs, nt, tips⟩ := h'
       obtain ⟨tips', hap, g3, g4⟩ := app_tkH (htk.hop q2) (sz := 1) (by rw [hxl]; simp) (c := [.ifc t y]) rfl rfl (by unfold most; omega) (hop.trans q2)
       have hw' : WB ⟨nx, obs, nt, tips'⟩ id w' := q3
       have w2 : wr .i64 ((pre.length : Int) + 1) = ((pre.length + 1 : Nat) : Int) := by rw [wr64] <;> omega
       have hgrow : pre.length + 1 ≤ w' := by
        have := bld_gt (.mk k1 nm1 tx1 kids1) (d + 1) w hw2
        rw [hq] at this
        simp only at this
        omega
       have := fun l11 => ih (pre ++ [.mk k1 nm1 tx1 kids1]) w' ⟨nx, obs, nt, tips'⟩ (xs ++ [.ifc t y]) tk l11 (by rw [hk1]; simp) hw' (hle.2 rfl) (by simp; omega) (by simpa using g3) g4 (by simp [hxl]) (by
        intro z hz
        rcases List.mem_append.1 hz with hz | hz
        · exact hxs z hz
        · simp only [List.mem_singleton] at hz; exact ⟨t, y, hz⟩)
       simp only [e1, g1, hyl, g2, rd_ip, ht, w1, y4, hqc, hap, w2, splice, Int.cast_ofNat_Int, go_sem, reduceIte, reduceMul, reduceAdd, reduceSub, reduceEqDiff, reduceLeDiff, reduceLT]
       rw [Hp.M_loop]
       simp only [kz83, K83_1, List.length_append, List.length_cons, List.length_nil, Nat.zero_add, go_sem, reduceIte, reduceMul, reduceAdd, reduceSub, reduceEqDiff, reduceLeDiff, reduceLT] at this ⊢
       exact this _
     · exact absurd rfl hq1
   · rw [if_neg he]
     rcases q1 with ⟨hq1, _⟩ | ⟨hq1, rfl⟩
     · exact absurd hq1 he
     · have f1 : decide ((er : Int) = 0) = false := decide_eq_false (by omega)
       simp only [e1, g1, hyl, g2, rd_ip, ht, w1, y4, f1, splice, K83_1, go_sem, reduceIte, reduceMul, reduceAdd, reduceSub, reduceEqDiff, reduceLeDiff, reduceLT]
       exact ⟨_, _, ⟨rfl, rfl⟩, _, rfl, .inr ⟨he, rfl⟩, hop.trans q2, q3⟩
theorem errB (b : Bool) (e : Nat) (he : e ≠ 0) : decide (errV b e = 0) = b := by
 cases b with
 | true => rfl
 | false => exact decide_eq_false (by show ¬ ((e : Int) = 0); omega)
end
section
variable {id D : Nat}
set_option maxRecDepth 100000 in
set_option maxHeartbeats 1000000 in
theorem s_build (S : S_build id D) : S_build id (D + 1) := by
 intro f c d w h hf hw hw2 hD hd
 cases hf with | mk k nm tx kids xs n tk hn hx =>
 subst hn
 obtain ⟨nx, obs, nt, tips⟩ := h
 refine compI_ex (xf := X_build) (kz := kz83) (fn := af83) x_build (t_build id) rfl (Nat.le_of_ble_eq_true rfl) ?_
 show Hp.M _ _ _ (.code B83) _ (St.init gl0 8 _ _) (fun ex st => ∃ v h', Hp.FinI [.tmp 6, .tmp 7] v h' ex st ∧ _)
 rw [UH83]
 have hw' : al obs id = some (Ai.Obj.cells 3 [.i .i64 (w : Nat)]) := hw
 have w1 : wr .i64 ((w : Int) + 1) = ((w + 1 : Nat) : Int) := by rw [wr64] <;> omega
 rw [bld]
 by_cases c1 : 6 < d
 · have e1 : decide ((6 : Int) < (d : Int)) = true := decide_eq_true (by omega)
   rw [if_pos (.inl c1)]
   simp only [hw', w1, e1, splice, go_sem, reduceIte, reduceMul, reduceAdd, reduceSub, reduceEqDiff, reduceLeDiff, reduceLT]
   exact ⟨_, _, ⟨rfl, rfl⟩, _, rfl, .inr ⟨(show (51 : Nat) ≠ 0 from by decide), rfl⟩, Hop.setW ⟨nx, obs, nt, tips⟩ id (w + 1), WB.set ⟨nx, obs, nt, tips⟩ id (w + 1)⟩
 · have e1 : decide ((6 : Int) < (d : Int)) = false := decide_eq_false (by omega)
   by_cases c2 : 24 < w + 1
   · have e2 : decide ((24 : Int) < ((w + 1 : Nat) : Int)) = true := decide_eq_true (by omega)
     rw [if_pos (.inr c2)]
     simp only [hw', w1, e1, e2, splice, go_sem, reduceIte, reduceMul, reduceAdd, reduceSub, reduceEqDiff, reduceLeDiff, reduceLT]
     exact ⟨_, _, ⟨rfl, rfl⟩, _, rfl, .inr ⟨(show (51 : Nat) ≠ 0 from by decide), rfl⟩, Hop.setW ⟨nx, obs, nt, tips⟩ id (w + 1), WB.set ⟨nx, obs, nt, tips⟩ id (w + 1)⟩
   · have e2 : decide ((24 : Int) < ((w + 1 : Nat) : Int)) = false := decide_eq_false (by omega)
     rw [if_neg (by omega)]
     have eL : decide ((kids.length : Int) = 0) = decide (kids.length = 0) := decide_eq_decide.2 (by omega)
     have eN := strEq_dec nm []
     have eT := strEq_dec tx []
     have xk : X_build 111 [.s tx] = some (.i .i64 (errV (keyB tx) 20)) := rfl
     have xv : X_build 112 [.s tx] = some (.i .i64 (errV (valB tx) 21)) := rfl
     have xn : X_build 25 [.s nm] = some (.i .i64 (errV (namB nm) 22)) := rfl
     have ek : decide (errV (keyB tx) 20 = 0) = keyB tx := errB (keyB tx) 20 (by decide)
     have ev : decide (errV (valB tx) 21 = 0) = valB tx := errB (valB tx) 21 (by decide)
     have en : decide (errV (namB nm) 22 = 0) = namB nm := errB (namB nm) 22 (by decide)
     by_cases k0 : k = 0
     · skip
       have hM : mayB k nm tx kids.length = (decide (kids.length = 0) && (decide (nm = []) && decide (tx = []))) := by unfold mayB; rw [if_pos (by omega)]
       have d0 : decide (k = 0) = true := decide_eq_true (by omega)
       have d1 : decide (k = 1) = false := decide_eq_false (by omega)
       have d2 : decide (k = 2) = false := decide_eq_false (by omega)
       have d3 : decide (k = 3) = false := decide_eq_false (by omega)
       have d4 : decide (k < 4) = true := decide_eq_true (by omega)
       rw [hM]
       cases hL : decide (kids.length = 0) <;> cases hN : decide (nm = []) <;> cases hT : decide (tx = []) <;> rw [hL] at eL <;> rw [hN] at eN <;> rw [hT] at eT
       all_goals first
        | (rw [if_pos (show (_ && (_ && _)) = false from rfl)]; simp only [hw', w1, e1, e2, eL, eN, eT, d0, d1, d2, d3, d4, xk, xv, xn, ek, ev, en, splice, Int.cast_ofNat_Int, go_sem, reduceIte, reduceMul, reduceAdd, reduceSub, reduceEqDiff, reduceLeDiff, reduceLT]; exact ⟨_, _, ⟨rfl, rfl⟩, _, rfl, .inr ⟨(show (50 : Nat) ≠ 0 from by decide), rfl⟩, Hop.setW ⟨nx, obs, nt, tips⟩ id (w + 1), WB.set ⟨nx, obs, nt, tips⟩ id (w + 1)⟩)
        | (obtain rfl : kids = [] := List.eq_nil_of_length_eq_zero (of_decide_eq_true hL)
           rw [if_neg (by decide), blds]
           simp only [hw', w1, e1, e2, eL, eN, eT, d0, d1, d2, d3, d4, xk, xv, xn, ek, ev, en, splice, Int.cast_ofNat_Int, go_sem, reduceIte, reduceMul, reduceAdd, reduceSub, reduceEqDiff, reduceLeDiff, reduceLT]
           exact ⟨_, _, ⟨rfl, rfl⟩, _, rfl, .inl ⟨rfl, _, _, rfl, rfl⟩, Hop.setW ⟨nx, obs, nt, tips⟩ id (w + 1), WB.set ⟨nx, obs, nt, tips⟩ id (w + 1)⟩)
     · by_cases k1 : k = 1
       · skip
         have hM : mayB k nm tx kids.length = (decide (kids.length = 0) && (decide (nm = []) && keyB tx)) := by unfold mayB; rw [if_neg (by omega), if_pos k1]
         have d0 : decide (k = 0) = false := decide_eq_false (by omega)
         have d1 : decide (k = 1) = true := decide_eq_true (by omega)
         have d2 : decide (k = 2) = false := decide_eq_false (by omega)
         have d3 : decide (k = 3) = false := decide_eq_false (by omega)
         have d4 : decide (k < 4) = true := decide_eq_true (by omega)
         rw [hM]
         cases hL : decide (kids.length = 0) <;> cases hN : decide (nm = []) <;> cases hT : decide (tx = []) <;> cases hK : keyB tx <;> rw [hL] at eL <;> rw [hN] at eN <;> rw [hT] at eT <;> rw [hK] at ek xk
         all_goals first
          | (rw [if_pos (show (_ && (_ && _)) = false from rfl)]; simp only [hw', w1, e1, e2, eL, eN, eT, d0, d1, d2, d3, d4, xk, xv, xn, ek, ev, en, splice, Int.cast_ofNat_Int, go_sem, reduceIte, reduceMul, reduceAdd, reduceSub, reduceEqDiff, reduceLeDiff, reduceLT]; exact ⟨_, _, ⟨rfl, rfl⟩, _, rfl, .inr ⟨(show (50 : Nat) ≠ 0 from by decide), rfl⟩, Hop.setW ⟨nx, obs, nt, tips⟩ id (w + 1), WB.set ⟨nx, obs, nt, tips⟩ id (w + 1)⟩)
          | (obtain rfl : kids = [] := List.eq_nil_of_length_eq_zero (of_decide_eq_true hL)
             rw [if_neg (by decide), blds]
             simp only [hw', w1, e1, e2, eL, eN, eT, d0, d1, d2, d3, d4, xk, xv, xn, ek, ev, en, splice, Int.cast_ofNat_Int, go_sem, reduceIte, reduceMul, reduceAdd, reduceSub, reduceEqDiff, reduceLeDiff, reduceLT]
             exact ⟨_, _, ⟨rfl, rfl⟩, _, rfl, .inl ⟨rfl, _, _, rfl, rfl⟩, Hop.setW ⟨nx, obs, nt, tips⟩ id (w + 1), WB.set ⟨nx, obs, nt, tips⟩ id (w + 1)⟩)
       · by_cases k2 : k = 2
         · skip
           have hM : mayB k nm tx kids.length = (decide (kids.length = 0) && (namB nm && valB tx)) := by unfold mayB; rw [if_neg (by omega), if_neg k1, if_pos k2]
           have d0 : decide (k = 0) = false := decide_eq_false (by omega)
           have d1 : decide (k = 1) = false := decide_eq_false (by omega)
           have d2 : decide (k = 2) = true := decide_eq_true (by omega)
           have d3 : decide (k = 3) = false := decide_eq_false (by omega)
           have d4 : decide (k < 4) = true := decide_eq_true (by omega)
           rw [hM]
           cases hL : decide (kids.length = 0) <;> cases hN : decide (nm = []) <;> cases hT : decide (tx = []) <;> cases hK : namB nm <;> cases hV : valB tx <;> rw [hL] at eL <;> rw [hN] at eN <;> rw [hT] at eT <;> rw [hK] at en xn <;> rw [hV] at ev xv
           all_goals first
            | (rw [if_pos (show (_ && (_ && _)) = false from rfl)]; simp only [hw', w1, e1, e2, eL, eN, eT, d0, d1, d2, d3, d4, xk, xv, xn, ek, ev, en, splice, Int.cast_ofNat_Int, go_sem, reduceIte, reduceMul, reduceAdd, reduceSub, reduceEqDiff, reduceLeDiff, reduceLT]; exact ⟨_, _, ⟨rfl, rfl⟩, _, rfl, .inr ⟨(show (50 : Nat) ≠ 0 from by decide), rfl⟩, Hop.setW ⟨nx, obs, nt, tips⟩ id (w + 1), WB.set ⟨nx, obs, nt, tips⟩ id (w + 1)⟩)
            | (obtain rfl : kids = [] := List.eq_nil_of_length_eq_zero (of_decide_eq_true hL)
               rw [if_neg (by decide), blds]
               simp only [hw', w1, e1, e2, eL, eN, eT, d0, d1, d2, d3, d4, xk, xv, xn, ek, ev, en, splice, Int.cast_ofNat_Int, go_sem, reduceIte, reduceMul, reduceAdd, reduceSub, reduceEqDiff, reduceLeDiff, reduceLT]
               exact ⟨_, _, ⟨rfl, rfl⟩, _, rfl, .inl ⟨rfl, _, _, rfl, rfl⟩, Hop.setW ⟨nx, obs, nt, tips⟩ id (w + 1), WB.set ⟨nx, obs, nt, tips⟩ id (w + 1)⟩)
         · by_cases k3 : k = 3
           · skip
             have hM : mayB k nm tx kids.length = (decide (kids.length = 0) && (decide (nm = []) && decide (tx = []))) := by unfold mayB; rw [if_pos (by omega)]
             have d0 : decide (k = 0) = false := decide_eq_false (by omega)
             have d1 : decide (k = 1) = false := decide_eq_false (by omega)
             have d2 : decide (k = 2) = false := decide_eq_false (by omega)
             have d3 : decide (k = 3) = true := decide_eq_true (by omega)
             have d4 : decide (k < 4) = true := decide_eq_true (by omega)
             rw [hM]
             cases hL : decide (kids.length = 0) <;> cases hN : decide (nm = []) <;> cases hT : decide (tx = []) <;> rw [hL] at eL <;> rw [hN] at eN <;> rw [hT] at eT
             all_goals first
              | (rw [if_pos (show (_ && (_ && _)) = false from rfl)]; simp only [hw', w1, e1, e2, eL, eN, eT, d0, d1, d2, d3, d4, xk, xv, xn, ek, ev, en, splice, Int.cast_ofNat_Int, go_sem, reduceIte, reduceMul, reduceAdd, reduceSub, reduceEqDiff, reduceLeDiff, reduceLT]; exact ⟨_, _, ⟨rfl, rfl⟩, _, rfl, .inr ⟨(show (50 : Nat) ≠ 0 from by decide), rfl⟩, Hop.setW ⟨nx, obs, nt, tips⟩ id (w + 1), WB.set ⟨nx, obs, nt, tips⟩ id (w + 1)⟩)
              | (obtain rfl : kids = [] := List.eq_nil_of_length_eq_zero (of_decide_eq_true hL)
                 rw [if_neg (by decide), blds]
                 simp only [hw', w1, e1, e2, eL, eN, eT, d0, d1, d2, d3, d4, xk, xv, xn, ek, ev, en, splice, Int.cast_ofNat_Int, go_sem, reduceIte, reduceMul, reduceAdd, reduceSub, reduceEqDiff, reduceLeDiff, reduceLT]
                 exact ⟨_, _, ⟨rfl, rfl⟩, _, rfl, .inl ⟨rfl, _, _, rfl, rfl⟩, Hop.setW ⟨nx, obs, nt, tips⟩ id (w + 1), WB.set ⟨nx, obs, nt, tips⟩ id (w + 1)⟩)
           · have d0 : decide (k = 0) = false := decide_eq_false k0
             have d1 : decide (k = 1) = false := decide_eq_false k1
             have d2 : decide (k = 2) = false := decide_eq_false k2
             have d3 : decide (k = 3) = false := decide_eq_false k3
             -- not one of the kinds
             by_cases k4 : k < 4 ∨ 6 < k
             · have hM : mayB k nm tx kids.length = false := by unfold mayB; rw [if_neg (by omega), if_neg k1, if_neg k2, if_neg (by omega), if_neg (by omega)]
               rw [if_pos hM]
               by_cases k5 : k < 4
               · have d4 : decide (k < 4) = true := decide_eq_true k5
                 cases hN : decide (nm = []) <;> cases hT : decide (tx = []) <;> rw [hN] at eN <;> rw [hT] at eT <;> simp only [hw', w1, e1, e2, eL, eN, eT, d0, d1, d2, d3, d4, splice, go_sem, reduceIte, reduceMul, reduceAdd, reduceSub, reduceEqDiff, reduceLeDiff, reduceLT] <;> exact ⟨_, _, ⟨rfl, rfl⟩, _, rfl, .inr ⟨(show (50 : Nat) ≠ 0 from by decide), rfl⟩, Hop.setW ⟨nx, obs, nt, tips⟩ id (w + 1), WB.set ⟨nx, obs, nt, tips⟩ id (w + 1)⟩
               · have d4 : decide (k < 4) = false := decide_eq_false k5
                 have d6 : decide (6 < k) = true := decide_eq_true (by omega)
                 cases hN : decide (nm = []) <;> cases hT : decide (tx = []) <;> rw [hN] at eN <;> rw [hT] at eT <;> simp only [hw', w1, e1, e2, eL, eN, eT, d0, d1, d2, d3, d4, d6, splice, go_sem, reduceIte, reduceMul, reduceAdd, reduceSub, reduceEqDiff, reduceLeDiff, reduceLT] <;> exact ⟨_, _, ⟨rfl, rfl⟩, _, rfl, .inr ⟨(show (50 : Nat) ≠ 0 from by decide), rfl⟩, Hop.setW ⟨nx, obs, nt, tips⟩ id (w + 1), WB.set ⟨nx, obs, nt, tips⟩ id (w + 1)⟩
             · have d4 : decide (k < 4) = false := decide_eq_false (by omega)
               have d6 : decide (6 < k) = false := decide_eq_false (by omega)
               have eK : decide ((kids.length : Int) = 1) = decide (kids.length = 1) := decide_eq_decide.2 (by omega)
               have hM : mayB k nm tx kids.length = (decide (nm = []) && (decide (tx = []) && (!decide (k = 4) || decide (kids.length = 1)))) := by
                unfold mayB
                rw [if_neg (by omega), if_neg k1, if_neg k2]
                by_cases h4 : k = 4
                · rw [if_pos h4, decide_eq_true h4]; rfl
                · rw [if_neg h4, if_pos (by omega), decide_eq_false h4]; simp
               rw [hM]
               have fin : ((k = 4) → kids.length = 1) → _ := fun hk4 => w_kids S k nm tx kids xs tk hx (by omega) hk4 d (by omega) (by omega) ⟨nx, obs, nt, tips⟩ kids [] (w + 1) ⟨nx, alSet obs id (.cells 3 [.i .i64 ((w + 1 : Nat) : Int)]), nt + 1, (nt, (0, 96)) :: tips⟩ [] (.own nt) [] rfl (WB.set ⟨nx, obs, nt, tips⟩ id (w + 1)) (by omega) (Nat.zero_le _) ⟨nt, rfl, Nat.le_refl _, Nat.lt_succ_self _, by simp only [go_sem, reduceIte, reduceMul, reduceAdd, reduceSub, reduceEqDiff, reduceLeDiff, reduceLT]⟩
                ⟨rfl, Nat.le_succ _, fun t ht => by
                 have hne : Nat.beq nt t = false := by
                  cases hb : Nat.beq nt t with
                  | true => have h1 := Nat.eq_of_beq_eq_true hb; simp only at ht; omega
                  | false => rfl
                 show al ((nt, _) :: tips) t = _
                 simp only [al, hne, cond_false], (Hop.setW ⟨nx, obs, nt, tips⟩ id (w + 1)).objs⟩ rfl (fun x hx => by cases hx)
               cases h4 : decide (k = 4) <;> cases hK : decide (kids.length = 1) <;> cases hN : decide (nm = []) <;> cases hT : decide (tx = []) <;> rw [hN] at eN <;> rw [hT] at eT <;> rw [hK] at eK
               all_goals first
                | (rw [if_pos (show (_ && (_ && (_ || _))) = false from rfl)]; simp only [hw', w1, e1, e2, eL, eN, eT, eK, h4, d0, d1, d2, d3, d4, d6, splice, go_sem, reduceIte, reduceMul, reduceAdd, reduceSub, reduceEqDiff, reduceLeDiff, reduceLT]; exact ⟨_, _, ⟨rfl, rfl⟩, _, rfl, .inr ⟨(show (50 : Nat) ≠ 0 from by decide), rfl⟩, Hop.setW ⟨nx, obs, nt, tips⟩ id (w + 1), WB.set ⟨nx, obs, nt, tips⟩ id (w + 1)⟩)
                | (rw [if_neg (by decide)]
                   have fin := fin (fun h5 => by first | exact of_decide_eq_true hK | exact absurd h5 (of_decide_eq_false h4))
                   simp only [hw', w1, e1, e2, eL, eN, eT, eK, h4, d0, d1, d2, d3, d4, d6, splice, go_sem, reduceIte, reduceMul, reduceAdd, reduceSub, reduceEqDiff, reduceLeDiff, reduceLT]
                   rw [Hp.M_loop]
                   simp only [kz83, K83_1, List.length_cons, List.length_nil, Int.cast_ofNat_Int, go_sem, reduceIte, reduceMul, reduceAdd, reduceSub, reduceEqDiff, reduceLeDiff, reduceLT] at fin ⊢
                   exact fin)
theorem s_build_all (id : Nat) : ∀ D, S_build id D
 | 0 => fun _ _ _ _ _ _ _ _ h1 h2 => by omega
 | D + 1 => s_build (s_build_all id D)
end
/-! ### Pure functions, told by what they do -/
noncomputable def pickP (g : FuncId) (R : List V → V → Prop) (a : List V) : Option V := open Classical in if e : ∃ v : V, Comp tabx told g a v ∧ R a v then some e.choose else none
theorem pickP_tells {g : FuncId} {R : List V → V → Prop} : ∀ a v, pickP g R a = some v → Comp tabx told g a v := fun a v e => by
 unfold pickP at e
 split at e
 · rename_i hp
   have hs := hp.choose_spec
   simp only [Option.some.injEq] at e
   rw [e] at hs
   exact hs.1
 · cases e
theorem pickP_spec {g : FuncId} {R : List V → V → Prop} {a : List V} {v : V} (hc : Comp tabx told g a v) (hr : R a v) : ∃ v, pickP g R a = some v ∧ R a v := by
 have hp : ∃ v : V, Comp tabx told g a v ∧ R a v := ⟨v, hc, hr⟩
 exact ⟨hp.choose, dif_pos hp, hp.choose_spec.2⟩
theorem comp_ex {xf : FuncId → List V → Option V} {xh : FuncId → List V → H → Option (V × H)} {kz : Nat → List Nat} (hx : Tells tabx told xf) (hy : Hp.TellsI tabx told xh) {g : FuncId} {fn : AFunc} {args : List V} {Q : V → Prop} (ht : tabx g = some fn) (hn : args.length ≤ fn.n)
  (h : Hp.M xf xh kz (.code fn.body) [] (St.init gl0 fn.depth (stripL args) {}) (fun ex st => ∃ v, Fin fn.res v ex st ∧ Q v)) : ∃ v, Comp tabx told g args v ∧ Q v := by
 obtain ⟨f, ex, st', e, v, hf, q⟩ := h
 refine ⟨v, fun hh gl hok => ?_, q⟩
 have hgl : gl = gl0 := hok
 subst hgl
 obtain ⟨he, hl⟩ := hf
 obtain ⟨ex1, st1, f1, _, _, hr, hev⟩ := Hp.runK_ev hx hy f f (Nat.le_refl _) _ _ _ _ _ hok e
 simp only at hev
 have : ex1 = ex ∧ st1 = st' := by
  match f1, hr with
  | 0, hr => simp [Hp.runK] at hr
  | f1 + 1, hr => simp only [Hp.runK, Option.some.injEq, Prod.mk.injEq] at hr; exact hr
 obtain ⟨rfl, rfl⟩ := this
 have hl' : leave fn true hh st1 = some (v, hh) := by
  unfold leave
  cases hv : resV st1 fn.res with
  | none => rw [hv] at hl; cases hl
  | some vs =>
    rw [hv] at hl
    simp only [Option.map_some, Option.some.injEq] at hl
    simp only [cond_true, hl]
 exact .fn ht hn hev he hl'
/-! ### Filters, stripped and frozen -/
theorem stripL_app (a b : List V) : stripL (a ++ b) = stripL a ++ stripL b := by
 induction a with
 | nil => rfl
 | cons x r ih => simp only [List.cons_append, stripL, ih]
mutual
theorem FilR.strip : ∀ (f : Fil) (c : List V), FilR f c → FilR f (stripL c)
 | .mk k nm tx kids, c, h => by
   cases h with | mk _ _ _ _ xs n tk hn hx =>
   exact .mk k nm tx kids (stripL xs) n tk.cp hn (KidsR.strip kids xs hx)
theorem KidsR.strip : ∀ (l : List Fil) (xs : List V), KidsR l xs → KidsR l (stripL xs)
 | [], xs, h => by cases h; exact .nil
 | f :: r, xs, h => by
   cases h with | cons _ _ c ys h1 h2 =>
   rw [stripL_app]
   exact .cons f r _ _ (FilR.strip f c h1) (KidsR.strip r ys h2)
end
mutual
theorem FilR.frz (h : H) : ∀ (f : Fil) (c : List V) (d w m : Nat), FilR f c → (bld f d w).1 = 0 → 8 ≤ d + m → FilR f (c.map (frz h m))
 | .mk k nm tx kids, c, d, w, m, hf, hb, hm => by
   cases hf with | mk _ _ _ _ xs n tk hn hx =>
   rw [bld] at hb
   split at hb
   · cases hb
   · rename_i h1
     split at hb
     · cases hb
     · match m, (show m ≠ 0 by omega) with
       | m + 1, _ =>
         have := KidsR.frz h kids xs (d + 1) (w + 1) m hx hb (by omega)
         exact .mk k nm tx kids (xs.map (Ai.frz h m)) n tk.cp hn this
theorem KidsR.frz (h : H) : ∀ (l : List Fil) (xs : List V) (d w m : Nat), KidsR l xs → (blds l d w).1 = 0 → 8 ≤ d + m → KidsR l (xs.map (frz h m))
 | [], xs, d, w, m, hf, hb, hm => by cases hf; exact .nil
 | f :: r, xs, d, w, m, hf, hb, hm => by
   cases hf with | cons _ _ c ys h1 h2 =>
   rw [blds] at hb
   split at hb
   · rename_i h0
     rw [List.map_append]
     exact .cons f r _ _ (FilR.frz h f c d w m h1 h0 hm) (KidsR.frz h r ys d _ m h2 hb hm)
   · rename_i h0; exact absurd hb h0
end
/-! ### Check -/
def chk (f : Fil) : Nat := (bld f 1 0).1
def R_ready (a : List V) (h : H) (v : V) (h' : H) : Prop := ∀ (f : Fil) (c : List V), a = [.agg c] → FilR f c → ∃ x, v = .tup [x, .i .i64 (chk f : Nat)] ∧ (x = .nili ∨ ∃ t y, x = .ifc t y)
theorem UH46 : type_of% (@Hp_open _ _ B46.eq_1) := @Hp_open _ _ B46.eq_1
def kz46 (_ : Nat) : List Nat := []
set_option maxRecDepth 100000 in
theorem ready_ex (f : Fil) (c : List V) (hf : FilR f c) : ∃ x h', pick 46 R_ready [.agg c] {} = some (.tup [x, .i .i64 (chk f : Nat)], h') ∧ (x = .nili ∨ ∃ t y, x = .ifc t y) := by
 have key : ∃ v h', Hp.CompI tabx told 46 [.agg c] {} v h' ∧ ∃ x, v = .tup [x, .i .i64 (chk f : Nat)] ∧ (x = .nili ∨ ∃ t y, x = .ifc t y) := by
  refine compI_ex (xf := noX) (xh := Y_build 0) (kz := kz46) (fn := af46) tells_noX (t_build 0) rfl (Nat.le_of_ble_eq_true rfl) ?_
  show Hp.M _ _ _ (.code B46) _ (St.init gl0 5 _ _) (fun ex st => ∃ v h', Hp.FinI [.tmp 2, .tmp 3] v h' ex st ∧ _)
  rw [UH46]
  obtain ⟨x, h', y4, q1, q2, q3⟩ := call_build (s_build_all 0 7) (d := 1) (w := 0) (h := ⟨1, [(0, .cells 3 [.i .i64 ((0 : Nat) : Int)])], 0, []⟩) hf rfl (by decide) (by decide) (by decide)
  have hch : (bld f 1 0).1 = chk f := rfl
  rw [hch] at y4 q1
  cases hf with | mk k nm tx kids xs n tk hn hx =>
  simp only [Int.cast_ofNat_Int] at y4
  rcases q1 with ⟨q, t, y, rfl, hq2⟩ | ⟨q, rfl⟩
  · have hqc := isQ_c hq2
    have f1 : decide (((chk (.mk k nm tx kids) : Nat) : Int) = 0) = true := decide_eq_true (by omega)
    simp only [y4, f1, hqc, splice, go_sem, reduceIte, reduceMul, reduceAdd, reduceSub, reduceEqDiff, reduceLeDiff, reduceLT]
    exact ⟨_, _, ⟨rfl, rfl⟩, _, by rw [q]; rfl, .inr ⟨_, _, rfl⟩⟩
  · have f1 : decide (((chk (.mk k nm tx kids) : Nat) : Int) = 0) = false := decide_eq_false (by omega)
    simp only [y4, f1, splice, go_sem, reduceIte, reduceMul, reduceAdd, reduceSub, reduceEqDiff, reduceLeDiff, reduceLT]
    exact ⟨_, _, ⟨rfl, rfl⟩, _, rfl, .inl rfl⟩
 obtain ⟨v, h', hc, x, rfl, hxx⟩ := key
 obtain ⟨v, h', e1, r⟩ := pick_spec (R := R_ready) hc (by
  intro f' c' e1 hf'
  simp only [List.cons.injEq, V.agg.injEq, and_true] at e1
  subst e1
  rw [← FilR.uniq f f' c hf hf']
  exact ⟨x, rfl, hxx⟩)
 obtain ⟨x, rfl, hxx⟩ := r f c rfl hf
 exact ⟨x, h', e1, hxx⟩
noncomputable def Y_check := ys [(46, pick 46 R_ready)]
theorem t_check : Hp.TellsI tabx told Y_check := itells_cons pick_tells itells_nil
def R_check (a : List V) (v : V) : Prop := ∀ (f : Fil) (c : List V), a = [.agg c] → FilR f c → v = .i .i64 (chk f : Nat)
noncomputable def F_check : List V → Option V := pickP 23 R_check
theorem o_check : ∀ a v, F_check a = some v → Comp tabx told 23 a v := pickP_tells
theorem UH23 : type_of% (@Hp_open _ _ B23.eq_1) := @Hp_open _ _ B23.eq_1
def kz23 (_ : Nat) : List Nat := []
theorem check_eq (f : Fil) (c : List V) (hf : FilR f c) : F_check [.agg c] = some (.i .i64 (chk f : Nat)) := by
 have hc : Comp tabx told 23 [.agg c] (.i .i64 (chk f : Nat)) := Hp.comp_of tells_noX t_check (fn := af23) (kz := kz23) rfl (Nat.le_of_ble_eq_true rfl) fun gl => by
  have hs := FilR.strip f c hf
  obtain ⟨x, h', y4, hxx⟩ := ready_ex f (stripL c) hs
  show Hp.M _ _ _ (.code B23) _ (St.init gl 4 [.agg (stripL c)] _) (Fin [.tmp 2] _)
  rw [UH23]
  generalize stripL c = c2 at hs y4 ⊢
  cases hs with | mk k nm tx kids xs n tk hn hx =>
  rcases hxx with rfl | ⟨t, y, rfl⟩ <;> simp only [Y_check, ys_hit, y4, go_sem, reduceIte, reduceMul, reduceAdd, reduceSub, reduceEqDiff, reduceLeDiff, reduceLT]
 obtain ⟨v, e1, r⟩ := pickP_spec (R := R_check) hc (by
  intro f' c' e1 hf'
  simp only [List.cons.injEq, V.agg.injEq, and_true] at e1
  subst e1
  rw [← FilR.uniq f f' c hf hf'])
 rw [r f c rfl hf] at e1
 exact e1
end Go.Proofs.YtpcjhfchpelonaaGreatDoor
set_option linter.unusedSimpArgs false
set_option linter.unusedVariables false
namespace Go.Proofs.YtpcjhfchpelonaaGreatDoor
open Ai
theorem lx_kind : ∀ (n : Nat) (l : List UInt8) (k : Nat) (m : List Tok), l.length ≤ n → lx l k = .ok m → ∀ t ∈ m, 1 ≤ t.kind ∧ t.at_ < k + l.length := by
 intro n
 induction n with
 | zero =>
   intro l k m hn h
   obtain rfl : l = [] := List.length_eq_zero_iff.1 (by omega)
   rw [lx_nil] at h; cases h; intro t ht; cases ht
 | succ n ih =>
   intro l k m hn h
   cases l with
   | nil => rw [lx_nil] at h; cases h; intro t ht; cases ht
   | cons a r =>
     simp only [List.length_cons] at hn ⊢
     rw [lx_cons] at h
     have wl := wh_le letB r
     have wd := wh_le digB r
     have one : ∀ (kd : Nat) (tx : List UInt8) (m' : List Tok) (j j2 : Nat), 1 ≤ kd → lx (r.drop j) (k + j2) = .ok m' → j2 = j + 1 → j ≤ r.length → ∀ t ∈ (⟨kd, tx, k⟩ : Tok) :: m', 1 ≤ t.kind ∧ t.at_ < k + (r.length + 1) := by
      intro kd tx m' j j2 hk hm hj hjr t ht
      rcases List.mem_cons.1 ht with rfl | ht
      · exact ⟨hk, by simp only; omega⟩
      · have := ih _ _ _ (by rw [List.length_drop]; omega) hm t ht
        rw [List.length_drop] at this
        exact ⟨this.1, by omega⟩
     split at h
     · intro t ht; have := ih r _ _ (by omega) h t ht; exact ⟨this.1, by omega⟩
     · split at h
       · cases hq : qscan r [] 1 with
         | none => rw [hq] at h; cases h
         | some p =>
           obtain ⟨x, j⟩ := p
           rw [hq] at h
           obtain ⟨m1, m2⟩ := qscan_k r.length r [] 1 (Nat.le_refl _) x j hq
           obtain ⟨m', e1, rfl⟩ := Lx.cons_ok h
           exact one 2 x m' (j - 1) j (by omega) e1 (by omega) (by omega)
       · split at h
         · obtain ⟨m', e1, rfl⟩ := Lx.cons_ok h
           rw [Nat.add_assoc] at e1
           exact one 1 _ m' _ _ (by omega) e1 (by omega) wl
         · split at h
           · obtain ⟨m', e1, rfl⟩ := Lx.cons_ok h
             rw [Nat.add_assoc] at e1
             exact one 3 _ m' _ _ (by omega) e1 (by omega) wd
           · split at h
             · obtain ⟨m', e1, rfl⟩ := Lx.cons_ok h
               rw [Nat.add_assoc] at e1
               exact one 3 _ m' _ _ (by omega) e1 (by omega) wd
             · split at h
               · obtain ⟨m', e1, rfl⟩ := Lx.cons_ok h
                 exact one 4 _ m' 0 1 (by omega) e1 (by omega) (by omega)
               · cases h
/-! ### Filter -/
def X_fil := xs [(75, F_Tokens)]
noncomputable def X_filc := xs [(23, F_check)]
theorem x_filc : Tells tabx told X_filc := tells_cons o_check tells_nil
theorem UH81 : type_of% (@Hp_open _ _ B81.eq_1) := @Hp_open _ _ B81.eq_1
def kz81 (_ : Nat) : List Nat := []
end Go.Proofs.YtpcjhfchpelonaaGreatDoor
set_option linter.unusedSimpArgs false
set_option linter.unusedVariables false
namespace Go.Proofs.YtpcjhfchpelonaaGreatDoor
open Nat (reduceMul reduceAdd reduceSub reduceEqDiff reduceLeDiff reduceLT)
open Ai
theorem x_fil : Tells tabx told X_fil := tells_cons o_Tokens tells_nil
theorem k_box {xf : FuncId → List V → Option V} {xh : FuncId → List V → H → Option (V × H)} (gl : Nat → List V) (T : T) (its : List (Nat × (List UInt8 × Nat))) (loc : List (Nat × List V)) (nx : Nat) (obs : List (Nat × Ai.Obj)) (nt : Nat) (tips : List (Nat × (Nat × TypeId))) (d : Nat) (ty : TypeId) (x : Opd) :
  Hp.stepK xf xh ⟨gl, T, its, loc, ⟨nx, obs, nt, tips⟩⟩ d (.box ty x) = (match (St.ev ⟨gl, T, its, loc, ⟨nx, obs, nt, tips⟩⟩ x).cells? with
   | some cs => some (.p nx 0, ⟨gl, T, its, loc, ⟨nx + 1, (nx, .cells ty cs) :: obs, nt, tips⟩⟩)
   | none => none) := rfl
def R_read (a : List V) (h : H) (v : V) (h' : H) : Prop := ∀ s : List UInt8, a = [.s s] → h = {} → match lx s 0 with
 | .bad a e => v = .tup [.nilp, .i .i64 (a : Nat), .i .i64 (e : Nat)] ∧ h' = {}
 | .ok ts => v = .tup [.p 0 0, .i .i64 0, .i .i64 0] ∧ h' = ⟨1, [(0, srcC ts 0 s.length)], 0, []⟩
theorem UH43 : type_of% (@Hp_open _ _ B43.eq_1) := @Hp_open _ _ B43.eq_1
def kz43 (_ : Nat) : List Nat := []
theorem read_ok {s : List UInt8} (hs : s.length ≤ 1048576) {ts : List Tok} (hl : lx s 0 = .ok ts) : pick 43 R_read [.s s] {} = some (.tup [.p 0 0, .i .i64 0, .i .i64 0], ⟨1, [(0, srcC ts 0 s.length)], 0, []⟩) := by
 have hc : Hp.CompI tabx told 43 [.s s] {} (.tup [.p 0 0, .i .i64 0, .i .i64 0]) ⟨1, [(0, srcC ts 0 s.length)], 0, []⟩ := Hp.compI_of (kz := kz43) x_fil tells_noY (fn := af43) rfl (Nat.le_of_ble_eq_true rfl) fun gl => by
  show Hp.M _ _ _ (.code B43) _ (St.init gl 5 _ _) (Hp.FinI [.tmp 2, .tmp 3, .tmp 4] _ _)
  rw [UH43]
  have y1 : X_fil 75 [.s s] = some (tokR [] (lx s 0)) := F_Tokens1 s hs
  rw [hl] at y1
  simp only [tokR, List.nil_append] at y1
  simp only [y1, srcC, k_box, Int.cast_ofNat_Int, go_sem, reduceIte, reduceMul, reduceAdd, reduceSub, reduceEqDiff, reduceLeDiff, reduceLT]
 obtain ⟨v, h', e1, r⟩ := pick_spec (R := R_read) hc (by
  intro s' e1 _
  simp only [List.cons.injEq, V.s.injEq, and_true] at e1
  subst e1
  rw [hl]
  exact ⟨rfl, rfl⟩)
 have r := r s rfl rfl
 rw [hl] at r
 obtain ⟨rfl, rfl⟩ := r
 exact e1
mutual
def wgh : Fil → Nat → Nat → Bool × Nat
 | .mk _ nm tx kids, d, w => if 8192 < w + (1 + min nm.length 8192 + min tx.length 8192) ∨ 50 < d ∨ 500 < kids.length then (false, w + (1 + min nm.length 8192 + min tx.length 8192)) else wghs kids (d + 1) (w + (1 + min nm.length 8192 + min tx.length 8192))
def wghs : List Fil → Nat → Nat → Bool × Nat
 | [], _, w => (true, w)
 | f :: r, d, w => if (wgh f d w).1 = true then wghs r d (wgh f d w).2 else wgh f d w
end
mutual
theorem wgh_le : ∀ (f : Fil) (d w : Nat), (wgh f d w).1 = true → w ≤ (wgh f d w).2 ∧ (wgh f d w).2 ≤ 8192
 | .mk k nm tx kids, d, w, h => by
   rw [wgh] at h ⊢
   split at h
   · cases h
   · rename_i hc
     rw [if_neg hc]
     have := wghs_le kids _ _ (by omega) h
     omega
theorem wghs_le : ∀ (l : List Fil) (d w : Nat), w ≤ 8192 → (wghs l d w).1 = true → w ≤ (wghs l d w).2 ∧ (wghs l d w).2 ≤ 8192
 | [], d, w, h, _ => by rw [wghs]; exact ⟨Nat.le_refl _, h⟩
 | f :: r, d, w, h, ht => by
   rw [wghs] at ht ⊢
   split at ht
   · rename_i h0
     rw [if_pos h0]
     have h1 := wgh_le f d w h0
     have h2 := wghs_le r d _ h1.2 ht
     omega
   · rename_i h0; exact absurd ht h0
end
/-! Texts that are not too long. -/
mutual
def okL : Fil → Prop
 | .mk _ nm tx kids => nm.length ≤ 8192 ∧ tx.length ≤ 8192 ∧ okLs kids
def okLs : List Fil → Prop
 | [] => True
 | f :: r => okL f ∧ okLs r
end
mutual
theorem wgh_ok : ∀ (f : Fil) (d w : Nat), (wgh f d w).1 = true → okL f
 | .mk k nm tx kids, d, w, h => by
   rw [wgh] at h
   split at h
   · cases h
   · rename_i hc
     rw [okL]
     exact ⟨by omega, by omega, wghs_ok kids _ _ h⟩
theorem wghs_ok : ∀ (l : List Fil) (d w : Nat), (wghs l d w).1 = true → okLs l
 | [], d, w, _ => by rw [okLs]; trivial
 | f :: r, d, w, ht => by
   rw [wghs] at ht
   rw [okLs]
   split at ht
   · rename_i h0; exact ⟨wgh_ok f d w h0, wghs_ok r d _ ht⟩
   · rename_i h0; exact absurd ht h0
end
/-! ### The walk -/
def ResW (id : Nat) (h : H) (v : V) (h' : H) (q : Bool × Nat) : Prop := v = .b q.1 ∧ Hop h h' id ∧ WB h' id q.2
def R_weigh (id : Nat) (a : List V) (h : H) (v : V) (h' : H) : Prop := ∀ (f : Fil) (c : List V) (d w : Nat), a = [.agg c, .i .i64 (d : Nat), .p id 0] → FilR f c → WB h id w → ResW id h v h' (wgh f d w)
def S_weigh (id D : Nat) : Prop := ∀ (f : Fil) (c : List V) (d w : Nat) (h : H), FilR f c → WB h id w → w ≤ 100000 → 52 ≤ d + D → d ≤ 51 →
 ∃ v h', Hp.CompI tabx told 22 [.agg c, .i .i64 (d : Nat), .p id 0] h v h' ∧ ResW id h v h' (wgh f d w)
noncomputable def Y_weigh (id : Nat) := ys [(22, pick 22 (R_weigh id))]
theorem t_weigh (id : Nat) : Hp.TellsI tabx told (Y_weigh id) := itells_cons pick_tells itells_nil
theorem call_weigh {id D : Nat} (S : S_weigh id D) {f : Fil} {c : List V} {d w : Nat} {h : H} (hf : FilR f c) (hw : WB h id w) (h1 : w ≤ 100000) (h2 : 52 ≤ d + D) (h3 : d ≤ 51) :
  ∃ h', Y_weigh id 22 [.agg c, .i .i64 (d : Nat), .p id 0] h = some (.b (wgh f d w).1, h') ∧ Hop h h' id ∧ WB h' id (wgh f d w).2 := by
 obtain ⟨v, h', hc, hr⟩ := S f c d w h hf hw h1 h2 h3
 obtain ⟨v, h', e1, r1⟩ := pick_spec (R := R_weigh id) hc (by
  intro f' c' d' w' e1 hf' hw'
  simp only [List.cons.injEq, V.i.injEq, V.agg.injEq, true_and, and_true] at e1
  obtain ⟨e1, e2⟩ := e1
  have e2 : d = d' := by omega
  subst e1 e2
  rw [← FilR.uniq f f' c hf hf', ← hw.uniq hw']
  exact hr)
 obtain ⟨rfl, q2, q3⟩ := r1 f c d w rfl hf hw
 exact ⟨h', e1, q2, q3⟩
def K22_1 : List Fr := [.blk 0,
 .seq (Sr [Ox 6 (.b true)]
 .ret)]
theorem UH22_1 : type_of% (@Hp_open _ _ L22_1.eq_1) := @Hp_open _ _ L22_1.eq_1
theorem UH22 : type_of% (@Hp_open _ _ B22.eq_1) := @Hp_open _ _ B22.eq_1
def kz22 (_ : Nat) : List Nat := [0, 3, 4, 5, 6, 7, 8, 9, 10, 11, 12, 13, 14, 15, 16, 17, 18, 19, 20, 21, 22, 23, 24, 25, 26, 27, 28, 29, 30, 31, 32, 33, 34, 35, 36, 37, 38, 42, 43, 44, 45, 46, 47, 48, 49, 50, 51]
section
variable {id D : Nat}
set_option maxRecDepth 100000 in
theorem w_wkids (S : S_weigh id D) (k : Int) (nm tx : List UInt8) (kids : List Fil) (ys : List V) (tk0 : Tk) (hy : KidsR kids ys) (hk : kids.length ≤ 500) (d : Nat) (hd : d ≤ 50) (hD : 52 ≤ d + 1 + D) (h0 : H) : ∀ (post pre : List Fil) (w : Nat) (h : H) (l8 : List (Nat × List V)), kids = pre ++ post → WB h id w → w ≤ 8192 → Hop h0 h id →
  Hp.M noX (Y_weigh id) (kz22) (.code L22_1) (.loop L22_1 :: K22_1) ⟨gl0, (.node (.node (.node (.node E2 .any (.node (.node .leaf (.sl ys kids.length tk0) .leaf) .any E1)) .any E3) (.i .i64 (d : Nat)) (.node (.node E2 .any (.node (.node .leaf (.i .i64 (pre.length : Nat)) .leaf) .any E1)) .any E3)) .any (.node (.node (.node E2 .any (.node (.node .leaf (.i .i64 (kids.length : Nat)) .leaf) .any E1)) .any E3) (.p id 0) E4)), [], (3, [.i .i64 k, .s nm, .s tx, .sl ys kids.length tk0]) :: l8, h⟩
   (fun ex st => ∃ v h', Hp.FinI [.tmp 6] v h' ex st ∧ ResW id h0 v h' (wghs post (d + 1) w)) := by
 intro post
 induction post with
 | nil =>
   intro pre w h l8 hk1 hw hw2 hop
   have hl : kids.length = pre.length := by rw [hk1]; simp
   have e1 : decide ((pre.length : Int) < (kids.length : Int)) = false := decide_eq_false (by omega)
   rw [UH22_1, wghs]
   simp only [e1, K22_1, go_sem, reduceIte, reduceMul, reduceAdd, reduceSub, reduceEqDiff, reduceLeDiff, reduceLT]
   exact ⟨_, _, ⟨rfl, rfl⟩, rfl, hop, hw⟩
 | cons f post ih =>
   intro pre w h l8 hk1 hw hw2 hop
   have hl : kids.length = pre.length + post.length + 1 := by rw [hk1]; simp; omega
   have e1 : decide ((pre.length : Int) < (kids.length : Int)) = true := decide_eq_true (by omega)
   have g1 : pre.length < kids.length := by omega
   have hyl := hy.len
   have g2 : (pre.length + 1) * 4 ≤ kids.length * 4 := by omega
   obtain ⟨c, hc, ht⟩ := hy.split pre f post hk1
   obtain ⟨h', y4, q2, q3⟩ := call_weigh S hc hw (by omega) hD (by omega)
   have hle := wgh_le f (d + 1) w
   have w1 : wr .i64 ((d : Int) + 1) = ((d + 1 : Nat) : Int) := by rw [wr64] <;> omega
   have w2 : wr .i64 ((pre.length : Int) + 1) = ((pre.length + 1 : Nat) : Int) := by rw [wr64] <;> omega
   rw [UH22_1, wghs]
   cases hc with | mk k1 nm1 tx1 kids1 xs1 n1 tk1 hn1 hx1 =>
   generalize hq : wgh (.mk k1 nm1 tx1 kids1) (d + 1) w = q at *
   obtain ⟨er, w'⟩ := q
   simp only at q3 y4 hle
   cases er with
   | true =>
     rw [if_pos rfl]
     have := fun l8 => ih (pre ++ [.mk k1 nm1 tx1 kids1]) w' h' l8 (by rw [hk1]; simp) q3 (hle rfl).2 (hop.trans q2)
     simp only [e1, g1, hyl, g2, rd_ip, ht, w1, y4, w2, splice, Int.cast_ofNat_Int, go_sem, reduceIte, reduceMul, reduceAdd, reduceSub, reduceEqDiff, reduceLeDiff, reduceLT]
     rw [Hp.M_loop]
     simp only [kz22, K22_1, List.length_append, List.length_cons, List.length_nil, Nat.zero_add, go_sem, reduceIte, reduceMul, reduceAdd, reduceSub, reduceEqDiff, reduceLeDiff, reduceLT] at this ⊢
     exact this _
   | false =>
     rw [if_neg (by simp)]
     simp only [e1, g1, hyl, g2, rd_ip, ht, w1, y4, w2, splice, K22_1, Int.cast_ofNat_Int, go_sem, reduceIte, reduceMul, reduceAdd, reduceSub, reduceEqDiff, reduceLeDiff, reduceLT]
     exact ⟨_, _, ⟨rfl, rfl⟩, rfl, hop.trans q2, q3⟩
set_option maxRecDepth 100000 in
theorem s_weigh (S : S_weigh id D) : S_weigh id (D + 1) := by
 intro f c d w h hf hw hw2 hD hd
 cases hf with | mk k nm tx kids xs n tk hn hx =>
 subst hn
 obtain ⟨nx, obs, nt, tips⟩ := h
 refine compI_ex (xf := noX) (kz := kz22) (fn := af22) tells_noX (t_weigh id) rfl (Nat.le_of_ble_eq_true rfl) ?_
 show Hp.M _ _ _ (.code B22) _ (St.init gl0 6 _ _) (fun ex st => ∃ v h', Hp.FinI [.tmp 6] v h' ex st ∧ _)
 rw [UH22]
 have hw' : al obs id = some (Ai.Obj.cells 3 [.i .i64 (w : Nat)]) := hw
 have m1 : (if (8192 : Int) < (nm.length : Int) then (8192 : Int) else (nm.length : Int)) = ((min nm.length 8192 : Nat) : Int) := by split <;> omega
 have m2 : (if (8192 : Int) < (tx.length : Int) then (8192 : Int) else (tx.length : Int)) = ((min tx.length 8192 : Nat) : Int) := by split <;> omega
 rw [wgh]
 have ha : min nm.length 8192 ≤ 8192 := Nat.min_le_right _ _
 have hb : min tx.length 8192 ≤ 8192 := Nat.min_le_right _ _
 generalize min nm.length 8192 = a at *
 generalize min tx.length 8192 = b at *
 have w1 : wr .i64 (1 + (a : Int)) = ((1 + a : Nat) : Int) := by rw [wr64] <;> omega
 have w2 : wr .i64 (((1 + a : Nat) : Int) + (b : Int)) = ((1 + a + b : Nat) : Int) := by rw [wr64] <;> omega
 have w3 : wr .i64 ((w : Int) + ((1 + a + b : Nat) : Int)) = ((w + (1 + a + b) : Nat) : Int) := by rw [wr64] <;> omega
 generalize hz : w + (1 + a + b) = z at *
 have hS := Hop.setW ⟨nx, obs, nt, tips⟩ id z
 have hW := WB.set ⟨nx, obs, nt, tips⟩ id z
 by_cases c1 : 8192 < z
 · have e1 : decide ((8192 : Int) < (z : Int)) = true := decide_eq_true (by omega)
   rw [if_pos (.inl c1)]
   simp only [hw', m1, m2, w1, w2, w3, e1, splice, go_sem, reduceIte, reduceMul, reduceAdd, reduceSub, reduceEqDiff, reduceLeDiff, reduceLT]
   exact ⟨_, _, ⟨rfl, rfl⟩, rfl, hS, hW⟩
 · have e1 : decide ((8192 : Int) < (z : Int)) = false := decide_eq_false (by omega)
   by_cases c2 : 50 < d
   · have e2 : decide ((50 : Int) < (d : Int)) = true := decide_eq_true (by omega)
     rw [if_pos (.inr (.inl c2))]
     simp only [hw', m1, m2, w1, w2, w3, e1, e2, splice, go_sem, reduceIte, reduceMul, reduceAdd, reduceSub, reduceEqDiff, reduceLeDiff, reduceLT]
     exact ⟨_, _, ⟨rfl, rfl⟩, rfl, hS, hW⟩
   · have e2 : decide ((50 : Int) < (d : Int)) = false := decide_eq_false (by omega)
     by_cases c3 : 500 < kids.length
     · have e3 : decide ((500 : Int) < (kids.length : Int)) = true := decide_eq_true (by omega)
       rw [if_pos (.inr (.inr c3))]
       simp only [hw', m1, m2, w1, w2, w3, e1, e2, e3, splice, go_sem, reduceIte, reduceMul, reduceAdd, reduceSub, reduceEqDiff, reduceLeDiff, reduceLT]
       exact ⟨_, _, ⟨rfl, rfl⟩, rfl, hS, hW⟩
     · have e3 : decide ((500 : Int) < (kids.length : Int)) = false := decide_eq_false (by omega)
       rw [if_neg (by omega)]
       have := w_wkids S k nm tx kids xs tk hx (by omega) d (by omega) (by omega) ⟨nx, obs, nt, tips⟩ kids [] z (setW ⟨nx, obs, nt, tips⟩ id z) [] rfl hW (by omega) hS
       simp only [hw', m1, m2, w1, w2, w3, e1, e2, e3, splice, go_sem, reduceIte, reduceMul, reduceAdd, reduceSub, reduceEqDiff, reduceLeDiff, reduceLT]
       rw [Hp.M_loop]
       simp only [setW, kz22, K22_1, List.length_cons, List.length_nil, Int.cast_ofNat_Int, go_sem, reduceIte, reduceMul, reduceAdd, reduceSub, reduceEqDiff, reduceLeDiff, reduceLT] at this ⊢
       exact this
theorem s_weigh_all (id : Nat) : ∀ D, S_weigh id D
 | 0 => fun _ _ _ _ _ _ _ _ h1 h2 => by omega
 | D + 1 => s_weigh (s_weigh_all id D)
end
/-! ### May -/
def X_may := xs [(113, F_rKey), (114, F_rValue), (50, F_rName)]
theorem t_may : Tells tabx told X_may := tells_cons o_rKey (tells_cons o_rValue (tells_cons o_rName tells_nil))
theorem U84 : type_of% (@M_open _ _ B84.eq_1) := @M_open _ _ B84.eq_1
def kz84 (_ : Nat) : List Nat := []
set_option maxRecDepth 100000 in
set_option maxHeartbeats 1000000 in
theorem w_may (k : Int) (nm tx : List UInt8) (xs : List V) (n : Nat) (tk : Tk) (h1 : nm.length ≤ 8192) (h2 : tx.length ≤ 8192) (gl : Nat → List V) :
  M X_may (kz84) (.code B84) [] (St.init gl 7 [.agg [.i .i64 k, .s nm, .s tx, .sl xs n tk]] {}) (Fin [.tmp 2] (.b (mayB k nm tx n))) := by
 rw [U84]
 have eL : decide ((n : Int) = 0) = decide (n = 0) := decide_eq_decide.2 (by omega)
 have eO : decide ((n : Int) = 1) = decide (n = 1) := decide_eq_decide.2 (by omega)
 have eN := strEq_dec nm []
 have eT := strEq_dec tx []
 have xk : X_may 113 [.s tx] = some (.i .i64 (errV (keyB tx) 20)) := F_rKey1 tx (by omega)
 have xv : X_may 114 [.s tx] = some (.i .i64 (errV (valB tx) 21)) := F_rValue1 tx (by omega)
 have xn : X_may 50 [.s nm] = some (.i .i64 (errV (namB nm) 22)) := by
  have := F_rName1 nm (by omega)
  rw [← name_eq] at this
  exact this
 have ek : decide (errV (keyB tx) 20 = 0) = keyB tx := errB (keyB tx) 20 (by decide)
 have ev : decide (errV (valB tx) 21 = 0) = valB tx := errB (valB tx) 21 (by decide)
 have en : decide (errV (namB nm) 22 = 0) = namB nm := errB (namB nm) 22 (by decide)
 by_cases k0 : k = 0
 · have hM : mayB k nm tx n = (decide (n = 0) && (decide (nm = []) && decide (tx = []))) := by unfold mayB; rw [if_pos (by omega)]
   have d0 : decide (k = 0) = true := decide_eq_true (by omega)
   rw [hM]
   cases hL : decide (n = 0) <;> cases hN : decide (nm = []) <;> cases hT : decide (tx = []) <;> rw [hL] at eL <;> rw [hN] at eN <;> rw [hT] at eT <;> simp only [eL, eN, eT, d0, go_sem, reduceIte, reduceMul, reduceAdd, reduceSub, reduceEqDiff, reduceLeDiff, reduceLT]
 · by_cases k3 : k = 3
   · have hM : mayB k nm tx n = (decide (n = 0) && (decide (nm = []) && decide (tx = []))) := by unfold mayB; rw [if_pos (by omega)]
     have d0 : decide (k = 0) = false := decide_eq_false (by omega)
     have d3 : decide (k = 3) = true := decide_eq_true (by omega)
     rw [hM]
     cases hL : decide (n = 0) <;> cases hN : decide (nm = []) <;> cases hT : decide (tx = []) <;> rw [hL] at eL <;> rw [hN] at eN <;> rw [hT] at eT <;> simp only [eL, eN, eT, d0, d3, go_sem, reduceIte, reduceMul, reduceAdd, reduceSub, reduceEqDiff, reduceLeDiff, reduceLT]
   · have d0 : decide (k = 0) = false := decide_eq_false (by omega)
     have d3 : decide (k = 3) = false := decide_eq_false (by omega)
     by_cases k1 : k = 1
     · have hM : mayB k nm tx n = (decide (n = 0) && (decide (nm = []) && keyB tx)) := by unfold mayB; rw [if_neg (by omega), if_pos k1]
       have d1 : decide (k = 1) = true := decide_eq_true (by omega)
       rw [hM]
       cases hL : decide (n = 0) <;> cases hN : decide (nm = []) <;> cases hT : decide (tx = []) <;> cases hK : keyB tx <;> rw [hL] at eL <;> rw [hN] at eN <;> rw [hT] at eT <;> rw [hK] at ek xk <;> simp only [eL, eN, eT, d0, d1, d3, xk, ek, go_sem, reduceIte, reduceMul, reduceAdd, reduceSub, reduceEqDiff, reduceLeDiff, reduceLT]
     · have d1 : decide (k = 1) = false := decide_eq_false (by omega)
       by_cases k2 : k = 2
       · have hM : mayB k nm tx n = (decide (n = 0) && (namB nm && valB tx)) := by unfold mayB; rw [if_neg (by omega), if_neg k1, if_pos k2]
         have d2 : decide (k = 2) = true := decide_eq_true (by omega)
         rw [hM]
         cases hL : decide (n = 0) <;> cases hN : decide (nm = []) <;> cases hT : decide (tx = []) <;> cases hK : namB nm <;> cases hV : valB tx <;> rw [hL] at eL <;> rw [hN] at eN <;> rw [hT] at eT <;> rw [hK] at en xn <;> rw [hV] at ev xv <;> simp only [eL, eN, eT, d0, d1, d2, d3, xn, xv, en, ev, go_sem, reduceIte, reduceMul, reduceAdd, reduceSub, reduceEqDiff, reduceLeDiff, reduceLT]
       · have d2 : decide (k = 2) = false := decide_eq_false (by omega)
         by_cases k4 : k = 4
         · have hM : mayB k nm tx n = (decide (nm = []) && (decide (tx = []) && decide (n = 1))) := by unfold mayB; rw [if_neg (by omega), if_neg k1, if_neg k2, if_pos k4]
           have d4 : decide (k = 4) = true := decide_eq_true (by omega)
           rw [hM]
           cases hO : decide (n = 1) <;> cases hN : decide (nm = []) <;> cases hT : decide (tx = []) <;> rw [hO] at eO <;> rw [hN] at eN <;> rw [hT] at eT <;> simp only [eO, eN, eT, d0, d1, d2, d3, d4, go_sem, reduceIte, reduceMul, reduceAdd, reduceSub, reduceEqDiff, reduceLeDiff, reduceLT]
         · have d4 : decide (k = 4) = false := decide_eq_false (by omega)
           by_cases k5 : k = 5
           · have hM : mayB k nm tx n = (decide (nm = []) && decide (tx = [])) := by unfold mayB; rw [if_neg (by omega), if_neg k1, if_neg k2, if_neg k4, if_pos (by omega)]
             have d5 : decide (k = 5) = true := decide_eq_true (by omega)
             rw [hM]
             cases hN : decide (nm = []) <;> cases hT : decide (tx = []) <;> rw [hN] at eN <;> rw [hT] at eT <;> simp only [eN, eT, d0, d1, d2, d3, d4, d5, go_sem, reduceIte, reduceMul, reduceAdd, reduceSub, reduceEqDiff, reduceLeDiff, reduceLT]
           · have d5 : decide (k = 5) = false := decide_eq_false (by omega)
             by_cases k6 : k = 6
             · have hM : mayB k nm tx n = (decide (nm = []) && decide (tx = [])) := by unfold mayB; rw [if_neg (by omega), if_neg k1, if_neg k2, if_neg k4, if_pos (by omega)]
               have d6 : decide (k = 6) = true := decide_eq_true (by omega)
               rw [hM]
               cases hN : decide (nm = []) <;> cases hT : decide (tx = []) <;> rw [hN] at eN <;> rw [hT] at eT <;> simp only [eN, eT, d0, d1, d2, d3, d4, d5, d6, go_sem, reduceIte, reduceMul, reduceAdd, reduceSub, reduceEqDiff, reduceLeDiff, reduceLT]
             · have hM : mayB k nm tx n = false := by unfold mayB; rw [if_neg (by omega), if_neg k1, if_neg k2, if_neg k4, if_neg (by omega)]
               have d6 : decide (k = 6) = false := decide_eq_false (by omega)
               rw [hM]
               cases hN : decide (nm = []) <;> cases hT : decide (tx = []) <;> rw [hN] at eN <;> rw [hT] at eT <;> simp only [eN, eT, d0, d1, d2, d3, d4, d5, d6, go_sem, reduceIte, reduceMul, reduceAdd, reduceSub, reduceEqDiff, reduceLeDiff, reduceLT]
def F_may (a : List V) : Option V := match a with
 | [.agg [.i .i64 k, .s nm, .s tx, .sl xs n tk]] => if nm.length ≤ 8192 ∧ tx.length ≤ 8192 then some (.b (mayB k nm tx n)) else none
 | _ => none
theorem F_may1 (k : Int) (nm tx : List UInt8) (xs : List V) (n : Nat) (tk : Tk) (h : nm.length ≤ 8192 ∧ tx.length ≤ 8192) : F_may [.agg [.i .i64 k, .s nm, .s tx, .sl xs n tk]] = some (.b (mayB k nm tx n)) := if_pos h
theorem o_may : ∀ a v, F_may a = some v → Comp tabx told 84 a v := fun a v e => by
 unfold F_may at e
 split at e
 · split at e
   · rename_i h; cases e; exact comp_of t_may (fn := af84) rfl (Nat.le_of_ble_eq_true rfl) fun gl => w_may _ _ _ _ _ _ h.1 h.2 gl
   · cases e
 · cases e
/-! ### walk -/
theorem blds_cnt : ∀ (l : List Fil) (d w : Nat), w ≤ 24 → (blds l d w).1 = 0 → w + l.length ≤ (blds l d w).2
 | [], d, w, _, _ => by rw [blds]; exact Nat.le_refl _
 | f :: r, d, w, hw, h => by
   rw [blds] at h ⊢
   split at h
   · rename_i h0
     rw [if_pos h0]
     have h1 := bld_gt f d w hw
     have h2 := blds_cnt r d _ ((bld_le f d w hw).2 h0) h
     simp only [List.length_cons]; omega
   · rename_i h0; exact absurd h h0
theorem blds_mem : ∀ (l : List Fil) (d w : Nat), w ≤ 24 → (blds l d w).1 = 0 → ∀ (pre : List Fil) (f : Fil) (post : List Fil), l = pre ++ f :: post → ∃ w', w' ≤ 24 ∧ (bld f d w').1 = 0
 | [], d, w, _, _, pre, f, post, e => by cases pre <;> cases e
 | g :: r, d, w, hw, h, pre, f, post, e => by
   rw [blds] at h
   split at h
   · rename_i h0
     cases pre with
     | nil => cases e; exact ⟨w, hw, h0⟩
     | cons p pre => cases e; exact blds_mem _ d _ ((bld_le g d w hw).2 h0) h pre f post rfl
   · rename_i h0; exact absurd h h0
theorem okLs_split : ∀ (l : List Fil), okLs l → ∀ (pre : List Fil) (f : Fil) (post : List Fil), l = pre ++ f :: post → okL f
 | [], _, pre, f, post, e => by cases pre <;> cases e
 | g :: r, h, pre, f, post, e => by
   rw [okLs] at h
   cases pre with
   | nil => cases e; exact h.1
   | cons p pre => cases e; exact okLs_split _ h.2 pre f post rfl
def ResC (v : V) (q : Nat × Nat) : Prop := ∃ m : Nat, v = .tup [.i .i64 (m : Nat), .i .i64 (q.1 : Nat)] ∧ (q.1 = 0 → m = q.2)
def R_walk (a : List V) (v : V) : Prop := ∀ (f : Fil) (c : List V) (u w : Nat), a = [.agg c, .i .i64 (u : Nat), .i .i64 (w : Nat)] → FilR f c → ResC v (bld f (u + 1) w)
def S_walk (D : Nat) : Prop := ∀ (f : Fil) (c : List V) (u w : Nat), FilR f c → okL f → w ≤ 24 → 7 ≤ u + D → u ≤ 6 → ∃ v, Comp tabx told 49 [.agg c, .i .i64 (u : Nat), .i .i64 (w : Nat)] v ∧ ResC v (bld f (u + 1) w)
noncomputable def X_walk := xs [(84, F_may), (49, pickP 49 R_walk)]
theorem t_walk : Tells tabx told X_walk := tells_cons o_may (tells_cons pickP_tells tells_nil)
theorem call_walk {D : Nat} (S : S_walk D) {f : Fil} {c : List V} {u w : Nat} (hf : FilR f c) (hk : okL f) (h1 : w ≤ 24) (h2 : 7 ≤ u + D) (h3 : u ≤ 6) :
  ∃ m : Nat, X_walk 49 [.agg c, .i .i64 (u : Nat), .i .i64 (w : Nat)] = some (.tup [.i .i64 (m : Nat), .i .i64 ((bld f (u + 1) w).1 : Nat)]) ∧ ((bld f (u + 1) w).1 = 0 → m = (bld f (u + 1) w).2) := by
 obtain ⟨v, hc, hr⟩ := S f c u w hf hk h1 h2 h3
 obtain ⟨v, e1, r1⟩ := pickP_spec (R := R_walk) hc (by
  intro f' c' u' w' e1 hf'
  simp only [List.cons.injEq, V.i.injEq, V.agg.injEq, true_and, and_true] at e1
  obtain ⟨e1, e2, e3⟩ := e1
  have e2 : u = u' := by omega
  have e3 : w = w' := by omega
  subst e1 e2 e3
  rw [← FilR.uniq f f' c hf hf']
  exact hr)
 obtain ⟨m, rfl, q⟩ := r1 f c u w rfl hf
 exact ⟨m, e1, q⟩
def K49_1 : List Fr := [.blk 0,
 .seq (Sr [Om 46 2, Om 6 46, On 7 0]
 .ret)]
theorem UH49_1 : type_of% (@Hp_open _ _ L49_1.eq_1) := @Hp_open _ _ L49_1.eq_1
theorem UH49 : type_of% (@Hp_open _ _ B49.eq_1) := @Hp_open _ _ B49.eq_1
def kz49 (_ : Nat) : List Nat := [0, 3, 4, 5, 6, 7, 8, 9, 10, 11, 12, 13, 14, 15, 16, 17, 18, 19, 20, 21, 22, 23, 24, 25, 29, 30, 31, 32, 33, 34, 35, 36, 37, 38, 39, 40, 41, 42, 43, 44, 45, 46]
section
variable {D : Nat}
set_option maxRecDepth 100000 in
theorem w_ckids (S : S_walk D) (k : Int) (nm tx : List UInt8) (kids : List Fil) (ys : List V) (tk0 : Tk) (hy : KidsR kids ys) (hok : okLs kids) (u : Nat) (hu : u ≤ 5) (hD : 7 ≤ u + 1 + D) : ∀ (post pre : List Fil) (w : Nat) (l9 : List (Nat × List V)), kids = pre ++ post → w ≤ 24 → pre.length ≤ w →
  Hp.M X_walk noY (kz49) (.code L49_1) (.loop L49_1 :: K49_1) ⟨gl0, (.node (.node (.node E3 .any (.node E2 .any (.node E1 (.i .i64 (kids.length : Nat)) E1))) (.i .i64 (u : Nat)) E4) .any (.node (.node E3 .any (.node E2 .any (.node E1 (.i .i64 (pre.length : Nat)) E1))) (.i .i64 (w : Nat)) (.node (.node E2 .any (.node E1 (.sl ys kids.length tk0) E1)) .any E3))), [], (3, [.i .i64 k, .s nm, .s tx, .sl ys kids.length tk0]) :: l9, {}⟩
   (fun ex st => ∃ v, Fin [.tmp 6, .tmp 7] v ex st ∧ ResC v (blds post (u + 2) w)) := by
 intro post
 induction post with
 | nil =>
   intro pre w l9 hk1 hw hpw
   have hl : kids.length = pre.length := by rw [hk1]; simp
   have e1 : decide ((pre.length : Int) < (kids.length : Int)) = false := decide_eq_false (by omega)
   rw [UH49_1, blds]
   simp only [e1, K49_1, go_sem, reduceIte, reduceMul, reduceAdd, reduceSub, reduceEqDiff, reduceLeDiff, reduceLT]
   exact ⟨_, rfl, w, rfl, fun _ => rfl⟩
 | cons f post ih =>
   intro pre w l9 hk1 hw hpw
   have hl : kids.length = pre.length + post.length + 1 := by rw [hk1]; simp; omega
   have e1 : decide ((pre.length : Int) < (kids.length : Int)) = true := decide_eq_true (by omega)
   have g1 : pre.length < kids.length := by omega
   have hyl := hy.len
   have g2 : (pre.length + 1) * 4 ≤ kids.length * 4 := by omega
   obtain ⟨c, hc, ht⟩ := hy.split pre f post hk1
   obtain ⟨m, y4, q2⟩ := call_walk S (u := u + 1) hc (okLs_split _ hok pre f post hk1) hw (by omega) (by omega)
   have hle := bld_le f (u + 2) w hw
   have hgt := bld_gt f (u + 2) w hw
   have w1 : wr .i64 ((u : Int) + 1) = ((u + 1 : Nat) : Int) := by rw [wr64] <;> omega
   have w2 : wr .i64 ((pre.length : Int) + 1) = ((pre.length + 1 : Nat) : Int) := by rw [wr64] <;> omega
   rw [UH49_1, blds]
   cases hc with | mk k1 nm1 tx1 kids1 xs1 n1 tk1 hn1 hx1 =>
   change X_walk _ _ = some (.tup [_, .i .i64 ((bld _ (u + 2) w).1 : Nat)]) at y4
   change (bld _ (u + 2) w).1 = 0 → m = (bld _ (u + 2) w).2 at q2
   generalize hq : bld (.mk k1 nm1 tx1 kids1) (u + 2) w = q at *
   obtain ⟨er, w'⟩ := q
   simp only at q2 y4 hle hgt
   by_cases he : er = 0
   · subst he
     rw [if_pos rfl]
     obtain rfl := q2 rfl
     have := fun l9 => ih (pre ++ [.mk k1 nm1 tx1 kids1]) m l9 (by rw [hk1]; simp) (hle.2 rfl) (by simp; omega)
     have f0 : decide (((0 : Nat) : Int) = 0) = true := by decide
     simp only [e1, g1, hyl, g2, rd_ip, ht, w1, y4, w2, f0, splice, Int.cast_ofNat_Int, go_sem, reduceIte, reduceMul, reduceAdd, reduceSub, reduceEqDiff, reduceLeDiff, reduceLT]
     rw [Hp.M_loop]
     simp only [kz49, K49_1, List.length_append, List.length_cons, List.length_nil, Nat.zero_add, go_sem, reduceIte, reduceMul, reduceAdd, reduceSub, reduceEqDiff, reduceLeDiff, reduceLT] at this ⊢
     exact this _
   · rw [if_neg he]
     have f1 : decide ((er : Int) = 0) = false := decide_eq_false (by omega)
     simp only [e1, g1, hyl, g2, rd_ip, ht, w1, y4, w2, f1, splice, K49_1, Int.cast_ofNat_Int, go_sem, reduceIte, reduceMul, reduceAdd, reduceSub, reduceEqDiff, reduceLeDiff, reduceLT]
     exact ⟨_, rfl, m, rfl, fun h => absurd h he⟩
set_option maxRecDepth 100000 in
theorem s_walk (S : S_walk D) : S_walk (D + 1) := by
 intro f c u w hf hok hw hD hu
 have hs := FilR.strip f c hf
 refine comp_ex (xf := X_walk) (xh := noY) (kz := kz49) (fn := af49) t_walk tells_noY rfl (Nat.le_of_ble_eq_true rfl) ?_
 show Hp.M _ _ _ (.code B49) _ (St.init gl0 6 [.agg (stripL c), .i .i64 (u : Nat), .i .i64 (w : Nat)] _) (fun ex st => ∃ v, Fin [.tmp 6, .tmp 7] v ex st ∧ _)
 rw [UH49]
 generalize stripL c = c2 at hs
 clear hf c
 cases hs with | mk k nm tx kids xs n tk hn hx =>
 subst hn
 rw [okL] at hok
 obtain ⟨o1, o2, o3⟩ := hok
 have xm : X_walk 84 [.agg [.i .i64 k, .s nm, .s tx, .sl xs kids.length tk]] = some (.b (mayB k nm tx kids.length)) := F_may1 k nm tx xs kids.length tk ⟨o1, o2⟩
 have w1 : wr .i64 ((w : Int) + 1) = ((w + 1 : Nat) : Int) := by rw [wr64] <;> omega
 rw [bld]
 by_cases c1 : 6 ≤ u
 · have e1 : decide ((6 : Int) ≤ (u : Int)) = true := decide_eq_true (by omega)
   rw [if_pos (.inl (by omega))]
   simp only [e1, go_sem, reduceIte, reduceMul, reduceAdd, reduceSub, reduceEqDiff, reduceLeDiff, reduceLT]
   exact ⟨_, rfl, w, rfl, fun h => by cases h⟩
 · have e1 : decide ((6 : Int) ≤ (u : Int)) = false := decide_eq_false (by omega)
   by_cases c2 : 24 ≤ w
   · have e2 : decide ((24 : Int) ≤ (w : Int)) = true := decide_eq_true (by omega)
     rw [if_pos (.inr (by omega))]
     simp only [e1, e2, go_sem, reduceIte, reduceMul, reduceAdd, reduceSub, reduceEqDiff, reduceLeDiff, reduceLT]
     exact ⟨_, rfl, w, rfl, fun h => by cases h⟩
   · have e2 : decide ((24 : Int) ≤ (w : Int)) = false := decide_eq_false (by omega)
     rw [if_neg (by omega)]
     cases hM : mayB k nm tx kids.length with
     | false =>
       rw [hM] at xm
       rw [if_pos rfl]
       simp only [e1, e2, xm, go_sem, reduceIte, reduceMul, reduceAdd, reduceSub, reduceEqDiff, reduceLeDiff, reduceLT]
       exact ⟨_, rfl, w, rfl, fun h => by cases h⟩
     | true =>
       rw [hM] at xm
       rw [if_neg (by decide)]
       have := w_ckids S k nm tx kids xs tk hx o3 u (by omega) (by omega) kids [] (w + 1) [] rfl (by omega) (Nat.zero_le _)
       simp only [e1, e2, xm, w1, go_sem, reduceIte, reduceMul, reduceAdd, reduceSub, reduceEqDiff, reduceLeDiff, reduceLT]
       rw [Hp.M_loop]
       simp only [kz49, K49_1, List.length_cons, List.length_nil, Int.cast_ofNat_Int, go_sem, reduceIte, reduceMul, reduceAdd, reduceSub, reduceEqDiff, reduceLeDiff, reduceLT] at this ⊢
       exact this
theorem s_walk_all : ∀ D, S_walk D
 | 0 => fun _ _ _ _ _ _ _ h1 h2 => by omega
 | D + 1 => s_walk (s_walk_all D)
end
/-! ### Check -/
def R_rcheck (a : List V) (v : V) : Prop := ∀ (f : Fil) (c : List V), a = [.agg c] → FilR f c → v = .i .i64 (chk f : Nat)
noncomputable def F_rcheck : List V → Option V := pickP 26 R_rcheck
theorem o_rcheck : ∀ a v, F_rcheck a = some v → Comp tabx told 26 a v := pickP_tells
theorem UH26 : type_of% (@Hp_open _ _ B26.eq_1) := @Hp_open _ _ B26.eq_1
def kz26 (_ : Nat) : List Nat := []
theorem rcheck_eq (f : Fil) (c : List V) (hf : FilR f c) (hok : okL f) : F_rcheck [.agg c] = some (.i .i64 (chk f : Nat)) := by
 have hc : ∃ v, Comp tabx told 26 [.agg c] v ∧ v = .i .i64 (chk f : Nat) := by
  have hs := FilR.strip f c hf
  obtain ⟨m, y4, q2⟩ := call_walk (s_walk_all 7) (u := 0) (w := 0) hs hok (by decide) (by decide) (by decide)
  refine comp_ex (xf := X_walk) (xh := noY) (kz := kz26) (fn := af26) t_walk tells_noY rfl (Nat.le_of_ble_eq_true rfl) ?_
  show Hp.M _ _ _ (.code B26) _ (St.init gl0 4 [.agg (stripL c)] _) (fun ex st => ∃ v, Fin [.tmp 2] v ex st ∧ _)
  rw [UH26]
  change X_walk _ _ = some (.tup [_, .i .i64 (chk f : Nat)]) at y4
  generalize chk f = e at *
  generalize stripL c = c2 at hs y4 ⊢
  cases hs with | mk k nm tx kids xs n tk hn hx =>
  simp only [Int.cast_ofNat_Int] at y4
  simp only [y4, Int.cast_ofNat_Int, go_sem, reduceIte, reduceMul, reduceAdd, reduceSub, reduceEqDiff, reduceLeDiff, reduceLT]
  exact ⟨_, rfl, rfl⟩
 obtain ⟨v, hc, rfl⟩ := hc
 obtain ⟨v, e1, r⟩ := pickP_spec (R := R_rcheck) hc (by
  intro f' c' e1 hf'
  simp only [List.cons.injEq, V.agg.injEq, and_true] at e1
  subst e1
  rw [← FilR.uniq f f' c hf hf'])
 rw [r f c rfl hf] at e1
 exact e1
end Go.Proofs.YtpcjhfchpelonaaGreatDoor
set_option linter.unusedSimpArgs false
set_option linter.unusedVariables false
namespace Go.Proofs.YtpcjhfchpelonaaGreatDoor
open Ai Go.Shelf
/-! ### Join over rows of the shared memory -/
def H_Join (a : List V) (h : H) : Option (V × H) := match joinV (a.map (thaw h)) with
 | some (.s l) => some (.s l, h)
 | _ => none
theorem i_Join : ∀ a h v h', H_Join a h = some (v, h') → Hp.CompI tabx told 39 a h v h' := fun a h v h' e => by
 unfold H_Join at e
 split at e
 · rename_i l hl
   cases e
   refine Hp.compI_primH ?_
   show xf 39 _ = _
   rw [show xf 39 (a.map (thaw h)) = joinV (a.map (thaw h)) from rfl]
   exact hl
 · cases e
theorem strsOf_map (l : List (List UInt8)) : strsOf (l.map V.s) = some l := by
 induction l with
 | nil => rfl
 | cons x r ih => simp only [List.map_cons, strsOf, ih, Option.map_some]
theorem nble {a b : Nat} (h : a ≤ b) : Nat.ble a b = true := Nat.ble_eq_true_of_le h
theorem nbeq (a : Nat) : Nat.beq a a = true := Nat.beq_refl a
theorem nbne {a b : Nat} (h : a ≠ b) : Nat.beq a b = false := by
 cases hb : Nat.beq a b with
 | true => exact absurd (Nat.eq_of_beq_eq_true hb) h
 | false => rfl
theorem H_JoinS {l : List (List UInt8)} {n : Nat} {tk : Tk} (sep : List UInt8) (h : H) (hn : l.length = n) (h1 : n ≤ 1000) (h2 : (Lib.join l sep).length ≤ 140737488355328) : H_Join [.sl (l.map V.s) n tk, .s sep] h = some (.s (Lib.join l sep), h) := by
 unfold H_Join
 simp only [List.map_cons, List.map_nil, thaw, joinV, strsOf_map, List.length_map, hn, nbeq, nble (show n ≤ 140737488355328 by omega), nble h2, Bool.and_self, cond_true]
theorem H_JoinH {h : H} {id n : Nat} {ty : TypeId} {l : List (List UInt8)} (sep : List UInt8) (ho : al h.objs id = some (.cells ty (l.map V.s))) (hn : l.length = n) (h1 : n ≤ 1000) (h2 : (Lib.join l sep).length ≤ 140737488355328) :
  H_Join [.hs id 0 n 1, .s sep] h = some (.s (Lib.join l sep), h) := by
 have e : ([.hs id 0 n 1, .s sep] : List V).map (thaw h) = [.sl (l.map V.s) n .no, .s sep] := by
  have hs : sub? (l.map V.s) 0 (n * 1) = some (l.map V.s) := by
   rw [Nat.mul_one]
   unfold sub?
   have : (List.take n (List.drop 0 (List.map V.s l))) = l.map V.s := by rw [List.drop_zero, List.take_of_length_le (by simp; omega)]
   simp only [this, List.length_map, hn, nbeq, cond_true]
  simp only [List.map_cons, List.map_nil, thaw, ho, hs]
 have := H_JoinS (tk := .no) sep h hn h1 h2
 unfold H_Join at this ⊢
 rw [e]
 simpa only [List.map_cons, List.map_nil, thaw] using this
def LB (h : H) (v : V) (l : List (List UInt8)) : Prop := (l = [] ∧ v = .sl [] 0 .nil) ∨ (l ≠ [] ∧ ∃ id, v = .hs id 0 l.length 1 ∧ id < h.next ∧ al h.objs id = some (.cells 9 (l.map V.s)))
theorem LB.step {nx : Nat} {obs : List (Nat × Ai.Obj)} {nt : Nat} {tips : List (Nat × (Nat × TypeId))} {v : V} {l : List (List UInt8)} (hb : LB ⟨nx, obs, nt, tips⟩ v l) (x : List UInt8) (hm : l.length + 1 ≤ most) :
  ∃ v' h', (∀ gl T its loc, St.appo ⟨gl, T, its, loc, ⟨nx + 1, (nx, .cells 9 [.s x]) :: obs, nt, tips⟩⟩ 9 1 v (.hs nx 0 1 1) = some (v', ⟨gl, T, its, loc, h'⟩)) ∧ LB h' v' (l ++ [x]) := by
 have hrow : ∀ gl T its loc, St.row ⟨gl, T, its, loc, ⟨nx + 1, (nx, .cells 9 [.s x]) :: obs, nt, tips⟩⟩ 1 (.hs nx 0 1 1) = some ([.s x], 1) := by
  intro gl T its loc
  simp only [St.row, nbeq, cond_true, al, sub?, List.drop_zero, Nat.mul_one, List.take_succ_cons, List.take_nil, List.length_cons, List.length_nil, Nat.zero_add, Option.map_some]
 have ha : allOne [V.s x] = true := rfl
 rcases hb with ⟨rfl, rfl⟩ | ⟨hne, id, rfl, hid, ho⟩
 · refine ⟨.hs (nx + 1) 0 1 1, ⟨nx + 2, (nx + 1, .cells 9 [.s x]) :: (nx, .cells 9 [.s x]) :: obs, nt, tips⟩, fun gl T its loc => ?_, .inr ⟨by simp, nx + 1, rfl, ?_, ?_⟩⟩
   · unfold St.appo
     rw [hrow]
     rfl
   · exact Nat.lt_succ_self _
   · simp only [al, nbeq, cond_true]; rfl
 · simp only at hid ho
   have hl0 : 0 < l.length := List.length_pos_iff.2 hne
   refine ⟨.hs (nx + 1) 0 (l.length + 1) 1, ⟨nx + 2, (nx + 1, .cells 9 (l.map V.s ++ [.s x])) :: (((nx, .cells 9 [.s x]) :: obs).filter fun p => !Nat.beq p.1 id), nt, tips⟩, fun gl T its loc => ?_, .inr ⟨by simp, nx + 1, ?_, ?_, ?_⟩⟩
   · unfold St.appo
     rw [hrow]
     have ho' : al ((nx, Ai.Obj.cells 9 [.s x]) :: obs) id = some (.cells 9 (l.map V.s)) := by simp only [al, nbne (show nx ≠ id by omega), cond_false]; exact ho
     simp only [ho', ha, Bool.not_true, cond_false, nbne (show (1 : Nat) ≠ 0 by decide), nbeq, List.length_map, Nat.mul_one, Bool.and_true, Bool.true_and, Nat.blt, nble (show 0 + 1 ≤ l.length by omega), nble hm, cond_true, H.drop, H.new]
   · rw [List.length_append]; rfl
   · exact Nat.lt_succ_self _
   · simp only [al, nbeq, cond_true, List.map_append, List.map_cons, List.map_nil]
/-! ### The text of a filter -/
def bindF : Fil → Nat
 | .mk k _ _ kids => if k = 6 ∧ 1 < kids.length then 1 else if k = 5 ∧ 1 < kids.length then 2 else 3
mutual
def tellF : Fil → List UInt8
 | .mk k nm tx kids =>
   if k = 0 then [97, 108, 108] else if k = 1 then [107, 101, 121, 32, 94, 32] ++ quoteV tx else if k = 2 then nm ++ [32, 61, 32] ++ quoteV tx else if k = 3 then [112, 117, 116] else
   if k = 4 then [110, 111, 116, 32] ++ (tellW kids 3).headD [] else
   if 1 < kids.length then Lib.join (tellW kids (if k = 5 then 3 else 2)) (if k = 5 then [32, 97, 110, 100, 32] else [32, 111, 114, 32]) else
   (if k = 5 then [101, 97, 99, 104, 40] else [97, 110, 121, 40]) ++ Lib.join (tellL kids) [44, 32] ++ [41]
def tellW : List Fil → Nat → List (List UInt8)
 | [], _ => []
 | f :: r, b => (if bindF f < b then [40] ++ tellF f ++ [41] else tellF f) :: tellW r b
def tellL : List Fil → List (List UInt8)
 | [] => []
 | f :: r => tellF f :: tellL r
end
def withinF (f : Fil) (b : Nat) : List UInt8 := if bindF f < b then [40] ++ tellF f ++ [41] else tellF f
theorem tellW_len (b : Nat) : ∀ l : List Fil, (tellW l b).length = l.length
 | [] => by rw [tellW]; rfl
 | f :: r => by rw [tellW, List.length_cons, tellW_len b r, List.length_cons]
theorem tellW_app (b : Nat) (l m : List Fil) : tellW (l ++ m) b = tellW l b ++ tellW m b := by
 induction l with
 | nil => rw [tellW]; rfl
 | cons f r ih => rw [List.cons_append, tellW, tellW, ih]; rfl
theorem tellW_one (f : Fil) (b : Nat) : tellW [f] b = [withinF f b] := by rw [tellW, tellW]; rfl
/-! It is not too long. -/
mutual
def cnt : Fil → Nat
 | .mk _ _ _ kids => 1 + cnts kids
def cnts : List Fil → Nat
 | [] => 0
 | f :: r => cnt f + cnts r
end
mutual
theorem bld_cnt : ∀ (f : Fil) (d w : Nat), w ≤ 24 → (bld f d w).1 = 0 → w + cnt f ≤ (bld f d w).2
 | .mk k nm tx kids, d, w, hw, h => by
   rw [bld] at h ⊢
   split at h
   · cases h
   · rename_i h1
     rw [if_neg h1]
     split at h
     · cases h
     · rename_i h2
       rw [if_neg h2]
       have := blds_cnt' kids (d + 1) (w + 1) (by omega) h
       rw [cnt]; omega
theorem blds_cnt' : ∀ (l : List Fil) (d w : Nat), w ≤ 24 → (blds l d w).1 = 0 → w + cnts l ≤ (blds l d w).2
 | [], d, w, _, _ => by rw [blds, cnts]; exact Nat.le_refl _
 | f :: r, d, w, hw, h => by
   rw [blds] at h ⊢
   split at h
   · rename_i h0
     rw [if_pos h0]
     have h1 := bld_cnt f d w hw h0
     have h2 := blds_cnt' r d _ ((bld_le f d w hw).2 h0) h
     rw [cnts]; omega
   · rename_i h0; exact absurd h h0
end
def lsum (l : List (List UInt8)) (a : Nat) : Nat := match l with
 | [] => 0
 | x :: r => x.length + a + lsum r a
theorem join_le (l : List (List UInt8)) (sep : List UInt8) (a : Nat) (h : sep.length ≤ a) : (Lib.join l sep).length ≤ lsum l a := by
 cases l with
 | nil => exact Nat.zero_le _
 | cons x r =>
   have key : ∀ (r : List (List UInt8)) (x : List UInt8), (Lib.join (x :: r) sep).length ≤ lsum (x :: r) a := by
    intro r
    induction r with
    | nil => intro x; rw [Lib.join_one]; simp only [lsum]; omega
    | cons y r ih =>
      intro x
      have := ih y
      have e : Lib.join (x :: y :: r) sep = x ++ (sep ++ Lib.join (y :: r) sep) := by simp [Lib.join, List.intercalate]
      rw [e, List.length_append, List.length_append, lsum]
      omega
   exact key r x
mutual
theorem tellF_len : ∀ f : Fil, okL f → (tellF f).length + 100 ≤ 100000 * cnt f
 | .mk k nm tx kids, h => by
   rw [okL] at h
   obtain ⟨h1, h2, h3⟩ := h
   have hq := quoteV_len tx
   have hW := fun b => tellW_sum kids b h3
   have hL := tellL_sum kids h3
   rw [tellF, cnt]
   split
   · simp only [List.length_cons, List.length_nil]; omega
   · split
     · simp only [List.length_append, List.length_cons, List.length_nil]; omega
     · split
       · simp only [List.length_append, List.length_cons, List.length_nil]; omega
       · split
         · simp only [List.length_cons, List.length_nil]; omega
         · split
           · have := hW 3
             cases hk : tellW kids 3 with
             | nil => simp only [List.headD_nil, List.length_append, List.length_cons, List.length_nil]; omega
             | cons x r =>
               rw [hk, lsum] at this
               simp only [List.headD_cons, List.length_append, List.length_cons, List.length_nil]; omega
           · split
             · have hb := hW (if k = 5 then 3 else 2)
               have := join_le (tellW kids (if k = 5 then 3 else 2)) (if k = 5 then [32, 97, 110, 100, 32] else [32, 111, 114, 32]) 5 (by split <;> simp)
               omega
             · have := join_le (tellL kids) [44, 32] 5 (by simp)
               have hc : (if k = 5 then [101, 97, 99, 104, 40] else [97, 110, 121, 40] : List UInt8).length ≤ 5 := by split <;> simp
               simp only [List.length_append, List.length_cons, List.length_nil]; omega
theorem tellW_sum : ∀ (l : List Fil) (b : Nat), okLs l → lsum (tellW l b) 5 ≤ 100000 * cnts l
 | [], b, _ => by rw [tellW]; exact Nat.zero_le _
 | f :: r, b, h => by
   rw [okLs] at h
   have h1 := tellF_len f h.1
   have h2 := tellW_sum r b h.2
   rw [tellW, lsum, cnts]
   split
   · simp only [List.length_append, List.length_cons, List.length_nil]; omega
   · omega
theorem tellL_sum : ∀ (l : List Fil), okLs l → lsum (tellL l) 5 ≤ 100000 * cnts l
 | [], _ => by rw [tellL]; exact Nat.zero_le _
 | f :: r, h => by
   rw [okLs] at h
   have h1 := tellF_len f h.1
   have h2 := tellL_sum r h.2
   rw [tellL, lsum, cnts]
   omega
end
structure Fine (f : Fil) (d : Nat) : Prop where
 ok : okL f
 b : ∃ w, w ≤ 24 ∧ (bld f d w).1 = 0
theorem Fine.len {f : Fil} {d : Nat} (h : Fine f d) : (tellF f).length ≤ 2500000 := by
 obtain ⟨w, h1, h2⟩ := h.b
 have h3 := bld_cnt f d w h1 h2
 have h4 := (bld_le f d w h1).2 h2
 have := tellF_len f h.ok
 omega
theorem Fine.kid {k : Int} {nm tx : List UInt8} {kids : List Fil} {d : Nat} (h : Fine (.mk k nm tx kids) d) : ∀ (pre : List Fil) (f : Fil) (post : List Fil), kids = pre ++ f :: post → Fine f (d + 1) := by
 intro pre f post e
 obtain ⟨w, h1, h2⟩ := h.b
 have ho := h.ok
 rw [okL] at ho
 rw [bld] at h2
 split at h2
 · cases h2
 · split at h2
   · cases h2
   · exact ⟨okLs_split _ ho.2.2 pre f post e, blds_mem kids _ _ (by omega) h2 pre f post e⟩
theorem Fine.may {k : Int} {nm tx : List UInt8} {kids : List Fil} {d : Nat} (h : Fine (.mk k nm tx kids) d) : mayB k nm tx kids.length = true ∧ d ≤ 6 ∧ kids.length ≤ 24 ∧ nm.length ≤ 8192 ∧ tx.length ≤ 8192 ∧ 100000 * cnts kids ≤ 2400000 ∧ okLs kids := by
 obtain ⟨w, h1, h2⟩ := h.b
 have ho := h.ok
 rw [okL] at ho
 rw [bld] at h2
 split at h2
 · cases h2
 · split at h2
   · cases h2
   · rename_i h3 h4
     have h5 := blds_cnt kids (d + 1) (w + 1) (by omega) h2
     have h6 := (blds_le kids (d + 1) (w + 1) (by omega)).2 h2
     have h7 := blds_cnt' kids (d + 1) (w + 1) (by omega) h2
     exact ⟨by simpa using h4, by omega, by omega, ho.1, ho.2.1, by omega, ho.2.2⟩
theorem may_kind {k : Int} {nm tx : List UInt8} {n : Nat} (h : mayB k nm tx n = true) : 0 ≤ k ∧ k ≤ 6 ∧ (k = 4 → n = 1) := by
 unfold mayB at h
 split at h
 · omega
 · split at h
   · omega
   · split at h
     · omega
     · split at h
       · simp only [Bool.and_eq_true, decide_eq_true_eq] at h
         exact ⟨by omega, by omega, fun _ => h.2.2⟩
       · split at h
         · omega
         · cases h
end Go.Proofs.YtpcjhfchpelonaaGreatDoor
set_option linter.unusedSimpArgs false
set_option linter.unusedVariables false
namespace Go.Proofs.YtpcjhfchpelonaaGreatDoor
open Nat (reduceMul reduceAdd reduceSub reduceEqDiff reduceLeDiff reduceLT)
open Ai Go.Shelf
def bindV (k : Int) (n : Nat) : Nat := if k = 6 ∧ 1 < n then 1 else if k = 5 ∧ 1 < n then 2 else 3
theorem bindF_le (f : Fil) : bindF f ≤ 3 := by
 cases f with | mk k nm tx kids =>
 unfold bindF
 repeat' split
 all_goals omega
theorem U127 : type_of% (@M_open _ _ B127.eq_1) := @M_open _ _ B127.eq_1
def kz127 (_ : Nat) : List Nat := []
theorem w_binds (k : Int) (nm tx : List UInt8) (xs : List V) (n : Nat) (tk : Tk) (gl : Nat → List V) :
  M noX (kz127) (.code B127) [] (St.init gl 5 [.agg [.i .i64 k, .s nm, .s tx, .sl xs n tk]] {}) (Fin [.tmp 2] (.i .i64 (bindV k n : Nat))) := by
 rw [U127]
 by_cases h1 : 1 < n
 · have e1 : decide ((1 : Int) < (n : Int)) = true := decide_eq_true (by omega)
   by_cases k6 : k = 6
   · have d6 : decide (k = 6) = true := decide_eq_true k6
     have hM : bindV k n = 1 := by unfold bindV; rw [if_pos ⟨k6, h1⟩]
     rw [hM]
     simp only [e1, d6, Int.cast_ofNat_Int, go_sem, reduceIte, reduceMul, reduceAdd, reduceSub, reduceEqDiff, reduceLeDiff, reduceLT]
   · have d6 : decide (k = 6) = false := decide_eq_false k6
     by_cases k5 : k = 5
     · have d5 : decide (k = 5) = true := decide_eq_true k5
       have hM : bindV k n = 2 := by unfold bindV; rw [if_neg (fun h => k6 h.1), if_pos ⟨k5, h1⟩]
       rw [hM]
       simp only [e1, d5, d6, Int.cast_ofNat_Int, go_sem, reduceIte, reduceMul, reduceAdd, reduceSub, reduceEqDiff, reduceLeDiff, reduceLT]
     · have d5 : decide (k = 5) = false := decide_eq_false k5
       have hM : bindV k n = 3 := by unfold bindV; rw [if_neg (fun h => k6 h.1), if_neg (fun h => k5 h.1)]
       rw [hM]
       simp only [e1, d5, d6, Int.cast_ofNat_Int, go_sem, reduceIte, reduceMul, reduceAdd, reduceSub, reduceEqDiff, reduceLeDiff, reduceLT]
 · have e1 : decide ((1 : Int) < (n : Int)) = false := decide_eq_false (by omega)
   have hM : bindV k n = 3 := by unfold bindV; rw [if_neg (fun h => h1 h.2), if_neg (fun h => h1 h.2)]
   rw [hM]
   cases d6 : decide (k = 6) <;> cases d5 : decide (k = 5) <;> simp only [e1, d5, d6, Int.cast_ofNat_Int, go_sem, reduceIte, reduceMul, reduceAdd, reduceSub, reduceEqDiff, reduceLeDiff, reduceLT]
def F_binds (a : List V) : Option V := match a with
 | [.agg [.i .i64 k, .s nm, .s tx, .sl xs n tk]] => some (.i .i64 (bindV k n : Nat))
 | _ => none
theorem o_binds : ∀ a v, F_binds a = some v → Comp tabx told 127 a v := fun a v e => by
 unfold F_binds at e
 split at e
 · cases e; exact comp_of tells_noX (fn := af127) rfl (Nat.le_of_ble_eq_true rfl) fun gl => w_binds _ _ _ _ _ _ gl
 · cases e
def R_tell (a : List V) (v : V) : Prop := ∀ (f : Fil) (c : List V), a = [.agg c] → FilR f c → v = .s (tellF f)
def R_within (a : List V) (v : V) : Prop := ∀ (f : Fil) (c : List V) (b : Nat), a = [.agg c, .i .i64 (b : Nat)] → FilR f c → v = .s (withinF f b)
noncomputable def F_tell : List V → Option V := pickP 69 R_tell
noncomputable def F_within : List V → Option V := pickP 95 R_within
def S_tell (D : Nat) : Prop := ∀ (f : Fil) (c : List V) (d : Nat), FilR f c → Fine f d → 8 ≤ d + D → Comp tabx told 69 [.agg c] (.s (tellF f))
def S_within (D : Nat) : Prop := ∀ (f : Fil) (c : List V) (d b : Nat), FilR f c → Fine f d → 8 ≤ d + D → b ≤ 3 → Comp tabx told 95 [.agg c, .i .i64 (b : Nat)] (.s (withinF f b))
theorem call_tell {D : Nat} (S : S_tell D) {f : Fil} {c : List V} {d : Nat} (hf : FilR f c) (h1 : Fine f d) (h2 : 8 ≤ d + D) : F_tell [.agg c] = some (.s (tellF f)) := by
 obtain ⟨v, e1, r⟩ := pickP_spec (R := R_tell) (S f c d hf h1 h2) (by
  intro f' c' e1 hf'
  simp only [List.cons.injEq, V.agg.injEq, and_true] at e1
  subst e1
  rw [← FilR.uniq f f' c hf hf'])
 rw [r f c rfl hf] at e1
 exact e1
theorem call_within {D : Nat} (S : S_within D) {f : Fil} {c : List V} {d b : Nat} (hf : FilR f c) (h1 : Fine f d) (h2 : 8 ≤ d + D) (h3 : b ≤ 3) : F_within [.agg c, .i .i64 (b : Nat)] = some (.s (withinF f b)) := by
 obtain ⟨v, e1, r⟩ := pickP_spec (R := R_within) (S f c d b hf h1 h2 h3) (by
  intro f' c' b' e1 hf'
  simp only [List.cons.injEq, V.agg.injEq, V.i.injEq, true_and, and_true] at e1
  obtain ⟨e1, e2⟩ := e1
  obtain rfl : b = b' := by omega
  subst e1
  rw [← FilR.uniq f f' c hf hf'])
 rw [r f c b rfl hf] at e1
 exact e1
noncomputable def X_within := xs [(127, F_binds), (69, F_tell)]
theorem t_within : Tells tabx told X_within := tells_cons o_binds (tells_cons pickP_tells tells_nil)
theorem UH95 : type_of% (@Hp_open _ _ B95.eq_1) := @Hp_open _ _ B95.eq_1
def kz95 (_ : Nat) : List Nat := []
section
variable {D : Nat}
theorem s_within (S : S_tell D) : S_within D := by
 intro f c d b hf hfi hD hb
 have hs := FilR.strip f c hf
 have hl := hfi.len
 refine Hp.comp_of (kz := kz95) t_within tells_noY (fn := af95) rfl (Nat.le_of_ble_eq_true rfl) fun gl => ?_
 show Hp.M _ _ _ (.code B95) _ (St.init gl 4 [.agg (stripL c), .i .i64 (b : Nat)] _) (Fin [.tmp 4] _)
 rw [UH95]
 have y1 : X_within 69 [.agg (stripL c)] = some (.s (tellF f)) := call_tell S hs hfi hD
 generalize stripL c = c2 at hs y1
 have hbd : ∃ k nm tx xs n tk, c2 = [.i .i64 k, .s nm, .s tx, .sl xs n tk] ∧ bindF f = bindV k n := by
  cases hs with | mk k nm tx kids xs n tk hn hx => subst hn; exact ⟨k, nm, tx, xs, _, tk, rfl, rfl⟩
 obtain ⟨k, nm, tx, xs, n, tk, rfl, hbe⟩ := hbd
 have y2 : X_within 127 [.agg [.i .i64 k, .s nm, .s tx, .sl xs n tk]] = some (.i .i64 (bindV k n : Nat)) := rfl
 rw [← hbe] at y2
 unfold withinF
 generalize tellF f = t at *
 by_cases hlt : bindF f < b
 · have e1 : decide ((bindF f : Int) < (b : Int)) = true := decide_eq_true (by omega)
   rw [if_pos hlt]
   have g1 : 1 + t.length ≤ 4611686018427387904 := by omega
   have g2 : 1 + t.length + 1 ≤ 4611686018427387904 := by omega
   have g3 : t.length + 1 ≤ 4611686018427387904 := by omega
   have g4 : t.length + 1 + 1 ≤ 4611686018427387904 := by omega
   simp only [y1, y2, e1, g1, g2, g3, g4, List.length_append, List.length_cons, List.length_nil, Nat.zero_add, go_sem, reduceIte, reduceMul, reduceAdd, reduceSub, reduceEqDiff, reduceLeDiff, reduceLT]
 · have e1 : decide ((bindF f : Int) < (b : Int)) = false := decide_eq_false (by omega)
   rw [if_neg hlt]
   simp only [y1, y2, e1, go_sem, reduceIte, reduceMul, reduceAdd, reduceSub, reduceEqDiff, reduceLeDiff, reduceLT]
end
theorem k_bsliceT {xf : FuncId → List V → Option V} {xh : FuncId → List V → H → Option (V × H)} (gl : Nat → List V) (T : T) (its : List (Nat × (List UInt8 × Nat))) (loc : List (Nat × List V)) (nx : Nat) (obs : List (Nat × Ai.Obj)) (nt : Nat) (tips : List (Nat × (Nat × TypeId))) (d : Nat) (ty : TypeId) (z : V) (x : Opd) :
  Hp.stepK xf xh ⟨gl, T, its, loc, ⟨nx, obs, nt, tips⟩⟩ d (.bslice true ty 1 1 [z] [(0, x)]) = (match (St.ev ⟨gl, T, its, loc, ⟨nx, obs, nt, tips⟩⟩ x).cells? with
   | some [v] => some (.hs nx 0 1 1, ⟨gl, T, its, loc, ⟨nx + 1, (nx, .cells ty [v]) :: obs, nt, tips⟩⟩)
   | _ => none) := by
 have e : Hp.stepK xf xh ⟨gl, T, its, loc, ⟨nx, obs, nt, tips⟩⟩ d (.bslice true ty 1 1 [z] [(0, x)]) = (match fill (zeros [z] 1) (evB ⟨gl, T, its, loc, ⟨nx, obs, nt, tips⟩⟩ 1 [(0, x)]) with
  | some cs => some (.hs nx 0 1 1, ⟨gl, T, its, loc, ⟨nx + 1, (nx, .cells ty cs) :: obs, nt, tips⟩⟩)
  | none => none) := rfl
 rw [e]
 simp only [evB, fill]
 cases (St.ev ⟨gl, T, its, loc, ⟨nx, obs, nt, tips⟩⟩ x).cells? with
 | none => rfl
 | some vs =>
   match vs with
   | [] => rfl
   | [v] => rfl
   | a :: b :: r =>
     simp only [List.length_cons]
     rw [nbne (show r.length + 1 + 1 ≠ 1 by omega)]
     rfl
noncomputable def X_tell := xs [(94, F_Quote), (95, F_within), (69, F_tell)]
theorem t_tell : Tells tabx told X_tell := tells_cons o_Quote (tells_cons pickP_tells (tells_cons pickP_tells tells_nil))
def Y_tell := ys [(39, H_Join)]
theorem u_tell : Hp.TellsI tabx told Y_tell := itells_cons i_Join itells_nil
def K69_2 : List Fr := [.blk 3,
 .seq (Sr [Om 78 4, Om 79 6, Oq 80 (.call false 39 [(.t 79), (.k (.s [44, 32]))]), Ob 81 .add 78 80, Oq 82 (.bin .add (.t 81) (.k (.s [41]))), Om 2 82]
 .ret)]
theorem UH69_2 : type_of% (@Hp_open _ _ L69_2.eq_1) := @Hp_open _ _ L69_2.eq_1
def K69_1 : List Fr := [.blk 1,
 .seq (.seq (Sr [Om 58 6, Ow 59 58, Oz 60 .gtr 59 1]
 (.cond (.t 60)
 (Sr [Om 61 6, Om 62 3, Oc2 63 false 39 61 62, Om 2 63]
 .ret)
 .skip))
 (.seq (Sr [Of 64 3 1, Ol 65 1 64, Ow 66 65, On 67 0]
 (.blk 3 (.loop L69_2)))
 (Sr [Om 78 4, Om 79 6, Oq 80 (.call false 39 [(.t 79), (.k (.s [44, 32]))]), Ob 81 .add 78 80, Oq 82 (.bin .add (.t 81) (.k (.s [41]))), Om 2 82]
 .ret)))]
theorem UH69_1 : type_of% (@Hp_open _ _ L69_1.eq_1) := @Hp_open _ _ L69_1.eq_1
theorem UH69 : type_of% (@Hp_open _ _ B69.eq_1) := @Hp_open _ _ B69.eq_1
def kz69 (_ : Nat) : List Nat := [0, 2, 7, 8, 9, 10, 11, 12, 13, 14, 15, 16, 17, 18, 19, 20, 21, 22, 23, 24, 25, 26, 27, 28, 29, 30, 31, 32, 33, 34, 35, 36, 37, 38, 39, 40, 41, 42, 43, 47, 48, 49, 50, 51, 52, 53, 54, 55, 56, 57, 58, 59, 60, 61, 62, 63, 64, 68, 69, 70, 71, 72, 73, 74, 75, 76, 77, 78, 79, 80, 81, 82]
theorem tellW_le (l : List Fil) (b : Nat) (sep : List UInt8) (hs : sep.length ≤ 5) (h : okLs l) : (Lib.join (tellW l b) sep).length ≤ 100000 * cnts l := Nat.le_trans (join_le _ _ 5 hs) (tellW_sum l b h)
theorem Y_JoinS (sep : List UInt8) (h : H) : Y_tell 39 [.sl [] 0 .nil, .s sep] h = some (.s [], h) := H_JoinS (l := []) (tk := .nil) sep h rfl (by decide) (Nat.zero_le _)
section
variable {D : Nat}
/-! The kids' texts, in parentheses where they must be. -/
set_option maxRecDepth 100000 in
theorem w_t2 (S : S_tell D) (kids : List Fil) (ys : List V) (tk0 : Tk) (hy : KidsR kids ys) (d : Nat) (hk : ∀ (pre : List Fil) (f : Fil) (post : List Fil), kids = pre ++ f :: post → Fine f (d + 1)) (hD : 8 ≤ d + 1 + D) (li : List UInt8) (hli : li.length = 4 ∨ li.length = 5) (gl : Nat → List V)
  (l : List (List UInt8)) (hl1 : l.length = kids.length) (hk1 : kids.length ≤ 1) (v : V) (h : H) (hb : LB h v l) (loc : List (Nat × List V)) (x1 x3 x5 x44 x45 x46 : V) :
  Hp.M X_tell Y_tell (kz69) (.code L69_2) (.loop L69_2 :: K69_2) ⟨gl, (.node (.node (.node E4 (x3) (.node (.node (.node (.node .leaf (.i .i64 0) .leaf) .any E1) .any E2) .any E3)) (x1) (.node (.node (.node (.node (.node .leaf (.sl ys kids.length tk0) .leaf) .any E1) .any E2) .any E3) (x5) (.node E3 .any (.node (.node E1 (x45) E1) .any E2)))) .any (.node (.node E4 (.s li) (.node E3 .any (.node (.node E1 (x44) E1) .any E2))) .any (.node (.node (.node (.node (.node .leaf (.i .i64 (kids.length : Nat)) .leaf) .any E1) .any E2) .any E3) (v) (.node E3 .any (.node (.node E1 (x46) E1) .any E2))))), [], loc, h⟩
   (Fin [.tmp 2] (.s (li ++ Lib.join (tellL kids) [44, 32] ++ [41]))) := by
 match kids, hl1, hk1 with
 | [], hl1, _ =>
   obtain rfl : l = [] := List.eq_nil_of_length_eq_zero (by simpa using hl1)
   rcases hb with ⟨_, rfl⟩ | ⟨hne, _⟩
   · have e1 : decide ((0 : Int) < 0) = false := by decide
     have yj := Y_JoinS [44, 32] h
     have g1 : li.length ≤ 4611686018427387904 := by omega
     have g2 : li.length + 1 ≤ 4611686018427387904 := by omega
     rw [UH69_2, tellL, Lib.join_nil]
     simp only [e1, yj, g1, g2, K69_2, List.length_append, List.append_nil, Nat.add_zero, Int.cast_ofNat_Int, go_sem, reduceIte, reduceMul, reduceAdd, reduceSub, reduceEqDiff, reduceLeDiff, reduceLT]
   · exact absurd rfl hne
 | [g], hl1, _ =>
   obtain ⟨x, rfl⟩ : ∃ x, l = [x] := by
    match l, (show l.length = 1 by simpa using hl1) with
    | [x], _ => exact ⟨x, rfl⟩
   rcases hb with ⟨hne, _⟩ | ⟨_, id, rfl, hid, ho⟩
   · cases hne
   · obtain ⟨nx, obs, nt, tips⟩ := h
     simp only [List.map_cons, List.map_nil] at ho
     have hfi := hk [] g [] rfl
     obtain ⟨c, hc, ht⟩ := hy.split [] g [] rfl
     have y1 : X_tell 69 [.agg c] = some (.s (tellF g)) := call_tell S hc hfi hD
     have hlen := hfi.len
     have hyl := hy.len
     have e1 : decide ((0 : Int) < 1) = true := by decide
     have e2 : decide ((1 : Int) < 1) = false := by decide
     have w1 : wr .i64 ((0 : Int) + 1) = 1 := by decide
     rw [tellL, tellL, Lib.join_one]
     cases hc with | mk k1 nm1 tx1 kids1 xs1 n1 tk1 hn1 hx1 =>
     generalize tellF (.mk k1 nm1 tx1 kids1) = t at *
     have yj : Y_tell 39 [.hs id 0 1 1, .s [44, 32]] ⟨nx, alSet obs id (.cells 9 [.s t]), nt, tips⟩ = some (.s t, ⟨nx, alSet obs id (.cells 9 [.s t]), nt, tips⟩) := by
      have := H_JoinH (h := ⟨nx, alSet obs id (.cells 9 [.s t]), nt, tips⟩) (id := id) (n := 1) (ty := 9) (l := [t]) [44, 32] (al_alSet _ _ _) rfl (by decide) (by rw [Lib.join_one]; omega)
      rw [Lib.join_one] at this
      exact this
     have g1 : li.length + t.length ≤ 4611686018427387904 := by omega
     have g2 : li.length + t.length + 1 ≤ 4611686018427387904 := by omega
     have g3 : 4 ≤ ys.length := by simp only [List.length_cons, List.length_nil] at hyl; omega
     rw [UH69_2]
     simp only [List.length_cons, List.length_nil, Nat.zero_add, Nat.zero_mul, Nat.one_mul, List.drop_zero] at hyl ht ⊢
     simp only [e1, hyl, g3, rd_ip, ht, y1, ho, w1, splice, Int.cast_ofNat_Int, go_sem, reduceIte, reduceMul, reduceAdd, reduceSub, reduceEqDiff, reduceLeDiff, reduceLT]
     rw [Hp.M_loop]
     rw [UH69_2]
     simp only [kz69, K69_2, List.length_cons, List.length_nil, go_sem, reduceIte, reduceMul, reduceAdd, reduceSub, reduceEqDiff, reduceLeDiff, reduceLT]
     simp only [e2, yj, g1, g2, K69_2, List.length_append, List.length_cons, List.length_nil, Int.cast_ofNat_Int, go_sem, reduceIte, reduceMul, reduceAdd, reduceSub, reduceEqDiff, reduceLeDiff, reduceLT]
 | _ :: _ :: _, _, h => simp only [List.length_cons] at h; omega
end
end Go.Proofs.YtpcjhfchpelonaaGreatDoor
