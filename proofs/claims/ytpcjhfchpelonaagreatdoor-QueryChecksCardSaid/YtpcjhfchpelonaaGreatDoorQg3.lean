/- Whether a filter has few parts and few bytes: walked. -/
import Derived.Test.YtpcjhfchpelonaaGreatDoorPf2
set_option linter.unusedSimpArgs false
set_option linter.unusedVariables false
namespace Go.Proofs.YtpcjhfchpelonaaGreatDoor
open Ai
mutual
/-- Adds up parts and bytes; false: they are too many. -/
def wgh : Fil → Nat → Nat → Bool × Nat
  | .mk _ nm tx kids, d, w => if 8192 < w + (1 + min nm.length 8192 + min tx.length 8192) ∨ 50 < d ∨ 500 < kids.length then (false, w + (1 + min nm.length 8192 + min tx.length 8192)) else wghs kids (d + 1) (w + (1 + min nm.length 8192 + min tx.length 8192))
def wghs : List Fil → Nat → Nat → Bool × Nat
  | [], _, w => (true, w)
  | f :: r, d, w => if (wgh f d w).1 = true then wghs r d (wgh f d w).2 else wgh f d w
end
mutual
theorem wgh_le : ∀ (f : Fil) (d w : Nat), (wgh f d w).1 = true → w ≤ (wgh f d w).2 ∧ (wgh f d w).2 ≤ 8192
  | .mk k nm tx kids, d, w, h => by
    rw [wgh] at h ⊢
    split at h
    · cases h
    · rename_i hc
      rw [if_neg hc]
      have := wghs_le kids _ _ (by omega) h
      omega
theorem wghs_le : ∀ (l : List Fil) (d w : Nat), w ≤ 8192 → (wghs l d w).1 = true → w ≤ (wghs l d w).2 ∧ (wghs l d w).2 ≤ 8192
  | [], d, w, h, _ => by rw [wghs]; exact ⟨Nat.le_refl _, h⟩
  | f :: r, d, w, h, ht => by
    rw [wghs] at ht ⊢
    split at ht
    · rename_i h0
      rw [if_pos h0]
      have h1 := wgh_le f d w h0
      have h2 := wghs_le r d _ h1.2 ht
      omega
    · rename_i h0; exact absurd ht h0
end
/-! Texts that are not too long. -/
mutual
def okL : Fil → Prop
  | .mk _ nm tx kids => nm.length ≤ 8192 ∧ tx.length ≤ 8192 ∧ okLs kids
def okLs : List Fil → Prop
  | [] => True
  | f :: r => okL f ∧ okLs r
end
mutual
theorem wgh_ok : ∀ (f : Fil) (d w : Nat), (wgh f d w).1 = true → okL f
  | .mk k nm tx kids, d, w, h => by
    rw [wgh] at h
    split at h
    · cases h
    · rename_i hc
      rw [okL]
      exact ⟨by omega, by omega, wghs_ok kids _ _ h⟩
theorem wghs_ok : ∀ (l : List Fil) (d w : Nat), (wghs l d w).1 = true → okLs l
  | [], d, w, _ => by rw [okLs]; trivial
  | f :: r, d, w, ht => by
    rw [wghs] at ht
    rw [okLs]
    split at ht
    · rename_i h0; exact ⟨wgh_ok f d w h0, wghs_ok r d _ ht⟩
    · rename_i h0; exact absurd ht h0
end
/-! ### The walk -/
def ResW (id : Nat) (h : H) (v : V) (h' : H) (q : Bool × Nat) : Prop := v = .b q.1 ∧ Hop h h' id ∧ WB h' id q.2
def R_weigh (id : Nat) (a : List V) (h : H) (v : V) (h' : H) : Prop := ∀ (f : Fil) (c : List V) (d w : Nat), a = [.agg c, .i .i64 (d : Nat), .p id 0] → FilR f c → WB h id w → ResW id h v h' (wgh f d w)
def S_weigh (id D : Nat) : Prop := ∀ (f : Fil) (c : List V) (d w : Nat) (h : H), FilR f c → WB h id w → w ≤ 100000 → 52 ≤ d + D → d ≤ 51 →
  ∃ v h', Hp.CompI tabx told 22 [.agg c, .i .i64 (d : Nat), .p id 0] h v h' ∧ ResW id h v h' (wgh f d w)
noncomputable def Y_weigh (id : Nat) := ys [(22, pick 22 (R_weigh id))]
theorem t_weigh (id : Nat) : Hp.TellsI tabx told (Y_weigh id) := itells_cons pick_tells itells_nil
theorem call_weigh {id D : Nat} (S : S_weigh id D) {f : Fil} {c : List V} {d w : Nat} {h : H} (hf : FilR f c) (hw : WB h id w) (h1 : w ≤ 100000) (h2 : 52 ≤ d + D) (h3 : d ≤ 51) :
    ∃ h', Y_weigh id 22 [.agg c, .i .i64 (d : Nat), .p id 0] h = some (.b (wgh f d w).1, h') ∧ Hop h h' id ∧ WB h' id (wgh f d w).2 := by
  obtain ⟨v, h', hc, hr⟩ := S f c d w h hf hw h1 h2 h3
  obtain ⟨v, h', e1, r1⟩ := pick_spec (R := R_weigh id) hc (by
    intro f' c' d' w' e1 hf' hw'
    simp only [List.cons.injEq, V.i.injEq, V.agg.injEq, true_and, and_true] at e1
    obtain ⟨e1, e2⟩ := e1
    have e2 : d = d' := by omega
    subst e1 e2
    rw [← FilR.uniq f f' c hf hf', ← hw.uniq hw']
    exact hr)
  obtain ⟨rfl, q2, q3⟩ := r1 f c d w rfl hf hw
  exact ⟨h', e1, q2, q3⟩
def K22_1 : List Fr := [.blk 0,
 .seq (.seq (.reg [⟨some 6, .mov (.k (.b true)), none⟩])
 .ret)]
theorem UH22_1 : type_of% (@Hp_open _ _ L22_1.eq_1) := @Hp_open _ _ L22_1.eq_1
theorem UH22 : type_of% (@Hp_open _ _ B22.eq_1) := @Hp_open _ _ B22.eq_1
def kz22 (_ : Nat) : List Nat := [0, 3, 4, 5, 6, 7, 8, 9, 10, 11, 12, 13, 14, 15, 16, 17, 18, 19, 20, 21, 22, 23, 24, 25, 26, 27, 28, 29, 30, 31, 32, 33, 34, 35, 36, 37, 38, 42, 43, 44, 45, 46, 47, 48, 49, 50, 51]
section
variable {id D : Nat}
set_option maxRecDepth 100000 in
theorem w_wkids (S : S_weigh id D) (k : Int) (nm tx : List UInt8) (kids : List Fil) (ys : List V) (tk0 : Tk) (hy : KidsR kids ys) (hk : kids.length ≤ 500) (d : Nat) (hd : d ≤ 50) (hD : 52 ≤ d + 1 + D) (h0 : H) : ∀ (post pre : List Fil) (w : Nat) (h : H) (l8 : List (Nat × List V)), kids = pre ++ post → WB h id w → w ≤ 8192 → Hop h0 h id →
    Hp.M noX (Y_weigh id) (kz22) (.code L22_1) (.loop L22_1 :: K22_1) ⟨gl0, (.node (.node (.node (.node (.node (.node .leaf .any .leaf) .any (.node .leaf .any .leaf)) .any (.node (.node .leaf (.sl ys kids.length tk0) .leaf) .any (.node .leaf .any .leaf))) .any (.node (.node (.node .leaf .any .leaf) .any (.node .leaf .any .leaf)) .any (.node (.node .leaf .any .leaf) .any (.node .leaf .any .leaf)))) (.i .i64 (d : Nat)) (.node (.node (.node (.node .leaf .any .leaf) .any (.node .leaf .any .leaf)) .any (.node (.node .leaf (.i .i64 (pre.length : Nat)) .leaf) .any (.node .leaf .any .leaf))) .any (.node (.node (.node .leaf .any .leaf) .any (.node .leaf .any .leaf)) .any (.node (.node .leaf .any .leaf) .any (.node .leaf .any .leaf))))) .any (.node (.node (.node (.node (.node .leaf .any .leaf) .any (.node .leaf .any .leaf)) .any (.node (.node .leaf (.i .i64 (kids.length : Nat)) .leaf) .any (.node .leaf .any .leaf))) .any (.node (.node (.node .leaf .any .leaf) .any (.node .leaf .any .leaf)) .any (.node (.node .leaf .any .leaf) .any (.node .leaf .any .leaf)))) (.p id 0) (.node (.node (.node (.node .leaf .any .leaf) .any (.node .leaf .any .leaf)) .any (.node (.node .leaf .any .leaf) .any (.node .leaf .any .leaf))) .any (.node (.node (.node .leaf .any .leaf) .any (.node .leaf .any .leaf)) .any (.node (.node .leaf .any .leaf) .any (.node .leaf .any .leaf)))))), [], (3, [.i .i64 k, .s nm, .s tx, .sl ys kids.length tk0]) :: l8, h⟩
      (fun ex st => ∃ v h', Hp.FinI [.tmp 6] v h' ex st ∧ ResW id h0 v h' (wghs post (d + 1) w)) := by
  intro post
  induction post with
  | nil =>
    intro pre w h l8 hk1 hw hw2 hop
    have hl : kids.length = pre.length := by rw [hk1]; simp
    have e1 : decide ((pre.length : Int) < (kids.length : Int)) = false := decide_eq_false (by omega)
    rw [UH22_1, wghs]
    simp only [e1, K22_1, go_sem, ne_eq, not_false_eq_true, reduceIte, Nat.reduceMul, Nat.reduceAdd, Nat.reduceSub, Nat.reduceEqDiff, Nat.reduceLeDiff, Nat.reduceLT, List.take_succ_cons, List.take_zero, List.drop_succ_cons, List.cons_append]
    exact ⟨_, _, ⟨rfl, rfl⟩, rfl, hop, hw⟩
  | cons f post ih =>
    intro pre w h l8 hk1 hw hw2 hop
    have hl : kids.length = pre.length + post.length + 1 := by rw [hk1]; simp; omega
    have e1 : decide ((pre.length : Int) < (kids.length : Int)) = true := decide_eq_true (by omega)
    have g1 : pre.length < kids.length := by omega
    have hyl := hy.len
    have g2 : (pre.length + 1) * 4 ≤ kids.length * 4 := by omega
    obtain ⟨c, hc, ht⟩ := hy.split pre f post hk1
    obtain ⟨h', y4, q2, q3⟩ := call_weigh S hc hw (by omega) hD (by omega)
    have hle := wgh_le f (d + 1) w
    have w1 : wr .i64 ((d : Int) + 1) = ((d + 1 : Nat) : Int) := by rw [wr64] <;> omega
    have w2 : wr .i64 ((pre.length : Int) + 1) = ((pre.length + 1 : Nat) : Int) := by rw [wr64] <;> omega
    rw [UH22_1, wghs]
    cases hc with | mk k1 nm1 tx1 kids1 xs1 n1 tk1 hn1 hx1 =>
    generalize hq : wgh (.mk k1 nm1 tx1 kids1) (d + 1) w = q at *
    obtain ⟨er, w'⟩ := q
    simp only at q3 y4 hle
    cases er with
    | true =>
      rw [if_pos rfl]
      have := fun l8 => ih (pre ++ [.mk k1 nm1 tx1 kids1]) w' h' l8 (by rw [hk1]; simp) q3 (hle rfl).2 (hop.trans q2)
      simp only [e1, g1, hyl, g2, rd_ip, ht, w1, y4, w2, splice, Int.cast_ofNat_Int, go_sem, ne_eq, not_false_eq_true, reduceIte, Nat.reduceMul, Nat.reduceAdd, Nat.reduceSub, Nat.reduceEqDiff, Nat.reduceLeDiff, Nat.reduceLT, List.take_succ_cons, List.take_zero, List.drop_succ_cons, List.cons_append]
      rw [Hp.M_loop]
      simp only [kz22, K22_1, List.length_append, List.length_cons, List.length_nil, Nat.zero_add, go_sem, ne_eq, not_false_eq_true, reduceIte, Nat.reduceMul, Nat.reduceAdd, Nat.reduceSub, Nat.reduceEqDiff, Nat.reduceLeDiff, Nat.reduceLT, List.take_succ_cons, List.take_zero, List.drop_succ_cons, List.cons_append] at this ⊢
      exact this _
    | false =>
      rw [if_neg (by simp)]
      simp only [e1, g1, hyl, g2, rd_ip, ht, w1, y4, w2, splice, K22_1, Int.cast_ofNat_Int, go_sem, ne_eq, not_false_eq_true, reduceIte, Nat.reduceMul, Nat.reduceAdd, Nat.reduceSub, Nat.reduceEqDiff, Nat.reduceLeDiff, Nat.reduceLT, List.take_succ_cons, List.take_zero, List.drop_succ_cons, List.cons_append]
      exact ⟨_, _, ⟨rfl, rfl⟩, rfl, hop.trans q2, q3⟩
set_option maxRecDepth 100000 in
theorem s_weigh (S : S_weigh id D) : S_weigh id (D + 1) := by
  intro f c d w h hf hw hw2 hD hd
  cases hf with | mk k nm tx kids xs n tk hn hx =>
  subst hn
  obtain ⟨nx, obs, nt, tips⟩ := h
  refine compI_ex (xf := noX) (kz := kz22) (fn := af22) tells_noX (t_weigh id) rfl (Nat.le_of_ble_eq_true rfl) ?_
  show Hp.M _ _ _ (.code B22) _ (St.init gl0 6 _ _) (fun ex st => ∃ v h', Hp.FinI [.tmp 6] v h' ex st ∧ _)
  rw [UH22]
  have hw' : al obs id = some (Ai.Obj.cells 3 [.i .i64 (w : Nat)]) := hw
  have m1 : (if (8192 : Int) < (nm.length : Int) then (8192 : Int) else (nm.length : Int)) = ((min nm.length 8192 : Nat) : Int) := by split <;> omega
  have m2 : (if (8192 : Int) < (tx.length : Int) then (8192 : Int) else (tx.length : Int)) = ((min tx.length 8192 : Nat) : Int) := by split <;> omega
  rw [wgh]
  have ha : min nm.length 8192 ≤ 8192 := Nat.min_le_right _ _
  have hb : min tx.length 8192 ≤ 8192 := Nat.min_le_right _ _
  generalize min nm.length 8192 = a at *
  generalize min tx.length 8192 = b at *
  have w1 : wr .i64 (1 + (a : Int)) = ((1 + a : Nat) : Int) := by rw [wr64] <;> omega
  have w2 : wr .i64 (((1 + a : Nat) : Int) + (b : Int)) = ((1 + a + b : Nat) : Int) := by rw [wr64] <;> omega
  have w3 : wr .i64 ((w : Int) + ((1 + a + b : Nat) : Int)) = ((w + (1 + a + b) : Nat) : Int) := by rw [wr64] <;> omega
  generalize hz : w + (1 + a + b) = z at *
  have hS := Hop.setW ⟨nx, obs, nt, tips⟩ id z
  have hW := WB.set ⟨nx, obs, nt, tips⟩ id z
  by_cases c1 : 8192 < z
  · have e1 : decide ((8192 : Int) < (z : Int)) = true := decide_eq_true (by omega)
    rw [if_pos (.inl c1)]
    simp only [hw', m1, m2, w1, w2, w3, e1, splice, go_sem, ne_eq, not_false_eq_true, reduceIte, Nat.reduceMul, Nat.reduceAdd, Nat.reduceSub, Nat.reduceEqDiff, Nat.reduceLeDiff, Nat.reduceLT, List.take_succ_cons, List.take_zero, List.drop_succ_cons, List.cons_append]
    exact ⟨_, _, ⟨rfl, rfl⟩, rfl, hS, hW⟩
  · have e1 : decide ((8192 : Int) < (z : Int)) = false := decide_eq_false (by omega)
    by_cases c2 : 50 < d
    · have e2 : decide ((50 : Int) < (d : Int)) = true := decide_eq_true (by omega)
      rw [if_pos (.inr (.inl c2))]
      simp only [hw', m1, m2, w1, w2, w3, e1, e2, splice, go_sem, ne_eq, not_false_eq_true, reduceIte, Nat.reduceMul, Nat.reduceAdd, Nat.reduceSub, Nat.reduceEqDiff, Nat.reduceLeDiff, Nat.reduceLT, List.take_succ_cons, List.take_zero, List.drop_succ_cons, List.cons_append]
      exact ⟨_, _, ⟨rfl, rfl⟩, rfl, hS, hW⟩
    · have e2 : decide ((50 : Int) < (d : Int)) = false := decide_eq_false (by omega)
      by_cases c3 : 500 < kids.length
      · have e3 : decide ((500 : Int) < (kids.length : Int)) = true := decide_eq_true (by omega)
        rw [if_pos (.inr (.inr c3))]
        simp only [hw', m1, m2, w1, w2, w3, e1, e2, e3, splice, go_sem, ne_eq, not_false_eq_true, reduceIte, Nat.reduceMul, Nat.reduceAdd, Nat.reduceSub, Nat.reduceEqDiff, Nat.reduceLeDiff, Nat.reduceLT, List.take_succ_cons, List.take_zero, List.drop_succ_cons, List.cons_append]
        exact ⟨_, _, ⟨rfl, rfl⟩, rfl, hS, hW⟩
      · have e3 : decide ((500 : Int) < (kids.length : Int)) = false := decide_eq_false (by omega)
        rw [if_neg (by omega)]
        have := w_wkids S k nm tx kids xs tk hx (by omega) d (by omega) (by omega) ⟨nx, obs, nt, tips⟩ kids [] z (setW ⟨nx, obs, nt, tips⟩ id z) [] rfl hW (by omega) hS
        simp only [hw', m1, m2, w1, w2, w3, e1, e2, e3, splice, go_sem, ne_eq, not_false_eq_true, reduceIte, Nat.reduceMul, Nat.reduceAdd, Nat.reduceSub, Nat.reduceEqDiff, Nat.reduceLeDiff, Nat.reduceLT, List.take_succ_cons, List.take_zero, List.drop_succ_cons, List.cons_append]
        rw [Hp.M_loop]
        simp only [setW, kz22, K22_1, List.length_cons, List.length_nil, Int.cast_ofNat_Int, go_sem, ne_eq, not_false_eq_true, reduceIte, Nat.reduceMul, Nat.reduceAdd, Nat.reduceSub, Nat.reduceEqDiff, Nat.reduceLeDiff, Nat.reduceLT, List.take_succ_cons, List.take_zero, List.drop_succ_cons, List.cons_append] at this ⊢
        exact this
theorem s_weigh_all (id : Nat) : ∀ D, S_weigh id D
  | 0 => fun _ _ _ _ _ _ _ _ h1 h2 => by omega
  | D + 1 => s_weigh (s_weigh_all id D)
end
end Go.Proofs.YtpcjhfchpelonaaGreatDoor
set_option linter.unusedSimpArgs false
set_option linter.unusedVariables false
namespace Go.Proofs.YtpcjhfchpelonaaGreatDoor
open Ai
/-! ### May -/
def X_may := xs [(113, F_rKey), (114, F_rValue), (50, F_rName)]
theorem t_may : Tells tabx told X_may := tells_cons o_rKey (tells_cons o_rValue (tells_cons o_rName tells_nil))
theorem U84 : type_of% (@M_open _ _ B84.eq_1) := @M_open _ _ B84.eq_1
def kz84 (_ : Nat) : List Nat := []
set_option maxRecDepth 100000 in
set_option maxHeartbeats 1000000 in
theorem w_may (k : Int) (nm tx : List UInt8) (xs : List V) (n : Nat) (tk : Tk) (h1 : nm.length ≤ 8192) (h2 : tx.length ≤ 8192) (gl : Nat → List V) :
    M X_may (kz84) (.code B84) [] (St.init gl 7 [.agg [.i .i64 k, .s nm, .s tx, .sl xs n tk]] {}) (Fin [.tmp 2] (.b (mayB k nm tx n))) := by
  rw [U84]
  have eL : decide ((n : Int) = 0) = decide (n = 0) := decide_eq_decide.2 (by omega)
  have eO : decide ((n : Int) = 1) = decide (n = 1) := decide_eq_decide.2 (by omega)
  have eN := strEq_dec nm []
  have eT := strEq_dec tx []
  have xk : X_may 113 [.s tx] = some (.i .i64 (errV (keyB tx) 20)) := F_rKey1 tx (by omega)
  have xv : X_may 114 [.s tx] = some (.i .i64 (errV (valB tx) 21)) := F_rValue1 tx (by omega)
  have xn : X_may 50 [.s nm] = some (.i .i64 (errV (namB nm) 22)) := by
    have := F_rName1 nm (by omega)
    rw [← name_eq] at this
    exact this
  have ek : decide (errV (keyB tx) 20 = 0) = keyB tx := errB (keyB tx) 20 (by decide)
  have ev : decide (errV (valB tx) 21 = 0) = valB tx := errB (valB tx) 21 (by decide)
  have en : decide (errV (namB nm) 22 = 0) = namB nm := errB (namB nm) 22 (by decide)
  by_cases k0 : k = 0
  · have hM : mayB k nm tx n = (decide (n = 0) && (decide (nm = []) && decide (tx = []))) := by unfold mayB; rw [if_pos (by omega)]
    have d0 : decide (k = 0) = true := decide_eq_true (by omega)
    rw [hM]
    cases hL : decide (n = 0) <;> cases hN : decide (nm = []) <;> cases hT : decide (tx = []) <;> rw [hL] at eL <;> rw [hN] at eN <;> rw [hT] at eT <;> simp only [eL, eN, eT, d0, go_sem, ne_eq, not_false_eq_true, reduceIte, Nat.reduceMul, Nat.reduceAdd, Nat.reduceSub, Nat.reduceEqDiff, Nat.reduceLeDiff, Nat.reduceLT, List.take_succ_cons, List.take_zero, List.drop_succ_cons, List.cons_append]
  · by_cases k3 : k = 3
    · have hM : mayB k nm tx n = (decide (n = 0) && (decide (nm = []) && decide (tx = []))) := by unfold mayB; rw [if_pos (by omega)]
      have d0 : decide (k = 0) = false := decide_eq_false (by omega)
      have d3 : decide (k = 3) = true := decide_eq_true (by omega)
      rw [hM]
      cases hL : decide (n = 0) <;> cases hN : decide (nm = []) <;> cases hT : decide (tx = []) <;> rw [hL] at eL <;> rw [hN] at eN <;> rw [hT] at eT <;> simp only [eL, eN, eT, d0, d3, go_sem, ne_eq, not_false_eq_true, reduceIte, Nat.reduceMul, Nat.reduceAdd, Nat.reduceSub, Nat.reduceEqDiff, Nat.reduceLeDiff, Nat.reduceLT, List.take_succ_cons, List.take_zero, List.drop_succ_cons, List.cons_append]
    · have d0 : decide (k = 0) = false := decide_eq_false (by omega)
      have d3 : decide (k = 3) = false := decide_eq_false (by omega)
      by_cases k1 : k = 1
      · have hM : mayB k nm tx n = (decide (n = 0) && (decide (nm = []) && keyB tx)) := by unfold mayB; rw [if_neg (by omega), if_pos k1]
        have d1 : decide (k = 1) = true := decide_eq_true (by omega)
        rw [hM]
        cases hL : decide (n = 0) <;> cases hN : decide (nm = []) <;> cases hT : decide (tx = []) <;> cases hK : keyB tx <;> rw [hL] at eL <;> rw [hN] at eN <;> rw [hT] at eT <;> rw [hK] at ek xk <;> simp only [eL, eN, eT, d0, d1, d3, xk, ek, go_sem, ne_eq, not_false_eq_true, reduceIte, Nat.reduceMul, Nat.reduceAdd, Nat.reduceSub, Nat.reduceEqDiff, Nat.reduceLeDiff, Nat.reduceLT, List.take_succ_cons, List.take_zero, List.drop_succ_cons, List.cons_append]
      · have d1 : decide (k = 1) = false := decide_eq_false (by omega)
        by_cases k2 : k = 2
        · have hM : mayB k nm tx n = (decide (n = 0) && (namB nm && valB tx)) := by unfold mayB; rw [if_neg (by omega), if_neg k1, if_pos k2]
          have d2 : decide (k = 2) = true := decide_eq_true (by omega)
          rw [hM]
          cases hL : decide (n = 0) <;> cases hN : decide (nm = []) <;> cases hT : decide (tx = []) <;> cases hK : namB nm <;> cases hV : valB tx <;> rw [hL] at eL <;> rw [hN] at eN <;> rw [hT] at eT <;> rw [hK] at en xn <;> rw [hV] at ev xv <;> simp only [eL, eN, eT, d0, d1, d2, d3, xn, xv, en, ev, go_sem, ne_eq, not_false_eq_true, reduceIte, Nat.reduceMul, Nat.reduceAdd, Nat.reduceSub, Nat.reduceEqDiff, Nat.reduceLeDiff, Nat.reduceLT, List.take_succ_cons, List.take_zero, List.drop_succ_cons, List.cons_append]
        · have d2 : decide (k = 2) = false := decide_eq_false (by omega)
          by_cases k4 : k = 4
          · have hM : mayB k nm tx n = (decide (nm = []) && (decide (tx = []) && decide (n = 1))) := by unfold mayB; rw [if_neg (by omega), if_neg k1, if_neg k2, if_pos k4]
            have d4 : decide (k = 4) = true := decide_eq_true (by omega)
            rw [hM]
            cases hO : decide (n = 1) <;> cases hN : decide (nm = []) <;> cases hT : decide (tx = []) <;> rw [hO] at eO <;> rw [hN] at eN <;> rw [hT] at eT <;> simp only [eO, eN, eT, d0, d1, d2, d3, d4, go_sem, ne_eq, not_false_eq_true, reduceIte, Nat.reduceMul, Nat.reduceAdd, Nat.reduceSub, Nat.reduceEqDiff, Nat.reduceLeDiff, Nat.reduceLT, List.take_succ_cons, List.take_zero, List.drop_succ_cons, List.cons_append]
          · have d4 : decide (k = 4) = false := decide_eq_false (by omega)
            by_cases k5 : k = 5
            · have hM : mayB k nm tx n = (decide (nm = []) && decide (tx = [])) := by unfold mayB; rw [if_neg (by omega), if_neg k1, if_neg k2, if_neg k4, if_pos (by omega)]
              have d5 : decide (k = 5) = true := decide_eq_true (by omega)
              rw [hM]
              cases hN : decide (nm = []) <;> cases hT : decide (tx = []) <;> rw [hN] at eN <;> rw [hT] at eT <;> simp only [eN, eT, d0, d1, d2, d3, d4, d5, go_sem, ne_eq, not_false_eq_true, reduceIte, Nat.reduceMul, Nat.reduceAdd, Nat.reduceSub, Nat.reduceEqDiff, Nat.reduceLeDiff, Nat.reduceLT, List.take_succ_cons, List.take_zero, List.drop_succ_cons, List.cons_append]
            · have d5 : decide (k = 5) = false := decide_eq_false (by omega)
              by_cases k6 : k = 6
              · have hM : mayB k nm tx n = (decide (nm = []) && decide (tx = [])) := by unfold mayB; rw [if_neg (by omega), if_neg k1, if_neg k2, if_neg k4, if_pos (by omega)]
                have d6 : decide (k = 6) = true := decide_eq_true (by omega)
                rw [hM]
                cases hN : decide (nm = []) <;> cases hT : decide (tx = []) <;> rw [hN] at eN <;> rw [hT] at eT <;> simp only [eN, eT, d0, d1, d2, d3, d4, d5, d6, go_sem, ne_eq, not_false_eq_true, reduceIte, Nat.reduceMul, Nat.reduceAdd, Nat.reduceSub, Nat.reduceEqDiff, Nat.reduceLeDiff, Nat.reduceLT, List.take_succ_cons, List.take_zero, List.drop_succ_cons, List.cons_append]
              · have hM : mayB k nm tx n = false := by unfold mayB; rw [if_neg (by omega), if_neg k1, if_neg k2, if_neg k4, if_neg (by omega)]
                have d6 : decide (k = 6) = false := decide_eq_false (by omega)
                rw [hM]
                cases hN : decide (nm = []) <;> cases hT : decide (tx = []) <;> rw [hN] at eN <;> rw [hT] at eT <;> simp only [eN, eT, d0, d1, d2, d3, d4, d5, d6, go_sem, ne_eq, not_false_eq_true, reduceIte, Nat.reduceMul, Nat.reduceAdd, Nat.reduceSub, Nat.reduceEqDiff, Nat.reduceLeDiff, Nat.reduceLT, List.take_succ_cons, List.take_zero, List.drop_succ_cons, List.cons_append]
def F_may (a : List V) : Option V := match a with
  | [.agg [.i .i64 k, .s nm, .s tx, .sl xs n tk]] => if nm.length ≤ 8192 ∧ tx.length ≤ 8192 then some (.b (mayB k nm tx n)) else none
  | _ => none
theorem F_may1 (k : Int) (nm tx : List UInt8) (xs : List V) (n : Nat) (tk : Tk) (h : nm.length ≤ 8192 ∧ tx.length ≤ 8192) : F_may [.agg [.i .i64 k, .s nm, .s tx, .sl xs n tk]] = some (.b (mayB k nm tx n)) := if_pos h
theorem o_may : ∀ a v, F_may a = some v → Comp tabx told 84 a v := fun a v e => by
  unfold F_may at e
  split at e
  · split at e
    · rename_i h; cases e; exact comp_of t_may (fn := af84) rfl (Nat.le_of_ble_eq_true rfl) fun gl => w_may _ _ _ _ _ _ h.1 h.2 gl
    · cases e
  · cases e
/-! ### walk -/
theorem okLs_split : ∀ (l : List Fil), okLs l → ∀ (pre : List Fil) (f : Fil) (post : List Fil), l = pre ++ f :: post → okL f
  | [], _, pre, f, post, e => by cases pre <;> cases e
  | g :: r, h, pre, f, post, e => by
    rw [okLs] at h
    cases pre with
    | nil => cases e; exact h.1
    | cons p pre => cases e; exact okLs_split _ h.2 pre f post rfl
def ResC (v : V) (q : Nat × Nat) : Prop := ∃ m : Nat, v = .tup [.i .i64 (m : Nat), .i .i64 (q.1 : Nat)] ∧ (q.1 = 0 → m = q.2)
def R_walk (a : List V) (v : V) : Prop := ∀ (f : Fil) (c : List V) (u w : Nat), a = [.agg c, .i .i64 (u : Nat), .i .i64 (w : Nat)] → FilR f c → ResC v (bld f (u + 1) w)
def S_walk (D : Nat) : Prop := ∀ (f : Fil) (c : List V) (u w : Nat), FilR f c → okL f → w ≤ 24 → 7 ≤ u + D → u ≤ 6 → ∃ v, Comp tabx told 49 [.agg c, .i .i64 (u : Nat), .i .i64 (w : Nat)] v ∧ ResC v (bld f (u + 1) w)
noncomputable def X_walk := xs [(84, F_may), (49, pickP 49 R_walk)]
theorem t_walk : Tells tabx told X_walk := tells_cons o_may (tells_cons pickP_tells tells_nil)
theorem call_walk {D : Nat} (S : S_walk D) {f : Fil} {c : List V} {u w : Nat} (hf : FilR f c) (hk : okL f) (h1 : w ≤ 24) (h2 : 7 ≤ u + D) (h3 : u ≤ 6) :
    ∃ m : Nat, X_walk 49 [.agg c, .i .i64 (u : Nat), .i .i64 (w : Nat)] = some (.tup [.i .i64 (m : Nat), .i .i64 ((bld f (u + 1) w).1 : Nat)]) ∧ ((bld f (u + 1) w).1 = 0 → m = (bld f (u + 1) w).2) := by
  obtain ⟨v, hc, hr⟩ := S f c u w hf hk h1 h2 h3
  obtain ⟨v, e1, r1⟩ := pickP_spec (R := R_walk) hc (by
    intro f' c' u' w' e1 hf'
    simp only [List.cons.injEq, V.i.injEq, V.agg.injEq, true_and, and_true] at e1
    obtain ⟨e1, e2, e3⟩ := e1
    have e2 : u = u' := by omega
    have e3 : w = w' := by omega
    subst e1 e2 e3
    rw [← FilR.uniq f f' c hf hf']
    exact hr)
  obtain ⟨m, rfl, q⟩ := r1 f c u w rfl hf
  exact ⟨m, e1, q⟩
def K49_1 : List Fr := [.blk 0,
 .seq (.seq (.reg [⟨some 46, .mov (.t 2), none⟩, ⟨some 6, .mov (.t 46), none⟩, ⟨some 7, .mov (.k (.i .i64 0)), none⟩])
 .ret)]
theorem UH49_1 : type_of% (@Hp_open _ _ L49_1.eq_1) := @Hp_open _ _ L49_1.eq_1
theorem UH49 : type_of% (@Hp_open _ _ B49.eq_1) := @Hp_open _ _ B49.eq_1
def kz49 (_ : Nat) : List Nat := [0, 3, 4, 5, 6, 7, 8, 9, 10, 11, 12, 13, 14, 15, 16, 17, 18, 19, 20, 21, 22, 23, 24, 25, 29, 30, 31, 32, 33, 34, 35, 36, 37, 38, 39, 40, 41, 42, 43, 44, 45, 46]
section
variable {D : Nat}
set_option maxRecDepth 100000 in
theorem w_ckids (S : S_walk D) (k : Int) (nm tx : List UInt8) (kids : List Fil) (ys : List V) (tk0 : Tk) (hy : KidsR kids ys) (hok : okLs kids) (u : Nat) (hu : u ≤ 5) (hD : 7 ≤ u + 1 + D) : ∀ (post pre : List Fil) (w : Nat) (l9 : List (Nat × List V)), kids = pre ++ post → w ≤ 24 → pre.length ≤ w →
    Hp.M X_walk noY (kz49) (.code L49_1) (.loop L49_1 :: K49_1) ⟨gl0, (.node (.node (.node (.node (.node (.node .leaf .any .leaf) .any (.node .leaf .any .leaf)) .any (.node (.node .leaf .any .leaf) .any (.node .leaf .any .leaf))) .any (.node (.node (.node .leaf .any .leaf) .any (.node .leaf .any .leaf)) .any (.node (.node .leaf .any .leaf) (.i .i64 (kids.length : Nat)) (.node .leaf .any .leaf)))) (.i .i64 (u : Nat)) (.node (.node (.node (.node .leaf .any .leaf) .any (.node .leaf .any .leaf)) .any (.node (.node .leaf .any .leaf) .any (.node .leaf .any .leaf))) .any (.node (.node (.node .leaf .any .leaf) .any (.node .leaf .any .leaf)) .any (.node (.node .leaf .any .leaf) .any (.node .leaf .any .leaf))))) .any (.node (.node (.node (.node (.node .leaf .any .leaf) .any (.node .leaf .any .leaf)) .any (.node (.node .leaf .any .leaf) .any (.node .leaf .any .leaf))) .any (.node (.node (.node .leaf .any .leaf) .any (.node .leaf .any .leaf)) .any (.node (.node .leaf .any .leaf) (.i .i64 (pre.length : Nat)) (.node .leaf .any .leaf)))) (.i .i64 (w : Nat)) (.node (.node (.node (.node .leaf .any .leaf) .any (.node .leaf .any .leaf)) .any (.node (.node .leaf .any .leaf) (.sl ys kids.length tk0) (.node .leaf .any .leaf))) .any (.node (.node (.node .leaf .any .leaf) .any (.node .leaf .any .leaf)) .any (.node (.node .leaf .any .leaf) .any (.node .leaf .any .leaf)))))), [], (3, [.i .i64 k, .s nm, .s tx, .sl ys kids.length tk0]) :: l9, {}⟩
      (fun ex st => ∃ v, Fin [.tmp 6, .tmp 7] v ex st ∧ ResC v (blds post (u + 2) w)) := by
  intro post
  induction post with
  | nil =>
    intro pre w l9 hk1 hw hpw
    have hl : kids.length = pre.length := by rw [hk1]; simp
    have e1 : decide ((pre.length : Int) < (kids.length : Int)) = false := decide_eq_false (by omega)
    rw [UH49_1, blds]
    simp only [e1, K49_1, go_sem, ne_eq, not_false_eq_true, reduceIte, Nat.reduceMul, Nat.reduceAdd, Nat.reduceSub, Nat.reduceEqDiff, Nat.reduceLeDiff, Nat.reduceLT, List.take_succ_cons, List.take_zero, List.drop_succ_cons, List.cons_append]
    exact ⟨_, rfl, w, rfl, fun _ => rfl⟩
  | cons f post ih =>
    intro pre w l9 hk1 hw hpw
    have hl : kids.length = pre.length + post.length + 1 := by rw [hk1]; simp; omega
    have e1 : decide ((pre.length : Int) < (kids.length : Int)) = true := decide_eq_true (by omega)
    have g1 : pre.length < kids.length := by omega
    have hyl := hy.len
    have g2 : (pre.length + 1) * 4 ≤ kids.length * 4 := by omega
    obtain ⟨c, hc, ht⟩ := hy.split pre f post hk1
    obtain ⟨m, y4, q2⟩ := call_walk S (u := u + 1) hc (okLs_split _ hok pre f post hk1) hw (by omega) (by omega)
    have hle := bld_le f (u + 2) w hw
    have hgt := bld_gt f (u + 2) w hw
    have w1 : wr .i64 ((u : Int) + 1) = ((u + 1 : Nat) : Int) := by rw [wr64] <;> omega
    have w2 : wr .i64 ((pre.length : Int) + 1) = ((pre.length + 1 : Nat) : Int) := by rw [wr64] <;> omega
    rw [UH49_1, blds]
    cases hc with | mk k1 nm1 tx1 kids1 xs1 n1 tk1 hn1 hx1 =>
    change X_walk _ _ = some (.tup [_, .i .i64 ((bld _ (u + 2) w).1 : Nat)]) at y4
    change (bld _ (u + 2) w).1 = 0 → m = (bld _ (u + 2) w).2 at q2
    generalize hq : bld (.mk k1 nm1 tx1 kids1) (u + 2) w = q at *
    obtain ⟨er, w'⟩ := q
    simp only at q2 y4 hle hgt
    by_cases he : er = 0
    · subst he
      rw [if_pos rfl]
      obtain rfl := q2 rfl
      have := fun l9 => ih (pre ++ [.mk k1 nm1 tx1 kids1]) m l9 (by rw [hk1]; simp) (hle.2 rfl) (by simp; omega)
      have f0 : decide (((0 : Nat) : Int) = 0) = true := by decide
      simp only [e1, g1, hyl, g2, rd_ip, ht, w1, y4, w2, f0, splice, Int.cast_ofNat_Int, go_sem, ne_eq, not_false_eq_true, reduceIte, Nat.reduceMul, Nat.reduceAdd, Nat.reduceSub, Nat.reduceEqDiff, Nat.reduceLeDiff, Nat.reduceLT, List.take_succ_cons, List.take_zero, List.drop_succ_cons, List.cons_append]
      rw [Hp.M_loop]
      simp only [kz49, K49_1, List.length_append, List.length_cons, List.length_nil, Nat.zero_add, go_sem, ne_eq, not_false_eq_true, reduceIte, Nat.reduceMul, Nat.reduceAdd, Nat.reduceSub, Nat.reduceEqDiff, Nat.reduceLeDiff, Nat.reduceLT, List.take_succ_cons, List.take_zero, List.drop_succ_cons, List.cons_append] at this ⊢
      exact this _
    · rw [if_neg he]
      have f1 : decide ((er : Int) = 0) = false := decide_eq_false (by omega)
      simp only [e1, g1, hyl, g2, rd_ip, ht, w1, y4, w2, f1, splice, K49_1, Int.cast_ofNat_Int, go_sem, ne_eq, not_false_eq_true, reduceIte, Nat.reduceMul, Nat.reduceAdd, Nat.reduceSub, Nat.reduceEqDiff, Nat.reduceLeDiff, Nat.reduceLT, List.take_succ_cons, List.take_zero, List.drop_succ_cons, List.cons_append]
      exact ⟨_, rfl, m, rfl, fun h => absurd h he⟩
set_option maxRecDepth 100000 in
theorem s_walk (S : S_walk D) : S_walk (D + 1) := by
  intro f c u w hf hok hw hD hu
  have hs := FilR.strip f c hf
  refine comp_ex (xf := X_walk) (xh := noY) (kz := kz49) (fn := af49) t_walk tells_noY rfl (Nat.le_of_ble_eq_true rfl) ?_
  show Hp.M _ _ _ (.code B49) _ (St.init gl0 6 [.agg (stripL c), .i .i64 (u : Nat), .i .i64 (w : Nat)] _) (fun ex st => ∃ v, Fin [.tmp 6, .tmp 7] v ex st ∧ _)
  rw [UH49]
  generalize stripL c = c2 at hs
  clear hf c
  cases hs with | mk k nm tx kids xs n tk hn hx =>
  subst hn
  rw [okL] at hok
  obtain ⟨o1, o2, o3⟩ := hok
  have xm : X_walk 84 [.agg [.i .i64 k, .s nm, .s tx, .sl xs kids.length tk]] = some (.b (mayB k nm tx kids.length)) := F_may1 k nm tx xs kids.length tk ⟨o1, o2⟩
  have w1 : wr .i64 ((w : Int) + 1) = ((w + 1 : Nat) : Int) := by rw [wr64] <;> omega
  rw [bld]
  by_cases c1 : 6 ≤ u
  · have e1 : decide ((6 : Int) ≤ (u : Int)) = true := decide_eq_true (by omega)
    rw [if_pos (.inl (by omega))]
    simp only [e1, go_sem, ne_eq, not_false_eq_true, reduceIte, Nat.reduceMul, Nat.reduceAdd, Nat.reduceSub, Nat.reduceEqDiff, Nat.reduceLeDiff, Nat.reduceLT, List.take_succ_cons, List.take_zero, List.drop_succ_cons, List.cons_append]
    exact ⟨_, rfl, w, rfl, fun h => by cases h⟩
  · have e1 : decide ((6 : Int) ≤ (u : Int)) = false := decide_eq_false (by omega)
    by_cases c2 : 24 ≤ w
    · have e2 : decide ((24 : Int) ≤ (w : Int)) = true := decide_eq_true (by omega)
      rw [if_pos (.inr (by omega))]
      simp only [e1, e2, go_sem, ne_eq, not_false_eq_true, reduceIte, Nat.reduceMul, Nat.reduceAdd, Nat.reduceSub, Nat.reduceEqDiff, Nat.reduceLeDiff, Nat.reduceLT, List.take_succ_cons, List.take_zero, List.drop_succ_cons, List.cons_append]
      exact ⟨_, rfl, w, rfl, fun h => by cases h⟩
    · have e2 : decide ((24 : Int) ≤ (w : Int)) = false := decide_eq_false (by omega)
      rw [if_neg (by omega)]
      cases hM : mayB k nm tx kids.length with
      | false =>
        rw [hM] at xm
        rw [if_pos rfl]
        simp only [e1, e2, xm, go_sem, ne_eq, not_false_eq_true, reduceIte, Nat.reduceMul, Nat.reduceAdd, Nat.reduceSub, Nat.reduceEqDiff, Nat.reduceLeDiff, Nat.reduceLT, List.take_succ_cons, List.take_zero, List.drop_succ_cons, List.cons_append]
        exact ⟨_, rfl, w, rfl, fun h => by cases h⟩
      | true =>
        rw [hM] at xm
        rw [if_neg (by decide)]
        have := w_ckids S k nm tx kids xs tk hx o3 u (by omega) (by omega) kids [] (w + 1) [] rfl (by omega) (Nat.zero_le _)
        simp only [e1, e2, xm, w1, go_sem, ne_eq, not_false_eq_true, reduceIte, Nat.reduceMul, Nat.reduceAdd, Nat.reduceSub, Nat.reduceEqDiff, Nat.reduceLeDiff, Nat.reduceLT, List.take_succ_cons, List.take_zero, List.drop_succ_cons, List.cons_append]
        rw [Hp.M_loop]
        simp only [kz49, K49_1, List.length_cons, List.length_nil, Int.cast_ofNat_Int, go_sem, ne_eq, not_false_eq_true, reduceIte, Nat.reduceMul, Nat.reduceAdd, Nat.reduceSub, Nat.reduceEqDiff, Nat.reduceLeDiff, Nat.reduceLT, List.take_succ_cons, List.take_zero, List.drop_succ_cons, List.cons_append] at this ⊢
        exact this
theorem s_walk_all : ∀ D, S_walk D
  | 0 => fun _ _ _ _ _ _ _ h1 h2 => by omega
  | D + 1 => s_walk (s_walk_all D)
end
/-! ### Check -/
def R_rcheck (a : List V) (v : V) : Prop := ∀ (f : Fil) (c : List V), a = [.agg c] → FilR f c → v = .i .i64 (chk f : Nat)
noncomputable def F_rcheck : List V → Option V := pickP 26 R_rcheck
theorem o_rcheck : ∀ a v, F_rcheck a = some v → Comp tabx told 26 a v := pickP_tells
theorem UH26 : type_of% (@Hp_open _ _ B26.eq_1) := @Hp_open _ _ B26.eq_1
def kz26 (_ : Nat) : List Nat := []
theorem rcheck_eq (f : Fil) (c : List V) (hf : FilR f c) (hok : okL f) : F_rcheck [.agg c] = some (.i .i64 (chk f : Nat)) := by
  have hc : ∃ v, Comp tabx told 26 [.agg c] v ∧ v = .i .i64 (chk f : Nat) := by
    have hs := FilR.strip f c hf
    obtain ⟨m, y4, q2⟩ := call_walk (s_walk_all 7) (u := 0) (w := 0) hs hok (by decide) (by decide) (by decide)
    refine comp_ex (xf := X_walk) (xh := noY) (kz := kz26) (fn := af26) t_walk tells_noY rfl (Nat.le_of_ble_eq_true rfl) ?_
    show Hp.M _ _ _ (.code B26) _ (St.init gl0 4 [.agg (stripL c)] _) (fun ex st => ∃ v, Fin [.tmp 2] v ex st ∧ _)
    rw [UH26]
    change X_walk _ _ = some (.tup [_, .i .i64 (chk f : Nat)]) at y4
    generalize chk f = e at *
    generalize stripL c = c2 at hs y4 ⊢
    cases hs with | mk k nm tx kids xs n tk hn hx =>
    simp only [Int.cast_ofNat_Int] at y4
    simp only [y4, Int.cast_ofNat_Int, go_sem, ne_eq, not_false_eq_true, reduceIte, Nat.reduceMul, Nat.reduceAdd, Nat.reduceSub, Nat.reduceEqDiff, Nat.reduceLeDiff, Nat.reduceLT, List.take_succ_cons, List.take_zero, List.drop_succ_cons, List.cons_append]
    exact ⟨_, rfl, rfl⟩
  obtain ⟨v, hc, rfl⟩ := hc
  obtain ⟨v, e1, r⟩ := pickP_spec (R := R_rcheck) hc (by
    intro f' c' e1 hf'
    simp only [List.cons.injEq, V.agg.injEq, and_true] at e1
    subst e1
    rw [← FilR.uniq f f' c hf hf'])
  rw [r f c rfl hf] at e1
  exact e1
end Go.Proofs.YtpcjhfchpelonaaGreatDoor
set_option linter.unusedSimpArgs false
set_option linter.unusedVariables false
namespace Go.Proofs.YtpcjhfchpelonaaGreatDoor
open Ai
/-- A question's cells. -/
def qC (k : Int) (of_ : List UInt8) (c : List V) (by_ : List UInt8) (dn : Bool) (sk fi : Int) : List V := .i .i64 k :: .s of_ :: (c ++ [.s by_, .b dn, .i .i64 sk, .i .i64 fi])
/-! ### light -/
theorem UH7 : type_of% (@Hp_open _ _ B7.eq_1) := @Hp_open _ _ B7.eq_1
def kz7 (_ : Nat) : List Nat := []
def R_light (a : List V) (v : V) : Prop := ∀ (k : Int) (of_ : List UInt8) (f : Fil) (c : List V) (by_ : List UInt8) (dn : Bool) (sk fi : Int), a = [.agg (qC k of_ c by_ dn sk fi)] → FilR f c → v = .b (wgh f 0 (min of_.length 8192 + min by_.length 8192)).1
noncomputable def F_light : List V → Option V := pickP 7 R_light
theorem o_light : ∀ a v, F_light a = some v → Comp tabx told 7 a v := pickP_tells
theorem qC_inj {k k' : Int} {of_ of' : List UInt8} {f f' : Fil} {c c' : List V} {by_ by' : List UInt8} {dn dn' : Bool} {sk sk' fi fi' : Int} (hf : FilR f c) (hf' : FilR f' c') (h : qC k of_ c by_ dn sk fi = qC k' of' c' by' dn' sk' fi') :
    k = k' ∧ of_ = of' ∧ f = f' ∧ c = c' ∧ by_ = by' ∧ dn = dn' ∧ sk = sk' ∧ fi = fi' := by
  unfold qC at h
  simp only [List.cons.injEq, V.i.injEq, V.s.injEq, true_and] at h
  obtain ⟨h1, h2, h3⟩ := h
  have := List.append_inj h3 (by rw [hf.len, hf'.len])
  obtain ⟨h4, h5⟩ := this
  simp only [List.cons.injEq, V.i.injEq, V.s.injEq, V.b.injEq, true_and, and_true] at h5
  subst h4
  exact ⟨h1, h2, FilR.uniq f f' c hf hf', rfl, h5.1, h5.2.1, h5.2.2.1, h5.2.2.2⟩
theorem qC_strip (k : Int) (of_ : List UInt8) (c : List V) (by_ : List UInt8) (dn : Bool) (sk fi : Int) : stripL [.agg (qC k of_ c by_ dn sk fi)] = [.agg (qC k of_ (stripL c) by_ dn sk fi)] := by
  unfold qC
  simp only [stripL, V.strip, stripL_app]
set_option maxRecDepth 100000 in
theorem light_eq (k : Int) (of_ : List UInt8) (f : Fil) (c : List V) (by_ : List UInt8) (dn : Bool) (sk fi : Int) (hf : FilR f c) : F_light [.agg (qC k of_ c by_ dn sk fi)] = some (.b (wgh f 0 (min of_.length 8192 + min by_.length 8192)).1) := by
  have ha : min of_.length 8192 ≤ 8192 := Nat.min_le_right _ _
  have hb : min by_.length 8192 ≤ 8192 := Nat.min_le_right _ _
  have hc : Comp tabx told 7 [.agg (qC k of_ c by_ dn sk fi)] (.b (wgh f 0 (min of_.length 8192 + min by_.length 8192)).1) := by
    have hs := FilR.strip f c hf
    obtain ⟨v, hv, rfl⟩ := comp_ex (Q := fun v => v = .b (wgh f 0 (min of_.length 8192 + min by_.length 8192)).1) (xf := noX) (xh := Y_weigh 0) (kz := kz7) (g := 7) (args := [.agg (qC k of_ c by_ dn sk fi)]) (fn := af7) tells_noX (t_weigh 0) rfl (Nat.le_of_ble_eq_true rfl) (by
      obtain ⟨h', y4, q2, q3⟩ := call_weigh (s_weigh_all 0 52) (d := 0) (w := min of_.length 8192 + min by_.length 8192) (h := ⟨1, [(0, .cells 3 [.i .i64 ((min of_.length 8192 + min by_.length 8192 : Nat) : Int)])], 0, []⟩) hs rfl (by omega) (by decide) (by decide)
      rw [qC_strip]
      show Hp.M _ _ _ (.code B7) _ (St.init gl0 5 [.agg (qC k of_ (stripL c) by_ dn sk fi)] _) (fun ex st => ∃ v, Fin [.tmp 2] v ex st ∧ _)
      rw [UH7]
      generalize stripL c = c2 at hs y4 ⊢
      have m1 : (if (8192 : Int) < (of_.length : Int) then (8192 : Int) else (of_.length : Int)) = ((min of_.length 8192 : Nat) : Int) := by split <;> omega
      have m2 : (if (8192 : Int) < (by_.length : Int) then (8192 : Int) else (by_.length : Int)) = ((min by_.length 8192 : Nat) : Int) := by split <;> omega
      generalize min of_.length 8192 = a at *
      generalize min by_.length 8192 = b at *
      have w1 : wr .i64 ((a : Int) + (b : Int)) = ((a + b : Nat) : Int) := by rw [wr64] <;> omega
      cases hs with | mk k1 nm tx kids xs n tk hn hx =>
      simp only [Int.cast_ofNat_Int] at y4
      simp only [qC, m1, m2, w1, y4, splice, Int.cast_ofNat_Int, go_sem, ne_eq, not_false_eq_true, reduceIte, Nat.reduceMul, Nat.reduceAdd, Nat.reduceSub, Nat.reduceEqDiff, Nat.reduceLeDiff, Nat.reduceLT, List.take_succ_cons, List.take_zero, List.drop_succ_cons, List.cons_append]
      exact ⟨_, rfl, rfl⟩)
    exact hv
  obtain ⟨v, e1, r⟩ := pickP_spec (R := R_light) hc (by
    intro k' of' f' c' by' dn' sk' fi' e1 hf'
    simp only [List.cons.injEq, V.agg.injEq, and_true] at e1
    obtain ⟨rfl, rfl, rfl, rfl, rfl, rfl, rfl, rfl⟩ := qC_inj hf hf' e1
    rfl)
  rw [r k of_ f c by_ dn sk fi rfl hf] at e1
  exact e1
/-! ### Names -/
def nmQ (l : List UInt8) : Bool := decide (l = []) || namB l
def X_nm := xs [(25, F_Name)]
theorem t_nm : Tells tabx told X_nm := tells_cons o_Name tells_nil
theorem U24 : type_of% (@M_open _ _ B24.eq_1) := @M_open _ _ B24.eq_1
def kz24 (_ : Nat) : List Nat := []
theorem w_nm (l : List UInt8) (gl : Nat → List V) : M X_nm (kz24) (.code B24) [] (St.init gl 4 [.s l] {}) (Fin [.tmp 2] (.b (nmQ l))) := by
  rw [U24]
  have eE := strEq_dec l []
  have xn : X_nm 25 [.s l] = some (.i .i64 (errV (namB l) 22)) := rfl
  have en : decide (errV (namB l) 22 = 0) = namB l := errB (namB l) 22 (by decide)
  unfold nmQ
  cases hl : decide (l = []) <;> rw [hl] at eE <;> simp only [eE, xn, en, go_sem, ne_eq, not_false_eq_true, reduceIte, Nat.reduceMul, Nat.reduceAdd, Nat.reduceSub, Nat.reduceEqDiff, Nat.reduceLeDiff, Nat.reduceLT, List.take_succ_cons, List.take_zero, List.drop_succ_cons, List.cons_append]
def F_nm (a : List V) : Option V := match a with
  | [.s l] => some (.b (nmQ l))
  | _ => none
theorem o_nm : ∀ a v, F_nm a = some v → Comp tabx told 24 a v := fun a v e => by
  unfold F_nm at e
  split at e
  · cases e; exact comp_of t_nm (fn := af24) rfl (Nat.le_of_ble_eq_true rfl) fun gl => w_nm _ gl
  · cases e
def X_rnm := xs [(50, F_rName)]
theorem t_rnm : Tells tabx told X_rnm := tells_cons o_rName tells_nil
theorem U27 : type_of% (@M_open _ _ B27.eq_1) := @M_open _ _ B27.eq_1
def kz27 (_ : Nat) : List Nat := []
theorem w_rnm (l : List UInt8) (h : l.length ≤ 16384) (gl : Nat → List V) : M X_rnm (kz27) (.code B27) [] (St.init gl 4 [.s l] {}) (Fin [.tmp 2] (.b (nmQ l))) := by
  rw [U27]
  have eE := strEq_dec l []
  have xn : X_rnm 50 [.s l] = some (.i .i64 (errV (namB l) 22)) := by
    have := F_rName1 l h
    rw [← name_eq] at this
    exact this
  have en : decide (errV (namB l) 22 = 0) = namB l := errB (namB l) 22 (by decide)
  unfold nmQ
  cases hl : decide (l = []) <;> rw [hl] at eE <;> simp only [eE, xn, en, go_sem, ne_eq, not_false_eq_true, reduceIte, Nat.reduceMul, Nat.reduceAdd, Nat.reduceSub, Nat.reduceEqDiff, Nat.reduceLeDiff, Nat.reduceLT, List.take_succ_cons, List.take_zero, List.drop_succ_cons, List.cons_append]
def F_rnm (a : List V) : Option V := match a with
  | [.s l] => if l.length ≤ 16384 then some (.b (nmQ l)) else none
  | _ => none
theorem o_rnm : ∀ a v, F_rnm a = some v → Comp tabx told 27 a v := fun a v e => by
  unfold F_rnm at e
  split at e
  · split at e
    · rename_i h; cases e; exact comp_of t_rnm (fn := af27) rfl (Nat.le_of_ble_eq_true rfl) fun gl => w_rnm _ h gl
    · cases e
  · cases e
/-! ### Check -/
/-- May a question be, but for its filter? -/
def qok (b1 b2 dn o4 s1 s2 f1 f2 k0 k4 k2 oo : Bool) : Int := bif b1 && (b2 && (!(dn && o4) && (!s1 && (!s2 && (!f1 && (!f2 && (!k0 && (!k4 && (k2 == !oo))))))))) then 0 else 230
def qcode (k : Int) (of_ : List UInt8) (by_ : List UInt8) (dn : Bool) (sk fi : Int) : Int :=
  qok (nmQ by_) (nmQ of_) dn (decide (by_ = [])) (decide (sk < 0)) (decide (1099511627776 < sk)) (decide (fi < 0)) (decide (1099511627776 < fi)) (decide (k < 0)) (decide (4 < k)) (decide (2 ≤ k)) (decide (of_ = []))
def qchk (k : Int) (of_ : List UInt8) (f : Fil) (by_ : List UInt8) (dn : Bool) (sk fi : Int) : Int := if chk f = 0 then qcode k of_ by_ dn sk fi else (chk f : Nat)
noncomputable def X_qc := xs [(23, F_check), (24, F_nm)]
theorem t_qc : Tells tabx told X_qc := tells_cons o_check (tells_cons o_nm tells_nil)
theorem U8 : type_of% (@M_open _ _ B8.eq_1) := @M_open _ _ B8.eq_1
def kz8 (_ : Nat) : List Nat := []
set_option maxRecDepth 100000 in
set_option maxHeartbeats 4000000 in
theorem w_qc (k : Int) (of_ : List UInt8) (f : Fil) (c : List V) (by_ : List UInt8) (dn : Bool) (sk fi : Int) (hf : FilR f c) (gl : Nat → List V) :
    M X_qc (kz8) (.code B8) [] (St.init gl 7 [.agg (qC k of_ c by_ dn sk fi)] {}) (Fin [.tmp 2] (.i .i64 (qchk k of_ f by_ dn sk fi))) := by
  rw [U8]
  have y1 : X_qc 23 [.agg c] = some (.i .i64 (chk f : Nat)) := check_eq f c hf
  have y2 : X_qc 24 [.s by_] = some (.b (nmQ by_)) := rfl
  have y3 : X_qc 24 [.s of_] = some (.b (nmQ of_)) := rfl
  have eB := strEq_dec by_ []
  have eO := strEq_dec of_ []
  have ek : decide (k < 2) = !decide (2 ≤ k) := by
    by_cases h : 2 ≤ k
    · rw [decide_eq_true h, decide_eq_false (by omega)]; rfl
    · rw [decide_eq_false h, decide_eq_true (by omega)]; rfl
  unfold qchk qcode
  cases hf with | mk k1 nm tx kids xs n tk hn hx =>
  generalize chk (.mk k1 nm tx kids) = e at *
  by_cases he : e = 0
  · subst he
    rw [if_pos rfl]
    have f0 : decide (((0 : Nat) : Int) = 0) = true := by decide
    cases hb1 : nmQ by_ with
    | false => rw [hb1] at y2; simp only [qC, y1, f0, qok, y2, List.append_nil, go_sem, ne_eq, not_false_eq_true, reduceIte, Nat.reduceMul, Nat.reduceAdd, Nat.reduceSub, Nat.reduceEqDiff, Nat.reduceLeDiff, Nat.reduceLT, List.take_succ_cons, List.take_zero, List.drop_succ_cons, List.cons_append]
    | true =>
    rw [hb1] at y2
    cases hb2 : nmQ of_ with
    | false => rw [hb2] at y3; simp only [qC, y1, f0, qok, y2, y3, List.append_nil, go_sem, ne_eq, not_false_eq_true, reduceIte, Nat.reduceMul, Nat.reduceAdd, Nat.reduceSub, Nat.reduceEqDiff, Nat.reduceLeDiff, Nat.reduceLT, List.take_succ_cons, List.take_zero, List.drop_succ_cons, List.cons_append]
    | true =>
    rw [hb2] at y3
    cases dn
    · skip
      cases hs1 : decide (sk < 0) with
      | true => simp only [qC, y1, f0, qok, y2, y3, hs1, List.append_nil, go_sem, ne_eq, not_false_eq_true, reduceIte, Nat.reduceMul, Nat.reduceAdd, Nat.reduceSub, Nat.reduceEqDiff, Nat.reduceLeDiff, Nat.reduceLT, List.take_succ_cons, List.take_zero, List.drop_succ_cons, List.cons_append]
      | false =>
      cases hs2 : decide (1099511627776 < sk) with
      | true => simp only [qC, y1, f0, qok, y2, y3, hs1, hs2, List.append_nil, go_sem, ne_eq, not_false_eq_true, reduceIte, Nat.reduceMul, Nat.reduceAdd, Nat.reduceSub, Nat.reduceEqDiff, Nat.reduceLeDiff, Nat.reduceLT, List.take_succ_cons, List.take_zero, List.drop_succ_cons, List.cons_append]
      | false =>
      cases hf1 : decide (fi < 0) with
      | true => simp only [qC, y1, f0, qok, y2, y3, hs1, hs2, hf1, List.append_nil, go_sem, ne_eq, not_false_eq_true, reduceIte, Nat.reduceMul, Nat.reduceAdd, Nat.reduceSub, Nat.reduceEqDiff, Nat.reduceLeDiff, Nat.reduceLT, List.take_succ_cons, List.take_zero, List.drop_succ_cons, List.cons_append]
      | false =>
      cases hf2 : decide (1099511627776 < fi) with
      | true => simp only [qC, y1, f0, qok, y2, y3, hs1, hs2, hf1, hf2, List.append_nil, go_sem, ne_eq, not_false_eq_true, reduceIte, Nat.reduceMul, Nat.reduceAdd, Nat.reduceSub, Nat.reduceEqDiff, Nat.reduceLeDiff, Nat.reduceLT, List.take_succ_cons, List.take_zero, List.drop_succ_cons, List.cons_append]
      | false =>
      cases hk0 : decide (k < 0) with
      | true => simp only [qC, y1, f0, qok, y2, y3, hs1, hs2, hf1, hf2, hk0, List.append_nil, go_sem, ne_eq, not_false_eq_true, reduceIte, Nat.reduceMul, Nat.reduceAdd, Nat.reduceSub, Nat.reduceEqDiff, Nat.reduceLeDiff, Nat.reduceLT, List.take_succ_cons, List.take_zero, List.drop_succ_cons, List.cons_append]
      | false =>
      cases hk4 : decide (4 < k) with
      | true => simp only [qC, y1, f0, qok, y2, y3, hs1, hs2, hf1, hf2, hk0, hk4, List.append_nil, go_sem, ne_eq, not_false_eq_true, reduceIte, Nat.reduceMul, Nat.reduceAdd, Nat.reduceSub, Nat.reduceEqDiff, Nat.reduceLeDiff, Nat.reduceLT, List.take_succ_cons, List.take_zero, List.drop_succ_cons, List.cons_append]
      | false =>
      cases hk2 : decide (2 ≤ k) <;> cases hO : decide (of_ = []) <;> rw [hO] at eO <;> rw [hk2] at ek <;> simp only [qC, y1, f0, qok, y2, y3, hs1, hs2, hf1, hf2, hk0, hk4, hk2, ek, eO, List.append_nil, go_sem, ne_eq, not_false_eq_true, reduceIte, Nat.reduceMul, Nat.reduceAdd, Nat.reduceSub, Nat.reduceEqDiff, Nat.reduceLeDiff, Nat.reduceLT, List.take_succ_cons, List.take_zero, List.drop_succ_cons, List.cons_append]
    · skip
      cases hB : decide (by_ = []) with
      | true => rw [hB] at eB; simp only [qC, y1, f0, qok, y2, y3, eB, List.append_nil, go_sem, ne_eq, not_false_eq_true, reduceIte, Nat.reduceMul, Nat.reduceAdd, Nat.reduceSub, Nat.reduceEqDiff, Nat.reduceLeDiff, Nat.reduceLT, List.take_succ_cons, List.take_zero, List.drop_succ_cons, List.cons_append]
      | false =>
      rw [hB] at eB
      cases hs1 : decide (sk < 0) with
      | true => simp only [qC, y1, f0, qok, y2, y3, eB, hs1, List.append_nil, go_sem, ne_eq, not_false_eq_true, reduceIte, Nat.reduceMul, Nat.reduceAdd, Nat.reduceSub, Nat.reduceEqDiff, Nat.reduceLeDiff, Nat.reduceLT, List.take_succ_cons, List.take_zero, List.drop_succ_cons, List.cons_append]
      | false =>
      cases hs2 : decide (1099511627776 < sk) with
      | true => simp only [qC, y1, f0, qok, y2, y3, eB, hs1, hs2, List.append_nil, go_sem, ne_eq, not_false_eq_true, reduceIte, Nat.reduceMul, Nat.reduceAdd, Nat.reduceSub, Nat.reduceEqDiff, Nat.reduceLeDiff, Nat.reduceLT, List.take_succ_cons, List.take_zero, List.drop_succ_cons, List.cons_append]
      | false =>
      cases hf1 : decide (fi < 0) with
      | true => simp only [qC, y1, f0, qok, y2, y3, eB, hs1, hs2, hf1, List.append_nil, go_sem, ne_eq, not_false_eq_true, reduceIte, Nat.reduceMul, Nat.reduceAdd, Nat.reduceSub, Nat.reduceEqDiff, Nat.reduceLeDiff, Nat.reduceLT, List.take_succ_cons, List.take_zero, List.drop_succ_cons, List.cons_append]
      | false =>
      cases hf2 : decide (1099511627776 < fi) with
      | true => simp only [qC, y1, f0, qok, y2, y3, eB, hs1, hs2, hf1, hf2, List.append_nil, go_sem, ne_eq, not_false_eq_true, reduceIte, Nat.reduceMul, Nat.reduceAdd, Nat.reduceSub, Nat.reduceEqDiff, Nat.reduceLeDiff, Nat.reduceLT, List.take_succ_cons, List.take_zero, List.drop_succ_cons, List.cons_append]
      | false =>
      cases hk0 : decide (k < 0) with
      | true => simp only [qC, y1, f0, qok, y2, y3, eB, hs1, hs2, hf1, hf2, hk0, List.append_nil, go_sem, ne_eq, not_false_eq_true, reduceIte, Nat.reduceMul, Nat.reduceAdd, Nat.reduceSub, Nat.reduceEqDiff, Nat.reduceLeDiff, Nat.reduceLT, List.take_succ_cons, List.take_zero, List.drop_succ_cons, List.cons_append]
      | false =>
      cases hk4 : decide (4 < k) with
      | true => simp only [qC, y1, f0, qok, y2, y3, eB, hs1, hs2, hf1, hf2, hk0, hk4, List.append_nil, go_sem, ne_eq, not_false_eq_true, reduceIte, Nat.reduceMul, Nat.reduceAdd, Nat.reduceSub, Nat.reduceEqDiff, Nat.reduceLeDiff, Nat.reduceLT, List.take_succ_cons, List.take_zero, List.drop_succ_cons, List.cons_append]
      | false =>
      cases hk2 : decide (2 ≤ k) <;> cases hO : decide (of_ = []) <;> rw [hO] at eO <;> rw [hk2] at ek <;> simp only [qC, y1, f0, qok, y2, y3, eB, hs1, hs2, hf1, hf2, hk0, hk4, hk2, ek, eO, List.append_nil, go_sem, ne_eq, not_false_eq_true, reduceIte, Nat.reduceMul, Nat.reduceAdd, Nat.reduceSub, Nat.reduceEqDiff, Nat.reduceLeDiff, Nat.reduceLT, List.take_succ_cons, List.take_zero, List.drop_succ_cons, List.cons_append]
  · rw [if_neg he]
    have f1 : decide ((e : Int) = 0) = false := decide_eq_false (by omega)
    simp only [qC, y1, f1, go_sem, ne_eq, not_false_eq_true, reduceIte, Nat.reduceMul, Nat.reduceAdd, Nat.reduceSub, Nat.reduceEqDiff, Nat.reduceLeDiff, Nat.reduceLT, List.take_succ_cons, List.take_zero, List.drop_succ_cons, List.cons_append]
noncomputable def X_rqc := xs [(26, F_rcheck), (27, F_rnm)]
theorem t_rqc : Tells tabx told X_rqc := tells_cons o_rcheck (tells_cons o_rnm tells_nil)
theorem U9 : type_of% (@M_open _ _ B9.eq_1) := @M_open _ _ B9.eq_1
def kz9 (_ : Nat) : List Nat := []
set_option maxRecDepth 100000 in
set_option maxHeartbeats 4000000 in
theorem w_rqc (k : Int) (of_ : List UInt8) (f : Fil) (c : List V) (by_ : List UInt8) (dn : Bool) (sk fi : Int) (hf : FilR f c) (hok : okL f) (ho : of_.length ≤ 16384) (hbl : by_.length ≤ 16384) (gl : Nat → List V) :
    M X_rqc (kz9) (.code B9) [] (St.init gl 7 [.agg (qC k of_ c by_ dn sk fi)] {}) (Fin [.tmp 2] (.i .i64 (qchk k of_ f by_ dn sk fi))) := by
  rw [U9]
  have y1 : X_rqc 26 [.agg c] = some (.i .i64 (chk f : Nat)) := rcheck_eq f c hf hok
  have y2 : X_rqc 27 [.s by_] = some (.b (nmQ by_)) := if_pos hbl
  have y3 : X_rqc 27 [.s of_] = some (.b (nmQ of_)) := if_pos ho
  have eB := strEq_dec by_ []
  have eO := strEq_dec of_ []
  have ek : decide (1 < k) = decide (2 ≤ k) := decide_eq_decide.2 (by omega)
  have e0 : decide (0 ≤ k) = !decide (k < 0) := by
    by_cases h : k < 0
    · rw [decide_eq_true h, decide_eq_false (by omega)]; rfl
    · rw [decide_eq_false h, decide_eq_true (by omega)]; rfl
  have e4 : decide (k ≤ 4) = !decide (4 < k) := by
    by_cases h : 4 < k
    · rw [decide_eq_true h, decide_eq_false (by omega)]; rfl
    · rw [decide_eq_false h, decide_eq_true (by omega)]; rfl
  unfold qchk qcode
  cases hf with | mk k1 nm tx kids xs n tk hn hx =>
  generalize chk (.mk k1 nm tx kids) = e at *
  by_cases he : e = 0
  · subst he
    rw [if_pos rfl]
    have f0 : decide (((0 : Nat) : Int) = 0) = true := by decide
    cases hk0 : decide (k < 0) with
    | true => rw [hk0] at e0; simp only [qC, y1, f0, qok, e0, hk0, List.append_nil, go_sem, ne_eq, not_false_eq_true, reduceIte, Nat.reduceMul, Nat.reduceAdd, Nat.reduceSub, Nat.reduceEqDiff, Nat.reduceLeDiff, Nat.reduceLT, List.take_succ_cons, List.take_zero, List.drop_succ_cons, List.cons_append]
    | false =>
    rw [hk0] at e0
    cases hk4 : decide (4 < k) with
    | true => rw [hk4] at e4; simp only [qC, y1, f0, qok, e0, e4, hk0, hk4, List.append_nil, go_sem, ne_eq, not_false_eq_true, reduceIte, Nat.reduceMul, Nat.reduceAdd, Nat.reduceSub, Nat.reduceEqDiff, Nat.reduceLeDiff, Nat.reduceLT, List.take_succ_cons, List.take_zero, List.drop_succ_cons, List.cons_append]
    | false =>
    rw [hk4] at e4
    cases hb2 : nmQ of_ with
    | false => rw [hb2] at y3; simp only [qC, y1, f0, qok, e0, e4, hk0, hk4, y3, List.append_nil, go_sem, ne_eq, not_false_eq_true, reduceIte, Nat.reduceMul, Nat.reduceAdd, Nat.reduceSub, Nat.reduceEqDiff, Nat.reduceLeDiff, Nat.reduceLT, List.take_succ_cons, List.take_zero, List.drop_succ_cons, List.cons_append]
    | true =>
    rw [hb2] at y3
    cases hb1 : nmQ by_ with
    | false => rw [hb1] at y2; simp only [qC, y1, f0, qok, e0, e4, hk0, hk4, y2, y3, List.append_nil, go_sem, ne_eq, not_false_eq_true, reduceIte, Nat.reduceMul, Nat.reduceAdd, Nat.reduceSub, Nat.reduceEqDiff, Nat.reduceLeDiff, Nat.reduceLT, List.take_succ_cons, List.take_zero, List.drop_succ_cons, List.cons_append]
    | true =>
    rw [hb1] at y2
    cases hk2 : decide (2 ≤ k) <;> cases hO : decide (of_ = []) <;> rw [hO] at eO <;> rw [hk2] at ek
    · simp only [qC, y1, f0, qok, e0, e4, hk0, hk4, y2, y3, hk2, ek, eO, List.append_nil, go_sem, ne_eq, not_false_eq_true, reduceIte, Nat.reduceMul, Nat.reduceAdd, Nat.reduceSub, Nat.reduceEqDiff, Nat.reduceLeDiff, Nat.reduceLT, List.take_succ_cons, List.take_zero, List.drop_succ_cons, List.cons_append]
    · cases hB : decide (by_ = [])
      · rw [hB] at eB
        cases hs1 : decide (sk < 0) with
        | true => simp only [qC, y1, f0, qok, e0, e4, hk0, hk4, y2, y3, hk2, ek, eO, eB, hs1, List.append_nil, go_sem, ne_eq, not_false_eq_true, reduceIte, Nat.reduceMul, Nat.reduceAdd, Nat.reduceSub, Nat.reduceEqDiff, Nat.reduceLeDiff, Nat.reduceLT, List.take_succ_cons, List.take_zero, List.drop_succ_cons, List.cons_append]
        | false =>
        cases hs2 : decide (1099511627776 < sk) with
        | true => simp only [qC, y1, f0, qok, e0, e4, hk0, hk4, y2, y3, hk2, ek, eO, eB, hs1, hs2, List.append_nil, go_sem, ne_eq, not_false_eq_true, reduceIte, Nat.reduceMul, Nat.reduceAdd, Nat.reduceSub, Nat.reduceEqDiff, Nat.reduceLeDiff, Nat.reduceLT, List.take_succ_cons, List.take_zero, List.drop_succ_cons, List.cons_append]
        | false =>
        cases hf1 : decide (fi < 0) with
        | true => simp only [qC, y1, f0, qok, e0, e4, hk0, hk4, y2, y3, hk2, ek, eO, eB, hs1, hs2, hf1, List.append_nil, go_sem, ne_eq, not_false_eq_true, reduceIte, Nat.reduceMul, Nat.reduceAdd, Nat.reduceSub, Nat.reduceEqDiff, Nat.reduceLeDiff, Nat.reduceLT, List.take_succ_cons, List.take_zero, List.drop_succ_cons, List.cons_append]
        | false =>
        cases hf2 : decide (1099511627776 < fi) with
        | true => simp only [qC, y1, f0, qok, e0, e4, hk0, hk4, y2, y3, hk2, ek, eO, eB, hs1, hs2, hf1, hf2, List.append_nil, go_sem, ne_eq, not_false_eq_true, reduceIte, Nat.reduceMul, Nat.reduceAdd, Nat.reduceSub, Nat.reduceEqDiff, Nat.reduceLeDiff, Nat.reduceLT, List.take_succ_cons, List.take_zero, List.drop_succ_cons, List.cons_append]
        | false =>
        simp only [qC, y1, f0, qok, e0, e4, hk0, hk4, y2, y3, hk2, ek, eO, eB, hs1, hs2, hf1, hf2, List.append_nil, go_sem, ne_eq, not_false_eq_true, reduceIte, Nat.reduceMul, Nat.reduceAdd, Nat.reduceSub, Nat.reduceEqDiff, Nat.reduceLeDiff, Nat.reduceLT, List.take_succ_cons, List.take_zero, List.drop_succ_cons, List.cons_append]
      · rw [hB] at eB
        cases dn
        · skip
          cases hs1 : decide (sk < 0) with
          | true => simp only [qC, y1, f0, qok, e0, e4, hk0, hk4, y2, y3, hk2, ek, eO, eB, hs1, List.append_nil, go_sem, ne_eq, not_false_eq_true, reduceIte, Nat.reduceMul, Nat.reduceAdd, Nat.reduceSub, Nat.reduceEqDiff, Nat.reduceLeDiff, Nat.reduceLT, List.take_succ_cons, List.take_zero, List.drop_succ_cons, List.cons_append]
          | false =>
          cases hs2 : decide (1099511627776 < sk) with
          | true => simp only [qC, y1, f0, qok, e0, e4, hk0, hk4, y2, y3, hk2, ek, eO, eB, hs1, hs2, List.append_nil, go_sem, ne_eq, not_false_eq_true, reduceIte, Nat.reduceMul, Nat.reduceAdd, Nat.reduceSub, Nat.reduceEqDiff, Nat.reduceLeDiff, Nat.reduceLT, List.take_succ_cons, List.take_zero, List.drop_succ_cons, List.cons_append]
          | false =>
          cases hf1 : decide (fi < 0) with
          | true => simp only [qC, y1, f0, qok, e0, e4, hk0, hk4, y2, y3, hk2, ek, eO, eB, hs1, hs2, hf1, List.append_nil, go_sem, ne_eq, not_false_eq_true, reduceIte, Nat.reduceMul, Nat.reduceAdd, Nat.reduceSub, Nat.reduceEqDiff, Nat.reduceLeDiff, Nat.reduceLT, List.take_succ_cons, List.take_zero, List.drop_succ_cons, List.cons_append]
          | false =>
          cases hf2 : decide (1099511627776 < fi) with
          | true => simp only [qC, y1, f0, qok, e0, e4, hk0, hk4, y2, y3, hk2, ek, eO, eB, hs1, hs2, hf1, hf2, List.append_nil, go_sem, ne_eq, not_false_eq_true, reduceIte, Nat.reduceMul, Nat.reduceAdd, Nat.reduceSub, Nat.reduceEqDiff, Nat.reduceLeDiff, Nat.reduceLT, List.take_succ_cons, List.take_zero, List.drop_succ_cons, List.cons_append]
          | false =>
          simp only [qC, y1, f0, qok, e0, e4, hk0, hk4, y2, y3, hk2, ek, eO, eB, hs1, hs2, hf1, hf2, List.append_nil, go_sem, ne_eq, not_false_eq_true, reduceIte, Nat.reduceMul, Nat.reduceAdd, Nat.reduceSub, Nat.reduceEqDiff, Nat.reduceLeDiff, Nat.reduceLT, List.take_succ_cons, List.take_zero, List.drop_succ_cons, List.cons_append]
        · simp only [qC, y1, f0, qok, e0, e4, hk0, hk4, y2, y3, hk2, ek, eO, eB, List.append_nil, go_sem, ne_eq, not_false_eq_true, reduceIte, Nat.reduceMul, Nat.reduceAdd, Nat.reduceSub, Nat.reduceEqDiff, Nat.reduceLeDiff, Nat.reduceLT, List.take_succ_cons, List.take_zero, List.drop_succ_cons, List.cons_append]
    · cases hB : decide (by_ = [])
      · rw [hB] at eB
        cases hs1 : decide (sk < 0) with
        | true => simp only [qC, y1, f0, qok, e0, e4, hk0, hk4, y2, y3, hk2, ek, eO, eB, hs1, List.append_nil, go_sem, ne_eq, not_false_eq_true, reduceIte, Nat.reduceMul, Nat.reduceAdd, Nat.reduceSub, Nat.reduceEqDiff, Nat.reduceLeDiff, Nat.reduceLT, List.take_succ_cons, List.take_zero, List.drop_succ_cons, List.cons_append]
        | false =>
        cases hs2 : decide (1099511627776 < sk) with
        | true => simp only [qC, y1, f0, qok, e0, e4, hk0, hk4, y2, y3, hk2, ek, eO, eB, hs1, hs2, List.append_nil, go_sem, ne_eq, not_false_eq_true, reduceIte, Nat.reduceMul, Nat.reduceAdd, Nat.reduceSub, Nat.reduceEqDiff, Nat.reduceLeDiff, Nat.reduceLT, List.take_succ_cons, List.take_zero, List.drop_succ_cons, List.cons_append]
        | false =>
        cases hf1 : decide (fi < 0) with
        | true => simp only [qC, y1, f0, qok, e0, e4, hk0, hk4, y2, y3, hk2, ek, eO, eB, hs1, hs2, hf1, List.append_nil, go_sem, ne_eq, not_false_eq_true, reduceIte, Nat.reduceMul, Nat.reduceAdd, Nat.reduceSub, Nat.reduceEqDiff, Nat.reduceLeDiff, Nat.reduceLT, List.take_succ_cons, List.take_zero, List.drop_succ_cons, List.cons_append]
        | false =>
        cases hf2 : decide (1099511627776 < fi) with
        | true => simp only [qC, y1, f0, qok, e0, e4, hk0, hk4, y2, y3, hk2, ek, eO, eB, hs1, hs2, hf1, hf2, List.append_nil, go_sem, ne_eq, not_false_eq_true, reduceIte, Nat.reduceMul, Nat.reduceAdd, Nat.reduceSub, Nat.reduceEqDiff, Nat.reduceLeDiff, Nat.reduceLT, List.take_succ_cons, List.take_zero, List.drop_succ_cons, List.cons_append]
        | false =>
        simp only [qC, y1, f0, qok, e0, e4, hk0, hk4, y2, y3, hk2, ek, eO, eB, hs1, hs2, hf1, hf2, List.append_nil, go_sem, ne_eq, not_false_eq_true, reduceIte, Nat.reduceMul, Nat.reduceAdd, Nat.reduceSub, Nat.reduceEqDiff, Nat.reduceLeDiff, Nat.reduceLT, List.take_succ_cons, List.take_zero, List.drop_succ_cons, List.cons_append]
      · rw [hB] at eB
        cases dn
        · skip
          cases hs1 : decide (sk < 0) with
          | true => simp only [qC, y1, f0, qok, e0, e4, hk0, hk4, y2, y3, hk2, ek, eO, eB, hs1, List.append_nil, go_sem, ne_eq, not_false_eq_true, reduceIte, Nat.reduceMul, Nat.reduceAdd, Nat.reduceSub, Nat.reduceEqDiff, Nat.reduceLeDiff, Nat.reduceLT, List.take_succ_cons, List.take_zero, List.drop_succ_cons, List.cons_append]
          | false =>
          cases hs2 : decide (1099511627776 < sk) with
          | true => simp only [qC, y1, f0, qok, e0, e4, hk0, hk4, y2, y3, hk2, ek, eO, eB, hs1, hs2, List.append_nil, go_sem, ne_eq, not_false_eq_true, reduceIte, Nat.reduceMul, Nat.reduceAdd, Nat.reduceSub, Nat.reduceEqDiff, Nat.reduceLeDiff, Nat.reduceLT, List.take_succ_cons, List.take_zero, List.drop_succ_cons, List.cons_append]
          | false =>
          cases hf1 : decide (fi < 0) with
          | true => simp only [qC, y1, f0, qok, e0, e4, hk0, hk4, y2, y3, hk2, ek, eO, eB, hs1, hs2, hf1, List.append_nil, go_sem, ne_eq, not_false_eq_true, reduceIte, Nat.reduceMul, Nat.reduceAdd, Nat.reduceSub, Nat.reduceEqDiff, Nat.reduceLeDiff, Nat.reduceLT, List.take_succ_cons, List.take_zero, List.drop_succ_cons, List.cons_append]
          | false =>
          cases hf2 : decide (1099511627776 < fi) with
          | true => simp only [qC, y1, f0, qok, e0, e4, hk0, hk4, y2, y3, hk2, ek, eO, eB, hs1, hs2, hf1, hf2, List.append_nil, go_sem, ne_eq, not_false_eq_true, reduceIte, Nat.reduceMul, Nat.reduceAdd, Nat.reduceSub, Nat.reduceEqDiff, Nat.reduceLeDiff, Nat.reduceLT, List.take_succ_cons, List.take_zero, List.drop_succ_cons, List.cons_append]
          | false =>
          simp only [qC, y1, f0, qok, e0, e4, hk0, hk4, y2, y3, hk2, ek, eO, eB, hs1, hs2, hf1, hf2, List.append_nil, go_sem, ne_eq, not_false_eq_true, reduceIte, Nat.reduceMul, Nat.reduceAdd, Nat.reduceSub, Nat.reduceEqDiff, Nat.reduceLeDiff, Nat.reduceLT, List.take_succ_cons, List.take_zero, List.drop_succ_cons, List.cons_append]
        · simp only [qC, y1, f0, qok, e0, e4, hk0, hk4, y2, y3, hk2, ek, eO, eB, List.append_nil, go_sem, ne_eq, not_false_eq_true, reduceIte, Nat.reduceMul, Nat.reduceAdd, Nat.reduceSub, Nat.reduceEqDiff, Nat.reduceLeDiff, Nat.reduceLT, List.take_succ_cons, List.take_zero, List.drop_succ_cons, List.cons_append]
    · simp only [qC, y1, f0, qok, e0, e4, hk0, hk4, y2, y3, hk2, ek, eO, List.append_nil, go_sem, ne_eq, not_false_eq_true, reduceIte, Nat.reduceMul, Nat.reduceAdd, Nat.reduceSub, Nat.reduceEqDiff, Nat.reduceLeDiff, Nat.reduceLT, List.take_succ_cons, List.take_zero, List.drop_succ_cons, List.cons_append]
  · rw [if_neg he]
    have f1 : decide ((e : Int) = 0) = false := decide_eq_false (by omega)
    simp only [qC, y1, f1, go_sem, ne_eq, not_false_eq_true, reduceIte, Nat.reduceMul, Nat.reduceAdd, Nat.reduceSub, Nat.reduceEqDiff, Nat.reduceLeDiff, Nat.reduceLT, List.take_succ_cons, List.take_zero, List.drop_succ_cons, List.cons_append]
end Go.Proofs.YtpcjhfchpelonaaGreatDoor
set_option linter.unusedSimpArgs false
set_option linter.unusedVariables false
namespace Go.Proofs.YtpcjhfchpelonaaGreatDoor
open Ai
theorem wgh_lt {f : Fil} {d w : Nat} (h : (wgh f d w).1 = true) : w + 1 ≤ 8192 := by
  cases f with | mk k nm tx kids =>
  rw [wgh] at h
  split at h
  · cases h
  · omega
def R_qchk (a : List V) (v : V) : Prop := ∀ (k : Int) (of_ : List UInt8) (f : Fil) (c : List V) (by_ : List UInt8) (dn : Bool) (sk fi : Int), a = [.agg (qC k of_ c by_ dn sk fi)] → FilR f c → v = .i .i64 (qchk k of_ f by_ dn sk fi)
theorem R_qchk_ok {k : Int} {of_ : List UInt8} {f : Fil} {c : List V} {by_ : List UInt8} {dn : Bool} {sk fi : Int} (hf : FilR f c) : R_qchk [.agg (qC k of_ c by_ dn sk fi)] (.i .i64 (qchk k of_ f by_ dn sk fi)) := by
  intro k' of' f' c' by' dn' sk' fi' e1 hf'
  simp only [List.cons.injEq, V.agg.injEq, and_true] at e1
  obtain ⟨rfl, rfl, rfl, rfl, rfl, rfl, rfl, rfl⟩ := qC_inj hf hf' e1
  rfl
noncomputable def F_qcheck : List V → Option V := pickP 8 R_qchk
noncomputable def F_rqcheck : List V → Option V := pickP 9 R_qchk
theorem o_qcheck : ∀ a v, F_qcheck a = some v → Comp tabx told 8 a v := pickP_tells
theorem o_rqcheck : ∀ a v, F_rqcheck a = some v → Comp tabx told 9 a v := pickP_tells
section
variable (k : Int) (of_ : List UInt8) (f : Fil) (c : List V) (by_ : List UInt8) (dn : Bool) (sk fi : Int)
theorem qcheck_eq (hf : FilR f c) : F_qcheck [.agg (qC k of_ c by_ dn sk fi)] = some (.i .i64 (qchk k of_ f by_ dn sk fi)) := by
  have hc : Comp tabx told 8 [.agg (qC k of_ c by_ dn sk fi)] (.i .i64 (qchk k of_ f by_ dn sk fi)) := by
    refine comp_of (kz := kz8) t_qc (fn := af8) rfl (Nat.le_of_ble_eq_true rfl) fun gl => ?_
    rw [qC_strip]
    exact w_qc k of_ f (stripL c) by_ dn sk fi (FilR.strip f c hf) gl
  obtain ⟨v, e1, r⟩ := pickP_spec (R := R_qchk) hc (R_qchk_ok hf)
  rw [r k of_ f c by_ dn sk fi rfl hf] at e1
  exact e1
theorem rqcheck_eq (hf : FilR f c) (hok : okL f) (ho : of_.length ≤ 16384) (hbl : by_.length ≤ 16384) : F_rqcheck [.agg (qC k of_ c by_ dn sk fi)] = some (.i .i64 (qchk k of_ f by_ dn sk fi)) := by
  have hc : Comp tabx told 9 [.agg (qC k of_ c by_ dn sk fi)] (.i .i64 (qchk k of_ f by_ dn sk fi)) := by
    refine comp_of (kz := kz9) t_rqc (fn := af9) rfl (Nat.le_of_ble_eq_true rfl) fun gl => ?_
    rw [qC_strip]
    exact w_rqc k of_ f (stripL c) by_ dn sk fi (FilR.strip f c hf) hok ho hbl gl
  obtain ⟨v, e1, r⟩ := pickP_spec (R := R_qchk) hc (R_qchk_ok hf)
  rw [r k of_ f c by_ dn sk fi rfl hf] at e1
  exact e1
end
noncomputable def X_qchecks := xs [(7, F_light), (10, F_awake), (8, F_qcheck), (9, F_rqcheck)]
theorem t_QueryChecks : Tells tabx told X_qchecks := tells_cons o_light (tells_cons o_awake (tells_cons o_qcheck (tells_cons o_rqcheck tells_nil)))
theorem U3 : type_of% (@M_open _ _ B3.eq_1) := @M_open _ _ B3.eq_1
def kz3 (_ : Nat) : List Nat := []
theorem w_qchecks (k : Int) (of_ : List UInt8) (f : Fil) (c : List V) (by_ : List UInt8) (dn : Bool) (sk fi : Int) (hf : FilR f c) (gl : Nat → List V) :
    M X_qchecks (kz3) (.code B3) [] (St.init gl 5 [.agg (qC k of_ c by_ dn sk fi)] {}) (Fin [.tmp 2] (.b true)) := by
  rw [U3]
  have y0 : X_qchecks 10 [] = some (.b true) := rfl
  have y1 : X_qchecks 7 [.agg (qC k of_ c by_ dn sk fi)] = some (.b (wgh f 0 (min of_.length 8192 + min by_.length 8192)).1) := light_eq k of_ f c by_ dn sk fi hf
  have y2 : X_qchecks 8 [.agg (qC k of_ c by_ dn sk fi)] = some (.i .i64 (qchk k of_ f by_ dn sk fi)) := qcheck_eq k of_ f c by_ dn sk fi hf
  cases hw : (wgh f 0 (min of_.length 8192 + min by_.length 8192)).1 with
  | false =>
    rw [hw] at y1
    cases hf with | mk k1 nm tx kids xs n tk hn hx =>
    simp only [qC, List.cons_append, List.nil_append] at y1
    simp only [qC, y0, y1, go_sem, ne_eq, not_false_eq_true, reduceIte, Nat.reduceMul, Nat.reduceAdd, Nat.reduceSub, Nat.reduceEqDiff, Nat.reduceLeDiff, Nat.reduceLT, List.take_succ_cons, List.take_zero, List.drop_succ_cons, List.cons_append]
  | true =>
    rw [hw] at y1
    have hok := wgh_ok f 0 _ hw
    have hlt := wgh_lt hw
    have y3 : X_qchecks 9 [.agg (qC k of_ c by_ dn sk fi)] = some (.i .i64 (qchk k of_ f by_ dn sk fi)) := rqcheck_eq k of_ f c by_ dn sk fi hf hok (by omega) (by omega)
    generalize qchk k of_ f by_ dn sk fi = e at *
    have e1 : decide (e = e) = true := decide_eq_true rfl
    cases hf with | mk k1 nm tx kids xs n tk hn hx =>
    simp only [qC, List.cons_append, List.nil_append] at y1 y2 y3
    simp only [qC, y0, y1, y2, y3, e1, go_sem, ne_eq, not_false_eq_true, reduceIte, Nat.reduceMul, Nat.reduceAdd, Nat.reduceSub, Nat.reduceEqDiff, Nat.reduceLeDiff, Nat.reduceLT, List.take_succ_cons, List.take_zero, List.drop_succ_cons, List.cons_append]
/-! ### Questions, as a law is handed them -/
/-- A type that is Filter's shape. -/
structure FilT (P : Program) (F I T S : TypeId) : Prop where
  f : ∃ fs : Array Field, P.underlying F = some (.struct fs) ∧ fs.toList.map Field.type = [I, T, T, S]
  i : P.underlying I = some (.int .i64)
  t : P.underlying T = some .string
  s : P.underlying S = some (.slice F)
section
variable {P : Program} {F I T S : TypeId}
theorem shape_i (h : FilT P F I T S) {x : List V} (hs : Shape P I x) : ∃ k : Int, x = [.i .i64 k] := by
  have hi := h.i
  cases hs with
  | i _ k n hu _ => rw [hi] at hu; cases hu; exact ⟨n, rfl⟩
  | b _ _ hu => rw [hi] at hu; cases hu
  | s _ _ hu _ => rw [hi] at hu; cases hu
  | sl _ _ _ _ hu _ _ => rw [hi] at hu; cases hu
  | st _ _ _ hu _ => rw [hi] at hu; cases hu
theorem shape_t (h : FilT P F I T S) {x : List V} (hs : Shape P T x) : ∃ l : List UInt8, x = [.s l] := by
  have hi := h.t
  cases hs with
  | s _ l hu _ => exact ⟨l, rfl⟩
  | b _ _ hu => rw [hi] at hu; cases hu
  | i _ _ _ hu _ => rw [hi] at hu; cases hu
  | sl _ _ _ _ hu _ _ => rw [hi] at hu; cases hu
  | st _ _ _ hu _ => rw [hi] at hu; cases hu
theorem fields4 {fs : List Field} {x : List V} {a b c d : TypeId} (hf : Fields P fs x) (hm : fs.map Field.type = [a, b, c, d]) : ∃ xa xb xc xd, x = xa ++ (xb ++ (xc ++ (xd ++ []))) ∧ Shape P a xa ∧ Shape P b xb ∧ Shape P c xc ∧ Shape P d xd := by
  cases hf with
  | nil => cases hm
  | cons f r xa ya h1 hr =>
    cases hr with
    | nil => cases hm
    | cons f2 r2 xb yb h2 hr2 =>
      cases hr2 with
      | nil => cases hm
      | cons f3 r3 xc yc h3 hr3 =>
        cases hr3 with
        | nil => cases hm
        | cons f4 r4 xd yd h4 hr4 =>
          simp only [List.map_cons, List.cons.injEq, List.map_eq_nil_iff] at hm
          obtain ⟨rfl, rfl, rfl, rfl, rfl⟩ := hm
          cases hr4
          exact ⟨xa, xb, xc, xd, rfl, h1, h2, h3, h4⟩
mutual
def vsz : V → Nat
  | .sl xs _ _ => 1 + vszL xs
  | _ => 1
def vszL : List V → Nat
  | [] => 0
  | v :: r => vsz v + vszL r
end
theorem vszL_app (a b : List V) : vszL (a ++ b) = vszL a + vszL b := by
  induction a with
  | nil => simp only [List.nil_append, vszL, Nat.zero_add]
  | cons x r ih => simp only [List.cons_append, vszL, ih, Nat.add_assoc]
theorem shape_fil (h : FilT P F I T S) : ∀ (n : Nat), (∀ x : List V, vszL x ≤ n → Shape P F x → ∃ f, FilR f x) ∧ (∀ (ys : List V) (m : Nat), vszL ys ≤ n → Shapes P F ys m → ∃ l, KidsR l ys ∧ m = l.length) := by
  intro n
  have kids : ∀ (k : Nat), (∀ x : List V, vszL x ≤ k → Shape P F x → ∃ f, FilR f x) → ∀ (m : Nat) (ys : List V), vszL ys ≤ k → Shapes P F ys m → ∃ l, KidsR l ys ∧ m = l.length := by
    intro k hk m
    induction m with
    | zero =>
      intro ys _ hs
      cases hs
      exact ⟨[], .nil, rfl⟩
    | succ m ih =>
      intro ys hv hs
      cases hs with | cons _ x ys' _ h1 h2 =>
      rw [vszL_app] at hv
      obtain ⟨f, hf⟩ := hk x (by omega) h1
      obtain ⟨l, hl, rfl⟩ := ih ys' (by omega) h2
      exact ⟨f :: l, .cons f l x ys' hf hl, rfl⟩
  induction n with
  | zero =>
    have one : ∀ x : List V, vszL x ≤ 0 → Shape P F x → ∃ f, FilR f x := by
      intro x hv hs
      obtain ⟨fs, h1, h2⟩ := h.f
      cases hs with
      | st _ fs' _ hu hf =>
        rw [h1] at hu; cases hu
        obtain ⟨xa, xb, xc, xd, rfl, s1, s2, s3, s4⟩ := fields4 hf h2
        obtain ⟨k, rfl⟩ := shape_i h s1
        simp only [List.cons_append, vszL, vsz] at hv
        omega
      | b _ _ hu => rw [h1] at hu; cases hu
      | i _ _ _ hu _ => rw [h1] at hu; cases hu
      | s _ _ hu _ => rw [h1] at hu; cases hu
      | sl _ _ _ _ hu _ _ => rw [h1] at hu; cases hu
    exact ⟨one, fun ys m hv hs => kids 0 one m ys hv hs⟩
  | succ n ih =>
    have one : ∀ x : List V, vszL x ≤ n + 1 → Shape P F x → ∃ f, FilR f x := by
      intro x hv hs
      obtain ⟨fs, h1, h2⟩ := h.f
      cases hs with
      | st _ fs' _ hu hf =>
        rw [h1] at hu; cases hu
        obtain ⟨xa, xb, xc, xd, rfl, s1, s2, s3, s4⟩ := fields4 hf h2
        obtain ⟨k, rfl⟩ := shape_i h s1
        obtain ⟨nm, rfl⟩ := shape_t h s2
        obtain ⟨tx, rfl⟩ := shape_t h s3
        have hS := h.s
        cases s4 with
        | sl _ e ys m hu hn hs' =>
          rw [hS] at hu; cases hu
          simp only [List.cons_append, List.nil_append, List.append_nil, vszL, vsz] at hv ⊢
          obtain ⟨l, hl, rfl⟩ := ih.2 ys m (by omega) hs'
          exact ⟨.mk k nm tx l, .mk k nm tx l ys _ .no rfl hl⟩
        | b _ _ hu => rw [hS] at hu; cases hu
        | i _ _ _ hu _ => rw [hS] at hu; cases hu
        | s _ _ hu _ => rw [hS] at hu; cases hu
        | st _ _ _ hu _ => rw [hS] at hu; cases hu
      | b _ _ hu => rw [h1] at hu; cases hu
      | i _ _ _ hu _ => rw [h1] at hu; cases hu
      | s _ _ hu _ => rw [h1] at hu; cases hu
      | sl _ _ _ _ hu _ _ => rw [h1] at hu; cases hu
    exact ⟨one, fun ys m hv hs => kids (n + 1) one m ys hv hs⟩
theorem shape_b {B : TypeId} (hB : P.underlying B = some .bool) {x : List V} (hs : Shape P B x) : ∃ b : Bool, x = [.b b] := by
  cases hs with
  | b _ b hu => exact ⟨b, rfl⟩
  | s _ _ hu _ => rw [hB] at hu; cases hu
  | i _ _ _ hu _ => rw [hB] at hu; cases hu
  | sl _ _ _ _ hu _ _ => rw [hB] at hu; cases hu
  | st _ _ _ hu _ => rw [hB] at hu; cases hu
theorem fields_cons {fs : List Field} {x : List V} {a : TypeId} {r : List TypeId} (hf : Fields P fs x) (hm : fs.map Field.type = a :: r) : ∃ fs' xa ya, x = xa ++ ya ∧ Shape P a xa ∧ Fields P fs' ya ∧ fs'.map Field.type = r := by
  cases hf with
  | nil => cases hm
  | cons g r' xa ya h1 hr =>
    simp only [List.map_cons, List.cons.injEq] at hm
    obtain ⟨rfl, rfl⟩ := hm
    exact ⟨r', xa, ya, rfl, h1, hr, rfl⟩
theorem fields_nil {fs : List Field} {x : List V} (hf : Fields P fs x) (hm : fs.map Field.type = []) : x = [] := by
  cases hf with
  | nil => rfl
  | cons g r' xa ya h1 hr => cases hm
theorem arg_q (h : FilT P F I T S) {Q B : TypeId} (hB : P.underlying B = some .bool) (hQ : ∃ fs : Array Field, P.underlying Q = some (.struct fs) ∧ fs.toList.map Field.type = [I, T, F, T, B, I, I]) {x : V} (hx : ArgV P Q x) :
    ∃ (k : Int) (of_ : List UInt8) (f : Fil) (c : List V) (by_ : List UInt8) (dn : Bool) (sk fi : Int), x = .agg (qC k of_ c by_ dn sk fi) ∧ FilR f c := by
  obtain ⟨fs0, h1, h2⟩ := hQ
  rcases hx with ⟨fs, xs, hu, rfl, hs⟩ | ⟨hn, _⟩
  · cases hs with
    | st _ fs' _ hu' hf =>
      rw [h1] at hu'; cases hu'
      obtain ⟨g1, x1, r1, rfl, s1, hf, m1⟩ := fields_cons hf h2
      obtain ⟨g2, x2, r2, rfl, s2, hf, m2⟩ := fields_cons hf m1
      obtain ⟨g3, x3, r3, rfl, s3, hf, m3⟩ := fields_cons hf m2
      obtain ⟨g4, x4, r4, rfl, s4, hf, m4⟩ := fields_cons hf m3
      obtain ⟨g5, x5, r5, rfl, s5, hf, m5⟩ := fields_cons hf m4
      obtain ⟨g6, x6, r6, rfl, s6, hf, m6⟩ := fields_cons hf m5
      obtain ⟨g7, x7, r7, rfl, s7, hf, m7⟩ := fields_cons hf m6
      obtain rfl := fields_nil hf m7
      obtain ⟨k, rfl⟩ := shape_i h s1
      obtain ⟨of_, rfl⟩ := shape_t h s2
      obtain ⟨f, hff⟩ := (shape_fil h (vszL x3)).1 x3 (Nat.le_refl _) s3
      obtain ⟨by_, rfl⟩ := shape_t h s4
      obtain ⟨dn, rfl⟩ := shape_b hB s5
      obtain ⟨sk, rfl⟩ := shape_i h s6
      obtain ⟨fi, rfl⟩ := shape_i h s7
      exact ⟨k, of_, f, x3, by_, dn, sk, fi, rfl, hff⟩
    | b _ _ hu' => rw [h1] at hu'; cases hu'
    | i _ _ _ hu' _ => rw [h1] at hu'; cases hu'
    | s _ _ hu' _ => rw [h1] at hu'; cases hu'
    | sl _ _ _ _ hu' _ _ => rw [h1] at hu'; cases hu'
  · exact absurd h1 (hn fs0)
end
theorem filT : FilT Tryz.prog 24 3 9 22 := ⟨⟨_, Tryz.underlying24, by kernel_rfl⟩, Tryz.underlying3, Tryz.underlying9, Tryz.underlying22⟩
theorem w_QueryChecks (x0 : V) (y0 : ArgV Tryz.prog 26 x0) (gl : Nat → List V) : M X_qchecks (kz3) (.code B3) [] (St.init gl 5 (stripL [x0]) {}) (Fin [.tmp 2] (.b true)) := by
  obtain ⟨k, of_, f, c, by_, dn, sk, fi, rfl, hf⟩ := arg_q filT Tryz.underlying4 ⟨_, Tryz.underlying26, by kernel_rfl⟩ y0
  rw [qC_strip]
  exact w_qchecks k of_ f (stripL c) by_ dn sk fi (FilR.strip f c hf) gl
end Go.Proofs.YtpcjhfchpelonaaGreatDoor
