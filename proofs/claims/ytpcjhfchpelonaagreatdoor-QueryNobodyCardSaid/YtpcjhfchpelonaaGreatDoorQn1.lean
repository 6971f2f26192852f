/- Whether a filter has few parts and few bytes: walked. -/
import Derived.Test.YtpcjhfchpelonaaGreatDoorPf2
set_option linter.unusedSimpArgs false
set_option linter.unusedVariables false
namespace Go.Proofs.YtpcjhfchpelonaaGreatDoor
open Ai
mutual
/-- Adds up parts and bytes; false: they are too many. -/
def wgh : Fil → Nat → Nat → Bool × Nat
  | .mk _ nm tx kids, d, w => if 8192 < w + (1 + min nm.length 8192 + min tx.length 8192) ∨ 50 < d ∨ 500 < kids.length then (false, w + (1 + min nm.length 8192 + min tx.length 8192)) else wghs kids (d + 1) (w + (1 + min nm.length 8192 + min tx.length 8192))
def wghs : List Fil → Nat → Nat → Bool × Nat
  | [], _, w => (true, w)
  | f :: r, d, w => if (wgh f d w).1 = true then wghs r d (wgh f d w).2 else wgh f d w
end
mutual
theorem wgh_le : ∀ (f : Fil) (d w : Nat), (wgh f d w).1 = true → w ≤ (wgh f d w).2 ∧ (wgh f d w).2 ≤ 8192
  | .mk k nm tx kids, d, w, h => by
    rw [wgh] at h ⊢
    split at h
    · cases h
    · rename_i hc
      rw [if_neg hc]
      have := wghs_le kids _ _ (by omega) h
      omega
theorem wghs_le : ∀ (l : List Fil) (d w : Nat), w ≤ 8192 → (wghs l d w).1 = true → w ≤ (wghs l d w).2 ∧ (wghs l d w).2 ≤ 8192
  | [], d, w, h, _ => by rw [wghs]; exact ⟨Nat.le_refl _, h⟩
  | f :: r, d, w, h, ht => by
    rw [wghs] at ht ⊢
    split at ht
    · rename_i h0
      rw [if_pos h0]
      have h1 := wgh_le f d w h0
      have h2 := wghs_le r d _ h1.2 ht
      omega
    · rename_i h0; exact absurd ht h0
end
/-! Texts that are not too long. -/
mutual
def okL : Fil → Prop
  | .mk _ nm tx kids => nm.length ≤ 8192 ∧ tx.length ≤ 8192 ∧ okLs kids
def okLs : List Fil → Prop
  | [] => True
  | f :: r => okL f ∧ okLs r
end
mutual
theorem wgh_ok : ∀ (f : Fil) (d w : Nat), (wgh f d w).1 = true → okL f
  | .mk k nm tx kids, d, w, h => by
    rw [wgh] at h
    split at h
    · cases h
    · rename_i hc
      rw [okL]
      exact ⟨by omega, by omega, wghs_ok kids _ _ h⟩
theorem wghs_ok : ∀ (l : List Fil) (d w : Nat), (wghs l d w).1 = true → okLs l
  | [], d, w, _ => by rw [okLs]; trivial
  | f :: r, d, w, ht => by
    rw [wghs] at ht
    rw [okLs]
    split at ht
    · rename_i h0; exact ⟨wgh_ok f d w h0, wghs_ok r d _ ht⟩
    · rename_i h0; exact absurd ht h0
end
/-! ### The walk -/
def ResW (id : Nat) (h : H) (v : V) (h' : H) (q : Bool × Nat) : Prop := v = .b q.1 ∧ Hop h h' id ∧ WB h' id q.2
def R_weigh (id : Nat) (a : List V) (h : H) (v : V) (h' : H) : Prop := ∀ (f : Fil) (c : List V) (d w : Nat), a = [.agg c, .i .i64 (d : Nat), .p id 0] → FilR f c → WB h id w → ResW id h v h' (wgh f d w)
def S_weigh (id D : Nat) : Prop := ∀ (f : Fil) (c : List V) (d w : Nat) (h : H), FilR f c → WB h id w → w ≤ 100000 → 52 ≤ d + D → d ≤ 51 →
  ∃ v h', Hp.CompI tabx told 22 [.agg c, .i .i64 (d : Nat), .p id 0] h v h' ∧ ResW id h v h' (wgh f d w)
noncomputable def Y_weigh (id : Nat) := ys [(22, pick 22 (R_weigh id))]
theorem t_weigh (id : Nat) : Hp.TellsI tabx told (Y_weigh id) := itells_cons pick_tells itells_nil
theorem call_weigh {id D : Nat} (S : S_weigh id D) {f : Fil} {c : List V} {d w : Nat} {h : H} (hf : FilR f c) (hw : WB h id w) (h1 : w ≤ 100000) (h2 : 52 ≤ d + D) (h3 : d ≤ 51) :
    ∃ h', Y_weigh id 22 [.agg c, .i .i64 (d : Nat), .p id 0] h = some (.b (wgh f d w).1, h') ∧ Hop h h' id ∧ WB h' id (wgh f d w).2 := by
  obtain ⟨v, h', hc, hr⟩ := S f c d w h hf hw h1 h2 h3
  obtain ⟨v, h', e1, r1⟩ := pick_spec (R := R_weigh id) hc (by
    intro f' c' d' w' e1 hf' hw'
    simp only [List.cons.injEq, V.i.injEq, V.agg.injEq, true_and, and_true] at e1
    obtain ⟨e1, e2⟩ := e1
    have e2 : d = d' := by omega
    subst e1 e2
    rw [← FilR.uniq f f' c hf hf', ← hw.uniq hw']
    exact hr)
  obtain ⟨rfl, q2, q3⟩ := r1 f c d w rfl hf hw
  exact ⟨h', e1, q2, q3⟩
def K22_1 : List Fr := [.blk 0,
 .seq (.seq (.reg [⟨some 6, .mov (.k (.b true)), none⟩])
 .ret)]
theorem UH22_1 : type_of% (@Hp_open _ _ L22_1.eq_1) := @Hp_open _ _ L22_1.eq_1
theorem UH22 : type_of% (@Hp_open _ _ B22.eq_1) := @Hp_open _ _ B22.eq_1
def kz22 (_ : Nat) : List Nat := [0, 3, 4, 5, 6, 7, 8, 9, 10, 11, 12, 13, 14, 15, 16, 17, 18, 19, 20, 21, 22, 23, 24, 25, 26, 27, 28, 29, 30, 31, 32, 33, 34, 35, 36, 37, 38, 42, 43, 44, 45, 46, 47, 48, 49, 50, 51]
section
variable {id D : Nat}
set_option maxRecDepth 100000 in
theorem w_wkids (S : S_weigh id D) (k : Int) (nm tx : List UInt8) (kids : List Fil) (ys : List V) (tk0 : Tk) (hy : KidsR kids ys) (hk : kids.length ≤ 500) (d : Nat) (hd : d ≤ 50) (hD : 52 ≤ d + 1 + D) (h0 : H) : ∀ (post pre : List Fil) (w : Nat) (h : H) (l8 : List (Nat × List V)), kids = pre ++ post → WB h id w → w ≤ 8192 → Hop h0 h id →
    Hp.M noX (Y_weigh id) (kz22) (.code L22_1) (.loop L22_1 :: K22_1) ⟨gl0, (.node (.node (.node (.node (.node (.node .leaf .any .leaf) .any (.node .leaf .any .leaf)) .any (.node (.node .leaf (.sl ys kids.length tk0) .leaf) .any (.node .leaf .any .leaf))) .any (.node (.node (.node .leaf .any .leaf) .any (.node .leaf .any .leaf)) .any (.node (.node .leaf .any .leaf) .any (.node .leaf .any .leaf)))) (.i .i64 (d : Nat)) (.node (.node (.node (.node .leaf .any .leaf) .any (.node .leaf .any .leaf)) .any (.node (.node .leaf (.i .i64 (pre.length : Nat)) .leaf) .any (.node .leaf .any .leaf))) .any (.node (.node (.node .leaf .any .leaf) .any (.node .leaf .any .leaf)) .any (.node (.node .leaf .any .leaf) .any (.node .leaf .any .leaf))))) .any (.node (.node (.node (.node (.node .leaf .any .leaf) .any (.node .leaf .any .leaf)) .any (.node (.node .leaf (.i .i64 (kids.length : Nat)) .leaf) .any (.node .leaf .any .leaf))) .any (.node (.node (.node .leaf .any .leaf) .any (.node .leaf .any .leaf)) .any (.node (.node .leaf .any .leaf) .any (.node .leaf .any .leaf)))) (.p id 0) (.node (.node (.node (.node .leaf .any .leaf) .any (.node .leaf .any .leaf)) .any (.node (.node .leaf .any .leaf) .any (.node .leaf .any .leaf))) .any (.node (.node (.node .leaf .any .leaf) .any (.node .leaf .any .leaf)) .any (.node (.node .leaf .any .leaf) .any (.node .leaf .any .leaf)))))), [], (3, [.i .i64 k, .s nm, .s tx, .sl ys kids.length tk0]) :: l8, h⟩
      (fun ex st => ∃ v h', Hp.FinI [.tmp 6] v h' ex st ∧ ResW id h0 v h' (wghs post (d + 1) w)) := by
  intro post
  induction post with
  | nil =>
    intro pre w h l8 hk1 hw hw2 hop
    have hl : kids.length = pre.length := by rw [hk1]; simp
    have e1 : decide ((pre.length : Int) < (kids.length : Int)) = false := decide_eq_false (by omega)
    rw [UH22_1, wghs]
    simp only [e1, K22_1, go_sem, ne_eq, not_false_eq_true, reduceIte, Nat.reduceMul, Nat.reduceAdd, Nat.reduceSub, Nat.reduceEqDiff, Nat.reduceLeDiff, Nat.reduceLT, List.take_succ_cons, List.take_zero, List.drop_succ_cons, List.cons_append]
    exact ⟨_, _, ⟨rfl, rfl⟩, rfl, hop, hw⟩
  | cons f post ih =>
    intro pre w h l8 hk1 hw hw2 hop
    have hl : kids.length = pre.length + post.length + 1 := by rw [hk1]; simp; omega
    have e1 : decide ((pre.length : Int) < (kids.length : Int)) = true := decide_eq_true (by omega)
    have g1 : pre.length < kids.length := by omega
    have hyl := hy.len
    have g2 : (pre.length + 1) * 4 ≤ kids.length * 4 := by omega
    obtain ⟨c, hc, ht⟩ := hy.split pre f post hk1
    obtain ⟨h', y4, q2, q3⟩ := call_weigh S hc hw (by omega) hD (by omega)
    have hle := wgh_le f (d + 1) w
    have w1 : wr .i64 ((d : Int) + 1) = ((d + 1 : Nat) : Int) := by rw [wr64] <;> omega
    have w2 : wr .i64 ((pre.length : Int) + 1) = ((pre.length + 1 : Nat) : Int) := by rw [wr64] <;> omega
    rw [UH22_1, wghs]
    cases hc with | mk k1 nm1 tx1 kids1 xs1 n1 tk1 hn1 hx1 =>
    generalize hq : wgh (.mk k1 nm1 tx1 kids1) (d + 1) w = q at *
    obtain ⟨er, w'⟩ := q
    simp only at q3 y4 hle
    cases er with
    | true =>
      rw [if_pos rfl]
      have := fun l8 => ih (pre ++ [.mk k1 nm1 tx1 kids1]) w' h' l8 (by rw [hk1]; simp) q3 (hle rfl).2 (hop.trans q2)
      simp only [e1, g1, hyl, g2, rd_ip, ht, w1, y4, w2, splice, Int.cast_ofNat_Int, go_sem, ne_eq, not_false_eq_true, reduceIte, Nat.reduceMul, Nat.reduceAdd, Nat.reduceSub, Nat.reduceEqDiff, Nat.reduceLeDiff, Nat.reduceLT, List.take_succ_cons, List.take_zero, List.drop_succ_cons, List.cons_append]
      rw [Hp.M_loop]
      simp only [kz22, K22_1, List.length_append, List.length_cons, List.length_nil, Nat.zero_add, go_sem, ne_eq, not_false_eq_true, reduceIte, Nat.reduceMul, Nat.reduceAdd, Nat.reduceSub, Nat.reduceEqDiff, Nat.reduceLeDiff, Nat.reduceLT, List.take_succ_cons, List.take_zero, List.drop_succ_cons, List.cons_append] at this ⊢
      exact this _
    | false =>
      rw [if_neg (by simp)]
      simp only [e1, g1, hyl, g2, rd_ip, ht, w1, y4, w2, splice, K22_1, Int.cast_ofNat_Int, go_sem, ne_eq, not_false_eq_true, reduceIte, Nat.reduceMul, Nat.reduceAdd, Nat.reduceSub, Nat.reduceEqDiff, Nat.reduceLeDiff, Nat.reduceLT, List.take_succ_cons, List.take_zero, List.drop_succ_cons, List.cons_append]
      exact ⟨_, _, ⟨rfl, rfl⟩, rfl, hop.trans q2, q3⟩
set_option maxRecDepth 100000 in
theorem s_weigh (S : S_weigh id D) : S_weigh id (D + 1) := by
  intro f c d w h hf hw hw2 hD hd
  cases hf with | mk k nm tx kids xs n tk hn hx =>
  subst hn
  obtain ⟨nx, obs, nt, tips⟩ := h
  refine compI_ex (xf := noX) (kz := kz22) (fn := af22) tells_noX (t_weigh id) rfl (Nat.le_of_ble_eq_true rfl) ?_
  show Hp.M _ _ _ (.code B22) _ (St.init gl0 6 _ _) (fun ex st => ∃ v h', Hp.FinI [.tmp 6] v h' ex st ∧ _)
  rw [UH22]
  have hw' : al obs id = some (Ai.Obj.cells 3 [.i .i64 (w : Nat)]) := hw
  have m1 : (if (8192 : Int) < (nm.length : Int) then (8192 : Int) else (nm.length : Int)) = ((min nm.length 8192 : Nat) : Int) := by split <;> omega
  have m2 : (if (8192 : Int) < (tx.length : Int) then (8192 : Int) else (tx.length : Int)) = ((min tx.length 8192 : Nat) : Int) := by split <;> omega
  rw [wgh]
  have ha : min nm.length 8192 ≤ 8192 := Nat.min_le_right _ _
  have hb : min tx.length 8192 ≤ 8192 := Nat.min_le_right _ _
  generalize min nm.length 8192 = a at *
  generalize min tx.length 8192 = b at *
  have w1 : wr .i64 (1 + (a : Int)) = ((1 + a : Nat) : Int) := by rw [wr64] <;> omega
  have w2 : wr .i64 (((1 + a : Nat) : Int) + (b : Int)) = ((1 + a + b : Nat) : Int) := by rw [wr64] <;> omega
  have w3 : wr .i64 ((w : Int) + ((1 + a + b : Nat) : Int)) = ((w + (1 + a + b) : Nat) : Int) := by rw [wr64] <;> omega
  generalize hz : w + (1 + a + b) = z at *
  have hS := Hop.setW ⟨nx, obs, nt, tips⟩ id z
  have hW := WB.set ⟨nx, obs, nt, tips⟩ id z
  by_cases c1 : 8192 < z
  · have e1 : decide ((8192 : Int) < (z : Int)) = true := decide_eq_true (by omega)
    rw [if_pos (.inl c1)]
    simp only [hw', m1, m2, w1, w2, w3, e1, splice, go_sem, ne_eq, not_false_eq_true, reduceIte, Nat.reduceMul, Nat.reduceAdd, Nat.reduceSub, Nat.reduceEqDiff, Nat.reduceLeDiff, Nat.reduceLT, List.take_succ_cons, List.take_zero, List.drop_succ_cons, List.cons_append]
    exact ⟨_, _, ⟨rfl, rfl⟩, rfl, hS, hW⟩
  · have e1 : decide ((8192 : Int) < (z : Int)) = false := decide_eq_false (by omega)
    by_cases c2 : 50 < d
    · have e2 : decide ((50 : Int) < (d : Int)) = true := decide_eq_true (by omega)
      rw [if_pos (.inr (.inl c2))]
      simp only [hw', m1, m2, w1, w2, w3, e1, e2, splice, go_sem, ne_eq, not_false_eq_true, reduceIte, Nat.reduceMul, Nat.reduceAdd, Nat.reduceSub, Nat.reduceEqDiff, Nat.reduceLeDiff, Nat.reduceLT, List.take_succ_cons, List.take_zero, List.drop_succ_cons, List.cons_append]
      exact ⟨_, _, ⟨rfl, rfl⟩, rfl, hS, hW⟩
    · have e2 : decide ((50 : Int) < (d : Int)) = false := decide_eq_false (by omega)
      by_cases c3 : 500 < kids.length
      · have e3 : decide ((500 : Int) < (kids.length : Int)) = true := decide_eq_true (by omega)
        rw [if_pos (.inr (.inr c3))]
        simp only [hw', m1, m2, w1, w2, w3, e1, e2, e3, splice, go_sem, ne_eq, not_false_eq_true, reduceIte, Nat.reduceMul, Nat.reduceAdd, Nat.reduceSub, Nat.reduceEqDiff, Nat.reduceLeDiff, Nat.reduceLT, List.take_succ_cons, List.take_zero, List.drop_succ_cons, List.cons_append]
        exact ⟨_, _, ⟨rfl, rfl⟩, rfl, hS, hW⟩
      · have e3 : decide ((500 : Int) < (kids.length : Int)) = false := decide_eq_false (by omega)
        rw [if_neg (by omega)]
        have := w_wkids S k nm tx kids xs tk hx (by omega) d (by omega) (by omega) ⟨nx, obs, nt, tips⟩ kids [] z (setW ⟨nx, obs, nt, tips⟩ id z) [] rfl hW (by omega) hS
        simp only [hw', m1, m2, w1, w2, w3, e1, e2, e3, splice, go_sem, ne_eq, not_false_eq_true, reduceIte, Nat.reduceMul, Nat.reduceAdd, Nat.reduceSub, Nat.reduceEqDiff, Nat.reduceLeDiff, Nat.reduceLT, List.take_succ_cons, List.take_zero, List.drop_succ_cons, List.cons_append]
        rw [Hp.M_loop]
        simp only [setW, kz22, K22_1, List.length_cons, List.length_nil, Int.cast_ofNat_Int, go_sem, ne_eq, not_false_eq_true, reduceIte, Nat.reduceMul, Nat.reduceAdd, Nat.reduceSub, Nat.reduceEqDiff, Nat.reduceLeDiff, Nat.reduceLT, List.take_succ_cons, List.take_zero, List.drop_succ_cons, List.cons_append] at this ⊢
        exact this
theorem s_weigh_all (id : Nat) : ∀ D, S_weigh id D
  | 0 => fun _ _ _ _ _ _ _ _ h1 h2 => by omega
  | D + 1 => s_weigh (s_weigh_all id D)
end
end Go.Proofs.YtpcjhfchpelonaaGreatDoor
set_option linter.unusedSimpArgs false
set_option linter.unusedVariables false
namespace Go.Proofs.YtpcjhfchpelonaaGreatDoor
open Ai
/-! ### May -/
def X_may := xs [(113, F_rKey), (114, F_rValue), (50, F_rName)]
theorem t_may : Tells tabx told X_may := tells_cons o_rKey (tells_cons o_rValue (tells_cons o_rName tells_nil))
theorem U84 : type_of% (@M_open _ _ B84.eq_1) := @M_open _ _ B84.eq_1
def kz84 (_ : Nat) : List Nat := []
set_option maxRecDepth 100000 in
set_option maxHeartbeats 1000000 in
theorem w_may (k : Int) (nm tx : List UInt8) (xs : List V) (n : Nat) (tk : Tk) (h1 : nm.length ≤ 8192) (h2 : tx.length ≤ 8192) (gl : Nat → List V) :
    M X_may (kz84) (.code B84) [] (St.init gl 7 [.agg [.i .i64 k, .s nm, .s tx, .sl xs n tk]] {}) (Fin [.tmp 2] (.b (mayB k nm tx n))) := by
  rw [U84]
  have eL : decide ((n : Int) = 0) = decide (n = 0) := decide_eq_decide.2 (by omega)
  have eO : decide ((n : Int) = 1) = decide (n = 1) := decide_eq_decide.2 (by omega)
  have eN := strEq_dec nm []
  have eT := strEq_dec tx []
  have xk : X_may 113 [.s tx] = some (.i .i64 (errV (keyB tx) 20)) := F_rKey1 tx (by omega)
  have xv : X_may 114 [.s tx] = some (.i .i64 (errV (valB tx) 21)) := F_rValue1 tx (by omega)
  have xn : X_may 50 [.s nm] = some (.i .i64 (errV (namB nm) 22)) := by
    have := F_rName1 nm (by omega)
    rw [← name_eq] at this
    exact this
  have ek : decide (errV (keyB tx) 20 = 0) = keyB tx := errB (keyB tx) 20 (by decide)
  have ev : decide (errV (valB tx) 21 = 0) = valB tx := errB (valB tx) 21 (by decide)
  have en : decide (errV (namB nm) 22 = 0) = namB nm := errB (namB nm) 22 (by decide)
  by_cases k0 : k = 0
  · have hM : mayB k nm tx n = (decide (n = 0) && (decide (nm = []) && decide (tx = []))) := by unfold mayB; rw [if_pos (by omega)]
    have d0 : decide (k = 0) = true := decide_eq_true (by omega)
    rw [hM]
    cases hL : decide (n = 0) <;> cases hN : decide (nm = []) <;> cases hT : decide (tx = []) <;> rw [hL] at eL <;> rw [hN] at eN <;> rw [hT] at eT <;> simp only [eL, eN, eT, d0, go_sem, ne_eq, not_false_eq_true, reduceIte, Nat.reduceMul, Nat.reduceAdd, Nat.reduceSub, Nat.reduceEqDiff, Nat.reduceLeDiff, Nat.reduceLT, List.take_succ_cons, List.take_zero, List.drop_succ_cons, List.cons_append]
  · by_cases k3 : k = 3
    · have hM : mayB k nm tx n = (decide (n = 0) && (decide (nm = []) && decide (tx = []))) := by unfold mayB; rw [if_pos (by omega)]
      have d0 : decide (k = 0) = false := decide_eq_false (by omega)
      have d3 : decide (k = 3) = true := decide_eq_true (by omega)
      rw [hM]
      cases hL : decide (n = 0) <;> cases hN : decide (nm = []) <;> cases hT : decide (tx = []) <;> rw [hL] at eL <;> rw [hN] at eN <;> rw [hT] at eT <;> simp only [eL, eN, eT, d0, d3, go_sem, ne_eq, not_false_eq_true, reduceIte, Nat.reduceMul, Nat.reduceAdd, Nat.reduceSub, Nat.reduceEqDiff, Nat.reduceLeDiff, Nat.reduceLT, List.take_succ_cons, List.take_zero, List.drop_succ_cons, List.cons_append]
    · have d0 : decide (k = 0) = false := decide_eq_false (by omega)
      have d3 : decide (k = 3) = false := decide_eq_false (by omega)
      by_cases k1 : k = 1
      · have hM : mayB k nm tx n = (decide (n = 0) && (decide (nm = []) && keyB tx)) := by unfold mayB; rw [if_neg (by omega), if_pos k1]
        have d1 : decide (k = 1) = true := decide_eq_true (by omega)
        rw [hM]
        cases hL : decide (n = 0) <;> cases hN : decide (nm = []) <;> cases hT : decide (tx = []) <;> cases hK : keyB tx <;> rw [hL] at eL <;> rw [hN] at eN <;> rw [hT] at eT <;> rw [hK] at ek xk <;> simp only [eL, eN, eT, d0, d1, d3, xk, ek, go_sem, ne_eq, not_false_eq_true, reduceIte, Nat.reduceMul, Nat.reduceAdd, Nat.reduceSub, Nat.reduceEqDiff, Nat.reduceLeDiff, Nat.reduceLT, List.take_succ_cons, List.take_zero, List.drop_succ_cons, List.cons_append]
      · have d1 : decide (k = 1) = false := decide_eq_false (by omega)
        by_cases k2 : k = 2
        · have hM : mayB k nm tx n = (decide (n = 0) && (namB nm && valB tx)) := by unfold mayB; rw [if_neg (by omega), if_neg k1, if_pos k2]
          have d2 : decide (k = 2) = true := decide_eq_true (by omega)
          rw [hM]
          cases hL : decide (n = 0) <;> cases hN : decide (nm = []) <;> cases hT : decide (tx = []) <;> cases hK : namB nm <;> cases hV : valB tx <;> rw [hL] at eL <;> rw [hN] at eN <;> rw [hT] at eT <;> rw [hK] at en xn <;> rw [hV] at ev xv <;> simp only [eL, eN, eT, d0, d1, d2, d3, xn, xv, en, ev, go_sem, ne_eq, not_false_eq_true, reduceIte, Nat.reduceMul, Nat.reduceAdd, Nat.reduceSub, Nat.reduceEqDiff, Nat.reduceLeDiff, Nat.reduceLT, List.take_succ_cons, List.take_zero, List.drop_succ_cons, List.cons_append]
        · have d2 : decide (k = 2) = false := decide_eq_false (by omega)
          by_cases k4 : k = 4
          · have hM : mayB k nm tx n = (decide (nm = []) && (decide (tx = []) && decide (n = 1))) := by unfold mayB; rw [if_neg (by omega), if_neg k1, if_neg k2, if_pos k4]
            have d4 : decide (k = 4) = true := decide_eq_true (by omega)
            rw [hM]
            cases hO : decide (n = 1) <;> cases hN : decide (nm = []) <;> cases hT : decide (tx = []) <;> rw [hO] at eO <;> rw [hN] at eN <;> rw [hT] at eT <;> simp only [eO, eN, eT, d0, d1, d2, d3, d4, go_sem, ne_eq, not_false_eq_true, reduceIte, Nat.reduceMul, Nat.reduceAdd, Nat.reduceSub, Nat.reduceEqDiff, Nat.reduceLeDiff, Nat.reduceLT, List.take_succ_cons, List.take_zero, List.drop_succ_cons, List.cons_append]
          · have d4 : decide (k = 4) = false := decide_eq_false (by omega)
            by_cases k5 : k = 5
            · have hM : mayB k nm tx n = (decide (nm = []) && decide (tx = [])) := by unfold mayB; rw [if_neg (by omega), if_neg k1, if_neg k2, if_neg k4, if_pos (by omega)]
              have d5 : decide (k = 5) = true := decide_eq_true (by omega)
              rw [hM]
              cases hN : decide (nm = []) <;> cases hT : decide (tx = []) <;> rw [hN] at eN <;> rw [hT] at eT <;> simp only [eN, eT, d0, d1, d2, d3, d4, d5, go_sem, ne_eq, not_false_eq_true, reduceIte, Nat.reduceMul, Nat.reduceAdd, Nat.reduceSub, Nat.reduceEqDiff, Nat.reduceLeDiff, Nat.reduceLT, List.take_succ_cons, List.take_zero, List.drop_succ_cons, List.cons_append]
            · have d5 : decide (k = 5) = false := decide_eq_false (by omega)
              by_cases k6 : k = 6
              · have hM : mayB k nm tx n = (decide (nm = []) && decide (tx = [])) := by unfold mayB; rw [if_neg (by omega), if_neg k1, if_neg k2, if_neg k4, if_pos (by omega)]
                have d6 : decide (k = 6) = true := decide_eq_true (by omega)
                rw [hM]
                cases hN : decide (nm = []) <;> cases hT : decide (tx = []) <;> rw [hN] at eN <;> rw [hT] at eT <;> simp only [eN, eT, d0, d1, d2, d3, d4, d5, d6, go_sem, ne_eq, not_false_eq_true, reduceIte, Nat.reduceMul, Nat.reduceAdd, Nat.reduceSub, Nat.reduceEqDiff, Nat.reduceLeDiff, Nat.reduceLT, List.take_succ_cons, List.take_zero, List.drop_succ_cons, List.cons_append]
              · have hM : mayB k nm tx n = false := by unfold mayB; rw [if_neg (by omega), if_neg k1, if_neg k2, if_neg k4, if_neg (by omega)]
                have d6 : decide (k = 6) = false := decide_eq_false (by omega)
                rw [hM]
                cases hN : decide (nm = []) <;> cases hT : decide (tx = []) <;> rw [hN] at eN <;> rw [hT] at eT <;> simp only [eN, eT, d0, d1, d2, d3, d4, d5, d6, go_sem, ne_eq, not_false_eq_true, reduceIte, Nat.reduceMul, Nat.reduceAdd, Nat.reduceSub, Nat.reduceEqDiff, Nat.reduceLeDiff, Nat.reduceLT, List.take_succ_cons, List.take_zero, List.drop_succ_cons, List.cons_append]
def F_may (a : List V) : Option V := match a with
  | [.agg [.i .i64 k, .s nm, .s tx, .sl xs n tk]] => if nm.length ≤ 8192 ∧ tx.length ≤ 8192 then some (.b (mayB k nm tx n)) else none
  | _ => none
theorem F_may1 (k : Int) (nm tx : List UInt8) (xs : List V) (n : Nat) (tk : Tk) (h : nm.length ≤ 8192 ∧ tx.length ≤ 8192) : F_may [.agg [.i .i64 k, .s nm, .s tx, .sl xs n tk]] = some (.b (mayB k nm tx n)) := if_pos h
theorem o_may : ∀ a v, F_may a = some v → Comp tabx told 84 a v := fun a v e => by
  unfold F_may at e
  split at e
  · split at e
    · rename_i h; cases e; exact comp_of t_may (fn := af84) rfl (Nat.le_of_ble_eq_true rfl) fun gl => w_may _ _ _ _ _ _ h.1 h.2 gl
    · cases e
  · cases e
/-! ### walk -/
theorem okLs_split : ∀ (l : List Fil), okLs l → ∀ (pre : List Fil) (f : Fil) (post : List Fil), l = pre ++ f :: post → okL f
  | [], _, pre, f, post, e => by cases pre <;> cases e
  | g :: r, h, pre, f, post, e => by
    rw [okLs] at h
    cases pre with
    | nil => cases e; exact h.1
    | cons p pre => cases e; exact okLs_split _ h.2 pre f post rfl
def ResC (v : V) (q : Nat × Nat) : Prop := ∃ m : Nat, v = .tup [.i .i64 (m : Nat), .i .i64 (q.1 : Nat)] ∧ (q.1 = 0 → m = q.2)
def R_walk (a : List V) (v : V) : Prop := ∀ (f : Fil) (c : List V) (u w : Nat), a = [.agg c, .i .i64 (u : Nat), .i .i64 (w : Nat)] → FilR f c → ResC v (bld f (u + 1) w)
def S_walk (D : Nat) : Prop := ∀ (f : Fil) (c : List V) (u w : Nat), FilR f c → okL f → w ≤ 24 → 7 ≤ u + D → u ≤ 6 → ∃ v, Comp tabx told 49 [.agg c, .i .i64 (u : Nat), .i .i64 (w : Nat)] v ∧ ResC v (bld f (u + 1) w)
noncomputable def X_walk := xs [(84, F_may), (49, pickP 49 R_walk)]
theorem t_walk : Tells tabx told X_walk := tells_cons o_may (tells_cons pickP_tells tells_nil)
theorem call_walk {D : Nat} (S : S_walk D) {f : Fil} {c : List V} {u w : Nat} (hf : FilR f c) (hk : okL f) (h1 : w ≤ 24) (h2 : 7 ≤ u + D) (h3 : u ≤ 6) :
    ∃ m : Nat, X_walk 49 [.agg c, .i .i64 (u : Nat), .i .i64 (w : Nat)] = some (.tup [.i .i64 (m : Nat), .i .i64 ((bld f (u + 1) w).1 : Nat)]) ∧ ((bld f (u + 1) w).1 = 0 → m = (bld f (u + 1) w).2) := by
  obtain ⟨v, hc, hr⟩ := S f c u w hf hk h1 h2 h3
  obtain ⟨v, e1, r1⟩ := pickP_spec (R := R_walk) hc (by
    intro f' c' u' w' e1 hf'
    simp only [List.cons.injEq, V.i.injEq, V.agg.injEq, true_and, and_true] at e1
    obtain ⟨e1, e2, e3⟩ := e1
    have e2 : u = u' := by omega
    have e3 : w = w' := by omega
    subst e1 e2 e3
    rw [← FilR.uniq f f' c hf hf']
    exact hr)
  obtain ⟨m, rfl, q⟩ := r1 f c u w rfl hf
  exact ⟨m, e1, q⟩
def K49_1 : List Fr := [.blk 0,
 .seq (.seq (.reg [⟨some 46, .mov (.t 2), none⟩, ⟨some 6, .mov (.t 46), none⟩, ⟨some 7, .mov (.k (.i .i64 0)), none⟩])
 .ret)]
theorem UH49_1 : type_of% (@Hp_open _ _ L49_1.eq_1) := @Hp_open _ _ L49_1.eq_1
theorem UH49 : type_of% (@Hp_open _ _ B49.eq_1) := @Hp_open _ _ B49.eq_1
def kz49 (_ : Nat) : List Nat := [0, 3, 4, 5, 6, 7, 8, 9, 10, 11, 12, 13, 14, 15, 16, 17, 18, 19, 20, 21, 22, 23, 24, 25, 29, 30, 31, 32, 33, 34, 35, 36, 37, 38, 39, 40, 41, 42, 43, 44, 45, 46]
section
variable {D : Nat}
set_option maxRecDepth 100000 in
theorem w_ckids (S : S_walk D) (k : Int) (nm tx : List UInt8) (kids : List Fil) (ys : List V) (tk0 : Tk) (hy : KidsR kids ys) (hok : okLs kids) (u : Nat) (hu : u ≤ 5) (hD : 7 ≤ u + 1 + D) : ∀ (post pre : List Fil) (w : Nat) (l9 : List (Nat × List V)), kids = pre ++ post → w ≤ 24 → pre.length ≤ w →
    Hp.M X_walk noY (kz49) (.code L49_1) (.loop L49_1 :: K49_1) ⟨gl0, (.node (.node (.node (.node (.node (.node .leaf .any .leaf) .any (.node .leaf .any .leaf)) .any (.node (.node .leaf .any .leaf) .any (.node .leaf .any .leaf))) .any (.node (.node (.node .leaf .any .leaf) .any (.node .leaf .any .leaf)) .any (.node (.node .leaf .any .leaf) (.i .i64 (kids.length : Nat)) (.node .leaf .any .leaf)))) (.i .i64 (u : Nat)) (.node (.node (.node (.node .leaf .any .leaf) .any (.node .leaf .any .leaf)) .any (.node (.node .leaf .any .leaf) .any (.node .leaf .any .leaf))) .any (.node (.node (.node .leaf .any .leaf) .any (.node .leaf .any .leaf)) .any (.node (.node .leaf .any .leaf) .any (.node .leaf .any .leaf))))) .any (.node (.node (.node (.node (.node .leaf .any .leaf) .any (.node .leaf .any .leaf)) .any (.node (.node .leaf .any .leaf) .any (.node .leaf .any .leaf))) .any (.node (.node (.node .leaf .any .leaf) .any (.node .leaf .any .leaf)) .any (.node (.node .leaf .any .leaf) (.i .i64 (pre.length : Nat)) (.node .leaf .any .leaf)))) (.i .i64 (w : Nat)) (.node (.node (.node (.node .leaf .any .leaf) .any (.node .leaf .any .leaf)) .any (.node (.node .leaf .any .leaf) (.sl ys kids.length tk0) (.node .leaf .any .leaf))) .any (.node (.node (.node .leaf .any .leaf) .any (.node .leaf .any .leaf)) .any (.node (.node .leaf .any .leaf) .any (.node .leaf .any .leaf)))))), [], (3, [.i .i64 k, .s nm, .s tx, .sl ys kids.length tk0]) :: l9, {}⟩
      (fun ex st => ∃ v, Fin [.tmp 6, .tmp 7] v ex st ∧ ResC v (blds post (u + 2) w)) := by
  intro post
  induction post with
  | nil =>
    intro pre w l9 hk1 hw hpw
    have hl : kids.length = pre.length := by rw [hk1]; simp
    have e1 : decide ((pre.length : Int) < (kids.length : Int)) = false := decide_eq_false (by omega)
    rw [UH49_1, blds]
    simp only [e1, K49_1, go_sem, ne_eq, not_false_eq_true, reduceIte, Nat.reduceMul, Nat.reduceAdd, Nat.reduceSub, Nat.reduceEqDiff, Nat.reduceLeDiff, Nat.reduceLT, List.take_succ_cons, List.take_zero, List.drop_succ_cons, List.cons_append]
    exact ⟨_, rfl, w, rfl, fun _ => rfl⟩
  | cons f post ih =>
    intro pre w l9 hk1 hw hpw
    have hl : kids.length = pre.length + post.length + 1 := by rw [hk1]; simp; omega
    have e1 : decide ((pre.length : Int) < (kids.length : Int)) = true := decide_eq_true (by omega)
    have g1 : pre.length < kids.length := by omega
    have hyl := hy.len
    have g2 : (pre.length + 1) * 4 ≤ kids.length * 4 := by omega
    obtain ⟨c, hc, ht⟩ := hy.split pre f post hk1
    obtain ⟨m, y4, q2⟩ := call_walk S (u := u + 1) hc (okLs_split _ hok pre f post hk1) hw (by omega) (by omega)
    have hle := bld_le f (u + 2) w hw
    have hgt := bld_gt f (u + 2) w hw
    have w1 : wr .i64 ((u : Int) + 1) = ((u + 1 : Nat) : Int) := by rw [wr64] <;> omega
    have w2 : wr .i64 ((pre.length : Int) + 1) = ((pre.length + 1 : Nat) : Int) := by rw [wr64] <;> omega
    rw [UH49_1, blds]
    cases hc with | mk k1 nm1 tx1 kids1 xs1 n1 tk1 hn1 hx1 =>
    change X_walk _ _ = some (.tup [_, .i .i64 ((bld _ (u + 2) w).1 : Nat)]) at y4
    change (bld _ (u + 2) w).1 = 0 → m = (bld _ (u + 2) w).2 at q2
    generalize hq : bld (.mk k1 nm1 tx1 kids1) (u + 2) w = q at *
    obtain ⟨er, w'⟩ := q
    simp only at q2 y4 hle hgt
    by_cases he : er = 0
    · subst he
      rw [if_pos rfl]
      obtain rfl := q2 rfl
      have := fun l9 => ih (pre ++ [.mk k1 nm1 tx1 kids1]) m l9 (by rw [hk1]; simp) (hle.2 rfl) (by simp; omega)
      have f0 : decide (((0 : Nat) : Int) = 0) = true := by decide
      simp only [e1, g1, hyl, g2, rd_ip, ht, w1, y4, w2, f0, splice, Int.cast_ofNat_Int, go_sem, ne_eq, not_false_eq_true, reduceIte, Nat.reduceMul, Nat.reduceAdd, Nat.reduceSub, Nat.reduceEqDiff, Nat.reduceLeDiff, Nat.reduceLT, List.take_succ_cons, List.take_zero, List.drop_succ_cons, List.cons_append]
      rw [Hp.M_loop]
      simp only [kz49, K49_1, List.length_append, List.length_cons, List.length_nil, Nat.zero_add, go_sem, ne_eq, not_false_eq_true, reduceIte, Nat.reduceMul, Nat.reduceAdd, Nat.reduceSub, Nat.reduceEqDiff, Nat.reduceLeDiff, Nat.reduceLT, List.take_succ_cons, List.take_zero, List.drop_succ_cons, List.cons_append] at this ⊢
      exact this _
    · rw [if_neg he]
      have f1 : decide ((er : Int) = 0) = false := decide_eq_false (by omega)
      simp only [e1, g1, hyl, g2, rd_ip, ht, w1, y4, w2, f1, splice, K49_1, Int.cast_ofNat_Int, go_sem, ne_eq, not_false_eq_true, reduceIte, Nat.reduceMul, Nat.reduceAdd, Nat.reduceSub, Nat.reduceEqDiff, Nat.reduceLeDiff, Nat.reduceLT, List.take_succ_cons, List.take_zero, List.drop_succ_cons, List.cons_append]
      exact ⟨_, rfl, m, rfl, fun h => absurd h he⟩
set_option maxRecDepth 100000 in
theorem s_walk (S : S_walk D) : S_walk (D + 1) := by
  intro f c u w hf hok hw hD hu
  have hs := FilR.strip f c hf
  refine comp_ex (xf := X_walk) (xh := noY) (kz := kz49) (fn := af49) t_walk tells_noY rfl (Nat.le_of_ble_eq_true rfl) ?_
  show Hp.M _ _ _ (.code B49) _ (St.init gl0 6 [.agg (stripL c), .i .i64 (u : Nat), .i .i64 (w : Nat)] _) (fun ex st => ∃ v, Fin [.tmp 6, .tmp 7] v ex st ∧ _)
  rw [UH49]
  generalize stripL c = c2 at hs
  clear hf c
  cases hs with | mk k nm tx kids xs n tk hn hx =>
  subst hn
  rw [okL] at hok
  obtain ⟨o1, o2, o3⟩ := hok
  have xm : X_walk 84 [.agg [.i .i64 k, .s nm, .s tx, .sl xs kids.length tk]] = some (.b (mayB k nm tx kids.length)) := F_may1 k nm tx xs kids.length tk ⟨o1, o2⟩
  have w1 : wr .i64 ((w : Int) + 1) = ((w + 1 : Nat) : Int) := by rw [wr64] <;> omega
  rw [bld]
  by_cases c1 : 6 ≤ u
  · have e1 : decide ((6 : Int) ≤ (u : Int)) = true := decide_eq_true (by omega)
    rw [if_pos (.inl (by omega))]
    simp only [e1, go_sem, ne_eq, not_false_eq_true, reduceIte, Nat.reduceMul, Nat.reduceAdd, Nat.reduceSub, Nat.reduceEqDiff, Nat.reduceLeDiff, Nat.reduceLT, List.take_succ_cons, List.take_zero, List.drop_succ_cons, List.cons_append]
    exact ⟨_, rfl, w, rfl, fun h => by cases h⟩
  · have e1 : decide ((6 : Int) ≤ (u : Int)) = false := decide_eq_false (by omega)
    by_cases c2 : 24 ≤ w
    · have e2 : decide ((24 : Int) ≤ (w : Int)) = true := decide_eq_true (by omega)
      rw [if_pos (.inr (by omega))]
      simp only [e1, e2, go_sem, ne_eq, not_false_eq_true, reduceIte, Nat.reduceMul, Nat.reduceAdd, Nat.reduceSub, Nat.reduceEqDiff, Nat.reduceLeDiff, Nat.reduceLT, List.take_succ_cons, List.take_zero, List.drop_succ_cons, List.cons_append]
      exact ⟨_, rfl, w, rfl, fun h => by cases h⟩
    · have e2 : decide ((24 : Int) ≤ (w : Int)) = false := decide_eq_false (by omega)
      rw [if_neg (by omega)]
      cases hM : mayB k nm tx kids.length with
      | false =>
        rw [hM] at xm
        rw [if_pos rfl]
        simp only [e1, e2, xm, go_sem, ne_eq, not_false_eq_true, reduceIte, Nat.reduceMul, Nat.reduceAdd, Nat.reduceSub, Nat.reduceEqDiff, Nat.reduceLeDiff, Nat.reduceLT, List.take_succ_cons, List.take_zero, List.drop_succ_cons, List.cons_append]
        exact ⟨_, rfl, w, rfl, fun h => by cases h⟩
      | true =>
        rw [hM] at xm
        rw [if_neg (by decide)]
        have := w_ckids S k nm tx kids xs tk hx o3 u (by omega) (by omega) kids [] (w + 1) [] rfl (by omega) (Nat.zero_le _)
        simp only [e1, e2, xm, w1, go_sem, ne_eq, not_false_eq_true, reduceIte, Nat.reduceMul, Nat.reduceAdd, Nat.reduceSub, Nat.reduceEqDiff, Nat.reduceLeDiff, Nat.reduceLT, List.take_succ_cons, List.take_zero, List.drop_succ_cons, List.cons_append]
        rw [Hp.M_loop]
        simp only [kz49, K49_1, List.length_cons, List.length_nil, Int.cast_ofNat_Int, go_sem, ne_eq, not_false_eq_true, reduceIte, Nat.reduceMul, Nat.reduceAdd, Nat.reduceSub, Nat.reduceEqDiff, Nat.reduceLeDiff, Nat.reduceLT, List.take_succ_cons, List.take_zero, List.drop_succ_cons, List.cons_append] at this ⊢
        exact this
theorem s_walk_all : ∀ D, S_walk D
  | 0 => fun _ _ _ _ _ _ _ h1 h2 => by omega
  | D + 1 => s_walk (s_walk_all D)
end
/-! ### Check -/
def R_rcheck (a : List V) (v : V) : Prop := ∀ (f : Fil) (c : List V), a = [.agg c] → FilR f c → v = .i .i64 (chk f : Nat)
noncomputable def F_rcheck : List V → Option V := pickP 26 R_rcheck
theorem o_rcheck : ∀ a v, F_rcheck a = some v → Comp tabx told 26 a v := pickP_tells
theorem UH26 : type_of% (@Hp_open _ _ B26.eq_1) := @Hp_open _ _ B26.eq_1
def kz26 (_ : Nat) : List Nat := []
theorem rcheck_eq (f : Fil) (c : List V) (hf : FilR f c) (hok : okL f) : F_rcheck [.agg c] = some (.i .i64 (chk f : Nat)) := by
  have hc : ∃ v, Comp tabx told 26 [.agg c] v ∧ v = .i .i64 (chk f : Nat) := by
    have hs := FilR.strip f c hf
    obtain ⟨m, y4, q2⟩ := call_walk (s_walk_all 7) (u := 0) (w := 0) hs hok (by decide) (by decide) (by decide)
    refine comp_ex (xf := X_walk) (xh := noY) (kz := kz26) (fn := af26) t_walk tells_noY rfl (Nat.le_of_ble_eq_true rfl) ?_
    show Hp.M _ _ _ (.code B26) _ (St.init gl0 4 [.agg (stripL c)] _) (fun ex st => ∃ v, Fin [.tmp 2] v ex st ∧ _)
    rw [UH26]
    change X_walk _ _ = some (.tup [_, .i .i64 (chk f : Nat)]) at y4
    generalize chk f = e at *
    generalize stripL c = c2 at hs y4 ⊢
    cases hs with | mk k nm tx kids xs n tk hn hx =>
    simp only [Int.cast_ofNat_Int] at y4
    simp only [y4, Int.cast_ofNat_Int, go_sem, ne_eq, not_false_eq_true, reduceIte, Nat.reduceMul, Nat.reduceAdd, Nat.reduceSub, Nat.reduceEqDiff, Nat.reduceLeDiff, Nat.reduceLT, List.take_succ_cons, List.take_zero, List.drop_succ_cons, List.cons_append]
    exact ⟨_, rfl, rfl⟩
  obtain ⟨v, hc, rfl⟩ := hc
  obtain ⟨v, e1, r⟩ := pickP_spec (R := R_rcheck) hc (by
    intro f' c' e1 hf'
    simp only [List.cons.injEq, V.agg.injEq, and_true] at e1
    subst e1
    rw [← FilR.uniq f f' c hf hf'])
  rw [r f c rfl hf] at e1
  exact e1
end Go.Proofs.YtpcjhfchpelonaaGreatDoor
set_option linter.unusedSimpArgs false
set_option linter.unusedVariables false
namespace Go.Proofs.YtpcjhfchpelonaaGreatDoor
open Ai
/-- A question's cells. -/
def qC (k : Int) (of_ : List UInt8) (c : List V) (by_ : List UInt8) (dn : Bool) (sk fi : Int) : List V := .i .i64 k :: .s of_ :: (c ++ [.s by_, .b dn, .i .i64 sk, .i .i64 fi])
/-! ### light -/
theorem UH7 : type_of% (@Hp_open _ _ B7.eq_1) := @Hp_open _ _ B7.eq_1
def kz7 (_ : Nat) : List Nat := []
def R_light (a : List V) (v : V) : Prop := ∀ (k : Int) (of_ : List UInt8) (f : Fil) (c : List V) (by_ : List UInt8) (dn : Bool) (sk fi : Int), a = [.agg (qC k of_ c by_ dn sk fi)] → FilR f c → v = .b (wgh f 0 (min of_.length 8192 + min by_.length 8192)).1
noncomputable def F_light : List V → Option V := pickP 7 R_light
theorem o_light : ∀ a v, F_light a = some v → Comp tabx told 7 a v := pickP_tells
theorem qC_inj {k k' : Int} {of_ of' : List UInt8} {f f' : Fil} {c c' : List V} {by_ by' : List UInt8} {dn dn' : Bool} {sk sk' fi fi' : Int} (hf : FilR f c) (hf' : FilR f' c') (h : qC k of_ c by_ dn sk fi = qC k' of' c' by' dn' sk' fi') :
    k = k' ∧ of_ = of' ∧ f = f' ∧ c = c' ∧ by_ = by' ∧ dn = dn' ∧ sk = sk' ∧ fi = fi' := by
  unfold qC at h
  simp only [List.cons.injEq, V.i.injEq, V.s.injEq, true_and] at h
  obtain ⟨h1, h2, h3⟩ := h
  have := List.append_inj h3 (by rw [hf.len, hf'.len])
  obtain ⟨h4, h5⟩ := this
  simp only [List.cons.injEq, V.i.injEq, V.s.injEq, V.b.injEq, true_and, and_true] at h5
  subst h4
  exact ⟨h1, h2, FilR.uniq f f' c hf hf', rfl, h5.1, h5.2.1, h5.2.2.1, h5.2.2.2⟩
theorem qC_strip (k : Int) (of_ : List UInt8) (c : List V) (by_ : List UInt8) (dn : Bool) (sk fi : Int) : stripL [.agg (qC k of_ c by_ dn sk fi)] = [.agg (qC k of_ (stripL c) by_ dn sk fi)] := by
  unfold qC
  simp only [stripL, V.strip, stripL_app]
set_option maxRecDepth 100000 in
theorem light_eq (k : Int) (of_ : List UInt8) (f : Fil) (c : List V) (by_ : List UInt8) (dn : Bool) (sk fi : Int) (hf : FilR f c) : F_light [.agg (qC k of_ c by_ dn sk fi)] = some (.b (wgh f 0 (min of_.length 8192 + min by_.length 8192)).1) := by
  have ha : min of_.length 8192 ≤ 8192 := Nat.min_le_right _ _
  have hb : min by_.length 8192 ≤ 8192 := Nat.min_le_right _ _
  have hc : Comp tabx told 7 [.agg (qC k of_ c by_ dn sk fi)] (.b (wgh f 0 (min of_.length 8192 + min by_.length 8192)).1) := by
    have hs := FilR.strip f c hf
    obtain ⟨v, hv, rfl⟩ := comp_ex (Q := fun v => v = .b (wgh f 0 (min of_.length 8192 + min by_.length 8192)).1) (xf := noX) (xh := Y_weigh 0) (kz := kz7) (g := 7) (args := [.agg (qC k of_ c by_ dn sk fi)]) (fn := af7) tells_noX (t_weigh 0) rfl (Nat.le_of_ble_eq_true rfl) (by
      obtain ⟨h', y4, q2, q3⟩ := call_weigh (s_weigh_all 0 52) (d := 0) (w := min of_.length 8192 + min by_.length 8192) (h := ⟨1, [(0, .cells 3 [.i .i64 ((min of_.length 8192 + min by_.length 8192 : Nat) : Int)])], 0, []⟩) hs rfl (by omega) (by decide) (by decide)
      rw [qC_strip]
      show Hp.M _ _ _ (.code B7) _ (St.init gl0 5 [.agg (qC k of_ (stripL c) by_ dn sk fi)] _) (fun ex st => ∃ v, Fin [.tmp 2] v ex st ∧ _)
      rw [UH7]
      generalize stripL c = c2 at hs y4 ⊢
      have m1 : (if (8192 : Int) < (of_.length : Int) then (8192 : Int) else (of_.length : Int)) = ((min of_.length 8192 : Nat) : Int) := by split <;> omega
      have m2 : (if (8192 : Int) < (by_.length : Int) then (8192 : Int) else (by_.length : Int)) = ((min by_.length 8192 : Nat) : Int) := by split <;> omega
      generalize min of_.length 8192 = a at *
      generalize min by_.length 8192 = b at *
      have w1 : wr .i64 ((a : Int) + (b : Int)) = ((a + b : Nat) : Int) := by rw [wr64] <;> omega
      cases hs with | mk k1 nm tx kids xs n tk hn hx =>
      simp only [Int.cast_ofNat_Int] at y4
      simp only [qC, m1, m2, w1, y4, splice, Int.cast_ofNat_Int, go_sem, ne_eq, not_false_eq_true, reduceIte, Nat.reduceMul, Nat.reduceAdd, Nat.reduceSub, Nat.reduceEqDiff, Nat.reduceLeDiff, Nat.reduceLT, List.take_succ_cons, List.take_zero, List.drop_succ_cons, List.cons_append]
      exact ⟨_, rfl, rfl⟩)
    exact hv
  obtain ⟨v, e1, r⟩ := pickP_spec (R := R_light) hc (by
    intro k' of' f' c' by' dn' sk' fi' e1 hf'
    simp only [List.cons.injEq, V.agg.injEq, and_true] at e1
    obtain ⟨rfl, rfl, rfl, rfl, rfl, rfl, rfl, rfl⟩ := qC_inj hf hf' e1
    rfl)
  rw [r k of_ f c by_ dn sk fi rfl hf] at e1
  exact e1
/-! ### Names -/
def nmQ (l : List UInt8) : Bool := decide (l = []) || namB l
def X_nm := xs [(25, F_Name)]
theorem t_nm : Tells tabx told X_nm := tells_cons o_Name tells_nil
theorem U24 : type_of% (@M_open _ _ B24.eq_1) := @M_open _ _ B24.eq_1
def kz24 (_ : Nat) : List Nat := []
theorem w_nm (l : List UInt8) (gl : Nat → List V) : M X_nm (kz24) (.code B24) [] (St.init gl 4 [.s l] {}) (Fin [.tmp 2] (.b (nmQ l))) := by
  rw [U24]
  have eE := strEq_dec l []
  have xn : X_nm 25 [.s l] = some (.i .i64 (errV (namB l) 22)) := rfl
  have en : decide (errV (namB l) 22 = 0) = namB l := errB (namB l) 22 (by decide)
  unfold nmQ
  cases hl : decide (l = []) <;> rw [hl] at eE <;> simp only [eE, xn, en, go_sem, ne_eq, not_false_eq_true, reduceIte, Nat.reduceMul, Nat.reduceAdd, Nat.reduceSub, Nat.reduceEqDiff, Nat.reduceLeDiff, Nat.reduceLT, List.take_succ_cons, List.take_zero, List.drop_succ_cons, List.cons_append]
def F_nm (a : List V) : Option V := match a with
  | [.s l] => some (.b (nmQ l))
  | _ => none
theorem o_nm : ∀ a v, F_nm a = some v → Comp tabx told 24 a v := fun a v e => by
  unfold F_nm at e
  split at e
  · cases e; exact comp_of t_nm (fn := af24) rfl (Nat.le_of_ble_eq_true rfl) fun gl => w_nm _ gl
  · cases e
def X_rnm := xs [(50, F_rName)]
theorem t_rnm : Tells tabx told X_rnm := tells_cons o_rName tells_nil
theorem U27 : type_of% (@M_open _ _ B27.eq_1) := @M_open _ _ B27.eq_1
def kz27 (_ : Nat) : List Nat := []
theorem w_rnm (l : List UInt8) (h : l.length ≤ 16384) (gl : Nat → List V) : M X_rnm (kz27) (.code B27) [] (St.init gl 4 [.s l] {}) (Fin [.tmp 2] (.b (nmQ l))) := by
  rw [U27]
  have eE := strEq_dec l []
  have xn : X_rnm 50 [.s l] = some (.i .i64 (errV (namB l) 22)) := by
    have := F_rName1 l h
    rw [← name_eq] at this
    exact this
  have en : decide (errV (namB l) 22 = 0) = namB l := errB (namB l) 22 (by decide)
  unfold nmQ
  cases hl : decide (l = []) <;> rw [hl] at eE <;> simp only [eE, xn, en, go_sem, ne_eq, not_false_eq_true, reduceIte, Nat.reduceMul, Nat.reduceAdd, Nat.reduceSub, Nat.reduceEqDiff, Nat.reduceLeDiff, Nat.reduceLT, List.take_succ_cons, List.take_zero, List.drop_succ_cons, List.cons_append]
def F_rnm (a : List V) : Option V := match a with
  | [.s l] => if l.length ≤ 16384 then some (.b (nmQ l)) else none
  | _ => none
theorem o_rnm : ∀ a v, F_rnm a = some v → Comp tabx told 27 a v := fun a v e => by
  unfold F_rnm at e
  split at e
  · split at e
    · rename_i h; cases e; exact comp_of t_rnm (fn := af27) rfl (Nat.le_of_ble_eq_true rfl) fun gl => w_rnm _ h gl
    · cases e
  · cases e
/-! ### Check -/
/-- May a question be, but for its filter? -/
def qok (b1 b2 dn o4 s1 s2 f1 f2 k0 k4 k2 oo : Bool) : Int := bif b1 && (b2 && (!(dn && o4) && (!s1 && (!s2 && (!f1 && (!f2 && (!k0 && (!k4 && (k2 == !oo))))))))) then 0 else 230
def qcode (k : Int) (of_ : List UInt8) (by_ : List UInt8) (dn : Bool) (sk fi : Int) : Int :=
  qok (nmQ by_) (nmQ of_) dn (decide (by_ = [])) (decide (sk < 0)) (decide (1099511627776 < sk)) (decide (fi < 0)) (decide (1099511627776 < fi)) (decide (k < 0)) (decide (4 < k)) (decide (2 ≤ k)) (decide (of_ = []))
def qchk (k : Int) (of_ : List UInt8) (f : Fil) (by_ : List UInt8) (dn : Bool) (sk fi : Int) : Int := if chk f = 0 then qcode k of_ by_ dn sk fi else (chk f : Nat)
noncomputable def X_qc := xs [(23, F_check), (24, F_nm)]
theorem t_qc : Tells tabx told X_qc := tells_cons o_check (tells_cons o_nm tells_nil)
theorem U8 : type_of% (@M_open _ _ B8.eq_1) := @M_open _ _ B8.eq_1
def kz8 (_ : Nat) : List Nat := []
set_option maxRecDepth 100000 in
set_option maxHeartbeats 4000000 in
theorem w_qc (k : Int) (of_ : List UInt8) (f : Fil) (c : List V) (by_ : List UInt8) (dn : Bool) (sk fi : Int) (hf : FilR f c) (gl : Nat → List V) :
    M X_qc (kz8) (.code B8) [] (St.init gl 7 [.agg (qC k of_ c by_ dn sk fi)] {}) (Fin [.tmp 2] (.i .i64 (qchk k of_ f by_ dn sk fi))) := by
  rw [U8]
  have y1 : X_qc 23 [.agg c] = some (.i .i64 (chk f : Nat)) := check_eq f c hf
  have y2 : X_qc 24 [.s by_] = some (.b (nmQ by_)) := rfl
  have y3 : X_qc 24 [.s of_] = some (.b (nmQ of_)) := rfl
  have eB := strEq_dec by_ []
  have eO := strEq_dec of_ []
  have ek : decide (k < 2) = !decide (2 ≤ k) := by
    by_cases h : 2 ≤ k
    · rw [decide_eq_true h, decide_eq_false (by omega)]; rfl
    · rw [decide_eq_false h, decide_eq_true (by omega)]; rfl
  unfold qchk qcode
  cases hf with | mk k1 nm tx kids xs n tk hn hx =>
  generalize chk (.mk k1 nm tx kids) = e at *
  by_cases he : e = 0
  · subst he
    rw [if_pos rfl]
    have f0 : decide (((0 : Nat) : Int) = 0) = true := by decide
    cases hb1 : nmQ by_ with
    | false => rw [hb1] at y2; simp only [qC, y1, f0, qok, y2, List.append_nil, go_sem, ne_eq, not_false_eq_true, reduceIte, Nat.reduceMul, Nat.reduceAdd, Nat.reduceSub, Nat.reduceEqDiff, Nat.reduceLeDiff, Nat.reduceLT, List.take_succ_cons, List.take_zero, List.drop_succ_cons, List.cons_append]
    | true =>
    rw [hb1] at y2
    cases hb2 : nmQ of_ with
    | false => rw [hb2] at y3; simp only [qC, y1, f0, qok, y2, y3, List.append_nil, go_sem, ne_eq, not_false_eq_true, reduceIte, Nat.reduceMul, Nat.reduceAdd, Nat.reduceSub, Nat.reduceEqDiff, Nat.reduceLeDiff, Nat.reduceLT, List.take_succ_cons, List.take_zero, List.drop_succ_cons, List.cons_append]
    | true =>
    rw [hb2] at y3
    cases dn
    · skip
      cases hs1 : decide (sk < 0) with
      | true => simp only [qC, y1, f0, qok, y2, y3, hs1, List.append_nil, go_sem, ne_eq, not_false_eq_true, reduceIte, Nat.reduceMul, Nat.reduceAdd, Nat.reduceSub, Nat.reduceEqDiff, Nat.reduceLeDiff, Nat.reduceLT, List.take_succ_cons, List.take_zero, List.drop_succ_cons, List.cons_append]
      | false =>
      cases hs2 : decide (1099511627776 < sk) with
      | true => simp only [qC, y1, f0, qok, y2, y3, hs1, hs2, List.append_nil, go_sem, ne_eq, not_false_eq_true, reduceIte, Nat.reduceMul, Nat.reduceAdd, Nat.reduceSub, Nat.reduceEqDiff, Nat.reduceLeDiff, Nat.reduceLT, List.take_succ_cons, List.take_zero, List.drop_succ_cons, List.cons_append]
      | false =>
      cases hf1 : decide (fi < 0) with
      | true => simp only [qC, y1, f0, qok, y2, y3, hs1, hs2, hf1, List.append_nil, go_sem, ne_eq, not_false_eq_true, reduceIte, Nat.reduceMul, Nat.reduceAdd, Nat.reduceSub, Nat.reduceEqDiff, Nat.reduceLeDiff, Nat.reduceLT, List.take_succ_cons, List.take_zero, List.drop_succ_cons, List.cons_append]
      | false =>
      cases hf2 : decide (1099511627776 < fi) with
      | true => simp only [qC, y1, f0, qok, y2, y3, hs1, hs2, hf1, hf2, List.append_nil, go_sem, ne_eq, not_false_eq_true, reduceIte, Nat.reduceMul, Nat.reduceAdd, Nat.reduceSub, Nat.reduceEqDiff, Nat.reduceLeDiff, Nat.reduceLT, List.take_succ_cons, List.take_zero, List.drop_succ_cons, List.cons_append]
      | false =>
      cases hk0 : decide (k < 0) with
      | true => simp only [qC, y1, f0, qok, y2, y3, hs1, hs2, hf1, hf2, hk0, List.append_nil, go_sem, ne_eq, not_false_eq_true, reduceIte, Nat.reduceMul, Nat.reduceAdd, Nat.reduceSub, Nat.reduceEqDiff, Nat.reduceLeDiff, Nat.reduceLT, List.take_succ_cons, List.take_zero, List.drop_succ_cons, List.cons_append]
      | false =>
      cases hk4 : decide (4 < k) with
      | true => simp only [qC, y1, f0, qok, y2, y3, hs1, hs2, hf1, hf2, hk0, hk4, List.append_nil, go_sem, ne_eq, not_false_eq_true, reduceIte, Nat.reduceMul, Nat.reduceAdd, Nat.reduceSub, Nat.reduceEqDiff, Nat.reduceLeDiff, Nat.reduceLT, List.take_succ_cons, List.take_zero, List.drop_succ_cons, List.cons_append]
      | false =>
      cases hk2 : decide (2 ≤ k) <;> cases hO : decide (of_ = []) <;> rw [hO] at eO <;> rw [hk2] at ek <;> simp only [qC, y1, f0, qok, y2, y3, hs1, hs2, hf1, hf2, hk0, hk4, hk2, ek, eO, List.append_nil, go_sem, ne_eq, not_false_eq_true, reduceIte, Nat.reduceMul, Nat.reduceAdd, Nat.reduceSub, Nat.reduceEqDiff, Nat.reduceLeDiff, Nat.reduceLT, List.take_succ_cons, List.take_zero, List.drop_succ_cons, List.cons_append]
    · skip
      cases hB : decide (by_ = []) with
      | true => rw [hB] at eB; simp only [qC, y1, f0, qok, y2, y3, eB, List.append_nil, go_sem, ne_eq, not_false_eq_true, reduceIte, Nat.reduceMul, Nat.reduceAdd, Nat.reduceSub, Nat.reduceEqDiff, Nat.reduceLeDiff, Nat.reduceLT, List.take_succ_cons, List.take_zero, List.drop_succ_cons, List.cons_append]
      | false =>
      rw [hB] at eB
      cases hs1 : decide (sk < 0) with
      | true => simp only [qC, y1, f0, qok, y2, y3, eB, hs1, List.append_nil, go_sem, ne_eq, not_false_eq_true, reduceIte, Nat.reduceMul, Nat.reduceAdd, Nat.reduceSub, Nat.reduceEqDiff, Nat.reduceLeDiff, Nat.reduceLT, List.take_succ_cons, List.take_zero, List.drop_succ_cons, List.cons_append]
      | false =>
      cases hs2 : decide (1099511627776 < sk) with
      | true => simp only [qC, y1, f0, qok, y2, y3, eB, hs1, hs2, List.append_nil, go_sem, ne_eq, not_false_eq_true, reduceIte, Nat.reduceMul, Nat.reduceAdd, Nat.reduceSub, Nat.reduceEqDiff, Nat.reduceLeDiff, Nat.reduceLT, List.take_succ_cons, List.take_zero, List.drop_succ_cons, List.cons_append]
      | false =>
      cases hf1 : decide (fi < 0) with
      | true => simp only [qC, y1, f0, qok, y2, y3, eB, hs1, hs2, hf1, List.append_nil, go_sem, ne_eq, not_false_eq_true, reduceIte, Nat.reduceMul, Nat.reduceAdd, Nat.reduceSub, Nat.reduceEqDiff, Nat.reduceLeDiff, Nat.reduceLT, List.take_succ_cons, List.take_zero, List.drop_succ_cons, List.cons_append]
      | false =>
      cases hf2 : decide (1099511627776 < fi) with
      | true => simp only [qC, y1, f0, qok, y2, y3, eB, hs1, hs2, hf1, hf2, List.append_nil, go_sem, ne_eq, not_false_eq_true, reduceIte, Nat.reduceMul, Nat.reduceAdd, Nat.reduceSub, Nat.reduceEqDiff, Nat.reduceLeDiff, Nat.reduceLT, List.take_succ_cons, List.take_zero, List.drop_succ_cons, List.cons_append]
      | false =>
      cases hk0 : decide (k < 0) with
      | true => simp only [qC, y1, f0, qok, y2, y3, eB, hs1, hs2, hf1, hf2, hk0, List.append_nil, go_sem, ne_eq, not_false_eq_true, reduceIte, Nat.reduceMul, Nat.reduceAdd, Nat.reduceSub, Nat.reduceEqDiff, Nat.reduceLeDiff, Nat.reduceLT, List.take_succ_cons, List.take_zero, List.drop_succ_cons, List.cons_append]
      | false =>
      cases hk4 : decide (4 < k) with
      | true => simp only [qC, y1, f0, qok, y2, y3, eB, hs1, hs2, hf1, hf2, hk0, hk4, List.append_nil, go_sem, ne_eq, not_false_eq_true, reduceIte, Nat.reduceMul, Nat.reduceAdd, Nat.reduceSub, Nat.reduceEqDiff, Nat.reduceLeDiff, Nat.reduceLT, List.take_succ_cons, List.take_zero, List.drop_succ_cons, List.cons_append]
      | false =>
      cases hk2 : decide (2 ≤ k) <;> cases hO : decide (of_ = []) <;> rw [hO] at eO <;> rw [hk2] at ek <;> simp only [qC, y1, f0, qok, y2, y3, eB, hs1, hs2, hf1, hf2, hk0, hk4, hk2, ek, eO, List.append_nil, go_sem, ne_eq, not_false_eq_true, reduceIte, Nat.reduceMul, Nat.reduceAdd, Nat.reduceSub, Nat.reduceEqDiff, Nat.reduceLeDiff, Nat.reduceLT, List.take_succ_cons, List.take_zero, List.drop_succ_cons, List.cons_append]
  · rw [if_neg he]
    have f1 : decide ((e : Int) = 0) = false := decide_eq_false (by omega)
    simp only [qC, y1, f1, go_sem, ne_eq, not_false_eq_true, reduceIte, Nat.reduceMul, Nat.reduceAdd, Nat.reduceSub, Nat.reduceEqDiff, Nat.reduceLeDiff, Nat.reduceLT, List.take_succ_cons, List.take_zero, List.drop_succ_cons, List.cons_append]
noncomputable def X_rqc := xs [(26, F_rcheck), (27, F_rnm)]
theorem t_rqc : Tells tabx told X_rqc := tells_cons o_rcheck (tells_cons o_rnm tells_nil)
theorem U9 : type_of% (@M_open _ _ B9.eq_1) := @M_open _ _ B9.eq_1
def kz9 (_ : Nat) : List Nat := []
set_option maxRecDepth 100000 in
set_option maxHeartbeats 4000000 in
theorem w_rqc (k : Int) (of_ : List UInt8) (f : Fil) (c : List V) (by_ : List UInt8) (dn : Bool) (sk fi : Int) (hf : FilR f c) (hok : okL f) (ho : of_.length ≤ 16384) (hbl : by_.length ≤ 16384) (gl : Nat → List V) :
    M X_rqc (kz9) (.code B9) [] (St.init gl 7 [.agg (qC k of_ c by_ dn sk fi)] {}) (Fin [.tmp 2] (.i .i64 (qchk k of_ f by_ dn sk fi))) := by
  rw [U9]
  have y1 : X_rqc 26 [.agg c] = some (.i .i64 (chk f : Nat)) := rcheck_eq f c hf hok
  have y2 : X_rqc 27 [.s by_] = some (.b (nmQ by_)) := if_pos hbl
  have y3 : X_rqc 27 [.s of_] = some (.b (nmQ of_)) := if_pos ho
  have eB := strEq_dec by_ []
  have eO := strEq_dec of_ []
  have ek : decide (1 < k) = decide (2 ≤ k) := decide_eq_decide.2 (by omega)
  have e0 : decide (0 ≤ k) = !decide (k < 0) := by
    by_cases h : k < 0
    · rw [decide_eq_true h, decide_eq_false (by omega)]; rfl
    · rw [decide_eq_false h, decide_eq_true (by omega)]; rfl
  have e4 : decide (k ≤ 4) = !decide (4 < k) := by
    by_cases h : 4 < k
    · rw [decide_eq_true h, decide_eq_false (by omega)]; rfl
    · rw [decide_eq_false h, decide_eq_true (by omega)]; rfl
  unfold qchk qcode
  cases hf with | mk k1 nm tx kids xs n tk hn hx =>
  generalize chk (.mk k1 nm tx kids) = e at *
  by_cases he : e = 0
  · subst he
    rw [if_pos rfl]
    have f0 : decide (((0 : Nat) : Int) = 0) = true := by decide
    cases hk0 : decide (k < 0) with
    | true => rw [hk0] at e0; simp only [qC, y1, f0, qok, e0, hk0, List.append_nil, go_sem, ne_eq, not_false_eq_true, reduceIte, Nat.reduceMul, Nat.reduceAdd, Nat.reduceSub, Nat.reduceEqDiff, Nat.reduceLeDiff, Nat.reduceLT, List.take_succ_cons, List.take_zero, List.drop_succ_cons, List.cons_append]
    | false =>
    rw [hk0] at e0
    cases hk4 : decide (4 < k) with
    | true => rw [hk4] at e4; simp only [qC, y1, f0, qok, e0, e4, hk0, hk4, List.append_nil, go_sem, ne_eq, not_false_eq_true, reduceIte, Nat.reduceMul, Nat.reduceAdd, Nat.reduceSub, Nat.reduceEqDiff, Nat.reduceLeDiff, Nat.reduceLT, List.take_succ_cons, List.take_zero, List.drop_succ_cons, List.cons_append]
    | false =>
    rw [hk4] at e4
    cases hb2 : nmQ of_ with
    | false => rw [hb2] at y3; simp only [qC, y1, f0, qok, e0, e4, hk0, hk4, y3, List.append_nil, go_sem, ne_eq, not_false_eq_true, reduceIte, Nat.reduceMul, Nat.reduceAdd, Nat.reduceSub, Nat.reduceEqDiff, Nat.reduceLeDiff, Nat.reduceLT, List.take_succ_cons, List.take_zero, List.drop_succ_cons, List.cons_append]
    | true =>
    rw [hb2] at y3
    cases hb1 : nmQ by_ with
    | false => rw [hb1] at y2; simp only [qC, y1, f0, qok, e0, e4, hk0, hk4, y2, y3, List.append_nil, go_sem, ne_eq, not_false_eq_true, reduceIte, Nat.reduceMul, Nat.reduceAdd, Nat.reduceSub, Nat.reduceEqDiff, Nat.reduceLeDiff, Nat.reduceLT, List.take_succ_cons, List.take_zero, List.drop_succ_cons, List.cons_append]
    | true =>
    rw [hb1] at y2
    cases hk2 : decide (2 ≤ k) <;> cases hO : decide (of_ = []) <;> rw [hO] at eO <;> rw [hk2] at ek
    · simp only [qC, y1, f0, qok, e0, e4, hk0, hk4, y2, y3, hk2, ek, eO, List.append_nil, go_sem, ne_eq, not_false_eq_true, reduceIte, Nat.reduceMul, Nat.reduceAdd, Nat.reduceSub, Nat.reduceEqDiff, Nat.reduceLeDiff, Nat.reduceLT, List.take_succ_cons, List.take_zero, List.drop_succ_cons, List.cons_append]
    · cases hB : decide (by_ = [])
      · rw [hB] at eB
        cases hs1 : decide (sk < 0) with
        | true => simp only [qC, y1, f0, qok, e0, e4, hk0, hk4, y2, y3, hk2, ek, eO, eB, hs1, List.append_nil, go_sem, ne_eq, not_false_eq_true, reduceIte, Nat.reduceMul, Nat.reduceAdd, Nat.reduceSub, Nat.reduceEqDiff, Nat.reduceLeDiff, Nat.reduceLT, List.take_succ_cons, List.take_zero, List.drop_succ_cons, List.cons_append]
        | false =>
        cases hs2 : decide (1099511627776 < sk) with
        | true => simp only [qC, y1, f0, qok, e0, e4, hk0, hk4, y2, y3, hk2, ek, eO, eB, hs1, hs2, List.append_nil, go_sem, ne_eq, not_false_eq_true, reduceIte, Nat.reduceMul, Nat.reduceAdd, Nat.reduceSub, Nat.reduceEqDiff, Nat.reduceLeDiff, Nat.reduceLT, List.take_succ_cons, List.take_zero, List.drop_succ_cons, List.cons_append]
        | false =>
        cases hf1 : decide (fi < 0) with
        | true => simp only [qC, y1, f0, qok, e0, e4, hk0, hk4, y2, y3, hk2, ek, eO, eB, hs1, hs2, hf1, List.append_nil, go_sem, ne_eq, not_false_eq_true, reduceIte, Nat.reduceMul, Nat.reduceAdd, Nat.reduceSub, Nat.reduceEqDiff, Nat.reduceLeDiff, Nat.reduceLT, List.take_succ_cons, List.take_zero, List.drop_succ_cons, List.cons_append]
        | false =>
        cases hf2 : decide (1099511627776 < fi) with
        | true => simp only [qC, y1, f0, qok, e0, e4, hk0, hk4, y2, y3, hk2, ek, eO, eB, hs1, hs2, hf1, hf2, List.append_nil, go_sem, ne_eq, not_false_eq_true, reduceIte, Nat.reduceMul, Nat.reduceAdd, Nat.reduceSub, Nat.reduceEqDiff, Nat.reduceLeDiff, Nat.reduceLT, List.take_succ_cons, List.take_zero, List.drop_succ_cons, List.cons_append]
        | false =>
        simp only [qC, y1, f0, qok, e0, e4, hk0, hk4, y2, y3, hk2, ek, eO, eB, hs1, hs2, hf1, hf2, List.append_nil, go_sem, ne_eq, not_false_eq_true, reduceIte, Nat.reduceMul, Nat.reduceAdd, Nat.reduceSub, Nat.reduceEqDiff, Nat.reduceLeDiff, Nat.reduceLT, List.take_succ_cons, List.take_zero, List.drop_succ_cons, List.cons_append]
      · rw [hB] at eB
        cases dn
        · skip
          cases hs1 : decide (sk < 0) with
          | true => simp only [qC, y1, f0, qok, e0, e4, hk0, hk4, y2, y3, hk2, ek, eO, eB, hs1, List.append_nil, go_sem, ne_eq, not_false_eq_true, reduceIte, Nat.reduceMul, Nat.reduceAdd, Nat.reduceSub, Nat.reduceEqDiff, Nat.reduceLeDiff, Nat.reduceLT, List.take_succ_cons, List.take_zero, List.drop_succ_cons, List.cons_append]
          | false =>
          cases hs2 : decide (1099511627776 < sk) with
          | true => simp only [qC, y1, f0, qok, e0, e4, hk0, hk4, y2, y3, hk2, ek, eO, eB, hs1, hs2, List.append_nil, go_sem, ne_eq, not_false_eq_true, reduceIte, Nat.reduceMul, Nat.reduceAdd, Nat.reduceSub, Nat.reduceEqDiff, Nat.reduceLeDiff, Nat.reduceLT, List.take_succ_cons, List.take_zero, List.drop_succ_cons, List.cons_append]
          | false =>
          cases hf1 : decide (fi < 0) with
          | true => simp only [qC, y1, f0, qok, e0, e4, hk0, hk4, y2, y3, hk2, ek, eO, eB, hs1, hs2, hf1, List.append_nil, go_sem, ne_eq, not_false_eq_true, reduceIte, Nat.reduceMul, Nat.reduceAdd, Nat.reduceSub, Nat.reduceEqDiff, Nat.reduceLeDiff, Nat.reduceLT, List.take_succ_cons, List.take_zero, List.drop_succ_cons, List.cons_append]
          | false =>
          cases hf2 : decide (1099511627776 < fi) with
          | true => simp only [qC, y1, f0, qok, e0, e4, hk0, hk4, y2, y3, hk2, ek, eO, eB, hs1, hs2, hf1, hf2, List.append_nil, go_sem, ne_eq, not_false_eq_true, reduceIte, Nat.reduceMul, Nat.reduceAdd, Nat.reduceSub, Nat.reduceEqDiff, Nat.reduceLeDiff, Nat.reduceLT, List.take_succ_cons, List.take_zero, List.drop_succ_cons, List.cons_append]
          | false =>
          simp only [qC, y1, f0, qok, e0, e4, hk0, hk4, y2, y3, hk2, ek, eO, eB, hs1, hs2, hf1, hf2, List.append_nil, go_sem, ne_eq, not_false_eq_true, reduceIte, Nat.reduceMul, Nat.reduceAdd, Nat.reduceSub, Nat.reduceEqDiff, Nat.reduceLeDiff, Nat.reduceLT, List.take_succ_cons, List.take_zero, List.drop_succ_cons, List.cons_append]
        · simp only [qC, y1, f0, qok, e0, e4, hk0, hk4, y2, y3, hk2, ek, eO, eB, List.append_nil, go_sem, ne_eq, not_false_eq_true, reduceIte, Nat.reduceMul, Nat.reduceAdd, Nat.reduceSub, Nat.reduceEqDiff, Nat.reduceLeDiff, Nat.reduceLT, List.take_succ_cons, List.take_zero, List.drop_succ_cons, List.cons_append]
    · cases hB : decide (by_ = [])
      · rw [hB] at eB
        cases hs1 : decide (sk < 0) with
        | true => simp only [qC, y1, f0, qok, e0, e4, hk0, hk4, y2, y3, hk2, ek, eO, eB, hs1, List.append_nil, go_sem, ne_eq, not_false_eq_true, reduceIte, Nat.reduceMul, Nat.reduceAdd, Nat.reduceSub, Nat.reduceEqDiff, Nat.reduceLeDiff, Nat.reduceLT, List.take_succ_cons, List.take_zero, List.drop_succ_cons, List.cons_append]
        | false =>
        cases hs2 : decide (1099511627776 < sk) with
        | true => simp only [qC, y1, f0, qok, e0, e4, hk0, hk4, y2, y3, hk2, ek, eO, eB, hs1, hs2, List.append_nil, go_sem, ne_eq, not_false_eq_true, reduceIte, Nat.reduceMul, Nat.reduceAdd, Nat.reduceSub, Nat.reduceEqDiff, Nat.reduceLeDiff, Nat.reduceLT, List.take_succ_cons, List.take_zero, List.drop_succ_cons, List.cons_append]
        | false =>
        cases hf1 : decide (fi < 0) with
        | true => simp only [qC, y1, f0, qok, e0, e4, hk0, hk4, y2, y3, hk2, ek, eO, eB, hs1, hs2, hf1, List.append_nil, go_sem, ne_eq, not_false_eq_true, reduceIte, Nat.reduceMul, Nat.reduceAdd, Nat.reduceSub, Nat.reduceEqDiff, Nat.reduceLeDiff, Nat.reduceLT, List.take_succ_cons, List.take_zero, List.drop_succ_cons, List.cons_append]
        | false =>
        cases hf2 : decide (1099511627776 < fi) with
        | true => simp only [qC, y1, f0, qok, e0, e4, hk0, hk4, y2, y3, hk2, ek, eO, eB, hs1, hs2, hf1, hf2, List.append_nil, go_sem, ne_eq, not_false_eq_true, reduceIte, Nat.reduceMul, Nat.reduceAdd, Nat.reduceSub, Nat.reduceEqDiff, Nat.reduceLeDiff, Nat.reduceLT, List.take_succ_cons, List.take_zero, List.drop_succ_cons, List.cons_append]
        | false =>
        simp only [qC, y1, f0, qok, e0, e4, hk0, hk4, y2, y3, hk2, ek, eO, eB, hs1, hs2, hf1, hf2, List.append_nil, go_sem, ne_eq, not_false_eq_true, reduceIte, Nat.reduceMul, Nat.reduceAdd, Nat.reduceSub, Nat.reduceEqDiff, Nat.reduceLeDiff, Nat.reduceLT, List.take_succ_cons, List.take_zero, List.drop_succ_cons, List.cons_append]
      · rw [hB] at eB
        cases dn
        · skip
          cases hs1 : decide (sk < 0) with
          | true => simp only [qC, y1, f0, qok, e0, e4, hk0, hk4, y2, y3, hk2, ek, eO, eB, hs1, List.append_nil, go_sem, ne_eq, not_false_eq_true, reduceIte, Nat.reduceMul, Nat.reduceAdd, Nat.reduceSub, Nat.reduceEqDiff, Nat.reduceLeDiff, Nat.reduceLT, List.take_succ_cons, List.take_zero, List.drop_succ_cons, List.cons_append]
          | false =>
          cases hs2 : decide (1099511627776 < sk) with
          | true => simp only [qC, y1, f0, qok, e0, e4, hk0, hk4, y2, y3, hk2, ek, eO, eB, hs1, hs2, List.append_nil, go_sem, ne_eq, not_false_eq_true, reduceIte, Nat.reduceMul, Nat.reduceAdd, Nat.reduceSub, Nat.reduceEqDiff, Nat.reduceLeDiff, Nat.reduceLT, List.take_succ_cons, List.take_zero, List.drop_succ_cons, List.cons_append]
          | false =>
          cases hf1 : decide (fi < 0) with
          | true => simp only [qC, y1, f0, qok, e0, e4, hk0, hk4, y2, y3, hk2, ek, eO, eB, hs1, hs2, hf1, List.append_nil, go_sem, ne_eq, not_false_eq_true, reduceIte, Nat.reduceMul, Nat.reduceAdd, Nat.reduceSub, Nat.reduceEqDiff, Nat.reduceLeDiff, Nat.reduceLT, List.take_succ_cons, List.take_zero, List.drop_succ_cons, List.cons_append]
          | false =>
          cases hf2 : decide (1099511627776 < fi) with
          | true => simp only [qC, y1, f0, qok, e0, e4, hk0, hk4, y2, y3, hk2, ek, eO, eB, hs1, hs2, hf1, hf2, List.append_nil, go_sem, ne_eq, not_false_eq_true, reduceIte, Nat.reduceMul, Nat.reduceAdd, Nat.reduceSub, Nat.reduceEqDiff, Nat.reduceLeDiff, Nat.reduceLT, List.take_succ_cons, List.take_zero, List.drop_succ_cons, List.cons_append]
          | false =>
          simp only [qC, y1, f0, qok, e0, e4, hk0, hk4, y2, y3, hk2, ek, eO, eB, hs1, hs2, hf1, hf2, List.append_nil, go_sem, ne_eq, not_false_eq_true, reduceIte, Nat.reduceMul, Nat.reduceAdd, Nat.reduceSub, Nat.reduceEqDiff, Nat.reduceLeDiff, Nat.reduceLT, List.take_succ_cons, List.take_zero, List.drop_succ_cons, List.cons_append]
        · simp only [qC, y1, f0, qok, e0, e4, hk0, hk4, y2, y3, hk2, ek, eO, eB, List.append_nil, go_sem, ne_eq, not_false_eq_true, reduceIte, Nat.reduceMul, Nat.reduceAdd, Nat.reduceSub, Nat.reduceEqDiff, Nat.reduceLeDiff, Nat.reduceLT, List.take_succ_cons, List.take_zero, List.drop_succ_cons, List.cons_append]
    · simp only [qC, y1, f0, qok, e0, e4, hk0, hk4, y2, y3, hk2, ek, eO, List.append_nil, go_sem, ne_eq, not_false_eq_true, reduceIte, Nat.reduceMul, Nat.reduceAdd, Nat.reduceSub, Nat.reduceEqDiff, Nat.reduceLeDiff, Nat.reduceLT, List.take_succ_cons, List.take_zero, List.drop_succ_cons, List.cons_append]
  · rw [if_neg he]
    have f1 : decide ((e : Int) = 0) = false := decide_eq_false (by omega)
    simp only [qC, y1, f1, go_sem, ne_eq, not_false_eq_true, reduceIte, Nat.reduceMul, Nat.reduceAdd, Nat.reduceSub, Nat.reduceEqDiff, Nat.reduceLeDiff, Nat.reduceLT, List.take_succ_cons, List.take_zero, List.drop_succ_cons, List.cons_append]
end Go.Proofs.YtpcjhfchpelonaaGreatDoor
set_option linter.unusedSimpArgs false
set_option linter.unusedVariables false
namespace Go.Proofs.YtpcjhfchpelonaaGreatDoor
open Ai
/-! ### Rows of four cells -/
inductive Rows4 : Nat → List V → Prop
  | nil : Rows4 0 []
  | cons (k : Int) (nm tx : List UInt8) (ys : List V) (m : Nat) (tk : Tk) (n : Nat) (xs : List V) (ht : tx.length ≤ 8192) (h : Rows4 n xs) : Rows4 (n + 1) (.i .i64 k :: .s nm :: .s tx :: .sl ys m tk :: xs)
theorem Rows4.len : ∀ {n : Nat} {xs : List V}, Rows4 n xs → xs.length = n * 4
  | _, _, .nil => rfl
  | _, _, .cons _ _ _ _ _ _ n xs _ h => by have := Rows4.len h; simp only [List.length_cons]; omega
theorem Rows4.app {n m : Nat} {xs ys : List V} (h1 : Rows4 n xs) (h2 : Rows4 m ys) : Rows4 (n + m) (xs ++ ys) := by
  induction h1 with
  | nil => rw [Nat.zero_add]; exact h2
  | cons k nm tx zs j tk n xs hq h ih => rw [show n + 1 + m = (n + m) + 1 from by omega]; exact .cons k nm tx zs j tk _ _ hq ih
theorem Rows4.one {n : Nat} {xs : List V} (h1 : Rows4 n xs) : allOne xs = true := by
  induction h1 with
  | nil => rfl
  | cons k nm tx zs j tk n xs hq h ih => simp only [allOne, V.one, cond_true]; exact ih
theorem Rows4.frz {n : Nat} {xs : List V} (hh : H) (f : Nat) (h1 : Rows4 n xs) : Rows4 n (xs.map (frz hh (f + 1))) := by
  induction h1 with
  | nil => exact .nil
  | cons k nm tx zs j tk n xs hq h ih => exact .cons k nm tx (zs.map (Ai.frz hh f)) j tk.cp n _ hq ih
theorem Rows4.split {n : Nat} {xs : List V} (h1 : Rows4 n xs) : ∀ i, i < n → ∃ k nm tx ys m tk, (xs.drop (i * 4)).take 4 = [.i .i64 k, .s nm, .s tx, .sl ys m tk] ∧ tx.length ≤ 8192 := by
  induction h1 with
  | nil => intro i h; omega
  | cons k nm tx zs j tk n xs hq h ih =>
    intro i hi
    match i with
    | 0 => exact ⟨k, nm, tx, zs, j, tk, rfl, hq⟩
    | i + 1 =>
      rw [show (i + 1) * 4 = i * 4 + 1 + 1 + 1 + 1 from by omega]
      exact ih i (by omega)
theorem okLs_mem : ∀ (pre : List Fil) (f : Fil) (post : List Fil), okLs (pre ++ f :: post) → okL f
  | [], f, post, h => by rw [List.nil_append, okLs] at h; exact h.1
  | g :: pre, f, post, h => by rw [List.cons_append, okLs] at h; exact okLs_mem pre f post h.2
mutual
def nds : Fil → Nat
  | .mk _ _ _ kids => 1 + ndss kids
def ndss : List Fil → Nat
  | [] => 0
  | f :: r => nds f + ndss r
end
theorem ndss_app (a b : List Fil) : ndss (a ++ b) = ndss a + ndss b := by
  induction a with
  | nil => rw [List.nil_append, ndss, Nat.zero_add]
  | cons f r ih => rw [List.cons_append, ndss, ndss, ih, Nat.add_assoc]
mutual
theorem bld_nds : ∀ (f : Fil) (d w : Nat), (bld f d w).1 = 0 → (bld f d w).2 = w + nds f
  | .mk k nm tx kids, d, w, h => by
    rw [bld] at h ⊢
    split at h
    · cases h
    · rename_i h1
      split at h
      · cases h
      · rename_i h2
        rw [if_neg h1, if_neg h2, blds_nds kids _ _ h, nds]
        omega
theorem blds_nds : ∀ (l : List Fil) (d w : Nat), (blds l d w).1 = 0 → (blds l d w).2 = w + ndss l
  | [], d, w, h => by rw [blds, ndss]; rfl
  | f :: r, d, w, h => by
    rw [blds] at h ⊢
    split at h
    · rename_i h0
      rw [if_pos h0, blds_nds r _ _ h, bld_nds f d w h0, ndss]
      omega
    · rename_i h0; exact absurd h h0
end
theorem chk_nds {f : Fil} (h : chk f = 0) : nds f ≤ 24 := by
  have h1 := bld_nds f 1 0 h
  have h2 := (bld_le f 1 0 (by decide)).2 h
  omega
/-! ### A row that is appended to -/
def OwnA (nt : Nat) (tips : List (Nat × (Nat × TypeId))) (n ty : Nat) (tk : Tk) : Prop := ∃ t, tk = .own t ∧ t < nt ∧ al tips t = some (n, ty)
theorem app_acc {nx : Nat} {obs : List (Nat × Ai.Obj)} {nt : Nat} {tips : List (Nat × (Nat × TypeId))} {ty sz n m : Nat} {tk tky : Tk} (g : OwnA nt tips n ty tk) {xs ys : List V} (hx : xs.length = n * sz) (hy : ys.length = m * sz) (h1 : allOne ys = true) (hm : n + m ≤ most) :
    ∃ tips', (∀ gl T its loc, St.app ⟨gl, T, its, loc, ⟨nx, obs, nt, tips⟩⟩ ty sz (.sl xs n tk) (.sl ys m tky) = some (.sl (xs ++ ys) (n + m) tk, ⟨gl, T, its, loc, ⟨nx, obs, nt, tips'⟩⟩)) ∧ OwnA nt tips' (n + m) ty tk := by
  obtain ⟨t, rfl, g3, g4⟩ := g
  by_cases h0 : m = 0
  · subst h0
    have : ys = [] := List.length_eq_zero_iff.1 (by omega)
    subst this
    refine ⟨tips, fun gl T its loc => ?_, ⟨t, rfl, g3, g4⟩⟩
    simp only [hy, h1, List.append_nil, Nat.add_zero, go_sem, ne_eq, not_false_eq_true, reduceIte, Nat.reduceMul, Nat.reduceAdd, Nat.reduceSub, Nat.reduceEqDiff, Nat.reduceLeDiff, Nat.reduceLT, List.take_succ_cons, List.take_zero, List.drop_succ_cons, List.cons_append]
  · have hb : Nat.beq m 0 = false := by cases hb : Nat.beq m 0 with | true => exact absurd (Nat.eq_of_beq_eq_true hb) h0 | false => rfl
    have hq : Nat.beq m (m * 0) = false ∨ True := .inr trivial
    refine ⟨alSet tips t (n + m, ty), fun gl T its loc => ?_, ⟨t, rfl, g3, ?_⟩⟩
    · simp only [hx, hy, h1, hb, hm, g4, go_sem, ne_eq, not_false_eq_true, reduceIte, Nat.reduceMul, Nat.reduceAdd, Nat.reduceSub, Nat.reduceEqDiff, Nat.reduceLeDiff, Nat.reduceLT, List.take_succ_cons, List.take_zero, List.drop_succ_cons, List.cons_append]
    · rw [al_set, if_pos rfl]
/-! ### must -/
def ResM (f : Nat) (v : V) : Prop := ∃ xs n tk, v = .sl xs n tk ∧ Rows4 n xs ∧ n ≤ f
def R_must (a : List V) (v : V) : Prop := ∀ (f : Fil) (c : List V), a = [.agg c] → FilR f c → ResM (nds f) v
def S_must (N : Nat) : Prop := ∀ (f : Fil) (c : List V), nds f ≤ N → N ≤ 10000 → FilR f c → okL f → ∃ v, Comp tabx told 68 [.agg c] v ∧ ResM (nds f) v
noncomputable def X_must := xs [(68, pickP 68 R_must)]
theorem t_must : Tells tabx told X_must := tells_cons pickP_tells tells_nil
theorem call_must {N : Nat} (S : S_must N) {f : Fil} {c : List V} (h1 : nds f ≤ N) (h2 : N ≤ 10000) (hf : FilR f c) (ho : okL f) : ∃ xs n tk, X_must 68 [.agg c] = some (.sl xs n tk) ∧ Rows4 n xs ∧ n ≤ nds f := by
  obtain ⟨v, hc, hr⟩ := S f c h1 h2 hf ho
  obtain ⟨v, e1, r1⟩ := pickP_spec (R := R_must) hc (by
    intro f' c' e1 hf'
    simp only [List.cons.injEq, V.agg.injEq, and_true] at e1
    subst e1
    rw [← FilR.uniq f f' c hf hf']
    exact hr)
  obtain ⟨xs, n, tk, rfl, q1, q2⟩ := r1 f c rfl hf
  exact ⟨xs, n, tk, e1, q1, q2⟩
def K68_1 : List Fr := [.blk 0,
 .seq (.seq (.reg [⟨some 23, .mov (.t 3), none⟩, ⟨some 2, .mov (.t 23), none⟩])
 .ret)]
theorem UH68_1 : type_of% (@Hp_open _ _ L68_1.eq_1) := @Hp_open _ _ L68_1.eq_1
theorem UH68 : type_of% (@Hp_open _ _ B68.eq_1) := @Hp_open _ _ B68.eq_1
def kz68 (_ : Nat) : List Nat := [0, 1, 2, 4, 5, 6, 7, 8, 9, 10, 11, 15, 16, 17, 18, 19, 20, 21, 22, 23]
section
variable {N : Nat}
set_option maxRecDepth 100000 in
theorem w_mkids (S : S_must N) (hN : N ≤ 10000) (k : Int) (nm tx : List UInt8) (kids : List Fil) (ys : List V) (tk0 : Tk) (hy : KidsR kids ys) (hk : ndss kids ≤ N) (hoL : okLs kids) : ∀ (post pre : List Fil) (n nt : Nat) (xs : List V) (tk : Tk) (tips : List (Nat × (Nat × TypeId))) (l8 : List (Nat × List V)), kids = pre ++ post → n ≤ ndss pre → Rows4 n xs → OwnA nt tips n 24 tk →
    Hp.M X_must noY (kz68) (.code L68_1) (.loop L68_1 :: K68_1) ⟨gl0, (.node (.node (.node (.node (.node .leaf .any .leaf) .any (.node .leaf .any .leaf)) (.sl xs n tk) (.node (.node .leaf .any .leaf) .any (.node .leaf .any .leaf))) .any (.node (.node (.node .leaf .any .leaf) .any (.node .leaf .any .leaf)) .any (.node (.node .leaf .any .leaf) (.i .i64 (kids.length : Nat)) (.node .leaf .any .leaf)))) .any (.node (.node (.node (.node .leaf .any .leaf) .any (.node .leaf .any .leaf)) .any (.node (.node .leaf .any .leaf) (.sl ys kids.length tk0) (.node .leaf .any .leaf))) .any (.node (.node (.node .leaf .any .leaf) .any (.node .leaf .any .leaf)) .any (.node (.node .leaf .any .leaf) (.i .i64 (pre.length : Nat)) (.node .leaf .any .leaf))))), [], (1, [.i .i64 k, .s nm, .s tx, .sl ys kids.length tk0]) :: l8, ⟨0, [], nt, tips⟩⟩
      (fun ex st => ∃ v, Fin [.tmp 2] v ex st ∧ ResM (1 + ndss kids) v) := by
  intro post
  induction post with
  | nil =>
    intro pre n nt xs tk tips l8 hk1 hn hr ho
    have hl : kids.length = pre.length := by rw [hk1]; simp
    have e1 : decide ((pre.length : Int) < (kids.length : Int)) = false := decide_eq_false (by omega)
    rw [UH68_1]
    simp only [e1, K68_1, go_sem, ne_eq, not_false_eq_true, reduceIte, Nat.reduceMul, Nat.reduceAdd, Nat.reduceSub, Nat.reduceEqDiff, Nat.reduceLeDiff, Nat.reduceLT, List.take_succ_cons, List.take_zero, List.drop_succ_cons, List.cons_append]
    refine ⟨_, rfl, _, _, _, rfl, Rows4.frz _ 98 hr, ?_⟩
    rw [hk1, List.append_nil]; omega
  | cons f post ih =>
    intro pre n nt xs tk tips l8 hk1 hn hr ho
    have hl : kids.length = pre.length + post.length + 1 := by rw [hk1]; simp; omega
    have e1 : decide ((pre.length : Int) < (kids.length : Int)) = true := decide_eq_true (by omega)
    have g1 : pre.length < kids.length := by omega
    have hyl := hy.len
    have g2 : (pre.length + 1) * 4 ≤ kids.length * 4 := by omega
    obtain ⟨c, hc, ht⟩ := hy.split pre f post hk1
    have hs : ndss kids = ndss pre + (nds f + ndss post) := by rw [hk1, ndss_app, ndss]
    obtain ⟨zs, m, tkz, y4, q1, q2⟩ := call_must S (by omega) hN hc (okLs_mem pre f post (hk1 ▸ hoL))
    have w2 : wr .i64 ((pre.length : Int) + 1) = ((pre.length + 1 : Nat) : Int) := by
      have := hy.len
      have : kids.length ≤ ndss kids := by
        have : ∀ l : List Fil, l.length ≤ ndss l := by
          intro l
          induction l with
          | nil => exact Nat.zero_le _
          | cons g r ih =>
            have : 1 ≤ nds g := by cases g; rw [nds]; omega
            rw [List.length_cons, ndss]; omega
        exact this kids
      rw [wr64] <;> omega
    obtain ⟨tips', hap, g3⟩ := app_acc (nx := 0) (obs := []) (tky := tkz) ho (sz := 4) hr.len q1.len q1.one (by unfold most; omega)
    have := fun l8 => ih (pre ++ [f]) (n + m) nt (xs ++ zs) tk tips' l8 (by rw [hk1]; simp) (by rw [ndss_app, ndss, ndss]; omega) (hr.app q1) g3
    rw [UH68_1]
    cases hc with | mk k1 nm1 tx1 kids1 xs1 n1 tk1 hn1 hx1 =>
    simp only [e1, g1, hyl, g2, rd_ip, ht, y4, hap, w2, splice, go_sem, ne_eq, not_false_eq_true, reduceIte, Nat.reduceMul, Nat.reduceAdd, Nat.reduceSub, Nat.reduceEqDiff, Nat.reduceLeDiff, Nat.reduceLT, List.take_succ_cons, List.take_zero, List.drop_succ_cons, List.cons_append]
    rw [Hp.M_loop]
    simp only [kz68, K68_1, List.length_append, List.length_cons, List.length_nil, Nat.zero_add, go_sem, ne_eq, not_false_eq_true, reduceIte, Nat.reduceMul, Nat.reduceAdd, Nat.reduceSub, Nat.reduceEqDiff, Nat.reduceLeDiff, Nat.reduceLT, List.take_succ_cons, List.take_zero, List.drop_succ_cons, List.cons_append] at this ⊢
    exact this _
set_option maxRecDepth 100000 in
theorem s_must (S : S_must N) : S_must (N + 1) := by
  intro f c h1 h2 hf hol
  have hs := FilR.strip f c hf
  refine comp_ex (xf := X_must) (xh := noY) (kz := kz68) (fn := af68) t_must tells_noY rfl (Nat.le_of_ble_eq_true rfl) ?_
  rw [show stripL [V.agg c] = [.agg (stripL c)] from by simp only [stripL, V.strip]]
  generalize stripL c = c2 at hs
  show Hp.M _ _ _ (.code B68) _ (St.init gl0 5 _ _) (fun ex st => ∃ v, Fin [.tmp 2] v ex st ∧ _)
  rw [UH68]
  cases hs with | mk k nm tx kids xs n tk hn hx =>
  subst hn
  rw [nds] at h1 ⊢
  rw [okL] at hol
  cases e5 : decide (k = 5) with
  | false =>
    simp only [e5, splice, go_sem, ne_eq, not_false_eq_true, reduceIte, Nat.reduceMul, Nat.reduceAdd, Nat.reduceSub, Nat.reduceEqDiff, Nat.reduceLeDiff, Nat.reduceLT, List.take_succ_cons, List.take_zero, List.drop_succ_cons, List.cons_append]
    exact ⟨_, rfl, _, _, _, rfl, .cons _ _ _ _ _ _ 0 [] hol.2.1 .nil, by omega⟩
  | true =>
    have := fun (nt : Nat) (tips : List (Nat × (Nat × TypeId))) (t : Nat) (ho : OwnA nt tips 0 24 (.own t)) => w_mkids S (by omega) k nm tx kids xs tk hx (by omega) hol.2.2 kids [] 0 nt [] (.own t) tips [] rfl (Nat.zero_le _) .nil ho
    simp only [e5, splice, go_sem, ne_eq, not_false_eq_true, reduceIte, Nat.reduceMul, Nat.reduceAdd, Nat.reduceSub, Nat.reduceEqDiff, Nat.reduceLeDiff, Nat.reduceLT, List.take_succ_cons, List.take_zero, List.drop_succ_cons, List.cons_append]
    rw [Hp.M_loop]
    simp only [kz68, K68_1, List.length_cons, List.length_nil, Int.cast_ofNat_Int, go_sem, ne_eq, not_false_eq_true, reduceIte, Nat.reduceMul, Nat.reduceAdd, Nat.reduceSub, Nat.reduceEqDiff, Nat.reduceLeDiff, Nat.reduceLT, List.take_succ_cons, List.take_zero, List.drop_succ_cons, List.cons_append] at this ⊢
    exact this _ _ _ ⟨_, rfl, by decide, rfl⟩
theorem s_must_all : ∀ N, S_must N
  | 0 => fun f _ h1 _ _ _ => by have : 1 ≤ nds f := by { cases f; rw [nds]; omega }; omega
  | N + 1 => s_must (s_must_all N)
end
end Go.Proofs.YtpcjhfchpelonaaGreatDoor
set_option linter.unusedSimpArgs false
set_option linter.unusedVariables false
namespace Go.Proofs.YtpcjhfchpelonaaGreatDoor
open Ai
def runQ (g : FuncId) (a : List V) (h : H) : Option (V × H) := runI gl0 tabx (fun _ _ => none) 1000 g a h
theorem runQ_ok {g : FuncId} {a : List V} {h h' : H} {v : V} (e : runQ g a h = some (v, h')) : Hp.CompI tabx told g a h v h' := fun gl hok => by
  have : gl = gl0 := hok
  subst this
  exact runI_ev (fun _ _ h => h) (fun _ _ _ h => by cases h) hok e
/-- The memory behind 'of'. -/
def hO : H := ⟨2, [(1, .cells 61 [.fn 65 [] [.p 0 0]]), (0, .cells 79 [.ifc 47 .nilp])], 0, []⟩
def srcO : List V := [.fn 65 [] [.p 0 0], .fn 66 [] [.p 1 0], .fn 67 [] [.p 0 0]]
theorem of_nobody : runQ 35 [.ifc 47 .nilp] {} = some (.agg srcO, hO) := by kernel_rfl
theorem views_nobody (nm : List UInt8) : runQ 67 [.s nm, .p 0 0] hO = some (.tup [.sl [] 0 .nil, .b false], hO) := by kernel_rfl
theorem keys_nobody (nx : Nat) (qc : List V) (nt : Nat) (tips : List (Nat × (Nat × TypeId))) (a b : List UInt8) : runQ 65 [.s a, .s b, .p 0 0] ⟨nx, (2, .cells 26 qc) :: hO.objs, nt, tips⟩ = some (.sl [] 0 (.own (nt + 1)), ⟨nx, (2, .cells 26 qc) :: hO.objs, nt + 2, (nt + 1, (0, 35)) :: (nt, (0, 35)) :: tips⟩) := by kernel_rfl
/-! ### choose -/
theorem k_callvI (xf : FuncId → List V → Option V) (xh : FuncId → List V → H → Option (V × H)) (gl : Nat → List V) (T : T) (its : List (Nat × (List UInt8 × Nat))) (loc : List (Nat × List V)) (h : H) (d : Nat) (x : Opd) (args : List Opd) :
    Hp.stepK xf xh ⟨gl, T, its, loc, h⟩ d (.callv false x args) = (match St.ev ⟨gl, T, its, loc, h⟩ x with | .fn f first cap => (xh f (first ++ evL ⟨gl, T, its, loc, h⟩ args ++ cap) h).map fun p => (p.1, ⟨gl, T, its, loc, p.2⟩) | _ => none) := rfl
noncomputable def X_ch := X_must
def Y_ch := ys [(67, runQ 67)]
theorem t_ch : Hp.TellsI tabx told Y_ch := itells_cons (fun _ _ _ _ e => runQ_ok e) itells_nil
def ResCh (v : V) (h' : H) : Prop := h' = hO ∧ ∃ (pk : Int) (best : List UInt8), (pk = 0 ∨ pk = 1) ∧ best.length ≤ 8192 ∧ v = .agg [.i .i64 pk, .s [], .s best]
def K36_2 : List Fr := [.blk 2,
 .seq (.seq (.seq (.reg [⟨some 60, .mov (.t 10), none⟩, ⟨some 61, .bin .neq (.t 60) (.k (.s [])), none⟩])
 (.cond (.t 61)
 (.seq (.reg [⟨some 62, .mov (.t 10), none⟩, ⟨some 63, .build [(.i .i64 0), (.s []), (.s [])] [(0, 1, (.k (.i .i64 1))), (2, 1, (.t 62))], none⟩, ⟨some 64, .build [(.i .i64 0), (.s []), (.s [])] [(0, 3, (.t 63))], none⟩, ⟨none, .store 3 (.t 4) (.t 64), none⟩])
 .ret)
 .skip))
 (.seq (.reg [⟨some 65, .build [(.i .i64 0), (.s []), (.s [])] [(0, 1, (.k (.i .i64 0)))], none⟩, ⟨some 66, .build [(.i .i64 0), (.s []), (.s [])] [(0, 3, (.t 65))], none⟩, ⟨none, .store 3 (.t 4) (.t 66), none⟩])
 .ret))]
theorem UH36_2 : type_of% (@Hp_open _ _ L36_2.eq_1) := @Hp_open _ _ L36_2.eq_1
def K36_1 : List Fr := [.blk 0,
 .seq (.seq (.reg [⟨some 10, .mov (.k (.s [])), none⟩])
 (.seq (.seq (.reg [⟨some 40, .mov (.t 5), none⟩, ⟨some 41, .len .slice (.t 40), none⟩, ⟨some 42, .mov (.k (.i .i64 0)), none⟩])
 (.blk 2 (.loop L36_2)))
 (.seq (.seq (.reg [⟨some 60, .mov (.t 10), none⟩, ⟨some 61, .bin .neq (.t 60) (.k (.s [])), none⟩])
 (.cond (.t 61)
 (.seq (.reg [⟨some 62, .mov (.t 10), none⟩, ⟨some 63, .build [(.i .i64 0), (.s []), (.s [])] [(0, 1, (.k (.i .i64 1))), (2, 1, (.t 62))], none⟩, ⟨some 64, .build [(.i .i64 0), (.s []), (.s [])] [(0, 3, (.t 63))], none⟩, ⟨none, .store 3 (.t 4) (.t 64), none⟩])
 .ret)
 .skip))
 (.seq (.reg [⟨some 65, .build [(.i .i64 0), (.s []), (.s [])] [(0, 1, (.k (.i .i64 0)))], none⟩, ⟨some 66, .build [(.i .i64 0), (.s []), (.s [])] [(0, 3, (.t 65))], none⟩, ⟨none, .store 3 (.t 4) (.t 66), none⟩])
 .ret))))]
theorem UH36_1 : type_of% (@Hp_open _ _ L36_1.eq_1) := @Hp_open _ _ L36_1.eq_1
theorem UH36 : type_of% (@Hp_open _ _ B36.eq_1) := @Hp_open _ _ B36.eq_1
def kz36 (_ : Nat) : List Nat := [0, 1, 2, 6, 7, 8, 9, 11, 12, 13, 14, 18, 19, 20, 21, 22, 23, 24, 25, 26, 27, 28, 29, 30, 31, 32, 33, 34, 35, 36, 37, 38, 39, 43, 44, 45, 46, 47, 48, 49, 50, 51, 52, 53, 54, 55, 56, 57, 58, 59, 60, 61, 62, 63, 64, 65, 66]
set_option maxRecDepth 100000 in
theorem w_ch2 (wc xs : List V) (n : Nat) (tk : Tk) (v17 : V) (hr : Rows4 n xs) (hn : n ≤ 10000) : ∀ (m i : Nat) (best : List UInt8) (l8 : List (Nat × List V)), i + m = n → best.length ≤ 8192 →
    Hp.M X_ch Y_ch (kz36) (.code L36_2) (.loop L36_2 :: K36_2) ⟨gl0, (.node (.node (.node (.node (.node (.node (.node .leaf .any .leaf) .any (.node .leaf .any .leaf)) (.sl xs n tk) (.node (.node .leaf .any .leaf) .any (.node .leaf .any .leaf))) .any (.node (.node (.node .leaf .any .leaf) .any (.node .leaf .any .leaf)) .any (.node (.node .leaf .any .leaf) .any (.node .leaf .any .leaf)))) (.l 3 0) (.node (.node (.node (.node .leaf .any .leaf) .any (.node .leaf .any .leaf)) .any (.node (.node .leaf .any .leaf) .any (.node .leaf .any .leaf))) .any (.node (.node (.node .leaf .any .leaf) .any (.node .leaf .any .leaf)) .any (.node (.node .leaf .any .leaf) .any (.node .leaf .any .leaf))))) .any (.node (.node (.node (.node (.node .leaf .any .leaf) .any (.node .leaf .any .leaf)) (v17) (.node (.node .leaf .any .leaf) .any (.node .leaf .any .leaf))) .any (.node (.node (.node .leaf .any .leaf) (.i .i64 (n : Nat)) (.node .leaf .any .leaf)) .any (.node (.node .leaf .any .leaf) .any (.node .leaf .any .leaf)))) (.sl xs n tk) (.node (.node (.node (.node .leaf .any .leaf) .any (.node .leaf .any .leaf)) .any (.node (.node .leaf .any .leaf) .any (.node .leaf .any .leaf))) .any (.node (.node (.node .leaf .any .leaf) .any (.node .leaf .any .leaf)) .any (.node (.node .leaf .any .leaf) .any (.node .leaf .any .leaf)))))) .any (.node (.node (.node (.node (.node (.node .leaf .any .leaf) .any (.node .leaf .any .leaf)) (.i .i64 (n : Nat)) (.node (.node .leaf .any .leaf) .any (.node .leaf .any .leaf))) .any (.node (.node (.node .leaf .any .leaf) (.sl xs n tk) (.node .leaf .any .leaf)) .any (.node (.node .leaf .any .leaf) .any (.node .leaf .any .leaf)))) (.l 4 0) (.node (.node (.node (.node .leaf .any .leaf) .any (.node .leaf .any .leaf)) .any (.node (.node .leaf .any .leaf) .any (.node .leaf .any .leaf))) .any (.node (.node (.node .leaf .any .leaf) .any (.node .leaf .any .leaf)) .any (.node (.node .leaf .any .leaf) .any (.node .leaf .any .leaf))))) .any (.node (.node (.node (.node (.node .leaf .any .leaf) .any (.node .leaf .any .leaf)) .any (.node (.node .leaf .any .leaf) .any (.node .leaf .any .leaf))) (.s best) (.node (.node (.node .leaf .any .leaf) (.i .i64 (i : Nat)) (.node .leaf .any .leaf)) .any (.node (.node .leaf .any .leaf) .any (.node .leaf .any .leaf)))) .any (.node (.node (.node (.node .leaf .any .leaf) .any (.node .leaf .any .leaf)) .any (.node (.node .leaf .any .leaf) .any (.node .leaf .any .leaf))) .any (.node (.node (.node .leaf .any .leaf) .any (.node .leaf .any .leaf)) .any (.node (.node .leaf .any .leaf) .any (.node .leaf .any .leaf))))))), [], (2, wc) :: (3, srcO) :: (4, [.i .i64 0, .s [], .s []]) :: l8, hO⟩
      (fun ex st => ∃ v h', Hp.FinI [.cell 4 true 3] v h' ex st ∧ ResCh v h') := by
  intro m
  induction m with
  | zero =>
    intro i best l8 hi hbl
    have e1 : decide ((i : Int) < (n : Int)) = false := decide_eq_false (by omega)
    rw [UH36_2]
    have eB := strEq_dec best []
    cases hb : decide (best = []) <;> rw [hb] at eB <;> simp only [e1, eB, splice, K36_2, go_sem, ne_eq, not_false_eq_true, reduceIte, Nat.reduceMul, Nat.reduceAdd, Nat.reduceSub, Nat.reduceEqDiff, Nat.reduceLeDiff, Nat.reduceLT, List.take_succ_cons, List.take_zero, List.drop_succ_cons, List.cons_append]
    · exact ⟨_, _, ⟨rfl, rfl⟩, rfl, 1, best, .inr rfl, hbl, rfl⟩
    · exact ⟨_, _, ⟨rfl, rfl⟩, rfl, 0, [], .inl rfl, Nat.zero_le _, rfl⟩
  | succ m ih =>
    intro i best l8 hi hbl
    have e1 : decide ((i : Int) < (n : Int)) = true := decide_eq_true (by omega)
    have g1 : i < n := by omega
    have hyl := hr.len
    have g2 : (i + 1) * 4 ≤ n * 4 := by omega
    obtain ⟨k, nm, tx, zs, mm, tk1, ht, htl⟩ := hr.split i g1
    have w2 : wr .i64 ((i : Int) + 1) = ((i + 1 : Nat) : Int) := by rw [wr64] <;> omega
    rw [UH36_2]
    cases ek : decide (k = 1) with
    | false =>
      have := fun l8 => ih (i + 1) best l8 (by omega) hbl
      simp only [e1, g1, hyl, g2, rd_ip, ht, ek, w2, splice, go_sem, ne_eq, not_false_eq_true, reduceIte, Nat.reduceMul, Nat.reduceAdd, Nat.reduceSub, Nat.reduceEqDiff, Nat.reduceLeDiff, Nat.reduceLT, List.take_succ_cons, List.take_zero, List.drop_succ_cons, List.cons_append]
      rw [Hp.M_loop]
      simp only [kz36, K36_2, List.length_append, List.length_cons, List.length_nil, Nat.zero_add, go_sem, ne_eq, not_false_eq_true, reduceIte, Nat.reduceMul, Nat.reduceAdd, Nat.reduceSub, Nat.reduceEqDiff, Nat.reduceLeDiff, Nat.reduceLT, List.take_succ_cons, List.take_zero, List.drop_succ_cons, List.cons_append] at this ⊢
      exact this _
    | true =>
      cases el : decide ((best.length : Int) < (tx.length : Int)) with
      | false =>
        have := fun l8 => ih (i + 1) best l8 (by omega) hbl
        simp only [e1, g1, hyl, g2, rd_ip, ht, ek, el, w2, splice, go_sem, ne_eq, not_false_eq_true, reduceIte, Nat.reduceMul, Nat.reduceAdd, Nat.reduceSub, Nat.reduceEqDiff, Nat.reduceLeDiff, Nat.reduceLT, List.take_succ_cons, List.take_zero, List.drop_succ_cons, List.cons_append]
        rw [Hp.M_loop]
        simp only [kz36, K36_2, List.length_append, List.length_cons, List.length_nil, Nat.zero_add, go_sem, ne_eq, not_false_eq_true, reduceIte, Nat.reduceMul, Nat.reduceAdd, Nat.reduceSub, Nat.reduceEqDiff, Nat.reduceLeDiff, Nat.reduceLT, List.take_succ_cons, List.take_zero, List.drop_succ_cons, List.cons_append] at this ⊢
        exact this _
      | true =>
        have := fun l8 => ih (i + 1) tx l8 (by omega) htl
        simp only [e1, g1, hyl, g2, rd_ip, ht, ek, el, w2, splice, go_sem, ne_eq, not_false_eq_true, reduceIte, Nat.reduceMul, Nat.reduceAdd, Nat.reduceSub, Nat.reduceEqDiff, Nat.reduceLeDiff, Nat.reduceLT, List.take_succ_cons, List.take_zero, List.drop_succ_cons, List.cons_append]
        rw [Hp.M_loop]
        simp only [kz36, K36_2, List.length_append, List.length_cons, List.length_nil, Nat.zero_add, go_sem, ne_eq, not_false_eq_true, reduceIte, Nat.reduceMul, Nat.reduceAdd, Nat.reduceSub, Nat.reduceEqDiff, Nat.reduceLeDiff, Nat.reduceLT, List.take_succ_cons, List.take_zero, List.drop_succ_cons, List.cons_append] at this ⊢
        exact this _
set_option maxRecDepth 100000 in
theorem w_ch1 (wc xs : List V) (n : Nat) (tk : Tk) (hr : Rows4 n xs) (hn : n ≤ 10000) : ∀ (m i : Nat) (l8 : List (Nat × List V)), i + m = n →
    Hp.M X_ch Y_ch (kz36) (.code L36_1) (.loop L36_1 :: K36_1) ⟨gl0, (.node (.node (.node (.node (.node (.node (.node .leaf .any .leaf) .any (.node .leaf .any .leaf)) (.sl xs n tk) (.node (.node .leaf .any .leaf) .any (.node .leaf .any .leaf))) .any (.node (.node (.node .leaf .any .leaf) .any (.node .leaf .any .leaf)) .any (.node (.node .leaf .any .leaf) .any (.node .leaf .any .leaf)))) (.l 3 0) (.node (.node (.node (.node .leaf .any .leaf) .any (.node .leaf .any .leaf)) .any (.node (.node .leaf .any .leaf) .any (.node .leaf .any .leaf))) .any (.node (.node (.node .leaf .any .leaf) .any (.node .leaf .any .leaf)) .any (.node (.node .leaf .any .leaf) .any (.node .leaf .any .leaf))))) .any (.node (.node (.node (.node (.node .leaf .any .leaf) .any (.node .leaf .any .leaf)) (.i .i64 (i : Nat)) (.node (.node .leaf .any .leaf) .any (.node .leaf .any .leaf))) .any (.node (.node (.node .leaf .any .leaf) .any (.node .leaf .any .leaf)) .any (.node (.node .leaf .any .leaf) .any (.node .leaf .any .leaf)))) (.sl xs n tk) (.node (.node (.node (.node .leaf .any .leaf) .any (.node .leaf .any .leaf)) .any (.node (.node .leaf .any .leaf) .any (.node .leaf .any .leaf))) .any (.node (.node (.node .leaf .any .leaf) .any (.node .leaf .any .leaf)) .any (.node (.node .leaf .any .leaf) .any (.node .leaf .any .leaf)))))) .any (.node (.node (.node (.node (.node (.node .leaf .any .leaf) .any (.node .leaf .any .leaf)) (.i .i64 (n : Nat)) (.node (.node .leaf .any .leaf) .any (.node .leaf .any .leaf))) .any (.node (.node (.node .leaf .any .leaf) .any (.node .leaf .any .leaf)) .any (.node (.node .leaf .any .leaf) .any (.node .leaf .any .leaf)))) (.l 4 0) (.node (.node (.node (.node .leaf .any .leaf) .any (.node .leaf .any .leaf)) .any (.node (.node .leaf .any .leaf) .any (.node .leaf .any .leaf))) .any (.node (.node (.node .leaf .any .leaf) .any (.node .leaf .any .leaf)) .any (.node (.node .leaf .any .leaf) .any (.node .leaf .any .leaf))))) .any (.node (.node (.node (.node (.node .leaf .any .leaf) .any (.node .leaf .any .leaf)) .any (.node (.node .leaf .any .leaf) .any (.node .leaf .any .leaf))) .any (.node (.node (.node .leaf .any .leaf) .any (.node .leaf .any .leaf)) .any (.node (.node .leaf .any .leaf) .any (.node .leaf .any .leaf)))) .any (.node (.node (.node (.node .leaf .any .leaf) .any (.node .leaf .any .leaf)) .any (.node (.node .leaf .any .leaf) .any (.node .leaf .any .leaf))) .any (.node (.node (.node .leaf .any .leaf) .any (.node .leaf .any .leaf)) .any (.node (.node .leaf .any .leaf) .any (.node .leaf .any .leaf))))))), [], (2, wc) :: (3, srcO) :: (4, [.i .i64 0, .s [], .s []]) :: l8, hO⟩
      (fun ex st => ∃ v h', Hp.FinI [.cell 4 true 3] v h' ex st ∧ ResCh v h') := by
  intro m
  induction m with
  | zero =>
    intro i l8 hi
    have e1 : decide ((i : Int) < (n : Int)) = false := decide_eq_false (by omega)
    rw [UH36_1]
    have := fun l8 => w_ch2 wc xs n tk (.i .i64 (i : Nat)) hr hn n 0 [] l8 (by omega) (Nat.zero_le _)
    simp only [e1, splice, K36_1, go_sem, ne_eq, not_false_eq_true, reduceIte, Nat.reduceMul, Nat.reduceAdd, Nat.reduceSub, Nat.reduceEqDiff, Nat.reduceLeDiff, Nat.reduceLT, List.take_succ_cons, List.take_zero, List.drop_succ_cons, List.cons_append]
    rw [Hp.M_loop]
    simp only [kz36, K36_2, List.length_append, List.length_cons, List.length_nil, Nat.zero_add, Int.cast_ofNat_Int, go_sem, ne_eq, not_false_eq_true, reduceIte, Nat.reduceMul, Nat.reduceAdd, Nat.reduceSub, Nat.reduceEqDiff, Nat.reduceLeDiff, Nat.reduceLT, List.take_succ_cons, List.take_zero, List.drop_succ_cons, List.cons_append] at this ⊢
    exact this _
  | succ m ih =>
    intro i l8 hi
    have e1 : decide ((i : Int) < (n : Int)) = true := decide_eq_true (by omega)
    have g1 : i < n := by omega
    have hyl := hr.len
    have g2 : (i + 1) * 4 ≤ n * 4 := by omega
    obtain ⟨k, nm, tx, zs, mm, tk1, ht, htl⟩ := hr.split i g1
    have w2 : wr .i64 ((i : Int) + 1) = ((i + 1 : Nat) : Int) := by rw [wr64] <;> omega
    have y1 : Y_ch 67 [.s nm, .p 0 0] hO = some (.tup [.sl [] 0 .nil, .b false], hO) := by show ys _ _ _ _ = _; rw [ys_hit]; exact views_nobody nm
    have := fun l8 => ih (i + 1) l8 (by omega)
    rw [UH36_1]
    cases ek : decide (k = 2) <;> simp only [e1, g1, hyl, g2, rd_ip, ht, ek, srcO, k_callvI, List.nil_append, y1, w2, splice, go_sem, ne_eq, not_false_eq_true, reduceIte, Nat.reduceMul, Nat.reduceAdd, Nat.reduceSub, Nat.reduceEqDiff, Nat.reduceLeDiff, Nat.reduceLT, List.take_succ_cons, List.take_zero, List.drop_succ_cons, List.cons_append] at this ⊢ <;> rw [Hp.M_loop] <;>
      simp only [kz36, K36_1, List.length_append, List.length_cons, List.length_nil, Nat.zero_add, go_sem, ne_eq, not_false_eq_true, reduceIte, Nat.reduceMul, Nat.reduceAdd, Nat.reduceSub, Nat.reduceEqDiff, Nat.reduceLeDiff, Nat.reduceLT, List.take_succ_cons, List.take_zero, List.drop_succ_cons, List.cons_append] at this ⊢ <;> exact this _
set_option maxRecDepth 100000 in
theorem s_choose (f : Fil) (c : List V) (hf : FilR f c) (hn : nds f ≤ 10000) (hol : okL f) : ∃ v h', Hp.CompI tabx told 36 [.agg c, .agg srcO] hO v h' ∧ ResCh v h' := by
  refine compI_ex (xf := X_ch) (xh := Y_ch) (kz := kz36) (fn := af36) t_must t_ch rfl (Nat.le_of_ble_eq_true rfl) ?_
  show Hp.M _ _ _ (.code B36) _ (St.init gl0 7 _ _) (fun ex st => ∃ v h', Hp.FinI [.cell 4 true 3] v h' ex st ∧ _)
  obtain ⟨xs, n, tk, y4, q1, q2⟩ := call_must (s_must_all (nds f)) (Nat.le_refl _) hn hf hol
  have y4 : X_ch 68 [.agg c] = some (.sl xs n tk) := y4
  have := fun l8 => w_ch1 c xs n tk q1 (by omega) n 0 l8 (by omega)
  rw [UH36]
  cases hf with | mk k nm tx kids xs1 n1 tk1 hn1 hx1 =>
  simp only [y4, splice, go_sem, ne_eq, not_false_eq_true, reduceIte, Nat.reduceMul, Nat.reduceAdd, Nat.reduceSub, Nat.reduceEqDiff, Nat.reduceLeDiff, Nat.reduceLT, List.take_succ_cons, List.take_zero, List.drop_succ_cons, List.cons_append]
  rw [Hp.M_loop]
  simp only [kz36, K36_1, List.length_append, List.length_cons, List.length_nil, Nat.zero_add, Int.cast_ofNat_Int, go_sem, ne_eq, not_false_eq_true, reduceIte, Nat.reduceMul, Nat.reduceAdd, Nat.reduceSub, Nat.reduceEqDiff, Nat.reduceLeDiff, Nat.reduceLT, List.take_succ_cons, List.take_zero, List.drop_succ_cons, List.cons_append] at this ⊢
  exact this _
end Go.Proofs.YtpcjhfchpelonaaGreatDoor
