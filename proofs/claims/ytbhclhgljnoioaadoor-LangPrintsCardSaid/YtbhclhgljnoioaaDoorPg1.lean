/- The document's check of a filter: walked. -/
import Derived.Test.YtbhclhgljnoioaaDoorPg0
set_option linter.unusedSimpArgs false
set_option linter.unusedVariables false
namespace Go.Proofs.YtbhclhgljnoioaaDoor
open Ai
/-! ### May -/
def X_may := xs [(107, F_rKey), (109, F_rValue), (108, F_rName)]
theorem t_may : Tells tabx told X_may := tells_cons o_rKey (tells_cons o_rValue (tells_cons o_rName tells_nil))
theorem U89 {xf : FuncId → List V → Option V} {kz : Nat → List Nat} {k : List Fr} {st : St} {Q : AEx → St → Prop} : M xf kz (.code B89) k st Q = M xf kz (.code (.seq (.reg [⟨some 1, .lbox (.t 0) [1, 5, 9, 13, 17, 30, 35, 44, 50, 59], none⟩,
     ⟨some 2, .mov (.k (.b false)), none⟩])
  (.seq (.reg [⟨some 5, .faddr 1 (.t 1), none⟩,
     ⟨some 6, .load false 1 (.t 5), none⟩,
     ⟨some 7, .bin .eql (.t 6) (.k (.s [])), none⟩,
     ⟨some 8, .mov (.t 7), none⟩,
     ⟨some 9, .faddr 2 (.t 1), some (8, true)⟩,
     ⟨some 10, .load false 1 (.t 9), some (8, true)⟩,
     ⟨some 11, .bin .eql (.t 10) (.k (.s [])), some (8, true)⟩,
     ⟨some 12, .pick (.t 8) (.t 11) (.k (.b false)), none⟩,
     ⟨some 3, .mov (.t 12), none⟩])
  (.seq (.reg [⟨some 13, .faddr 3 (.t 1), none⟩,
     ⟨some 14, .load false 1 (.t 13), none⟩,
     ⟨some 15, .len .slice (.t 14), none⟩,
     ⟨some 16, .bin .eql (.t 15) (.k (.i .i64 0)), none⟩,
     ⟨some 4, .mov (.t 16), none⟩])
  (.seq (.seq (.reg [⟨some 17, .faddr 0 (.t 1), none⟩,
      ⟨some 18, .load false 1 (.t 17), none⟩])
   (.blk 0 (.seq (.seq (.reg [⟨some 20, .bin .eql (.t 18) (.k (.i .i64 0)), none⟩,
        ⟨some 19, .mov (.t 20), none⟩])
     (.cond (.t 19)
      .skip
      (.reg [⟨some 21, .bin .eql (.t 18) (.k (.i .i64 3)), none⟩,
        ⟨some 19, .mov (.t 21), none⟩])))
    (.cond (.t 19)
     (.seq (.reg [⟨some 22, .mov (.t 3), none⟩,
        ⟨some 23, .mov (.t 22), none⟩,
        ⟨some 24, .mov (.t 4), some (23, true)⟩,
        ⟨some 25, .pick (.t 23) (.t 24) (.k (.b false)), none⟩,
        ⟨some 2, .mov (.t 25), none⟩])
     .ret)
     (.seq (.reg [⟨some 27, .bin .eql (.t 18) (.k (.i .i64 1)), none⟩,
        ⟨some 26, .mov (.t 27), none⟩])
     (.cond (.t 26)
      (.seq (.reg [⟨some 28, .mov (.t 4), none⟩,
         ⟨some 29, .mov (.t 28), none⟩,
         ⟨some 30, .faddr 1 (.t 1), some (29, true)⟩,
         ⟨some 31, .load false 1 (.t 30), some (29, true)⟩,
         ⟨some 32, .bin .eql (.t 31) (.k (.s [])), some (29, true)⟩,
         ⟨some 33, .pick (.t 29) (.t 32) (.k (.b false)), none⟩,
         ⟨some 34, .mov (.t 33), none⟩,
         ⟨some 35, .faddr 2 (.t 1), some (34, true)⟩,
         ⟨some 36, .load false 1 (.t 35), some (34, true)⟩,
         ⟨some 37, .call true 107 [(.t 36)], some (34, true)⟩,
         ⟨some 38, .bin .eql (.t 37) (.k (.i .i64 0)), some (34, true)⟩,
         ⟨some 39, .pick (.t 34) (.t 38) (.k (.b false)), none⟩,
         ⟨some 2, .mov (.t 39), none⟩])
      .ret)
      (.seq (.reg [⟨some 41, .bin .eql (.t 18) (.k (.i .i64 2)), none⟩,
         ⟨some 40, .mov (.t 41), none⟩])
      (.cond (.t 40)
       (.seq (.reg [⟨some 42, .mov (.t 4), none⟩,
          ⟨some 43, .mov (.t 42), none⟩,
          ⟨some 44, .faddr 1 (.t 1), some (43, true)⟩,
          ⟨some 45, .load false 1 (.t 44), some (43, true)⟩,
          ⟨some 46, .call true 108 [(.t 45)], some (43, true)⟩,
          ⟨some 47, .bin .eql (.t 46) (.k (.i .i64 0)), some (43, true)⟩,
          ⟨some 48, .pick (.t 43) (.t 47) (.k (.b false)), none⟩,
          ⟨some 49, .mov (.t 48), none⟩,
          ⟨some 50, .faddr 2 (.t 1), some (49, true)⟩,
          ⟨some 51, .load false 1 (.t 50), some (49, true)⟩,
          ⟨some 52, .call true 109 [(.t 51)], some (49, true)⟩,
          ⟨some 53, .bin .eql (.t 52) (.k (.i .i64 0)), some (49, true)⟩,
          ⟨some 54, .pick (.t 49) (.t 53) (.k (.b false)), none⟩,
          ⟨some 2, .mov (.t 54), none⟩])
       .ret)
       (.seq (.reg [⟨some 56, .bin .eql (.t 18) (.k (.i .i64 4)), none⟩,
          ⟨some 55, .mov (.t 56), none⟩])
       (.cond (.t 55)
        (.seq (.reg [⟨some 57, .mov (.t 3), none⟩,
           ⟨some 58, .mov (.t 57), none⟩,
           ⟨some 59, .faddr 3 (.t 1), some (58, true)⟩,
           ⟨some 60, .load false 1 (.t 59), some (58, true)⟩,
           ⟨some 61, .len .slice (.t 60), some (58, true)⟩,
           ⟨some 62, .bin .eql (.t 61) (.k (.i .i64 1)), some (58, true)⟩,
           ⟨some 63, .pick (.t 58) (.t 62) (.k (.b false)), none⟩,
           ⟨some 2, .mov (.t 63), none⟩])
        .ret)
        (.seq (.seq (.reg [⟨some 65, .bin .eql (.t 18) (.k (.i .i64 5)), none⟩,
            ⟨some 64, .mov (.t 65), none⟩])
         (.cond (.t 64)
          .skip
          (.reg [⟨some 66, .bin .eql (.t 18) (.k (.i .i64 6)), none⟩,
            ⟨some 64, .mov (.t 66), none⟩])))
        (.cond (.t 64)
         (.seq (.reg [⟨some 67, .mov (.t 3), none⟩,
            ⟨some 2, .mov (.t 67), none⟩])
         .ret)
         .skip))))))))))))
  (.seq (.reg [⟨some 2, .mov (.k (.b false)), none⟩])
  .ret)))))) k st Q := rfl
def kz89 (_ : Nat) : List Nat := []
set_option maxRecDepth 100000 in
set_option maxHeartbeats 1000000 in
theorem w_may (k : Int) (nm tx : List UInt8) (xs : List V) (n : Nat) (tk : Tk) (h1 : nm.length ≤ 4096) (h2 : tx.length ≤ 4096) (gl : Nat → List V) :
    M X_may (kz89) (.code B89) [] (St.init gl 7 [.agg [.i .i64 k, .s nm, .s tx, .sl xs n tk]] {}) (Fin [.tmp 2] (.b (mayB k nm tx n))) := by
  rw [U89]
  have eL : decide ((n : Int) = 0) = decide (n = 0) := decide_eq_decide.2 (by omega)
  have eO : decide ((n : Int) = 1) = decide (n = 1) := decide_eq_decide.2 (by omega)
  have eN := strEq_dec nm []
  have eT := strEq_dec tx []
  have xk : X_may 107 [.s tx] = some (.i .i64 (errV (keyB tx) 20)) := F_rKey1 tx (by omega)
  have xv : X_may 109 [.s tx] = some (.i .i64 (errV (valB tx) 21)) := F_rValue1 tx (by omega)
  have xn : X_may 108 [.s nm] = some (.i .i64 (errV (namB nm) 22)) := by
    have := F_rName1 nm (by omega)
    rw [← name_eq] at this
    exact this
  have ek : decide (errV (keyB tx) 20 = 0) = keyB tx := errB (keyB tx) 20 (by decide)
  have ev : decide (errV (valB tx) 21 = 0) = valB tx := errB (valB tx) 21 (by decide)
  have en : decide (errV (namB nm) 22 = 0) = namB nm := errB (namB nm) 22 (by decide)
  by_cases k0 : k = 0
  · have hM : mayB k nm tx n = (decide (n = 0) && (decide (nm = []) && decide (tx = []))) := by unfold mayB; rw [if_pos (by omega)]
    have d0 : decide (k = 0) = true := decide_eq_true (by omega)
    rw [hM]
    cases hL : decide (n = 0) <;> cases hN : decide (nm = []) <;> cases hT : decide (tx = []) <;> rw [hL] at eL <;> rw [hN] at eN <;> rw [hT] at eT <;> simp only [eL, eN, eT, d0, go_sem, ne_eq, not_false_eq_true, reduceIte, Nat.reduceMul, Nat.reduceAdd, Nat.reduceSub, Nat.reduceEqDiff, Nat.reduceLeDiff, Nat.reduceLT, List.take_succ_cons, List.take_zero, List.drop_succ_cons, List.cons_append]
  · by_cases k3 : k = 3
    · have hM : mayB k nm tx n = (decide (n = 0) && (decide (nm = []) && decide (tx = []))) := by unfold mayB; rw [if_pos (by omega)]
      have d0 : decide (k = 0) = false := decide_eq_false (by omega)
      have d3 : decide (k = 3) = true := decide_eq_true (by omega)
      rw [hM]
      cases hL : decide (n = 0) <;> cases hN : decide (nm = []) <;> cases hT : decide (tx = []) <;> rw [hL] at eL <;> rw [hN] at eN <;> rw [hT] at eT <;> simp only [eL, eN, eT, d0, d3, go_sem, ne_eq, not_false_eq_true, reduceIte, Nat.reduceMul, Nat.reduceAdd, Nat.reduceSub, Nat.reduceEqDiff, Nat.reduceLeDiff, Nat.reduceLT, List.take_succ_cons, List.take_zero, List.drop_succ_cons, List.cons_append]
    · have d0 : decide (k = 0) = false := decide_eq_false (by omega)
      have d3 : decide (k = 3) = false := decide_eq_false (by omega)
      by_cases k1 : k = 1
      · have hM : mayB k nm tx n = (decide (n = 0) && (decide (nm = []) && keyB tx)) := by unfold mayB; rw [if_neg (by omega), if_pos k1]
        have d1 : decide (k = 1) = true := decide_eq_true (by omega)
        rw [hM]
        cases hL : decide (n = 0) <;> cases hN : decide (nm = []) <;> cases hT : decide (tx = []) <;> cases hK : keyB tx <;> rw [hL] at eL <;> rw [hN] at eN <;> rw [hT] at eT <;> rw [hK] at ek xk <;> simp only [eL, eN, eT, d0, d1, d3, xk, ek, go_sem, ne_eq, not_false_eq_true, reduceIte, Nat.reduceMul, Nat.reduceAdd, Nat.reduceSub, Nat.reduceEqDiff, Nat.reduceLeDiff, Nat.reduceLT, List.take_succ_cons, List.take_zero, List.drop_succ_cons, List.cons_append]
      · have d1 : decide (k = 1) = false := decide_eq_false (by omega)
        by_cases k2 : k = 2
        · have hM : mayB k nm tx n = (decide (n = 0) && (namB nm && valB tx)) := by unfold mayB; rw [if_neg (by omega), if_neg k1, if_pos k2]
          have d2 : decide (k = 2) = true := decide_eq_true (by omega)
          rw [hM]
          cases hL : decide (n = 0) <;> cases hN : decide (nm = []) <;> cases hT : decide (tx = []) <;> cases hK : namB nm <;> cases hV : valB tx <;> rw [hL] at eL <;> rw [hN] at eN <;> rw [hT] at eT <;> rw [hK] at en xn <;> rw [hV] at ev xv <;> simp only [eL, eN, eT, d0, d1, d2, d3, xn, xv, en, ev, go_sem, ne_eq, not_false_eq_true, reduceIte, Nat.reduceMul, Nat.reduceAdd, Nat.reduceSub, Nat.reduceEqDiff, Nat.reduceLeDiff, Nat.reduceLT, List.take_succ_cons, List.take_zero, List.drop_succ_cons, List.cons_append]
        · have d2 : decide (k = 2) = false := decide_eq_false (by omega)
          by_cases k4 : k = 4
          · have hM : mayB k nm tx n = (decide (nm = []) && (decide (tx = []) && decide (n = 1))) := by unfold mayB; rw [if_neg (by omega), if_neg k1, if_neg k2, if_pos k4]
            have d4 : decide (k = 4) = true := decide_eq_true (by omega)
            rw [hM]
            cases hO : decide (n = 1) <;> cases hN : decide (nm = []) <;> cases hT : decide (tx = []) <;> rw [hO] at eO <;> rw [hN] at eN <;> rw [hT] at eT <;> simp only [eO, eN, eT, d0, d1, d2, d3, d4, go_sem, ne_eq, not_false_eq_true, reduceIte, Nat.reduceMul, Nat.reduceAdd, Nat.reduceSub, Nat.reduceEqDiff, Nat.reduceLeDiff, Nat.reduceLT, List.take_succ_cons, List.take_zero, List.drop_succ_cons, List.cons_append]
          · have d4 : decide (k = 4) = false := decide_eq_false (by omega)
            by_cases k5 : k = 5
            · have hM : mayB k nm tx n = (decide (nm = []) && decide (tx = [])) := by unfold mayB; rw [if_neg (by omega), if_neg k1, if_neg k2, if_neg k4, if_pos (by omega)]
              have d5 : decide (k = 5) = true := decide_eq_true (by omega)
              rw [hM]
              cases hN : decide (nm = []) <;> cases hT : decide (tx = []) <;> rw [hN] at eN <;> rw [hT] at eT <;> simp only [eN, eT, d0, d1, d2, d3, d4, d5, go_sem, ne_eq, not_false_eq_true, reduceIte, Nat.reduceMul, Nat.reduceAdd, Nat.reduceSub, Nat.reduceEqDiff, Nat.reduceLeDiff, Nat.reduceLT, List.take_succ_cons, List.take_zero, List.drop_succ_cons, List.cons_append]
            · have d5 : decide (k = 5) = false := decide_eq_false (by omega)
              by_cases k6 : k = 6
              · have hM : mayB k nm tx n = (decide (nm = []) && decide (tx = [])) := by unfold mayB; rw [if_neg (by omega), if_neg k1, if_neg k2, if_neg k4, if_pos (by omega)]
                have d6 : decide (k = 6) = true := decide_eq_true (by omega)
                rw [hM]
                cases hN : decide (nm = []) <;> cases hT : decide (tx = []) <;> rw [hN] at eN <;> rw [hT] at eT <;> simp only [eN, eT, d0, d1, d2, d3, d4, d5, d6, go_sem, ne_eq, not_false_eq_true, reduceIte, Nat.reduceMul, Nat.reduceAdd, Nat.reduceSub, Nat.reduceEqDiff, Nat.reduceLeDiff, Nat.reduceLT, List.take_succ_cons, List.take_zero, List.drop_succ_cons, List.cons_append]
              · have hM : mayB k nm tx n = false := by unfold mayB; rw [if_neg (by omega), if_neg k1, if_neg k2, if_neg k4, if_neg (by omega)]
                have d6 : decide (k = 6) = false := decide_eq_false (by omega)
                rw [hM]
                cases hN : decide (nm = []) <;> cases hT : decide (tx = []) <;> rw [hN] at eN <;> rw [hT] at eT <;> simp only [eN, eT, d0, d1, d2, d3, d4, d5, d6, go_sem, ne_eq, not_false_eq_true, reduceIte, Nat.reduceMul, Nat.reduceAdd, Nat.reduceSub, Nat.reduceEqDiff, Nat.reduceLeDiff, Nat.reduceLT, List.take_succ_cons, List.take_zero, List.drop_succ_cons, List.cons_append]
def F_may (a : List V) : Option V := match a with
  | [.agg [.i .i64 k, .s nm, .s tx, .sl xs n tk]] => if nm.length ≤ 4096 ∧ tx.length ≤ 4096 then some (.b (mayB k nm tx n)) else none
  | _ => none
theorem F_may1 (k : Int) (nm tx : List UInt8) (xs : List V) (n : Nat) (tk : Tk) (h : nm.length ≤ 4096 ∧ tx.length ≤ 4096) : F_may [.agg [.i .i64 k, .s nm, .s tx, .sl xs n tk]] = some (.b (mayB k nm tx n)) := if_pos h
theorem o_may : ∀ a v, F_may a = some v → Comp tabx told 89 a v := fun a v e => by
  unfold F_may at e
  split at e
  · split at e
    · rename_i h; cases e; exact comp_of t_may (fn := af89) rfl (Nat.le_of_ble_eq_true rfl) fun gl => w_may _ _ _ _ _ _ h.1 h.2 gl
    · cases e
  · cases e
/-! ### walk -/
theorem blds_cnt : ∀ (l : List Fil) (d w : Nat), w ≤ 24 → (blds l d w).1 = 0 → w + l.length ≤ (blds l d w).2
  | [], d, w, _, _ => by rw [blds]; exact Nat.le_refl _
  | f :: r, d, w, hw, h => by
    rw [blds] at h ⊢
    split at h
    · rename_i h0
      rw [if_pos h0]
      have h1 := bld_gt f d w hw
      have h2 := blds_cnt r d _ ((bld_le f d w hw).2 h0) h
      simp only [List.length_cons]; omega
    · rename_i h0; exact absurd h h0
theorem blds_mem : ∀ (l : List Fil) (d w : Nat), w ≤ 24 → (blds l d w).1 = 0 → ∀ (pre : List Fil) (f : Fil) (post : List Fil), l = pre ++ f :: post → ∃ w', w' ≤ 24 ∧ (bld f d w').1 = 0
  | [], d, w, _, _, pre, f, post, e => by cases pre <;> cases e
  | g :: r, d, w, hw, h, pre, f, post, e => by
    rw [blds] at h
    split at h
    · rename_i h0
      cases pre with
      | nil => cases e; exact ⟨w, hw, h0⟩
      | cons p pre => cases e; exact blds_mem _ d _ ((bld_le g d w hw).2 h0) h pre f post rfl
    · rename_i h0; exact absurd h h0
theorem okLs_split : ∀ (l : List Fil), okLs l → ∀ (pre : List Fil) (f : Fil) (post : List Fil), l = pre ++ f :: post → okL f
  | [], _, pre, f, post, e => by cases pre <;> cases e
  | g :: r, h, pre, f, post, e => by
    rw [okLs] at h
    cases pre with
    | nil => cases e; exact h.1
    | cons p pre => cases e; exact okLs_split _ h.2 pre f post rfl
def ResC (v : V) (q : Nat × Nat) : Prop := ∃ m : Nat, v = .tup [.i .i64 (m : Nat), .i .i64 (q.1 : Nat)] ∧ (q.1 = 0 → m = q.2)
def R_walk (a : List V) (v : V) : Prop := ∀ (f : Fil) (c : List V) (u w : Nat), a = [.agg c, .i .i64 (u : Nat), .i .i64 (w : Nat)] → FilR f c → ResC v (bld f (u + 1) w)
def S_walk (D : Nat) : Prop := ∀ (f : Fil) (c : List V) (u w : Nat), FilR f c → okL f → w ≤ 24 → 7 ≤ u + D → u ≤ 6 → ∃ v, Comp tabx told 67 [.agg c, .i .i64 (u : Nat), .i .i64 (w : Nat)] v ∧ ResC v (bld f (u + 1) w)
noncomputable def X_walk := xs [(89, F_may), (67, pickP 67 R_walk)]
theorem t_walk : Tells tabx told X_walk := tells_cons o_may (tells_cons pickP_tells tells_nil)
theorem call_walk {D : Nat} (S : S_walk D) {f : Fil} {c : List V} {u w : Nat} (hf : FilR f c) (hk : okL f) (h1 : w ≤ 24) (h2 : 7 ≤ u + D) (h3 : u ≤ 6) :
    ∃ m : Nat, X_walk 67 [.agg c, .i .i64 (u : Nat), .i .i64 (w : Nat)] = some (.tup [.i .i64 (m : Nat), .i .i64 ((bld f (u + 1) w).1 : Nat)]) ∧ ((bld f (u + 1) w).1 = 0 → m = (bld f (u + 1) w).2) := by
  obtain ⟨v, hc, hr⟩ := S f c u w hf hk h1 h2 h3
  obtain ⟨v, e1, r1⟩ := pickP_spec (R := R_walk) hc (by
    intro f' c' u' w' e1 hf'
    simp only [List.cons.injEq, V.i.injEq, V.agg.injEq, true_and, and_true] at e1
    obtain ⟨e1, e2, e3⟩ := e1
    have e2 : u = u' := by omega
    have e3 : w = w' := by omega
    subst e1 e2 e3
    rw [← FilR.uniq f f' c hf hf']
    exact hr)
  obtain ⟨m, rfl, q⟩ := r1 f c u w rfl hf
  exact ⟨m, e1, q⟩
def K67_1 : List Fr := [.blk 0,
  .seq (.seq (.reg [⟨some 46, .mov (.t 2), none⟩,
       ⟨some 6, .mov (.t 46), none⟩,
       ⟨some 7, .mov (.k (.i .i64 0)), none⟩])
    .ret)]
theorem UH67_1 {xf : FuncId → List V → Option V} {xh : FuncId → List V → H → Option (V × H)} {kz : Nat → List Nat} {k : List Fr} {st : St} {Q : AEx → St → Prop} : Hp.M xf xh kz (.code L67_1) k st Q = Hp.M xf xh kz (.code (.seq (.reg [⟨some 29, .bin .lss (.t 28) (.t 27), none⟩])
  (.seq (.cond (.t 29)
    .skip
    (.exit 0))
  (.seq (.blk 1 (.seq (.reg [⟨some 30, .iaddr (.slice 4) (.t 26) (.t 28), none⟩,
       ⟨some 31, .load true 4 (.t 30), none⟩,
       ⟨some 9, .lalloc [(.i .i64 0), (.s []), (.s []), (.sl [] 0 .nil)] [9], none⟩,
       ⟨none, .store 4 (.t 9) (.t 31), none⟩])
    (.seq (.reg [⟨some 33, .load true 4 (.t 9), none⟩,
       ⟨some 34, .mov (.t 1), none⟩,
       ⟨some 35, .bin .add (.t 34) (.k (.i .i64 1)), none⟩,
       ⟨some 36, .mov (.t 2), none⟩,
       ⟨some 37, .call true 67 [(.t 33), (.t 35), (.t 36)], none⟩,
       ⟨some 32, .mov (.t 37), none⟩,
       ⟨some 38, .ext (.t 32) 0, none⟩,
       ⟨some 39, .ext (.t 32) 1, none⟩,
       ⟨some 10, .mov (.t 38), none⟩,
       ⟨some 11, .mov (.t 39), none⟩])
    (.seq (.seq (.reg [⟨some 40, .mov (.t 11), none⟩,
        ⟨some 41, .bin .neq (.t 40) (.k (.i .i64 0)), none⟩])
     (.cond (.t 41)
      (.seq (.reg [⟨some 42, .mov (.t 10), none⟩,
         ⟨some 43, .mov (.t 11), none⟩,
         ⟨some 6, .mov (.t 42), none⟩,
         ⟨some 7, .mov (.t 43), none⟩])
      .ret)
      .skip))
    (.reg [⟨some 44, .mov (.t 10), none⟩,
      ⟨some 2, .mov (.t 44), none⟩])))))
  (.reg [⟨some 45, .bin .add (.t 28) (.k (.i .i64 1)), none⟩,
    ⟨some 28, .mov (.t 45), none⟩]))))) k st Q := rfl
theorem UH67 {xf : FuncId → List V → Option V} {xh : FuncId → List V → H → Option (V × H)} {kz : Nat → List Nat} {k : List Fr} {st : St} {Q : AEx → St → Prop} : Hp.M xf xh kz (.code B67) k st Q = Hp.M xf xh kz (.code (.seq (.reg [⟨some 3, .lbox (.t 0) [3, 25], none⟩,
     ⟨some 6, .mov (.k (.i .i64 0)), none⟩,
     ⟨some 7, .mov (.k (.i .i64 0)), none⟩])
  (.seq (.seq (.reg [⟨some 12, .mov (.t 1), none⟩,
      ⟨some 13, .bin .geq (.t 12) (.k (.i .i64 6)), none⟩,
      ⟨some 14, .mov (.t 13), none⟩,
      ⟨some 15, .mov (.t 2), some (14, false)⟩,
      ⟨some 16, .bin .geq (.t 15) (.k (.i .i64 24)), some (14, false)⟩,
      ⟨some 17, .pick (.t 14) (.k (.b true)) (.t 16), none⟩])
   (.cond (.t 17)
    (.seq (.reg [⟨some 18, .mov (.t 2), none⟩,
       ⟨some 6, .mov (.t 18), none⟩,
       ⟨some 7, .mov (.k (.i .i64 51)), none⟩])
    .ret)
    .skip))
  (.seq (.seq (.reg [⟨some 19, .load true 4 (.t 3), none⟩,
      ⟨some 20, .call true 89 [(.t 19)], none⟩,
      ⟨some 21, .un .not (.t 20), none⟩])
   (.cond (.t 21)
    (.seq (.reg [⟨some 22, .mov (.t 2), none⟩,
       ⟨some 6, .mov (.t 22), none⟩,
       ⟨some 7, .mov (.k (.i .i64 50)), none⟩])
    .ret)
    .skip))
  (.seq (.reg [⟨some 23, .mov (.t 2), none⟩,
     ⟨some 24, .bin .add (.t 23) (.k (.i .i64 1)), none⟩,
     ⟨some 2, .mov (.t 24), none⟩])
  (.seq (.seq (.reg [⟨some 25, .faddr 3 (.t 3), none⟩,
      ⟨some 26, .load false 1 (.t 25), none⟩,
      ⟨some 27, .len .slice (.t 26), none⟩,
      ⟨some 28, .mov (.k (.i .i64 0)), none⟩])
   (.blk 0 (.loop L67_1)))
  (.seq (.reg [⟨some 46, .mov (.t 2), none⟩,
     ⟨some 6, .mov (.t 46), none⟩,
     ⟨some 7, .mov (.k (.i .i64 0)), none⟩])
  .ret))))))) k st Q := rfl
def kz67 (_ : Nat) : List Nat := [0, 3, 4, 5, 6, 7, 8, 9, 10, 11, 12, 13, 14, 15, 16, 17, 18, 19, 20, 21, 22, 23, 24, 25, 29, 30, 31, 32, 33, 34, 35, 36, 37, 38, 39, 40, 41, 42, 43, 44, 45, 46]
section
variable {D : Nat}
set_option maxRecDepth 100000 in
theorem w_ckids (S : S_walk D) (k : Int) (nm tx : List UInt8) (kids : List Fil) (ys : List V) (tk0 : Tk) (hy : KidsR kids ys) (hok : okLs kids) (u : Nat) (hu : u ≤ 5) (hD : 7 ≤ u + 1 + D) : ∀ (post pre : List Fil) (w : Nat) (l9 : List (Nat × List V)), kids = pre ++ post → w ≤ 24 → pre.length ≤ w →
    Hp.M X_walk noY (kz67) (.code L67_1) (.loop L67_1 :: K67_1) ⟨gl0, (.node (.node (.node (.node (.node (.node .leaf .any .leaf) .any (.node .leaf .any .leaf)) .any (.node (.node .leaf .any .leaf) .any (.node .leaf .any .leaf))) .any (.node (.node (.node .leaf .any .leaf) .any (.node .leaf .any .leaf)) .any (.node (.node .leaf .any .leaf) (.i .i64 (kids.length : Nat)) (.node .leaf .any .leaf)))) (.i .i64 (u : Nat)) (.node (.node (.node (.node .leaf .any .leaf) .any (.node .leaf .any .leaf)) .any (.node (.node .leaf .any .leaf) .any (.node .leaf .any .leaf))) .any (.node (.node (.node .leaf .any .leaf) .any (.node .leaf .any .leaf)) .any (.node (.node .leaf .any .leaf) .any (.node .leaf .any .leaf))))) .any (.node (.node (.node (.node (.node .leaf .any .leaf) .any (.node .leaf .any .leaf)) .any (.node (.node .leaf .any .leaf) .any (.node .leaf .any .leaf))) .any (.node (.node (.node .leaf .any .leaf) .any (.node .leaf .any .leaf)) .any (.node (.node .leaf .any .leaf) (.i .i64 (pre.length : Nat)) (.node .leaf .any .leaf)))) (.i .i64 (w : Nat)) (.node (.node (.node (.node .leaf .any .leaf) .any (.node .leaf .any .leaf)) .any (.node (.node .leaf .any .leaf) (.sl ys kids.length tk0) (.node .leaf .any .leaf))) .any (.node (.node (.node .leaf .any .leaf) .any (.node .leaf .any .leaf)) .any (.node (.node .leaf .any .leaf) .any (.node .leaf .any .leaf)))))), [], (3, [.i .i64 k, .s nm, .s tx, .sl ys kids.length tk0]) :: l9, {}⟩
      (fun ex st => ∃ v, Fin [.tmp 6, .tmp 7] v ex st ∧ ResC v (blds post (u + 2) w)) := by
  intro post
  induction post with
  | nil =>
    intro pre w l9 hk1 hw hpw
    have hl : kids.length = pre.length := by rw [hk1]; simp
    have e1 : decide ((pre.length : Int) < (kids.length : Int)) = false := decide_eq_false (by omega)
    rw [UH67_1, blds]
    simp only [e1, K67_1, go_sem, ne_eq, not_false_eq_true, reduceIte, Nat.reduceMul, Nat.reduceAdd, Nat.reduceSub, Nat.reduceEqDiff, Nat.reduceLeDiff, Nat.reduceLT, List.take_succ_cons, List.take_zero, List.drop_succ_cons, List.cons_append]
    exact ⟨_, rfl, w, rfl, fun _ => rfl⟩
  | cons f post ih =>
    intro pre w l9 hk1 hw hpw
    have hl : kids.length = pre.length + post.length + 1 := by rw [hk1]; simp; omega
    have e1 : decide ((pre.length : Int) < (kids.length : Int)) = true := decide_eq_true (by omega)
    have g1 : pre.length < kids.length := by omega
    have hyl := hy.len
    have g2 : (pre.length + 1) * 4 ≤ kids.length * 4 := by omega
    obtain ⟨c, hc, ht⟩ := hy.split pre f post hk1
    obtain ⟨m, y4, q2⟩ := call_walk S (u := u + 1) hc (okLs_split _ hok pre f post hk1) hw (by omega) (by omega)
    have hle := bld_le f (u + 2) w hw
    have hgt := bld_gt f (u + 2) w hw
    have w1 : wr .i64 ((u : Int) + 1) = ((u + 1 : Nat) : Int) := by rw [wr64] <;> omega
    have w2 : wr .i64 ((pre.length : Int) + 1) = ((pre.length + 1 : Nat) : Int) := by rw [wr64] <;> omega
    rw [UH67_1, blds]
    cases hc with | mk k1 nm1 tx1 kids1 xs1 n1 tk1 hn1 hx1 =>
    change X_walk _ _ = some (.tup [_, .i .i64 ((bld _ (u + 2) w).1 : Nat)]) at y4
    change (bld _ (u + 2) w).1 = 0 → m = (bld _ (u + 2) w).2 at q2
    generalize hq : bld (.mk k1 nm1 tx1 kids1) (u + 2) w = q at *
    obtain ⟨er, w'⟩ := q
    simp only at q2 y4 hle hgt
    by_cases he : er = 0
    · subst he
      rw [if_pos rfl]
      obtain rfl := q2 rfl
      have := fun l9 => ih (pre ++ [.mk k1 nm1 tx1 kids1]) m l9 (by rw [hk1]; simp) (hle.2 rfl) (by simp; omega)
      have f0 : decide (((0 : Nat) : Int) = 0) = true := by decide
      simp only [e1, g1, hyl, g2, rd_ip, ht, w1, y4, w2, f0, splice, Int.cast_ofNat_Int, go_sem, ne_eq, not_false_eq_true, reduceIte, Nat.reduceMul, Nat.reduceAdd, Nat.reduceSub, Nat.reduceEqDiff, Nat.reduceLeDiff, Nat.reduceLT, List.take_succ_cons, List.take_zero, List.drop_succ_cons, List.cons_append]
      rw [Hp.M_loop]
      simp only [kz67, K67_1, List.length_append, List.length_cons, List.length_nil, Nat.zero_add, go_sem, ne_eq, not_false_eq_true, reduceIte, Nat.reduceMul, Nat.reduceAdd, Nat.reduceSub, Nat.reduceEqDiff, Nat.reduceLeDiff, Nat.reduceLT, List.take_succ_cons, List.take_zero, List.drop_succ_cons, List.cons_append] at this ⊢
      exact this _
    · rw [if_neg he]
      have f1 : decide ((er : Int) = 0) = false := decide_eq_false (by omega)
      simp only [e1, g1, hyl, g2, rd_ip, ht, w1, y4, w2, f1, splice, K67_1, Int.cast_ofNat_Int, go_sem, ne_eq, not_false_eq_true, reduceIte, Nat.reduceMul, Nat.reduceAdd, Nat.reduceSub, Nat.reduceEqDiff, Nat.reduceLeDiff, Nat.reduceLT, List.take_succ_cons, List.take_zero, List.drop_succ_cons, List.cons_append]
      exact ⟨_, rfl, m, rfl, fun h => absurd h he⟩
set_option maxRecDepth 100000 in
theorem s_walk (S : S_walk D) : S_walk (D + 1) := by
  intro f c u w hf hok hw hD hu
  have hs := FilR.strip f c hf
  refine comp_ex (xf := X_walk) (xh := noY) (kz := kz67) (fn := af67) t_walk tells_noY rfl (Nat.le_of_ble_eq_true rfl) ?_
  show Hp.M _ _ _ (.code B67) _ (St.init gl0 6 [.agg (stripL c), .i .i64 (u : Nat), .i .i64 (w : Nat)] _) (fun ex st => ∃ v, Fin [.tmp 6, .tmp 7] v ex st ∧ _)
  rw [UH67]
  generalize stripL c = c2 at hs
  clear hf c
  cases hs with | mk k nm tx kids xs n tk hn hx =>
  subst hn
  rw [okL] at hok
  obtain ⟨o1, o2, o3⟩ := hok
  have xm : X_walk 89 [.agg [.i .i64 k, .s nm, .s tx, .sl xs kids.length tk]] = some (.b (mayB k nm tx kids.length)) := F_may1 k nm tx xs kids.length tk ⟨o1, o2⟩
  have w1 : wr .i64 ((w : Int) + 1) = ((w + 1 : Nat) : Int) := by rw [wr64] <;> omega
  rw [bld]
  by_cases c1 : 6 ≤ u
  · have e1 : decide ((6 : Int) ≤ (u : Int)) = true := decide_eq_true (by omega)
    rw [if_pos (.inl (by omega))]
    simp only [e1, go_sem, ne_eq, not_false_eq_true, reduceIte, Nat.reduceMul, Nat.reduceAdd, Nat.reduceSub, Nat.reduceEqDiff, Nat.reduceLeDiff, Nat.reduceLT, List.take_succ_cons, List.take_zero, List.drop_succ_cons, List.cons_append]
    exact ⟨_, rfl, w, rfl, fun h => by cases h⟩
  · have e1 : decide ((6 : Int) ≤ (u : Int)) = false := decide_eq_false (by omega)
    by_cases c2 : 24 ≤ w
    · have e2 : decide ((24 : Int) ≤ (w : Int)) = true := decide_eq_true (by omega)
      rw [if_pos (.inr (by omega))]
      simp only [e1, e2, go_sem, ne_eq, not_false_eq_true, reduceIte, Nat.reduceMul, Nat.reduceAdd, Nat.reduceSub, Nat.reduceEqDiff, Nat.reduceLeDiff, Nat.reduceLT, List.take_succ_cons, List.take_zero, List.drop_succ_cons, List.cons_append]
      exact ⟨_, rfl, w, rfl, fun h => by cases h⟩
    · have e2 : decide ((24 : Int) ≤ (w : Int)) = false := decide_eq_false (by omega)
      rw [if_neg (by omega)]
      cases hM : mayB k nm tx kids.length with
      | false =>
        rw [hM] at xm
        rw [if_pos rfl]
        simp only [e1, e2, xm, go_sem, ne_eq, not_false_eq_true, reduceIte, Nat.reduceMul, Nat.reduceAdd, Nat.reduceSub, Nat.reduceEqDiff, Nat.reduceLeDiff, Nat.reduceLT, List.take_succ_cons, List.take_zero, List.drop_succ_cons, List.cons_append]
        exact ⟨_, rfl, w, rfl, fun h => by cases h⟩
      | true =>
        rw [hM] at xm
        rw [if_neg (by decide)]
        have := w_ckids S k nm tx kids xs tk hx o3 u (by omega) (by omega) kids [] (w + 1) [] rfl (by omega) (Nat.zero_le _)
        simp only [e1, e2, xm, w1, go_sem, ne_eq, not_false_eq_true, reduceIte, Nat.reduceMul, Nat.reduceAdd, Nat.reduceSub, Nat.reduceEqDiff, Nat.reduceLeDiff, Nat.reduceLT, List.take_succ_cons, List.take_zero, List.drop_succ_cons, List.cons_append]
        rw [Hp.M_loop]
        simp only [kz67, K67_1, List.length_cons, List.length_nil, Int.cast_ofNat_Int, go_sem, ne_eq, not_false_eq_true, reduceIte, Nat.reduceMul, Nat.reduceAdd, Nat.reduceSub, Nat.reduceEqDiff, Nat.reduceLeDiff, Nat.reduceLT, List.take_succ_cons, List.take_zero, List.drop_succ_cons, List.cons_append] at this ⊢
        exact this
theorem s_walk_all : ∀ D, S_walk D
  | 0 => fun _ _ _ _ _ _ _ h1 h2 => by omega
  | D + 1 => s_walk (s_walk_all D)
end
/-! ### Check -/
def R_rcheck (a : List V) (v : V) : Prop := ∀ (f : Fil) (c : List V), a = [.agg c] → FilR f c → v = .i .i64 (chk f : Nat)
noncomputable def F_rcheck : List V → Option V := pickP 39 R_rcheck
theorem o_rcheck : ∀ a v, F_rcheck a = some v → Comp tabx told 39 a v := pickP_tells
theorem UH39 {xf : FuncId → List V → Option V} {xh : FuncId → List V → H → Option (V × H)} {kz : Nat → List Nat} {k : List Fr} {st : St} {Q : AEx → St → Prop} : Hp.M xf xh kz (.code B39) k st Q = Hp.M xf xh kz (.code (.seq (.reg [⟨some 1, .lbox (.t 0) [1], none⟩,
     ⟨some 2, .mov (.k (.i .i64 0)), none⟩])
  (.seq (.reg [⟨some 6, .load true 4 (.t 1), none⟩,
     ⟨some 7, .call true 67 [(.t 6), (.k (.i .i64 0)), (.k (.i .i64 0))], none⟩,
     ⟨some 5, .mov (.t 7), none⟩,
     ⟨some 8, .ext (.t 5) 0, none⟩,
     ⟨some 9, .ext (.t 5) 1, none⟩,
     ⟨some 3, .mov (.t 8), none⟩,
     ⟨some 4, .mov (.t 9), none⟩])
  (.seq (.reg [⟨some 10, .mov (.t 4), none⟩,
     ⟨some 2, .mov (.t 10), none⟩])
  .ret)))) k st Q := rfl
def kz39 (_ : Nat) : List Nat := []
theorem rcheck_eq (f : Fil) (c : List V) (hf : FilR f c) (hok : okL f) : F_rcheck [.agg c] = some (.i .i64 (chk f : Nat)) := by
  have hc : ∃ v, Comp tabx told 39 [.agg c] v ∧ v = .i .i64 (chk f : Nat) := by
    have hs := FilR.strip f c hf
    obtain ⟨m, y4, q2⟩ := call_walk (s_walk_all 7) (u := 0) (w := 0) hs hok (by decide) (by decide) (by decide)
    refine comp_ex (xf := X_walk) (xh := noY) (kz := kz39) (fn := af39) t_walk tells_noY rfl (Nat.le_of_ble_eq_true rfl) ?_
    show Hp.M _ _ _ (.code B39) _ (St.init gl0 4 [.agg (stripL c)] _) (fun ex st => ∃ v, Fin [.tmp 2] v ex st ∧ _)
    rw [UH39]
    change X_walk _ _ = some (.tup [_, .i .i64 (chk f : Nat)]) at y4
    generalize chk f = e at *
    generalize stripL c = c2 at hs y4 ⊢
    cases hs with | mk k nm tx kids xs n tk hn hx =>
    simp only [Int.cast_ofNat_Int] at y4
    simp only [y4, Int.cast_ofNat_Int, go_sem, ne_eq, not_false_eq_true, reduceIte, Nat.reduceMul, Nat.reduceAdd, Nat.reduceSub, Nat.reduceEqDiff, Nat.reduceLeDiff, Nat.reduceLT, List.take_succ_cons, List.take_zero, List.drop_succ_cons, List.cons_append]
    exact ⟨_, rfl, rfl⟩
  obtain ⟨v, hc, rfl⟩ := hc
  obtain ⟨v, e1, r⟩ := pickP_spec (R := R_rcheck) hc (by
    intro f' c' e1 hf'
    simp only [List.cons.injEq, V.agg.injEq, and_true] at e1
    subst e1
    rw [← FilR.uniq f f' c hf hf'])
  rw [r f c rfl hf] at e1
  exact e1
end Go.Proofs.YtbhclhgljnoioaaDoor
