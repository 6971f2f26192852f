/- Whether a filter has few parts and few bytes: walked. -/
import Derived.Test.YtbhclhgljnoioaaDoorPf4
set_option linter.unusedSimpArgs false
set_option linter.unusedVariables false
namespace Go.Proofs.YtbhclhgljnoioaaDoor
open Ai
mutual
/-- Adds up parts and bytes; false: they are too many. -/
def wgh : Fil → Nat → Nat → Bool × Nat
  | .mk _ nm tx kids, d, w => if 4096 < w + (1 + min nm.length 4096 + min tx.length 4096) ∨ 100 < d ∨ 500 < kids.length then (false, w + (1 + min nm.length 4096 + min tx.length 4096)) else wghs kids (d + 1) (w + (1 + min nm.length 4096 + min tx.length 4096))
def wghs : List Fil → Nat → Nat → Bool × Nat
  | [], _, w => (true, w)
  | f :: r, d, w => if (wgh f d w).1 = true then wghs r d (wgh f d w).2 else wgh f d w
end
mutual
theorem wgh_le : ∀ (f : Fil) (d w : Nat), (wgh f d w).1 = true → w ≤ (wgh f d w).2 ∧ (wgh f d w).2 ≤ 4096
  | .mk k nm tx kids, d, w, h => by
    rw [wgh] at h ⊢
    split at h
    · cases h
    · rename_i hc
      rw [if_neg hc]
      have := wghs_le kids _ _ (by omega) h
      omega
theorem wghs_le : ∀ (l : List Fil) (d w : Nat), w ≤ 4096 → (wghs l d w).1 = true → w ≤ (wghs l d w).2 ∧ (wghs l d w).2 ≤ 4096
  | [], d, w, h, _ => by rw [wghs]; exact ⟨Nat.le_refl _, h⟩
  | f :: r, d, w, h, ht => by
    rw [wghs] at ht ⊢
    split at ht
    · rename_i h0
      rw [if_pos h0]
      have h1 := wgh_le f d w h0
      have h2 := wghs_le r d _ h1.2 ht
      omega
    · rename_i h0; exact absurd ht h0
end
/-! Texts that are not too long. -/
mutual
def okL : Fil → Prop
  | .mk _ nm tx kids => nm.length ≤ 4096 ∧ tx.length ≤ 4096 ∧ okLs kids
def okLs : List Fil → Prop
  | [] => True
  | f :: r => okL f ∧ okLs r
end
mutual
theorem wgh_ok : ∀ (f : Fil) (d w : Nat), (wgh f d w).1 = true → okL f
  | .mk k nm tx kids, d, w, h => by
    rw [wgh] at h
    split at h
    · cases h
    · rename_i hc
      rw [okL]
      exact ⟨by omega, by omega, wghs_ok kids _ _ h⟩
theorem wghs_ok : ∀ (l : List Fil) (d w : Nat), (wghs l d w).1 = true → okLs l
  | [], d, w, _ => by rw [okLs]; trivial
  | f :: r, d, w, ht => by
    rw [wghs] at ht
    rw [okLs]
    split at ht
    · rename_i h0; exact ⟨wgh_ok f d w h0, wghs_ok r d _ ht⟩
    · rename_i h0; exact absurd ht h0
end
/-! ### The walk -/
def ResW (id : Nat) (h : H) (v : V) (h' : H) (q : Bool × Nat) : Prop := v = .b q.1 ∧ Hop h h' id ∧ WB h' id q.2
def R_weigh (id : Nat) (a : List V) (h : H) (v : V) (h' : H) : Prop := ∀ (f : Fil) (c : List V) (d w : Nat), a = [.agg c, .i .i64 (d : Nat), .p id 0] → FilR f c → WB h id w → ResW id h v h' (wgh f d w)
def S_weigh (id D : Nat) : Prop := ∀ (f : Fil) (c : List V) (d w : Nat) (h : H), FilR f c → WB h id w → w ≤ 4096 → 102 ≤ d + D → d ≤ 101 →
  ∃ v h', Hp.CompI tabx told 37 [.agg c, .i .i64 (d : Nat), .p id 0] h v h' ∧ ResW id h v h' (wgh f d w)
noncomputable def Y_weigh (id : Nat) := ys [(37, pick 37 (R_weigh id))]
theorem t_weigh (id : Nat) : Hp.TellsI tabx told (Y_weigh id) := itells_cons pick_tells itells_nil
theorem call_weigh {id D : Nat} (S : S_weigh id D) {f : Fil} {c : List V} {d w : Nat} {h : H} (hf : FilR f c) (hw : WB h id w) (h1 : w ≤ 4096) (h2 : 102 ≤ d + D) (h3 : d ≤ 101) :
    ∃ h', Y_weigh id 37 [.agg c, .i .i64 (d : Nat), .p id 0] h = some (.b (wgh f d w).1, h') ∧ Hop h h' id ∧ WB h' id (wgh f d w).2 := by
  obtain ⟨v, h', hc, hr⟩ := S f c d w h hf hw h1 h2 h3
  obtain ⟨v, h', e1, r1⟩ := pick_spec (R := R_weigh id) hc (by
    intro f' c' d' w' e1 hf' hw'
    simp only [List.cons.injEq, V.i.injEq, V.agg.injEq, true_and, and_true] at e1
    obtain ⟨e1, e2⟩ := e1
    have e2 : d = d' := by omega
    subst e1 e2
    rw [← FilR.uniq f f' c hf hf', ← hw.uniq hw']
    exact hr)
  obtain ⟨rfl, q2, q3⟩ := r1 f c d w rfl hf hw
  exact ⟨h', e1, q2, q3⟩
def K37_1 : List Fr := [.blk 0,
  .seq (.seq (.reg [⟨some 6, .mov (.k (.b true)), none⟩])
    .ret)]
theorem UH37_1 {xf : FuncId → List V → Option V} {xh : FuncId → List V → H → Option (V × H)} {kz : Nat → List Nat} {k : List Fr} {st : St} {Q : AEx → St → Prop} : Hp.M xf xh kz (.code L37_1) k st Q = Hp.M xf xh kz (.code (.seq (.reg [⟨some 42, .bin .lss (.t 41) (.t 40), none⟩])
  (.seq (.cond (.t 42)
    .skip
    (.exit 0))
  (.seq (.blk 1 (.seq (.reg [⟨some 43, .iaddr (.slice 4) (.t 39) (.t 41), none⟩,
       ⟨some 44, .load true 4 (.t 43), none⟩,
       ⟨some 8, .lalloc [(.i .i64 0), (.s []), (.s []), (.sl [] 0 .nil)] [8], none⟩,
       ⟨none, .store 4 (.t 8) (.t 44), none⟩])
    (.seq (.reg [⟨some 45, .load true 4 (.t 8), none⟩,
       ⟨some 46, .mov (.t 1), none⟩,
       ⟨some 47, .bin .add (.t 46) (.k (.i .i64 1)), none⟩,
       ⟨some 48, .mov (.t 2), none⟩,
       ⟨some 49, .call false 37 [(.t 45), (.t 47), (.t 48)], none⟩,
       ⟨some 50, .un .not (.t 49), none⟩])
    (.cond (.t 50)
     (.seq (.reg [⟨some 6, .mov (.k (.b false)), none⟩])
     .ret)
     .skip))))
  (.reg [⟨some 51, .bin .add (.t 41) (.k (.i .i64 1)), none⟩,
    ⟨some 41, .mov (.t 51), none⟩]))))) k st Q := rfl
theorem UH37 {xf : FuncId → List V → Option V} {xh : FuncId → List V → H → Option (V × H)} {kz : Nat → List Nat} {k : List Fr} {st : St} {Q : AEx → St → Prop} : Hp.M xf xh kz (.code B37) k st Q = Hp.M xf xh kz (.code (.seq (.reg [⟨some 3, .lbox (.t 0) [3, 12, 17, 33, 38], none⟩,
     ⟨some 6, .mov (.k (.b false)), none⟩])
  (.seq (.reg [⟨some 9, .mov (.t 2), none⟩,
     ⟨some 10, .nilck (.t 9), none⟩,
     ⟨some 11, .load false 1 (.t 10), none⟩,
     ⟨some 12, .faddr 1 (.t 3), none⟩,
     ⟨some 13, .load false 1 (.t 12), none⟩,
     ⟨some 14, .len .str (.t 13), none⟩,
     ⟨some 15, .minmax false (.t 14) (.k (.i .i64 4096)), none⟩,
     ⟨some 16, .bin .add (.k (.i .i64 1)) (.t 15), none⟩,
     ⟨some 17, .faddr 2 (.t 3), none⟩,
     ⟨some 18, .load false 1 (.t 17), none⟩,
     ⟨some 19, .len .str (.t 18), none⟩,
     ⟨some 20, .minmax false (.t 19) (.k (.i .i64 4096)), none⟩,
     ⟨some 21, .bin .add (.t 16) (.t 20), none⟩,
     ⟨some 22, .bin .add (.t 11) (.t 21), none⟩,
     ⟨some 23, .nilck (.t 9), none⟩,
     ⟨none, .store 1 (.t 23) (.t 22), none⟩])
  (.seq (.seq (.reg [⟨some 24, .mov (.t 2), none⟩,
      ⟨some 25, .nilck (.t 24), none⟩,
      ⟨some 26, .load false 1 (.t 25), none⟩,
      ⟨some 27, .bin .gtr (.t 26) (.k (.i .i64 4096)), none⟩,
      ⟨some 28, .mov (.t 27), none⟩,
      ⟨some 29, .mov (.t 1), some (28, false)⟩,
      ⟨some 30, .bin .gtr (.t 29) (.k (.i .i64 100)), some (28, false)⟩,
      ⟨some 31, .pick (.t 28) (.k (.b true)) (.t 30), none⟩,
      ⟨some 32, .mov (.t 31), none⟩,
      ⟨some 33, .faddr 3 (.t 3), some (32, false)⟩,
      ⟨some 34, .load false 1 (.t 33), some (32, false)⟩,
      ⟨some 35, .len .slice (.t 34), some (32, false)⟩,
      ⟨some 36, .bin .gtr (.t 35) (.k (.i .i64 500)), some (32, false)⟩,
      ⟨some 37, .pick (.t 32) (.k (.b true)) (.t 36), none⟩])
   (.cond (.t 37)
    (.seq (.reg [⟨some 6, .mov (.k (.b false)), none⟩])
    .ret)
    .skip))
  (.seq (.seq (.reg [⟨some 38, .faddr 3 (.t 3), none⟩,
      ⟨some 39, .load false 1 (.t 38), none⟩,
      ⟨some 40, .len .slice (.t 39), none⟩,
      ⟨some 41, .mov (.k (.i .i64 0)), none⟩])
   (.blk 0 (.loop L37_1)))
  (.seq (.reg [⟨some 6, .mov (.k (.b true)), none⟩])
  .ret)))))) k st Q := rfl
def kz37 (_ : Nat) : List Nat := [0, 3, 4, 5, 6, 7, 8, 9, 10, 11, 12, 13, 14, 15, 16, 17, 18, 19, 20, 21, 22, 23, 24, 25, 26, 27, 28, 29, 30, 31, 32, 33, 34, 35, 36, 37, 38, 42, 43, 44, 45, 46, 47, 48, 49, 50, 51]
section
variable {id D : Nat}
set_option maxRecDepth 100000 in
theorem w_wkids (S : S_weigh id D) (k : Int) (nm tx : List UInt8) (kids : List Fil) (ys : List V) (tk0 : Tk) (hy : KidsR kids ys) (hk : kids.length ≤ 500) (d : Nat) (hd : d ≤ 100) (hD : 102 ≤ d + 1 + D) (h0 : H) : ∀ (post pre : List Fil) (w : Nat) (h : H) (l8 : List (Nat × List V)), kids = pre ++ post → WB h id w → w ≤ 4096 → Hop h0 h id →
    Hp.M noX (Y_weigh id) (kz37) (.code L37_1) (.loop L37_1 :: K37_1) ⟨gl0, (.node (.node (.node (.node (.node (.node .leaf .any .leaf) .any (.node .leaf .any .leaf)) .any (.node (.node .leaf (.sl ys kids.length tk0) .leaf) .any (.node .leaf .any .leaf))) .any (.node (.node (.node .leaf .any .leaf) .any (.node .leaf .any .leaf)) .any (.node (.node .leaf .any .leaf) .any (.node .leaf .any .leaf)))) (.i .i64 (d : Nat)) (.node (.node (.node (.node .leaf .any .leaf) .any (.node .leaf .any .leaf)) .any (.node (.node .leaf (.i .i64 (pre.length : Nat)) .leaf) .any (.node .leaf .any .leaf))) .any (.node (.node (.node .leaf .any .leaf) .any (.node .leaf .any .leaf)) .any (.node (.node .leaf .any .leaf) .any (.node .leaf .any .leaf))))) .any (.node (.node (.node (.node (.node .leaf .any .leaf) .any (.node .leaf .any .leaf)) .any (.node (.node .leaf (.i .i64 (kids.length : Nat)) .leaf) .any (.node .leaf .any .leaf))) .any (.node (.node (.node .leaf .any .leaf) .any (.node .leaf .any .leaf)) .any (.node (.node .leaf .any .leaf) .any (.node .leaf .any .leaf)))) (.p id 0) (.node (.node (.node (.node .leaf .any .leaf) .any (.node .leaf .any .leaf)) .any (.node (.node .leaf .any .leaf) .any (.node .leaf .any .leaf))) .any (.node (.node (.node .leaf .any .leaf) .any (.node .leaf .any .leaf)) .any (.node (.node .leaf .any .leaf) .any (.node .leaf .any .leaf)))))), [], (3, [.i .i64 k, .s nm, .s tx, .sl ys kids.length tk0]) :: l8, h⟩
      (fun ex st => ∃ v h', Hp.FinI [.tmp 6] v h' ex st ∧ ResW id h0 v h' (wghs post (d + 1) w)) := by
  intro post
  induction post with
  | nil =>
    intro pre w h l8 hk1 hw hw2 hop
    have hl : kids.length = pre.length := by rw [hk1]; simp
    have e1 : decide ((pre.length : Int) < (kids.length : Int)) = false := decide_eq_false (by omega)
    rw [UH37_1, wghs]
    simp only [e1, K37_1, go_sem, ne_eq, not_false_eq_true, reduceIte, Nat.reduceMul, Nat.reduceAdd, Nat.reduceSub, Nat.reduceEqDiff, Nat.reduceLeDiff, Nat.reduceLT, List.take_succ_cons, List.take_zero, List.drop_succ_cons, List.cons_append]
    exact ⟨_, _, ⟨rfl, rfl⟩, rfl, hop, hw⟩
  | cons f post ih =>
    intro pre w h l8 hk1 hw hw2 hop
    have hl : kids.length = pre.length + post.length + 1 := by rw [hk1]; simp; omega
    have e1 : decide ((pre.length : Int) < (kids.length : Int)) = true := decide_eq_true (by omega)
    have g1 : pre.length < kids.length := by omega
    have hyl := hy.len
    have g2 : (pre.length + 1) * 4 ≤ kids.length * 4 := by omega
    obtain ⟨c, hc, ht⟩ := hy.split pre f post hk1
    obtain ⟨h', y4, q2, q3⟩ := call_weigh S hc hw hw2 hD (by omega)
    have hle := wgh_le f (d + 1) w
    have w1 : wr .i64 ((d : Int) + 1) = ((d + 1 : Nat) : Int) := by rw [wr64] <;> omega
    have w2 : wr .i64 ((pre.length : Int) + 1) = ((pre.length + 1 : Nat) : Int) := by rw [wr64] <;> omega
    rw [UH37_1, wghs]
    cases hc with | mk k1 nm1 tx1 kids1 xs1 n1 tk1 hn1 hx1 =>
    generalize hq : wgh (.mk k1 nm1 tx1 kids1) (d + 1) w = q at *
    obtain ⟨er, w'⟩ := q
    simp only at q3 y4 hle
    cases er with
    | true =>
      rw [if_pos rfl]
      have := fun l8 => ih (pre ++ [.mk k1 nm1 tx1 kids1]) w' h' l8 (by rw [hk1]; simp) q3 (hle rfl).2 (hop.trans q2)
      simp only [e1, g1, hyl, g2, rd_ip, ht, w1, y4, w2, splice, Int.cast_ofNat_Int, go_sem, ne_eq, not_false_eq_true, reduceIte, Nat.reduceMul, Nat.reduceAdd, Nat.reduceSub, Nat.reduceEqDiff, Nat.reduceLeDiff, Nat.reduceLT, List.take_succ_cons, List.take_zero, List.drop_succ_cons, List.cons_append]
      rw [Hp.M_loop]
      simp only [kz37, K37_1, List.length_append, List.length_cons, List.length_nil, Nat.zero_add, go_sem, ne_eq, not_false_eq_true, reduceIte, Nat.reduceMul, Nat.reduceAdd, Nat.reduceSub, Nat.reduceEqDiff, Nat.reduceLeDiff, Nat.reduceLT, List.take_succ_cons, List.take_zero, List.drop_succ_cons, List.cons_append] at this ⊢
      exact this _
    | false =>
      rw [if_neg (by simp)]
      simp only [e1, g1, hyl, g2, rd_ip, ht, w1, y4, w2, splice, K37_1, Int.cast_ofNat_Int, go_sem, ne_eq, not_false_eq_true, reduceIte, Nat.reduceMul, Nat.reduceAdd, Nat.reduceSub, Nat.reduceEqDiff, Nat.reduceLeDiff, Nat.reduceLT, List.take_succ_cons, List.take_zero, List.drop_succ_cons, List.cons_append]
      exact ⟨_, _, ⟨rfl, rfl⟩, rfl, hop.trans q2, q3⟩
set_option maxRecDepth 100000 in
theorem s_weigh (S : S_weigh id D) : S_weigh id (D + 1) := by
  intro f c d w h hf hw hw2 hD hd
  cases hf with | mk k nm tx kids xs n tk hn hx =>
  subst hn
  obtain ⟨nx, obs, nt, tips⟩ := h
  refine compI_ex (xf := noX) (kz := kz37) (fn := af37) tells_noX (t_weigh id) rfl (Nat.le_of_ble_eq_true rfl) ?_
  show Hp.M _ _ _ (.code B37) _ (St.init gl0 6 _ _) (fun ex st => ∃ v h', Hp.FinI [.tmp 6] v h' ex st ∧ _)
  rw [UH37]
  have hw' : al obs id = some (Ai.Obj.cells 3 [.i .i64 (w : Nat)]) := hw
  have m1 : (if (4096 : Int) < (nm.length : Int) then (4096 : Int) else (nm.length : Int)) = ((min nm.length 4096 : Nat) : Int) := by split <;> omega
  have m2 : (if (4096 : Int) < (tx.length : Int) then (4096 : Int) else (tx.length : Int)) = ((min tx.length 4096 : Nat) : Int) := by split <;> omega
  rw [wgh]
  have ha : min nm.length 4096 ≤ 4096 := Nat.min_le_right _ _
  have hb : min tx.length 4096 ≤ 4096 := Nat.min_le_right _ _
  generalize min nm.length 4096 = a at *
  generalize min tx.length 4096 = b at *
  have w1 : wr .i64 (1 + (a : Int)) = ((1 + a : Nat) : Int) := by rw [wr64] <;> omega
  have w2 : wr .i64 (((1 + a : Nat) : Int) + (b : Int)) = ((1 + a + b : Nat) : Int) := by rw [wr64] <;> omega
  have w3 : wr .i64 ((w : Int) + ((1 + a + b : Nat) : Int)) = ((w + (1 + a + b) : Nat) : Int) := by rw [wr64] <;> omega
  generalize hz : w + (1 + a + b) = z at *
  have hS := Hop.setW ⟨nx, obs, nt, tips⟩ id z
  have hW := WB.set ⟨nx, obs, nt, tips⟩ id z
  by_cases c1 : 4096 < z
  · have e1 : decide ((4096 : Int) < (z : Int)) = true := decide_eq_true (by omega)
    rw [if_pos (.inl c1)]
    simp only [hw', m1, m2, w1, w2, w3, e1, splice, go_sem, ne_eq, not_false_eq_true, reduceIte, Nat.reduceMul, Nat.reduceAdd, Nat.reduceSub, Nat.reduceEqDiff, Nat.reduceLeDiff, Nat.reduceLT, List.take_succ_cons, List.take_zero, List.drop_succ_cons, List.cons_append]
    exact ⟨_, _, ⟨rfl, rfl⟩, rfl, hS, hW⟩
  · have e1 : decide ((4096 : Int) < (z : Int)) = false := decide_eq_false (by omega)
    by_cases c2 : 100 < d
    · have e2 : decide ((100 : Int) < (d : Int)) = true := decide_eq_true (by omega)
      rw [if_pos (.inr (.inl c2))]
      simp only [hw', m1, m2, w1, w2, w3, e1, e2, splice, go_sem, ne_eq, not_false_eq_true, reduceIte, Nat.reduceMul, Nat.reduceAdd, Nat.reduceSub, Nat.reduceEqDiff, Nat.reduceLeDiff, Nat.reduceLT, List.take_succ_cons, List.take_zero, List.drop_succ_cons, List.cons_append]
      exact ⟨_, _, ⟨rfl, rfl⟩, rfl, hS, hW⟩
    · have e2 : decide ((100 : Int) < (d : Int)) = false := decide_eq_false (by omega)
      by_cases c3 : 500 < kids.length
      · have e3 : decide ((500 : Int) < (kids.length : Int)) = true := decide_eq_true (by omega)
        rw [if_pos (.inr (.inr c3))]
        simp only [hw', m1, m2, w1, w2, w3, e1, e2, e3, splice, go_sem, ne_eq, not_false_eq_true, reduceIte, Nat.reduceMul, Nat.reduceAdd, Nat.reduceSub, Nat.reduceEqDiff, Nat.reduceLeDiff, Nat.reduceLT, List.take_succ_cons, List.take_zero, List.drop_succ_cons, List.cons_append]
        exact ⟨_, _, ⟨rfl, rfl⟩, rfl, hS, hW⟩
      · have e3 : decide ((500 : Int) < (kids.length : Int)) = false := decide_eq_false (by omega)
        rw [if_neg (by omega)]
        have := w_wkids S k nm tx kids xs tk hx (by omega) d (by omega) (by omega) ⟨nx, obs, nt, tips⟩ kids [] z (setW ⟨nx, obs, nt, tips⟩ id z) [] rfl hW (by omega) hS
        simp only [hw', m1, m2, w1, w2, w3, e1, e2, e3, splice, go_sem, ne_eq, not_false_eq_true, reduceIte, Nat.reduceMul, Nat.reduceAdd, Nat.reduceSub, Nat.reduceEqDiff, Nat.reduceLeDiff, Nat.reduceLT, List.take_succ_cons, List.take_zero, List.drop_succ_cons, List.cons_append]
        rw [Hp.M_loop]
        simp only [setW, kz37, K37_1, List.length_cons, List.length_nil, Int.cast_ofNat_Int, go_sem, ne_eq, not_false_eq_true, reduceIte, Nat.reduceMul, Nat.reduceAdd, Nat.reduceSub, Nat.reduceEqDiff, Nat.reduceLeDiff, Nat.reduceLT, List.take_succ_cons, List.take_zero, List.drop_succ_cons, List.cons_append] at this ⊢
        exact this
theorem s_weigh_all (id : Nat) : ∀ D, S_weigh id D
  | 0 => fun _ _ _ _ _ _ _ _ h1 h2 => by omega
  | D + 1 => s_weigh (s_weigh_all id D)
end
/-! ### light -/
def R_light (a : List V) (v : V) : Prop := ∀ (f : Fil) (c : List V), a = [.agg c] → FilR f c → v = .b (wgh f 0 0).1
noncomputable def F_light : List V → Option V := pickP 15 R_light
theorem o_light : ∀ a v, F_light a = some v → Comp tabx told 15 a v := pickP_tells
theorem UH15 {xf : FuncId → List V → Option V} {xh : FuncId → List V → H → Option (V × H)} {kz : Nat → List Nat} {k : List Fr} {st : St} {Q : AEx → St → Prop} : Hp.M xf xh kz (.code B15) k st Q = Hp.M xf xh kz (.code (.seq (.reg [⟨some 1, .lbox (.t 0) [1], none⟩,
     ⟨some 2, .mov (.k (.b false)), none⟩])
  (.seq (.reg [⟨some 3, .alloc 3 [(.i .i64 0)], none⟩,
     ⟨none, .store 1 (.t 3) (.k (.i .i64 0)), none⟩])
  (.seq (.reg [⟨some 4, .load true 4 (.t 1), none⟩,
     ⟨some 5, .call false 37 [(.t 4), (.k (.i .i64 0)), (.t 3)], none⟩,
     ⟨some 2, .mov (.t 5), none⟩])
  .ret)))) k st Q := rfl
def kz15 (_ : Nat) : List Nat := []
theorem light_eq (f : Fil) (c : List V) (hf : FilR f c) : F_light [.agg c] = some (.b (wgh f 0 0).1) := by
  have hc : Comp tabx told 15 [.agg c] (.b (wgh f 0 0).1) := by
    have hs := FilR.strip f c hf
    obtain ⟨v, hv, rfl⟩ := comp_ex (Q := fun v => v = .b (wgh f 0 0).1) (xf := noX) (xh := Y_weigh 0) (kz := kz15) (g := 15) (args := [.agg c]) (fn := af15) tells_noX (t_weigh 0) rfl (Nat.le_of_ble_eq_true rfl) (by
      obtain ⟨h', y4, q2, q3⟩ := call_weigh (s_weigh_all 0 102) (d := 0) (w := 0) (h := ⟨1, [(0, .cells 3 [.i .i64 ((0 : Nat) : Int)])], 0, []⟩) hs rfl (by decide) (by decide) (by decide)
      show Hp.M _ _ _ (.code B15) _ (St.init gl0 3 [.agg (stripL c)] _) (fun ex st => ∃ v, Fin [.tmp 2] v ex st ∧ _)
      rw [UH15]
      generalize stripL c = c2 at hs y4 ⊢
      cases hs with | mk k nm tx kids xs n tk hn hx =>
      simp only [Int.cast_ofNat_Int] at y4
      simp only [y4, splice, Int.cast_ofNat_Int, go_sem, ne_eq, not_false_eq_true, reduceIte, Nat.reduceMul, Nat.reduceAdd, Nat.reduceSub, Nat.reduceEqDiff, Nat.reduceLeDiff, Nat.reduceLT, List.take_succ_cons, List.take_zero, List.drop_succ_cons, List.cons_append]
      exact ⟨_, rfl, rfl⟩)
    exact hv
  obtain ⟨v, e1, r⟩ := pickP_spec (R := R_light) hc (by
    intro f' c' e1 hf'
    simp only [List.cons.injEq, V.agg.injEq, and_true] at e1
    subst e1
    rw [← FilR.uniq f f' c hf hf'])
  rw [r f c rfl hf] at e1
  exact e1
end Go.Proofs.YtbhclhgljnoioaaDoor
