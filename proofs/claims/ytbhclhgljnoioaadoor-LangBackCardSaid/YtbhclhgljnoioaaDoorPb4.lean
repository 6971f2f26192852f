/- Equal filters; what is printed is not long. -/
import Derived.Test.YtbhclhgljnoioaaDoorPb2
set_option linter.unusedSimpArgs false
set_option linter.unusedVariables false
namespace Go.Proofs.YtbhclhgljnoioaaDoor
open Ai Go.Shelf
/-! ### A filter that may be has short texts -/
theorem dec_n4 (l : List UInt8) : (dec l).2 ≤ 4 := by
  unfold dec
  simp only
  repeat' split
  all_goals simp
theorem rns_len4 (l : List UInt8) : l.length ≤ 4 * (rns l).length := by
  induction l using rune_ind with
  | h0 => simp
  | h1 a r ih =>
    have h1 : (rns (a :: r)).length = (rns ((a :: r).drop (dec (a :: r)).2)).length + 1 := by rw [rns_cons, List.length_cons]
    rw [List.length_drop] at ih
    have := dec_n4 (a :: r)
    omega
theorem may_short {k : Int} {nm tx : List UInt8} {n : Nat} (h : mayB k nm tx n = true) : nm.length ≤ 192 ∧ tx.length ≤ 192 := by
  have hv : ∀ l, allV plain 0 48 l = true → l.length ≤ 192 := fun l h => by
    have := rns_len4 l
    unfold allV at h
    simp only [Bool.and_eq_true, decide_eq_true_eq] at h
    omega
  have hk : ∀ l, allV plain 1 24 l = true → l.length ≤ 192 := fun l h => by
    have := rns_len4 l
    unfold allV at h
    simp only [Bool.and_eq_true, decide_eq_true_eq] at h
    omega
  have hn : ∀ l, allV letter 1 8 l = true → l.length ≤ 192 := fun l h => by
    have := rns_len4 l
    unfold allV at h
    simp only [Bool.and_eq_true, decide_eq_true_eq] at h
    omega
  unfold mayB at h
  split at h
  · simp only [Bool.and_eq_true, decide_eq_true_eq] at h
    rw [h.2.1, h.2.2]; exact ⟨Nat.zero_le _, Nat.zero_le _⟩
  · split at h
    · simp only [Bool.and_eq_true, decide_eq_true_eq] at h
      rw [h.2.1]; exact ⟨Nat.zero_le _, hk _ h.2.2⟩
    · split at h
      · simp only [Bool.and_eq_true, decide_eq_true_eq] at h
        exact ⟨hn _ h.2.1, hv _ h.2.2⟩
      · split at h
        · simp only [Bool.and_eq_true, decide_eq_true_eq] at h
          rw [h.1, h.2.1]; exact ⟨Nat.zero_le _, Nat.zero_le _⟩
        · split at h
          · simp only [Bool.and_eq_true, decide_eq_true_eq] at h
            rw [h.1, h.2]; exact ⟨Nat.zero_le _, Nat.zero_le _⟩
          · cases h
mutual
theorem bld_ok : ∀ (f : Fil) (d w : Nat), (bld f d w).1 = 0 → okL f ∧ (tellF f).length + 100 ≤ 2300 * cnt f
  | .mk k nm tx kids, d, w, h => by
    rw [bld] at h
    split at h
    · cases h
    · split at h
      · cases h
      · rename_i h1 h2
        obtain ⟨s1, s2⟩ := may_short (by simpa using h2 : mayB k nm tx kids.length = true)
        obtain ⟨k1, k2, k3⟩ := blds_ok kids _ _ h
        have hq := quoteV_len tx
        refine ⟨by rw [okL]; exact ⟨by omega, by omega, k1⟩, ?_⟩
        rw [tellF, cnt]
        split
        · simp only [List.length_cons, List.length_nil]; omega
        · split
          · simp only [List.length_append, List.length_cons, List.length_nil]; omega
          · split
            · simp only [List.length_append, List.length_cons, List.length_nil]; omega
            · split
              · simp only [List.length_cons, List.length_nil]; omega
              · split
                · have := k2 3
                  cases hk : tellW kids 3 with
                  | nil => simp only [List.headD_nil, List.length_append, List.length_cons, List.length_nil]; omega
                  | cons x r =>
                    rw [hk, lsum] at this
                    simp only [List.headD_cons, List.length_append, List.length_cons, List.length_nil]; omega
                · split
                  · have hb := k2 (if k = 5 then 3 else 2)
                    have := join_le (tellW kids (if k = 5 then 3 else 2)) (if k = 5 then [32, 97, 110, 100, 32] else [32, 111, 114, 32]) 5 (by split <;> simp)
                    omega
                  · have := join_le (tellL kids) [44, 32] 5 (by simp)
                    have hc : (if k = 5 then [101, 97, 99, 104, 40] else [97, 110, 121, 40] : List UInt8).length ≤ 5 := by split <;> simp
                    simp only [List.length_append, List.length_cons, List.length_nil]; omega
theorem blds_ok : ∀ (l : List Fil) (d w : Nat), (blds l d w).1 = 0 → okLs l ∧ (∀ b, lsum (tellW l b) 5 ≤ 2300 * cnts l) ∧ lsum (tellL l) 5 ≤ 2300 * cnts l
  | [], d, w, _ => by
    refine ⟨by rw [okLs]; trivial, fun b => by rw [tellW]; exact Nat.zero_le _, by rw [tellL]; exact Nat.zero_le _⟩
  | f :: r, d, w, h => by
    rw [blds] at h
    split at h
    · rename_i h0
      obtain ⟨a1, a2⟩ := bld_ok f d w h0
      obtain ⟨b1, b2, b3⟩ := blds_ok r d _ h
      refine ⟨by rw [okLs]; exact ⟨a1, b1⟩, fun b => ?_, ?_⟩
      · have := b2 b
        rw [tellW, lsum, cnts]
        split
        · simp only [List.length_append, List.length_cons, List.length_nil]; omega
        · omega
      · rw [tellL, lsum, cnts]; omega
    · rename_i h0; exact absurd h h0
end
theorem chk_len {f : Fil} (h : chk f = 0) : (tellF f).length ≤ 55200 := by
  have h1 := (bld_ok f 1 0 h).2
  have h2 := bld_cnt f 1 0 (by decide) h
  have h3 := (bld_le f 1 0 (by decide)).2 h
  omega
/-! ### Same -/
def R_same (a : List V) (v : V) : Prop := ∀ (f : Fil) (c c' : List V), a = [.agg c, .agg c'] → FilR f c → FilR f c' → v = .b true
noncomputable def F_same : List V → Option V := pickP 20 R_same
theorem o_same : ∀ a v, F_same a = some v → Comp tabx told 20 a v := pickP_tells
def S_same (D : Nat) : Prop := ∀ (f : Fil) (c c' : List V) (d w : Nat), FilR f c → FilR f c' → w ≤ 24 → (bld f d w).1 = 0 → 8 ≤ d + D → Comp tabx told 20 [.agg c, .agg c'] (.b true)
theorem call_same {D : Nat} (S : S_same D) {f : Fil} {c c' : List V} {d w : Nat} (h1 : FilR f c) (h2 : FilR f c') (h3 : w ≤ 24) (h4 : (bld f d w).1 = 0) (h5 : 8 ≤ d + D) : F_same [.agg c, .agg c'] = some (.b true) := by
  obtain ⟨v, e1, r⟩ := pickP_spec (R := R_same) (S f c c' d w h1 h2 h3 h4 h5) (fun _ _ _ _ _ _ => rfl)
  rw [r f c c' rfl h1 h2] at e1
  exact e1
noncomputable def X_same := xs [(20, F_same)]
theorem t_same : Tells tabx told X_same := tells_cons o_same tells_nil
def K20_1 : List Fr := [.blk 0,
 .seq (.seq (.reg [⟨some 4, .mov (.k (.b true)), none⟩])
 .ret)]
theorem U20_1 : type_of% (@M_open _ _ L20_1.eq_1) := @M_open _ _ L20_1.eq_1
theorem U20 : type_of% (@M_open _ _ B20.eq_1) := @M_open _ _ B20.eq_1
def kz20 (_ : Nat) : List Nat := [0, 1, 4, 5, 6, 7, 8, 9, 10, 11, 12, 13, 14, 15, 16, 17, 18, 19, 20, 21, 22, 23, 24, 25, 26, 27, 28, 29, 30, 31, 32, 33, 34, 35, 38, 39, 40, 41, 42, 43, 44, 45, 46, 47, 48, 49, 50, 51, 52]
section
variable {D : Nat}
set_option maxRecDepth 100000 in
theorem w_same (S : S_same D) (k : Int) (nm tx : List UInt8) (kids : List Fil) (ys zs : List V) (tk0 tk1 : Tk) (hy : KidsR kids ys) (hz : KidsR kids zs) (d w : Nat) (hw : w ≤ 24) (hb : (blds kids d w).1 = 0) (hD : 8 ≤ d + D) (hk : kids.length ≤ 24) (gl : Nat → List V) : ∀ (post pre : List Fil), kids = pre ++ post →
    M X_same (kz20) (.code L20_1) (.loop L20_1 :: K20_1) ⟨gl, (.node (.node (.node (.node (.node (.node .leaf .any .leaf) .any (.node .leaf .any .leaf)) .any (.node (.node .leaf .any .leaf) .any (.node .leaf .any .leaf))) (.l 3 0) (.node (.node (.node .leaf .any .leaf) .any (.node .leaf .any .leaf)) .any (.node (.node .leaf .any .leaf) .any (.node .leaf .any .leaf)))) .any (.node (.node (.node (.node .leaf .any .leaf) .any (.node .leaf .any .leaf)) .any (.node (.node .leaf .any .leaf) .any (.node .leaf .any .leaf))) .any (.node (.node (.node .leaf (.i .i64 (pre.length : Nat)) .leaf) .any (.node .leaf .any .leaf)) .any (.node (.node .leaf .any .leaf) .any (.node .leaf .any .leaf))))) .any (.node (.node (.node (.node (.node .leaf .any .leaf) .any (.node .leaf .any .leaf)) .any (.node (.node .leaf .any .leaf) .any (.node .leaf .any .leaf))) .any (.node (.node (.node .leaf (.i .i64 (kids.length : Nat)) .leaf) .any (.node .leaf .any .leaf)) .any (.node (.node .leaf .any .leaf) .any (.node .leaf .any .leaf)))) (.l 2 0) (.node (.node (.node (.node .leaf .any .leaf) .any (.node .leaf .any .leaf)) .any (.node (.node .leaf .any .leaf) .any (.node .leaf .any .leaf))) .any (.node (.node (.node .leaf .any .leaf) .any (.node .leaf .any .leaf)) .any (.node (.node .leaf .any .leaf) .any (.node .leaf .any .leaf)))))), [], [(2, [.i .i64 k, .s nm, .s tx, .sl ys kids.length tk0]), (3, [.i .i64 k, .s nm, .s tx, .sl zs kids.length tk1])], {}⟩
      (Fin [.tmp 4] (.b true)) := by
  intro post
  induction post with
  | nil =>
    intro pre hk1
    have hl : kids.length = pre.length := by rw [hk1]; simp
    have e1 : decide ((pre.length : Int) < (kids.length : Int)) = false := decide_eq_false (by omega)
    rw [U20_1]
    simp only [e1, K20_1, go_sem, ne_eq, not_false_eq_true, reduceIte, Nat.reduceMul, Nat.reduceAdd, Nat.reduceSub, Nat.reduceEqDiff, Nat.reduceLeDiff, Nat.reduceLT, List.take_succ_cons, List.take_zero, List.drop_succ_cons, List.cons_append]
  | cons f post ih =>
    intro pre hk1
    have hl : kids.length = pre.length + post.length + 1 := by rw [hk1]; simp; omega
    have e1 : decide ((pre.length : Int) < (kids.length : Int)) = true := decide_eq_true (by omega)
    have g1 : pre.length < kids.length := by omega
    have hyl := hy.len
    have hzl := hz.len
    have g2 : (pre.length + 1) * 4 ≤ kids.length * 4 := by omega
    obtain ⟨c, hc, ht⟩ := hy.split pre f post hk1
    obtain ⟨c', hc', ht'⟩ := hz.split pre f post hk1
    obtain ⟨w', q1, q2⟩ := blds_mem kids d w hw hb pre f post hk1
    have y4 : X_same 20 [.agg c, .agg c'] = some (.b true) := call_same S hc hc' q1 q2 hD
    have w2 : wr .i64 ((pre.length : Int) + 1) = ((pre.length + 1 : Nat) : Int) := by rw [wr64] <;> omega
    rw [U20_1]
    have := ih (pre ++ [f]) (by rw [hk1]; simp)
    cases hc with | mk k1 nm1 tx1 kids1 xs1 n1 tk1 hn1 hx1 =>
    cases hc' with | mk _ _ _ _ xs2 n2 tk2 hn2 hx2 =>
    simp only [e1, g1, hyl, hzl, g2, rd_ip, ht, ht', y4, w2, Int.cast_ofNat_Int, go_sem, ne_eq, not_false_eq_true, reduceIte, Nat.reduceMul, Nat.reduceAdd, Nat.reduceSub, Nat.reduceEqDiff, Nat.reduceLeDiff, Nat.reduceLT, List.take_succ_cons, List.take_zero, List.drop_succ_cons, List.cons_append]
    rw [M_loop]
    simp only [kz20, K20_1, List.length_append, List.length_cons, List.length_nil, Nat.zero_add, go_sem, ne_eq, not_false_eq_true, reduceIte, Nat.reduceMul, Nat.reduceAdd, Nat.reduceSub, Nat.reduceEqDiff, Nat.reduceLeDiff, Nat.reduceLT, List.take_succ_cons, List.take_zero, List.drop_succ_cons, List.cons_append] at this ⊢
    exact this
set_option maxRecDepth 100000 in
theorem s_same (S : S_same D) : S_same (D + 1) := by
  intro f c c' d w hf hf' hw hb hD
  have hs := FilR.strip f c hf
  have hs' := FilR.strip f c' hf'
  refine comp_of (kz := kz20) t_same (fn := af20) rfl (Nat.le_of_ble_eq_true rfl) fun gl => ?_
  show M _ _ (.code B20) _ (St.init gl 6 [.agg (stripL c), .agg (stripL c')] _) (Fin [.tmp 4] _)
  rw [U20]
  generalize stripL c = c2 at hs
  generalize stripL c' = c3 at hs'
  clear hf hf' c c'
  cases hs with | mk k nm tx kids xs n tk hn hx =>
  cases hs' with | mk _ _ _ _ xs' n' tk' hn' hx' =>
  subst hn hn'
  rw [bld] at hb
  split at hb
  · cases hb
  · split at hb
    · cases hb
    · have hc := blds_cnt kids (d + 1) (w + 1) (by omega) hb
      have hl := (blds_le kids (d + 1) (w + 1) (by omega)).2 hb
      have key := w_same S k nm tx kids xs xs' tk tk' hx hx' (d + 1) (w + 1) (by omega) hb (by omega) (by omega) gl kids [] rfl
      simp only [strEq_self, go_sem, ne_eq, not_false_eq_true, reduceIte, Nat.reduceMul, Nat.reduceAdd, Nat.reduceSub, Nat.reduceEqDiff, Nat.reduceLeDiff, Nat.reduceLT, List.take_succ_cons, List.take_zero, List.drop_succ_cons, List.cons_append]
      rw [M_loop]
      simp only [kz20, K20_1, List.length_cons, List.length_nil, Int.cast_ofNat_Int, Int.natCast_zero, go_sem, ne_eq, not_false_eq_true, reduceIte, Nat.reduceMul, Nat.reduceAdd, Nat.reduceSub, Nat.reduceEqDiff, Nat.reduceLeDiff, Nat.reduceLT, List.take_succ_cons, List.take_zero, List.drop_succ_cons, List.cons_append] at key ⊢
      exact key
theorem s_same_all : ∀ D, S_same D
  | 0 => fun f c c' d w _ _ hw hb h => by
    cases f with | mk k nm tx kids =>
    rw [bld] at hb
    split at hb
    · cases hb
    · omega
  | D + 1 => s_same (s_same_all D)
end
theorem same_eq {f : Fil} {c c' : List V} (h1 : FilR f c) (h2 : FilR f c') (hc : chk f = 0) : F_same [.agg c, .agg c'] = some (.b true) := call_same (s_same_all 7) (d := 1) (w := 0) h1 h2 (by decide) hc (by decide)
end Go.Proofs.YtbhclhgljnoioaaDoor
set_option linter.unusedSimpArgs false
set_option linter.unusedVariables false
namespace Go.Proofs.YtbhclhgljnoioaaDoor
open Ai Go.Shelf
/-! ### LangBack -/
noncomputable def X_back := xs [(15, F_light), (14, F_awake), (16, F_print), (18, F_check), (19, F_parse), (20, F_same)]
theorem t_LangBack : Tells tabx told X_back := tells_cons o_light (tells_cons o_awake (tells_cons o_print (tells_cons o_check (tells_cons o_parse (tells_cons o_same tells_nil)))))
theorem U5 : type_of% (@M_open _ _ B5.eq_1) := @M_open _ _ B5.eq_1
def kz5 (_ : Nat) : List Nat := []
set_option maxRecDepth 100000 in
theorem w_back (f : Fil) (c : List V) (hf : FilR f c) (gl : Nat → List V) : M X_back (kz5) (.code B5) [] (St.init gl 6 [.agg c] {}) (Fin [.tmp 2] (.b true)) := by
  rw [U5]
  have y0 : X_back 14 [] = some (.b true) := rfl
  have y1 : X_back 15 [.agg c] = some (.b (wgh f 0 0).1) := light_eq f c hf
  cases hw : (wgh f 0 0).1 with
  | false =>
    rw [hw] at y1
    cases hf with | mk k nm tx kids xs n tk hn hx =>
    simp only [y0, y1, go_sem, ne_eq, not_false_eq_true, reduceIte, Nat.reduceMul, Nat.reduceAdd, Nat.reduceSub, Nat.reduceEqDiff, Nat.reduceLeDiff, Nat.reduceLT, List.take_succ_cons, List.take_zero, List.drop_succ_cons, List.cons_append]
  | true =>
    rw [hw] at y1
    have hok := wgh_ok f 0 0 hw
    have y2 : X_back 16 [.agg c] = some (.tup [.s (printV f), .i .i64 (chk f : Nat)]) := print_eq f c hf hok
    have y3 : X_back 18 [.agg c] = some (.i .i64 (chk f : Nat)) := check_eq f c hf
    by_cases he : chk f = 0
    · have hp : printV f = tellF f := by unfold printV; rw [if_pos he]
      obtain ⟨c', y4, hc'⟩ := parse_eq (tellF f) (by have := chk_len he; omega)
      rw [parse_tell hok he] at y4 hc'
      have y5 : X_back 20 [.agg c, .agg c'] = some (.b true) := same_eq hf hc' he
      replace y4 : X_back 19 [.s (tellF f)] = _ := y4
      rw [hp] at y2
      generalize tellF f = t at *
      rw [he] at y2 y3
      have f0 : decide ((0 : Int) = 0) = true := by decide
      cases hf with | mk k nm tx kids xs n tk hn hx =>
      cases hc' with | mk _ _ _ _ xs' n' tk' hn' hx' =>
      simp only [Int.natCast_zero, Int.cast_ofNat_Int] at y2 y3 y4
      simp only [y0, y1, y2, y3, y4, y5, f0, Int.natCast_zero, Int.cast_ofNat_Int, go_sem, ne_eq, not_false_eq_true, reduceIte, Nat.reduceMul, Nat.reduceAdd, Nat.reduceSub, Nat.reduceEqDiff, Nat.reduceLeDiff, Nat.reduceLT, List.take_succ_cons, List.take_zero, List.drop_succ_cons, List.cons_append]
    · have hp : printV f = [] := by unfold printV; rw [if_neg he]
      rw [hp] at y2
      generalize chk f = er at *
      have f1 : decide ((er : Int) = 0) = false := decide_eq_false (by omega)
      cases hf with | mk k nm tx kids xs n tk hn hx =>
      simp only [y0, y1, y2, y3, f1, strEq_self, go_sem, ne_eq, not_false_eq_true, reduceIte, Nat.reduceMul, Nat.reduceAdd, Nat.reduceSub, Nat.reduceEqDiff, Nat.reduceLeDiff, Nat.reduceLT, List.take_succ_cons, List.take_zero, List.drop_succ_cons, List.cons_append]
theorem w_LangBack (x0 : V) (y0 : ArgV Tryd.prog 27 x0) (gl : Nat → List V) : M X_back (kz5) (.code B5) [] (St.init gl 6 (stripL [x0]) {}) (Fin [.tmp 2] (.b true)) := by
  obtain ⟨f, c, rfl, hf⟩ := arg_fil filT y0
  exact w_back f (stripL c) (FilR.strip f c hf) gl
/-! ### LangSettled -/
end Go.Proofs.YtbhclhgljnoioaaDoor
