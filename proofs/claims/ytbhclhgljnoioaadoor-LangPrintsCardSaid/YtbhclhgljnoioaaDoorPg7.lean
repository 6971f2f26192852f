/- The document's text of a filter: walked, whole; Print of both. -/
import Derived.Test.YtbhclhgljnoioaaDoorPg6
set_option linter.unusedSimpArgs false
set_option linter.unusedVariables false
namespace Go.Proofs.YtbhclhgljnoioaaDoor
open Ai Go.Shelf
section
variable {D : Nat}
set_option maxRecDepth 100000 in
set_option maxHeartbeats 1000000 in
theorem s_rtell (S : S_rtell D) : S_rtell (D + 1) := by
  intro f c d hf hfi hD
  have hs := FilR.strip f c hf
  refine comp_of (kz := kz40) t_rtell (fn := af40) rfl (Nat.le_of_ble_eq_true rfl) fun gl => ?_
  show M _ _ (.code B40) _ (St.init gl 7 [.agg (stripL c)] _) (Fin [.tmp 2] _)
  rw [U40]
  generalize stripL c = c2 at hs
  clear hf c
  cases hs with | mk k nm tx kids xs n tk hn hx =>
  subst hn
  obtain ⟨m1, m2, m3, m4, m5, m6, m7⟩ := hfi.may
  obtain ⟨q1, q2, q3⟩ := may_kind m1
  have y1 : X_rtell 13 [.s tx] = some (.s (quoteV tx)) := F_Quote1 tx (by omega)
  have hql := quoteV_len tx
  rw [tellF]
  by_cases k0 : k = 0
  · have d0 : decide (k = 0) = true := decide_eq_true k0
    rw [if_pos k0]
    simp only [d0, go_sem, ne_eq, not_false_eq_true, reduceIte, Nat.reduceMul, Nat.reduceAdd, Nat.reduceSub, Nat.reduceEqDiff, Nat.reduceLeDiff, Nat.reduceLT, List.take_succ_cons, List.take_zero, List.drop_succ_cons, List.cons_append]
  · have d0 : decide (k = 0) = false := decide_eq_false k0
    rw [if_neg k0]
    by_cases k1 : k = 1
    · have d1 : decide (k = 1) = true := decide_eq_true k1
      have g1 : 6 + (quoteV tx).length ≤ 4611686018427387904 := by omega
      rw [if_pos k1]
      generalize quoteV tx = q at *
      simp only [d0, d1, y1, g1, go_sem, ne_eq, not_false_eq_true, reduceIte, Nat.reduceMul, Nat.reduceAdd, Nat.reduceSub, Nat.reduceEqDiff, Nat.reduceLeDiff, Nat.reduceLT, List.take_succ_cons, List.take_zero, List.drop_succ_cons, List.cons_append]
    · have d1 : decide (k = 1) = false := decide_eq_false k1
      rw [if_neg k1]
      by_cases k2 : k = 2
      · have d2 : decide (k = 2) = true := decide_eq_true k2
        have g1 : nm.length + 3 ≤ 4611686018427387904 := by omega
        have g2 : nm.length + 3 + (quoteV tx).length ≤ 4611686018427387904 := by omega
        rw [if_pos k2]
        generalize quoteV tx = q at *
        simp only [d0, d1, d2, y1, g1, g2, List.length_append, go_sem, ne_eq, not_false_eq_true, reduceIte, Nat.reduceMul, Nat.reduceAdd, Nat.reduceSub, Nat.reduceEqDiff, Nat.reduceLeDiff, Nat.reduceLT, List.take_succ_cons, List.take_zero, List.drop_succ_cons, List.cons_append]
      · have d2 : decide (k = 2) = false := decide_eq_false k2
        rw [if_neg k2]
        by_cases k3 : k = 3
        · have d3 : decide (k = 3) = true := decide_eq_true k3
          rw [if_pos k3]
          simp only [d0, d1, d2, d3, go_sem, ne_eq, not_false_eq_true, reduceIte, Nat.reduceMul, Nat.reduceAdd, Nat.reduceSub, Nat.reduceEqDiff, Nat.reduceLeDiff, Nat.reduceLT, List.take_succ_cons, List.take_zero, List.drop_succ_cons, List.cons_append]
        · have d3 : decide (k = 3) = false := decide_eq_false k3
          rw [if_neg k3]
          by_cases k4 : k = 4
          · have d4 : decide (k = 4) = true := decide_eq_true k4
            rw [if_pos k4]
            obtain ⟨g, rfl⟩ : ∃ g, kids = [g] := by
              match kids, q3 k4 with
              | [g], _ => exact ⟨g, rfl⟩
            have hfk := hfi.kid [] g [] rfl
            obtain ⟨c, hc, ht⟩ := hx.split [] g [] rfl
            have y2 : X_rtell 40 [.agg c] = some (.s (tellF g)) := call_rtell S hc hfk (by omega)
            have hwl := hfk.len
            have hyl := hx.len
            have g3 : 4 ≤ xs.length := by simp only [List.length_cons, List.length_nil] at hyl; omega
            rw [tellW_one, List.headD_cons]
            cases hc with | mk k1 nm1 tx1 kids1 xs1 n1 tk1 hn1 hx1 =>
            subst hn1
            obtain ⟨p1, p2, _⟩ := may_kind hfk.may.1
            have y3 : X_rtell 68 [.agg [.i .i64 k1, .s nm1, .s tx1, .sl xs1 kids1.length tk1]] = some (.b (decide (4 < k1) && decide (1 < kids1.length))) := rfl
            have hwf : withinF (.mk k1 nm1 tx1 kids1) 3 = if (decide (4 < k1) && decide (1 < kids1.length)) = true then [40] ++ tellF (.mk k1 nm1 tx1 kids1) ++ [41] else tellF (.mk k1 nm1 tx1 kids1) := by
              unfold withinF
              have hiff : bindF (.mk k1 nm1 tx1 kids1) < 3 ↔ (decide (4 < k1) && decide (1 < kids1.length)) = true := by
                rw [show bindF (.mk k1 nm1 tx1 kids1) = bindV k1 kids1.length from rfl, bind3 ⟨p1, p2⟩, Bool.and_eq_true, decide_eq_true_eq, decide_eq_true_eq]
              by_cases hcc : bindF (.mk k1 nm1 tx1 kids1) < 3
              · rw [if_pos hcc, if_pos (hiff.1 hcc)]
              · rw [if_neg hcc, if_neg (fun h => hcc (hiff.2 h))]
            rw [hwf]
            generalize tellF (.mk k1 nm1 tx1 kids1) = w at *
            have g1 : 4 + w.length ≤ 4611686018427387904 := by omega
            have g2 : 5 + w.length ≤ 4611686018427387904 := by omega
            have g4 : 5 + w.length + 1 ≤ 4611686018427387904 := by omega
            have g5 : w.length + 5 ≤ 4611686018427387904 := by omega
            have g6 : w.length + 5 + 1 ≤ 4611686018427387904 := by omega
            simp only [List.length_cons, List.length_nil, Nat.zero_add, Nat.zero_mul, Nat.one_mul, List.drop_zero, Int.cast_ofNat_Int] at hyl ht y2 ⊢
            cases hsv : (decide (4 < k1) && decide (1 < kids1.length)) <;> rw [hsv] at y3
            · simp only [d0, d1, d2, d3, d4, hyl, g3, rd_ip, ht, y2, y3, g1, Int.cast_ofNat_Int, Bool.false_eq_true, go_sem, ne_eq, not_false_eq_true, reduceIte, Nat.reduceMul, Nat.reduceAdd, Nat.reduceSub, Nat.reduceEqDiff, Nat.reduceLeDiff, Nat.reduceLT, List.take_succ_cons, List.take_zero, List.drop_succ_cons, List.cons_append]
            · simp only [d0, d1, d2, d3, d4, hyl, g3, rd_ip, ht, y2, y3, g1, g2, g4, g5, g6, List.length_append, Int.cast_ofNat_Int, go_sem, ne_eq, not_false_eq_true, reduceIte, Nat.reduceMul, Nat.reduceAdd, Nat.reduceSub, Nat.reduceEqDiff, Nat.reduceLeDiff, Nat.reduceLT, List.take_succ_cons, List.take_zero, List.drop_succ_cons, List.cons_append]
          · have d4 : decide (k = 4) = false := decide_eq_false k4
            rw [if_neg k4]
            by_cases hk2 : 1 < kids.length
            · have e2 : decide ((kids.length : Int) < 2) = false := decide_eq_false (by omega)
              rw [if_pos hk2]
              have key := w_r2 S k nm tx kids xs tk hx d hfi (by omega) (by omega) gl kids [] [] [] rfl (by rw [tellW, Lib.join_nil])
              simp only [d0, d1, d2, d3, d4, e2, splice, go_sem, ne_eq, not_false_eq_true, reduceIte, Nat.reduceMul, Nat.reduceAdd, Nat.reduceSub, Nat.reduceEqDiff, Nat.reduceLeDiff, Nat.reduceLT, List.take_succ_cons, List.take_zero, List.drop_succ_cons, List.cons_append]
              rw [M_loop]
              simp only [kz40, K40_2, List.length_cons, List.length_nil, Int.cast_ofNat_Int, Int.natCast_zero, go_sem, ne_eq, not_false_eq_true, reduceIte, Nat.reduceMul, Nat.reduceAdd, Nat.reduceSub, Nat.reduceEqDiff, Nat.reduceLeDiff, Nat.reduceLT, List.take_succ_cons, List.take_zero, List.drop_succ_cons, List.cons_append] at key ⊢
              exact key
            · have e2 : decide ((kids.length : Int) < 2) = true := decide_eq_true (by omega)
              rw [if_neg hk2]
              by_cases k5 : k = 5
              · have d5 : decide (k = 5) = true := decide_eq_true k5
                rw [if_pos k5]
                have key := fun loc => w_r1 S kids xs tk hx d hfi.kid (by omega) [101, 97, 99, 104, 40] (.inr rfl) gl (by omega) loc
                simp only [d0, d1, d2, d3, d4, d5, e2, splice, go_sem, ne_eq, not_false_eq_true, reduceIte, Nat.reduceMul, Nat.reduceAdd, Nat.reduceSub, Nat.reduceEqDiff, Nat.reduceLeDiff, Nat.reduceLT, List.take_succ_cons, List.take_zero, List.drop_succ_cons, List.cons_append]
                rw [M_loop]
                simp only [kz40, K40_1, List.length_cons, List.length_nil, Int.cast_ofNat_Int, Int.natCast_zero, go_sem, ne_eq, not_false_eq_true, reduceIte, Nat.reduceMul, Nat.reduceAdd, Nat.reduceSub, Nat.reduceEqDiff, Nat.reduceLeDiff, Nat.reduceLT, List.take_succ_cons, List.take_zero, List.drop_succ_cons, List.cons_append] at key ⊢
                exact key _
              · have d5 : decide (k = 5) = false := decide_eq_false k5
                rw [if_neg k5]
                have key := fun loc => w_r1 S kids xs tk hx d hfi.kid (by omega) [97, 110, 121, 40] (.inl rfl) gl (by omega) loc
                simp only [d0, d1, d2, d3, d4, d5, e2, splice, go_sem, ne_eq, not_false_eq_true, reduceIte, Nat.reduceMul, Nat.reduceAdd, Nat.reduceSub, Nat.reduceEqDiff, Nat.reduceLeDiff, Nat.reduceLT, List.take_succ_cons, List.take_zero, List.drop_succ_cons, List.cons_append]
                rw [M_loop]
                simp only [kz40, K40_1, List.length_cons, List.length_nil, Int.cast_ofNat_Int, Int.natCast_zero, go_sem, ne_eq, not_false_eq_true, reduceIte, Nat.reduceMul, Nat.reduceAdd, Nat.reduceSub, Nat.reduceEqDiff, Nat.reduceLeDiff, Nat.reduceLT, List.take_succ_cons, List.take_zero, List.drop_succ_cons, List.cons_append] at key ⊢
                exact key _
theorem s_rtell_all : ∀ D, S_rtell D
  | 0 => fun f c d _ hfi h => by
    obtain ⟨w, h1, h2⟩ := hfi.b
    cases f with | mk k nm tx kids =>
    have := hfi.may
    omega
  | D + 1 => s_rtell (s_rtell_all D)
end
/-! ### Print -/
def printV (f : Fil) : List UInt8 := if chk f = 0 then tellF f else []
theorem fine1 {f : Fil} (h : okL f) (hc : chk f = 0) : Fine f 1 := ⟨h, 0, by decide, hc⟩
def R_print (a : List V) (v : V) : Prop := ∀ (f : Fil) (c : List V), a = [.agg c] → FilR f c → v = .tup [.s (printV f), .i .i64 (chk f : Nat)]
noncomputable def F_print : List V → Option V := pickP 16 R_print
noncomputable def F_rprint : List V → Option V := pickP 17 R_print
theorem o_print : ∀ a v, F_print a = some v → Comp tabx told 16 a v := pickP_tells
theorem o_rprint : ∀ a v, F_rprint a = some v → Comp tabx told 17 a v := pickP_tells
noncomputable def X_print := xs [(18, F_check), (38, F_tell)]
theorem t_print : Tells tabx told X_print := tells_cons o_check (tells_cons pickP_tells tells_nil)
noncomputable def X_rprint := xs [(39, F_rcheck), (40, F_rtell)]
theorem t_rprint : Tells tabx told X_rprint := tells_cons o_rcheck (tells_cons pickP_tells tells_nil)
theorem U16 {xf : FuncId → List V → Option V} {kz : Nat → List Nat} {k : List Fr} {st : St} {Q : AEx → St → Prop} : M xf kz (.code B16) k st Q = M xf kz (.code (.seq (.reg [⟨some 1, .lbox (.t 0) [1], none⟩,
     ⟨some 2, .mov (.k (.s [])), none⟩,
     ⟨some 3, .mov (.k (.i .i64 0)), none⟩])
  (.seq (.seq (.reg [⟨some 5, .load true 4 (.t 1), none⟩,
      ⟨some 6, .call true 18 [(.t 5)], none⟩,
      ⟨some 4, .mov (.t 6), none⟩])
   (.seq (.reg [⟨some 7, .mov (.t 4), none⟩,
      ⟨some 8, .bin .neq (.t 7) (.k (.i .i64 0)), none⟩])
   (.cond (.t 8)
    (.seq (.reg [⟨some 9, .mov (.t 4), none⟩,
       ⟨some 2, .mov (.k (.s [])), none⟩,
       ⟨some 3, .mov (.t 9), none⟩])
    .ret)
    .skip)))
  (.seq (.reg [⟨some 10, .load true 4 (.t 1), none⟩,
     ⟨some 11, .call true 38 [(.t 10)], none⟩,
     ⟨some 2, .mov (.t 11), none⟩,
     ⟨some 3, .mov (.k (.i .i64 0)), none⟩])
  .ret)))) k st Q := rfl
def kz16 (_ : Nat) : List Nat := []
theorem U17 {xf : FuncId → List V → Option V} {kz : Nat → List Nat} {k : List Fr} {st : St} {Q : AEx → St → Prop} : M xf kz (.code B17) k st Q = M xf kz (.code (.seq (.reg [⟨some 1, .lbox (.t 0) [1], none⟩,
     ⟨some 2, .mov (.k (.s [])), none⟩,
     ⟨some 3, .mov (.k (.i .i64 0)), none⟩])
  (.seq (.seq (.reg [⟨some 5, .load true 4 (.t 1), none⟩,
      ⟨some 6, .call true 39 [(.t 5)], none⟩,
      ⟨some 4, .mov (.t 6), none⟩])
   (.seq (.reg [⟨some 7, .mov (.t 4), none⟩,
      ⟨some 8, .bin .neq (.t 7) (.k (.i .i64 0)), none⟩])
   (.cond (.t 8)
    (.seq (.reg [⟨some 9, .mov (.t 4), none⟩,
       ⟨some 2, .mov (.k (.s [])), none⟩,
       ⟨some 3, .mov (.t 9), none⟩])
    .ret)
    .skip)))
  (.seq (.reg [⟨some 10, .load true 4 (.t 1), none⟩,
     ⟨some 11, .call true 40 [(.t 10)], none⟩,
     ⟨some 2, .mov (.t 11), none⟩,
     ⟨some 3, .mov (.k (.i .i64 0)), none⟩])
  .ret)))) k st Q := rfl
def kz17 (_ : Nat) : List Nat := []
theorem c_print (f : Fil) (c : List V) (hf : FilR f c) (hok : okL f) : Comp tabx told 16 [.agg c] (.tup [.s (printV f), .i .i64 (chk f : Nat)]) := by
  have hs := FilR.strip f c hf
  refine comp_of (kz := kz16) t_print (fn := af16) rfl (Nat.le_of_ble_eq_true rfl) fun gl => ?_
  show M _ _ (.code B16) _ (St.init gl 4 [.agg (stripL c)] _) (Fin [.tmp 2, .tmp 3] _)
  rw [U16]
  have y1 : X_print 18 [.agg (stripL c)] = some (.i .i64 (chk f : Nat)) := check_eq f _ hs
  have y2 : chk f = 0 → X_print 38 [.agg (stripL c)] = some (.s (tellF f)) := fun h => call_tell (s_tell_all 8) hs (fine1 hok h) (by decide)
  unfold printV
  generalize stripL c = c2 at hs y1 y2
  generalize tellF f = t at *
  generalize chk f = e at *
  cases hs with | mk k nm tx kids xs n tk hn hx =>
  by_cases he : e = 0
  · have y2 := y2 he
    subst he
    have f0 : decide (((0 : Nat) : Int) = 0) = true := by decide
    rw [if_pos rfl]
    simp only [y1, y2, f0, go_sem, ne_eq, not_false_eq_true, reduceIte, Nat.reduceMul, Nat.reduceAdd, Nat.reduceSub, Nat.reduceEqDiff, Nat.reduceLeDiff, Nat.reduceLT, List.take_succ_cons, List.take_zero, List.drop_succ_cons, List.cons_append]
    rfl
  · have f1 : decide ((e : Int) = 0) = false := decide_eq_false (by omega)
    rw [if_neg he]
    simp only [y1, f1, go_sem, ne_eq, not_false_eq_true, reduceIte, Nat.reduceMul, Nat.reduceAdd, Nat.reduceSub, Nat.reduceEqDiff, Nat.reduceLeDiff, Nat.reduceLT, List.take_succ_cons, List.take_zero, List.drop_succ_cons, List.cons_append]
theorem c_rprint (f : Fil) (c : List V) (hf : FilR f c) (hok : okL f) : Comp tabx told 17 [.agg c] (.tup [.s (printV f), .i .i64 (chk f : Nat)]) := by
  have hs := FilR.strip f c hf
  refine comp_of (kz := kz17) t_rprint (fn := af17) rfl (Nat.le_of_ble_eq_true rfl) fun gl => ?_
  show M _ _ (.code B17) _ (St.init gl 4 [.agg (stripL c)] _) (Fin [.tmp 2, .tmp 3] _)
  rw [U17]
  have y1 : X_rprint 39 [.agg (stripL c)] = some (.i .i64 (chk f : Nat)) := rcheck_eq f _ hs hok
  have y2 : chk f = 0 → X_rprint 40 [.agg (stripL c)] = some (.s (tellF f)) := fun h => call_rtell (s_rtell_all 8) hs (fine1 hok h) (by decide)
  unfold printV
  generalize stripL c = c2 at hs y1 y2
  generalize tellF f = t at *
  generalize chk f = e at *
  cases hs with | mk k nm tx kids xs n tk hn hx =>
  by_cases he : e = 0
  · have y2 := y2 he
    subst he
    have f0 : decide (((0 : Nat) : Int) = 0) = true := by decide
    rw [if_pos rfl]
    simp only [y1, y2, f0, go_sem, ne_eq, not_false_eq_true, reduceIte, Nat.reduceMul, Nat.reduceAdd, Nat.reduceSub, Nat.reduceEqDiff, Nat.reduceLeDiff, Nat.reduceLT, List.take_succ_cons, List.take_zero, List.drop_succ_cons, List.cons_append]
    rfl
  · have f1 : decide ((e : Int) = 0) = false := decide_eq_false (by omega)
    rw [if_neg he]
    simp only [y1, f1, go_sem, ne_eq, not_false_eq_true, reduceIte, Nat.reduceMul, Nat.reduceAdd, Nat.reduceSub, Nat.reduceEqDiff, Nat.reduceLeDiff, Nat.reduceLT, List.take_succ_cons, List.take_zero, List.drop_succ_cons, List.cons_append]
theorem R_print_ok {f : Fil} {c : List V} (hf : FilR f c) : R_print [.agg c] (.tup [.s (printV f), .i .i64 (chk f : Nat)]) := by
  intro f' c' e1 hf'
  simp only [List.cons.injEq, V.agg.injEq, and_true] at e1
  subst e1
  rw [← FilR.uniq f f' c hf hf']
theorem print_eq (f : Fil) (c : List V) (hf : FilR f c) (hok : okL f) : F_print [.agg c] = some (.tup [.s (printV f), .i .i64 (chk f : Nat)]) := by
  obtain ⟨v, e1, r⟩ := pickP_spec (R := R_print) (c_print f c hf hok) (R_print_ok hf)
  rw [r f c rfl hf] at e1
  exact e1
theorem rprint_eq (f : Fil) (c : List V) (hf : FilR f c) (hok : okL f) : F_rprint [.agg c] = some (.tup [.s (printV f), .i .i64 (chk f : Nat)]) := by
  obtain ⟨v, e1, r⟩ := pickP_spec (R := R_print) (c_rprint f c hf hok) (R_print_ok hf)
  rw [r f c rfl hf] at e1
  exact e1
end Go.Proofs.YtbhclhgljnoioaaDoor
