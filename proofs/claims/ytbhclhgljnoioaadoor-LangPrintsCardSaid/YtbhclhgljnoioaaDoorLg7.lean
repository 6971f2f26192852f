/- A text in quotes: the document's way; the law. -/
import Derived.Test.YtbhclhgljnoioaaDoorLg6
set_option linter.unusedSimpArgs false
set_option linter.unusedVariables false
namespace Go.Proofs.YtbhclhgljnoioaaDoor
open Ai
def X_rq := xs [(36, F_rhex)]
theorem t_rq : Tells tabx told X_rq := tells_cons o_rhex tells_nil
def K13_1 : List Fr := [.blk 0,
  .seq (.seq (.reg [⟨some 42, .mov (.t 3), none⟩,
       ⟨some 43, .bin .add (.t 42) (.k (.s [34])), none⟩,
       ⟨some 2, .mov (.t 43), none⟩])
    .ret)]
theorem U13_1 {xf : FuncId → List V → Option V} {kz : Nat → List Nat} {k : List Fr} {st : St} {Q : AEx → St → Prop} : M xf kz (.code L13_1) k st Q = M xf kz (.code (.seq (.reg [⟨some 8, .next 7, none⟩,
     ⟨some 9, .ext (.t 8) 0, none⟩])
  (.seq (.cond (.t 9)
    .skip
    (.exit 0))
  (.blk 1 (.seq (.reg [⟨some 10, .ext (.t 8) 2, none⟩,
      ⟨some 5, .mov (.t 10), none⟩])
   (.blk 2 (.seq (.reg [⟨some 16, .mov (.t 5), none⟩,
       ⟨some 17, .bin .eql (.t 16) (.k (.i .i32 34)), none⟩,
       ⟨some 15, .mov (.t 17), none⟩])
    (.cond (.t 15)
     (.reg [⟨some 18, .mov (.t 3), none⟩,
       ⟨some 19, .bin .add (.t 18) (.k (.s [92, 34])), none⟩,
       ⟨some 3, .mov (.t 19), none⟩])
     (.seq (.reg [⟨some 21, .mov (.t 5), none⟩,
        ⟨some 22, .bin .eql (.t 21) (.k (.i .i32 92)), none⟩,
        ⟨some 20, .mov (.t 22), none⟩])
     (.cond (.t 20)
      (.reg [⟨some 23, .mov (.t 3), none⟩,
        ⟨some 24, .bin .add (.t 23) (.k (.s [92, 92])), none⟩,
        ⟨some 3, .mov (.t 24), none⟩])
      (.seq (.reg [⟨some 26, .mov (.t 5), none⟩,
         ⟨some 27, .bin .lss (.t 26) (.k (.i .i32 32)), none⟩,
         ⟨some 28, .mov (.t 27), none⟩,
         ⟨some 29, .mov (.t 5), some (28, false)⟩,
         ⟨some 30, .bin .eql (.t 29) (.k (.i .i32 127)), some (28, false)⟩,
         ⟨some 31, .pick (.t 28) (.k (.b true)) (.t 30), none⟩,
         ⟨some 32, .mov (.t 31), none⟩,
         ⟨some 33, .mov (.t 5), some (32, false)⟩,
         ⟨some 34, .bin .eql (.t 33) (.k (.i .i32 65533)), some (32, false)⟩,
         ⟨some 35, .pick (.t 32) (.k (.b true)) (.t 34), none⟩,
         ⟨some 25, .mov (.t 35), none⟩])
      (.cond (.t 25)
       (.reg [⟨some 36, .mov (.t 3), none⟩,
         ⟨some 37, .bin .add (.t 36) (.k (.s [92, 117, 123])), none⟩,
         ⟨some 38, .mov (.t 5), none⟩,
         ⟨some 39, .call true 36 [(.t 38)], none⟩,
         ⟨some 40, .bin .add (.t 37) (.t 39), none⟩,
         ⟨some 41, .bin .add (.t 40) (.k (.s [125])), none⟩,
         ⟨some 3, .mov (.t 41), none⟩])
       (.reg [⟨some 11, .mov (.t 3), none⟩,
         ⟨some 12, .mov (.t 5), none⟩,
         ⟨some 13, .conv .rune (.t 12), none⟩,
         ⟨some 14, .bin .add (.t 11) (.t 13), none⟩,
         ⟨some 3, .mov (.t 14), none⟩]))))))))))))) k st Q := rfl
theorem U13 {xf : FuncId → List V → Option V} {kz : Nat → List Nat} {k : List Fr} {st : St} {Q : AEx → St → Prop} : M xf kz (.code B13) k st Q = M xf kz (.code (.seq (.reg [⟨some 2, .mov (.k (.s [])), none⟩])
  (.seq (.reg [⟨some 3, .mov (.k (.s [34])), none⟩])
  (.seq (.seq (.reg [⟨some 6, .mov (.t 0), none⟩,
      ⟨some 7, .range (.t 6), none⟩])
   (.blk 0 (.loop L13_1)))
  (.seq (.reg [⟨some 42, .mov (.t 3), none⟩,
     ⟨some 43, .bin .add (.t 42) (.k (.s [34])), none⟩,
     ⟨some 2, .mov (.t 43), none⟩])
  .ret))))) k st Q := rfl
def kz13 (_ : Nat) : List Nat := [0, 1, 2, 4, 5, 6, 8, 9, 10, 11, 12, 13, 14, 15, 16, 17, 18, 19, 20, 21, 22, 23, 24, 25, 26, 27, 28, 29, 30, 31, 32, 33, 34, 35, 36, 37, 38, 39, 40, 41, 42, 43]
theorem w_rQuote_loop (gl : Nat → List V) : ∀ (l bs : List UInt8) (pos : Nat), bs.length + 10 * l.length ≤ 1000000 →
    M X_rq (kz13) (.code L13_1) (.loop L13_1 :: K13_1) ⟨gl, (.node (.node (.node (.node (.node (.node .leaf .any .leaf) .any (.node .leaf .any .leaf)) (.it) (.node (.node .leaf .any .leaf) .any (.node .leaf .any .leaf))) (.s bs) (.node (.node (.node .leaf .any .leaf) .any (.node .leaf .any .leaf)) .any (.node (.node .leaf .any .leaf) .any (.node .leaf .any .leaf)))) .any (.node (.node (.node (.node .leaf .any .leaf) .any (.node .leaf .any .leaf)) .any (.node (.node .leaf .any .leaf) .any (.node .leaf .any .leaf))) .any (.node (.node (.node .leaf .any .leaf) .any (.node .leaf .any .leaf)) .any (.node (.node .leaf .any .leaf) .any (.node .leaf .any .leaf))))) .any (.node (.node (.node (.node (.node .leaf .any .leaf) .any (.node .leaf .any .leaf)) .any (.node (.node .leaf .any .leaf) .any (.node .leaf .any .leaf))) .any (.node (.node (.node .leaf .any .leaf) .any (.node .leaf .any .leaf)) .any (.node (.node .leaf .any .leaf) .any (.node .leaf .any .leaf)))) .any (.node (.node (.node (.node .leaf .any .leaf) .any (.node .leaf .any .leaf)) .any (.node (.node .leaf .any .leaf) .any (.node .leaf .any .leaf))) .any (.node (.node (.node .leaf .any .leaf) .any (.node .leaf .any .leaf)) .any (.node (.node .leaf .any .leaf) .any (.node .leaf .any .leaf)))))), [(7, (l, pos))], [], {}⟩
      (Fin [.tmp 2] (.s (bs ++ ((rns l).flatMap qt ++ [34])))) := by
  intro l
  induction l using rune_ind with
  | h0 =>
    intro bs pos hm
    rw [U13_1]
    have g : bs.length + 1 ≤ 4611686018427387904 := by omega
    simp only [K13_1, g, go_sem, ne_eq, not_false_eq_true, reduceIte, Nat.reduceMul, Nat.reduceAdd, Nat.reduceSub, Nat.reduceEqDiff, Nat.reduceLeDiff, Nat.reduceLT, List.take_succ_cons, List.take_zero, List.drop_succ_cons, List.cons_append]
    simp [rns_nil]
  | h1 a r ih =>
    intro bs pos hm
    have hlt := dec_nil_free a r
    have hok := dec_oks (a :: r)
    rw [U13_1, rns_cons, List.flatMap_cons]
    generalize hc : (dec (a :: r)).1 = c at *
    have hql := qt_len c
    simp only [List.length_cons] at hm hlt
    have fin : M X_rq (kz13) (.code L13_1) (.loop L13_1 :: K13_1) ⟨gl, (.node (.node (.node (.node (.node (.node .leaf .any .leaf) .any (.node .leaf .any .leaf)) (.it) (.node (.node .leaf .any .leaf) .any (.node .leaf .any .leaf))) (.s (bs ++ qt c)) (.node (.node (.node .leaf .any .leaf) .any (.node .leaf .any .leaf)) .any (.node (.node .leaf .any .leaf) .any (.node .leaf .any .leaf)))) .any (.node (.node (.node (.node .leaf .any .leaf) .any (.node .leaf .any .leaf)) .any (.node (.node .leaf .any .leaf) .any (.node .leaf .any .leaf))) .any (.node (.node (.node .leaf .any .leaf) .any (.node .leaf .any .leaf)) .any (.node (.node .leaf .any .leaf) .any (.node .leaf .any .leaf))))) .any (.node (.node (.node (.node (.node .leaf .any .leaf) .any (.node .leaf .any .leaf)) .any (.node (.node .leaf .any .leaf) .any (.node .leaf .any .leaf))) .any (.node (.node (.node .leaf .any .leaf) .any (.node .leaf .any .leaf)) .any (.node (.node .leaf .any .leaf) .any (.node .leaf .any .leaf)))) .any (.node (.node (.node (.node .leaf .any .leaf) .any (.node .leaf .any .leaf)) .any (.node (.node .leaf .any .leaf) .any (.node .leaf .any .leaf))) .any (.node (.node (.node .leaf .any .leaf) .any (.node .leaf .any .leaf)) .any (.node (.node .leaf .any .leaf) .any (.node .leaf .any .leaf)))))), [(7, ((a :: r).drop (dec (a :: r)).2, pos + (dec (a :: r)).2))], [], {}⟩
        (Fin [.tmp 2] (.s (bs ++ (qt c ++ (rns ((a :: r).drop (dec (a :: r)).2)).flatMap qt ++ [34])))) := by
      have := ih (bs ++ qt c) (pos + (dec (a :: r)).2) (by simp only [List.length_append]; omega)
      rw [show bs ++ (qt c ++ (rns ((a :: r).drop (dec (a :: r)).2)).flatMap qt ++ [34]) = bs ++ qt c ++ ((rns ((a :: r).drop (dec (a :: r)).2)).flatMap qt ++ [34]) from by simp]
      exact this
    have d1 : decide ((c : Int) = 34) = decide (c = 34) := decide_eq_decide.2 (by omega)
    have d2 : decide ((c : Int) = 92) = decide (c = 92) := decide_eq_decide.2 (by omega)
    have d3 : decide ((c : Int) < 32) = decide (c < 32) := decide_eq_decide.2 (by omega)
    have d4 : decide ((c : Int) = 127) = decide (c = 127) := decide_eq_decide.2 (by omega)
    have d5 : decide ((c : Int) = 65533) = decide (c = 65533) := decide_eq_decide.2 (by omega)
    have g2 : bs.length + 2 ≤ 4611686018427387904 := by omega
    by_cases q : c = 34
    · have hq : qt c = [92, 34] := by rw [q]; decide
      have f1 : decide (c = 34) = true := by simpa using q
      simp only [hc, d1, f1, g2, go_sem, ne_eq, not_false_eq_true, reduceIte, Nat.reduceMul, Nat.reduceAdd, Nat.reduceSub, Nat.reduceEqDiff, Nat.reduceLeDiff, Nat.reduceLT, List.take_succ_cons, List.take_zero, List.drop_succ_cons, List.cons_append]
      rw [M_loop]
      rw [hq] at fin ⊢
      simp only [kz13, K13_1, List.length_cons, List.length_nil, go_sem, ne_eq, not_false_eq_true, reduceIte, Nat.reduceMul, Nat.reduceAdd, Nat.reduceSub, Nat.reduceEqDiff, Nat.reduceLeDiff, Nat.reduceLT, List.take_succ_cons, List.take_zero, List.drop_succ_cons, List.cons_append] at fin ⊢
      exact fin
    · have f1 : decide (c = 34) = false := by simpa using q
      by_cases q2 : c = 92
      · have hq : qt c = [92, 92] := by rw [q2]; decide
        have f2 : decide (c = 92) = true := by simpa using q2
        simp only [hc, d1, f1, d2, f2, g2, go_sem, ne_eq, not_false_eq_true, reduceIte, Nat.reduceMul, Nat.reduceAdd, Nat.reduceSub, Nat.reduceEqDiff, Nat.reduceLeDiff, Nat.reduceLT, List.take_succ_cons, List.take_zero, List.drop_succ_cons, List.cons_append]
        rw [M_loop]
        rw [hq] at fin ⊢
        simp only [kz13, K13_1, List.length_cons, List.length_nil, go_sem, ne_eq, not_false_eq_true, reduceIte, Nat.reduceMul, Nat.reduceAdd, Nat.reduceSub, Nat.reduceEqDiff, Nat.reduceLeDiff, Nat.reduceLT, List.take_succ_cons, List.take_zero, List.drop_succ_cons, List.cons_append] at fin ⊢
        exact fin
      · have f2 : decide (c = 92) = false := by simpa using q2
        by_cases q3 : c < 32 ∨ c = 127 ∨ c = 65533
        · have hq : qt c = [92, 117, 123] ++ hexs c ++ [125] := by unfold qt; rw [if_neg (by omega), if_pos q3]
          have hhl := hexs_len c
          have g3 : bs.length + 3 ≤ 4611686018427387904 := by omega
          have g4 : bs.length + 3 + (hexs c).length ≤ 4611686018427387904 := by omega
          have g5 : bs.length + 3 + (hexs c).length + 1 ≤ 4611686018427387904 := by omega
          have hx := F_rhex1 q3
          have e : bs ++ qt c = bs ++ [92, 117, 123] ++ hexs c ++ [125] := by rw [hq]; simp
          rw [e] at fin
          rcases q3 with q | q | q
          · have f3 : decide (c < 32) = true := by simpa using q
            simp only [hc, d1, f1, d2, f2, d3, f3, X_rq, hx, List.length_append, g3, g4, g5, go_sem, ne_eq, not_false_eq_true, reduceIte, Nat.reduceMul, Nat.reduceAdd, Nat.reduceSub, Nat.reduceEqDiff, Nat.reduceLeDiff, Nat.reduceLT, List.take_succ_cons, List.take_zero, List.drop_succ_cons, List.cons_append]
            rw [M_loop]
            simp only [kz13, K13_1, X_rq, List.length_cons, List.length_nil, go_sem, ne_eq, not_false_eq_true, reduceIte, Nat.reduceMul, Nat.reduceAdd, Nat.reduceSub, Nat.reduceEqDiff, Nat.reduceLeDiff, Nat.reduceLT, List.take_succ_cons, List.take_zero, List.drop_succ_cons, List.cons_append] at fin ⊢
            exact fin
          · have f3 : decide (c < 32) = false := by simp; omega
            have f4 : decide (c = 127) = true := by simpa using q
            simp only [hc, d1, f1, d2, f2, d3, f3, d4, f4, X_rq, hx, List.length_append, g3, g4, g5, go_sem, ne_eq, not_false_eq_true, reduceIte, Nat.reduceMul, Nat.reduceAdd, Nat.reduceSub, Nat.reduceEqDiff, Nat.reduceLeDiff, Nat.reduceLT, List.take_succ_cons, List.take_zero, List.drop_succ_cons, List.cons_append]
            rw [M_loop]
            simp only [kz13, K13_1, X_rq, List.length_cons, List.length_nil, go_sem, ne_eq, not_false_eq_true, reduceIte, Nat.reduceMul, Nat.reduceAdd, Nat.reduceSub, Nat.reduceEqDiff, Nat.reduceLeDiff, Nat.reduceLT, List.take_succ_cons, List.take_zero, List.drop_succ_cons, List.cons_append] at fin ⊢
            exact fin
          · have f3 : decide (c < 32) = false := by simp; omega
            have f4 : decide (c = 127) = false := by simp; omega
            have f5 : decide (c = 65533) = true := by simpa using q
            simp only [hc, d1, f1, d2, f2, d3, f3, d4, f4, d5, f5, X_rq, hx, List.length_append, g3, g4, g5, go_sem, ne_eq, not_false_eq_true, reduceIte, Nat.reduceMul, Nat.reduceAdd, Nat.reduceSub, Nat.reduceEqDiff, Nat.reduceLeDiff, Nat.reduceLT, List.take_succ_cons, List.take_zero, List.drop_succ_cons, List.cons_append]
            rw [M_loop]
            simp only [kz13, K13_1, X_rq, List.length_cons, List.length_nil, go_sem, ne_eq, not_false_eq_true, reduceIte, Nat.reduceMul, Nat.reduceAdd, Nat.reduceSub, Nat.reduceEqDiff, Nat.reduceLeDiff, Nat.reduceLT, List.take_succ_cons, List.take_zero, List.drop_succ_cons, List.cons_append] at fin ⊢
            exact fin
        · have hq : qt c = enc c := by unfold qt; rw [if_neg (by omega), if_neg q3]
          have hel := enc_len c
          have f3 : decide (c < 32) = false := by simp; omega
          have f4 : decide (c = 127) = false := by simp; omega
          have f5 : decide (c = 65533) = false := by simp; omega
          have g6 : bs.length + (enc c).length ≤ 4611686018427387904 := by omega
          simp only [hc, d1, f1, d2, f2, d3, f3, d4, f4, d5, f5, encode_enc hok, g6, go_sem, ne_eq, not_false_eq_true, reduceIte, Nat.reduceMul, Nat.reduceAdd, Nat.reduceSub, Nat.reduceEqDiff, Nat.reduceLeDiff, Nat.reduceLT, List.take_succ_cons, List.take_zero, List.drop_succ_cons, List.cons_append]
          rw [M_loop]
          rw [hq] at fin ⊢
          simp only [kz13, K13_1, List.length_cons, List.length_nil, go_sem, ne_eq, not_false_eq_true, reduceIte, Nat.reduceMul, Nat.reduceAdd, Nat.reduceSub, Nat.reduceEqDiff, Nat.reduceLeDiff, Nat.reduceLT, List.take_succ_cons, List.take_zero, List.drop_succ_cons, List.cons_append] at fin ⊢
          exact fin
theorem w_rQuote (l : List UInt8) (hl : l.length ≤ 8192) (gl : Nat → List V) : M X_rq (kz13) (.code B13) [] (St.init gl 6 [.s l] {}) (Fin [.tmp 2] (.s (quoteV l))) := by
  rw [U13]
  simp only [go_sem, ne_eq, not_false_eq_true, reduceIte, Nat.reduceMul, Nat.reduceAdd, Nat.reduceSub, Nat.reduceEqDiff, Nat.reduceLeDiff, Nat.reduceLT, List.take_succ_cons, List.take_zero, List.drop_succ_cons, List.cons_append]
  rw [M_loop]
  have := w_rQuote_loop gl l [34] 0 (by simp only [List.length_cons, List.length_nil]; omega)
  simp only [kz13, K13_1, List.length_cons, List.length_nil, go_sem, ne_eq, not_false_eq_true, reduceIte, Nat.reduceMul, Nat.reduceAdd, Nat.reduceSub, Nat.reduceEqDiff, Nat.reduceLeDiff, Nat.reduceLT, List.take_succ_cons, List.take_zero, List.drop_succ_cons, List.cons_append] at this ⊢
  exact this
def F_Quote (a : List V) : Option V := match a with
  | [.s l] => if l.length ≤ 8192 then some (.s (quoteV l)) else none
  | _ => none
theorem F_Quote1 (l : List UInt8) (h : l.length ≤ 8192) : F_Quote [.s l] = some (.s (quoteV l)) := if_pos h
theorem o_Quote : ∀ a v, F_Quote a = some v → Comp tabx told 12 a v := fun a v e => by
  unfold F_Quote at e
  split at e
  · split at e
    · rename_i h; cases e; exact c_Quote _ h
    · cases e
  · cases e
theorem o_rQuote : ∀ a v, F_Quote a = some v → Comp tabx told 13 a v := fun a v e => by
  unfold F_Quote at e
  split at e
  · split at e
    · rename_i h; cases e; exact comp_of t_rq (fn := af13) rfl (Nat.le_of_ble_eq_true rfl) fun gl => w_rQuote _ h gl
    · cases e
  · cases e
end Go.Proofs.YtbhclhgljnoioaaDoor
