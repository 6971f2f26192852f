/- The stretches of a text between runes of a kind: the program's way. -/
import Derived.Test.YtkibkodlbjhjfaaTx1
set_option linter.unusedSimpArgs false
set_option linter.unusedVariables false
namespace Go.Proofs.Ytkibkodlbjhjfaa
open Ai
def K16_1 : List Fr := [.blk 0,
  .seq (.seq (.seq (.reg [⟨some 28, .mov (.t 7), none⟩])
     (.cond (.t 28)
      (.reg [⟨some 29, .mov (.t 0), none⟩,
        ⟨some 30, .len .str (.t 29), none⟩,
        ⟨some 6, .mov (.t 30), none⟩])
      .skip))
    (.seq (.reg [⟨some 31, .mov (.t 5), none⟩,
       ⟨some 32, .mov (.t 0), none⟩,
       ⟨some 33, .mov (.t 6), none⟩,
       ⟨some 34, .slc .str (.t 32) (some (.t 33)) none none, none⟩,
       ⟨some 35, .bslice false 9 1 1 [(.s [])] [(0, (.t 34))], none⟩,
       ⟨some 36, .app 9 1 (.t 31) (.t 35), none⟩,
       ⟨some 4, .mov (.t 36), none⟩])
    .ret))]
theorem U16_1 {xf : FuncId → List V → Option V} {kz : Nat → List Nat} {k : List Fr} {st : St} {Q : AEx → St → Prop} : M xf kz (.code L16_1) k st Q = M xf kz (.code (.seq (.reg [⟨some 12, .next 11, none⟩,
     ⟨some 13, .ext (.t 12) 0, none⟩])
  (.seq (.cond (.t 13)
    .skip
    (.exit 0))
  (.blk 1 (.seq (.reg [⟨some 14, .ext (.t 12) 1, none⟩,
      ⟨some 15, .ext (.t 12) 2, none⟩,
      ⟨some 8, .mov (.t 14), none⟩,
      ⟨some 9, .mov (.t 15), none⟩])
   (.seq (.seq (.reg [⟨some 16, .mov (.t 7), none⟩])
    (.cond (.t 16)
     (.reg [⟨some 17, .mov (.t 8), none⟩,
       ⟨some 6, .mov (.t 17), none⟩,
       ⟨some 7, .mov (.k (.b false)), none⟩])
     .skip))
   (.seq (.reg [⟨some 18, .mov (.t 9), none⟩,
      ⟨some 19, .mov (.t 1), none⟩,
      ⟨some 20, .bin .eql (.t 18) (.t 19), none⟩])
   (.cond (.t 20)
    (.seq (.reg [⟨some 21, .mov (.t 5), none⟩,
       ⟨some 22, .mov (.t 0), none⟩,
       ⟨some 23, .mov (.t 6), none⟩,
       ⟨some 24, .mov (.t 8), none⟩,
       ⟨some 25, .slc .str (.t 22) (some (.t 23)) (some (.t 24)) none, none⟩,
       ⟨some 26, .bslice false 9 1 1 [(.s [])] [(0, (.t 25))], none⟩,
       ⟨some 27, .app 9 1 (.t 21) (.t 26), none⟩,
       ⟨some 5, .mov (.t 27), none⟩])
    (.reg [⟨some 7, .mov (.k (.b true)), none⟩]))
    .skip)))))))) k st Q := rfl
theorem U16 {xf : FuncId → List V → Option V} {kz : Nat → List Nat} {k : List Fr} {st : St} {Q : AEx → St → Prop} : M xf kz (.code B16) k st Q = M xf kz (.code (.seq (.reg [⟨some 4, .movnil 9, none⟩])
  (.seq (.reg [⟨some 5, .movnil 9, none⟩])
  (.seq (.reg [⟨some 6, .mov (.k (.i .i64 0)), none⟩,
     ⟨some 7, .mov (.k (.b false)), none⟩])
  (.seq (.seq (.reg [⟨some 10, .mov (.t 0), none⟩,
      ⟨some 11, .range (.t 10), none⟩])
   (.blk 0 (.loop L16_1)))
  (.seq (.seq (.reg [⟨some 28, .mov (.t 7), none⟩])
   (.cond (.t 28)
    (.reg [⟨some 29, .mov (.t 0), none⟩,
      ⟨some 30, .len .str (.t 29), none⟩,
      ⟨some 6, .mov (.t 30), none⟩])
    .skip))
  (.seq (.reg [⟨some 31, .mov (.t 5), none⟩,
     ⟨some 32, .mov (.t 0), none⟩,
     ⟨some 33, .mov (.t 6), none⟩,
     ⟨some 34, .slc .str (.t 32) (some (.t 33)) none none, none⟩,
     ⟨some 35, .bslice false 9 1 1 [(.s [])] [(0, (.t 34))], none⟩,
     ⟨some 36, .app 9 1 (.t 31) (.t 35), none⟩,
     ⟨some 4, .mov (.t 36), none⟩])
  .ret))))))) k st Q := rfl
def kz16 (_ : Nat) : List Nat := [2, 3, 4, 8, 9, 10, 12, 13, 14, 15, 16, 17, 18, 19, 20, 21, 22, 23, 24, 25, 26, 27, 28, 29, 30, 31, 32, 33, 34, 35, 36]
theorem w_Parts_loop (s : List UInt8) (by' : Int) (gl : Nat → List V) : ∀ (l : List UInt8) (ps : List (List UInt8)) (f : Nat) (cut : Bool) (pos : Nat) (acc : List UInt8), s.drop pos = l → pos ≤ s.length → ps.length + l.length ≤ 16384 →
    f ≤ pos → (cut = false → (s.drop f).take (pos - f) = acc) → (cut = true → acc = []) →
    M noX (kz16) (.code L16_1) (.loop L16_1 :: K16_1) ⟨gl, (.node (.node (.node (.node (.node (.node .leaf .any .leaf) .any (.node .leaf .any .leaf)) (.b cut) (.node (.node .leaf .any .leaf) .any (.node .leaf .any .leaf))) .any (.node (.node (.node .leaf .any .leaf) .any (.node .leaf .any .leaf)) (.it) (.node (.node .leaf .any .leaf) .any (.node .leaf .any .leaf)))) (.i .i32 by') (.node (.node (.node (.node .leaf .any .leaf) .any (.node .leaf .any .leaf)) .any (.node (.node .leaf .any .leaf) .any (.node .leaf .any .leaf))) (.sl (ps.map V.s) ps.length (.own 1)) (.node (.node (.node .leaf .any .leaf) .any (.node .leaf .any .leaf)) .any (.node (.node .leaf .any .leaf) .any (.node .leaf .any .leaf))))) (.s s) (.node (.node (.node (.node (.node .leaf .any .leaf) .any (.node .leaf .any .leaf)) .any (.node (.node .leaf .any .leaf) .any (.node .leaf .any .leaf))) .any (.node (.node (.node .leaf .any .leaf) .any (.node .leaf .any .leaf)) .any (.node (.node .leaf .any .leaf) .any (.node .leaf .any .leaf)))) .any (.node (.node (.node (.node .leaf .any .leaf) .any (.node .leaf .any .leaf)) .any (.node (.node .leaf .any .leaf) .any (.node .leaf .any .leaf))) (.i .i64 f) (.node (.node (.node .leaf .any .leaf) .any (.node .leaf .any .leaf)) .any (.node (.node .leaf .any .leaf) .any (.node .leaf .any .leaf)))))), [(11, (l, pos))], [], ⟨0, [], 2, [(1, (ps.length, 9)), (0, (0, 9))]⟩⟩
      (Fin [.tmp 4] (.sl ((ps ++ prt by' acc l).map V.s) (ps ++ prt by' acc l).length .no)) := by
  intro l
  induction l using rune_ind with
  | h0 =>
    intro ps f cut pos acc hd hp hn hf hc1 hc2
    have hlen := drop_len hd hp
    simp only [List.length_nil, Nat.add_zero] at hlen
    subst hlen
    rw [U16_1]
    have e1 : (ps.map V.s).length = ps.length := List.length_map ..
    have e2 : ps.length + 1 ≤ most := by unfold most; simp only [List.length_nil] at hn; omega
    cases cut with
    | false =>
      simp only [K16_1, e1, e2, hf, Nat.le_refl, go_sem, ne_eq, not_false_eq_true, reduceIte, Nat.reduceMul, Nat.reduceAdd, Nat.reduceSub, Nat.reduceEqDiff, Nat.reduceLeDiff]
      rw [hc1 rfl, prt_nil]
      rw [show List.map (frz ⟨0, [], 2, [(1, (ps.length + 1, 9)), (0, (0, 9))]⟩ 99) (List.map V.s ps ++ [V.s acc]) = List.map V.s (ps ++ [acc]) from by rw [← frz_strs ⟨0, [], 2, [(1, (ps.length + 1, 9)), (0, (0, 9))]⟩ 98 (ps ++ [acc])]; simp]
      simp
    | true =>
      simp only [K16_1, e1, e2, hf, Nat.le_refl, Nat.sub_self, List.take_zero, List.drop_length, List.take_nil, go_sem, ne_eq, not_false_eq_true, reduceIte, Nat.reduceMul, Nat.reduceAdd, Nat.reduceSub, Nat.reduceEqDiff, Nat.reduceLeDiff]
      rw [hc2 rfl, prt_nil]
      rw [show List.map (frz ⟨0, [], 2, [(1, (ps.length + 1, 9)), (0, (0, 9))]⟩ 99) (List.map V.s ps ++ [V.s []]) = List.map V.s (ps ++ [[]]) from by rw [← frz_strs ⟨0, [], 2, [(1, (ps.length + 1, 9)), (0, (0, 9))]⟩ 98 (ps ++ [[]])]; simp]
      simp
  | h1 a r ih =>
    intro ps f cut pos acc hd hp hn hf hc1 hc2
    have hlen := drop_len hd hp
    rw [U16_1]
    have e1 : (ps.map V.s).length = ps.length := List.length_map ..
    have e2 : ps.length + 1 ≤ most := by unfold most; simp only [List.length_cons] at hn; omega
    have hw := dec_pos (a :: r)
    have hw2 := dec_le a r
    have hw3 := dec_nil_free a r
    have hd' := drop_more hd (dec (a :: r)).2
    have hp' : pos + (dec (a :: r)).2 ≤ s.length := by omega
    have hps : pos ≤ s.length := hp
    have hN : ∀ p : List UInt8, (ps ++ [p]).length + ((a :: r).drop (dec (a :: r)).2).length ≤ 16384 := by intro p; simp only [List.length_append, List.length_cons, List.length_nil] at hn hw3 ⊢; omega
    have hN' : ps.length + ((a :: r).drop (dec (a :: r)).2).length ≤ 16384 := by omega
    by_cases hc : ((dec (a :: r)).1 : Int) = by'
    · have e3 : decide (((dec (a :: r)).1 : Int) = by') = true := by simpa using hc
      cases cut with
      | false =>
        simp only [e1, e2, e3, hf, hps, hc1 rfl, Nat.le_refl, go_sem, ne_eq, not_false_eq_true, reduceIte, Nat.reduceMul, Nat.reduceAdd, Nat.reduceSub, Nat.reduceEqDiff, Nat.reduceLeDiff]
        rw [M_loop]
        simp only [kz16, go_sem, ne_eq, not_false_eq_true, reduceIte, Nat.reduceMul, Nat.reduceAdd, Nat.reduceSub, Nat.reduceEqDiff, Nat.reduceLeDiff]
        rw [prt_cons, if_pos hc]
        have := ih (ps ++ [acc]) f true (pos + (dec (a :: r)).2) [] hd' hp' (hN acc) (by omega) (by simp) (by simp)
        simpa using this
      | true =>
        simp only [e1, e2, e3, hf, hps, Nat.le_refl, Nat.sub_self, List.take_zero, go_sem, ne_eq, not_false_eq_true, reduceIte, Nat.reduceMul, Nat.reduceAdd, Nat.reduceSub, Nat.reduceEqDiff, Nat.reduceLeDiff]
        rw [M_loop]
        simp only [kz16, go_sem, ne_eq, not_false_eq_true, reduceIte, Nat.reduceMul, Nat.reduceAdd, Nat.reduceSub, Nat.reduceEqDiff, Nat.reduceLeDiff]
        rw [prt_cons, if_pos hc, hc2 rfl]
        have := ih (ps ++ [[]]) pos true (pos + (dec (a :: r)).2) [] hd' hp' (hN []) (by omega) (by simp) (by simp)
        simpa using this
    · have e3 : decide (((dec (a :: r)).1 : Int) = by') = false := by simpa using hc
      cases cut with
      | false =>
        simp only [e3, go_sem, ne_eq, not_false_eq_true, reduceIte, Nat.reduceMul, Nat.reduceAdd, Nat.reduceSub, Nat.reduceEqDiff, Nat.reduceLeDiff]
        rw [M_loop]
        simp only [kz16, go_sem, ne_eq, not_false_eq_true, reduceIte, Nat.reduceMul, Nat.reduceAdd, Nat.reduceSub, Nat.reduceEqDiff, Nat.reduceLeDiff]
        rw [prt_cons, if_neg hc]
        exact ih ps f false (pos + (dec (a :: r)).2) _ hd' hp' hN' (by omega) (fun _ => by rw [take_more hd hf, hc1 rfl]) (by simp)
      | true =>
        simp only [e3, go_sem, ne_eq, not_false_eq_true, reduceIte, Nat.reduceMul, Nat.reduceAdd, Nat.reduceSub, Nat.reduceEqDiff, Nat.reduceLeDiff]
        rw [M_loop]
        simp only [kz16, go_sem, ne_eq, not_false_eq_true, reduceIte, Nat.reduceMul, Nat.reduceAdd, Nat.reduceSub, Nat.reduceEqDiff, Nat.reduceLeDiff]
        rw [prt_cons, if_neg hc, hc2 rfl]
        exact ih ps pos false (pos + (dec (a :: r)).2) _ hd' hp' hN' (by omega) (fun _ => by rw [take_more hd (Nat.le_refl _)]; simp) (by simp)
theorem w_Parts (s : List UInt8) (hs : s.length ≤ 16384) (by' : Int) (gl : Nat → List V) : M noX (kz16) (.code B16) [] (St.init gl 6 [.s s, .i .i32 by'] {}) (Fin [.tmp 4] (.sl ((prt by' [] s).map V.s) (prt by' [] s).length .no)) := by
  rw [U16]
  simp only [go_sem, ne_eq, not_false_eq_true, reduceIte, Nat.reduceMul, Nat.reduceAdd, Nat.reduceSub, Nat.reduceEqDiff, Nat.reduceLeDiff]
  rw [M_loop]
  simp only [kz16, go_sem, ne_eq, not_false_eq_true, reduceIte, Nat.reduceMul, Nat.reduceAdd, Nat.reduceSub, Nat.reduceEqDiff, Nat.reduceLeDiff]
  exact w_Parts_loop s by' gl s [] 0 false 0 [] rfl (by omega) (by simpa using hs) (by omega) (by simp) (by simp)
theorem c_Parts (s : List UInt8) (hs : s.length ≤ 16384) (by' : Int) : Comp tabx told 16 [.s s, .i .i32 by'] (.sl ((prt by' [] s).map V.s) (prt by' [] s).length .no) :=
  comp_of tells_noX (fn := af16) rfl (Nat.le_of_ble_eq_true rfl) fun gl => w_Parts s hs by' gl
def F_Parts (a : List V) : Option V := match a with
  | [.s s, .i .i32 b] => if s.length ≤ 16384 then some (.sl ((prt b [] s).map V.s) (prt b [] s).length .no) else none
  | _ => none
theorem F_Parts1 (s : List UInt8) (hs : s.length ≤ 16384) (b : Int) : F_Parts [.s s, .i .i32 b] = some (.sl ((prt b [] s).map V.s) (prt b [] s).length .no) := if_pos hs
theorem o_Parts : ∀ a v, F_Parts a = some v → Comp tabx told 16 a v := fun a v e => by
  unfold F_Parts at e
  split at e
  · split at e
    · rename_i h; cases e; exact c_Parts _ h _
    · cases e
  · cases e
end Go.Proofs.Ytkibkodlbjhjfaa
