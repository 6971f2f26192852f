/- The stretches of a text between runes of a kind: the program's way. -/
import Derived.Test.YtkibkodlbjhjfaaTx1m
set_option linter.unusedSimpArgs false
set_option linter.unusedVariables false
namespace Go.Proofs.Ytkibkodlbjhjfaa
open Ai
def K16_1 : List Fr := [.blk 0,
  .seq (.seq (.seq (.reg [⟨some 28, .mov (.t 7), none⟩])
     (.cond (.t 28)
      (.reg [⟨some 29, .mov (.t 0), none⟩,
        ⟨some 30, .len .str (.t 29), none⟩,
        ⟨some 6, .mov (.t 30), none⟩])
      .skip))
    (.seq (.reg [⟨some 31, .mov (.t 5), none⟩,
       ⟨some 32, .mov (.t 0), none⟩,
       ⟨some 33, .mov (.t 6), none⟩,
       ⟨some 34, .slc .str (.t 32) (some (.t 33)) none none, none⟩,
       ⟨some 35, .bslice false 9 1 1 [(.s [])] [(0, (.t 34))], none⟩,
       ⟨some 36, .app 9 1 (.t 31) (.t 35), none⟩,
       ⟨some 4, .mov (.t 36), none⟩])
    .ret))]
theorem U16_1 {xf : FuncId → List V → Option V} {kz : Nat → List Nat} {k : List Fr} {st : St} {Q : AEx → St → Prop} : M xf kz (.code L16_1) k st Q = M xf kz (.code (.seq (.reg [⟨some 12, .next 11, none⟩,
     ⟨some 13, .ext (.t 12) 0, none⟩])
  (.seq (.cond (.t 13)
    .skip
    (.exit 0))
  (.blk 1 (.seq (.reg [⟨some 14, .ext (.t 12) 1, none⟩,
      ⟨some 15, .ext (.t 12) 2, none⟩,
      ⟨some 8, .mov (.t 14), none⟩,
      ⟨some 9, .mov (.t 15), none⟩])
   (.seq (.seq (.reg [⟨some 16, .mov (.t 7), none⟩])
    (.cond (.t 16)
     (.reg [⟨some 17, .mov (.t 8), none⟩,
       ⟨some 6, .mov (.t 17), none⟩,
       ⟨some 7, .mov (.k (.b false)), none⟩])
     .skip))
   (.seq (.reg [⟨some 18, .mov (.t 9), none⟩,
      ⟨some 19, .mov (.t 1), none⟩,
      ⟨some 20, .bin .eql (.t 18) (.t 19), none⟩])
   (.cond (.t 20)
    (.seq (.reg [⟨some 21, .mov (.t 5), none⟩,
       ⟨some 22, .mov (.t 0), none⟩,
       ⟨some 23, .mov (.t 6), none⟩,
       ⟨some 24, .mov (.t 8), none⟩,
       ⟨some 25, .slc .str (.t 22) (some (.t 23)) (some (.t 24)) none, none⟩,
       ⟨some 26, .bslice false 9 1 1 [(.s [])] [(0, (.t 25))], none⟩,
       ⟨some 27, .app 9 1 (.t 21) (.t 26), none⟩,
       ⟨some 5, .mov (.t 27), none⟩])
    (.reg [⟨some 7, .mov (.k (.b true)), none⟩]))
    .skip)))))))) k st Q := rfl
theorem U16 {xf : FuncId → List V → Option V} {kz : Nat → List Nat} {k : List Fr} {st : St} {Q : AEx → St → Prop} : M xf kz (.code B16) k st Q = M xf kz (.code (.seq (.reg [⟨some 4, .movnil 9, none⟩])
  (.seq (.reg [⟨some 5, .movnil 9, none⟩])
  (.seq (.reg [⟨some 6, .mov (.k (.i .i64 0)), none⟩,
     ⟨some 7, .mov (.k (.b false)), none⟩])
  (.seq (.seq (.reg [⟨some 10, .mov (.t 0), none⟩,
      ⟨some 11, .range (.t 10), none⟩])
   (.blk 0 (.loop L16_1)))
  (.seq (.seq (.reg [⟨some 28, .mov (.t 7), none⟩])
   (.cond (.t 28)
    (.reg [⟨some 29, .mov (.t 0), none⟩,
      ⟨some 30, .len .str (.t 29), none⟩,
      ⟨some 6, .mov (.t 30), none⟩])
    .skip))
  (.seq (.reg [⟨some 31, .mov (.t 5), none⟩,
     ⟨some 32, .mov (.t 0), none⟩,
     ⟨some 33, .mov (.t 6), none⟩,
     ⟨some 34, .slc .str (.t 32) (some (.t 33)) none none, none⟩,
     ⟨some 35, .bslice false 9 1 1 [(.s [])] [(0, (.t 34))], none⟩,
     ⟨some 36, .app 9 1 (.t 31) (.t 35), none⟩,
     ⟨some 4, .mov (.t 36), none⟩])
  .ret))))))) k st Q := rfl
def kz16 (_ : Nat) : List Nat := [2, 3, 4, 8, 9, 10, 12, 13, 14, 15, 16, 17, 18, 19, 20, 21, 22, 23, 24, 25, 26, 27, 28, 29, 30, 31, 32, 33, 34, 35, 36]
theorem w_Parts_loop (s : List UInt8) (by' : Int) (gl : Nat → List V) : ∀ (l : List UInt8) (ps : List (List UInt8)) (f : Nat) (cut : Bool) (pos : Nat) (acc : List UInt8), s.drop pos = l → pos ≤ s.length → ps.length + (prt by' acc l).length ≤ 16385 →
    f ≤ pos → (cut = false → (s.drop f).take (pos - f) = acc) → (cut = true → acc = []) →
    M noX (kz16) (.code L16_1) (.loop L16_1 :: K16_1) ⟨gl, (.node (.node (.node (.node (.node (.node .leaf .any .leaf) .any (.node .leaf .any .leaf)) (.b cut) (.node (.node .leaf .any .leaf) .any (.node .leaf .any .leaf))) .any (.node (.node (.node .leaf .any .leaf) .any (.node .leaf .any .leaf)) (.it) (.node (.node .leaf .any .leaf) .any (.node .leaf .any .leaf)))) (.i .i32 by') (.node (.node (.node (.node .leaf .any .leaf) .any (.node .leaf .any .leaf)) .any (.node (.node .leaf .any .leaf) .any (.node .leaf .any .leaf))) (.sl (ps.map V.s) ps.length (.own 1)) (.node (.node (.node .leaf .any .leaf) .any (.node .leaf .any .leaf)) .any (.node (.node .leaf .any .leaf) .any (.node .leaf .any .leaf))))) (.s s) (.node (.node (.node (.node (.node .leaf .any .leaf) .any (.node .leaf .any .leaf)) .any (.node (.node .leaf .any .leaf) .any (.node .leaf .any .leaf))) .any (.node (.node (.node .leaf .any .leaf) .any (.node .leaf .any .leaf)) .any (.node (.node .leaf .any .leaf) .any (.node .leaf .any .leaf)))) .any (.node (.node (.node (.node .leaf .any .leaf) .any (.node .leaf .any .leaf)) .any (.node (.node .leaf .any .leaf) .any (.node .leaf .any .leaf))) (.i .i64 f) (.node (.node (.node .leaf .any .leaf) .any (.node .leaf .any .leaf)) .any (.node (.node .leaf .any .leaf) .any (.node .leaf .any .leaf)))))), [(11, (l, pos))], [], ⟨0, [], 2, [(1, (ps.length, 9)), (0, (0, 9))]⟩⟩
      (Fin [.tmp 4] (.sl ((ps ++ prt by' acc l).map V.s) (ps ++ prt by' acc l).length .no)) := by
  intro l
  induction l using rune_ind with
  | h0 =>
    intro ps f cut pos acc hd hp hn hf hc1 hc2
    have hlen := drop_len hd hp
    simp only [List.length_nil, Nat.add_zero] at hlen
    subst hlen
    rw [U16_1]
    have e1 : (ps.map V.s).length = ps.length := List.length_map ..
    have e2 : ps.length + 1 ≤ most := by unfold most; rw [prt_nil] at hn; simp only [List.length_cons, List.length_nil] at hn; omega
    cases cut with
    | false =>
      simp only [K16_1, e1, e2, hf, Nat.le_refl, go_sem, ne_eq, not_false_eq_true, reduceIte, Nat.reduceMul, Nat.reduceAdd, Nat.reduceSub, Nat.reduceEqDiff, Nat.reduceLeDiff, Nat.reduceLT, List.take_succ_cons, List.take_zero, List.drop_succ_cons, List.cons_append]
      rw [hc1 rfl, prt_nil]
      rw [show List.map (frz ⟨0, [], 2, [(1, (ps.length + 1, 9)), (0, (0, 9))]⟩ 99) (List.map V.s ps ++ [V.s acc]) = List.map V.s (ps ++ [acc]) from by rw [← frz_strs ⟨0, [], 2, [(1, (ps.length + 1, 9)), (0, (0, 9))]⟩ 98 (ps ++ [acc])]; simp]
      simp
    | true =>
      simp only [K16_1, e1, e2, hf, Nat.le_refl, Nat.sub_self, List.take_zero, List.drop_length, List.take_nil, go_sem, ne_eq, not_false_eq_true, reduceIte, Nat.reduceMul, Nat.reduceAdd, Nat.reduceSub, Nat.reduceEqDiff, Nat.reduceLeDiff, Nat.reduceLT, List.take_succ_cons, List.take_zero, List.drop_succ_cons, List.cons_append]
      rw [hc2 rfl, prt_nil]
      rw [show List.map (frz ⟨0, [], 2, [(1, (ps.length + 1, 9)), (0, (0, 9))]⟩ 99) (List.map V.s ps ++ [V.s []]) = List.map V.s (ps ++ [[]]) from by rw [← frz_strs ⟨0, [], 2, [(1, (ps.length + 1, 9)), (0, (0, 9))]⟩ 98 (ps ++ [[]])]; simp]
      simp
  | h1 a r ih =>
    intro ps f cut pos acc hd hp hn hf hc1 hc2
    have hlen := drop_len hd hp
    rw [U16_1]
    have e1 : (ps.map V.s).length = ps.length := List.length_map ..
    have e2 : ps.length + 1 ≤ most := by have := prt_ne by' (a :: r) acc; unfold most; omega
    have hw := dec_pos (a :: r)
    have hw2 := dec_le a r
    have hw3 := dec_nil_free a r
    have hd' := drop_more hd (dec (a :: r)).2
    have hp' : pos + (dec (a :: r)).2 ≤ s.length := by omega
    have hps : pos ≤ s.length := hp
    rw [prt_cons] at hn
    by_cases hc : ((dec (a :: r)).1 : Int) = by'
    · have e3 : decide (((dec (a :: r)).1 : Int) = by') = true := by simpa using hc
      rw [if_pos hc] at hn
      simp only [List.length_cons] at hn
      cases cut with
      | false =>
        simp only [e1, e2, e3, hf, hps, hc1 rfl, Nat.le_refl, go_sem, ne_eq, not_false_eq_true, reduceIte, Nat.reduceMul, Nat.reduceAdd, Nat.reduceSub, Nat.reduceEqDiff, Nat.reduceLeDiff, Nat.reduceLT, List.take_succ_cons, List.take_zero, List.drop_succ_cons, List.cons_append]
        rw [M_loop]
        simp only [kz16, go_sem, ne_eq, not_false_eq_true, reduceIte, Nat.reduceMul, Nat.reduceAdd, Nat.reduceSub, Nat.reduceEqDiff, Nat.reduceLeDiff, Nat.reduceLT, List.take_succ_cons, List.take_zero, List.drop_succ_cons, List.cons_append]
        rw [prt_cons, if_pos hc]
        have := ih (ps ++ [acc]) f true (pos + (dec (a :: r)).2) [] hd' hp' (by simp only [List.length_append, List.length_cons, List.length_nil]; omega) (by omega) (by simp) (by simp)
        simpa using this
      | true =>
        simp only [e1, e2, e3, hf, hps, Nat.le_refl, Nat.sub_self, List.take_zero, go_sem, ne_eq, not_false_eq_true, reduceIte, Nat.reduceMul, Nat.reduceAdd, Nat.reduceSub, Nat.reduceEqDiff, Nat.reduceLeDiff, Nat.reduceLT, List.take_succ_cons, List.take_zero, List.drop_succ_cons, List.cons_append]
        rw [M_loop]
        simp only [kz16, go_sem, ne_eq, not_false_eq_true, reduceIte, Nat.reduceMul, Nat.reduceAdd, Nat.reduceSub, Nat.reduceEqDiff, Nat.reduceLeDiff, Nat.reduceLT, List.take_succ_cons, List.take_zero, List.drop_succ_cons, List.cons_append]
        rw [prt_cons, if_pos hc, hc2 rfl]
        have := ih (ps ++ [[]]) pos true (pos + (dec (a :: r)).2) [] hd' hp' (by simp only [List.length_append, List.length_cons, List.length_nil]; omega) (by omega) (by simp) (by simp)
        simpa using this
    · have e3 : decide (((dec (a :: r)).1 : Int) = by') = false := by simpa using hc
      rw [if_neg hc] at hn
      cases cut with
      | false =>
        simp only [e3, go_sem, ne_eq, not_false_eq_true, reduceIte, Nat.reduceMul, Nat.reduceAdd, Nat.reduceSub, Nat.reduceEqDiff, Nat.reduceLeDiff, Nat.reduceLT, List.take_succ_cons, List.take_zero, List.drop_succ_cons, List.cons_append]
        rw [M_loop]
        simp only [kz16, go_sem, ne_eq, not_false_eq_true, reduceIte, Nat.reduceMul, Nat.reduceAdd, Nat.reduceSub, Nat.reduceEqDiff, Nat.reduceLeDiff, Nat.reduceLT, List.take_succ_cons, List.take_zero, List.drop_succ_cons, List.cons_append]
        rw [prt_cons, if_neg hc]
        exact ih ps f false (pos + (dec (a :: r)).2) _ hd' hp' hn (by omega) (fun _ => by rw [take_more hd hf, hc1 rfl]) (by simp)
      | true =>
        simp only [e3, go_sem, ne_eq, not_false_eq_true, reduceIte, Nat.reduceMul, Nat.reduceAdd, Nat.reduceSub, Nat.reduceEqDiff, Nat.reduceLeDiff, Nat.reduceLT, List.take_succ_cons, List.take_zero, List.drop_succ_cons, List.cons_append]
        rw [M_loop]
        simp only [kz16, go_sem, ne_eq, not_false_eq_true, reduceIte, Nat.reduceMul, Nat.reduceAdd, Nat.reduceSub, Nat.reduceEqDiff, Nat.reduceLeDiff, Nat.reduceLT, List.take_succ_cons, List.take_zero, List.drop_succ_cons, List.cons_append]
        rw [prt_cons, if_neg hc, hc2 rfl]
        rw [hc2 rfl] at hn
        exact ih ps pos false (pos + (dec (a :: r)).2) _ hd' hp' hn (by omega) (fun _ => by rw [take_more hd (Nat.le_refl _)]; simp) (by simp)
theorem w_Parts (s : List UInt8) (by' : Int) (hs : (prt by' [] s).length ≤ 16385) (gl : Nat → List V) : M noX (kz16) (.code B16) [] (St.init gl 6 [.s s, .i .i32 by'] {}) (Fin [.tmp 4] (.sl ((prt by' [] s).map V.s) (prt by' [] s).length .no)) := by
  rw [U16]
  simp only [go_sem, ne_eq, not_false_eq_true, reduceIte, Nat.reduceMul, Nat.reduceAdd, Nat.reduceSub, Nat.reduceEqDiff, Nat.reduceLeDiff, Nat.reduceLT, List.take_succ_cons, List.take_zero, List.drop_succ_cons, List.cons_append]
  rw [M_loop]
  simp only [kz16, go_sem, ne_eq, not_false_eq_true, reduceIte, Nat.reduceMul, Nat.reduceAdd, Nat.reduceSub, Nat.reduceEqDiff, Nat.reduceLeDiff, Nat.reduceLT, List.take_succ_cons, List.take_zero, List.drop_succ_cons, List.cons_append]
  exact w_Parts_loop s by' gl s [] 0 false 0 [] rfl (by omega) (by simpa using hs) (by omega) (by simp) (by simp)
theorem c_Parts (s : List UInt8) (by' : Int) (hs : (prt by' [] s).length ≤ 16385) : Comp tabx told 16 [.s s, .i .i32 by'] (.sl ((prt by' [] s).map V.s) (prt by' [] s).length .no) :=
  comp_of tells_noX (fn := af16) rfl (Nat.le_of_ble_eq_true rfl) fun gl => w_Parts s by' hs gl
def F_Parts (a : List V) : Option V := match a with
  | [.s s, .i .i32 b] => if (prt b [] s).length ≤ 16385 then some (.sl ((prt b [] s).map V.s) (prt b [] s).length .no) else none
  | _ => none
theorem F_Parts1 (s : List UInt8) (b : Int) (hs : (prt b [] s).length ≤ 16385) : F_Parts [.s s, .i .i32 b] = some (.sl ((prt b [] s).map V.s) (prt b [] s).length .no) := if_pos hs
theorem o_Parts : ∀ a v, F_Parts a = some v → Comp tabx told 16 a v := fun a v e => by
  unfold F_Parts at e
  split at e
  · split at e
    · rename_i h; cases e; exact c_Parts _ _ h
    · cases e
  · cases e

def fld1 (name acc l : List UInt8) : Option (List UInt8) :=
  match l with
  | [] => none
  | a :: r => if ((dec (a :: r)).1 : Int) = 58 then (if acc = name then some r else none) else fld1 name (acc ++ (a :: r).take (dec (a :: r)).2) ((a :: r).drop (dec (a :: r)).2)
termination_by l.length
decreasing_by exact dec_nil_free a r
theorem fld1_nil (name acc : List UInt8) : fld1 name acc [] = none := by rw [fld1]
theorem fld1_cons (name acc : List UInt8) (a : UInt8) (r : List UInt8) : fld1 name acc (a :: r) = if ((dec (a :: r)).1 : Int) = 58 then (if acc = name then some r else none) else fld1 name (acc ++ (a :: r).take (dec (a :: r)).2) ((a :: r).drop (dec (a :: r)).2) := by rw [fld1]
def fldV (name : List UInt8) : List (List UInt8) → Option (List UInt8)
  | [] => none
  | p :: r => match fld1 name [] p with
    | some x => some x
    | none => fldV name r
def res (o : Option (List UInt8)) : V := match o with
  | some r => .tup [.s r, .b true]
  | none => .tup [.s [], .b false]
def X_field := xs [(16, F_Parts)]
theorem t_field : Tells tabx told X_field := tells_cons o_Parts tells_nil

def K12_2 : List Fr := [.blk 2,
  .blk 1,
  .seq (.reg [⟨some 34, .bin .add (.t 13) (.k (.i .i64 1)), none⟩,
      ⟨some 13, .mov (.t 34), none⟩]),
  .loop L12_1,
  .blk 0,
  .seq (.seq (.reg [⟨some 4, .mov (.k (.s [])), none⟩,
       ⟨some 5, .mov (.k (.b false)), none⟩])
    .ret)]
theorem U12_2 {xf : FuncId → List V → Option V} {kz : Nat → List Nat} {k : List Fr} {st : St} {Q : AEx → St → Prop} : M xf kz (.code L12_2) k st Q = M xf kz (.code (.seq (.reg [⟨some 19, .next 18, none⟩,
     ⟨some 20, .ext (.t 19) 0, none⟩])
  (.seq (.cond (.t 20)
    .skip
    (.exit 2))
  (.blk 3 (.seq (.reg [⟨some 21, .ext (.t 19) 1, none⟩,
      ⟨some 22, .ext (.t 19) 2, none⟩,
      ⟨some 8, .mov (.t 21), none⟩,
      ⟨some 9, .mov (.t 22), none⟩])
   (.seq (.reg [⟨some 23, .mov (.t 9), none⟩,
      ⟨some 24, .bin .eql (.t 23) (.k (.i .i32 58)), none⟩])
   (.cond (.t 24)
    (.seq (.seq (.reg [⟨some 25, .mov (.t 7), none⟩,
        ⟨some 26, .mov (.t 8), none⟩,
        ⟨some 27, .slc .str (.t 25) none (some (.t 26)) none, none⟩,
        ⟨some 28, .mov (.t 1), none⟩,
        ⟨some 29, .bin .eql (.t 27) (.t 28), none⟩])
     (.cond (.t 29)
      (.seq (.reg [⟨some 30, .mov (.t 7), none⟩,
         ⟨some 31, .mov (.t 8), none⟩,
         ⟨some 32, .bin .add (.t 31) (.k (.i .i64 1)), none⟩,
         ⟨some 33, .slc .str (.t 30) (some (.t 32)) none none, none⟩,
         ⟨some 4, .mov (.t 33), none⟩,
         ⟨some 5, .mov (.k (.b true)), none⟩])
      .ret)
      .skip))
    (.exit 2))
    .skip))))))) k st Q := rfl
def K12_1 : List Fr := [.blk 0,
  .seq (.seq (.reg [⟨some 4, .mov (.k (.s [])), none⟩,
       ⟨some 5, .mov (.k (.b false)), none⟩])
    .ret)]
theorem U12_1 {xf : FuncId → List V → Option V} {kz : Nat → List Nat} {k : List Fr} {st : St} {Q : AEx → St → Prop} : M xf kz (.code L12_1) k st Q = M xf kz (.code (.seq (.reg [⟨some 14, .bin .lss (.t 13) (.t 12), none⟩])
  (.seq (.cond (.t 14)
    .skip
    (.exit 0))
  (.seq (.blk 1 (.seq (.reg [⟨some 15, .iaddr (.slice 1) (.t 11) (.t 13), none⟩,
       ⟨some 16, .load false 1 (.t 15), none⟩,
       ⟨some 7, .mov (.t 16), none⟩])
    (.seq (.reg [⟨some 17, .mov (.t 7), none⟩,
       ⟨some 18, .range (.t 17), none⟩])
    (.blk 2 (.loop L12_2)))))
  (.reg [⟨some 34, .bin .add (.t 13) (.k (.i .i64 1)), none⟩,
    ⟨some 13, .mov (.t 34), none⟩]))))) k st Q := rfl
theorem U12 {xf : FuncId → List V → Option V} {kz : Nat → List Nat} {k : List Fr} {st : St} {Q : AEx → St → Prop} : M xf kz (.code B12) k st Q = M xf kz (.code (.seq (.reg [⟨some 4, .mov (.k (.s [])), none⟩,
     ⟨some 5, .mov (.k (.b false)), none⟩])
  (.seq (.seq (.reg [⟨some 10, .mov (.t 0), none⟩,
      ⟨some 11, .call true 16 [(.t 10), (.k (.i .i32 32))], none⟩,
      ⟨some 12, .len .slice (.t 11), none⟩,
      ⟨some 13, .mov (.k (.i .i64 0)), none⟩])
   (.blk 0 (.loop L12_1)))
  (.seq (.reg [⟨some 4, .mov (.k (.s [])), none⟩,
     ⟨some 5, .mov (.k (.b false)), none⟩])
  .ret)))) k st Q := rfl
def kz12 (n : Nat) : List Nat := if n = 2 then [0, 2, 3, 4, 5, 6, 7, 8, 9, 10, 14, 15, 16, 17, 18, 19, 20, 21, 22, 23, 24, 25, 26, 27, 28, 29, 30, 31, 32, 33, 34] else if n = 6 then [0, 2, 3, 4, 5, 6, 8, 9, 10, 14, 15, 16, 17, 19, 20, 21, 22, 23, 24, 25, 26, 27, 28, 29, 30, 31, 32, 33, 34] else []
theorem w_Field_in (name p : List UInt8) (hp0 : p.length ≤ 1152921504606846976) (ps : List (List UInt8)) (i : Nat) (rest : List (List UInt8)) (h : H) (gl : Nat → List V)
    (hcont : ∀ its, M X_field (kz12) (.code L12_1) (.loop L12_1 :: K12_1) ⟨gl, (.node (.node (.node (.node (.node (.node .leaf .any .leaf) .any (.node .leaf .any .leaf)) .any (.node (.node .leaf .any .leaf) .any (.node .leaf .any .leaf))) .any (.node (.node (.node .leaf .any .leaf) .any (.node .leaf .any .leaf)) (.sl (ps.map V.s) ps.length .no) (.node (.node .leaf .any .leaf) .any (.node .leaf .any .leaf)))) (.s name) (.node (.node (.node (.node .leaf .any .leaf) .any (.node .leaf .any .leaf)) .any (.node (.node .leaf .any .leaf) .any (.node .leaf .any .leaf))) .any (.node (.node (.node .leaf .any .leaf) .any (.node .leaf .any .leaf)) (.i .i64 ((i + 1 : Nat) : Int)) (.node (.node .leaf .any .leaf) .any (.node .leaf .any .leaf))))) .any (.node (.node (.node (.node (.node .leaf .any .leaf) .any (.node .leaf .any .leaf)) .any (.node (.node .leaf .any .leaf) .any (.node .leaf .any .leaf))) .any (.node (.node (.node .leaf .any .leaf) .any (.node .leaf .any .leaf)) (.i .i64 ps.length) (.node (.node .leaf .any .leaf) .any (.node .leaf .any .leaf)))) .any (.node (.node (.node (.node .leaf .any .leaf) .any (.node .leaf .any .leaf)) .any (.node (.node .leaf .any .leaf) .any (.node .leaf .any .leaf))) .any (.node (.node (.node .leaf .any .leaf) .any (.node .leaf .any .leaf)) .any (.node (.node .leaf .any .leaf) .any (.node .leaf .any .leaf)))))), its, [], h⟩ (Fin [.tmp 4, .tmp 5] (res (fldV name rest))))
    (hi : wr .i64 ((i : Int) + 1) = ((i + 1 : Nat) : Int)) :
    ∀ (l : List UInt8) (pos : Nat) its, p.drop pos = l → pos ≤ p.length →
    M X_field (kz12) (.code L12_2) (.loop L12_2 :: K12_2) ⟨gl, (.node (.node (.node (.node (.node (.node .leaf .any .leaf) .any (.node .leaf .any .leaf)) (.s p) (.node (.node .leaf .any .leaf) .any (.node .leaf .any .leaf))) .any (.node (.node (.node .leaf .any .leaf) .any (.node .leaf .any .leaf)) (.sl (ps.map V.s) ps.length .no) (.node (.node .leaf .any .leaf) .any (.node .leaf .any .leaf)))) (.s name) (.node (.node (.node (.node .leaf .any .leaf) .any (.node .leaf .any .leaf)) .any (.node (.node .leaf .any .leaf) .any (.node .leaf .any .leaf))) .any (.node (.node (.node .leaf .any .leaf) .any (.node .leaf .any .leaf)) (.i .i64 i) (.node (.node .leaf .any .leaf) .any (.node .leaf .any .leaf))))) .any (.node (.node (.node (.node (.node .leaf .any .leaf) .any (.node .leaf .any .leaf)) .any (.node (.node .leaf .any .leaf) .any (.node .leaf .any .leaf))) .any (.node (.node (.node .leaf .any .leaf) .any (.node .leaf .any .leaf)) (.i .i64 ps.length) (.node (.node .leaf .any .leaf) .any (.node .leaf .any .leaf)))) .any (.node (.node (.node (.node .leaf .any .leaf) (.it) (.node .leaf .any .leaf)) .any (.node (.node .leaf .any .leaf) .any (.node .leaf .any .leaf))) .any (.node (.node (.node .leaf .any .leaf) .any (.node .leaf .any .leaf)) .any (.node (.node .leaf .any .leaf) .any (.node .leaf .any .leaf)))))), alSet its 18 (l, pos), [], h⟩
      (Fin [.tmp 4, .tmp 5] (res (match fld1 name (p.take pos) l with | some x => some x | none => fldV name rest))) := by
  intro l
  induction l using rune_ind with
  | h0 =>
    intro pos its hd hp
    rw [U12_2]
    simp only [K12_2, hi, go_sem, ne_eq, not_false_eq_true, reduceIte, Nat.reduceMul, Nat.reduceAdd, Nat.reduceSub, Nat.reduceEqDiff, Nat.reduceLeDiff, Nat.reduceLT, List.take_succ_cons, List.take_zero, List.drop_succ_cons, List.cons_append]
    rw [M_loop]
    rw [fld1_nil]
    have := hcont (alSet its 18 ([], pos))
    simp only [kz12, K12_1, List.length_cons, List.length_nil, go_sem, ne_eq, not_false_eq_true, reduceIte, Nat.reduceMul, Nat.reduceAdd, Nat.reduceSub, Nat.reduceEqDiff, Nat.reduceLeDiff, Nat.reduceLT, List.take_succ_cons, List.take_zero, List.drop_succ_cons, List.cons_append] at this ⊢
    exact this
  | h1 a r ih =>
    intro pos its hd hp
    have hlen := drop_len hd hp
    have hw := dec_pos (a :: r)
    have hw2 := dec_le a r
    have hd' := drop_more hd (dec (a :: r)).2
    have hp' : pos + (dec (a :: r)).2 ≤ p.length := by omega
    rw [U12_2]
    by_cases hc : ((dec (a :: r)).1 : Int) = 58
    · have e3 : decide (((dec (a :: r)).1 : Int) = 58) = true := by simpa using hc
      have hp2 : pos + 1 ≤ p.length := by omega
      have e4 : wr .i64 ((pos : Int) + 1) = ((pos + 1 : Nat) : Int) := by rw [wr64] <;> omega
      by_cases hn : p.take pos = name
      · simp only [e3, e4, hp, hp2, hn, strEq_self, Nat.zero_le, Nat.le_refl, List.take_length, go_sem, ne_eq, not_false_eq_true, reduceIte, Nat.reduceMul, Nat.reduceAdd, Nat.reduceSub, Nat.reduceEqDiff, Nat.reduceLeDiff, Nat.reduceLT, List.take_succ_cons, List.take_zero, List.drop_succ_cons, List.cons_append]
        simp only [K12_2, go_sem, ne_eq, not_false_eq_true, reduceIte, Nat.reduceMul, Nat.reduceAdd, Nat.reduceSub, Nat.reduceEqDiff, Nat.reduceLeDiff, Nat.reduceLT, List.take_succ_cons, List.take_zero, List.drop_succ_cons, List.cons_append]
        rw [fld1_cons, if_pos hc, if_pos rfl]
        have := drop_more hd 1
        simp only [List.drop_succ_cons, List.drop_zero] at this
        have hlr : p.length - (pos + 1) = r.length := by simp only [List.length_cons] at hlen; omega
        simp only [res, this, hlr, List.take_length]
      · have e5 : strEq (p.take pos) name = false := by rw [strEq_iff]; simpa using hn
        simp only [e3, e4, e5, hp, Nat.zero_le, Nat.le_refl, go_sem, ne_eq, not_false_eq_true, reduceIte, Nat.reduceMul, Nat.reduceAdd, Nat.reduceSub, Nat.reduceEqDiff, Nat.reduceLeDiff, Nat.reduceLT, List.take_succ_cons, List.take_zero, List.drop_succ_cons, List.cons_append]
        simp only [K12_2, hi, go_sem, ne_eq, not_false_eq_true, reduceIte, Nat.reduceMul, Nat.reduceAdd, Nat.reduceSub, Nat.reduceEqDiff, Nat.reduceLeDiff, Nat.reduceLT, List.take_succ_cons, List.take_zero, List.drop_succ_cons, List.cons_append]
        rw [M_loop]
        rw [fld1_cons, if_pos hc, if_neg hn]
        have := hcont (alSet its 18 ((a :: r).drop (dec (a :: r)).2, pos + (dec (a :: r)).2))
        simp only [kz12, K12_1, List.length_cons, List.length_nil, go_sem, ne_eq, not_false_eq_true, reduceIte, Nat.reduceMul, Nat.reduceAdd, Nat.reduceSub, Nat.reduceEqDiff, Nat.reduceLeDiff, Nat.reduceLT, List.take_succ_cons, List.take_zero, List.drop_succ_cons, List.cons_append] at this ⊢
        exact this
    · have e3 : decide (((dec (a :: r)).1 : Int) = 58) = false := by simpa using hc
      simp only [e3, go_sem, ne_eq, not_false_eq_true, reduceIte, Nat.reduceMul, Nat.reduceAdd, Nat.reduceSub, Nat.reduceEqDiff, Nat.reduceLeDiff, Nat.reduceLT, List.take_succ_cons, List.take_zero, List.drop_succ_cons, List.cons_append]
      rw [M_loop]
      rw [fld1_cons, if_neg hc]
      have := ih (pos + (dec (a :: r)).2) its hd' hp'
      rw [show p.take (pos + (dec (a :: r)).2) = p.take pos ++ (a :: r).take (dec (a :: r)).2 from by have := take_more hd (Nat.zero_le pos) (dec (a :: r)).2; simpa using this] at this
      simp only [kz12, K12_2, List.length_cons, List.length_nil, go_sem, ne_eq, not_false_eq_true, reduceIte, Nat.reduceMul, Nat.reduceAdd, Nat.reduceSub, Nat.reduceEqDiff, Nat.reduceLeDiff, Nat.reduceLT, List.take_succ_cons, List.take_zero, List.drop_succ_cons, List.cons_append] at this ⊢
      exact this
theorem w_Field_loop (name : List UInt8) (ps : List (List UInt8)) (hps : ∀ p ∈ ps, p.length ≤ 1152921504606846976) (hl : ps.length ≤ 16385) (h : H) (gl : Nat → List V) : ∀ (k i : Nat) its, i + k = ps.length →
    M X_field (kz12) (.code L12_1) (.loop L12_1 :: K12_1) ⟨gl, (.node (.node (.node (.node (.node (.node .leaf .any .leaf) .any (.node .leaf .any .leaf)) .any (.node (.node .leaf .any .leaf) .any (.node .leaf .any .leaf))) .any (.node (.node (.node .leaf .any .leaf) .any (.node .leaf .any .leaf)) (.sl (ps.map V.s) ps.length .no) (.node (.node .leaf .any .leaf) .any (.node .leaf .any .leaf)))) (.s name) (.node (.node (.node (.node .leaf .any .leaf) .any (.node .leaf .any .leaf)) .any (.node (.node .leaf .any .leaf) .any (.node .leaf .any .leaf))) .any (.node (.node (.node .leaf .any .leaf) .any (.node .leaf .any .leaf)) (.i .i64 i) (.node (.node .leaf .any .leaf) .any (.node .leaf .any .leaf))))) .any (.node (.node (.node (.node (.node .leaf .any .leaf) .any (.node .leaf .any .leaf)) .any (.node (.node .leaf .any .leaf) .any (.node .leaf .any .leaf))) .any (.node (.node (.node .leaf .any .leaf) .any (.node .leaf .any .leaf)) (.i .i64 ps.length) (.node (.node .leaf .any .leaf) .any (.node .leaf .any .leaf)))) .any (.node (.node (.node (.node .leaf .any .leaf) .any (.node .leaf .any .leaf)) .any (.node (.node .leaf .any .leaf) .any (.node .leaf .any .leaf))) .any (.node (.node (.node .leaf .any .leaf) .any (.node .leaf .any .leaf)) .any (.node (.node .leaf .any .leaf) .any (.node .leaf .any .leaf)))))), its, [], h⟩ (Fin [.tmp 4, .tmp 5] (res (fldV name (ps.drop i)))) := by
  intro k
  induction k with
  | zero =>
    intro i its hi
    rw [U12_1]
    have e1 : decide ((i : Int) < ps.length) = false := by simp; omega
    simp only [e1, K12_1, go_sem, ne_eq, not_false_eq_true, reduceIte, Nat.reduceMul, Nat.reduceAdd, Nat.reduceSub, Nat.reduceEqDiff, Nat.reduceLeDiff, Nat.reduceLT, List.take_succ_cons, List.take_zero, List.drop_succ_cons, List.cons_append]
    rw [List.drop_eq_nil_of_le (by omega)]
    simp only [fldV, res]
  | succ k ih =>
    intro i its hi
    rw [U12_1]
    have hlt : i < ps.length := by omega
    have e1 : decide ((i : Int) < ps.length) = true := by simp; omega
    have e2 : i + 1 ≤ (ps.map V.s).length := by simp; omega
    have e3 : (ps.map V.s)[i]? = some (.s ps[i]) := by simp [hlt]
    have e4 : wr .i64 ((i : Int) + 1) = ((i + 1 : Nat) : Int) := by rw [wr64] <;> omega
    simp only [e1, e2, e3, hlt, go_sem, ne_eq, not_false_eq_true, reduceIte, Nat.reduceMul, Nat.reduceAdd, Nat.reduceSub, Nat.reduceEqDiff, Nat.reduceLeDiff, Nat.reduceLT, List.take_succ_cons, List.take_zero, List.drop_succ_cons, List.cons_append]
    rw [M_loop]
    rw [List.drop_eq_getElem_cons hlt]
    have := w_Field_in name ps[i] (hps _ (List.getElem_mem hlt)) ps i (ps.drop (i + 1)) h gl (fun its => ih (i + 1) its (by omega)) e4 ps[i] 0 its rfl (Nat.zero_le _)
    simp only [kz12, K12_1, K12_2, List.length_cons, List.length_nil, List.take_zero, go_sem, ne_eq, not_false_eq_true, reduceIte, Nat.reduceMul, Nat.reduceAdd, Nat.reduceSub, Nat.reduceEqDiff, Nat.reduceLeDiff, Nat.reduceLT, List.take_succ_cons, List.take_zero, List.drop_succ_cons, List.cons_append] at this ⊢
    exact this
theorem w_Field (v name : List UInt8) (hv : v.length ≤ 1152921504606846976 ∧ (prt 32 [] v).length ≤ 16385) (gl : Nat → List V) : M X_field (kz12) (.code B12) [] (St.init gl 6 [.s v, .s name] {}) (Fin [.tmp 4, .tmp 5] (res (fldV name (prt 32 [] v)))) := by
  rw [U12]
  simp only [X_field, F_Parts1 v 32 hv.2, go_sem, ne_eq, not_false_eq_true, reduceIte, Nat.reduceMul, Nat.reduceAdd, Nat.reduceSub, Nat.reduceEqDiff, Nat.reduceLeDiff, Nat.reduceLT, List.take_succ_cons, List.take_zero, List.drop_succ_cons, List.cons_append]
  rw [M_loop]
  have := w_Field_loop name (prt 32 [] v) (fun p hp => by have := prt_part 32 v [] p hp; have := hv.1; simp only [List.length_nil] at *; omega) hv.2 {} gl (prt 32 [] v).length 0 [] (by omega)
  simp only [kz12, K12_1, List.length_cons, List.length_nil, List.drop_zero, go_sem, ne_eq, not_false_eq_true, reduceIte, Nat.reduceMul, Nat.reduceAdd, Nat.reduceSub, Nat.reduceEqDiff, Nat.reduceLeDiff, Nat.reduceLT, List.take_succ_cons, List.take_zero, List.drop_succ_cons, List.cons_append] at this ⊢
  exact this
def F_Field (a : List V) : Option V := match a with
  | [.s v, .s name] => if v.length ≤ 1152921504606846976 ∧ (prt 32 [] v).length ≤ 16385 then some (res (fldV name (prt 32 [] v))) else none
  | _ => none
theorem F_Field1 (v name : List UInt8) (hv : v.length ≤ 1152921504606846976 ∧ (prt 32 [] v).length ≤ 16385) : F_Field [.s v, .s name] = some (res (fldV name (prt 32 [] v))) := if_pos hv
theorem o_Field : ∀ a v, F_Field a = some v → Comp tabx told 12 a v := fun a v e => by
  unfold F_Field at e
  split at e
  · split at e
    · rename_i h; cases e; exact comp_of t_field (fn := af12) rfl (Nat.le_of_ble_eq_true rfl) fun gl => w_Field _ _ h gl
    · cases e
  · cases e

end Go.Proofs.Ytkibkodlbjhjfaa
