/- The stretches of a text between runes of a kind: the document's way; the law. -/
import Derived.Test.YtkibkodlbjhjfaaTx4
set_option linter.unusedSimpArgs false
set_option linter.unusedVariables false
namespace Go.Proofs.Ytkibkodlbjhjfaa
open Ai
def K20_2 : List Fr := [.blk 2,
  .seq (.seq (.reg [⟨some 52, .mov (.t 7), none⟩,
       ⟨some 53, .mov (.t 0), none⟩,
       ⟨some 54, .mov (.t 6), none⟩,
       ⟨some 55, .slc .str (.t 53) (some (.t 54)) none none, none⟩,
       ⟨some 56, .bslice false 9 1 1 [(.s [])] [(0, (.t 55))], none⟩,
       ⟨some 57, .app 9 1 (.t 52) (.t 56), none⟩,
       ⟨some 4, .mov (.t 57), none⟩])
    .ret)]
theorem U20_2 {xf : FuncId → List V → Option V} {kz : Nat → List Nat} {k : List Fr} {st : St} {Q : AEx → St → Prop} : M xf kz (.code L20_2) k st Q = M xf kz (.code (.seq (.reg [⟨some 29, .next 28, none⟩,
     ⟨some 30, .ext (.t 29) 0, none⟩])
  (.seq (.cond (.t 30)
    .skip
    (.exit 2))
  (.blk 3 (.seq (.reg [⟨some 31, .ext (.t 29) 2, none⟩,
      ⟨some 11, .mov (.t 31), none⟩])
   (.seq (.seq (.reg [⟨some 32, .mov (.t 11), none⟩,
       ⟨some 33, .mov (.t 1), none⟩,
       ⟨some 34, .bin .eql (.t 32) (.t 33), none⟩])
    (.cond (.t 34)
     (.seq (.reg [⟨some 35, .mov (.t 7), none⟩,
        ⟨some 36, .mov (.t 0), none⟩,
        ⟨some 37, .mov (.t 6), none⟩,
        ⟨some 38, .mov (.t 5), none⟩,
        ⟨some 39, .mov (.t 9), none⟩,
        ⟨some 40, .iaddr (.slice 1) (.t 38) (.t 39), none⟩,
        ⟨some 41, .load false 1 (.t 40), none⟩,
        ⟨some 42, .slc .str (.t 36) (some (.t 37)) (some (.t 41)) none, none⟩,
        ⟨some 43, .bslice false 9 1 1 [(.s [])] [(0, (.t 42))], none⟩,
        ⟨some 44, .app 9 1 (.t 35) (.t 43), none⟩,
        ⟨some 7, .mov (.t 44), none⟩])
     (.reg [⟨some 45, .mov (.t 5), none⟩,
       ⟨some 46, .mov (.t 9), none⟩,
       ⟨some 47, .bin .add (.t 46) (.k (.i .i64 1)), none⟩,
       ⟨some 48, .iaddr (.slice 1) (.t 45) (.t 47), none⟩,
       ⟨some 49, .load false 1 (.t 48), none⟩,
       ⟨some 6, .mov (.t 49), none⟩]))
     .skip))
   (.reg [⟨some 50, .mov (.t 9), none⟩,
     ⟨some 51, .bin .add (.t 50) (.k (.i .i64 1)), none⟩,
     ⟨some 9, .mov (.t 51), none⟩]))))))) k st Q := rfl
def K20_1 : List Fr := [.blk 0,
  .seq (.seq (.reg [⟨some 22, .mov (.t 5), none⟩,
       ⟨some 23, .mov (.t 0), none⟩,
       ⟨some 24, .len .str (.t 23), none⟩,
       ⟨some 25, .bslice false 3 1 1 [(.i .i64 0)] [(0, (.t 24))], none⟩,
       ⟨some 26, .app 3 1 (.t 22) (.t 25), none⟩,
       ⟨some 5, .mov (.t 26), none⟩])
    (.seq (.reg [⟨some 9, .mov (.k (.i .i64 0)), none⟩])
    (.seq (.seq (.reg [⟨some 27, .mov (.t 0), none⟩,
        ⟨some 28, .range (.t 27), none⟩])
     (.blk 2 (.loop L20_2)))
    (.seq (.reg [⟨some 52, .mov (.t 7), none⟩,
       ⟨some 53, .mov (.t 0), none⟩,
       ⟨some 54, .mov (.t 6), none⟩,
       ⟨some 55, .slc .str (.t 53) (some (.t 54)) none none, none⟩,
       ⟨some 56, .bslice false 9 1 1 [(.s [])] [(0, (.t 55))], none⟩,
       ⟨some 57, .app 9 1 (.t 52) (.t 56), none⟩,
       ⟨some 4, .mov (.t 57), none⟩])
    .ret))))]
theorem U20_1 {xf : FuncId → List V → Option V} {kz : Nat → List Nat} {k : List Fr} {st : St} {Q : AEx → St → Prop} : M xf kz (.code L20_1) k st Q = M xf kz (.code (.seq (.reg [⟨some 15, .next 14, none⟩,
     ⟨some 16, .ext (.t 15) 0, none⟩])
  (.seq (.cond (.t 16)
    .skip
    (.exit 0))
  (.blk 1 (.seq (.reg [⟨some 17, .ext (.t 15) 1, none⟩,
      ⟨some 8, .mov (.t 17), none⟩])
   (.reg [⟨some 18, .mov (.t 5), none⟩,
     ⟨some 19, .mov (.t 8), none⟩,
     ⟨some 20, .bslice false 3 1 1 [(.i .i64 0)] [(0, (.t 19))], none⟩,
     ⟨some 21, .app 3 1 (.t 18) (.t 20), none⟩,
     ⟨some 5, .mov (.t 21), none⟩])))))) k st Q := rfl
theorem U20 {xf : FuncId → List V → Option V} {kz : Nat → List Nat} {k : List Fr} {st : St} {Q : AEx → St → Prop} : M xf kz (.code B20) k st Q = M xf kz (.code (.seq (.reg [⟨some 4, .movnil 9, none⟩])
  (.seq (.reg [⟨some 5, .movnil 3, none⟩])
  (.seq (.reg [⟨some 6, .mov (.k (.i .i64 0)), none⟩])
  (.seq (.reg [⟨some 12, .bslice false 9 1 0 [(.s [])] [], none⟩,
     ⟨some 7, .mov (.t 12), none⟩])
  (.seq (.seq (.reg [⟨some 13, .mov (.t 0), none⟩,
      ⟨some 14, .range (.t 13), none⟩])
   (.blk 0 (.loop L20_1)))
  (.seq (.reg [⟨some 22, .mov (.t 5), none⟩,
     ⟨some 23, .mov (.t 0), none⟩,
     ⟨some 24, .len .str (.t 23), none⟩,
     ⟨some 25, .bslice false 3 1 1 [(.i .i64 0)] [(0, (.t 24))], none⟩,
     ⟨some 26, .app 3 1 (.t 22) (.t 25), none⟩,
     ⟨some 5, .mov (.t 26), none⟩])
  (.seq (.reg [⟨some 9, .mov (.k (.i .i64 0)), none⟩])
  (.seq (.seq (.reg [⟨some 27, .mov (.t 0), none⟩,
      ⟨some 28, .range (.t 27), none⟩])
   (.blk 2 (.loop L20_2)))
  (.seq (.reg [⟨some 52, .mov (.t 7), none⟩,
     ⟨some 53, .mov (.t 0), none⟩,
     ⟨some 54, .mov (.t 6), none⟩,
     ⟨some 55, .slc .str (.t 53) (some (.t 54)) none none, none⟩,
     ⟨some 56, .bslice false 9 1 1 [(.s [])] [(0, (.t 55))], none⟩,
     ⟨some 57, .app 9 1 (.t 52) (.t 56), none⟩,
     ⟨some 4, .mov (.t 57), none⟩])
  .ret)))))))))) k st Q := rfl
def kz20 (_ : Nat) : List Nat := [2, 3, 4, 8, 10, 11, 12, 13, 15, 16, 17, 18, 19, 20, 21, 22, 23, 24, 25, 26, 27, 29, 30, 31, 32, 33, 34, 35, 36, 37, 38, 39, 40, 41, 42, 43, 44, 45, 46, 47, 48, 49, 50, 51, 52, 53, 54, 55, 56, 57]
theorem frz_app (h : H) (f : Nat) (ps : List (List UInt8)) (p : List UInt8) : List.map (frz h (f + 1)) (List.map V.s ps ++ [V.s p]) = List.map V.s (ps ++ [p]) := by
  rw [← frz_strs h f (ps ++ [p])]; simp
theorem next_pos {es : List Nat} {k pos m : Nat} {l : List UInt8} (h : es.drop k = posl pos l ++ [m]) (hm : l = [] → pos = m) : es[k]? = some pos := by
  have : (es.drop k)[0]? = es[k]? := by simp
  rw [← this, h]
  cases l with
  | nil => simp [posl_nil, hm rfl]
  | cons a r => simp [posl_cons]

theorem w_rParts_two (s : List UInt8) (by' : Int) (es : List Nat) (hes : es.length ≤ 16385) (gl : Nat → List V) (i0 : List UInt8 × Nat) : ∀ (l : List UInt8) (ps : List (List UInt8)) (f k pos : Nat) (acc : List UInt8), s.drop pos = l → pos ≤ s.length → s.length ≤ 16384 → ps.length + l.length ≤ 16384 →
    es.drop k = posl pos l ++ [s.length] → f ≤ pos → (s.drop f).take (pos - f) = acc →
    M noX (kz20) (.code L20_2) (.loop L20_2 :: K20_2) ⟨gl, (.node (.node (.node (.node (.node (.node .leaf .any .leaf) .any (.node .leaf .any .leaf)) (.sl (ps.map V.s) ps.length (.own 2)) (.node (.node .leaf .any .leaf) .any (.node .leaf .any .leaf))) .any (.node (.node (.node .leaf .any .leaf) .any (.node .leaf .any .leaf)) .any (.node (.node .leaf .any .leaf) .any (.node .leaf .any .leaf)))) (.i .i32 by') (.node (.node (.node (.node .leaf .any .leaf) .any (.node .leaf .any .leaf)) (.i .i64 k) (.node (.node .leaf .any .leaf) .any (.node .leaf .any .leaf))) (.sl (es.map iv) es.length (.own 1)) (.node (.node (.node .leaf .any .leaf) .any (.node .leaf .any .leaf)) .any (.node (.node .leaf .any .leaf) .any (.node .leaf .any .leaf))))) (.s s) (.node (.node (.node (.node (.node .leaf .any .leaf) .any (.node .leaf .any .leaf)) .any (.node (.node .leaf .any .leaf) .any (.node .leaf .any .leaf))) .any (.node (.node (.node .leaf .any .leaf) .any (.node .leaf .any .leaf)) .any (.node (.node .leaf .any .leaf) (.it) (.node .leaf .any .leaf)))) .any (.node (.node (.node (.node .leaf .any .leaf) .any (.node .leaf .any .leaf)) .any (.node (.node .leaf .any .leaf) .any (.node .leaf .any .leaf))) (.i .i64 f) (.node (.node (.node .leaf .any .leaf) .any (.node .leaf .any .leaf)) (.it) (.node (.node .leaf .any .leaf) .any (.node .leaf .any .leaf)))))), [(14, i0), (28, (l, pos))], [], ⟨0, [], 3, [(2, (ps.length, 9)), (1, (es.length, 3)), (0, (0, 9))]⟩⟩
      (Fin [.tmp 4] (.sl ((ps ++ prt by' acc l).map V.s) (ps ++ prt by' acc l).length .no)) := by
  intro l
  induction l using rune_ind with
  | h0 =>
    intro ps f k pos acc hd hp hs hn he hf hacc
    have hlen := drop_len hd hp
    simp only [List.length_nil, Nat.add_zero] at hlen
    subst hlen
    rw [U20_2]
    have e1 : (ps.map V.s).length = ps.length := List.length_map ..
    have e2 : ps.length + 1 ≤ most := by unfold most; simp only [List.length_nil] at hn; omega
    simp only [K20_2, e1, e2, hf, Nat.le_refl, frz_app, go_sem, ne_eq, not_false_eq_true, reduceIte, Nat.reduceMul, Nat.reduceAdd, Nat.reduceSub, Nat.reduceEqDiff, Nat.reduceLeDiff]
    rw [hacc, prt_nil]
    simp
  | h1 a r ih =>
    intro ps f k pos acc hd hp hs hn he hf hacc
    have hlen := drop_len hd hp
    rw [U20_2]
    have e1 : (ps.map V.s).length = ps.length := List.length_map ..
    have e2 : ps.length + 1 ≤ most := by unfold most; simp only [List.length_cons] at hn; omega
    have hw := dec_pos (a :: r)
    have hw2 := dec_le a r
    have hw3 := dec_nil_free a r
    have hd' := drop_more hd (dec (a :: r)).2
    have hp' : pos + (dec (a :: r)).2 ≤ s.length := by omega
    have hps : pos ≤ s.length := hp
    have hN : ∀ p : List UInt8, (ps ++ [p]).length + ((a :: r).drop (dec (a :: r)).2).length ≤ 16384 := by intro p; simp only [List.length_append, List.length_cons, List.length_nil] at hn hw3 ⊢; omega
    have hN' : ps.length + ((a :: r).drop (dec (a :: r)).2).length ≤ 16384 := by omega
    have g1 : es[k]? = some pos := next_pos he (by simp)
    have he' : es.drop (k + 1) = posl (pos + (dec (a :: r)).2) ((a :: r).drop (dec (a :: r)).2) ++ [s.length] := by
      rw [posl_cons] at he
      have := drop_more he 1
      simpa using this
    have g2 : es[k + 1]? = some (pos + (dec (a :: r)).2) := next_pos he' (fun e => by
      have := congrArg List.length e
      simp only [List.length_drop, List.length_nil] at this
      omega)
    have k1 : k < es.length := (List.getElem?_eq_some_iff.1 g1).1
    have k2 : k + 1 < es.length := (List.getElem?_eq_some_iff.1 g2).1
    have k3 : k + 1 ≤ (es.map iv).length := by rw [List.length_map]; omega
    have k4 : k + 1 + 1 ≤ (es.map iv).length := by rw [List.length_map]; omega
    have g3 : (es.map iv)[k]? = some (.i .i64 (pos : Nat)) := by rw [List.getElem?_map, g1]; rfl
    have g4 : (es.map iv)[k + 1]? = some (.i .i64 ((pos + (dec (a :: r)).2 : Nat) : Int)) := by rw [List.getElem?_map, g2]; rfl
    have e4 : wr .i64 ((k : Int) + 1) = ((k + 1 : Nat) : Int) := by rw [wr64] <;> omega
    by_cases hc : ((dec (a :: r)).1 : Int) = by'
    · have e3 : decide (((dec (a :: r)).1 : Int) = by') = true := by simpa using hc
      simp only [e1, e2, e3, e4, hf, hps, hacc, k1, k2, k3, k4, g3, g4, Nat.le_refl, go_sem, ne_eq, not_false_eq_true, reduceIte, Nat.reduceMul, Nat.reduceAdd, Nat.reduceSub, Nat.reduceEqDiff, Nat.reduceLeDiff]
      rw [M_loop]
      simp only [kz20, go_sem, ne_eq, not_false_eq_true, reduceIte, Nat.reduceMul, Nat.reduceAdd, Nat.reduceSub, Nat.reduceEqDiff, Nat.reduceLeDiff]
      rw [prt_cons, if_pos hc]
      have := ih (ps ++ [acc]) (pos + (dec (a :: r)).2) (k + 1) (pos + (dec (a :: r)).2) [] hd' hp' hs (hN acc) he' (by omega) (by simp)
      simpa using this
    · have e3 : decide (((dec (a :: r)).1 : Int) = by') = false := by simpa using hc
      simp only [e3, e4, go_sem, ne_eq, not_false_eq_true, reduceIte, Nat.reduceMul, Nat.reduceAdd, Nat.reduceSub, Nat.reduceEqDiff, Nat.reduceLeDiff]
      rw [M_loop]
      simp only [kz20, go_sem, ne_eq, not_false_eq_true, reduceIte, Nat.reduceMul, Nat.reduceAdd, Nat.reduceSub, Nat.reduceEqDiff, Nat.reduceLeDiff]
      rw [prt_cons, if_neg hc]
      exact ih ps f (k + 1) (pos + (dec (a :: r)).2) _ hd' hp' hs hN' he' (by omega) (by rw [take_more hd hf, hacc])

theorem w_rParts_two' (s : List UInt8) (by' : Int) (es : List Nat) (hes : es.length ≤ 16385) (gl : Nat → List V) (i0 : List UInt8 × Nat) : ∀ (l : List UInt8) (f k pos : Nat) (acc : List UInt8), s.drop pos = l → pos ≤ s.length → s.length ≤ 16384 →
    es.drop k = posl pos l ++ [s.length] → f ≤ pos → (s.drop f).take (pos - f) = acc →
    M noX (kz20) (.code L20_2) (.loop L20_2 :: K20_2) ⟨gl, (.node (.node (.node (.node (.node (.node .leaf .any .leaf) .any (.node .leaf .any .leaf)) (.sl [] 0 .full) (.node (.node .leaf .any .leaf) .any (.node .leaf .any .leaf))) .any (.node (.node (.node .leaf .any .leaf) .any (.node .leaf .any .leaf)) .any (.node (.node .leaf .any .leaf) .any (.node .leaf .any .leaf)))) (.i .i32 by') (.node (.node (.node (.node .leaf .any .leaf) .any (.node .leaf .any .leaf)) (.i .i64 k) (.node (.node .leaf .any .leaf) .any (.node .leaf .any .leaf))) (.sl (es.map iv) es.length (.own 1)) (.node (.node (.node .leaf .any .leaf) .any (.node .leaf .any .leaf)) .any (.node (.node .leaf .any .leaf) .any (.node .leaf .any .leaf))))) (.s s) (.node (.node (.node (.node (.node .leaf .any .leaf) .any (.node .leaf .any .leaf)) .any (.node (.node .leaf .any .leaf) .any (.node .leaf .any .leaf))) .any (.node (.node (.node .leaf .any .leaf) .any (.node .leaf .any .leaf)) .any (.node (.node .leaf .any .leaf) (.it) (.node .leaf .any .leaf)))) .any (.node (.node (.node (.node .leaf .any .leaf) .any (.node .leaf .any .leaf)) .any (.node (.node .leaf .any .leaf) .any (.node .leaf .any .leaf))) (.i .i64 f) (.node (.node (.node .leaf .any .leaf) .any (.node .leaf .any .leaf)) (.it) (.node (.node .leaf .any .leaf) .any (.node .leaf .any .leaf)))))), [(14, i0), (28, (l, pos))], [], ⟨0, [], 2, [(1, (es.length, 3)), (0, (0, 9))]⟩⟩
      (Fin [.tmp 4] (.sl ((prt by' acc l).map V.s) (prt by' acc l).length .no)) := by
  intro l
  induction l using rune_ind with
  | h0 =>
    intro f k pos acc hd hp hs he hf hacc
    have hlen := drop_len hd hp
    simp only [List.length_nil, Nat.add_zero] at hlen
    subst hlen
    rw [U20_2]
    have e2 : 1 ≤ most := by unfold most; omega
    simp only [K20_2, e2, hf, Nat.le_refl, go_sem, ne_eq, not_false_eq_true, reduceIte, Nat.reduceMul, Nat.reduceAdd, Nat.reduceSub, Nat.reduceEqDiff, Nat.reduceLeDiff]
    rw [hacc, prt_nil]
    simp
  | h1 a r ih =>
    intro f k pos acc hd hp hs he hf hacc
    have hlen := drop_len hd hp
    rw [U20_2]
    have e2 : 1 ≤ most := by unfold most; omega
    have hw := dec_pos (a :: r)
    have hw2 := dec_le a r
    have hw3 := dec_nil_free a r
    have hd' := drop_more hd (dec (a :: r)).2
    have hp' : pos + (dec (a :: r)).2 ≤ s.length := by omega
    have hps : pos ≤ s.length := hp
    have g1 : es[k]? = some pos := next_pos he (by simp)
    have he' : es.drop (k + 1) = posl (pos + (dec (a :: r)).2) ((a :: r).drop (dec (a :: r)).2) ++ [s.length] := by
      rw [posl_cons] at he
      have := drop_more he 1
      simpa using this
    have g2 : es[k + 1]? = some (pos + (dec (a :: r)).2) := next_pos he' (fun e => by
      have := congrArg List.length e
      simp only [List.length_drop, List.length_nil] at this
      omega)
    have k1 : k < es.length := (List.getElem?_eq_some_iff.1 g1).1
    have k2 : k + 1 < es.length := (List.getElem?_eq_some_iff.1 g2).1
    have k3 : k + 1 ≤ (es.map iv).length := by rw [List.length_map]; omega
    have k4 : k + 1 + 1 ≤ (es.map iv).length := by rw [List.length_map]; omega
    have g3 : (es.map iv)[k]? = some (.i .i64 (pos : Nat)) := by rw [List.getElem?_map, g1]; rfl
    have g4 : (es.map iv)[k + 1]? = some (.i .i64 ((pos + (dec (a :: r)).2 : Nat) : Int)) := by rw [List.getElem?_map, g2]; rfl
    have e4 : wr .i64 ((k : Int) + 1) = ((k + 1 : Nat) : Int) := by rw [wr64] <;> omega
    by_cases hc : ((dec (a :: r)).1 : Int) = by'
    · have e3 : decide (((dec (a :: r)).1 : Int) = by') = true := by simpa using hc
      simp only [e2, e3, e4, hf, hps, hacc, k1, k2, k3, k4, g3, g4, Nat.le_refl, go_sem, ne_eq, not_false_eq_true, reduceIte, Nat.reduceMul, Nat.reduceAdd, Nat.reduceSub, Nat.reduceEqDiff, Nat.reduceLeDiff]
      rw [M_loop]
      simp only [kz20, go_sem, ne_eq, not_false_eq_true, reduceIte, Nat.reduceMul, Nat.reduceAdd, Nat.reduceSub, Nat.reduceEqDiff, Nat.reduceLeDiff]
      rw [prt_cons, if_pos hc]
      have := w_rParts_two s by' es hes gl i0 ((a :: r).drop (dec (a :: r)).2) [acc] (pos + (dec (a :: r)).2) (k + 1) (pos + (dec (a :: r)).2) [] hd' hp' hs (by simp only [List.length_cons, List.length_nil] at hw3 ⊢; simp only [List.length_cons] at hlen; omega) he' (by omega) (by simp)
      simpa using this
    · have e3 : decide (((dec (a :: r)).1 : Int) = by') = false := by simpa using hc
      simp only [e3, e4, go_sem, ne_eq, not_false_eq_true, reduceIte, Nat.reduceMul, Nat.reduceAdd, Nat.reduceSub, Nat.reduceEqDiff, Nat.reduceLeDiff]
      rw [M_loop]
      simp only [kz20, go_sem, ne_eq, not_false_eq_true, reduceIte, Nat.reduceMul, Nat.reduceAdd, Nat.reduceSub, Nat.reduceEqDiff, Nat.reduceLeDiff]
      rw [prt_cons, if_neg hc]
      exact ih f (k + 1) (pos + (dec (a :: r)).2) _ hd' hp' hs he' (by omega) (by rw [take_more hd hf, hacc])

theorem w_rParts_one (s : List UInt8) (by' : Int) (hs : s.length ≤ 16384) (gl : Nat → List V) : ∀ (l : List UInt8) (es : List Nat) (pos : Nat), s.drop pos = l → pos ≤ s.length → es.length + l.length ≤ 16384 → es ++ posl pos l = posl 0 s →
    M noX (kz20) (.code L20_1) (.loop L20_1 :: K20_1) ⟨gl, (.node (.node (.node (.node (.node (.node .leaf .any .leaf) .any (.node .leaf .any .leaf)) (.sl [] 0 .full) (.node (.node .leaf .any .leaf) .any (.node .leaf .any .leaf))) .any (.node (.node (.node .leaf .any .leaf) .any (.node .leaf .any .leaf)) .any (.node (.node .leaf .any .leaf) .any (.node .leaf .any .leaf)))) (.i .i32 by') (.node (.node (.node (.node .leaf .any .leaf) .any (.node .leaf .any .leaf)) .any (.node (.node .leaf .any .leaf) .any (.node .leaf .any .leaf))) (.sl (es.map iv) es.length (.own 1)) (.node (.node (.node .leaf .any .leaf) .any (.node .leaf .any .leaf)) .any (.node (.node .leaf .any .leaf) .any (.node .leaf .any .leaf))))) (.s s) (.node (.node (.node (.node (.node .leaf .any .leaf) .any (.node .leaf .any .leaf)) .any (.node (.node .leaf .any .leaf) .any (.node .leaf .any .leaf))) .any (.node (.node (.node .leaf .any .leaf) .any (.node .leaf .any .leaf)) .any (.node (.node .leaf .any .leaf) .any (.node .leaf .any .leaf)))) .any (.node (.node (.node (.node .leaf .any .leaf) .any (.node .leaf .any .leaf)) .any (.node (.node .leaf .any .leaf) .any (.node .leaf .any .leaf))) (.i .i64 0) (.node (.node (.node .leaf .any .leaf) .any (.node .leaf .any .leaf)) (.it) (.node (.node .leaf .any .leaf) .any (.node .leaf .any .leaf)))))), [(14, (l, pos))], [], ⟨0, [], 2, [(1, (es.length, 3)), (0, (0, 9))]⟩⟩
      (Fin [.tmp 4] (.sl ((prt by' [] s).map V.s) (prt by' [] s).length .no)) := by
  intro l
  induction l using rune_ind with
  | h0 =>
    intro es pos hd hp hn he
    rw [U20_1]
    have e1 : (es.map iv).length = es.length := List.length_map ..
    have e2 : es.length + 1 ≤ most := by unfold most; simp only [List.length_nil] at hn; omega
    simp only [K20_1, e1, e2, go_sem, ne_eq, not_false_eq_true, reduceIte, Nat.reduceMul, Nat.reduceAdd, Nat.reduceSub, Nat.reduceEqDiff, Nat.reduceLeDiff]
    rw [M_loop]
    simp only [kz20, go_sem, ne_eq, not_false_eq_true, reduceIte, Nat.reduceMul, Nat.reduceAdd, Nat.reduceSub, Nat.reduceEqDiff, Nat.reduceLeDiff]
    rw [posl_nil, List.append_nil] at he
    subst he
    have := w_rParts_two' s by' (posl 0 s ++ [s.length]) (by simp only [List.length_nil] at hn; simp; omega) gl ([], pos) s 0 0 0 [] rfl (by omega) hs rfl (by omega) (by simp)
    simp only [List.map_append, List.map_cons, List.map_nil, List.length_append, List.length_cons, List.length_nil, iv, Nat.zero_add] at this
    exact this
  | h1 a r ih =>
    intro es pos hd hp hn he
    rw [U20_1]
    have hlen := drop_len hd hp
    have e1 : (es.map iv).length = es.length := List.length_map ..
    have e2 : es.length + 1 ≤ most := by unfold most; simp only [List.length_cons] at hn; omega
    have hw2 := dec_le a r
    have hw3 := dec_nil_free a r
    simp only [e1, e2, go_sem, ne_eq, not_false_eq_true, reduceIte, Nat.reduceMul, Nat.reduceAdd, Nat.reduceSub, Nat.reduceEqDiff, Nat.reduceLeDiff]
    rw [M_loop]
    simp only [kz20, go_sem, ne_eq, not_false_eq_true, reduceIte, Nat.reduceMul, Nat.reduceAdd, Nat.reduceSub, Nat.reduceEqDiff, Nat.reduceLeDiff]
    have := ih (es ++ [pos]) (pos + (dec (a :: r)).2) (drop_more hd _) (by omega) (by simp only [List.length_append, List.length_cons, List.length_nil] at hn hw3 ⊢; omega) (by rw [← he, posl_cons]; simp)
    simpa [iv] using this
theorem w_rParts (s : List UInt8) (hs : s.length ≤ 16384) (by' : Int) (gl : Nat → List V) : M noX (kz20) (.code B20) [] (St.init gl 6 [.s s, .i .i32 by'] {}) (Fin [.tmp 4] (.sl ((prt by' [] s).map V.s) (prt by' [] s).length .no)) := by
  rw [U20]
  simp only [go_sem, ne_eq, not_false_eq_true, reduceIte, Nat.reduceMul, Nat.reduceAdd, Nat.reduceSub, Nat.reduceEqDiff, Nat.reduceLeDiff]
  rw [M_loop]
  simp only [kz20, go_sem, ne_eq, not_false_eq_true, reduceIte, Nat.reduceMul, Nat.reduceAdd, Nat.reduceSub, Nat.reduceEqDiff, Nat.reduceLeDiff]
  exact w_rParts_one s by' hs gl s [] 0 rfl (by omega) (by simpa using hs) (by simp)
theorem o_rParts : ∀ a v, F_Parts a = some v → Comp tabx told 20 a v := fun a v e => by
  unfold F_Parts at e
  split at e
  · split at e
    · rename_i h; cases e; exact comp_of tells_noX (fn := af20) rfl (Nat.le_of_ble_eq_true rfl) fun gl => w_rParts _ h _ gl
    · cases e
  · cases e

def K19_1 : List Fr := [.blk 0,
  .seq (.seq (.reg [⟨some 4, .mov (.k (.b true)), none⟩])
    .ret)]
theorem U19_1 {xf : FuncId → List V → Option V} {kz : Nat → List Nat} {k : List Fr} {st : St} {Q : AEx → St → Prop} : M xf kz (.code L19_1) k st Q = M xf kz (.code (.seq (.reg [⟨some 14, .bin .lss (.t 13) (.t 12), none⟩])
  (.seq (.cond (.t 14)
    .skip
    (.exit 0))
  (.seq (.blk 1 (.seq (.reg [⟨some 15, .mov (.t 13), none⟩,
       ⟨some 5, .mov (.t 15), none⟩])
    (.seq (.reg [⟨some 16, .mov (.t 0), none⟩,
       ⟨some 17, .mov (.t 5), none⟩,
       ⟨some 18, .iaddr (.slice 1) (.t 16) (.t 17), none⟩,
       ⟨some 19, .load false 1 (.t 18), none⟩,
       ⟨some 20, .mov (.t 1), none⟩,
       ⟨some 21, .mov (.t 5), none⟩,
       ⟨some 22, .iaddr (.slice 1) (.t 20) (.t 21), none⟩,
       ⟨some 23, .load false 1 (.t 22), none⟩,
       ⟨some 24, .bin .neq (.t 19) (.t 23), none⟩])
    (.cond (.t 24)
     (.seq (.reg [⟨some 4, .mov (.k (.b false)), none⟩])
     .ret)
     .skip))))
  (.reg [⟨some 25, .bin .add (.t 13) (.k (.i .i64 1)), none⟩,
    ⟨some 13, .mov (.t 25), none⟩]))))) k st Q := rfl
theorem U19 {xf : FuncId → List V → Option V} {kz : Nat → List Nat} {k : List Fr} {st : St} {Q : AEx → St → Prop} : M xf kz (.code B19) k st Q = M xf kz (.code (.seq (.reg [⟨some 4, .mov (.k (.b false)), none⟩])
  (.seq (.seq (.reg [⟨some 6, .mov (.t 0), none⟩,
      ⟨some 7, .len .slice (.t 6), none⟩,
      ⟨some 8, .mov (.t 1), none⟩,
      ⟨some 9, .len .slice (.t 8), none⟩,
      ⟨some 10, .bin .neq (.t 7) (.t 9), none⟩])
   (.cond (.t 10)
    (.seq (.reg [⟨some 4, .mov (.k (.b false)), none⟩])
    .ret)
    .skip))
  (.seq (.seq (.reg [⟨some 11, .mov (.t 0), none⟩,
      ⟨some 12, .len .slice (.t 11), none⟩,
      ⟨some 13, .mov (.k (.i .i64 0)), none⟩])
   (.blk 0 (.loop L19_1)))
  (.seq (.reg [⟨some 4, .mov (.k (.b true)), none⟩])
  .ret))))) k st Q := rfl
def kz19 (_ : Nat) : List Nat := [2, 3, 4, 5, 6, 7, 8, 9, 10, 11, 14, 15, 16, 17, 18, 19, 20, 21, 22, 23, 24, 25]
theorem w_Equal_loop (l : List (List UInt8)) (hl : l.length ≤ 1000000) (gl : Nat → List V) : ∀ (k i : Nat), i + k = l.length → ∀ its h,
    M noX (kz19) (.code L19_1) (.loop L19_1 :: K19_1) ⟨gl, (.node (.node (.node (.node (.node .leaf .any .leaf) .any (.node .leaf .any .leaf)) .any (.node (.node .leaf .any .leaf) .any (.node .leaf .any .leaf))) (.sl (l.map V.s) l.length .no) (.node (.node (.node .leaf .any .leaf) .any (.node .leaf .any .leaf)) .any (.node (.node .leaf .any .leaf) (.i .i64 i) (.node .leaf .any .leaf)))) (.sl (l.map V.s) l.length .no) (.node (.node (.node (.node .leaf .any .leaf) .any (.node .leaf .any .leaf)) .any (.node (.node .leaf .any .leaf) (.i .i64 l.length) (.node .leaf .any .leaf))) .any (.node (.node (.node .leaf .any .leaf) .any (.node .leaf .any .leaf)) .any (.node (.node .leaf .any .leaf) .any (.node .leaf .any .leaf))))), its, [], h⟩
      (Fin [.tmp 4] (.b true)) := by
  intro k
  induction k with
  | zero =>
    intro i hi its h
    rw [U19_1]
    have e1 : decide ((i : Int) < l.length) = false := by simp; omega
    simp only [e1, K19_1, go_sem, ne_eq, not_false_eq_true, reduceIte, Nat.reduceMul, Nat.reduceAdd, Nat.reduceSub, Nat.reduceEqDiff, Nat.reduceLeDiff]
  | succ k ih =>
    intro i hi its h
    rw [U19_1]
    have hlt : i < l.length := by omega
    have e1 : decide ((i : Int) < l.length) = true := by simp; omega
    have e2 : i + 1 ≤ (l.map V.s).length := by simp; omega
    have e3 : (l.map V.s)[i]? = some (.s l[i]) := by simp [hlt]
    have e4 : wr .i64 ((i : Int) + 1) = ((i + 1 : Nat) : Int) := by rw [wr64] <;> omega
    simp only [e1, e2, e3, e4, hlt, strEq_self, go_sem, ne_eq, not_false_eq_true, reduceIte, Nat.reduceMul, Nat.reduceAdd, Nat.reduceSub, Nat.reduceEqDiff, Nat.reduceLeDiff]
    rw [M_loop]
    simp only [kz19, e4, go_sem, ne_eq, not_false_eq_true, reduceIte, Nat.reduceMul, Nat.reduceAdd, Nat.reduceSub, Nat.reduceEqDiff, Nat.reduceLeDiff]
    exact ih (i + 1) (by omega) _ _
theorem w_Equal (l : List (List UInt8)) (hl : l.length ≤ 1000000) (gl : Nat → List V) : M noX (kz19) (.code B19) [] (St.init gl 5 [.sl (l.map V.s) l.length .no, .sl (l.map V.s) l.length .no] {})
      (Fin [.tmp 4] (.b true)) := by
  rw [U19]
  simp only [go_sem, ne_eq, not_false_eq_true, reduceIte, Nat.reduceMul, Nat.reduceAdd, Nat.reduceSub, Nat.reduceEqDiff, Nat.reduceLeDiff]
  rw [M_loop]
  simp only [kz19, go_sem, ne_eq, not_false_eq_true, reduceIte, Nat.reduceMul, Nat.reduceAdd, Nat.reduceSub, Nat.reduceEqDiff, Nat.reduceLeDiff]
  exact w_Equal_loop l hl gl l.length 0 (by omega) [] {}
theorem strip_strs (l : List (List UInt8)) : stripL (l.map V.s) = l.map V.s := by
  induction l with
  | nil => rfl
  | cons a r ih => simp [stripL, V.strip, ih]
def F_Equal (a : List V) : Option V := match a with
  | [.sl xs n .no, .sl ys m .no] => match strsOf xs, strsOf ys with
    | some l, some l' => if l = l' ∧ n = l.length ∧ m = l.length ∧ l.length ≤ 1000000 then some (.b true) else none
    | _, _ => none
  | _ => none
theorem F_Equal1 (l : List (List UInt8)) (hl : l.length ≤ 1000000) : F_Equal [.sl (l.map V.s) l.length .no, .sl (l.map V.s) l.length .no] = some (.b true) := by
  simp [F_Equal, strsOf_map, hl]
theorem o_Equal : ∀ a v, F_Equal a = some v → Comp tabx told 19 a v := fun a v e => by
  unfold F_Equal at e
  split at e
  · rename_i xs n ys m
    split at e
    · rename_i l l' h1 h2
      split at e
      · rename_i h
        obtain ⟨rfl, rfl, rfl, hl⟩ := h
        cases e
        have e1 := strsOf_spec h1
        have e2 := strsOf_spec h2
        subst e1; subst e2
        refine comp_of tells_noX (kz := kz19) (fn := af19) rfl (Nat.le_of_ble_eq_true rfl) fun gl => ?_
        simp only [stripL, V.strip, strip_strs, Tk.cp]
        exact w_Equal _ hl gl
      · cases e
    · cases e
  · cases e

def X_parts := xs [(11, F_awake), (16, F_Parts), (20, F_Parts), (19, F_Equal)]
theorem t_TextParts : Tells tabx told X_parts := tells_cons o_awake (tells_cons o_Parts (tells_cons o_rParts (tells_cons o_Equal tells_nil)))
theorem U7 {xf : FuncId → List V → Option V} {kz : Nat → List Nat} {k : List Fr} {st : St} {Q : AEx → St → Prop} : M xf kz (.code B7) k st Q = M xf kz (.code (.seq (.reg [⟨some 4, .mov (.k (.b false)), none⟩])
  (.seq (.seq (.reg [⟨some 5, .mov (.t 0), none⟩,
      ⟨some 6, .len .str (.t 5), none⟩,
      ⟨some 7, .bin .gtr (.t 6) (.k (.i .i64 16384)), none⟩])
   (.cond (.t 7)
    (.seq (.reg [⟨some 8, .call true 11 [], none⟩,
       ⟨some 4, .mov (.t 8), none⟩])
    .ret)
    .skip))
  (.seq (.reg [⟨some 9, .mov (.t 0), none⟩,
     ⟨some 10, .mov (.t 1), none⟩,
     ⟨some 11, .call true 16 [(.t 9), (.t 10)], none⟩,
     ⟨some 12, .mov (.t 0), none⟩,
     ⟨some 13, .mov (.t 1), none⟩,
     ⟨some 14, .call true 20 [(.t 12), (.t 13)], none⟩,
     ⟨some 15, .call true 19 [(.t 11), (.t 14)], none⟩,
     ⟨some 16, .mov (.t 15), none⟩,
     ⟨some 17, .call true 11 [], some (16, true)⟩,
     ⟨some 18, .pick (.t 16) (.t 17) (.k (.b false)), none⟩,
     ⟨some 4, .mov (.t 18), none⟩])
  .ret)))) k st Q := rfl
def kz7 (_ : Nat) : List Nat := []
theorem w_TextParts (s : List UInt8) (by' : Int) (gl : Nat → List V) : M X_parts (kz7) (.code B7) [] (St.init gl 5 [.s s, .i .i32 by'] {}) (Fin [.tmp 4] (.b true)) := by
  rw [U7]
  simp only [go_sem, ne_eq, not_false_eq_true, reduceIte, Nat.reduceMul, Nat.reduceAdd, Nat.reduceSub, Nat.reduceEqDiff, Nat.reduceLeDiff]
  refine B_split _ _ _ ?_ ?_ <;> intro h <;> simp only [h, X_parts, F_awake1, go_sem, ne_eq, not_false_eq_true, reduceIte, Nat.reduceMul, Nat.reduceAdd, Nat.reduceSub, Nat.reduceEqDiff, Nat.reduceLeDiff]
  have hl : s.length ≤ 16384 := by simp only [decide_eq_false_iff_not] at h; omega
  have hp : (prt by' [] s).length ≤ 1000000 := by have := prt_len by' s []; omega
  simp only [F_Parts1 s hl, F_Equal1 _ hp, F_awake1, go_sem, ne_eq, not_false_eq_true, reduceIte, Nat.reduceMul, Nat.reduceAdd, Nat.reduceSub, Nat.reduceEqDiff, Nat.reduceLeDiff]
end Go.Proofs.Ytkibkodlbjhjfaa
