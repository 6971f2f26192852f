/- lang: the text in quotes with which a text begins. -/
import Derived.Test.YtbhclhgljnoioaaDoorLx3
import Derived.Test.YtbhclhgljnoioaaDoorLg6
set_option linter.unusedSimpArgs false
set_option linter.unusedVariables false
namespace Go.Proofs.YtbhclhgljnoioaaDoor
open Ai
/-- What is in quotes, from a place on: what is written, how far it goes. -/
def qscan (l out : List UInt8) (k : Nat) : Option (List UInt8 × Nat) :=
  match l with
  | [] => none
  | a :: r =>
    if (dec (a :: r)).1 = 34 then some (out, k + 1) else
    if (dec (a :: r)).1 = 65533 ∧ (dec (a :: r)).2 = 1 then none else
    if (dec (a :: r)).1 ≠ 92 then qscan ((a :: r).drop (dec (a :: r)).2) (out ++ enc (dec (a :: r)).1) (k + (dec (a :: r)).2) else
    match r with
    | [] => none
    | b :: t =>
      if b = 34 ∨ b = 92 then qscan t (out ++ [b]) (k + 2) else
      if b = 117 then (if (hexV t).2 = 0 then none else qscan (t.drop (hexV t).2) (out ++ enc (hexV t).1) (k + 2 + (hexV t).2)) else none
termination_by l.length
decreasing_by
  · exact dec_nil_free a r
  · simp only [List.length_cons]; omega
  · simp only [List.length_drop, List.length_cons]; omega
theorem qscan_nil (out : List UInt8) (k : Nat) : qscan [] out k = none := by rw [qscan]
theorem qscan_end {a : UInt8} {r out : List UInt8} {k : Nat} (h : (dec (a :: r)).1 = 34) : qscan (a :: r) out k = some (out, k + 1) := by rw [qscan.eq_def]; dsimp only; rw [if_pos h]
theorem qscan_bad {a : UInt8} {r out : List UInt8} {k : Nat} (h : (dec (a :: r)).1 = 65533) (h1 : (dec (a :: r)).2 = 1) : qscan (a :: r) out k = none := by rw [qscan.eq_def]; dsimp only; rw [if_neg (by omega), if_pos ⟨h, h1⟩]
theorem qscan_rune {a : UInt8} {r out : List UInt8} {k : Nat} (h : (dec (a :: r)).1 ≠ 34) (h1 : ¬ ((dec (a :: r)).1 = 65533 ∧ (dec (a :: r)).2 = 1)) (h2 : (dec (a :: r)).1 ≠ 92) :
    qscan (a :: r) out k = qscan ((a :: r).drop (dec (a :: r)).2) (out ++ enc (dec (a :: r)).1) (k + (dec (a :: r)).2) := by rw [qscan.eq_def]; dsimp only; rw [if_neg h, if_neg h1, if_pos h2]
theorem dec92 (r : List UInt8) : dec (92 :: r) = (92, 1) := dec_ascii (by decide) r
theorem qscan_esc0 {out : List UInt8} {k : Nat} : qscan [92] out k = none := by
  rw [qscan.eq_def]; dsimp only; rw [if_neg (by rw [dec92]; decide), if_neg (by rw [dec92]; decide), if_neg (by rw [dec92]; simp)]
theorem qscan_esc {b : UInt8} {t out : List UInt8} {k : Nat} : qscan (92 :: b :: t) out k = if b = 34 ∨ b = 92 then qscan t (out ++ [b]) (k + 2) else
      if b = 117 then (if (hexV t).2 = 0 then none else qscan (t.drop (hexV t).2) (out ++ enc (hexV t).1) (k + 2 + (hexV t).2)) else none := by
  rw [qscan.eq_def]; dsimp only; rw [if_neg (by rw [dec92]; decide), if_neg (by rw [dec92]; decide), if_neg (by rw [dec92]; simp)]
theorem dec_92 {a : UInt8} {r : List UInt8} (h : (dec (a :: r)).1 = 92) : a = 92 := by
  obtain ⟨h1, h2⟩ := dec_low (a := a) (r := r) (by omega)
  rw [h2] at h
  exact UInt8.toNat_inj.1 h
theorem hexV_ok (s : List UInt8) (h : (hexV s).2 ≠ 0) : oks (hexV s).1 ∧ (hexV s).2 ≤ s.length ∧ (hexV s).2 ≤ 8 := by
  unfold hexV at h ⊢
  by_cases hc : s.length < 3 ∨ s.head? ≠ some 123 ∨ Lib.indexByte s 125 < 2 ∨ 7 < Lib.indexByte s 125
  · rw [if_pos hc] at h; exact absurd rfl h
  · rw [if_neg hc] at h ⊢
    have i3 : Lib.indexByte s 125 < s.length := index_lt s 125 (by omega)
    cases hm : hexN 0 ((s.drop 1).take ((Lib.indexByte s 125).toNat - 1)) with
    | none => rw [hm] at h; exact absurd rfl h
    | some m =>
      rw [hm] at h
      simp only at h ⊢
      by_cases ho : okB m = true
      · rw [if_pos ho]
        refine ⟨(okB_iff m).1 ho, ?_, ?_⟩ <;> simp only <;> omega
      · rw [if_neg ho] at h; exact absurd rfl h
def X_quoted := xs [(43, decV), (71, F_lhex)]
theorem t_quoted : Tells tabx told X_quoted := tells_cons o_decode (tells_cons o_lhex tells_nil)
noncomputable def Y_quoted := ys [(31, H_WB), (32, H_WR0), (35, H_BS0)]
theorem u_quoted : Hp.TellsI tabx told Y_quoted := itells_cons i_WB (itells_cons i_WR0 (itells_cons i_BS0 itells_nil))
theorem qd_dec (a : UInt8) (r : List UInt8) : X_quoted 43 [.s (a :: r)] = some (.tup [.i .i32 (dec (a :: r)).1, .i .i64 (dec (a :: r)).2]) := rfl
theorem qd_hex (s : List UInt8) : X_quoted 71 [.s s] = some (pairV (hexV s)) := rfl
theorem qd_rune (id c : Nat) (h : H) : Y_quoted 32 [.p id 0, .i .i32 (c : Int)] h = H_WR0 [.p id 0, .i .i32 (c : Int)] h := rfl
theorem qd_byte (id : Nat) (b : Int) (h : H) : Y_quoted 31 [.p id 0, .i .u8 b] h = H_WB [.p id 0, .i .u8 b] h := rfl
theorem qd_str (id : Nat) (h : H) : Y_quoted 35 [.p id 0] h = H_BS0 [.p id 0] h := rfl
def qres (o : Option (List UInt8 × Nat)) : V := match o with
  | some (x, k) => .tup [.s x, .i .i64 k]
  | none => .tup [.s [], .i .i64 0]
theorem get_drop {s l : List UInt8} {i : Nat} {a : UInt8} (h : s.drop i = a :: l) : s[i]? = some a := by
  have := congrArg (fun x => x[0]?) h
  simpa using this
def K44_1 : List Fr := [.blk 0,
  .seq (.seq (.reg [⟨some 2, .mov (.k (.s [])), none⟩,
       ⟨some 3, .mov (.k (.i .i64 0)), none⟩])
    .ret)]
theorem UH44_1 {xf : FuncId → List V → Option V} {xh : FuncId → List V → H → Option (V × H)} {kz : Nat → List Nat} {k : List Fr} {st : St} {Q : AEx → St → Prop} : Hp.M xf xh kz (.code L44_1) k st Q = Hp.M xf xh kz (.code (.seq (.seq (.reg [⟨some 10, .mov (.t 5), none⟩,
      ⟨some 11, .mov (.t 0), none⟩,
      ⟨some 12, .len .str (.t 11), none⟩,
      ⟨some 13, .bin .lss (.t 10) (.t 12), none⟩])
   (.cond (.t 13)
    .skip
    (.exit 0)))
  (.blk 1 (.seq (.reg [⟨some 15, .mov (.t 0), none⟩,
      ⟨some 16, .mov (.t 5), none⟩,
      ⟨some 17, .slc .str (.t 15) (some (.t 16)) none none, none⟩,
      ⟨some 18, .call true 43 [(.t 17)], none⟩,
      ⟨some 14, .mov (.t 18), none⟩,
      ⟨some 19, .ext (.t 14) 0, none⟩,
      ⟨some 20, .ext (.t 14) 1, none⟩,
      ⟨some 6, .mov (.t 19), none⟩,
      ⟨some 7, .mov (.t 20), none⟩])
   (.seq (.blk 2 (.seq (.reg [⟨some 22, .mov (.t 6), none⟩,
        ⟨some 23, .bin .eql (.t 22) (.k (.i .i32 34)), none⟩,
        ⟨some 21, .mov (.t 23), none⟩])
     (.cond (.t 21)
      (.seq (.reg [⟨some 24, .call false 35 [(.t 4)], none⟩,
         ⟨some 25, .mov (.t 5), none⟩,
         ⟨some 26, .bin .add (.t 25) (.k (.i .i64 1)), none⟩,
         ⟨some 2, .mov (.t 24), none⟩,
         ⟨some 3, .mov (.t 26), none⟩])
      .ret)
      (.seq (.reg [⟨some 28, .mov (.t 6), none⟩,
         ⟨some 29, .bin .eql (.t 28) (.k (.i .i32 65533)), none⟩,
         ⟨some 30, .mov (.t 29), none⟩,
         ⟨some 31, .mov (.t 7), some (30, true)⟩,
         ⟨some 32, .bin .eql (.t 31) (.k (.i .i64 1)), some (30, true)⟩,
         ⟨some 33, .pick (.t 30) (.t 32) (.k (.b false)), none⟩,
         ⟨some 27, .mov (.t 33), none⟩])
      (.cond (.t 27)
       (.seq (.reg [⟨some 2, .mov (.k (.s [])), none⟩,
          ⟨some 3, .mov (.k (.i .i64 0)), none⟩])
       .ret)
       (.seq (.reg [⟨some 35, .mov (.t 6), none⟩,
          ⟨some 36, .bin .neq (.t 35) (.k (.i .i32 92)), none⟩,
          ⟨some 34, .mov (.t 36), none⟩])
       (.cond (.t 34)
        (.seq (.reg [⟨some 37, .mov (.t 6), none⟩,
           ⟨some 38, .call false 32 [(.t 4), (.t 37)], none⟩])
        (.seq (.reg [⟨some 39, .mov (.t 5), none⟩,
           ⟨some 40, .mov (.t 7), none⟩,
           ⟨some 41, .bin .add (.t 39) (.t 40), none⟩,
           ⟨some 5, .mov (.t 41), none⟩])
        (.exit 1)))
        (.seq (.reg [⟨some 43, .mov (.t 5), none⟩,
           ⟨some 44, .bin .add (.t 43) (.k (.i .i64 1)), none⟩,
           ⟨some 45, .mov (.t 0), none⟩,
           ⟨some 46, .len .str (.t 45), none⟩,
           ⟨some 47, .bin .geq (.t 44) (.t 46), none⟩,
           ⟨some 42, .mov (.t 47), none⟩])
        (.cond (.t 42)
         (.seq (.reg [⟨some 2, .mov (.k (.s [])), none⟩,
            ⟨some 3, .mov (.k (.i .i64 0)), none⟩])
         .ret)
         .skip)))))))))
   (.seq (.reg [⟨some 48, .mov (.t 0), none⟩,
      ⟨some 49, .mov (.t 5), none⟩,
      ⟨some 50, .bin .add (.t 49) (.k (.i .i64 1)), none⟩,
      ⟨some 51, .idx .str (.t 48) (.t 50), none⟩])
   (.blk 3 (.seq (.seq (.reg [⟨some 53, .bin .eql (.t 51) (.k (.i .u8 34)), none⟩,
        ⟨some 52, .mov (.t 53), none⟩])
     (.cond (.t 52)
      .skip
      (.reg [⟨some 54, .bin .eql (.t 51) (.k (.i .u8 92)), none⟩,
        ⟨some 52, .mov (.t 54), none⟩])))
    (.cond (.t 52)
     (.seq (.reg [⟨some 55, .mov (.t 0), none⟩,
        ⟨some 56, .mov (.t 5), none⟩,
        ⟨some 57, .bin .add (.t 56) (.k (.i .i64 1)), none⟩,
        ⟨some 58, .idx .str (.t 55) (.t 57), none⟩,
        ⟨some 59, .call false 31 [(.t 4), (.t 58)], none⟩])
     (.reg [⟨some 60, .mov (.t 5), none⟩,
       ⟨some 61, .bin .add (.t 60) (.k (.i .i64 2)), none⟩,
       ⟨some 5, .mov (.t 61), none⟩]))
     (.seq (.reg [⟨some 63, .bin .eql (.t 51) (.k (.i .u8 117)), none⟩,
        ⟨some 62, .mov (.t 63), none⟩])
     (.cond (.t 62)
      (.seq (.reg [⟨some 65, .mov (.t 0), none⟩,
         ⟨some 66, .mov (.t 5), none⟩,
         ⟨some 67, .bin .add (.t 66) (.k (.i .i64 2)), none⟩,
         ⟨some 68, .slc .str (.t 65) (some (.t 67)) none none, none⟩,
         ⟨some 69, .call true 71 [(.t 68)], none⟩,
         ⟨some 64, .mov (.t 69), none⟩,
         ⟨some 70, .ext (.t 64) 0, none⟩,
         ⟨some 71, .ext (.t 64) 1, none⟩,
         ⟨some 8, .mov (.t 70), none⟩,
         ⟨some 9, .mov (.t 71), none⟩])
      (.seq (.seq (.reg [⟨some 72, .mov (.t 9), none⟩,
          ⟨some 73, .bin .eql (.t 72) (.k (.i .i64 0)), none⟩])
       (.cond (.t 73)
        (.seq (.reg [⟨some 2, .mov (.k (.s [])), none⟩,
           ⟨some 3, .mov (.k (.i .i64 0)), none⟩])
        .ret)
        .skip))
      (.seq (.reg [⟨some 74, .mov (.t 8), none⟩,
         ⟨some 75, .call false 32 [(.t 4), (.t 74)], none⟩])
      (.reg [⟨some 76, .mov (.t 5), none⟩,
        ⟨some 77, .mov (.t 9), none⟩,
        ⟨some 78, .bin .add (.k (.i .i64 2)) (.t 77), none⟩,
        ⟨some 79, .bin .add (.t 76) (.t 78), none⟩,
        ⟨some 5, .mov (.t 79), none⟩]))))
      (.seq (.reg [⟨some 2, .mov (.k (.s [])), none⟩,
         ⟨some 3, .mov (.k (.i .i64 0)), none⟩])
      .ret)))))))))))) k st Q := rfl
theorem UH44 {xf : FuncId → List V → Option V} {xh : FuncId → List V → H → Option (V × H)} {kz : Nat → List Nat} {k : List Fr} {st : St} {Q : AEx → St → Prop} : Hp.M xf xh kz (.code B44) k st Q = Hp.M xf xh kz (.code (.seq (.reg [⟨some 2, .mov (.k (.s [])), none⟩,
     ⟨some 3, .mov (.k (.i .i64 0)), none⟩])
  (.seq (.reg [⟨some 4, .alloc 57 [.nilp, (.sl [] 0 .nil)], none⟩])
  (.seq (.seq (.reg [⟨some 5, .mov (.k (.i .i64 1)), none⟩])
   (.blk 0 (.loop L44_1)))
  (.seq (.reg [⟨some 2, .mov (.k (.s [])), none⟩,
     ⟨some 3, .mov (.k (.i .i64 0)), none⟩])
  .ret))))) k st Q := rfl
def kz44 (_ : Nat) : List Nat := [1, 2, 3, 6, 7, 8, 9, 10, 11, 12, 13, 14, 15, 16, 17, 18, 19, 20, 21, 22, 23, 24, 25, 26, 27, 28, 29, 30, 31, 32, 33, 34, 35, 36, 37, 38, 39, 40, 41, 42, 43, 44, 45, 46, 47, 48, 49, 50, 51, 52, 53, 54, 55, 56, 57, 58, 59, 60, 61, 62, 63, 64, 65, 66, 67, 68, 69, 70, 71, 72, 73, 74, 75, 76, 77, 78, 79]
theorem w_quoted_loop (s : List UInt8) (hs : s.length ≤ 1048576) (gl : Nat → List V) : ∀ (n : Nat) (l bs : List UInt8) (i : Nat) (h : H), l.length ≤ n → s.drop i = l → i ≤ s.length → BF h 0 bs → bs.length ≤ 4 * i →
    Hp.M X_quoted Y_quoted (kz44) (.code L44_1) (.loop L44_1 :: K44_1) ⟨gl, (.node (.node (.node (.node (.node (.node (.node .leaf .any .leaf) .any (.node .leaf .any .leaf)) .any (.node (.node .leaf .any .leaf) .any (.node .leaf .any .leaf))) .any (.node (.node (.node .leaf .any .leaf) .any (.node .leaf .any .leaf)) .any (.node (.node .leaf .any .leaf) .any (.node .leaf .any .leaf)))) .any (.node (.node (.node (.node .leaf .any .leaf) .any (.node .leaf .any .leaf)) .any (.node (.node .leaf .any .leaf) .any (.node .leaf .any .leaf))) .any (.node (.node (.node .leaf .any .leaf) .any (.node .leaf .any .leaf)) .any (.node (.node .leaf .any .leaf) .any (.node .leaf .any .leaf))))) .any (.node (.node (.node (.node (.node .leaf .any .leaf) .any (.node .leaf .any .leaf)) .any (.node (.node .leaf .any .leaf) .any (.node .leaf .any .leaf))) .any (.node (.node (.node .leaf .any .leaf) .any (.node .leaf .any .leaf)) .any (.node (.node .leaf .any .leaf) .any (.node .leaf .any .leaf)))) (.i .i64 i) (.node (.node (.node (.node .leaf .any .leaf) .any (.node .leaf .any .leaf)) .any (.node (.node .leaf .any .leaf) .any (.node .leaf .any .leaf))) .any (.node (.node (.node .leaf .any .leaf) .any (.node .leaf .any .leaf)) .any (.node (.node .leaf .any .leaf) .any (.node .leaf .any .leaf)))))) (.s s) (.node (.node (.node (.node (.node (.node .leaf .any .leaf) .any (.node .leaf .any .leaf)) .any (.node (.node .leaf .any .leaf) .any (.node .leaf .any .leaf))) .any (.node (.node (.node .leaf .any .leaf) .any (.node .leaf .any .leaf)) .any (.node (.node .leaf .any .leaf) .any (.node .leaf .any .leaf)))) (.p 0 0) (.node (.node (.node (.node .leaf .any .leaf) .any (.node .leaf .any .leaf)) .any (.node (.node .leaf .any .leaf) .any (.node .leaf .any .leaf))) .any (.node (.node (.node .leaf .any .leaf) .any (.node .leaf .any .leaf)) .any (.node (.node .leaf .any .leaf) .any (.node .leaf .any .leaf))))) .any (.node (.node (.node (.node (.node .leaf .any .leaf) .any (.node .leaf .any .leaf)) .any (.node (.node .leaf .any .leaf) .any (.node .leaf .any .leaf))) .any (.node (.node (.node .leaf .any .leaf) .any (.node .leaf .any .leaf)) .any (.node (.node .leaf .any .leaf) .any (.node .leaf .any .leaf)))) .any (.node (.node (.node (.node .leaf .any .leaf) .any (.node .leaf .any .leaf)) .any (.node (.node .leaf .any .leaf) .any (.node .leaf .any .leaf))) .any (.node (.node (.node .leaf .any .leaf) .any (.node .leaf .any .leaf)) .any (.node (.node .leaf .any .leaf) .any (.node .leaf .any .leaf))))))), [], [], h⟩
      (Fin [.tmp 2, .tmp 3] (qres (qscan l bs i))) := by
  intro n
  induction n with
  | zero =>
    intro l bs i h hn hd hi hB hb
    obtain rfl : l = [] := List.length_eq_zero_iff.1 (by omega)
    have hl := drop_len hd hi
    simp only [List.length_nil, Nat.add_zero] at hl
    have e1 : decide ((i : Int) < (s.length : Int)) = false := decide_eq_false (by omega)
    rw [UH44_1, qscan_nil]
    simp only [e1, K44_1, qres, go_sem, ne_eq, not_false_eq_true, reduceIte, Nat.reduceMul, Nat.reduceAdd, Nat.reduceSub, Nat.reduceEqDiff, Nat.reduceLeDiff, Nat.reduceLT, List.take_succ_cons, List.take_zero, List.drop_succ_cons, List.cons_append]
  | succ n ih =>
    intro l bs i h hn hd hi hB hb
    cases l with
    | nil =>
      have hl := drop_len hd hi
      simp only [List.length_nil, Nat.add_zero] at hl
      have e1 : decide ((i : Int) < (s.length : Int)) = false := decide_eq_false (by omega)
      rw [UH44_1, qscan_nil]
      simp only [e1, K44_1, qres, go_sem, ne_eq, not_false_eq_true, reduceIte, Nat.reduceMul, Nat.reduceAdd, Nat.reduceSub, Nat.reduceEqDiff, Nat.reduceLeDiff, Nat.reduceLT, List.take_succ_cons, List.take_zero, List.drop_succ_cons, List.cons_append]
    | cons a r =>
      have hl := drop_len hd hi
      simp only [List.length_cons] at hl hn
      have hw := dec_pos (a :: r)
      have hw2 := dec_le a r
      have hw3 := dec_nil_free a r
      simp only [List.length_cons] at hw2 hw3
      have e1 : decide ((i : Int) < (s.length : Int)) = true := decide_eq_true (by omega)
      have e2 : (s.drop i).take (s.length - i) = a :: r := by rw [List.take_of_length_le (by simp), hd]
      have hm : bs.length + 4 ≤ most := by unfold most; omega
      have hok := dec_oks (a :: r)
      rw [UH44_1]
      by_cases c1 : (dec (a :: r)).1 = 34
      · have f1 : decide (((dec (a :: r)).1 : Int) = 34) = true := decide_eq_true (by omega)
        have w1 : wr .i64 ((i : Int) + 1) = ((i + 1 : Nat) : Int) := by rw [wr64] <;> omega
        have hs2 := H_BS01 hB (by omega)
        rw [qscan_end c1]
        simp only [e1, e2, hi, Nat.le_refl, qd_dec, f1, qd_str, hs2, w1, K44_1, qres, go_sem, ne_eq, not_false_eq_true, reduceIte, Nat.reduceMul, Nat.reduceAdd, Nat.reduceSub, Nat.reduceEqDiff, Nat.reduceLeDiff, Nat.reduceLT, List.take_succ_cons, List.take_zero, List.drop_succ_cons, List.cons_append]
      · have f1 : decide (((dec (a :: r)).1 : Int) = 34) = false := decide_eq_false (by omega)
        by_cases c2 : (dec (a :: r)).1 = 65533 ∧ (dec (a :: r)).2 = 1
        · have f2 : decide (((dec (a :: r)).1 : Int) = 65533) = true := decide_eq_true (by omega)
          have f3 : decide (((dec (a :: r)).2 : Int) = 1) = true := decide_eq_true (by omega)
          rw [qscan_bad c2.1 c2.2]
          simp only [e1, e2, hi, Nat.le_refl, qd_dec, f1, f2, f3, K44_1, qres, go_sem, ne_eq, not_false_eq_true, reduceIte, Nat.reduceMul, Nat.reduceAdd, Nat.reduceSub, Nat.reduceEqDiff, Nat.reduceLeDiff, Nat.reduceLT, List.take_succ_cons, List.take_zero, List.drop_succ_cons, List.cons_append]
        · by_cases c3 : (dec (a :: r)).1 = 92
          · have ha := dec_92 c3
            subst ha
            have hdc : dec (92 :: r) = (92, 1) := dec92 r
            cases r with
            | nil =>
              rw [qscan_esc0]
              have f4 : decide ((s.length : Int) ≤ ((i + 1 : Nat) : Int)) = true := decide_eq_true (by simp only [List.length_nil] at hl; omega)
              have w1 : wr .i64 ((i : Int) + 1) = ((i + 1 : Nat) : Int) := by rw [wr64] <;> omega
              simp only [e1, e2, hi, Nat.le_refl, qd_dec, hdc, w1, f4, Int.reduceEq, Int.cast_ofNat_Int, K44_1, qres, go_sem, ne_eq, not_false_eq_true, reduceIte, Nat.reduceMul, Nat.reduceAdd, Nat.reduceSub, Nat.reduceEqDiff, Nat.reduceLeDiff, Nat.reduceLT, List.take_succ_cons, List.take_zero, List.drop_succ_cons, List.cons_append]
            | cons b t =>
              simp only [List.length_cons] at hl hn
              have f4 : decide ((s.length : Int) ≤ ((i + 1 : Nat) : Int)) = false := decide_eq_false (by omega)
              have w1 : wr .i64 ((i : Int) + 1) = ((i + 1 : Nat) : Int) := by rw [wr64] <;> omega
              have w2 : wr .i64 ((i : Int) + 2) = ((i + 2 : Nat) : Int) := by rw [wr64] <;> omega
              have hd1 : s.drop (i + 1) = b :: t := by rw [← List.drop_drop, hd]; rfl
              have hd2 : s.drop (i + 2) = t := by rw [← List.drop_drop, hd]; rfl
              have hg := get_drop hd1
              have i1 : i + 1 < s.length := by omega
              have i2 : i + 2 ≤ s.length := by omega
              have b34 : decide (((b.toNat : Nat) : Int) = 34) = decide (b = 34) := decide_eq_decide.2 ⟨fun h => UInt8.toNat_inj.1 (by show b.toNat = 34; omega), fun h => by rw [h]; rfl⟩
              have b92 : decide (((b.toNat : Nat) : Int) = 92) = decide (b = 92) := decide_eq_decide.2 ⟨fun h => UInt8.toNat_inj.1 (by show b.toNat = 92; omega), fun h => by rw [h]; rfl⟩
              have b117 : decide (((b.toNat : Nat) : Int) = 117) = decide (b = 117) := decide_eq_decide.2 ⟨fun h => UInt8.toNat_inj.1 (by show b.toNat = 117; omega), fun h => by rw [h]; rfl⟩
              rw [qscan_esc]
              obtain ⟨h1, q1, q2, _⟩ := H_WB0 hB (by omega) b
              by_cases k1 : b = 34
              · have g1 : decide (b = 34) = true := decide_eq_true k1
                rw [if_pos (.inl k1)]
                have := ih t (bs ++ [b]) (i + 2) h1 (by omega) hd2 i2 q2 (by simp; omega)
                simp only [e1, e2, hi, Nat.le_refl, qd_dec, hdc, w1, w2, f4, hg, i1, b34, g1, qd_byte, q1, Int.reduceEq, Int.cast_ofNat_Int, go_sem, ne_eq, not_false_eq_true, reduceIte, Nat.reduceMul, Nat.reduceAdd, Nat.reduceSub, Nat.reduceEqDiff, Nat.reduceLeDiff, Nat.reduceLT, List.take_succ_cons, List.take_zero, List.drop_succ_cons, List.cons_append]
                rw [Hp.M_loop]
                simp only [kz44, K44_1, List.length_cons, List.length_nil, go_sem, ne_eq, not_false_eq_true, reduceIte, Nat.reduceMul, Nat.reduceAdd, Nat.reduceSub, Nat.reduceEqDiff, Nat.reduceLeDiff, Nat.reduceLT, List.take_succ_cons, List.take_zero, List.drop_succ_cons, List.cons_append] at this ⊢
                exact this
              · have g1 : decide (b = 34) = false := decide_eq_false k1
                by_cases k2 : b = 92
                · have g2 : decide (b = 92) = true := decide_eq_true k2
                  rw [if_pos (.inr k2)]
                  have := ih t (bs ++ [b]) (i + 2) h1 (by omega) hd2 i2 q2 (by simp; omega)
                  simp only [e1, e2, hi, Nat.le_refl, qd_dec, hdc, w1, w2, f4, hg, i1, b34, g1, b92, g2, qd_byte, q1, Int.reduceEq, Int.cast_ofNat_Int, go_sem, ne_eq, not_false_eq_true, reduceIte, Nat.reduceMul, Nat.reduceAdd, Nat.reduceSub, Nat.reduceEqDiff, Nat.reduceLeDiff, Nat.reduceLT, List.take_succ_cons, List.take_zero, List.drop_succ_cons, List.cons_append]
                  rw [Hp.M_loop]
                  simp only [kz44, K44_1, List.length_cons, List.length_nil, go_sem, ne_eq, not_false_eq_true, reduceIte, Nat.reduceMul, Nat.reduceAdd, Nat.reduceSub, Nat.reduceEqDiff, Nat.reduceLeDiff, Nat.reduceLT, List.take_succ_cons, List.take_zero, List.drop_succ_cons, List.cons_append] at this ⊢
                  exact this
                · have g2 : decide (b = 92) = false := decide_eq_false k2
                  rw [if_neg (by rintro (h | h); exact k1 h; exact k2 h)]
                  by_cases k3 : b = 117
                  · have g3 : decide (b = 117) = true := decide_eq_true k3
                    have e3 : (s.drop (i + 2)).take (s.length - (i + 2)) = t := by rw [List.take_of_length_le (by simp), hd2]
                    rw [if_pos k3]
                    by_cases k4 : (hexV t).2 = 0
                    · have g4 : decide (((hexV t).2 : Int) = 0) = true := decide_eq_true (by omega)
                      rw [if_pos k4]
                      simp only [e1, e2, e3, hi, i2, Nat.le_refl, qd_dec, hdc, w1, w2, f4, hg, i1, b34, g1, b92, g2, b117, g3, qd_hex, pairV, g4, Int.reduceEq, Int.cast_ofNat_Int, K44_1, qres, go_sem, ne_eq, not_false_eq_true, reduceIte, Nat.reduceMul, Nat.reduceAdd, Nat.reduceSub, Nat.reduceEqDiff, Nat.reduceLeDiff, Nat.reduceLT, List.take_succ_cons, List.take_zero, List.drop_succ_cons, List.cons_append]
                    · have g4 : decide (((hexV t).2 : Int) = 0) = false := decide_eq_false (by omega)
                      obtain ⟨v1, v2, v3⟩ := hexV_ok t k4
                      rw [if_neg k4]
                      obtain ⟨h2, r1, r2, _⟩ := H_WR01 hB hm v1
                      have w3 : wr .i64 (2 + ((hexV t).2 : Int)) = ((2 + (hexV t).2 : Nat) : Int) := by rw [wr64] <;> omega
                      have w4 : wr .i64 ((i : Int) + ((2 + (hexV t).2 : Nat) : Int)) = ((i + 2 + (hexV t).2 : Nat) : Int) := by rw [wr64] <;> omega
                      have hel := enc_len (hexV t).1
                      have := ih (t.drop (hexV t).2) (bs ++ enc (hexV t).1) (i + 2 + (hexV t).2) h2 (by rw [List.length_drop]; omega) (by rw [← List.drop_drop, hd2]) (by omega) r2 (by simp; omega)
                      simp only [e1, e2, e3, hi, i2, Nat.le_refl, qd_dec, hdc, w1, w2, w3, w4, f4, hg, i1, b34, g1, b92, g2, b117, g3, qd_hex, pairV, g4, qd_rune, r1, Int.reduceEq, Int.cast_ofNat_Int, go_sem, ne_eq, not_false_eq_true, reduceIte, Nat.reduceMul, Nat.reduceAdd, Nat.reduceSub, Nat.reduceEqDiff, Nat.reduceLeDiff, Nat.reduceLT, List.take_succ_cons, List.take_zero, List.drop_succ_cons, List.cons_append]
                      rw [Hp.M_loop]
                      simp only [kz44, K44_1, List.length_cons, List.length_nil, go_sem, ne_eq, not_false_eq_true, reduceIte, Nat.reduceMul, Nat.reduceAdd, Nat.reduceSub, Nat.reduceEqDiff, Nat.reduceLeDiff, Nat.reduceLT, List.take_succ_cons, List.take_zero, List.drop_succ_cons, List.cons_append] at this ⊢
                      exact this
                  · have g3 : decide (b = 117) = false := decide_eq_false k3
                    rw [if_neg k3]
                    simp only [e1, e2, hi, Nat.le_refl, qd_dec, hdc, w1, w2, f4, hg, i1, b34, g1, b92, g2, b117, g3, Int.reduceEq, Int.cast_ofNat_Int, K44_1, qres, go_sem, ne_eq, not_false_eq_true, reduceIte, Nat.reduceMul, Nat.reduceAdd, Nat.reduceSub, Nat.reduceEqDiff, Nat.reduceLeDiff, Nat.reduceLT, List.take_succ_cons, List.take_zero, List.drop_succ_cons, List.cons_append]
          · have f4 : decide (((dec (a :: r)).1 : Int) = 92) = false := decide_eq_false (by omega)
            rw [qscan_rune c1 c2 c3]
            obtain ⟨h1, q1, q2, _⟩ := H_WR01 hB hm hok
            have hel := enc_len (dec (a :: r)).1
            have w1 : wr .i64 ((i : Int) + ((dec (a :: r)).2 : Int)) = ((i + (dec (a :: r)).2 : Nat) : Int) := by rw [wr64] <;> omega
            have := ih ((a :: r).drop (dec (a :: r)).2) (bs ++ enc (dec (a :: r)).1) (i + (dec (a :: r)).2) h1 (by omega) (by rw [← List.drop_drop, hd]) (by omega) q2 (by simp; omega)
            by_cases k1 : (dec (a :: r)).1 = 65533
            · have f2 : decide (((dec (a :: r)).1 : Int) = 65533) = true := decide_eq_true (by omega)
              have f3 : decide (((dec (a :: r)).2 : Int) = 1) = false := decide_eq_false (by omega)
              simp only [e1, e2, hi, Nat.le_refl, qd_dec, f1, f2, f3, f4, qd_rune, q1, w1, go_sem, ne_eq, not_false_eq_true, reduceIte, Nat.reduceMul, Nat.reduceAdd, Nat.reduceSub, Nat.reduceEqDiff, Nat.reduceLeDiff, Nat.reduceLT, List.take_succ_cons, List.take_zero, List.drop_succ_cons, List.cons_append]
              rw [Hp.M_loop]
              simp only [kz44, K44_1, List.length_cons, List.length_nil, go_sem, ne_eq, not_false_eq_true, reduceIte, Nat.reduceMul, Nat.reduceAdd, Nat.reduceSub, Nat.reduceEqDiff, Nat.reduceLeDiff, Nat.reduceLT, List.take_succ_cons, List.take_zero, List.drop_succ_cons, List.cons_append] at this ⊢
              exact this
            · have f2 : decide (((dec (a :: r)).1 : Int) = 65533) = false := decide_eq_false (by omega)
              simp only [e1, e2, hi, Nat.le_refl, qd_dec, f1, f2, f4, qd_rune, q1, w1, go_sem, ne_eq, not_false_eq_true, reduceIte, Nat.reduceMul, Nat.reduceAdd, Nat.reduceSub, Nat.reduceEqDiff, Nat.reduceLeDiff, Nat.reduceLT, List.take_succ_cons, List.take_zero, List.drop_succ_cons, List.cons_append]
              rw [Hp.M_loop]
              simp only [kz44, K44_1, List.length_cons, List.length_nil, go_sem, ne_eq, not_false_eq_true, reduceIte, Nat.reduceMul, Nat.reduceAdd, Nat.reduceSub, Nat.reduceEqDiff, Nat.reduceLeDiff, Nat.reduceLT, List.take_succ_cons, List.take_zero, List.drop_succ_cons, List.cons_append] at this ⊢
              exact this
end Go.Proofs.YtbhclhgljnoioaaDoor
