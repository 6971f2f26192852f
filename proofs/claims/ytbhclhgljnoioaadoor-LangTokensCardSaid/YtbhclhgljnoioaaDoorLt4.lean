/- ref08: the tokens of a text. -/
import Derived.Test.YtbhclhgljnoioaaDoorLt3
set_option linter.unusedSimpArgs false
set_option linter.unusedVariables false
namespace Go.Proofs.YtbhclhgljnoioaaDoor
open Ai
theorem w_rquoted (s : List UInt8) (hs : s.length ≤ 1048576) (i : Nat) (hi : i + 1 ≤ s.length) (gl : Nat → List V) : M X_rqd (kz51) (.code B51) [] (St.init gl 7 [.s s, .i .i64 i] {}) (Fin [.tmp 4, .tmp 5] (rqV i (qscan (s.drop (i + 1)) [] 1))) := by
  rw [U51]
  have w1 : wr .i64 ((i : Int) + 1) = ((i + 1 : Nat) : Int) := by rw [wr64] <;> omega
  have e2 : (s.drop (i + 1)).take (s.length - (i + 1)) = s.drop (i + 1) := List.take_of_length_le (by simp)
  have := w_rq_loop s hs i gl s.length (s.drop (i + 1)) [] 0 0 (by rw [List.length_drop]; omega) rfl (by omega) (by omega) (by simp)
  simp only [w1, e2, hi, Nat.le_refl, go_sem, ne_eq, not_false_eq_true, reduceIte, Nat.reduceMul, Nat.reduceAdd, Nat.reduceSub, Nat.reduceEqDiff, Nat.reduceLeDiff, Nat.reduceLT, List.take_succ_cons, List.take_zero, List.drop_succ_cons, List.cons_append]
  rw [M_loop]
  simp only [kz51, K51_1, List.length_cons, List.length_nil, Int.natCast_zero, Nat.add_zero, go_sem, ne_eq, not_false_eq_true, reduceIte, Nat.reduceMul, Nat.reduceAdd, Nat.reduceSub, Nat.reduceEqDiff, Nat.reduceLeDiff, Nat.reduceLT, List.take_succ_cons, List.take_zero, List.drop_succ_cons, List.cons_append] at this ⊢
  exact this
def F_rquoted (a : List V) : Option V := match a with
  | [.s s, .i .i64 (Int.ofNat i)] => if s.length ≤ 1048576 ∧ i + 1 ≤ s.length then some (rqV i (qscan (s.drop (i + 1)) [] 1)) else none
  | _ => none
theorem F_rquoted1 {s : List UInt8} {i : Nat} (h : s.length ≤ 1048576) (hi : i + 1 ≤ s.length) : F_rquoted [.s s, .i .i64 (i : Int)] = some (rqV i (qscan (s.drop (i + 1)) [] 1)) := if_pos ⟨h, hi⟩
theorem o_rquoted : ∀ a v, F_rquoted a = some v → Comp tabx told 51 a v := fun a v e => by
  unfold F_rquoted at e
  split at e
  · split at e
    · rename_i h; cases e; exact comp_of t_rqd (fn := af51) rfl (Nat.le_of_ble_eq_true rfl) fun gl => w_rquoted _ h.1 _ h.2 gl
    · cases e
  · cases e
def X_rt := xs [(52, F_cls), (51, F_rquoted)]
theorem t_rt : Tells tabx told X_rt := tells_cons o_cls (tells_cons o_rquoted tells_nil)
theorem rt_cls (a : UInt8) : X_rt 52 [.i .u8 (a.toNat : Int)] = some (.i .i64 (clsV a.toNat)) := F_cls1 a
theorem rt_quo {s : List UInt8} {i : Nat} (h : s.length ≤ 1048576) (hi : i + 1 ≤ s.length) : X_rt 51 [.s s, .i .i64 (i : Int)] = some (rqV i (qscan (s.drop (i + 1)) [] 1)) := F_rquoted1 h hi
def K26_2 : List Fr := [.blk 2,
  .seq (.seq (.reg [⟨some 85, .mov (.t 9), none⟩,
       ⟨some 86, .faddr 0 (.t 7), none⟩,
       ⟨none, .store 1 (.t 86) (.t 85), none⟩])
    (.reg [⟨some 87, .mov (.t 0), none⟩,
      ⟨some 88, .mov (.t 6), none⟩,
      ⟨some 89, .mov (.t 8), none⟩,
      ⟨some 90, .slc .str (.t 87) (some (.t 88)) (some (.t 89)) none, none⟩,
      ⟨some 91, .faddr 1 (.t 7), none⟩,
      ⟨none, .store 1 (.t 91) (.t 90), none⟩])),
  .seq (.seq (.reg [⟨some 92, .mov (.t 5), none⟩,
       ⟨some 93, .load true 3 (.t 7), none⟩,
       ⟨some 94, .bslice false 45 3 1 [(.i .i64 0), (.s []), (.i .i64 0)] [(0, (.t 93))], none⟩,
       ⟨some 95, .app 45 3 (.t 92) (.t 94), none⟩,
       ⟨some 5, .mov (.t 95), none⟩])
    (.reg [⟨some 96, .mov (.t 8), none⟩,
      ⟨some 6, .mov (.t 96), none⟩])),
  .blk 1,
  .seq (.reg [⟨some 97, .bin .add (.t 12) (.k (.i .i64 1)), none⟩,
      ⟨some 12, .mov (.t 97), none⟩]),
  .loop L26_1,
  .blk 0,
  .seq (.seq (.reg [⟨some 98, .mov (.t 5), none⟩,
       ⟨some 2, .mov (.t 98), none⟩,
       ⟨some 3, .mov (.k (.i .i64 0)), none⟩,
       ⟨some 4, .mov (.k (.i .i64 0)), none⟩])
    .ret)]
theorem U26_2 {xf : FuncId → List V → Option V} {kz : Nat → List Nat} {k : List Fr} {st : St} {Q : AEx → St → Prop} : M xf kz (.code L26_2) k st Q = M xf kz (.code (.seq (.seq (.reg [⟨some 67, .mov (.t 9), none⟩,
      ⟨some 68, .bin .neq (.t 67) (.k (.i .i64 4)), none⟩,
      ⟨some 69, .mov (.t 68), none⟩,
      ⟨some 70, .mov (.t 8), some (69, true)⟩,
      ⟨some 71, .mov (.t 0), some (69, true)⟩,
      ⟨some 72, .len .str (.t 71), some (69, true)⟩,
      ⟨some 73, .bin .lss (.t 70) (.t 72), some (69, true)⟩,
      ⟨some 74, .pick (.t 69) (.t 73) (.k (.b false)), none⟩,
      ⟨some 75, .mov (.t 74), none⟩,
      ⟨some 76, .mov (.t 0), some (75, true)⟩,
      ⟨some 77, .mov (.t 8), some (75, true)⟩,
      ⟨some 78, .idx .str (.t 76) (.t 77), some (75, true)⟩,
      ⟨some 79, .call true 52 [(.t 78)], some (75, true)⟩,
      ⟨some 80, .mov (.t 9), some (75, true)⟩,
      ⟨some 81, .bin .eql (.t 79) (.t 80), some (75, true)⟩,
      ⟨some 82, .pick (.t 75) (.t 81) (.k (.b false)), none⟩])
   (.cond (.t 82)
    .skip
    (.exit 2)))
  (.blk 3 (.reg [⟨some 83, .mov (.t 8), none⟩,
     ⟨some 84, .bin .add (.t 83) (.k (.i .i64 1)), none⟩,
     ⟨some 8, .mov (.t 84), none⟩])))) k st Q := rfl
def K26_1 : List Fr := [.blk 0,
  .seq (.seq (.reg [⟨some 98, .mov (.t 5), none⟩,
       ⟨some 2, .mov (.t 98), none⟩,
       ⟨some 3, .mov (.k (.i .i64 0)), none⟩,
       ⟨some 4, .mov (.k (.i .i64 0)), none⟩])
    .ret)]
theorem U26_1 {xf : FuncId → List V → Option V} {kz : Nat → List Nat} {k : List Fr} {st : St} {Q : AEx → St → Prop} : M xf kz (.code L26_1) k st Q = M xf kz (.code (.seq (.reg [⟨some 13, .bin .lss (.t 12) (.t 11), none⟩])
  (.seq (.cond (.t 13)
    .skip
    (.exit 0))
  (.seq (.blk 1 (.seq (.seq (.reg [⟨some 14, .mov (.t 6), none⟩,
        ⟨some 15, .mov (.t 0), none⟩,
        ⟨some 16, .len .str (.t 15), none⟩,
        ⟨some 17, .bin .geq (.t 14) (.t 16), none⟩])
     (.cond (.t 17)
      (.exit 0)
      .skip))
    (.seq (.seq (.reg [⟨some 18, .mov (.t 0), none⟩,
        ⟨some 19, .mov (.t 6), none⟩,
        ⟨some 20, .idx .str (.t 18) (.t 19), none⟩,
        ⟨some 21, .bin .eql (.t 20) (.k (.i .u8 32)), none⟩])
     (.cond (.t 21)
      (.seq (.reg [⟨some 22, .mov (.t 6), none⟩,
         ⟨some 23, .bin .add (.t 22) (.k (.i .i64 1)), none⟩,
         ⟨some 6, .mov (.t 23), none⟩])
      (.exit 1))
      .skip))
    (.seq (.reg [⟨some 24, .mov (.t 6), none⟩,
       ⟨some 25, .build [(.i .i64 0), (.s []), (.i .i64 0)] [(2, 1, (.t 24))], none⟩,
       ⟨some 7, .lalloc [(.i .i64 0), (.s []), (.i .i64 0)] [7, 32, 39, 86, 91], none⟩,
       ⟨none, .store 3 (.t 7) (.t 25), none⟩])
    (.seq (.reg [⟨some 26, .mov (.t 6), none⟩,
       ⟨some 27, .bin .add (.t 26) (.k (.i .i64 1)), none⟩,
       ⟨some 8, .mov (.t 27), none⟩])
    (.seq (.seq (.reg [⟨some 28, .mov (.t 0), none⟩,
        ⟨some 29, .mov (.t 6), none⟩,
        ⟨some 30, .idx .str (.t 28) (.t 29), none⟩,
        ⟨some 31, .bin .eql (.t 30) (.k (.i .u8 34)), none⟩])
     (.cond (.t 31)
      (.seq (.reg [⟨some 32, .faddr 0 (.t 7), none⟩,
         ⟨none, .store 1 (.t 32) (.k (.i .i64 2)), none⟩])
      (.seq (.reg [⟨some 34, .mov (.t 0), none⟩,
         ⟨some 35, .mov (.t 6), none⟩,
         ⟨some 36, .call true 51 [(.t 34), (.t 35)], none⟩,
         ⟨some 33, .mov (.t 36), none⟩,
         ⟨some 37, .ext (.t 33) 0, none⟩,
         ⟨some 38, .ext (.t 33) 1, none⟩,
         ⟨some 39, .faddr 1 (.t 7), none⟩,
         ⟨none, .store 1 (.t 39) (.t 37), none⟩,
         ⟨some 8, .mov (.t 38), none⟩])
      (.seq (.reg [⟨some 40, .mov (.t 8), none⟩,
         ⟨some 41, .bin .eql (.t 40) (.k (.i .i64 0)), none⟩])
      (.cond (.t 41)
       (.seq (.reg [⟨some 42, .mov (.t 6), none⟩,
          ⟨some 2, .movnil 45, none⟩,
          ⟨some 3, .mov (.t 42), none⟩,
          ⟨some 4, .mov (.k (.i .i64 191)), none⟩])
       .ret)
       .skip))))
      (.seq (.reg [⟨some 43, .mov (.t 0), none⟩,
         ⟨some 44, .mov (.t 6), none⟩,
         ⟨some 45, .idx .str (.t 43) (.t 44), none⟩,
         ⟨some 46, .call true 52 [(.t 45)], none⟩,
         ⟨some 9, .mov (.t 46), none⟩])
      (.seq (.seq (.reg [⟨some 47, .mov (.t 0), none⟩,
          ⟨some 48, .mov (.t 6), none⟩,
          ⟨some 49, .idx .str (.t 47) (.t 48), none⟩,
          ⟨some 50, .bin .eql (.t 49) (.k (.i .u8 45)), none⟩,
          ⟨some 51, .mov (.t 50), none⟩,
          ⟨some 52, .mov (.t 8), some (51, true)⟩,
          ⟨some 53, .mov (.t 0), some (51, true)⟩,
          ⟨some 54, .len .str (.t 53), some (51, true)⟩,
          ⟨some 55, .bin .lss (.t 52) (.t 54), some (51, true)⟩,
          ⟨some 56, .pick (.t 51) (.t 55) (.k (.b false)), none⟩,
          ⟨some 57, .mov (.t 56), none⟩,
          ⟨some 58, .mov (.t 0), some (57, true)⟩,
          ⟨some 59, .mov (.t 8), some (57, true)⟩,
          ⟨some 60, .idx .str (.t 58) (.t 59), some (57, true)⟩,
          ⟨some 61, .call true 52 [(.t 60)], some (57, true)⟩,
          ⟨some 62, .bin .eql (.t 61) (.k (.i .i64 3)), some (57, true)⟩,
          ⟨some 63, .pick (.t 57) (.t 62) (.k (.b false)), none⟩])
       (.cond (.t 63)
        (.reg [⟨some 9, .mov (.k (.i .i64 3)), none⟩])
        .skip))
      (.seq (.seq (.reg [⟨some 64, .mov (.t 9), none⟩,
          ⟨some 65, .bin .eql (.t 64) (.k (.i .i64 0)), none⟩])
       (.cond (.t 65)
        (.seq (.reg [⟨some 66, .mov (.t 6), none⟩,
           ⟨some 2, .movnil 45, none⟩,
           ⟨some 3, .mov (.t 66), none⟩,
           ⟨some 4, .mov (.k (.i .i64 190)), none⟩])
        .ret)
        .skip))
      (.seq (.blk 2 (.loop L26_2))
      (.seq (.reg [⟨some 85, .mov (.t 9), none⟩,
         ⟨some 86, .faddr 0 (.t 7), none⟩,
         ⟨none, .store 1 (.t 86) (.t 85), none⟩])
      (.reg [⟨some 87, .mov (.t 0), none⟩,
        ⟨some 88, .mov (.t 6), none⟩,
        ⟨some 89, .mov (.t 8), none⟩,
        ⟨some 90, .slc .str (.t 87) (some (.t 88)) (some (.t 89)) none, none⟩,
        ⟨some 91, .faddr 1 (.t 7), none⟩,
        ⟨none, .store 1 (.t 91) (.t 90), none⟩]))))))))
    (.seq (.reg [⟨some 92, .mov (.t 5), none⟩,
       ⟨some 93, .load true 3 (.t 7), none⟩,
       ⟨some 94, .bslice false 45 3 1 [(.i .i64 0), (.s []), (.i .i64 0)] [(0, (.t 93))], none⟩,
       ⟨some 95, .app 45 3 (.t 92) (.t 94), none⟩,
       ⟨some 5, .mov (.t 95), none⟩])
    (.reg [⟨some 96, .mov (.t 8), none⟩,
      ⟨some 6, .mov (.t 96), none⟩]))))))))
  (.reg [⟨some 97, .bin .add (.t 12) (.k (.i .i64 1)), none⟩,
    ⟨some 12, .mov (.t 97), none⟩]))))) k st Q := rfl
theorem U26 {xf : FuncId → List V → Option V} {kz : Nat → List Nat} {k : List Fr} {st : St} {Q : AEx → St → Prop} : M xf kz (.code B26) k st Q = M xf kz (.code (.seq (.reg [⟨some 2, .movnil 45, none⟩,
     ⟨some 3, .mov (.k (.i .i64 0)), none⟩,
     ⟨some 4, .mov (.k (.i .i64 0)), none⟩])
  (.seq (.reg [⟨some 5, .movnil 45, none⟩])
  (.seq (.reg [⟨some 6, .mov (.k (.i .i64 0)), none⟩])
  (.seq (.seq (.reg [⟨some 10, .mov (.t 0), none⟩,
      ⟨some 11, .len .str (.t 10), none⟩,
      ⟨some 12, .mov (.k (.i .i64 0)), none⟩])
   (.blk 0 (.loop L26_1)))
  (.seq (.reg [⟨some 98, .mov (.t 5), none⟩,
     ⟨some 2, .mov (.t 98), none⟩,
     ⟨some 3, .mov (.k (.i .i64 0)), none⟩,
     ⟨some 4, .mov (.k (.i .i64 0)), none⟩])
  .ret)))))) k st Q := rfl
def kz26 (n : Nat) : List Nat := if n = 2 then [1, 2, 3, 4, 7, 8, 9, 10, 13, 14, 15, 16, 17, 18, 19, 20, 21, 22, 23, 24, 25, 26, 27, 28, 29, 30, 31, 32, 33, 34, 35, 36, 37, 38, 39, 40, 41, 42, 43, 44, 45, 46, 47, 48, 49, 50, 51, 52, 53, 54, 55, 56, 57, 58, 59, 60, 61, 62, 63, 64, 65, 66, 67, 68, 69, 70, 71, 72, 73, 74, 75, 76, 77, 78, 79, 80, 81, 82, 83, 84, 85, 86, 87, 88, 89, 90, 91, 92, 93, 94, 95, 96, 97, 98] else if n = 8 then [1, 2, 3, 4, 10, 13, 14, 15, 16, 17, 18, 19, 20, 21, 22, 23, 24, 25, 26, 27, 28, 29, 30, 31, 32, 33, 34, 35, 36, 37, 38, 39, 40, 41, 42, 43, 44, 45, 46, 47, 48, 49, 50, 51, 52, 53, 54, 55, 56, 57, 58, 59, 60, 61, 62, 63, 64, 65, 66, 67, 68, 69, 70, 71, 72, 73, 74, 75, 76, 77, 78, 79, 80, 81, 82, 83, 84, 85, 86, 87, 88, 89, 90, 91, 92, 93, 94, 95, 96, 97, 98] else []
def clsP (kd : Nat) (c : Nat) : Bool := clsV c == kd
theorem rt_cells (acc : List Tok) (t : Tok) : (acc ++ [t]).flatMap Tok.cells = acc.flatMap Tok.cells ++ [.i .i64 t.kind, .s t.text, .i .i64 t.at_] := by simp [Tok.cells]
theorem rt_word (s : List UInt8) (hs : s.length ≤ 1048576) (kd : Nat) (hkd : kd = 1 ∨ kd = 3) (k cnt : Nat) (hcnt : cnt ≤ 1048576) (acc : List Tok) (hm : acc.length + 1 ≤ most) (loc : List (Nat × List V)) (gl : Nat → List V) (Q : AEx → St → Prop) :
    ∀ (l : List UInt8) (tt : Nat), s.drop tt = l → tt ≤ s.length → k ≤ tt →
    M X_rt (kz26) (.code L26_1) (.loop L26_1 :: K26_1) ⟨gl, (.node (.node (.node (.node (.node (.node (.node .leaf .any .leaf) .any (.node .leaf .any .leaf)) .any (.node (.node .leaf .any .leaf) .any (.node .leaf .any .leaf))) .any (.node (.node (.node .leaf .any .leaf) .any (.node .leaf .any .leaf)) .any (.node (.node .leaf .any .leaf) .any (.node .leaf .any .leaf)))) .any (.node (.node (.node (.node .leaf .any .leaf) .any (.node .leaf .any .leaf)) .any (.node (.node .leaf .any .leaf) .any (.node .leaf .any .leaf))) (.i .i64 s.length) (.node (.node (.node .leaf .any .leaf) .any (.node .leaf .any .leaf)) .any (.node (.node .leaf .any .leaf) .any (.node .leaf .any .leaf))))) .any (.node (.node (.node (.node (.node .leaf .any .leaf) .any (.node .leaf .any .leaf)) .any (.node (.node .leaf .any .leaf) .any (.node .leaf .any .leaf))) .any (.node (.node (.node .leaf .any .leaf) .any (.node .leaf .any .leaf)) .any (.node (.node .leaf .any .leaf) .any (.node .leaf .any .leaf)))) (.sl ((acc ++ [Tok.mk kd ((s.drop k).take (tt + wh (clsP kd) l - k)) k]).flatMap Tok.cells) (acc.length + 1) (.own 1)) (.node (.node (.node (.node .leaf .any .leaf) .any (.node .leaf .any .leaf)) .any (.node (.node .leaf .any .leaf) .any (.node .leaf .any .leaf))) .any (.node (.node (.node .leaf .any .leaf) .any (.node .leaf .any .leaf)) .any (.node (.node .leaf .any .leaf) .any (.node .leaf .any .leaf)))))) (.s s) (.node (.node (.node (.node (.node (.node .leaf .any .leaf) .any (.node .leaf .any .leaf)) .any (.node (.node .leaf .any .leaf) .any (.node .leaf .any .leaf))) .any (.node (.node (.node .leaf .any .leaf) .any (.node .leaf .any .leaf)) .any (.node (.node .leaf .any .leaf) .any (.node .leaf .any .leaf)))) .any (.node (.node (.node (.node .leaf .any .leaf) .any (.node .leaf .any .leaf)) .any (.node (.node .leaf .any .leaf) .any (.node .leaf .any .leaf))) (.i .i64 ((cnt + 1 : Nat) : Int)) (.node (.node (.node .leaf .any .leaf) .any (.node .leaf .any .leaf)) .any (.node (.node .leaf .any .leaf) .any (.node .leaf .any .leaf))))) .any (.node (.node (.node (.node (.node .leaf .any .leaf) .any (.node .leaf .any .leaf)) .any (.node (.node .leaf .any .leaf) .any (.node .leaf .any .leaf))) .any (.node (.node (.node .leaf .any .leaf) .any (.node .leaf .any .leaf)) .any (.node (.node .leaf .any .leaf) .any (.node .leaf .any .leaf)))) (.i .i64 ((tt + wh (clsP kd) l : Nat) : Int)) (.node (.node (.node (.node .leaf .any .leaf) .any (.node .leaf .any .leaf)) .any (.node (.node .leaf .any .leaf) .any (.node .leaf .any .leaf))) .any (.node (.node (.node .leaf .any .leaf) .any (.node .leaf .any .leaf)) .any (.node (.node .leaf .any .leaf) .any (.node .leaf .any .leaf))))))), [], lset loc 7 [.i .i64 kd, .s ((s.drop k).take (tt + wh (clsP kd) l - k)), .i .i64 k], tokH (acc.length + 1)⟩ Q →
    M X_rt (kz26) (.code L26_2) (.loop L26_2 :: K26_2) ⟨gl, (.node (.node (.node (.node (.node (.node (.node .leaf .any .leaf) .any (.node .leaf .any .leaf)) .any (.node (.node .leaf .any .leaf) .any (.node .leaf .any .leaf))) (.l 7 0) (.node (.node (.node .leaf .any .leaf) .any (.node .leaf .any .leaf)) .any (.node (.node .leaf .any .leaf) .any (.node .leaf .any .leaf)))) .any (.node (.node (.node (.node .leaf .any .leaf) .any (.node .leaf .any .leaf)) .any (.node (.node .leaf .any .leaf) .any (.node .leaf .any .leaf))) (.i .i64 s.length) (.node (.node (.node .leaf .any .leaf) .any (.node .leaf .any .leaf)) .any (.node (.node .leaf .any .leaf) .any (.node .leaf .any .leaf))))) .any (.node (.node (.node (.node (.node .leaf .any .leaf) .any (.node .leaf .any .leaf)) .any (.node (.node .leaf .any .leaf) .any (.node .leaf .any .leaf))) (.i .i64 kd) (.node (.node (.node .leaf .any .leaf) .any (.node .leaf .any .leaf)) .any (.node (.node .leaf .any .leaf) .any (.node .leaf .any .leaf)))) (.sl (acc.flatMap Tok.cells) acc.length (.own 1)) (.node (.node (.node (.node .leaf .any .leaf) .any (.node .leaf .any .leaf)) .any (.node (.node .leaf .any .leaf) .any (.node .leaf .any .leaf))) .any (.node (.node (.node .leaf .any .leaf) .any (.node .leaf .any .leaf)) .any (.node (.node .leaf .any .leaf) .any (.node .leaf .any .leaf)))))) (.s s) (.node (.node (.node (.node (.node (.node .leaf .any .leaf) .any (.node .leaf .any .leaf)) .any (.node (.node .leaf .any .leaf) .any (.node .leaf .any .leaf))) (.i .i64 tt) (.node (.node (.node .leaf .any .leaf) .any (.node .leaf .any .leaf)) .any (.node (.node .leaf .any .leaf) .any (.node .leaf .any .leaf)))) .any (.node (.node (.node (.node .leaf .any .leaf) .any (.node .leaf .any .leaf)) .any (.node (.node .leaf .any .leaf) .any (.node .leaf .any .leaf))) (.i .i64 cnt) (.node (.node (.node .leaf .any .leaf) .any (.node .leaf .any .leaf)) .any (.node (.node .leaf .any .leaf) .any (.node .leaf .any .leaf))))) .any (.node (.node (.node (.node (.node .leaf .any .leaf) .any (.node .leaf .any .leaf)) .any (.node (.node .leaf .any .leaf) .any (.node .leaf .any .leaf))) .any (.node (.node (.node .leaf .any .leaf) .any (.node .leaf .any .leaf)) .any (.node (.node .leaf .any .leaf) .any (.node .leaf .any .leaf)))) (.i .i64 k) (.node (.node (.node (.node .leaf .any .leaf) .any (.node .leaf .any .leaf)) .any (.node (.node .leaf .any .leaf) .any (.node .leaf .any .leaf))) .any (.node (.node (.node .leaf .any .leaf) .any (.node .leaf .any .leaf)) .any (.node (.node .leaf .any .leaf) .any (.node .leaf .any .leaf))))))), [], lset loc 7 [.i .i64 0, .s [], .i .i64 k], tokH acc.length⟩ Q := by
  intro l
  have hcl := toks_len acc
  have k4 : decide ((kd : Int) = 4) = false := decide_eq_false (by omega)
  have w1 : wr .i64 ((cnt : Int) + 1) = ((cnt + 1 : Nat) : Int) := by rw [wr64] <;> omega
  induction l with
  | nil =>
    intro tt hd ht hk h
    have hl := drop_len hd ht
    simp only [List.length_nil, Nat.add_zero] at hl
    have e1 : decide ((tt : Int) < (s.length : Int)) = false := decide_eq_false (by omega)
    rw [wh, Nat.add_zero, rt_cells] at h
    rw [U26_2]
    simp only [k4, e1, w1, hk, ht, hcl, hm, Nat.le_refl, tokH, splice, List.take_zero, K26_2, go_sem, ne_eq, not_false_eq_true, reduceIte, Nat.reduceMul, Nat.reduceAdd, Nat.reduceSub, Nat.reduceEqDiff, Nat.reduceLeDiff, Nat.reduceLT, List.take_succ_cons, List.take_zero, List.drop_succ_cons, List.cons_append]
    rw [M_loop]
    simp only [kz26, K26_1, tokH, List.length_cons, List.length_nil, go_sem, ne_eq, not_false_eq_true, reduceIte, Nat.reduceMul, Nat.reduceAdd, Nat.reduceSub, Nat.reduceEqDiff, Nat.reduceLeDiff, Nat.reduceLT, List.take_succ_cons, List.take_zero, List.drop_succ_cons, List.cons_append] at h ⊢
    exact h
  | cons a r ih =>
    intro tt hd ht hk h
    have hl := drop_len hd ht
    simp only [List.length_cons] at hl
    have e1 : decide ((tt : Int) < (s.length : Int)) = true := decide_eq_true (by omega)
    have eg := get_drop hd
    have e3 : decide (((clsV a.toNat : Nat) : Int) = (kd : Int)) = clsP kd a.toNat := by
      unfold clsP
      rw [show (clsV a.toNat == kd) = decide (clsV a.toNat = kd) from rfl]
      exact decide_eq_decide.2 Int.ofNat_inj
    have w2 : wr .i64 ((tt : Int) + 1) = ((tt + 1 : Nat) : Int) := by rw [wr64] <;> omega
    rw [U26_2]
    cases hc : clsP kd a.toNat with
    | false =>
      have hw : wh (clsP kd) (a :: r) = 0 := by rw [wh, hc]; rfl
      rw [hw, Nat.add_zero, rt_cells] at h
      simp only [k4, e1, e3, hc, eg, rt_cls, w1, hk, ht, hcl, hm, Nat.le_refl, tokH, splice, List.take_zero, K26_2, go_sem, ne_eq, not_false_eq_true, reduceIte, Nat.reduceMul, Nat.reduceAdd, Nat.reduceSub, Nat.reduceEqDiff, Nat.reduceLeDiff, Nat.reduceLT, List.take_succ_cons, List.take_zero, List.drop_succ_cons, List.cons_append]
      rw [M_loop]
      simp only [kz26, K26_1, tokH, List.length_cons, List.length_nil, go_sem, ne_eq, not_false_eq_true, reduceIte, Nat.reduceMul, Nat.reduceAdd, Nat.reduceSub, Nat.reduceEqDiff, Nat.reduceLeDiff, Nat.reduceLT, List.take_succ_cons, List.take_zero, List.drop_succ_cons, List.cons_append] at h ⊢
      exact h
    | true =>
      have hw : wh (clsP kd) (a :: r) = wh (clsP kd) r + 1 := by rw [wh, hc]; rfl
      rw [hw, show tt + (wh (clsP kd) r + 1) = tt + 1 + wh (clsP kd) r from by omega] at h
      have := ih (tt + 1) (by rw [← List.drop_drop, hd]; rfl) (by omega) (by omega) h
      simp only [k4, e1, e3, hc, eg, rt_cls, w2, go_sem, ne_eq, not_false_eq_true, reduceIte, Nat.reduceMul, Nat.reduceAdd, Nat.reduceSub, Nat.reduceEqDiff, Nat.reduceLeDiff, Nat.reduceLT, List.take_succ_cons, List.take_zero, List.drop_succ_cons, List.cons_append]
      rw [M_loop]
      simp only [kz26, K26_2, tokH, List.length_cons, List.length_nil, go_sem, ne_eq, not_false_eq_true, reduceIte, Nat.reduceMul, Nat.reduceAdd, Nat.reduceSub, Nat.reduceEqDiff, Nat.reduceLeDiff, Nat.reduceLT, List.take_succ_cons, List.take_zero, List.drop_succ_cons, List.cons_append] at this ⊢
      exact this
end Go.Proofs.YtbhclhgljnoioaaDoor
