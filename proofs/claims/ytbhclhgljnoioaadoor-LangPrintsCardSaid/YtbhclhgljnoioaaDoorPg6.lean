/- The document's text of a filter: walked; Print. -/
import Derived.Test.YtbhclhgljnoioaaDoorPg5
set_option linter.unusedSimpArgs false
set_option linter.unusedVariables false
namespace Go.Proofs.YtbhclhgljnoioaaDoor
open Ai Go.Shelf
theorem bind3 {k : Int} {n : Nat} (h : 0 ≤ k ∧ k ≤ 6) : bindV k n < 3 ↔ 4 < k ∧ 1 < n := by
  unfold bindV
  split
  · omega
  · split <;> omega
theorem bind2 {k : Int} {n : Nat} : bindV k n < 2 ↔ k = 6 ∧ 1 < n := by
  unfold bindV
  split
  · omega
  · split <;> omega
theorem join_snoc (l : List (List UInt8)) (x sep : List UInt8) : Lib.join (l ++ [x]) sep = (if l = [] then [] else Lib.join l sep ++ sep) ++ x := by
  induction l with
  | nil => rw [if_pos rfl, List.nil_append, Lib.join_one]; rfl
  | cons y r ih =>
    rw [if_neg (by simp)]
    cases r with
    | nil => simp [Lib.join, List.intercalate]
    | cons z r =>
      rw [if_neg (by simp)] at ih
      have e : ∀ m : List (List UInt8), Lib.join (y :: z :: m) sep = y ++ (sep ++ Lib.join (z :: m) sep) := fun m => by simp [Lib.join, List.intercalate]
      rw [List.cons_append, List.cons_append, e, e, ← List.cons_append, ih]
      simp only [List.append_assoc]
theorem cnts_app (a b : List Fil) : cnts (a ++ b) = cnts a + cnts b := by
  induction a with
  | nil => rw [List.nil_append, cnts, Nat.zero_add]
  | cons f r ih => rw [List.cons_append, cnts, cnts, ih, Nat.add_assoc]
theorem okLs_app : ∀ (a b : List Fil), okLs (a ++ b) → okLs a
  | [], _, _ => by rw [okLs]; trivial
  | f :: r, b, h => by
    rw [List.cons_append, okLs] at h
    rw [okLs]
    exact ⟨h.1, okLs_app r b h.2⟩
/-! ### several -/
theorem U68 {xf : FuncId → List V → Option V} {kz : Nat → List Nat} {k : List Fr} {st : St} {Q : AEx → St → Prop} : M xf kz (.code B68) k st Q = M xf kz (.code (.seq (.reg [⟨some 1, .lbox (.t 0) [1, 3, 7], none⟩,
     ⟨some 2, .mov (.k (.b false)), none⟩])
  (.seq (.reg [⟨some 3, .faddr 0 (.t 1), none⟩,
     ⟨some 4, .load false 1 (.t 3), none⟩,
     ⟨some 5, .bin .gtr (.t 4) (.k (.i .i64 4)), none⟩,
     ⟨some 6, .mov (.t 5), none⟩,
     ⟨some 7, .faddr 3 (.t 1), some (6, true)⟩,
     ⟨some 8, .load false 1 (.t 7), some (6, true)⟩,
     ⟨some 9, .len .slice (.t 8), some (6, true)⟩,
     ⟨some 10, .bin .gtr (.t 9) (.k (.i .i64 1)), some (6, true)⟩,
     ⟨some 11, .pick (.t 6) (.t 10) (.k (.b false)), none⟩,
     ⟨some 2, .mov (.t 11), none⟩])
  .ret))) k st Q := rfl
def kz68 (_ : Nat) : List Nat := []
theorem w_several (k : Int) (nm tx : List UInt8) (xs : List V) (n : Nat) (tk : Tk) (gl : Nat → List V) :
    M noX (kz68) (.code B68) [] (St.init gl 4 [.agg [.i .i64 k, .s nm, .s tx, .sl xs n tk]] {}) (Fin [.tmp 2] (.b (decide (4 < k) && decide (1 < n)))) := by
  rw [U68]
  have e1 : decide ((1 : Int) < (n : Int)) = decide (1 < n) := decide_eq_decide.2 (by omega)
  cases h4 : decide (4 < k) <;> simp only [h4, e1, go_sem, ne_eq, not_false_eq_true, reduceIte, Nat.reduceMul, Nat.reduceAdd, Nat.reduceSub, Nat.reduceEqDiff, Nat.reduceLeDiff, Nat.reduceLT, List.take_succ_cons, List.take_zero, List.drop_succ_cons, List.cons_append]
def F_several (a : List V) : Option V := match a with
  | [.agg [.i .i64 k, .s nm, .s tx, .sl xs n tk]] => some (.b (decide (4 < k) && decide (1 < n)))
  | _ => none
theorem o_several : ∀ a v, F_several a = some v → Comp tabx told 68 a v := fun a v e => by
  unfold F_several at e
  split at e
  · cases e; exact comp_of tells_noX (fn := af68) rfl (Nat.le_of_ble_eq_true rfl) fun gl => w_several _ _ _ _ _ _ gl
  · cases e
/-! ### tell -/
noncomputable def F_rtell : List V → Option V := pickP 40 R_tell
def S_rtell (D : Nat) : Prop := ∀ (f : Fil) (c : List V) (d : Nat), FilR f c → Fine f d → 8 ≤ d + D → Comp tabx told 40 [.agg c] (.s (tellF f))
theorem call_rtell {D : Nat} (S : S_rtell D) {f : Fil} {c : List V} {d : Nat} (hf : FilR f c) (h1 : Fine f d) (h2 : 8 ≤ d + D) : F_rtell [.agg c] = some (.s (tellF f)) := by
  obtain ⟨v, e1, r⟩ := pickP_spec (R := R_tell) (S f c d hf h1 h2) (by
    intro f' c' e1 hf'
    simp only [List.cons.injEq, V.agg.injEq, and_true] at e1
    subst e1
    rw [← FilR.uniq f f' c hf hf'])
  rw [r f c rfl hf] at e1
  exact e1
noncomputable def X_rtell := xs [(13, F_Quote), (68, F_several), (40, F_rtell)]
theorem t_rtell : Tells tabx told X_rtell := tells_cons o_rQuote (tells_cons o_several (tells_cons pickP_tells tells_nil))
def K40_2 : List Fr := [.blk 3,
  .seq (.seq (.reg [⟨some 120, .mov (.t 6), none⟩,
       ⟨some 2, .mov (.t 120), none⟩])
    .ret)]
theorem U40_2 {xf : FuncId → List V → Option V} {kz : Nat → List Nat} {k : List Fr} {st : St} {Q : AEx → St → Prop} : M xf kz (.code L40_2) k st Q = M xf kz (.code (.seq (.reg [⟨some 75, .bin .lss (.t 74) (.t 73), none⟩])
  (.seq (.cond (.t 75)
    .skip
    (.exit 3))
  (.seq (.blk 4 (.seq (.reg [⟨some 76, .mov (.t 74), none⟩,
       ⟨some 77, .iaddr (.slice 4) (.t 72) (.t 74), none⟩,
       ⟨some 78, .load true 4 (.t 77), none⟩,
       ⟨some 8, .lalloc [(.i .i64 0), (.s []), (.s []), (.sl [] 0 .nil)] [8, 104], none⟩,
       ⟨some 7, .mov (.t 76), none⟩,
       ⟨none, .store 4 (.t 8) (.t 78), none⟩])
    (.seq (.seq (.reg [⟨some 79, .mov (.t 7), none⟩,
        ⟨some 80, .bin .gtr (.t 79) (.k (.i .i64 0)), none⟩,
        ⟨some 81, .mov (.t 80), none⟩,
        ⟨some 82, .faddr 0 (.t 1), some (81, true)⟩,
        ⟨some 83, .load false 1 (.t 82), some (81, true)⟩,
        ⟨some 84, .bin .eql (.t 83) (.k (.i .i64 5)), some (81, true)⟩,
        ⟨some 85, .pick (.t 81) (.t 84) (.k (.b false)), none⟩])
     (.cond (.t 85)
      (.reg [⟨some 86, .mov (.t 6), none⟩,
        ⟨some 87, .bin .add (.t 86) (.k (.s [32, 97, 110, 100, 32])), none⟩,
        ⟨some 6, .mov (.t 87), none⟩])
      .skip))
    (.seq (.seq (.reg [⟨some 88, .mov (.t 7), none⟩,
        ⟨some 89, .bin .gtr (.t 88) (.k (.i .i64 0)), none⟩,
        ⟨some 90, .mov (.t 89), none⟩,
        ⟨some 91, .faddr 0 (.t 1), some (90, true)⟩,
        ⟨some 92, .load false 1 (.t 91), some (90, true)⟩,
        ⟨some 93, .bin .eql (.t 92) (.k (.i .i64 6)), some (90, true)⟩,
        ⟨some 94, .pick (.t 90) (.t 93) (.k (.b false)), none⟩])
     (.cond (.t 94)
      (.reg [⟨some 95, .mov (.t 6), none⟩,
        ⟨some 96, .bin .add (.t 95) (.k (.s [32, 111, 114, 32])), none⟩,
        ⟨some 6, .mov (.t 96), none⟩])
      .skip))
    (.seq (.reg [⟨some 97, .load true 4 (.t 8), none⟩,
       ⟨some 98, .call true 68 [(.t 97)], none⟩,
       ⟨some 99, .mov (.t 98), none⟩,
       ⟨some 100, .faddr 0 (.t 1), some (99, true)⟩,
       ⟨some 101, .load false 1 (.t 100), some (99, true)⟩,
       ⟨some 102, .bin .eql (.t 101) (.k (.i .i64 5)), some (99, true)⟩,
       ⟨some 103, .mov (.t 102), some (99, true)⟩,
       ⟨some 104, .faddr 0 (.t 8), some (103, false)⟩,
       ⟨some 105, .load false 1 (.t 104), some (103, false)⟩,
       ⟨some 106, .bin .eql (.t 105) (.k (.i .i64 6)), some (103, false)⟩,
       ⟨some 107, .pick (.t 103) (.k (.b true)) (.t 106), some (99, true)⟩,
       ⟨some 108, .pick (.t 99) (.t 107) (.k (.b false)), none⟩])
    (.cond (.t 108)
     (.reg [⟨some 109, .mov (.t 6), none⟩,
       ⟨some 110, .bin .add (.t 109) (.k (.s [40])), none⟩,
       ⟨some 111, .load true 4 (.t 8), none⟩,
       ⟨some 112, .call true 40 [(.t 111)], none⟩,
       ⟨some 113, .bin .add (.t 110) (.t 112), none⟩,
       ⟨some 114, .bin .add (.t 113) (.k (.s [41])), none⟩,
       ⟨some 6, .mov (.t 114), none⟩])
     (.reg [⟨some 115, .mov (.t 6), none⟩,
       ⟨some 116, .load true 4 (.t 8), none⟩,
       ⟨some 117, .call true 40 [(.t 116)], none⟩,
       ⟨some 118, .bin .add (.t 115) (.t 117), none⟩,
       ⟨some 6, .mov (.t 118), none⟩])))))))
  (.reg [⟨some 119, .bin .add (.t 74) (.k (.i .i64 1)), none⟩,
    ⟨some 74, .mov (.t 119), none⟩]))))) k st Q := rfl
def K40_1 : List Fr := [.blk 1,
  .seq (.seq (.reg [⟨some 69, .mov (.t 3), none⟩,
       ⟨some 70, .bin .add (.t 69) (.k (.s [41])), none⟩,
       ⟨some 2, .mov (.t 70), none⟩])
    .ret),
  .seq (.seq (.reg [⟨some 6, .mov (.k (.s [])), none⟩])
    (.seq (.seq (.reg [⟨some 71, .faddr 3 (.t 1), none⟩,
        ⟨some 72, .load false 1 (.t 71), none⟩,
        ⟨some 73, .len .slice (.t 72), none⟩,
        ⟨some 74, .mov (.k (.i .i64 0)), none⟩])
     (.blk 3 (.loop L40_2)))
    (.seq (.reg [⟨some 120, .mov (.t 6), none⟩,
       ⟨some 2, .mov (.t 120), none⟩])
    .ret)))]
theorem U40_1 {xf : FuncId → List V → Option V} {kz : Nat → List Nat} {k : List Fr} {st : St} {Q : AEx → St → Prop} : M xf kz (.code L40_1) k st Q = M xf kz (.code (.seq (.reg [⟨some 61, .bin .lss (.t 60) (.t 59), none⟩])
  (.seq (.cond (.t 61)
    .skip
    (.exit 1))
  (.seq (.blk 2 (.seq (.reg [⟨some 62, .iaddr (.slice 4) (.t 58) (.t 60), none⟩,
       ⟨some 63, .load true 4 (.t 62), none⟩,
       ⟨some 5, .lalloc [(.i .i64 0), (.s []), (.s []), (.sl [] 0 .nil)] [5], none⟩,
       ⟨none, .store 4 (.t 5) (.t 63), none⟩])
    (.reg [⟨some 64, .mov (.t 3), none⟩,
      ⟨some 65, .load true 4 (.t 5), none⟩,
      ⟨some 66, .call true 40 [(.t 65)], none⟩,
      ⟨some 67, .bin .add (.t 64) (.t 66), none⟩,
      ⟨some 3, .mov (.t 67), none⟩])))
  (.reg [⟨some 68, .bin .add (.t 60) (.k (.i .i64 1)), none⟩,
    ⟨some 60, .mov (.t 68), none⟩]))))) k st Q := rfl
theorem U40 {xf : FuncId → List V → Option V} {kz : Nat → List Nat} {k : List Fr} {st : St} {Q : AEx → St → Prop} : M xf kz (.code B40) k st Q = M xf kz (.code (.seq (.reg [⟨some 1, .lbox (.t 0) [1, 9, 15, 21, 24, 32, 37, 44, 50, 54, 57, 71, 82, 91, 100], none⟩,
     ⟨some 2, .mov (.k (.s [])), none⟩])
  (.seq (.seq (.reg [⟨some 9, .faddr 0 (.t 1), none⟩,
      ⟨some 10, .load false 1 (.t 9), none⟩])
   (.blk 0 (.seq (.reg [⟨some 12, .bin .eql (.t 10) (.k (.i .i64 0)), none⟩,
       ⟨some 11, .mov (.t 12), none⟩])
    (.cond (.t 11)
     (.seq (.reg [⟨some 2, .mov (.k (.s [97, 108, 108])), none⟩])
     .ret)
     (.seq (.reg [⟨some 14, .bin .eql (.t 10) (.k (.i .i64 1)), none⟩,
        ⟨some 13, .mov (.t 14), none⟩])
     (.cond (.t 13)
      (.seq (.reg [⟨some 15, .faddr 2 (.t 1), none⟩,
         ⟨some 16, .load false 1 (.t 15), none⟩,
         ⟨some 17, .call true 13 [(.t 16)], none⟩,
         ⟨some 18, .bin .add (.k (.s [107, 101, 121, 32, 94, 32])) (.t 17), none⟩,
         ⟨some 2, .mov (.t 18), none⟩])
      .ret)
      (.seq (.reg [⟨some 20, .bin .eql (.t 10) (.k (.i .i64 2)), none⟩,
         ⟨some 19, .mov (.t 20), none⟩])
      (.cond (.t 19)
       (.seq (.reg [⟨some 21, .faddr 1 (.t 1), none⟩,
          ⟨some 22, .load false 1 (.t 21), none⟩,
          ⟨some 23, .bin .add (.t 22) (.k (.s [32, 61, 32])), none⟩,
          ⟨some 24, .faddr 2 (.t 1), none⟩,
          ⟨some 25, .load false 1 (.t 24), none⟩,
          ⟨some 26, .call true 13 [(.t 25)], none⟩,
          ⟨some 27, .bin .add (.t 23) (.t 26), none⟩,
          ⟨some 2, .mov (.t 27), none⟩])
       .ret)
       (.seq (.reg [⟨some 29, .bin .eql (.t 10) (.k (.i .i64 3)), none⟩,
          ⟨some 28, .mov (.t 29), none⟩])
       (.cond (.t 28)
        (.seq (.reg [⟨some 2, .mov (.k (.s [112, 117, 116])), none⟩])
        .ret)
        (.seq (.reg [⟨some 31, .bin .eql (.t 10) (.k (.i .i64 4)), none⟩,
           ⟨some 30, .mov (.t 31), none⟩])
        (.cond (.t 30)
         (.seq (.seq (.reg [⟨some 32, .faddr 3 (.t 1), none⟩,
             ⟨some 33, .load false 1 (.t 32), none⟩,
             ⟨some 34, .iaddr (.slice 4) (.t 33) (.k (.i .i64 0)), none⟩,
             ⟨some 35, .load true 4 (.t 34), none⟩,
             ⟨some 36, .call true 68 [(.t 35)], none⟩])
          (.cond (.t 36)
           (.seq (.reg [⟨some 37, .faddr 3 (.t 1), none⟩,
              ⟨some 38, .load false 1 (.t 37), none⟩,
              ⟨some 39, .iaddr (.slice 4) (.t 38) (.k (.i .i64 0)), none⟩,
              ⟨some 40, .load true 4 (.t 39), none⟩,
              ⟨some 41, .call true 40 [(.t 40)], none⟩,
              ⟨some 42, .bin .add (.k (.s [110, 111, 116, 32, 40])) (.t 41), none⟩,
              ⟨some 43, .bin .add (.t 42) (.k (.s [41])), none⟩,
              ⟨some 2, .mov (.t 43), none⟩])
           .ret)
           .skip))
         (.seq (.reg [⟨some 44, .faddr 3 (.t 1), none⟩,
            ⟨some 45, .load false 1 (.t 44), none⟩,
            ⟨some 46, .iaddr (.slice 4) (.t 45) (.k (.i .i64 0)), none⟩,
            ⟨some 47, .load true 4 (.t 46), none⟩,
            ⟨some 48, .call true 40 [(.t 47)], none⟩,
            ⟨some 49, .bin .add (.k (.s [110, 111, 116, 32])) (.t 48), none⟩,
            ⟨some 2, .mov (.t 49), none⟩])
         .ret))
         .skip))))))))))))
  (.seq (.seq (.reg [⟨some 50, .faddr 3 (.t 1), none⟩,
      ⟨some 51, .load false 1 (.t 50), none⟩,
      ⟨some 52, .len .slice (.t 51), none⟩,
      ⟨some 53, .bin .lss (.t 52) (.k (.i .i64 2)), none⟩])
   (.cond (.t 53)
    (.seq (.reg [⟨some 3, .mov (.k (.s [97, 110, 121, 40])), none⟩])
    (.seq (.seq (.reg [⟨some 54, .faddr 0 (.t 1), none⟩,
        ⟨some 55, .load false 1 (.t 54), none⟩,
        ⟨some 56, .bin .eql (.t 55) (.k (.i .i64 5)), none⟩])
     (.cond (.t 56)
      (.reg [⟨some 3, .mov (.k (.s [101, 97, 99, 104, 40])), none⟩])
      .skip))
    (.seq (.seq (.reg [⟨some 57, .faddr 3 (.t 1), none⟩,
        ⟨some 58, .load false 1 (.t 57), none⟩,
        ⟨some 59, .len .slice (.t 58), none⟩,
        ⟨some 60, .mov (.k (.i .i64 0)), none⟩])
     (.blk 1 (.loop L40_1)))
    (.seq (.reg [⟨some 69, .mov (.t 3), none⟩,
       ⟨some 70, .bin .add (.t 69) (.k (.s [41])), none⟩,
       ⟨some 2, .mov (.t 70), none⟩])
    .ret))))
    .skip))
  (.seq (.reg [⟨some 6, .mov (.k (.s [])), none⟩])
  (.seq (.seq (.reg [⟨some 71, .faddr 3 (.t 1), none⟩,
      ⟨some 72, .load false 1 (.t 71), none⟩,
      ⟨some 73, .len .slice (.t 72), none⟩,
      ⟨some 74, .mov (.k (.i .i64 0)), none⟩])
   (.blk 3 (.loop L40_2)))
  (.seq (.reg [⟨some 120, .mov (.t 6), none⟩,
     ⟨some 2, .mov (.t 120), none⟩])
  .ret))))))) k st Q := rfl
def kz40 (n : Nat) : List Nat := if n = 2 then [0, 2, 3, 4, 5, 7, 8, 9, 10, 11, 12, 13, 14, 15, 16, 17, 18, 19, 20, 21, 22, 23, 24, 25, 26, 27, 28, 29, 30, 31, 32, 33, 34, 35, 36, 37, 38, 39, 40, 41, 42, 43, 44, 45, 46, 47, 48, 49, 50, 51, 52, 53, 54, 55, 56, 57, 58, 59, 60, 61, 62, 63, 64, 65, 66, 67, 68, 69, 70, 71, 75, 76, 77, 78, 79, 80, 81, 82, 83, 84, 85, 86, 87, 88, 89, 90, 91, 92, 93, 94, 95, 96, 97, 98, 99, 100, 101, 102, 103, 104, 105, 106, 107, 108, 109, 110, 111, 112, 113, 114, 115, 116, 117, 118, 119, 120] else if n = 3 then [0, 1, 2, 4, 5, 6, 7, 8, 9, 10, 11, 12, 13, 14, 15, 16, 17, 18, 19, 20, 21, 22, 23, 24, 25, 26, 27, 28, 29, 30, 31, 32, 33, 34, 35, 36, 37, 38, 39, 40, 41, 42, 43, 44, 45, 46, 47, 48, 49, 50, 51, 52, 53, 54, 55, 56, 57, 61, 62, 63, 64, 65, 66, 67, 68, 69, 70, 71, 72, 73, 74, 75, 76, 77, 78, 79, 80, 81, 82, 83, 84, 85, 86, 87, 88, 89, 90, 91, 92, 93, 94, 95, 96, 97, 98, 99, 100, 101, 102, 103, 104, 105, 106, 107, 108, 109, 110, 111, 112, 113, 114, 115, 116, 117, 118, 119, 120] else []
section
variable {D : Nat}
set_option maxRecDepth 100000 in
theorem w_r1 (S : S_rtell D) (kids : List Fil) (ys : List V) (tk0 : Tk) (hy : KidsR kids ys) (d : Nat) (hk : ∀ (pre : List Fil) (f : Fil) (post : List Fil), kids = pre ++ f :: post → Fine f (d + 1)) (hD : 8 ≤ d + 1 + D) (li : List UInt8) (hli : li.length = 4 ∨ li.length = 5) (gl : Nat → List V)
    (hk1 : kids.length ≤ 1) (loc : List (Nat × List V)) :
    M X_rtell (kz40) (.code L40_1) (.loop L40_1 :: K40_1) ⟨gl, (.node (.node (.node (.node (.node (.node (.node .leaf .any .leaf) .any (.node .leaf .any .leaf)) .any (.node (.node .leaf .any .leaf) .any (.node .leaf .any .leaf))) .any (.node (.node (.node .leaf .any .leaf) .any (.node .leaf .any .leaf)) .any (.node (.node .leaf .any .leaf) .any (.node .leaf .any .leaf)))) (.s li) (.node (.node (.node (.node .leaf .any .leaf) .any (.node .leaf .any .leaf)) .any (.node (.node .leaf .any .leaf) .any (.node .leaf .any .leaf))) .any (.node (.node (.node .leaf .any .leaf) .any (.node .leaf .any .leaf)) .any (.node (.node .leaf .any .leaf) (.i .i64 (kids.length : Nat)) (.node .leaf .any .leaf))))) .any (.node (.node (.node (.node (.node .leaf .any .leaf) .any (.node .leaf .any .leaf)) .any (.node (.node .leaf .any .leaf) .any (.node .leaf .any .leaf))) .any (.node (.node (.node .leaf .any .leaf) .any (.node .leaf .any .leaf)) .any (.node (.node .leaf .any .leaf) .any (.node .leaf .any .leaf)))) .any (.node (.node (.node (.node .leaf .any .leaf) .any (.node .leaf .any .leaf)) .any (.node (.node .leaf .any .leaf) .any (.node .leaf .any .leaf))) .any (.node (.node (.node .leaf .any .leaf) .any (.node .leaf .any .leaf)) .any (.node (.node .leaf .any .leaf) .any (.node .leaf .any .leaf)))))) .any (.node (.node (.node (.node (.node (.node .leaf .any .leaf) .any (.node .leaf .any .leaf)) .any (.node (.node .leaf .any .leaf) .any (.node .leaf .any .leaf))) .any (.node (.node (.node .leaf .any .leaf) .any (.node .leaf .any .leaf)) .any (.node (.node .leaf .any .leaf) .any (.node .leaf .any .leaf)))) .any (.node (.node (.node (.node .leaf .any .leaf) .any (.node .leaf .any .leaf)) .any (.node (.node .leaf .any .leaf) .any (.node .leaf .any .leaf))) .any (.node (.node (.node .leaf .any .leaf) .any (.node .leaf .any .leaf)) .any (.node (.node .leaf .any .leaf) (.i .i64 0) (.node .leaf .any .leaf))))) .any (.node (.node (.node (.node (.node .leaf .any .leaf) .any (.node .leaf .any .leaf)) .any (.node (.node .leaf .any .leaf) .any (.node .leaf .any .leaf))) .any (.node (.node (.node .leaf .any .leaf) .any (.node .leaf .any .leaf)) .any (.node (.node .leaf .any .leaf) (.sl ys kids.length tk0) (.node .leaf .any .leaf)))) .any (.node (.node (.node (.node .leaf .any .leaf) .any (.node .leaf .any .leaf)) .any (.node (.node .leaf .any .leaf) .any (.node .leaf .any .leaf))) .any (.node (.node (.node .leaf .any .leaf) .any (.node .leaf .any .leaf)) .any (.node (.node .leaf .any .leaf) .any (.node .leaf .any .leaf))))))), [], loc, {}⟩
      (Fin [.tmp 2] (.s (li ++ Lib.join (tellL kids) [44, 32] ++ [41]))) := by
  match kids, hk1 with
  | [], _ =>
    have e1 : decide ((0 : Int) < 0) = false := by decide
    have g2 : li.length + 1 ≤ 4611686018427387904 := by omega
    rw [U40_1, tellL, Lib.join_nil]
    simp only [e1, g2, K40_1, List.append_nil, Int.cast_ofNat_Int, Int.natCast_zero, go_sem, ne_eq, not_false_eq_true, reduceIte, Nat.reduceMul, Nat.reduceAdd, Nat.reduceSub, Nat.reduceEqDiff, Nat.reduceLeDiff, Nat.reduceLT, List.take_succ_cons, List.take_zero, List.drop_succ_cons, List.cons_append]
  | [g], _ =>
    have hfi := hk [] g [] rfl
    obtain ⟨c, hc, ht⟩ := hy.split [] g [] rfl
    have y1 : X_rtell 40 [.agg c] = some (.s (tellF g)) := call_rtell S hc hfi hD
    have hlen := hfi.len
    have hyl := hy.len
    have e1 : decide ((0 : Int) < 1) = true := by decide
    have e2 : decide ((1 : Int) < 1) = false := by decide
    have w1 : wr .i64 ((0 : Int) + 1) = 1 := by decide
    rw [tellL, tellL, Lib.join_one]
    cases hc with | mk k1 nm1 tx1 kids1 xs1 n1 tk1 hn1 hx1 =>
    generalize tellF (.mk k1 nm1 tx1 kids1) = t at *
    have g1 : li.length + t.length ≤ 4611686018427387904 := by omega
    have g2 : li.length + t.length + 1 ≤ 4611686018427387904 := by omega
    have g3 : 4 ≤ ys.length := by simp only [List.length_cons, List.length_nil] at hyl; omega
    rw [U40_1]
    simp only [List.length_cons, List.length_nil, Nat.zero_add, Nat.zero_mul, Nat.one_mul, List.drop_zero] at hyl ht ⊢
    simp only [e1, hyl, g1, g3, rd_ip, ht, y1, w1, splice, Int.cast_ofNat_Int, go_sem, ne_eq, not_false_eq_true, reduceIte, Nat.reduceMul, Nat.reduceAdd, Nat.reduceSub, Nat.reduceEqDiff, Nat.reduceLeDiff, Nat.reduceLT, List.take_succ_cons, List.take_zero, List.drop_succ_cons, List.cons_append]
    rw [M_loop]
    rw [U40_1]
    simp only [kz40, K40_1, List.length_cons, List.length_nil, go_sem, ne_eq, not_false_eq_true, reduceIte, Nat.reduceMul, Nat.reduceAdd, Nat.reduceSub, Nat.reduceEqDiff, Nat.reduceLeDiff, Nat.reduceLT, List.take_succ_cons, List.take_zero, List.drop_succ_cons, List.cons_append]
    simp only [e2, g2, K40_1, List.length_append, List.length_cons, List.length_nil, Int.cast_ofNat_Int, go_sem, ne_eq, not_false_eq_true, reduceIte, Nat.reduceMul, Nat.reduceAdd, Nat.reduceSub, Nat.reduceEqDiff, Nat.reduceLeDiff, Nat.reduceLT, List.take_succ_cons, List.take_zero, List.drop_succ_cons, List.cons_append]
  | _ :: _ :: _, h => simp only [List.length_cons] at h; omega
set_option maxRecDepth 100000 in
set_option maxHeartbeats 1000000 in
theorem w_r2 (S : S_rtell D) (k : Int) (nm tx : List UInt8) (kids : List Fil) (ys : List V) (tk0 : Tk) (hy : KidsR kids ys) (d : Nat) (hfi : Fine (.mk k nm tx kids) d) (hD : 8 ≤ d + 1 + D) (hk : k = 5 ∨ k = 6) (gl : Nat → List V) :
    ∀ (post pre : List Fil) (s : List UInt8) (l8 : List (Nat × List V)), kids = pre ++ post → s = Lib.join (tellW pre (if k = 5 then 3 else 2)) (if k = 5 then [32, 97, 110, 100, 32] else [32, 111, 114, 32]) →
    M X_rtell (kz40) (.code L40_2) (.loop L40_2 :: K40_2) ⟨gl, (.node (.node (.node (.node (.node (.node (.node .leaf .any .leaf) .any (.node .leaf .any .leaf)) .any (.node (.node .leaf .any .leaf) .any (.node .leaf .any .leaf))) .any (.node (.node (.node .leaf .any .leaf) .any (.node .leaf .any .leaf)) .any (.node (.node .leaf .any .leaf) .any (.node .leaf .any .leaf)))) .any (.node (.node (.node (.node .leaf .any .leaf) .any (.node .leaf .any .leaf)) .any (.node (.node .leaf .any .leaf) .any (.node .leaf .any .leaf))) .any (.node (.node (.node .leaf .any .leaf) .any (.node .leaf .any .leaf)) .any (.node (.node .leaf .any .leaf) .any (.node .leaf .any .leaf))))) (.l 1 0) (.node (.node (.node (.node (.node .leaf .any .leaf) .any (.node .leaf .any .leaf)) .any (.node (.node .leaf .any .leaf) .any (.node .leaf .any .leaf))) .any (.node (.node (.node .leaf (.i .i64 (kids.length : Nat)) .leaf) .any (.node .leaf .any .leaf)) .any (.node (.node .leaf .any .leaf) .any (.node .leaf .any .leaf)))) .any (.node (.node (.node (.node .leaf .any .leaf) .any (.node .leaf .any .leaf)) .any (.node (.node .leaf .any .leaf) .any (.node .leaf .any .leaf))) .any (.node (.node (.node .leaf .any .leaf) .any (.node .leaf .any .leaf)) .any (.node (.node .leaf .any .leaf) .any (.node .leaf .any .leaf)))))) .any (.node (.node (.node (.node (.node (.node .leaf .any .leaf) .any (.node .leaf .any .leaf)) .any (.node (.node .leaf .any .leaf) .any (.node .leaf .any .leaf))) .any (.node (.node (.node .leaf (.sl ys kids.length tk0) .leaf) .any (.node .leaf .any .leaf)) .any (.node (.node .leaf .any .leaf) .any (.node .leaf .any .leaf)))) .any (.node (.node (.node (.node .leaf .any .leaf) .any (.node .leaf .any .leaf)) .any (.node (.node .leaf .any .leaf) .any (.node .leaf .any .leaf))) .any (.node (.node (.node .leaf .any .leaf) .any (.node .leaf .any .leaf)) .any (.node (.node .leaf .any .leaf) .any (.node .leaf .any .leaf))))) .any (.node (.node (.node (.node (.node .leaf .any .leaf) .any (.node .leaf .any .leaf)) .any (.node (.node .leaf .any .leaf) .any (.node .leaf .any .leaf))) .any (.node (.node (.node .leaf (.i .i64 (pre.length : Nat)) .leaf) .any (.node .leaf .any .leaf)) .any (.node (.node .leaf .any .leaf) .any (.node .leaf .any .leaf)))) (.s s) (.node (.node (.node (.node .leaf .any .leaf) .any (.node .leaf .any .leaf)) .any (.node (.node .leaf .any .leaf) .any (.node .leaf .any .leaf))) .any (.node (.node (.node .leaf .any .leaf) .any (.node .leaf .any .leaf)) .any (.node (.node .leaf .any .leaf) .any (.node .leaf .any .leaf))))))), [], (1, [.i .i64 k, .s nm, .s tx, .sl ys kids.length tk0]) :: l8, {}⟩
      (Fin [.tmp 2] (.s (Lib.join (tellW kids (if k = 5 then 3 else 2)) (if k = 5 then [32, 97, 110, 100, 32] else [32, 111, 114, 32])))) := by
  obtain ⟨m1, m2, m3, m4, m5, m6, m7⟩ := hfi.may
  intro post
  induction post with
  | nil =>
    intro pre s l8 hk1 hs
    have hkl : kids.length = pre.length := by rw [hk1]; simp
    rw [List.append_nil] at hk1
    have e1 : decide ((pre.length : Int) < (kids.length : Int)) = false := decide_eq_false (by omega)
    rw [← hk1] at hs
    rw [U40_2, ← hs]
    simp only [e1, K40_2, go_sem, ne_eq, not_false_eq_true, reduceIte, Nat.reduceMul, Nat.reduceAdd, Nat.reduceSub, Nat.reduceEqDiff, Nat.reduceLeDiff, Nat.reduceLT, List.take_succ_cons, List.take_zero, List.drop_succ_cons, List.cons_append]
  | cons f post ih =>
    intro pre s l8 hk1 hs
    have hkl : kids.length = pre.length + post.length + 1 := by rw [hk1]; simp; omega
    have e1 : decide ((pre.length : Int) < (kids.length : Int)) = true := decide_eq_true (by omega)
    have g1 : pre.length < kids.length := by omega
    have hyl := hy.len
    have g2 : (pre.length + 1) * 4 ≤ kids.length * 4 := by omega
    obtain ⟨c, hc, ht⟩ := hy.split pre f post hk1
    have hff := hfi.kid pre f post hk1
    have hlen := hff.len
    have w2 : wr .i64 ((pre.length : Int) + 1) = ((pre.length + 1 : Nat) : Int) := by rw [wr64] <;> omega
    have y1 : X_rtell 40 [.agg c] = some (.s (tellF f)) := call_rtell S hc hff hD
    have hsl : s.length ≤ 1200000 := by
      have ho : okLs pre := okLs_app pre (f :: post) (hk1 ▸ m7)
      have hc : cnts kids = cnts pre + cnts (f :: post) := by rw [hk1, cnts_app]
      have := tellW_le pre (if k = 5 then 3 else 2) (if k = 5 then [32, 97, 110, 100, 32] else [32, 111, 114, 32]) (by split <;> simp) ho
      rw [← hs] at this
      omega
    have next := fun s l8 hs => ih (pre ++ [f]) s l8 (by rw [hk1]; simp) hs
    rw [tellW_app, tellW_one, join_snoc, ← hs] at next
    have hpe : (tellW pre (if k = 5 then 3 else 2) = []) ↔ pre = [] := by
      constructor
      · intro e; have := tellW_len (if k = 5 then 3 else 2) pre; rw [e] at this; exact List.eq_nil_of_length_eq_zero this.symm
      · intro e; rw [e, tellW]
    cases hc with | mk k1 nm1 tx1 kids1 xs1 n1 tk1 hn1 hx1 =>
    subst hn1
    obtain ⟨q1, q2, _⟩ := may_kind hff.may.1
    have y2 : X_rtell 68 [.agg [.i .i64 k1, .s nm1, .s tx1, .sl xs1 kids1.length tk1]] = some (.b (decide (4 < k1) && decide (1 < kids1.length))) := rfl
    have hb : bindF (.mk k1 nm1 tx1 kids1) = bindV k1 kids1.length := rfl
    have hwf : withinF (.mk k1 nm1 tx1 kids1) (if k = 5 then 3 else 2) = if (decide (4 < k1) && decide (1 < kids1.length)) = true ∧ (k = 5 ∨ k1 = 6) then [40] ++ tellF (.mk k1 nm1 tx1 kids1) ++ [41] else tellF (.mk k1 nm1 tx1 kids1) := by
      unfold withinF
      rw [hb]
      have hiff : bindV k1 kids1.length < (if k = 5 then 3 else 2) ↔ ((decide (4 < k1) && decide (1 < kids1.length)) = true ∧ (k = 5 ∨ k1 = 6)) := by
        simp only [Bool.and_eq_true, decide_eq_true_eq]
        by_cases h5 : k = 5
        · rw [if_pos h5, bind3 ⟨q1, q2⟩]
          constructor
          · intro h; exact ⟨h, .inl h5⟩
          · exact fun h => h.1
        · rw [if_neg h5, bind2]
          constructor
          · intro h; exact ⟨⟨by omega, h.2⟩, .inr h.1⟩
          · intro h; exact ⟨by omega, h.1.2⟩
      by_cases hcc : bindV k1 kids1.length < (if k = 5 then 3 else 2)
      · rw [if_pos hcc, if_pos (hiff.1 hcc)]
      · rw [if_neg hcc, if_neg (fun h => hcc (hiff.2 h))]
    rw [hwf] at next
    generalize tellF (.mk k1 nm1 tx1 kids1) = t at *
    have b1 : s.length + 5 ≤ 4611686018427387904 := by omega
    have b2 : s.length + 4 ≤ 4611686018427387904 := by omega
    have b3 : s.length + 5 + 1 ≤ 4611686018427387904 := by omega
    have b4 : s.length + 4 + 1 ≤ 4611686018427387904 := by omega
    have b5 : s.length + 5 + 1 + t.length ≤ 4611686018427387904 := by omega
    have b6 : s.length + 4 + 1 + t.length ≤ 4611686018427387904 := by omega
    have b7 : s.length + 5 + 1 + t.length + 1 ≤ 4611686018427387904 := by omega
    have b8 : s.length + 4 + 1 + t.length + 1 ≤ 4611686018427387904 := by omega
    have b9 : s.length + 5 + t.length ≤ 4611686018427387904 := by omega
    have b10 : s.length + 4 + t.length ≤ 4611686018427387904 := by omega
    have b11 : s.length + 1 ≤ 4611686018427387904 := by omega
    have b12 : s.length + 1 + t.length ≤ 4611686018427387904 := by omega
    have b13 : s.length + 1 + t.length + 1 ≤ 4611686018427387904 := by omega
    have b14 : s.length + t.length ≤ 4611686018427387904 := by omega
    rw [U40_2]
    by_cases hp : pre = []
    · rw [if_pos (hpe.2 hp)] at next
      have hs0 : s = [] := by rw [hs, hp, tellW]; rfl
      have e0 : decide ((0 : Int) < (pre.length : Int)) = false := decide_eq_false (by rw [hp]; simp)
      have a1 : 1 + t.length ≤ 4611686018427387904 := by omega
      have a2 : 1 + t.length + 1 ≤ 4611686018427387904 := by omega
      have a3 : t.length ≤ 4611686018427387904 := by omega
      have a4 : t.length + 1 ≤ 4611686018427387904 := by omega
      have a5 : t.length + 1 + 1 ≤ 4611686018427387904 := by omega
      subst hs0
      cases hsv : (decide (4 < k1) && decide (1 < kids1.length)) <;> rcases hk with rfl | rfl <;> by_cases d16 : k1 = 6 <;> rw [hsv] at y2 next <;> (first | (subst d16; have d16 : decide ((6 : Int) = 6) = true := by decide) | skip) <;>
        simp only [d16, show ¬ ((6 : Int) = 5) by decide, and_true, and_false, or_true, or_false, true_or, false_or, true_and, false_and, reduceIte, Bool.false_eq_true] at next <;>
        simp only [e0, e1, g1, hyl, g2, rd_ip, ht, w2, y1, y2, d16, show decide ((6 : Int) = 5) = false by decide, show decide ((5 : Int) = 5) = true by decide, show decide ((6 : Int) = 6) = true by decide, show decide ((5 : Int) = 6) = false by decide, decide_true, decide_false, a1, a2, a3, a4, a5, List.length_append, splice, Int.cast_ofNat_Int, go_sem, ne_eq, not_false_eq_true, reduceIte, Nat.reduceMul, Nat.reduceAdd, Nat.reduceSub, Nat.reduceEqDiff, Nat.reduceLeDiff, Nat.reduceLT, List.take_succ_cons, List.take_zero, List.drop_succ_cons, List.cons_append] <;> rw [M_loop] <;>
        simp only [kz40, K40_2, List.length_append, List.length_cons, List.length_nil, Nat.zero_add, go_sem, ne_eq, not_false_eq_true, reduceIte, Nat.reduceMul, Nat.reduceAdd, Nat.reduceSub, Nat.reduceEqDiff, Nat.reduceLeDiff, Nat.reduceLT, List.take_succ_cons, List.take_zero, List.drop_succ_cons, List.cons_append] at next ⊢ <;>
        exact next _ _ (by simp)
    · rw [if_neg (fun h => hp (hpe.1 h))] at next
      have e0 : decide ((0 : Int) < (pre.length : Int)) = true := decide_eq_true (by have := List.length_pos_iff.2 hp; omega)
      cases hsv : (decide (4 < k1) && decide (1 < kids1.length)) <;> rcases hk with rfl | rfl <;> by_cases d16 : k1 = 6 <;> rw [hsv] at y2 next <;> (first | (subst d16; have d16 : decide ((6 : Int) = 6) = true := by decide) | skip) <;>
        simp only [d16, and_true, and_false, or_true, or_false, true_or, false_or, true_and, false_and, reduceIte, Bool.false_eq_true, show ¬ ((6 : Int) = 5) by decide] at next <;>
        simp only [e0, e1, g1, hyl, g2, rd_ip, ht, w2, y1, y2, d16, show decide ((6 : Int) = 5) = false by decide, show decide ((5 : Int) = 5) = true by decide, show decide ((6 : Int) = 6) = true by decide, show decide ((5 : Int) = 6) = false by decide, decide_true, decide_false, b1, b2, b3, b4, b5, b6, b7, b8, b9, b10, b11, b12, b13, b14, List.length_append, List.length_cons, List.length_nil, Nat.zero_add, splice, Int.cast_ofNat_Int, go_sem, ne_eq, not_false_eq_true, reduceIte, Nat.reduceMul, Nat.reduceAdd, Nat.reduceSub, Nat.reduceEqDiff, Nat.reduceLeDiff, Nat.reduceLT, List.take_succ_cons, List.take_zero, List.drop_succ_cons, List.cons_append] <;> rw [M_loop] <;>
        simp only [kz40, K40_2, List.length_append, List.length_cons, List.length_nil, Nat.zero_add, go_sem, ne_eq, not_false_eq_true, reduceIte, Nat.reduceMul, Nat.reduceAdd, Nat.reduceSub, Nat.reduceEqDiff, Nat.reduceLeDiff, Nat.reduceLT, List.take_succ_cons, List.take_zero, List.drop_succ_cons, List.cons_append] at next ⊢ <;>
        exact next _ _ (by simp)
end
end Go.Proofs.YtbhclhgljnoioaaDoor
