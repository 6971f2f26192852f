/- lang: the text of a filter: walked, whole. -/
import Derived.Test.YtbhclhgljnoioaaDoorPg3
set_option linter.unusedSimpArgs false
set_option linter.unusedVariables false
namespace Go.Proofs.YtbhclhgljnoioaaDoor
open Ai Go.Shelf
theorem k_bsliceT {xf : FuncId → List V → Option V} {xh : FuncId → List V → H → Option (V × H)} (gl : Nat → List V) (T : T) (its : List (Nat × (List UInt8 × Nat))) (loc : List (Nat × List V)) (nx : Nat) (obs : List (Nat × Ai.Obj)) (nt : Nat) (tips : List (Nat × (Nat × TypeId))) (d : Nat) (ty : TypeId) (z : V) (x : Opd) :
    Hp.stepK xf xh ⟨gl, T, its, loc, ⟨nx, obs, nt, tips⟩⟩ d (.bslice true ty 1 1 [z] [(0, x)]) = (match (St.ev ⟨gl, T, its, loc, ⟨nx, obs, nt, tips⟩⟩ x).cells? with
      | some [v] => some (.hs nx 0 1 1, ⟨gl, T, its, loc, ⟨nx + 1, (nx, .cells ty [v]) :: obs, nt, tips⟩⟩)
      | _ => none) := by
  have e : Hp.stepK xf xh ⟨gl, T, its, loc, ⟨nx, obs, nt, tips⟩⟩ d (.bslice true ty 1 1 [z] [(0, x)]) = (match fill (zeros [z] 1) (evB ⟨gl, T, its, loc, ⟨nx, obs, nt, tips⟩⟩ 1 [(0, x)]) with
    | some cs => some (.hs nx 0 1 1, ⟨gl, T, its, loc, ⟨nx + 1, (nx, .cells ty cs) :: obs, nt, tips⟩⟩)
    | none => none) := rfl
  rw [e]
  simp only [evB, fill]
  cases (St.ev ⟨gl, T, its, loc, ⟨nx, obs, nt, tips⟩⟩ x).cells? with
  | none => rfl
  | some vs =>
    match vs with
    | [] => rfl
    | [v] => rfl
    | a :: b :: r =>
      simp only [List.length_cons]
      rw [nbne (show r.length + 1 + 1 ≠ 1 by omega)]
      rfl
noncomputable def X_tell := xs [(12, F_Quote), (65, F_within), (38, F_tell)]
theorem t_tell : Tells tabx told X_tell := tells_cons o_Quote (tells_cons pickP_tells (tells_cons pickP_tells tells_nil))
def Y_tell := ys [(66, H_Join)]
theorem u_tell : Hp.TellsI tabx told Y_tell := itells_cons i_Join itells_nil
def K38_2 : List Fr := [.blk 3,
  .seq (.seq (.reg [⟨some 78, .mov (.t 4), none⟩,
       ⟨some 79, .mov (.t 6), none⟩,
       ⟨some 80, .call false 66 [(.t 79), (.k (.s [44, 32]))], none⟩,
       ⟨some 81, .bin .add (.t 78) (.t 80), none⟩,
       ⟨some 82, .bin .add (.t 81) (.k (.s [41])), none⟩,
       ⟨some 2, .mov (.t 82), none⟩])
    .ret)]
theorem UH38_2 {xf : FuncId → List V → Option V} {xh : FuncId → List V → H → Option (V × H)} {kz : Nat → List Nat} {k : List Fr} {st : St} {Q : AEx → St → Prop} : Hp.M xf xh kz (.code L38_2) k st Q = Hp.M xf xh kz (.code (.seq (.reg [⟨some 68, .bin .lss (.t 67) (.t 66), none⟩])
  (.seq (.cond (.t 68)
    .skip
    (.exit 3))
  (.seq (.blk 4 (.seq (.reg [⟨some 69, .mov (.t 67), none⟩,
       ⟨some 70, .iaddr (.slice 4) (.t 65) (.t 67), none⟩,
       ⟨some 71, .load true 4 (.t 70), none⟩,
       ⟨some 10, .lalloc [(.i .i64 0), (.s []), (.s []), (.sl [] 0 .nil)] [10], none⟩,
       ⟨some 9, .mov (.t 69), none⟩,
       ⟨none, .store 4 (.t 10) (.t 71), none⟩])
    (.reg [⟨some 72, .mov (.t 6), none⟩,
      ⟨some 73, .mov (.t 9), none⟩,
      ⟨some 74, .load true 4 (.t 10), none⟩,
      ⟨some 75, .call true 38 [(.t 74)], none⟩,
      ⟨some 76, .iaddr (.slice 1) (.t 72) (.t 73), none⟩,
      ⟨none, .store 1 (.t 76) (.t 75), none⟩])))
  (.reg [⟨some 77, .bin .add (.t 67) (.k (.i .i64 1)), none⟩,
    ⟨some 67, .mov (.t 77), none⟩]))))) k st Q := rfl
def K38_1 : List Fr := [.blk 1,
  .seq (.seq (.seq (.reg [⟨some 58, .mov (.t 6), none⟩,
        ⟨some 59, .len .slice (.t 58), none⟩,
        ⟨some 60, .bin .gtr (.t 59) (.k (.i .i64 1)), none⟩])
     (.cond (.t 60)
      (.seq (.reg [⟨some 61, .mov (.t 6), none⟩,
         ⟨some 62, .mov (.t 3), none⟩,
         ⟨some 63, .call false 66 [(.t 61), (.t 62)], none⟩,
         ⟨some 2, .mov (.t 63), none⟩])
      .ret)
      .skip))
    (.seq (.seq (.reg [⟨some 64, .faddr 3 (.t 1), none⟩,
        ⟨some 65, .load false 1 (.t 64), none⟩,
        ⟨some 66, .len .slice (.t 65), none⟩,
        ⟨some 67, .mov (.k (.i .i64 0)), none⟩])
     (.blk 3 (.loop L38_2)))
    (.seq (.reg [⟨some 78, .mov (.t 4), none⟩,
       ⟨some 79, .mov (.t 6), none⟩,
       ⟨some 80, .call false 66 [(.t 79), (.k (.s [44, 32]))], none⟩,
       ⟨some 81, .bin .add (.t 78) (.t 80), none⟩,
       ⟨some 82, .bin .add (.t 81) (.k (.s [41])), none⟩,
       ⟨some 2, .mov (.t 82), none⟩])
    .ret)))]
theorem UH38_1 {xf : FuncId → List V → Option V} {xh : FuncId → List V → H → Option (V × H)} {kz : Nat → List Nat} {k : List Fr} {st : St} {Q : AEx → St → Prop} : Hp.M xf xh kz (.code L38_1) k st Q = Hp.M xf xh kz (.code (.seq (.reg [⟨some 47, .bin .lss (.t 46) (.t 45), none⟩])
  (.seq (.cond (.t 47)
    .skip
    (.exit 1))
  (.seq (.blk 2 (.seq (.reg [⟨some 48, .iaddr (.slice 4) (.t 44) (.t 46), none⟩,
       ⟨some 49, .load true 4 (.t 48), none⟩,
       ⟨some 8, .lalloc [(.i .i64 0), (.s []), (.s []), (.sl [] 0 .nil)] [8], none⟩,
       ⟨none, .store 4 (.t 8) (.t 49), none⟩])
    (.reg [⟨some 50, .mov (.t 6), none⟩,
      ⟨some 51, .load true 4 (.t 8), none⟩,
      ⟨some 52, .mov (.t 5), none⟩,
      ⟨some 53, .bin .add (.t 52) (.k (.i .i64 1)), none⟩,
      ⟨some 54, .call true 65 [(.t 51), (.t 53)], none⟩,
      ⟨some 55, .bslice true 9 1 1 [(.s [])] [(0, (.t 54))], none⟩,
      ⟨some 56, .appo 9 1 (.t 50) (.t 55), none⟩,
      ⟨some 6, .mov (.t 56), none⟩])))
  (.reg [⟨some 57, .bin .add (.t 46) (.k (.i .i64 1)), none⟩,
    ⟨some 46, .mov (.t 57), none⟩]))))) k st Q := rfl
theorem UH38 {xf : FuncId → List V → Option V} {xh : FuncId → List V → H → Option (V × H)} {kz : Nat → List Nat} {k : List Fr} {st : St} {Q : AEx → St → Prop} : Hp.M xf xh kz (.code B38) k st Q = Hp.M xf xh kz (.code (.seq (.reg [⟨some 1, .lbox (.t 0) [1, 11, 17, 23, 26, 34, 40, 43, 64], none⟩,
     ⟨some 2, .mov (.k (.s [])), none⟩])
  (.seq (.seq (.reg [⟨some 11, .faddr 0 (.t 1), none⟩,
      ⟨some 12, .load false 1 (.t 11), none⟩])
   (.blk 0 (.seq (.reg [⟨some 14, .bin .eql (.t 12) (.k (.i .i64 0)), none⟩,
       ⟨some 13, .mov (.t 14), none⟩])
    (.cond (.t 13)
     (.seq (.reg [⟨some 2, .mov (.k (.s [97, 108, 108])), none⟩])
     .ret)
     (.seq (.reg [⟨some 16, .bin .eql (.t 12) (.k (.i .i64 1)), none⟩,
        ⟨some 15, .mov (.t 16), none⟩])
     (.cond (.t 15)
      (.seq (.reg [⟨some 17, .faddr 2 (.t 1), none⟩,
         ⟨some 18, .load false 1 (.t 17), none⟩,
         ⟨some 19, .call true 12 [(.t 18)], none⟩,
         ⟨some 20, .bin .add (.k (.s [107, 101, 121, 32, 94, 32])) (.t 19), none⟩,
         ⟨some 2, .mov (.t 20), none⟩])
      .ret)
      (.seq (.reg [⟨some 22, .bin .eql (.t 12) (.k (.i .i64 2)), none⟩,
         ⟨some 21, .mov (.t 22), none⟩])
      (.cond (.t 21)
       (.seq (.reg [⟨some 23, .faddr 1 (.t 1), none⟩,
          ⟨some 24, .load false 1 (.t 23), none⟩,
          ⟨some 25, .bin .add (.t 24) (.k (.s [32, 61, 32])), none⟩,
          ⟨some 26, .faddr 2 (.t 1), none⟩,
          ⟨some 27, .load false 1 (.t 26), none⟩,
          ⟨some 28, .call true 12 [(.t 27)], none⟩,
          ⟨some 29, .bin .add (.t 25) (.t 28), none⟩,
          ⟨some 2, .mov (.t 29), none⟩])
       .ret)
       (.seq (.reg [⟨some 31, .bin .eql (.t 12) (.k (.i .i64 3)), none⟩,
          ⟨some 30, .mov (.t 31), none⟩])
       (.cond (.t 30)
        (.seq (.reg [⟨some 2, .mov (.k (.s [112, 117, 116])), none⟩])
        .ret)
        (.seq (.reg [⟨some 33, .bin .eql (.t 12) (.k (.i .i64 4)), none⟩,
           ⟨some 32, .mov (.t 33), none⟩])
        (.cond (.t 32)
         (.seq (.reg [⟨some 34, .faddr 3 (.t 1), none⟩,
            ⟨some 35, .load false 1 (.t 34), none⟩,
            ⟨some 36, .iaddr (.slice 4) (.t 35) (.k (.i .i64 0)), none⟩,
            ⟨some 37, .load true 4 (.t 36), none⟩,
            ⟨some 38, .call true 65 [(.t 37), (.k (.i .i64 3))], none⟩,
            ⟨some 39, .bin .add (.k (.s [110, 111, 116, 32])) (.t 38), none⟩,
            ⟨some 2, .mov (.t 39), none⟩])
         .ret)
         .skip))))))))))))
  (.seq (.reg [⟨some 3, .mov (.k (.s [32, 111, 114, 32])), none⟩,
     ⟨some 4, .mov (.k (.s [97, 110, 121, 40])), none⟩,
     ⟨some 5, .mov (.k (.i .i64 1)), none⟩])
  (.seq (.seq (.reg [⟨some 40, .faddr 0 (.t 1), none⟩,
      ⟨some 41, .load false 1 (.t 40), none⟩,
      ⟨some 42, .bin .eql (.t 41) (.k (.i .i64 5)), none⟩])
   (.cond (.t 42)
    (.reg [⟨some 3, .mov (.k (.s [32, 97, 110, 100, 32])), none⟩,
      ⟨some 4, .mov (.k (.s [101, 97, 99, 104, 40])), none⟩,
      ⟨some 5, .mov (.k (.i .i64 2)), none⟩])
    .skip))
  (.seq (.reg [⟨some 6, .mov (.k (.sl [] 0 .nil)), none⟩])
  (.seq (.seq (.reg [⟨some 43, .faddr 3 (.t 1), none⟩,
      ⟨some 44, .load false 1 (.t 43), none⟩,
      ⟨some 45, .len .slice (.t 44), none⟩,
      ⟨some 46, .mov (.k (.i .i64 0)), none⟩])
   (.blk 1 (.loop L38_1)))
  (.seq (.seq (.reg [⟨some 58, .mov (.t 6), none⟩,
      ⟨some 59, .len .slice (.t 58), none⟩,
      ⟨some 60, .bin .gtr (.t 59) (.k (.i .i64 1)), none⟩])
   (.cond (.t 60)
    (.seq (.reg [⟨some 61, .mov (.t 6), none⟩,
       ⟨some 62, .mov (.t 3), none⟩,
       ⟨some 63, .call false 66 [(.t 61), (.t 62)], none⟩,
       ⟨some 2, .mov (.t 63), none⟩])
    .ret)
    .skip))
  (.seq (.seq (.reg [⟨some 64, .faddr 3 (.t 1), none⟩,
      ⟨some 65, .load false 1 (.t 64), none⟩,
      ⟨some 66, .len .slice (.t 65), none⟩,
      ⟨some 67, .mov (.k (.i .i64 0)), none⟩])
   (.blk 3 (.loop L38_2)))
  (.seq (.reg [⟨some 78, .mov (.t 4), none⟩,
     ⟨some 79, .mov (.t 6), none⟩,
     ⟨some 80, .call false 66 [(.t 79), (.k (.s [44, 32]))], none⟩,
     ⟨some 81, .bin .add (.t 78) (.t 80), none⟩,
     ⟨some 82, .bin .add (.t 81) (.k (.s [41])), none⟩,
     ⟨some 2, .mov (.t 82), none⟩])
  .ret)))))))))) k st Q := rfl
def kz38 (_ : Nat) : List Nat := [0, 2, 7, 8, 9, 10, 11, 12, 13, 14, 15, 16, 17, 18, 19, 20, 21, 22, 23, 24, 25, 26, 27, 28, 29, 30, 31, 32, 33, 34, 35, 36, 37, 38, 39, 40, 41, 42, 43, 47, 48, 49, 50, 51, 52, 53, 54, 55, 56, 57, 58, 59, 60, 61, 62, 63, 64, 68, 69, 70, 71, 72, 73, 74, 75, 76, 77, 78, 79, 80, 81, 82]
theorem tellW_le (l : List Fil) (b : Nat) (sep : List UInt8) (hs : sep.length ≤ 5) (h : okLs l) : (Lib.join (tellW l b) sep).length ≤ 50000 * cnts l := Nat.le_trans (join_le _ _ 5 hs) (tellW_sum l b h)
theorem Y_JoinS (sep : List UInt8) (h : H) : Y_tell 66 [.sl [] 0 .nil, .s sep] h = some (.s [], h) := H_JoinS (l := []) (tk := .nil) sep h rfl (by decide) (Nat.zero_le _)
section
variable {D : Nat}
/-! The kids' texts, in parentheses where they must be. -/
set_option maxRecDepth 100000 in
theorem w_t2 (S : S_tell D) (kids : List Fil) (ys : List V) (tk0 : Tk) (hy : KidsR kids ys) (d : Nat) (hk : ∀ (pre : List Fil) (f : Fil) (post : List Fil), kids = pre ++ f :: post → Fine f (d + 1)) (hD : 8 ≤ d + 1 + D) (li : List UInt8) (hli : li.length = 4 ∨ li.length = 5) (gl : Nat → List V)
    (l : List (List UInt8)) (hl1 : l.length = kids.length) (hk1 : kids.length ≤ 1) (v : V) (h : H) (hb : LB h v l) (loc : List (Nat × List V)) (x1 x3 x5 x44 x45 x46 : V) :
    Hp.M X_tell Y_tell (kz38) (.code L38_2) (.loop L38_2 :: K38_2) ⟨gl, (.node (.node (.node (.node (.node (.node (.node .leaf .any .leaf) .any (.node .leaf .any .leaf)) .any (.node (.node .leaf .any .leaf) .any (.node .leaf .any .leaf))) .any (.node (.node (.node .leaf .any .leaf) .any (.node .leaf .any .leaf)) .any (.node (.node .leaf .any .leaf) .any (.node .leaf .any .leaf)))) (x3) (.node (.node (.node (.node .leaf (.i .i64 0) .leaf) .any (.node .leaf .any .leaf)) .any (.node (.node .leaf .any .leaf) .any (.node .leaf .any .leaf))) .any (.node (.node (.node .leaf .any .leaf) .any (.node .leaf .any .leaf)) .any (.node (.node .leaf .any .leaf) .any (.node .leaf .any .leaf))))) (x1) (.node (.node (.node (.node (.node .leaf (.sl ys kids.length tk0) .leaf) .any (.node .leaf .any .leaf)) .any (.node (.node .leaf .any .leaf) .any (.node .leaf .any .leaf))) .any (.node (.node (.node .leaf .any .leaf) .any (.node .leaf .any .leaf)) .any (.node (.node .leaf .any .leaf) .any (.node .leaf .any .leaf)))) (x5) (.node (.node (.node (.node .leaf .any .leaf) .any (.node .leaf .any .leaf)) .any (.node (.node .leaf .any .leaf) .any (.node .leaf .any .leaf))) .any (.node (.node (.node .leaf .any .leaf) (x45) (.node .leaf .any .leaf)) .any (.node (.node .leaf .any .leaf) .any (.node .leaf .any .leaf)))))) .any (.node (.node (.node (.node (.node (.node .leaf .any .leaf) .any (.node .leaf .any .leaf)) .any (.node (.node .leaf .any .leaf) .any (.node .leaf .any .leaf))) .any (.node (.node (.node .leaf .any .leaf) .any (.node .leaf .any .leaf)) .any (.node (.node .leaf .any .leaf) .any (.node .leaf .any .leaf)))) (.s li) (.node (.node (.node (.node .leaf .any .leaf) .any (.node .leaf .any .leaf)) .any (.node (.node .leaf .any .leaf) .any (.node .leaf .any .leaf))) .any (.node (.node (.node .leaf .any .leaf) (x44) (.node .leaf .any .leaf)) .any (.node (.node .leaf .any .leaf) .any (.node .leaf .any .leaf))))) .any (.node (.node (.node (.node (.node .leaf (.i .i64 (kids.length : Nat)) .leaf) .any (.node .leaf .any .leaf)) .any (.node (.node .leaf .any .leaf) .any (.node .leaf .any .leaf))) .any (.node (.node (.node .leaf .any .leaf) .any (.node .leaf .any .leaf)) .any (.node (.node .leaf .any .leaf) .any (.node .leaf .any .leaf)))) (v) (.node (.node (.node (.node .leaf .any .leaf) .any (.node .leaf .any .leaf)) .any (.node (.node .leaf .any .leaf) .any (.node .leaf .any .leaf))) .any (.node (.node (.node .leaf .any .leaf) (x46) (.node .leaf .any .leaf)) .any (.node (.node .leaf .any .leaf) .any (.node .leaf .any .leaf))))))), [], loc, h⟩
      (Fin [.tmp 2] (.s (li ++ Lib.join (tellL kids) [44, 32] ++ [41]))) := by
  match kids, hl1, hk1 with
  | [], hl1, _ =>
    obtain rfl : l = [] := List.eq_nil_of_length_eq_zero (by simpa using hl1)
    rcases hb with ⟨_, rfl⟩ | ⟨hne, _⟩
    · have e1 : decide ((0 : Int) < 0) = false := by decide
      have yj := Y_JoinS [44, 32] h
      have g1 : li.length ≤ 4611686018427387904 := by omega
      have g2 : li.length + 1 ≤ 4611686018427387904 := by omega
      rw [UH38_2, tellL, Lib.join_nil]
      simp only [e1, yj, g1, g2, K38_2, List.length_append, List.append_nil, Nat.add_zero, Int.cast_ofNat_Int, go_sem, ne_eq, not_false_eq_true, reduceIte, Nat.reduceMul, Nat.reduceAdd, Nat.reduceSub, Nat.reduceEqDiff, Nat.reduceLeDiff, Nat.reduceLT, List.take_succ_cons, List.take_zero, List.drop_succ_cons, List.cons_append]
    · exact absurd rfl hne
  | [g], hl1, _ =>
    obtain ⟨x, rfl⟩ : ∃ x, l = [x] := by
      match l, (show l.length = 1 by simpa using hl1) with
      | [x], _ => exact ⟨x, rfl⟩
    rcases hb with ⟨hne, _⟩ | ⟨_, id, rfl, hid, ho⟩
    · cases hne
    · obtain ⟨nx, obs, nt, tips⟩ := h
      simp only [List.map_cons, List.map_nil] at ho
      have hfi := hk [] g [] rfl
      obtain ⟨c, hc, ht⟩ := hy.split [] g [] rfl
      have y1 : X_tell 38 [.agg c] = some (.s (tellF g)) := call_tell S hc hfi hD
      have hlen := hfi.len
      have hyl := hy.len
      have e1 : decide ((0 : Int) < 1) = true := by decide
      have e2 : decide ((1 : Int) < 1) = false := by decide
      have w1 : wr .i64 ((0 : Int) + 1) = 1 := by decide
      rw [tellL, tellL, Lib.join_one]
      cases hc with | mk k1 nm1 tx1 kids1 xs1 n1 tk1 hn1 hx1 =>
      generalize tellF (.mk k1 nm1 tx1 kids1) = t at *
      have yj : Y_tell 66 [.hs id 0 1 1, .s [44, 32]] ⟨nx, alSet obs id (.cells 9 [.s t]), nt, tips⟩ = some (.s t, ⟨nx, alSet obs id (.cells 9 [.s t]), nt, tips⟩) := by
        have := H_JoinH (h := ⟨nx, alSet obs id (.cells 9 [.s t]), nt, tips⟩) (id := id) (n := 1) (ty := 9) (l := [t]) [44, 32] (al_alSet _ _ _) rfl (by decide) (by rw [Lib.join_one]; omega)
        rw [Lib.join_one] at this
        exact this
      have g1 : li.length + t.length ≤ 4611686018427387904 := by omega
      have g2 : li.length + t.length + 1 ≤ 4611686018427387904 := by omega
      have g3 : 4 ≤ ys.length := by simp only [List.length_cons, List.length_nil] at hyl; omega
      rw [UH38_2]
      simp only [List.length_cons, List.length_nil, Nat.zero_add, Nat.zero_mul, Nat.one_mul, List.drop_zero] at hyl ht ⊢
      simp only [e1, hyl, g3, rd_ip, ht, y1, ho, w1, splice, Int.cast_ofNat_Int, go_sem, ne_eq, not_false_eq_true, reduceIte, Nat.reduceMul, Nat.reduceAdd, Nat.reduceSub, Nat.reduceEqDiff, Nat.reduceLeDiff, Nat.reduceLT, List.take_succ_cons, List.take_zero, List.drop_succ_cons, List.cons_append]
      rw [Hp.M_loop]
      rw [UH38_2]
      simp only [kz38, K38_2, List.length_cons, List.length_nil, go_sem, ne_eq, not_false_eq_true, reduceIte, Nat.reduceMul, Nat.reduceAdd, Nat.reduceSub, Nat.reduceEqDiff, Nat.reduceLeDiff, Nat.reduceLT, List.take_succ_cons, List.take_zero, List.drop_succ_cons, List.cons_append]
      simp only [e2, yj, g1, g2, K38_2, List.length_append, List.length_cons, List.length_nil, Int.cast_ofNat_Int, go_sem, ne_eq, not_false_eq_true, reduceIte, Nat.reduceMul, Nat.reduceAdd, Nat.reduceSub, Nat.reduceEqDiff, Nat.reduceLeDiff, Nat.reduceLT, List.take_succ_cons, List.take_zero, List.drop_succ_cons, List.cons_append]
  | _ :: _ :: _, _, h => simp only [List.length_cons] at h; omega
end
end Go.Proofs.YtbhclhgljnoioaaDoor
