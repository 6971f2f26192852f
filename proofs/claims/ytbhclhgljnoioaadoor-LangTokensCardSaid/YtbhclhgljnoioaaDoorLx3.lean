/- lang: hex, quoted. -/
import Derived.Test.YtbhclhgljnoioaaDoorLx2
set_option linter.unusedSimpArgs false
set_option linter.unusedVariables false
namespace Go.Proofs.YtbhclhgljnoioaaDoor
open Ai
def hexd (c : Nat) : Option Nat := if 48 ≤ c ∧ c ≤ 57 then some (c - 48) else if 97 ≤ c ∧ c ≤ 102 then some (c - 87) else none
def hexN (n : Nat) : List UInt8 → Option Nat
  | [] => some n
  | a :: r => match hexd a.toNat with
    | some d => hexN (16 * n + d) r
    | none => none
theorem hexd_lt {c d : Nat} (h : hexd c = some d) : d < 16 := by
  unfold hexd at h
  split at h
  · simp only [Option.some.injEq] at h; omega
  · split at h
    · simp only [Option.some.injEq] at h; omega
    · cases h
theorem hexd_hi {c : Nat} (h : 128 ≤ c) : hexd c = none := by
  unfold hexd
  rw [if_neg (by omega), if_neg (by omega)]
theorem shl4 {n : Nat} (h : n < 16777216) : shf true .i32 (n : Int) 4 = some (.i .i32 ((16 * n : Nat) : Int)) := by
  have e : wr .i32 ((n : Int) * 2 ^ 4) = ((16 * n : Nat) : Int) := by
    have : (n : Int) * 2 ^ 4 = ((16 * n : Nat) : Int) := by omega
    rw [this, wr32] <;> omega
  show some (V.i .i32 (wr .i32 ((n : Int) * 2 ^ 4))) = _
  rw [e]
theorem or16 {n d : Nat} (hn : n < 16777216) (hd : d < 16) : binI .or .i32 ((16 * n : Nat) : Int) (d : Int) = some (.i .i32 ((16 * n + d : Nat) : Int)) := by
  have e1 : ∀ x : Nat, x < 4294967296 → (BitVec.ofInt IntKind.i32.bits (x : Int)).toNat = x := by
    intro x hx
    show (BitVec.ofInt 32 (x : Int)).toNat = x
    rw [BitVec.toNat_ofInt]
    omega
  have e2 : (16 * n) ||| d = 16 * n + d := by
    have := Nat.two_pow_add_eq_or_of_lt (i := 4) (by simpa using hd) n
    rw [show 2 ^ 4 * n = 16 * n from by omega] at this
    exact this.symm
  show some (V.i .i32 (wr .i32 ((BitVec.ofInt IntKind.i32.bits ((16 * n : Nat) : Int) ||| BitVec.ofInt IntKind.i32.bits (d : Int)).toNat : Int))) = _
  rw [BitVec.toNat_or, e1 _ (by omega), e1 _ (by omega), e2, wr32] <;> omega
/-- A rune by its digits in braces, and how many bytes these have. -/
def hexV (s : List UInt8) : Nat × Nat :=
  if s.length < 3 ∨ s.head? ≠ some 123 ∨ Lib.indexByte s 125 < 2 ∨ 7 < Lib.indexByte s 125 then (0, 0) else
  match hexN 0 ((s.drop 1).take ((Lib.indexByte s 125).toNat - 1)) with
  | some n => if okB n then (n, (Lib.indexByte s 125).toNat + 1) else (0, 0)
  | none => (0, 0)
theorem index_le (l : List UInt8) (c : UInt8) : Lib.indexByte l c ≤ l.length ∧ (Lib.indexByte l c = l.length → l = [] ) := by
  induction l with
  | nil => simp [Lib.indexByte]
  | cons b r ih =>
    rw [Lib.indexByte]
    split
    · simp; omega
    · split
      · simp; omega
      · simp only [List.length_cons]; refine ⟨by omega, fun h => ?_⟩
        have h1 := ih.2 (by omega)
        subst h1
        rename_i h2
        simp [Lib.indexByte] at h2
theorem index_lt (l : List UInt8) (c : UInt8) (h : 0 ≤ Lib.indexByte l c) : Lib.indexByte l c < l.length := by
  obtain ⟨h1, h2⟩ := index_le l c
  rcases Int.lt_or_eq_of_le h1 with h3 | h3
  · exact h3
  · have := h2 h3; subst this; simp [Lib.indexByte] at h
def X_hex := xs [(93, indexV), (47, F_dig), (94, F_vr)]
theorem t_hex : Tells tabx told X_hex := tells_cons o_index (tells_cons o_dig (tells_cons o_vr tells_nil))
theorem hx_dig (c : Nat) : X_hex 47 [.i .i32 (c : Int)] = some (.b (digB c)) := rfl
theorem hx_vr (c : Nat) : X_hex 94 [.i .i32 (c : Int)] = some (.b (okB c)) := rfl
theorem hx_idx (s : List UInt8) : X_hex 93 [.s s, .i .u8 125] = some (.i .i64 (Lib.indexByte s 125)) := rfl
def K71_1 : List Fr := [.blk 0,
  .seq (.seq (.seq (.reg [⟨some 54, .mov (.t 5), none⟩,
        ⟨some 55, .call true 94 [(.t 54)], none⟩,
        ⟨some 56, .un .not (.t 55), none⟩])
     (.cond (.t 56)
      (.seq (.reg [⟨some 2, .mov (.k (.i .i32 0)), none⟩,
         ⟨some 3, .mov (.k (.i .i64 0)), none⟩])
      .ret)
      .skip))
    (.seq (.reg [⟨some 57, .mov (.t 5), none⟩,
       ⟨some 58, .mov (.t 4), none⟩,
       ⟨some 59, .bin .add (.t 58) (.k (.i .i64 1)), none⟩,
       ⟨some 2, .mov (.t 57), none⟩,
       ⟨some 3, .mov (.t 59), none⟩])
    .ret))]
theorem U71_1 {xf : FuncId → List V → Option V} {kz : Nat → List Nat} {k : List Fr} {st : St} {Q : AEx → St → Prop} : M xf kz (.code L71_1) k st Q = M xf kz (.code (.seq (.reg [⟨some 30, .next 29, none⟩,
     ⟨some 31, .ext (.t 30) 0, none⟩])
  (.seq (.cond (.t 31)
    .skip
    (.exit 0))
  (.blk 1 (.seq (.reg [⟨some 32, .ext (.t 30) 2, none⟩,
      ⟨some 7, .mov (.t 32), none⟩])
   (.blk 2 (.seq (.reg [⟨some 34, .mov (.t 7), none⟩,
       ⟨some 35, .call true 47 [(.t 34)], none⟩,
       ⟨some 33, .mov (.t 35), none⟩])
    (.cond (.t 33)
     (.reg [⟨some 36, .mov (.t 5), none⟩,
       ⟨some 37, .bin .shl (.t 36) (.k (.i .u64 4)), none⟩,
       ⟨some 38, .mov (.t 7), none⟩,
       ⟨some 39, .bin .sub (.t 38) (.k (.i .i32 48)), none⟩,
       ⟨some 40, .bin .or (.t 37) (.t 39), none⟩,
       ⟨some 5, .mov (.t 40), none⟩])
     (.seq (.reg [⟨some 42, .mov (.t 7), none⟩,
        ⟨some 43, .bin .geq (.t 42) (.k (.i .i32 97)), none⟩,
        ⟨some 44, .mov (.t 43), none⟩,
        ⟨some 45, .mov (.t 7), some (44, true)⟩,
        ⟨some 46, .bin .leq (.t 45) (.k (.i .i32 102)), some (44, true)⟩,
        ⟨some 47, .pick (.t 44) (.t 46) (.k (.b false)), none⟩,
        ⟨some 41, .mov (.t 47), none⟩])
     (.cond (.t 41)
      (.reg [⟨some 48, .mov (.t 5), none⟩,
        ⟨some 49, .bin .shl (.t 48) (.k (.i .u64 4)), none⟩,
        ⟨some 50, .mov (.t 7), none⟩,
        ⟨some 51, .bin .sub (.t 50) (.k (.i .i32 97)), none⟩,
        ⟨some 52, .bin .add (.t 51) (.k (.i .i32 10)), none⟩,
        ⟨some 53, .bin .or (.t 49) (.t 52), none⟩,
        ⟨some 5, .mov (.t 53), none⟩])
      (.seq (.reg [⟨some 2, .mov (.k (.i .i32 0)), none⟩,
         ⟨some 3, .mov (.k (.i .i64 0)), none⟩])
      .ret))))))))))) k st Q := rfl
theorem U71 {xf : FuncId → List V → Option V} {kz : Nat → List Nat} {k : List Fr} {st : St} {Q : AEx → St → Prop} : M xf kz (.code B71) k st Q = M xf kz (.code (.seq (.reg [⟨some 2, .mov (.k (.i .i32 0)), none⟩,
     ⟨some 3, .mov (.k (.i .i64 0)), none⟩])
  (.seq (.reg [⟨some 8, .mov (.t 0), none⟩,
     ⟨some 9, .call true 93 [(.t 8), (.k (.i .u8 125))], none⟩,
     ⟨some 4, .mov (.t 9), none⟩])
  (.seq (.seq (.reg [⟨some 10, .mov (.t 0), none⟩,
      ⟨some 11, .len .str (.t 10), none⟩,
      ⟨some 12, .bin .lss (.t 11) (.k (.i .i64 3)), none⟩,
      ⟨some 13, .mov (.t 12), none⟩,
      ⟨some 14, .mov (.t 0), some (13, false)⟩,
      ⟨some 15, .idx .str (.t 14) (.k (.i .i64 0)), some (13, false)⟩,
      ⟨some 16, .bin .neq (.t 15) (.k (.i .u8 123)), some (13, false)⟩,
      ⟨some 17, .pick (.t 13) (.k (.b true)) (.t 16), none⟩,
      ⟨some 18, .mov (.t 17), none⟩,
      ⟨some 19, .mov (.t 4), some (18, false)⟩,
      ⟨some 20, .bin .lss (.t 19) (.k (.i .i64 2)), some (18, false)⟩,
      ⟨some 21, .pick (.t 18) (.k (.b true)) (.t 20), none⟩,
      ⟨some 22, .mov (.t 21), none⟩,
      ⟨some 23, .mov (.t 4), some (22, false)⟩,
      ⟨some 24, .bin .gtr (.t 23) (.k (.i .i64 7)), some (22, false)⟩,
      ⟨some 25, .pick (.t 22) (.k (.b true)) (.t 24), none⟩])
   (.cond (.t 25)
    (.seq (.reg [⟨some 2, .mov (.k (.i .i32 0)), none⟩,
       ⟨some 3, .mov (.k (.i .i64 0)), none⟩])
    .ret)
    .skip))
  (.seq (.reg [⟨some 5, .mov (.k (.i .i32 0)), none⟩])
  (.seq (.seq (.reg [⟨some 26, .mov (.t 0), none⟩,
      ⟨some 27, .mov (.t 4), none⟩,
      ⟨some 28, .slc .str (.t 26) (some (.k (.i .i64 1))) (some (.t 27)) none, none⟩,
      ⟨some 29, .range (.t 28), none⟩])
   (.blk 0 (.loop L71_1)))
  (.seq (.seq (.reg [⟨some 54, .mov (.t 5), none⟩,
      ⟨some 55, .call true 94 [(.t 54)], none⟩,
      ⟨some 56, .un .not (.t 55), none⟩])
   (.cond (.t 56)
    (.seq (.reg [⟨some 2, .mov (.k (.i .i32 0)), none⟩,
       ⟨some 3, .mov (.k (.i .i64 0)), none⟩])
    .ret)
    .skip))
  (.seq (.reg [⟨some 57, .mov (.t 5), none⟩,
     ⟨some 58, .mov (.t 4), none⟩,
     ⟨some 59, .bin .add (.t 58) (.k (.i .i64 1)), none⟩,
     ⟨some 2, .mov (.t 57), none⟩,
     ⟨some 3, .mov (.t 59), none⟩])
  .ret)))))))) k st Q := rfl
def kz71 (_ : Nat) : List Nat := [0, 1, 2, 3, 6, 7, 8, 9, 10, 11, 12, 13, 14, 15, 16, 17, 18, 19, 20, 21, 22, 23, 24, 25, 26, 27, 28, 30, 31, 32, 33, 34, 35, 36, 37, 38, 39, 40, 41, 42, 43, 44, 45, 46, 47, 48, 49, 50, 51, 52, 53, 54, 55, 56, 57, 58, 59]
theorem w_hex_loop (e : Nat) (he : e ≤ 7) (gl : Nat → List V) : ∀ (l : List UInt8) (n pos : Nat), n < 16 ^ (6 - l.length) → l.length ≤ 6 →
    M X_hex (kz71) (.code L71_1) (.loop L71_1 :: K71_1) ⟨gl, (.node (.node (.node (.node (.node (.node .leaf .any .leaf) .any (.node .leaf .any .leaf)) .any (.node (.node .leaf .any .leaf) .any (.node .leaf .any .leaf))) .any (.node (.node (.node .leaf .any .leaf) .any (.node .leaf .any .leaf)) .any (.node (.node .leaf .any .leaf) .any (.node .leaf .any .leaf)))) .any (.node (.node (.node (.node .leaf .any .leaf) .any (.node .leaf .any .leaf)) .any (.node (.node .leaf .any .leaf) .any (.node .leaf .any .leaf))) (.i .i32 n) (.node (.node (.node .leaf .any .leaf) .any (.node .leaf .any .leaf)) .any (.node (.node .leaf .any .leaf) (.it) (.node .leaf .any .leaf))))) .any (.node (.node (.node (.node (.node .leaf .any .leaf) .any (.node .leaf .any .leaf)) .any (.node (.node .leaf .any .leaf) .any (.node .leaf .any .leaf))) (.i .i64 e) (.node (.node (.node .leaf .any .leaf) .any (.node .leaf .any .leaf)) .any (.node (.node .leaf .any .leaf) .any (.node .leaf .any .leaf)))) .any (.node (.node (.node (.node .leaf .any .leaf) .any (.node .leaf .any .leaf)) .any (.node (.node .leaf .any .leaf) .any (.node .leaf .any .leaf))) .any (.node (.node (.node .leaf .any .leaf) .any (.node .leaf .any .leaf)) .any (.node (.node .leaf .any .leaf) .any (.node .leaf .any .leaf)))))), [(29, (l, pos))], [], {}⟩
      (Fin [.tmp 2, .tmp 3] (match hexN n l with | some m => (bif okB m then .tup [.i .i32 m, .i .i64 ((e + 1 : Nat) : Int)] else .tup [.i .i32 0, .i .i64 0]) | none => .tup [.i .i32 0, .i .i64 0])) := by
  intro l
  induction l with
  | nil =>
    intro n pos hn hl
    rw [U71_1]
    have w : wr .i64 ((e : Int) + 1) = ((e + 1 : Nat) : Int) := by rw [wr64] <;> omega
    cases hk : okB n with
    | true => simp only [K71_1, hexN, hx_vr, hk, w, go_sem, ne_eq, not_false_eq_true, reduceIte, Nat.reduceMul, Nat.reduceAdd, Nat.reduceSub, Nat.reduceEqDiff, Nat.reduceLeDiff, Nat.reduceLT, List.take_succ_cons, List.take_zero, List.drop_succ_cons, List.cons_append]
    | false => simp only [K71_1, hexN, hx_vr, hk, w, go_sem, ne_eq, not_false_eq_true, reduceIte, Nat.reduceMul, Nat.reduceAdd, Nat.reduceSub, Nat.reduceEqDiff, Nat.reduceLeDiff, Nat.reduceLT, List.take_succ_cons, List.take_zero, List.drop_succ_cons, List.cons_append]
  | cons a r ih =>
    intro n pos hn hl
    have hlen : r.length ≤ 5 := by simpa using hl
    have hn' : n < 16 ^ (5 - r.length) := by simpa [Nat.succ_sub_succ] using hn
    have hn5 : n < 1048576 := Nat.lt_of_lt_of_le hn' (Nat.le_trans (Nat.pow_le_pow_right (by omega) (show 5 - r.length ≤ 5 by omega)) (by decide))
    rw [U71_1]
    generalize hc : dec (a :: r) = cw
    have hcw : hexd cw.1 = hexd a.toNat ∧ (∀ d, hexd a.toNat = some d → cw = (a.toNat, 1)) := by
      by_cases ha : a.toNat < 128
      · rw [← hc, dec_ascii ha]; exact ⟨rfl, fun _ _ => rfl⟩
      · have h1 := hexd_hi (dec_high (r := r) ha)
        have h2 := hexd_hi (Nat.le_of_not_lt ha)
        rw [← hc, h1, h2]
        exact ⟨rfl, fun _ h => by cases h⟩
    have g1 : decide ((97 : Int) ≤ (cw.1 : Int)) = decide (97 ≤ cw.1) := nz 97 cw.1
    have g2 : decide ((cw.1 : Int) ≤ (102 : Int)) = decide (cw.1 ≤ 102) := nz cw.1 102
    have sh := shl4 (n := n) (by omega)
    cases hd : hexd a.toNat with
    | none =>
      rw [hd] at hcw
      have h3 := hcw.1
      unfold hexd at h3
      have hg : digB cw.1 = false := by
        simp only [digB, Bool.and_eq_false_iff, decide_eq_false_iff_not]
        by_cases h : 48 ≤ cw.1 ∧ cw.1 ≤ 57
        · rw [if_pos h] at h3; cases h3
        · omega
      have hq : ¬ (97 ≤ cw.1 ∧ cw.1 ≤ 102) := by
        intro h
        rw [if_neg (by omega), if_pos h] at h3
        cases h3
      simp only [hexN, hd]
      cases q1 : decide (97 ≤ cw.1) with
      | false => simp only [hc, hx_dig, hg, g1, g2, q1, K71_1, go_sem, ne_eq, not_false_eq_true, reduceIte, Nat.reduceMul, Nat.reduceAdd, Nat.reduceSub, Nat.reduceEqDiff, Nat.reduceLeDiff, Nat.reduceLT, List.take_succ_cons, List.take_zero, List.drop_succ_cons, List.cons_append]
      | true =>
        have q2 : decide (cw.1 ≤ 102) = false := by simp only [decide_eq_true_eq, decide_eq_false_iff_not] at q1 ⊢; omega
        simp only [hc, hx_dig, hg, g1, g2, q1, q2, K71_1, go_sem, ne_eq, not_false_eq_true, reduceIte, Nat.reduceMul, Nat.reduceAdd, Nat.reduceSub, Nat.reduceEqDiff, Nat.reduceLeDiff, Nat.reduceLT, List.take_succ_cons, List.take_zero, List.drop_succ_cons, List.cons_append]
    | some d =>
      have hcw2 := hcw.2 d hd
      have hd16 := hexd_lt hd
      have hor := or16 (n := n) (d := d) (by omega) hd16
      have hn2 : 16 * n + d < 16 ^ (6 - r.length) := by
        rw [show 6 - r.length = (5 - r.length) + 1 from by omega, Nat.pow_succ]; omega
      have := ih (16 * n + d) (pos + 1) hn2 (by omega)
      simp only [hexN, hd]
      have ha : cw.1 = a.toNat := by rw [hcw2]
      have hw : cw.2 = 1 := by rw [hcw2]
      unfold hexd at hd
      split at hd
      · rename_i h
        simp only [Option.some.injEq] at hd
        have hg : digB cw.1 = true := by simp only [digB, Bool.and_eq_true, decide_eq_true_eq]; omega
        have s1 : wr .i32 ((cw.1 : Int) - 48) = (d : Int) := by rw [wr32] <;> omega
        simp only [hc, hw, hx_dig, hg, sh, s1, hor, go_sem, ne_eq, not_false_eq_true, reduceIte, Nat.reduceMul, Nat.reduceAdd, Nat.reduceSub, Nat.reduceEqDiff, Nat.reduceLeDiff, Nat.reduceLT, List.take_succ_cons, List.take_zero, List.drop_succ_cons, List.cons_append]
        rw [M_loop]
        simp only [kz71, K71_1, List.length_cons, List.length_nil, List.drop_succ_cons, List.drop_zero, go_sem, ne_eq, not_false_eq_true, reduceIte, Nat.reduceMul, Nat.reduceAdd, Nat.reduceSub, Nat.reduceEqDiff, Nat.reduceLeDiff, Nat.reduceLT, List.take_succ_cons, List.take_zero, List.drop_succ_cons, List.cons_append] at this ⊢
        exact this
      · split at hd
        · rename_i h0 h
          simp only [Option.some.injEq] at hd
          have hg : digB cw.1 = false := by simp only [digB, Bool.and_eq_false_iff, decide_eq_false_iff_not]; omega
          have q1 : decide (97 ≤ cw.1) = true := by simp only [decide_eq_true_eq]; omega
          have q2 : decide (cw.1 ≤ 102) = true := by simp only [decide_eq_true_eq]; omega
          have s1 : wr .i32 ((cw.1 : Int) - 97) = ((d - 10 : Nat) : Int) := by rw [wr32] <;> omega
          have s2 : wr .i32 (((d - 10 : Nat) : Int) + 10) = (d : Int) := by rw [wr32] <;> omega
          simp only [hc, hw, hx_dig, hg, g1, g2, q1, q2, sh, s1, s2, hor, go_sem, ne_eq, not_false_eq_true, reduceIte, Nat.reduceMul, Nat.reduceAdd, Nat.reduceSub, Nat.reduceEqDiff, Nat.reduceLeDiff, Nat.reduceLT, List.take_succ_cons, List.take_zero, List.drop_succ_cons, List.cons_append]
          rw [M_loop]
          simp only [kz71, K71_1, List.length_cons, List.length_nil, List.drop_succ_cons, List.drop_zero, go_sem, ne_eq, not_false_eq_true, reduceIte, Nat.reduceMul, Nat.reduceAdd, Nat.reduceSub, Nat.reduceEqDiff, Nat.reduceLeDiff, Nat.reduceLT, List.take_succ_cons, List.take_zero, List.drop_succ_cons, List.cons_append] at this ⊢
          exact this
        · cases hd
def pairV (p : Nat × Nat) : V := .tup [.i .i32 p.1, .i .i64 p.2]
theorem w_hex (s : List UInt8) (gl : Nat → List V) : M X_hex (kz71) (.code B71) [] (St.init gl 6 [.s s] {}) (Fin [.tmp 2, .tmp 3] (pairV (hexV s))) := by
  rw [U71]
  have e1 : decide ((s.length : Int) < 3) = decide (s.length < 3) := nl s.length 3
  cases q1 : decide (s.length < 3) with
  | true =>
    have : hexV s = (0, 0) := if_pos (.inl (by simpa using q1))
    simp only [hx_idx, e1, q1, this, pairV, go_sem, ne_eq, not_false_eq_true, reduceIte, Nat.reduceMul, Nat.reduceAdd, Nat.reduceSub, Nat.reduceEqDiff, Nat.reduceLeDiff, Nat.reduceLT, List.take_succ_cons, List.take_zero, List.drop_succ_cons, List.cons_append]
    rfl
  | false =>
    have h3 : ¬ s.length < 3 := by simpa using q1
    cases s with
    | nil => simp at h3
    | cons a r =>
      have e2 : (a :: r)[0]? = some a := rfl
      have e4 : decide (((r.length + 1 : Nat) : Int) < 3) = false := decide_eq_false (by simp only [List.length_cons] at h3; omega)
      have e3 : decide (((a.toNat : Nat) : Int) = 123) = decide (a = 123) := decide_eq_decide.2 ⟨fun h => UInt8.toNat_inj.1 (by show a.toNat = 123; omega), fun h => by rw [h]; rfl⟩
      cases q2 : decide (a = 123) with
      | false =>
        have : hexV (a :: r) = (0, 0) := if_pos (.inr (.inl (by simpa using q2)))
        simp only [hx_idx, e4, e3, List.getElem?_cons_zero, q2, this, pairV, Nat.zero_lt_succ, go_sem, ne_eq, not_false_eq_true, reduceIte, Nat.reduceMul, Nat.reduceAdd, Nat.reduceSub, Nat.reduceEqDiff, Nat.reduceLeDiff, Nat.reduceLT, List.take_succ_cons, List.take_zero, List.drop_succ_cons, List.cons_append]
        rfl
      | true =>
        have ha : a = 123 := by simpa using q2
        cases q3 : decide (Lib.indexByte (a :: r) 125 < 2) with
        | true =>
          have : hexV (a :: r) = (0, 0) := if_pos (.inr (.inr (.inl (by simpa using q3))))
          simp only [hx_idx, e4, e3, List.getElem?_cons_zero, q2, q3, this, pairV, Nat.zero_lt_succ, go_sem, ne_eq, not_false_eq_true, reduceIte, Nat.reduceMul, Nat.reduceAdd, Nat.reduceSub, Nat.reduceEqDiff, Nat.reduceLeDiff, Nat.reduceLT, List.take_succ_cons, List.take_zero, List.drop_succ_cons, List.cons_append]
          rfl
        | false =>
          cases q4 : decide ((7 : Int) < Lib.indexByte (a :: r) 125) with
          | true =>
            have : hexV (a :: r) = (0, 0) := if_pos (.inr (.inr (.inr (by simpa using q4))))
            simp only [hx_idx, e4, e3, List.getElem?_cons_zero, q2, q3, q4, this, pairV, Nat.zero_lt_succ, go_sem, ne_eq, not_false_eq_true, reduceIte, Nat.reduceMul, Nat.reduceAdd, Nat.reduceSub, Nat.reduceEqDiff, Nat.reduceLeDiff, Nat.reduceLT, List.take_succ_cons, List.take_zero, List.drop_succ_cons, List.cons_append]
            rfl
          | false =>
            have i1 : ¬ Lib.indexByte (a :: r) 125 < 2 := by simpa using q3
            have i2 : ¬ 7 < Lib.indexByte (a :: r) 125 := by simpa using q4
            have i3 := index_lt (a :: r) 125 (by omega)
            have hv : hexV (a :: r) = match hexN 0 (r.take ((Lib.indexByte (a :: r) 125).toNat - 1)) with
              | some n => if okB n then (n, (Lib.indexByte (a :: r) 125).toNat + 1) else (0, 0)
              | none => (0, 0) := if_neg (by
                rintro (h | h | h | h)
                · exact h3 h
                · exact h (by rw [ha]; rfl)
                · exact i1 h
                · exact i2 h)
            generalize hi : Lib.indexByte (a :: r) 125 = ix at *
            obtain ⟨e, rfl⟩ : ∃ e : Nat, ix = (e : Int) := ⟨ix.toNat, by omega⟩
            simp only [Int.toNat_natCast] at hv
            have b1 : 1 ≤ e := by omega
            have b2 : e ≤ r.length + 1 := by simp only [List.length_cons] at i3; omega
            simp only [hx_idx, hi, e4, e3, List.getElem?_cons_zero, q2, q3, q4, b1, b2, Nat.le_refl, Nat.zero_lt_succ, go_sem, ne_eq, not_false_eq_true, reduceIte, Nat.reduceMul, Nat.reduceAdd, Nat.reduceSub, Nat.reduceEqDiff, Nat.reduceLeDiff, Nat.reduceLT, List.take_succ_cons, List.take_zero, List.drop_succ_cons, List.cons_append]
            rw [M_loop]
            have hl : (r.take (e - 1)).length ≤ 6 := by simp only [List.length_take]; omega
            have := w_hex_loop e (by omega) gl (r.take (e - 1)) 0 0 (Nat.pow_pos (by omega)) hl
            rw [hv]
            have hfin : (match hexN 0 (r.take (e - 1)) with | some m => (bif okB m then V.tup [.i .i32 m, .i .i64 ((e + 1 : Nat) : Int)] else .tup [.i .i32 0, .i .i64 0]) | none => .tup [.i .i32 0, .i .i64 0]) =
              pairV (match hexN 0 (r.take (e - 1)) with | some n => if okB n then (n, e + 1) else (0, 0) | none => (0, 0)) := by
              cases hexN 0 (r.take (e - 1)) with
              | none => rfl
              | some m => cases h : okB m <;> simp [pairV, h]
            rw [hfin] at this
            simp only [kz71, K71_1, List.length_cons, List.length_nil, Int.natCast_zero, Int.cast_ofNat_Int, go_sem, ne_eq, not_false_eq_true, reduceIte, Nat.reduceMul, Nat.reduceAdd, Nat.reduceSub, Nat.reduceEqDiff, Nat.reduceLeDiff, Nat.reduceLT, List.take_succ_cons, List.take_zero, List.drop_succ_cons, List.cons_append] at this ⊢
            exact this
def F_lhex (a : List V) : Option V := match a with
  | [.s s] => some (pairV (hexV s))
  | _ => none
theorem o_lhex : ∀ a v, F_lhex a = some v → Comp tabx told 71 a v := fun a v e => by
  unfold F_lhex at e
  split at e
  · cases e; exact comp_of t_hex (fn := af71) rfl (Nat.le_of_ble_eq_true rfl) fun gl => w_hex _ gl
  · cases e
end Go.Proofs.YtbhclhgljnoioaaDoor
