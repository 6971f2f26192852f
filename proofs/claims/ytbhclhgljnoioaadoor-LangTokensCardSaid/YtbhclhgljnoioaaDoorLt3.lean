/- ref08: the text in quotes. -/
import Derived.Test.YtbhclhgljnoioaaDoorLt2
set_option linter.unusedSimpArgs false
set_option linter.unusedVariables false
namespace Go.Proofs.YtbhclhgljnoioaaDoor
open Ai
theorem dec_efbfbd (t : List UInt8) : dec (239 :: 191 :: 189 :: t) = (65533, 3) := by
  unfold dec
  simp
  decide
set_option maxRecDepth 100000 in
theorem dec_fffd (l : List UInt8) (h : (dec l).1 = 65533) (hne : (dec l).2 ≠ 1) : ∃ t, l = 239 :: 191 :: 189 :: t := by
  cases l with
  | nil => simp [dec] at h
  | cons a r =>
    unfold dec at h hne
    simp only [List.getD_cons_zero, Bool.and_eq_true, beq_iff_eq, decide_eq_true_eq] at h hne
    by_cases c1 : a.toNat < 128
    · rw [if_pos c1] at h; simp only at h; omega
    · rw [if_neg c1] at h hne
      split at h
      · rename_i c2
        rw [if_pos c2] at hne
        split at h
        · simp only at h; omega
        · rename_i c3; rw [if_neg c3] at hne; exact absurd rfl hne
      · rename_i c2
        rw [if_neg c2] at hne
        split at h
        · rename_i c3
          rw [if_pos c3] at hne
          split at h
          · simp only at h
            obtain ⟨⟨k1, k2, k3⟩, k4, k5⟩ := c3
            cases r with
            | nil => simp at k2
            | cons b r =>
              cases r with
              | nil => simp at k4
              | cons c t =>
                simp only [List.getD_cons_succ, List.getD_cons_zero] at k3 k5 h
                have ha := a.toNat_lt
                have hb := b.toNat_lt
                have hc := c.toNat_lt
                clear hne c1 c2 k2 k4
                refine ⟨t, ?_⟩
                have e1 : a = 239 := UInt8.toNat_inj.1 (by show a.toNat = 239; omega)
                have e2 : b = 191 := UInt8.toNat_inj.1 (by show b.toNat = 191; omega)
                have e3 : c = 189 := UInt8.toNat_inj.1 (by show c.toNat = 189; omega)
                rw [e1, e2, e3]
          · rename_i c4; rw [if_neg c4] at hne; exact absurd rfl hne
        · rename_i c3
          rw [if_neg c3] at hne
          split at h
          · rename_i c4
            rw [if_pos c4] at hne
            split at h
            · rename_i c5; simp only at h; omega
            · rename_i c5; rw [if_neg c5] at hne; exact absurd rfl hne
          · rename_i c4; rw [if_neg c4] at hne; exact absurd rfl hne
def rqV (at_ : Nat) (o : Option (List UInt8 × Nat)) : V := match o with
  | some (x, k) => .tup [.s x, .i .i64 ((at_ + k : Nat) : Int)]
  | none => .tup [.s [], .i .i64 0]
def X_rqd := xs [(74, F_esc)]
theorem t_rqd : Tells tabx told X_rqd := tells_cons o_esc tells_nil
theorem rq_esc {s : List UInt8} {i : Nat} (h : s.length ≤ 1048576) (hi : i ≤ s.length) : X_rqd 74 [.s s, .i .i64 (i : Int)] = some (escR (escV (s.drop i)) i) := F_esc1 h hi
def K51_1 : List Fr := [.blk 0,
  .seq (.seq (.reg [⟨some 4, .mov (.k (.s [])), none⟩,
       ⟨some 5, .mov (.k (.i .i64 0)), none⟩])
    .ret)]
theorem U51_1 {xf : FuncId → List V → Option V} {kz : Nat → List Nat} {k : List Fr} {st : St} {Q : AEx → St → Prop} : M xf kz (.code L51_1) k st Q = M xf kz (.code (.seq (.reg [⟨some 18, .next 17, none⟩,
     ⟨some 19, .ext (.t 18) 0, none⟩])
  (.seq (.cond (.t 19)
    .skip
    (.exit 0))
  (.blk 1 (.seq (.reg [⟨some 20, .ext (.t 18) 1, none⟩,
      ⟨some 21, .ext (.t 18) 2, none⟩,
      ⟨some 8, .mov (.t 20), none⟩,
      ⟨some 9, .mov (.t 21), none⟩])
   (.seq (.reg [⟨some 22, .mov (.t 1), none⟩,
      ⟨some 23, .bin .add (.t 22) (.k (.i .i64 1)), none⟩,
      ⟨some 24, .mov (.t 8), none⟩,
      ⟨some 25, .bin .add (.t 23) (.t 24), none⟩,
      ⟨some 10, .mov (.t 25), none⟩])
   (.seq (.seq (.reg [⟨some 26, .mov (.t 10), none⟩,
       ⟨some 27, .mov (.t 7), none⟩,
       ⟨some 28, .bin .lss (.t 26) (.t 27), none⟩])
    (.cond (.t 28)
     (.exit 1)
     .skip))
   (.seq (.seq (.reg [⟨some 29, .mov (.t 9), none⟩,
       ⟨some 30, .bin .eql (.t 29) (.k (.i .i32 34)), none⟩])
    (.cond (.t 30)
     (.seq (.reg [⟨some 31, .mov (.t 6), none⟩,
        ⟨some 32, .mov (.t 10), none⟩,
        ⟨some 33, .bin .add (.t 32) (.k (.i .i64 1)), none⟩,
        ⟨some 4, .mov (.t 31), none⟩,
        ⟨some 5, .mov (.t 33), none⟩])
     .ret)
     .skip))
   (.seq (.seq (.reg [⟨some 34, .mov (.t 9), none⟩,
       ⟨some 35, .bin .eql (.t 34) (.k (.i .i32 65533)), none⟩,
       ⟨some 36, .mov (.t 35), none⟩,
       ⟨some 37, .mov (.t 10), some (36, true)⟩,
       ⟨some 38, .bin .add (.t 37) (.k (.i .i64 3)), some (36, true)⟩,
       ⟨some 39, .mov (.t 0), some (36, true)⟩,
       ⟨some 40, .len .str (.t 39), some (36, true)⟩,
       ⟨some 41, .bin .gtr (.t 38) (.t 40), some (36, true)⟩,
       ⟨some 42, .mov (.t 41), some (36, true)⟩,
       ⟨some 43, .mov (.t 0), some (42, false)⟩,
       ⟨some 44, .mov (.t 10), some (42, false)⟩,
       ⟨some 45, .mov (.t 10), some (42, false)⟩,
       ⟨some 46, .bin .add (.t 45) (.k (.i .i64 3)), some (42, false)⟩,
       ⟨some 47, .slc .str (.t 43) (some (.t 44)) (some (.t 46)) none, some (42, false)⟩,
       ⟨some 48, .bin .neq (.t 47) (.k (.s [239, 191, 189])), some (42, false)⟩,
       ⟨some 49, .pick (.t 42) (.k (.b true)) (.t 48), some (36, true)⟩,
       ⟨some 50, .pick (.t 36) (.t 49) (.k (.b false)), none⟩])
    (.cond (.t 50)
     (.seq (.reg [⟨some 4, .mov (.k (.s [])), none⟩,
        ⟨some 5, .mov (.k (.i .i64 0)), none⟩])
     .ret)
     .skip))
   (.seq (.seq (.reg [⟨some 51, .mov (.t 9), none⟩,
       ⟨some 52, .bin .neq (.t 51) (.k (.i .i32 92)), none⟩])
    (.cond (.t 52)
     (.seq (.reg [⟨some 53, .mov (.t 6), none⟩,
        ⟨some 54, .mov (.t 9), none⟩,
        ⟨some 55, .conv .rune (.t 54), none⟩,
        ⟨some 56, .bin .add (.t 53) (.t 55), none⟩,
        ⟨some 6, .mov (.t 56), none⟩])
     (.exit 1))
     .skip))
   (.seq (.seq (.reg [⟨some 57, .mov (.t 10), none⟩,
       ⟨some 58, .bin .add (.t 57) (.k (.i .i64 1)), none⟩,
       ⟨some 59, .mov (.t 0), none⟩,
       ⟨some 60, .len .str (.t 59), none⟩,
       ⟨some 61, .bin .geq (.t 58) (.t 60), none⟩])
    (.cond (.t 61)
     (.seq (.reg [⟨some 4, .mov (.k (.s [])), none⟩,
        ⟨some 5, .mov (.k (.i .i64 0)), none⟩])
     .ret)
     .skip))
   (.seq (.reg [⟨some 62, .mov (.t 0), none⟩,
      ⟨some 63, .mov (.t 10), none⟩,
      ⟨some 64, .bin .add (.t 63) (.k (.i .i64 1)), none⟩,
      ⟨some 65, .idx .str (.t 62) (.t 64), none⟩])
   (.blk 2 (.seq (.seq (.reg [⟨some 67, .bin .eql (.t 65) (.k (.i .u8 34)), none⟩,
        ⟨some 66, .mov (.t 67), none⟩])
     (.cond (.t 66)
      .skip
      (.reg [⟨some 68, .bin .eql (.t 65) (.k (.i .u8 92)), none⟩,
        ⟨some 66, .mov (.t 68), none⟩])))
    (.cond (.t 66)
     (.seq (.reg [⟨some 69, .mov (.t 6), none⟩,
        ⟨some 70, .mov (.t 0), none⟩,
        ⟨some 71, .mov (.t 10), none⟩,
        ⟨some 72, .bin .add (.t 71) (.k (.i .i64 1)), none⟩,
        ⟨some 73, .mov (.t 10), none⟩,
        ⟨some 74, .bin .add (.t 73) (.k (.i .i64 2)), none⟩,
        ⟨some 75, .slc .str (.t 70) (some (.t 72)) (some (.t 74)) none, none⟩,
        ⟨some 76, .bin .add (.t 69) (.t 75), none⟩,
        ⟨some 6, .mov (.t 76), none⟩])
     (.reg [⟨some 77, .mov (.t 10), none⟩,
       ⟨some 78, .bin .add (.t 77) (.k (.i .i64 2)), none⟩,
       ⟨some 7, .mov (.t 78), none⟩]))
     (.seq (.reg [⟨some 80, .bin .eql (.t 65) (.k (.i .u8 117)), none⟩,
        ⟨some 79, .mov (.t 80), none⟩])
     (.cond (.t 79)
      (.seq (.reg [⟨some 82, .mov (.t 0), none⟩,
         ⟨some 83, .mov (.t 10), none⟩,
         ⟨some 84, .bin .add (.t 83) (.k (.i .i64 2)), none⟩,
         ⟨some 85, .call true 74 [(.t 82), (.t 84)], none⟩,
         ⟨some 81, .mov (.t 85), none⟩,
         ⟨some 86, .ext (.t 81) 0, none⟩,
         ⟨some 87, .ext (.t 81) 1, none⟩,
         ⟨some 11, .mov (.t 86), none⟩,
         ⟨some 12, .mov (.t 87), none⟩])
      (.seq (.seq (.reg [⟨some 88, .mov (.t 11), none⟩,
          ⟨some 89, .bin .lss (.t 88) (.k (.i .i32 0)), none⟩])
       (.cond (.t 89)
        (.seq (.reg [⟨some 4, .mov (.k (.s [])), none⟩,
           ⟨some 5, .mov (.k (.i .i64 0)), none⟩])
        .ret)
        .skip))
      (.seq (.reg [⟨some 90, .mov (.t 6), none⟩,
         ⟨some 91, .mov (.t 11), none⟩,
         ⟨some 92, .conv .rune (.t 91), none⟩,
         ⟨some 93, .bin .add (.t 90) (.t 92), none⟩,
         ⟨some 6, .mov (.t 93), none⟩])
      (.reg [⟨some 94, .mov (.t 12), none⟩,
        ⟨some 7, .mov (.t 94), none⟩]))))
      (.seq (.reg [⟨some 4, .mov (.k (.s [])), none⟩,
         ⟨some 5, .mov (.k (.i .i64 0)), none⟩])
      .ret)))))))))))))))))) k st Q := rfl
theorem U51 {xf : FuncId → List V → Option V} {kz : Nat → List Nat} {k : List Fr} {st : St} {Q : AEx → St → Prop} : M xf kz (.code B51) k st Q = M xf kz (.code (.seq (.reg [⟨some 4, .mov (.k (.s [])), none⟩,
     ⟨some 5, .mov (.k (.i .i64 0)), none⟩])
  (.seq (.reg [⟨some 6, .mov (.k (.s [])), none⟩])
  (.seq (.reg [⟨some 7, .mov (.k (.i .i64 0)), none⟩])
  (.seq (.seq (.reg [⟨some 13, .mov (.t 0), none⟩,
      ⟨some 14, .mov (.t 1), none⟩,
      ⟨some 15, .bin .add (.t 14) (.k (.i .i64 1)), none⟩,
      ⟨some 16, .slc .str (.t 13) (some (.t 15)) none none, none⟩,
      ⟨some 17, .range (.t 16), none⟩])
   (.blk 0 (.loop L51_1)))
  (.seq (.reg [⟨some 4, .mov (.k (.s [])), none⟩,
     ⟨some 5, .mov (.k (.i .i64 0)), none⟩])
  .ret)))))) k st Q := rfl
def kz51 (_ : Nat) : List Nat := [2, 3, 4, 5, 8, 9, 10, 11, 12, 13, 14, 15, 16, 18, 19, 20, 21, 22, 23, 24, 25, 26, 27, 28, 29, 30, 31, 32, 33, 34, 35, 36, 37, 38, 39, 40, 41, 42, 43, 44, 45, 46, 47, 48, 49, 50, 51, 52, 53, 54, 55, 56, 57, 58, 59, 60, 61, 62, 63, 64, 65, 66, 67, 68, 69, 70, 71, 72, 73, 74, 75, 76, 77, 78, 79, 80, 81, 82, 83, 84, 85, 86, 87, 88, 89, 90, 91, 92, 93, 94]
/-- Runes ahead of where it goes on are left out. -/
theorem rq_skip (s : List UInt8) (hs : s.length ≤ 1048576) (at_ skip : Nat) (hk : skip ≤ s.length) (out : List UInt8) (gl : Nat → List V) (Q : AEx → St → Prop) : ∀ (pre l : List UInt8) (p : Nat), (∀ b ∈ pre, b.toNat < 128) → at_ + 1 + p + pre.length ≤ skip →
    M X_rqd (kz51) (.code L51_1) (.loop L51_1 :: K51_1) ⟨gl, (.node (.node (.node (.node (.node (.node (.node .leaf .any .leaf) .any (.node .leaf .any .leaf)) .any (.node (.node .leaf .any .leaf) .any (.node .leaf .any .leaf))) (.i .i64 skip) (.node (.node (.node .leaf .any .leaf) .any (.node .leaf .any .leaf)) .any (.node (.node .leaf .any .leaf) .any (.node .leaf .any .leaf)))) .any (.node (.node (.node (.node .leaf .any .leaf) .any (.node .leaf .any .leaf)) .any (.node (.node .leaf .any .leaf) .any (.node .leaf .any .leaf))) .any (.node (.node (.node .leaf .any .leaf) .any (.node .leaf .any .leaf)) .any (.node (.node .leaf .any .leaf) .any (.node .leaf .any .leaf))))) (.i .i64 at_) (.node (.node (.node (.node (.node .leaf .any .leaf) .any (.node .leaf .any .leaf)) (.it) (.node (.node .leaf .any .leaf) .any (.node .leaf .any .leaf))) .any (.node (.node (.node .leaf .any .leaf) .any (.node .leaf .any .leaf)) .any (.node (.node .leaf .any .leaf) .any (.node .leaf .any .leaf)))) .any (.node (.node (.node (.node .leaf .any .leaf) .any (.node .leaf .any .leaf)) .any (.node (.node .leaf .any .leaf) .any (.node .leaf .any .leaf))) .any (.node (.node (.node .leaf .any .leaf) .any (.node .leaf .any .leaf)) .any (.node (.node .leaf .any .leaf) .any (.node .leaf .any .leaf)))))) (.s s) (.node (.node (.node (.node (.node (.node .leaf .any .leaf) .any (.node .leaf .any .leaf)) .any (.node (.node .leaf .any .leaf) .any (.node .leaf .any .leaf))) .any (.node (.node (.node .leaf .any .leaf) .any (.node .leaf .any .leaf)) .any (.node (.node .leaf .any .leaf) .any (.node .leaf .any .leaf)))) .any (.node (.node (.node (.node .leaf .any .leaf) .any (.node .leaf .any .leaf)) .any (.node (.node .leaf .any .leaf) .any (.node .leaf .any .leaf))) .any (.node (.node (.node .leaf .any .leaf) .any (.node .leaf .any .leaf)) .any (.node (.node .leaf .any .leaf) .any (.node .leaf .any .leaf))))) .any (.node (.node (.node (.node (.node .leaf .any .leaf) .any (.node .leaf .any .leaf)) .any (.node (.node .leaf .any .leaf) .any (.node .leaf .any .leaf))) .any (.node (.node (.node .leaf .any .leaf) .any (.node .leaf .any .leaf)) .any (.node (.node .leaf .any .leaf) .any (.node .leaf .any .leaf)))) (.s out) (.node (.node (.node (.node .leaf .any .leaf) .any (.node .leaf .any .leaf)) .any (.node (.node .leaf .any .leaf) .any (.node .leaf .any .leaf))) .any (.node (.node (.node .leaf .any .leaf) .any (.node .leaf .any .leaf)) .any (.node (.node .leaf .any .leaf) .any (.node .leaf .any .leaf))))))), [(17, (l, p + pre.length))], [], {}⟩ Q →
    M X_rqd (kz51) (.code L51_1) (.loop L51_1 :: K51_1) ⟨gl, (.node (.node (.node (.node (.node (.node (.node .leaf .any .leaf) .any (.node .leaf .any .leaf)) .any (.node (.node .leaf .any .leaf) .any (.node .leaf .any .leaf))) (.i .i64 skip) (.node (.node (.node .leaf .any .leaf) .any (.node .leaf .any .leaf)) .any (.node (.node .leaf .any .leaf) .any (.node .leaf .any .leaf)))) .any (.node (.node (.node (.node .leaf .any .leaf) .any (.node .leaf .any .leaf)) .any (.node (.node .leaf .any .leaf) .any (.node .leaf .any .leaf))) .any (.node (.node (.node .leaf .any .leaf) .any (.node .leaf .any .leaf)) .any (.node (.node .leaf .any .leaf) .any (.node .leaf .any .leaf))))) (.i .i64 at_) (.node (.node (.node (.node (.node .leaf .any .leaf) .any (.node .leaf .any .leaf)) (.it) (.node (.node .leaf .any .leaf) .any (.node .leaf .any .leaf))) .any (.node (.node (.node .leaf .any .leaf) .any (.node .leaf .any .leaf)) .any (.node (.node .leaf .any .leaf) .any (.node .leaf .any .leaf)))) .any (.node (.node (.node (.node .leaf .any .leaf) .any (.node .leaf .any .leaf)) .any (.node (.node .leaf .any .leaf) .any (.node .leaf .any .leaf))) .any (.node (.node (.node .leaf .any .leaf) .any (.node .leaf .any .leaf)) .any (.node (.node .leaf .any .leaf) .any (.node .leaf .any .leaf)))))) (.s s) (.node (.node (.node (.node (.node (.node .leaf .any .leaf) .any (.node .leaf .any .leaf)) .any (.node (.node .leaf .any .leaf) .any (.node .leaf .any .leaf))) .any (.node (.node (.node .leaf .any .leaf) .any (.node .leaf .any .leaf)) .any (.node (.node .leaf .any .leaf) .any (.node .leaf .any .leaf)))) .any (.node (.node (.node (.node .leaf .any .leaf) .any (.node .leaf .any .leaf)) .any (.node (.node .leaf .any .leaf) .any (.node .leaf .any .leaf))) .any (.node (.node (.node .leaf .any .leaf) .any (.node .leaf .any .leaf)) .any (.node (.node .leaf .any .leaf) .any (.node .leaf .any .leaf))))) .any (.node (.node (.node (.node (.node .leaf .any .leaf) .any (.node .leaf .any .leaf)) .any (.node (.node .leaf .any .leaf) .any (.node .leaf .any .leaf))) .any (.node (.node (.node .leaf .any .leaf) .any (.node .leaf .any .leaf)) .any (.node (.node .leaf .any .leaf) .any (.node .leaf .any .leaf)))) (.s out) (.node (.node (.node (.node .leaf .any .leaf) .any (.node .leaf .any .leaf)) .any (.node (.node .leaf .any .leaf) .any (.node .leaf .any .leaf))) .any (.node (.node (.node .leaf .any .leaf) .any (.node .leaf .any .leaf)) .any (.node (.node .leaf .any .leaf) .any (.node .leaf .any .leaf))))))), [(17, (pre ++ l, p))], [], {}⟩ Q := by
  intro pre
  induction pre with
  | nil => intro l p hb hl h; exact h
  | cons b r ih =>
    intro l p hb hl h
    simp only [List.length_cons] at hl
    have hdc := dec_ascii (hb b (by simp)) (r ++ l)
    have w1 : wr .i64 ((at_ : Int) + 1) = ((at_ + 1 : Nat) : Int) := by rw [wr64] <;> omega
    have w2 : wr .i64 (((at_ + 1 : Nat) : Int) + (p : Int)) = ((at_ + 1 + p : Nat) : Int) := by rw [wr64] <;> omega
    have e0 : decide (((at_ + 1 + p : Nat) : Int) < (skip : Int)) = true := decide_eq_true (by omega)
    have := ih l (p + 1) (fun x hx => hb x (by simp [hx])) (by omega) (by
      rw [show p + 1 + r.length = p + (b :: r).length from by simp only [List.length_cons]; omega]; exact h)
    rw [U51_1]
    simp only [hdc, w1, w2, e0, List.cons_append, go_sem, ne_eq, not_false_eq_true, reduceIte, Nat.reduceMul, Nat.reduceAdd, Nat.reduceSub, Nat.reduceEqDiff, Nat.reduceLeDiff, Nat.reduceLT, List.take_succ_cons, List.take_zero, List.drop_succ_cons, List.cons_append]
    rw [M_loop]
    simp only [kz51, K51_1, List.length_cons, List.length_nil, List.drop_succ_cons, List.drop_zero, go_sem, ne_eq, not_false_eq_true, reduceIte, Nat.reduceMul, Nat.reduceAdd, Nat.reduceSub, Nat.reduceEqDiff, Nat.reduceLeDiff, Nat.reduceLT, List.take_succ_cons, List.take_zero, List.drop_succ_cons, List.cons_append] at this ⊢
    exact this
/-- The digits in braces are no runes but bytes. -/
theorem hexN_low : ∀ (l : List UInt8) (n m : Nat), hexN n l = some m → ∀ b ∈ l, b.toNat < 128
  | [], _, _, _, b, hb => by cases hb
  | a :: r, n, m, h, b, hb => by
    rw [hexN] at h
    cases hx : hexd a.toNat with
    | none => rw [hx] at h; cases h
    | some d =>
      rw [hx] at h
      rcases List.mem_cons.1 hb with rfl | hb
      · by_cases q : b.toNat < 128
        · exact q
        · rw [hexd_hi (by omega)] at hx; cases hx
      · exact hexN_low r _ _ h b hb
theorem index_take : ∀ (l : List UInt8) (c : UInt8) (j : Nat), Lib.indexByte l c = (j : Int) → l.take (j + 1) = l.take j ++ [c]
  | [], c, j, h => by simp [Lib.indexByte] at h
  | a :: r, c, j, h => by
    rw [index_cons] at h
    by_cases q : a = c
    · rw [if_pos q] at h
      obtain rfl : j = 0 := by omega
      rw [q]; rfl
    · rw [if_neg q] at h
      rcases index_or r c with e | ⟨i, e⟩
      · rw [if_pos e] at h; exact absurd h (by omega)
      · rw [e, if_neg (by omega)] at h
        obtain rfl : j = i + 1 := by omega
        rw [List.take_succ_cons, List.take_succ_cons, index_take r c i e]; rfl
theorem hexV_low (t : List UInt8) (h : (hexV t).2 ≠ 0) : ∀ b ∈ t.take (hexV t).2, b.toNat < 128 := by
  unfold hexV at h ⊢
  by_cases hc : t.length < 3 ∨ t.head? ≠ some 123 ∨ Lib.indexByte t 125 < 2 ∨ 7 < Lib.indexByte t 125
  · rw [if_pos hc] at h; exact absurd rfl h
  · rw [if_neg hc] at h ⊢
    cases t with
    | nil => simp at hc
    | cons a r =>
      rcases index_or (a :: r) 125 with e | ⟨j, e⟩
      · rw [e] at hc; omega
      · rw [e] at h hc ⊢
        simp only [Int.toNat_natCast, List.drop_succ_cons, List.drop_zero] at h ⊢
        have ha : a = 123 := by
          by_cases q : a = 123
          · exact q
          · exact absurd (.inr (.inl (by simpa using q))) hc
        cases hm : hexN 0 (r.take (j - 1)) with
        | none => rw [hm] at h; exact absurd rfl h
        | some m =>
          rw [hm] at h
          simp only at h ⊢
          by_cases ho : okB m = true
          · rw [if_pos ho]
            intro b hb
            have hj : 2 ≤ j := by omega
            have ht := index_take (a :: r) 125 j e
            simp only at hb
            rw [ht, List.mem_append] at hb
            rcases hb with hb | hb
            · rw [show j = (j - 1) + 1 from by omega, List.take_succ_cons] at hb
              rcases List.mem_cons.1 hb with rfl | hb
              · rw [ha]; decide
              · exact hexN_low _ _ _ hm b hb
            · rw [List.mem_singleton] at hb; rw [hb]; decide
          · rw [if_neg ho] at h; exact absurd rfl h
theorem w_rq_loop (s : List UInt8) (hs : s.length ≤ 1048576) (at_ : Nat) (gl : Nat → List V) : ∀ (n : Nat) (l out : List UInt8) (p skip : Nat), l.length ≤ n → s.drop (at_ + 1 + p) = l → at_ + 1 + p ≤ s.length → skip ≤ at_ + 1 + p → out.length ≤ 4 * p →
    M X_rqd (kz51) (.code L51_1) (.loop L51_1 :: K51_1) ⟨gl, (.node (.node (.node (.node (.node (.node (.node .leaf .any .leaf) .any (.node .leaf .any .leaf)) .any (.node (.node .leaf .any .leaf) .any (.node .leaf .any .leaf))) (.i .i64 skip) (.node (.node (.node .leaf .any .leaf) .any (.node .leaf .any .leaf)) .any (.node (.node .leaf .any .leaf) .any (.node .leaf .any .leaf)))) .any (.node (.node (.node (.node .leaf .any .leaf) .any (.node .leaf .any .leaf)) .any (.node (.node .leaf .any .leaf) .any (.node .leaf .any .leaf))) .any (.node (.node (.node .leaf .any .leaf) .any (.node .leaf .any .leaf)) .any (.node (.node .leaf .any .leaf) .any (.node .leaf .any .leaf))))) (.i .i64 at_) (.node (.node (.node (.node (.node .leaf .any .leaf) .any (.node .leaf .any .leaf)) (.it) (.node (.node .leaf .any .leaf) .any (.node .leaf .any .leaf))) .any (.node (.node (.node .leaf .any .leaf) .any (.node .leaf .any .leaf)) .any (.node (.node .leaf .any .leaf) .any (.node .leaf .any .leaf)))) .any (.node (.node (.node (.node .leaf .any .leaf) .any (.node .leaf .any .leaf)) .any (.node (.node .leaf .any .leaf) .any (.node .leaf .any .leaf))) .any (.node (.node (.node .leaf .any .leaf) .any (.node .leaf .any .leaf)) .any (.node (.node .leaf .any .leaf) .any (.node .leaf .any .leaf)))))) (.s s) (.node (.node (.node (.node (.node (.node .leaf .any .leaf) .any (.node .leaf .any .leaf)) .any (.node (.node .leaf .any .leaf) .any (.node .leaf .any .leaf))) .any (.node (.node (.node .leaf .any .leaf) .any (.node .leaf .any .leaf)) .any (.node (.node .leaf .any .leaf) .any (.node .leaf .any .leaf)))) .any (.node (.node (.node (.node .leaf .any .leaf) .any (.node .leaf .any .leaf)) .any (.node (.node .leaf .any .leaf) .any (.node .leaf .any .leaf))) .any (.node (.node (.node .leaf .any .leaf) .any (.node .leaf .any .leaf)) .any (.node (.node .leaf .any .leaf) .any (.node .leaf .any .leaf))))) .any (.node (.node (.node (.node (.node .leaf .any .leaf) .any (.node .leaf .any .leaf)) .any (.node (.node .leaf .any .leaf) .any (.node .leaf .any .leaf))) .any (.node (.node (.node .leaf .any .leaf) .any (.node .leaf .any .leaf)) .any (.node (.node .leaf .any .leaf) .any (.node .leaf .any .leaf)))) (.s out) (.node (.node (.node (.node .leaf .any .leaf) .any (.node .leaf .any .leaf)) .any (.node (.node .leaf .any .leaf) .any (.node .leaf .any .leaf))) .any (.node (.node (.node .leaf .any .leaf) .any (.node .leaf .any .leaf)) .any (.node (.node .leaf .any .leaf) .any (.node .leaf .any .leaf))))))), [(17, (l, p))], [], {}⟩ (Fin [.tmp 4, .tmp 5] (rqV at_ (qscan l out (1 + p)))) := by
  intro n
  induction n with
  | zero =>
    intro l out p skip hn hd hi hk ho
    obtain rfl : l = [] := List.length_eq_zero_iff.1 (by omega)
    rw [U51_1, qscan_nil]
    simp only [rqV, K51_1, go_sem, ne_eq, not_false_eq_true, reduceIte, Nat.reduceMul, Nat.reduceAdd, Nat.reduceSub, Nat.reduceEqDiff, Nat.reduceLeDiff, Nat.reduceLT, List.take_succ_cons, List.take_zero, List.drop_succ_cons, List.cons_append]
  | succ n ih =>
    intro l out p skip hn hd hi hk ho
    cases l with
    | nil =>
      rw [U51_1, qscan_nil]
      simp only [rqV, K51_1, go_sem, ne_eq, not_false_eq_true, reduceIte, Nat.reduceMul, Nat.reduceAdd, Nat.reduceSub, Nat.reduceEqDiff, Nat.reduceLeDiff, Nat.reduceLT, List.take_succ_cons, List.take_zero, List.drop_succ_cons, List.cons_append]
    | cons a r =>
      have hl := drop_len hd hi
      simp only [List.length_cons] at hl hn
      have hw := dec_pos (a :: r)
      have hw2 := dec_le a r
      simp only [List.length_cons] at hw2
      have hok := dec_oks (a :: r)
      have w1 : wr .i64 ((at_ : Int) + 1) = ((at_ + 1 : Nat) : Int) := by rw [wr64] <;> omega
      have w2 : wr .i64 (((at_ + 1 : Nat) : Int) + (p : Int)) = ((at_ + 1 + p : Nat) : Int) := by rw [wr64] <;> omega
      have w3 : wr .i64 (((at_ + 1 + p : Nat) : Int) + 1) = ((at_ + 1 + p + 1 : Nat) : Int) := by rw [wr64] <;> omega
      have w4 : wr .i64 (((at_ + 1 + p : Nat) : Int) + 3) = ((at_ + 1 + p + 3 : Nat) : Int) := by rw [wr64] <;> omega
      have w5 : wr .i64 (((at_ + 1 + p : Nat) : Int) + 2) = ((at_ + 1 + p + 2 : Nat) : Int) := by rw [wr64] <;> omega
      have e0 : decide (((at_ + 1 + p : Nat) : Int) < (skip : Int)) = false := decide_eq_false (by omega)
      rw [U51_1]
      by_cases c1 : (dec (a :: r)).1 = 34
      · have f1 : decide (((dec (a :: r)).1 : Int) = 34) = true := decide_eq_true (by omega)
        rw [qscan_end c1]
        have w6 : ((at_ + 1 + p + 1 : Nat) : Int) = ((at_ + (1 + p + 1) : Nat) : Int) := by omega
        simp only [w1, w2, w3, e0, f1, w6, rqV, K51_1, go_sem, ne_eq, not_false_eq_true, reduceIte, Nat.reduceMul, Nat.reduceAdd, Nat.reduceSub, Nat.reduceEqDiff, Nat.reduceLeDiff, Nat.reduceLT, List.take_succ_cons, List.take_zero, List.drop_succ_cons, List.cons_append]
      · have f1 : decide (((dec (a :: r)).1 : Int) = 34) = false := decide_eq_false (by omega)
        by_cases c2 : (dec (a :: r)).1 = 65533 ∧ (dec (a :: r)).2 = 1
        · have f2 : decide (((dec (a :: r)).1 : Int) = 65533) = true := decide_eq_true (by omega)
          rw [qscan_bad c2.1 c2.2]
          by_cases q : s.length < at_ + 1 + p + 3
          · have e1 : decide ((s.length : Int) < ((at_ + 1 + p + 3 : Nat) : Int)) = true := decide_eq_true (by omega)
            simp only [w1, w2, w4, e0, e1, f1, f2, rqV, K51_1, go_sem, ne_eq, not_false_eq_true, reduceIte, Nat.reduceMul, Nat.reduceAdd, Nat.reduceSub, Nat.reduceEqDiff, Nat.reduceLeDiff, Nat.reduceLT, List.take_succ_cons, List.take_zero, List.drop_succ_cons, List.cons_append]
          · have e1 : decide ((s.length : Int) < ((at_ + 1 + p + 3 : Nat) : Int)) = false := decide_eq_false (by omega)
            have b1 : at_ + 1 + p ≤ at_ + 1 + p + 3 := by omega
            have b2 : at_ + 1 + p + 3 ≤ s.length := by omega
            have e2 : strEq ((s.drop (at_ + 1 + p)).take (at_ + 1 + p + 3 - (at_ + 1 + p))) [239, 191, 189] = false := by
              rw [strEq_iff, hd, show at_ + 1 + p + 3 - (at_ + 1 + p) = 3 from by omega]
              refine decide_eq_false fun e => ?_
              have : ∃ t, a :: r = 239 :: 191 :: 189 :: t := by
                refine ⟨(a :: r).drop 3, ?_⟩
                rw [← List.take_append_drop 3 (a :: r), e]
                simp
              obtain ⟨t, ht⟩ := this
              rw [ht, dec_efbfbd] at c2
              exact absurd c2.2 (by decide)
            simp only [w1, w2, w4, e0, e1, e2, b1, b2, Nat.le_refl, f1, f2, rqV, K51_1, go_sem, ne_eq, not_false_eq_true, reduceIte, Nat.reduceMul, Nat.reduceAdd, Nat.reduceSub, Nat.reduceEqDiff, Nat.reduceLeDiff, Nat.reduceLT, List.take_succ_cons, List.take_zero, List.drop_succ_cons, List.cons_append]
        · by_cases c3 : (dec (a :: r)).1 = 92
          · have f4 : decide (((dec (a :: r)).1 : Int) = 92) = true := decide_eq_true (by omega)
            have f2 : decide (((dec (a :: r)).1 : Int) = 65533) = false := decide_eq_false (by omega)
            have ha := dec_92 c3
            subst ha
            have hdc := dec92 r
            rw [hdc] at f1 f2 f4
            simp only at f1 f2 f4
            cases r with
            | nil =>
              have e1 : decide ((s.length : Int) ≤ ((at_ + 1 + p + 1 : Nat) : Int)) = true := decide_eq_true (by simp only [List.length_nil] at hl; omega)
              rw [qscan_esc0]
              simp only [hdc, w1, w2, w3, e0, e1, f1, f2, f4, rqV, K51_1, go_sem, ne_eq, not_false_eq_true, reduceIte, Nat.reduceMul, Nat.reduceAdd, Nat.reduceSub, Nat.reduceEqDiff, Nat.reduceLeDiff, Nat.reduceLT, List.take_succ_cons, List.take_zero, List.drop_succ_cons, List.cons_append]
            | cons b t =>
              simp only [List.length_cons] at hl hn
              have e1 : decide ((s.length : Int) ≤ ((at_ + 1 + p + 1 : Nat) : Int)) = false := decide_eq_false (by omega)
              have hd1 : s.drop (at_ + 1 + p + 1) = b :: t := by rw [← List.drop_drop, hd]; rfl
              have hd2 : s.drop (at_ + 1 + p + 2) = t := by rw [← List.drop_drop, hd]; rfl
              have hg := get_drop hd1
              have b34 : decide ((b.toNat : Int) = 34) = decide (b = 34) := decide_eq_decide.2 ⟨fun h => UInt8.toNat_inj.1 (by show b.toNat = 34; omega), fun h => by rw [h]; rfl⟩
              have b92 : decide ((b.toNat : Int) = 92) = decide (b = 92) := decide_eq_decide.2 ⟨fun h => UInt8.toNat_inj.1 (by show b.toNat = 92; omega), fun h => by rw [h]; rfl⟩
              have b117 : decide ((b.toNat : Int) = 117) = decide (b = 117) := decide_eq_decide.2 ⟨fun h => UInt8.toNat_inj.1 (by show b.toNat = 117; omega), fun h => by rw [h]; rfl⟩
              rw [qscan_esc]
              -- a byte that stands for itself
              have one : b = 34 ∨ b = 92 → M X_rqd (kz51) (.code L51_1) (.loop L51_1 :: K51_1) ⟨gl, (.node (.node (.node (.node (.node (.node (.node .leaf .any .leaf) .any (.node .leaf .any .leaf)) .any (.node (.node .leaf .any .leaf) .any (.node .leaf .any .leaf))) (.i .i64 ((at_ + 1 + p + 2 : Nat) : Int)) (.node (.node (.node .leaf .any .leaf) .any (.node .leaf .any .leaf)) .any (.node (.node .leaf .any .leaf) .any (.node .leaf .any .leaf)))) .any (.node (.node (.node (.node .leaf .any .leaf) .any (.node .leaf .any .leaf)) .any (.node (.node .leaf .any .leaf) .any (.node .leaf .any .leaf))) .any (.node (.node (.node .leaf .any .leaf) .any (.node .leaf .any .leaf)) .any (.node (.node .leaf .any .leaf) .any (.node .leaf .any .leaf))))) (.i .i64 at_) (.node (.node (.node (.node (.node .leaf .any .leaf) .any (.node .leaf .any .leaf)) (.it) (.node (.node .leaf .any .leaf) .any (.node .leaf .any .leaf))) .any (.node (.node (.node .leaf .any .leaf) .any (.node .leaf .any .leaf)) .any (.node (.node .leaf .any .leaf) .any (.node .leaf .any .leaf)))) .any (.node (.node (.node (.node .leaf .any .leaf) .any (.node .leaf .any .leaf)) .any (.node (.node .leaf .any .leaf) .any (.node .leaf .any .leaf))) .any (.node (.node (.node .leaf .any .leaf) .any (.node .leaf .any .leaf)) .any (.node (.node .leaf .any .leaf) .any (.node .leaf .any .leaf)))))) (.s s) (.node (.node (.node (.node (.node (.node .leaf .any .leaf) .any (.node .leaf .any .leaf)) .any (.node (.node .leaf .any .leaf) .any (.node .leaf .any .leaf))) .any (.node (.node (.node .leaf .any .leaf) .any (.node .leaf .any .leaf)) .any (.node (.node .leaf .any .leaf) .any (.node .leaf .any .leaf)))) .any (.node (.node (.node (.node .leaf .any .leaf) .any (.node .leaf .any .leaf)) .any (.node (.node .leaf .any .leaf) .any (.node .leaf .any .leaf))) .any (.node (.node (.node .leaf .any .leaf) .any (.node .leaf .any .leaf)) .any (.node (.node .leaf .any .leaf) .any (.node .leaf .any .leaf))))) .any (.node (.node (.node (.node (.node .leaf .any .leaf) .any (.node .leaf .any .leaf)) .any (.node (.node .leaf .any .leaf) .any (.node .leaf .any .leaf))) .any (.node (.node (.node .leaf .any .leaf) .any (.node .leaf .any .leaf)) .any (.node (.node .leaf .any .leaf) .any (.node .leaf .any .leaf)))) (.s (out ++ [b])) (.node (.node (.node (.node .leaf .any .leaf) .any (.node .leaf .any .leaf)) .any (.node (.node .leaf .any .leaf) .any (.node .leaf .any .leaf))) .any (.node (.node (.node .leaf .any .leaf) .any (.node .leaf .any .leaf)) .any (.node (.node .leaf .any .leaf) .any (.node .leaf .any .leaf))))))), [(17, (b :: t, p + 1))], [], {}⟩
                  (Fin [.tmp 4, .tmp 5] (rqV at_ (qscan t (out ++ [b]) (1 + p + 2)))) := by
                intro hb
                have h1 := ih t (out ++ [b]) (p + 2) (at_ + 1 + p + 2) (by omega) (by rw [← Nat.add_assoc]; exact hd2) (by omega) (by omega) (by simp only [List.length_append, List.length_cons, List.length_nil]; omega)
                rw [← Nat.add_assoc] at h1
                exact rq_skip s hs at_ (at_ + 1 + p + 2) (by omega) (out ++ [b]) gl _ [b] t (p + 1) (by
                  intro x hx
                  rw [List.mem_singleton] at hx
                  rcases hb with rfl | rfl <;> rw [hx] <;> decide) (by simp; omega) h1
              have i1 : at_ + 1 + p + 1 ≤ at_ + 1 + p + 2 := by omega
              have i2 : at_ + 1 + p + 2 ≤ s.length := by omega
              have e2 : (s.drop (at_ + 1 + p + 1)).take (at_ + 1 + p + 2 - (at_ + 1 + p + 1)) = [b] := by
                rw [hd1, show at_ + 1 + p + 2 - (at_ + 1 + p + 1) = 1 from by omega]; rfl
              have g2 : out.length + 1 ≤ 4611686018427387904 := by omega
              by_cases k1 : b = 34
              · have g1 : decide (b = 34) = true := decide_eq_true k1
                have := one (.inl k1)
                rw [if_pos (.inl k1)]
                simp only [hdc, w1, w2, w3, w5, e0, e1, e2, i1, i2, Nat.le_refl, hg, b34, g1, g2, f1, f2, f4, go_sem, ne_eq, not_false_eq_true, reduceIte, Nat.reduceMul, Nat.reduceAdd, Nat.reduceSub, Nat.reduceEqDiff, Nat.reduceLeDiff, Nat.reduceLT, List.take_succ_cons, List.take_zero, List.drop_succ_cons, List.cons_append]
                rw [M_loop]
                simp only [kz51, K51_1, List.length_cons, List.length_nil, go_sem, ne_eq, not_false_eq_true, reduceIte, Nat.reduceMul, Nat.reduceAdd, Nat.reduceSub, Nat.reduceEqDiff, Nat.reduceLeDiff, Nat.reduceLT, List.take_succ_cons, List.take_zero, List.drop_succ_cons, List.cons_append] at this ⊢
                exact this
              · have g1 : decide (b = 34) = false := decide_eq_false k1
                by_cases k2 : b = 92
                · have g3 : decide (b = 92) = true := decide_eq_true k2
                  have := one (.inr k2)
                  rw [if_pos (.inr k2)]
                  simp only [hdc, w1, w2, w3, w5, e0, e1, e2, i1, i2, Nat.le_refl, hg, b34, b92, g1, g2, g3, f1, f2, f4, go_sem, ne_eq, not_false_eq_true, reduceIte, Nat.reduceMul, Nat.reduceAdd, Nat.reduceSub, Nat.reduceEqDiff, Nat.reduceLeDiff, Nat.reduceLT, List.take_succ_cons, List.take_zero, List.drop_succ_cons, List.cons_append]
                  rw [M_loop]
                  simp only [kz51, K51_1, List.length_cons, List.length_nil, go_sem, ne_eq, not_false_eq_true, reduceIte, Nat.reduceMul, Nat.reduceAdd, Nat.reduceSub, Nat.reduceEqDiff, Nat.reduceLeDiff, Nat.reduceLT, List.take_succ_cons, List.take_zero, List.drop_succ_cons, List.cons_append] at this ⊢
                  exact this
                · have g3 : decide (b = 92) = false := decide_eq_false k2
                  rw [if_neg (by rintro (h | h); exact k1 h; exact k2 h)]
                  by_cases k3 : b = 117
                  · have g4 : decide (b = 117) = true := decide_eq_true k3
                    have he := rq_esc (s := s) (i := at_ + 1 + p + 2) hs (by omega)
                    rw [hd2, escV_eq] at he
                    rw [if_pos k3]
                    by_cases k4 : (hexV t).2 = 0
                    · rw [if_pos k4]
                      rw [if_pos k4] at he
                      simp only [hdc, w1, w2, w3, w5, e0, e1, hg, b34, b92, b117, g1, g3, g4, f1, f2, f4, he, escR, rqV, Int.reduceNeg, Int.reduceLT, K51_1, go_sem, ne_eq, not_false_eq_true, reduceIte, Nat.reduceMul, Nat.reduceAdd, Nat.reduceSub, Nat.reduceEqDiff, Nat.reduceLeDiff, Nat.reduceLT, List.take_succ_cons, List.take_zero, List.drop_succ_cons, List.cons_append]
                    · rw [if_neg k4]
                      rw [if_neg k4] at he
                      obtain ⟨v1, v2, v3⟩ := hexV_ok t k4
                      have hlow := hexV_low t k4
                      have en := encode_enc v1
                      have hel := enc_len (hexV t).1
                      have g5 : decide (((hexV t).1 : Int) < 0) = false := decide_eq_false (by omega)
                      have g6 : out.length + (enc (hexV t).1).length ≤ 4611686018427387904 := by omega
                      have h1 := ih (t.drop (hexV t).2) (out ++ enc (hexV t).1) (p + 2 + (hexV t).2) (at_ + 1 + p + 2 + (hexV t).2) (by rw [List.length_drop]; omega) (by rw [← Nat.add_assoc, ← List.drop_drop, ← Nat.add_assoc, hd2]) (by omega) (by omega) (by simp only [List.length_append]; omega)
                      have hlen : (b :: t.take (hexV t).2).length = 1 + (hexV t).2 := by rw [List.length_cons, List.length_take]; omega
                      have h2 := rq_skip s hs at_ (at_ + 1 + p + 2 + (hexV t).2) (by omega) (out ++ enc (hexV t).1) gl (Fin [.tmp 4, .tmp 5] (rqV at_ (qscan (t.drop (hexV t).2) (out ++ enc (hexV t).1) (1 + p + 2 + (hexV t).2)))) (b :: t.take (hexV t).2) (t.drop (hexV t).2) (p + 1) (by
                        intro x hx
                        rcases List.mem_cons.1 hx with rfl | hx
                        · rw [k3]; decide
                        · exact hlow x hx) (by rw [hlen]; omega) (by
                          rw [hlen, show p + 1 + (1 + (hexV t).2) = p + 2 + (hexV t).2 from by omega, show 1 + p + 2 + (hexV t).2 = 1 + (p + 2 + (hexV t).2) from by omega]
                          exact h1)
                      have hcat : b :: t.take (hexV t).2 ++ t.drop (hexV t).2 = b :: t := by rw [List.cons_append, List.take_append_drop]
                      rw [hcat] at h2
                      simp only [hdc, w1, w2, w3, w5, e0, e1, hg, b34, b92, b117, g1, g3, g4, g5, g6, en, f1, f2, f4, he, escR, go_sem, ne_eq, not_false_eq_true, reduceIte, Nat.reduceMul, Nat.reduceAdd, Nat.reduceSub, Nat.reduceEqDiff, Nat.reduceLeDiff, Nat.reduceLT, List.take_succ_cons, List.take_zero, List.drop_succ_cons, List.cons_append]
                      rw [M_loop]
                      simp only [kz51, K51_1, List.length_cons, List.length_nil, go_sem, ne_eq, not_false_eq_true, reduceIte, Nat.reduceMul, Nat.reduceAdd, Nat.reduceSub, Nat.reduceEqDiff, Nat.reduceLeDiff, Nat.reduceLT, List.take_succ_cons, List.take_zero, List.drop_succ_cons, List.cons_append] at h2 ⊢
                      exact h2
                  · have g4 : decide (b = 117) = false := decide_eq_false k3
                    rw [if_neg k3]
                    simp only [hdc, w1, w2, w3, w5, e0, e1, hg, b34, b92, b117, g1, g3, g4, f1, f2, f4, rqV, K51_1, go_sem, ne_eq, not_false_eq_true, reduceIte, Nat.reduceMul, Nat.reduceAdd, Nat.reduceSub, Nat.reduceEqDiff, Nat.reduceLeDiff, Nat.reduceLT, List.take_succ_cons, List.take_zero, List.drop_succ_cons, List.cons_append]
          · have f4 : decide (((dec (a :: r)).1 : Int) = 92) = false := decide_eq_false (by omega)
            rw [qscan_rune c1 c2 c3]
            have hel := enc_len (dec (a :: r)).1
            have en := encode_enc hok
            have g2 : out.length + (enc (dec (a :: r)).1).length ≤ 4611686018427387904 := by omega
            have := ih ((a :: r).drop (dec (a :: r)).2) (out ++ enc (dec (a :: r)).1) (p + (dec (a :: r)).2) skip (by simp only [List.length_drop, List.length_cons]; omega) (by rw [← Nat.add_assoc, ← List.drop_drop, hd]) (by omega) (by omega) (by simp only [List.length_append]; omega)
            rw [← Nat.add_assoc] at this
            by_cases k1 : (dec (a :: r)).1 = 65533
            · have f2 : decide (((dec (a :: r)).1 : Int) = 65533) = true := decide_eq_true (by omega)
              obtain ⟨t, ht⟩ := dec_fffd (a :: r) k1 (fun h => c2 ⟨k1, h⟩)
              have hlt : 3 ≤ (a :: r).length := by rw [ht]; simp
              simp only [List.length_cons] at hlt
              have e1 : decide ((s.length : Int) < ((at_ + 1 + p + 3 : Nat) : Int)) = false := decide_eq_false (by omega)
              have b1 : at_ + 1 + p ≤ at_ + 1 + p + 3 := by omega
              have b2 : at_ + 1 + p + 3 ≤ s.length := by omega
              have e2 : strEq ((s.drop (at_ + 1 + p)).take (at_ + 1 + p + 3 - (at_ + 1 + p))) [239, 191, 189] = true := by
                rw [strEq_iff, hd, show at_ + 1 + p + 3 - (at_ + 1 + p) = 3 from by omega, ht]
                exact decide_eq_true rfl
              simp only [w1, w2, w4, e0, e1, e2, b1, b2, Nat.le_refl, f1, f2, f4, en, g2, go_sem, ne_eq, not_false_eq_true, reduceIte, Nat.reduceMul, Nat.reduceAdd, Nat.reduceSub, Nat.reduceEqDiff, Nat.reduceLeDiff, Nat.reduceLT, List.take_succ_cons, List.take_zero, List.drop_succ_cons, List.cons_append]
              rw [M_loop]
              simp only [kz51, K51_1, List.length_cons, List.length_nil, go_sem, ne_eq, not_false_eq_true, reduceIte, Nat.reduceMul, Nat.reduceAdd, Nat.reduceSub, Nat.reduceEqDiff, Nat.reduceLeDiff, Nat.reduceLT, List.take_succ_cons, List.take_zero, List.drop_succ_cons, List.cons_append] at this ⊢
              exact this
            · have f2 : decide (((dec (a :: r)).1 : Int) = 65533) = false := decide_eq_false (by omega)
              simp only [w1, w2, w4, e0, f1, f2, f4, en, g2, go_sem, ne_eq, not_false_eq_true, reduceIte, Nat.reduceMul, Nat.reduceAdd, Nat.reduceSub, Nat.reduceEqDiff, Nat.reduceLeDiff, Nat.reduceLT, List.take_succ_cons, List.take_zero, List.drop_succ_cons, List.cons_append]
              rw [M_loop]
              simp only [kz51, K51_1, List.length_cons, List.length_nil, go_sem, ne_eq, not_false_eq_true, reduceIte, Nat.reduceMul, Nat.reduceAdd, Nat.reduceSub, Nat.reduceEqDiff, Nat.reduceLeDiff, Nat.reduceLT, List.take_succ_cons, List.take_zero, List.drop_succ_cons, List.cons_append] at this ⊢
              exact this
end Go.Proofs.YtbhclhgljnoioaaDoor
