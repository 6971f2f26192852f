/- lang: the tokens of a text. -/
import Derived.Test.YtbhclhgljnoioaaDoorLx4
set_option linter.unusedSimpArgs false
set_option linter.unusedVariables false
namespace Go.Proofs.YtbhclhgljnoioaaDoor
open Ai
theorem w_quoted (a : UInt8) (r : List UInt8) (hs : (a :: r).length ≤ 1048576) (gl : Nat → List V) : Hp.M X_quoted Y_quoted (kz44) (.code B44) [] (St.init gl 7 [.s (a :: r)] {}) (Fin [.tmp 2, .tmp 3] (qres (qscan r [] 1))) := by
  rw [UH44]
  simp only [go_sem, ne_eq, not_false_eq_true, reduceIte, Nat.reduceMul, Nat.reduceAdd, Nat.reduceSub, Nat.reduceEqDiff, Nat.reduceLeDiff, Nat.reduceLT, List.take_succ_cons, List.take_zero, List.drop_succ_cons, List.cons_append]
  rw [Hp.M_loop]
  have := w_quoted_loop (a :: r) hs gl r.length r [] 1 ⟨1, [(0, .cells 57 [.nilp, .sl [] 0 .nil])], 0, []⟩ (Nat.le_refl _) rfl (by simp) (bf_new rfl) (by simp)
  simp only [kz44, K44_1, List.length_cons, List.length_nil, Int.cast_ofNat_Int, go_sem, ne_eq, not_false_eq_true, reduceIte, Nat.reduceMul, Nat.reduceAdd, Nat.reduceSub, Nat.reduceEqDiff, Nat.reduceLeDiff, Nat.reduceLT, List.take_succ_cons, List.take_zero, List.drop_succ_cons, List.cons_append] at this ⊢
  exact this
def F_quoted (a : List V) : Option V := match a with
  | [.s (a :: r)] => if (a :: r).length ≤ 1048576 then some (qres (qscan r [] 1)) else none
  | _ => none
theorem F_quoted1 (a : UInt8) (r : List UInt8) (h : (a :: r).length ≤ 1048576) : F_quoted [.s (a :: r)] = some (qres (qscan r [] 1)) := if_pos h
theorem o_quoted : ∀ a v, F_quoted a = some v → Comp tabx told 44 a v := fun a v e => by
  unfold F_quoted at e
  split at e
  · split at e
    · rename_i h; cases e; exact Hp.comp_of t_quoted u_quoted (fn := af44) rfl (Nat.le_of_ble_eq_true rfl) fun gl => w_quoted _ _ h gl
    · cases e
  · cases e
/-- A token. -/
structure Tok where
  kind : Nat
  text : List UInt8
  at_ : Nat
def Tok.cells (t : Tok) : List V := [.i .i64 t.kind, .s t.text, .i .i64 t.at_]
/-- Tokens, or where there is none, and why. -/
inductive Lx where
  | ok (l : List Tok)
  | bad (at_ e : Nat)
def Lx.cons (t : Tok) : Lx → Lx
  | .ok l => .ok (t :: l)
  | x => x
def headDig : List UInt8 → Bool
  | [] => false
  | b :: _ => digB b.toNat
def lx (l : List UInt8) (k : Nat) : Lx :=
  match l with
  | [] => .ok []
  | a :: r =>
    if a = 32 then lx r (k + 1) else
    if a = 34 then (match qscan r [] 1 with
      | none => .bad k 191
      | some (x, n) => (lx (r.drop (n - 1)) (k + n)).cons ⟨2, x, k⟩) else
    if letB a.toNat then (lx (r.drop (wh letB r)) (k + 1 + wh letB r)).cons ⟨1, a :: r.take (wh letB r), k⟩ else
    if digB a.toNat then (lx (r.drop (wh digB r)) (k + 1 + wh digB r)).cons ⟨3, a :: r.take (wh digB r), k⟩ else
    if a = 45 ∧ headDig r = true then (lx (r.drop (wh digB r)) (k + 1 + wh digB r)).cons ⟨3, a :: r.take (wh digB r), k⟩ else
    if sgnB a.toNat then (lx r (k + 1)).cons ⟨4, [a], k⟩ else .bad k 190
termination_by l.length
decreasing_by all_goals (simp only [List.length_drop, List.length_cons]; omega)
theorem lx_nil (k : Nat) : lx [] k = .ok [] := by rw [lx]
theorem lx_cons (a : UInt8) (r : List UInt8) (k : Nat) : lx (a :: r) k =
    if a = 32 then lx r (k + 1) else
    if a = 34 then (match qscan r [] 1 with
      | none => .bad k 191
      | some (x, n) => (lx (r.drop (n - 1)) (k + n)).cons ⟨2, x, k⟩) else
    if letB a.toNat then (lx (r.drop (wh letB r)) (k + 1 + wh letB r)).cons ⟨1, a :: r.take (wh letB r), k⟩ else
    if digB a.toNat then (lx (r.drop (wh digB r)) (k + 1 + wh digB r)).cons ⟨3, a :: r.take (wh digB r), k⟩ else
    if a = 45 ∧ headDig r = true then (lx (r.drop (wh digB r)) (k + 1 + wh digB r)).cons ⟨3, a :: r.take (wh digB r), k⟩ else
    if sgnB a.toNat then (lx r (k + 1)).cons ⟨4, [a], k⟩ else .bad k 190 := by
  rw [lx.eq_def]
/-- How far a text in quotes goes. -/
theorem qscan_k : ∀ (n : Nat) (l out : List UInt8) (k : Nat), l.length ≤ n → ∀ x m, qscan l out k = some (x, m) → k + 1 ≤ m ∧ m ≤ k + l.length := by
  intro n
  induction n with
  | zero =>
    intro l out k hn x m h
    obtain rfl : l = [] := List.length_eq_zero_iff.1 (by omega)
    rw [qscan_nil] at h; cases h
  | succ n ih =>
    intro l out k hn x m h
    cases l with
    | nil => rw [qscan_nil] at h; cases h
    | cons a r =>
      simp only [List.length_cons] at hn ⊢
      have hw := dec_pos (a :: r)
      have hw2 := dec_le a r
      simp only [List.length_cons] at hw2
      by_cases c1 : (dec (a :: r)).1 = 34
      · rw [qscan_end c1] at h; cases h; omega
      · by_cases c2 : (dec (a :: r)).1 = 65533 ∧ (dec (a :: r)).2 = 1
        · rw [qscan_bad c2.1 c2.2] at h; cases h
        · by_cases c3 : (dec (a :: r)).1 = 92
          · have ha := dec_92 c3
            subst ha
            cases r with
            | nil => rw [qscan_esc0] at h; cases h
            | cons b t =>
              simp only [List.length_cons] at hn ⊢
              rw [qscan_esc] at h
              split at h
              · have := ih t _ _ (by omega) x m h; omega
              · split at h
                · split at h
                  · cases h
                  · rename_i k4
                    obtain ⟨v1, v2, v3⟩ := hexV_ok t k4
                    have := ih (t.drop (hexV t).2) _ _ (by rw [List.length_drop]; omega) x m h
                    rw [List.length_drop] at this
                    omega
                · cases h
          · rw [qscan_rune c1 c2 c3] at h
            have := ih _ _ _ (by simp only [List.length_drop, List.length_cons]; omega) x m h
            simp only [List.length_drop, List.length_cons] at this
            omega
def tokR (acc : List Tok) : Lx → V
  | .ok l => .tup [.sl ((acc ++ l).flatMap Tok.cells) (acc ++ l).length .no, .i .i64 0, .i .i64 0]
  | .bad a e => .tup [.sl [] 0 .no, .i .i64 a, .i .i64 e]
theorem tokR_cons (acc : List Tok) (t : Tok) (x : Lx) : tokR acc (x.cons t) = tokR (acc ++ [t]) x := by
  cases x with
  | ok l => simp [Lx.cons, tokR]
  | bad a e => rfl
theorem toks_len (l : List Tok) : (l.flatMap Tok.cells).length = l.length * 3 := by
  induction l with
  | nil => rfl
  | cons t r ih => simp only [List.flatMap_cons, List.length_append, Tok.cells, List.length_cons, List.length_nil, ih]; omega
theorem frz_toks (h : H) (f : Nat) (l : List Tok) : (l.flatMap Tok.cells).map (frz h (f + 1)) = l.flatMap Tok.cells := by
  induction l with
  | nil => rfl
  | cons t r ih => simp only [List.flatMap_cons, List.map_append, ih]; rfl
theorem wh_pos {p : Nat → Bool} {a : UInt8} {r : List UInt8} (h : p a.toNat = true) : wh p (a :: r) = wh p r + 1 := by simp [wh, h]
def X_toks := xs [(43, decV), (44, F_quoted), (45, F_let), (47, F_dig), (48, F_sgn), (46, F_while)]
theorem t_toks : Tells tabx told X_toks := tells_cons o_decode (tells_cons o_quoted (tells_cons o_let (tells_cons o_dig (tells_cons o_sgn (tells_cons o_while tells_nil)))))
theorem tk_dec (a : UInt8) (r : List UInt8) : X_toks 43 [.s (a :: r)] = some (.tup [.i .i32 (dec (a :: r)).1, .i .i64 (dec (a :: r)).2]) := rfl
theorem tk_quo (a : UInt8) (r : List UInt8) (h : (a :: r).length ≤ 1048576) : X_toks 44 [.s (a :: r)] = some (qres (qscan r [] 1)) := F_quoted1 a r h
theorem tk_let (c : Nat) : X_toks 45 [.i .i32 (c : Int)] = some (.b (letB c)) := rfl
theorem tk_dig (c : Nat) : X_toks 47 [.i .i32 (c : Int)] = some (.b (digB c)) := rfl
theorem tk_sgn (c : Nat) : X_toks 48 [.i .i32 (c : Int)] = some (.b (sgnB c)) := rfl
theorem tk_whL (s : List UInt8) : X_toks 46 [.s s, .fn 45 [] []] = some (.i .i64 (wh letB s : Nat)) := rfl
theorem tk_whD (s : List UInt8) : X_toks 46 [.s s, .fn 47 [] []] = some (.i .i64 (wh digB s : Nat)) := rfl
theorem sgn_hi (c : Nat) (h : 128 ≤ c) : sgnB c = false := by
  have : ∀ k, k < 128 → (c == k) = false := fun k hk => by simp; omega
  simp only [sgnB, this 40 (by omega), this 41 (by omega), this 61 (by omega), this 94 (by omega), this 60 (by omega), this 62 (by omega), this 44 (by omega), Bool.or_false]
theorem take_cat {s : List UInt8} {k : Nat} {a : UInt8} {r : List UInt8} (h : s.drop k = a :: r) (m : Nat) : (s.drop k).take (k + (m + 1) - k) = a :: r.take m := by
  rw [h, show k + (m + 1) - k = m + 1 from by omega, List.take_succ_cons]
def K21_1 : List Fr := [.blk 0,
  .seq (.seq (.reg [⟨some 128, .mov (.t 5), none⟩,
       ⟨some 2, .mov (.t 128), none⟩,
       ⟨some 3, .mov (.k (.i .i64 0)), none⟩,
       ⟨some 4, .mov (.k (.i .i64 0)), none⟩])
    .ret)]
theorem U21_1 {xf : FuncId → List V → Option V} {kz : Nat → List Nat} {k : List Fr} {st : St} {Q : AEx → St → Prop} : M xf kz (.code L21_1) k st Q = M xf kz (.code (.seq (.seq (.reg [⟨some 12, .mov (.t 6), none⟩,
      ⟨some 13, .mov (.t 0), none⟩,
      ⟨some 14, .len .str (.t 13), none⟩,
      ⟨some 15, .bin .lss (.t 12) (.t 14), none⟩])
   (.cond (.t 15)
    .skip
    (.exit 0)))
  (.blk 1 (.seq (.reg [⟨some 17, .mov (.t 0), none⟩,
      ⟨some 18, .mov (.t 6), none⟩,
      ⟨some 19, .slc .str (.t 17) (some (.t 18)) none none, none⟩,
      ⟨some 20, .call true 43 [(.t 19)], none⟩,
      ⟨some 16, .mov (.t 20), none⟩,
      ⟨some 21, .ext (.t 16) 0, none⟩,
      ⟨some 22, .ext (.t 16) 1, none⟩,
      ⟨some 7, .mov (.t 21), none⟩,
      ⟨some 8, .mov (.t 22), none⟩])
   (.seq (.reg [⟨some 23, .mov (.t 6), none⟩,
      ⟨some 24, .build [(.i .i64 0), (.s []), (.i .i64 0)] [(2, 1, (.t 23))], none⟩,
      ⟨some 9, .lalloc [(.i .i64 0), (.s []), (.i .i64 0)] [9, 46, 47, 61, 62, 76, 77, 108, 109, 119, 120], none⟩,
      ⟨none, .store 3 (.t 9) (.t 24), none⟩])
   (.seq (.blk 2 (.seq (.reg [⟨some 27, .mov (.t 7), none⟩,
        ⟨some 28, .bin .eql (.t 27) (.k (.i .i32 32)), none⟩,
        ⟨some 26, .mov (.t 28), none⟩])
     (.cond (.t 26)
      (.seq (.reg [⟨some 29, .mov (.t 6), none⟩,
         ⟨some 30, .bin .add (.t 29) (.k (.i .i64 1)), none⟩,
         ⟨some 6, .mov (.t 30), none⟩])
      (.exit 1))
      (.seq (.reg [⟨some 32, .mov (.t 7), none⟩,
         ⟨some 33, .bin .eql (.t 32) (.k (.i .i32 34)), none⟩,
         ⟨some 31, .mov (.t 33), none⟩])
      (.cond (.t 31)
       (.seq (.reg [⟨some 35, .mov (.t 0), none⟩,
          ⟨some 36, .mov (.t 6), none⟩,
          ⟨some 37, .slc .str (.t 35) (some (.t 36)) none none, none⟩,
          ⟨some 38, .call true 44 [(.t 37)], none⟩,
          ⟨some 34, .mov (.t 38), none⟩,
          ⟨some 39, .ext (.t 34) 0, none⟩,
          ⟨some 40, .ext (.t 34) 1, none⟩,
          ⟨some 10, .mov (.t 39), none⟩,
          ⟨some 11, .mov (.t 40), none⟩])
       (.seq (.seq (.reg [⟨some 41, .mov (.t 11), none⟩,
           ⟨some 42, .bin .eql (.t 41) (.k (.i .i64 0)), none⟩])
        (.cond (.t 42)
         (.seq (.reg [⟨some 43, .mov (.t 6), none⟩,
            ⟨some 2, .movnil 45, none⟩,
            ⟨some 3, .mov (.t 43), none⟩,
            ⟨some 4, .mov (.k (.i .i64 191)), none⟩])
         .ret)
         .skip))
       (.reg [⟨some 44, .mov (.t 10), none⟩,
         ⟨some 45, .mov (.t 11), none⟩,
         ⟨some 46, .faddr 0 (.t 9), none⟩,
         ⟨none, .store 1 (.t 46) (.k (.i .i64 2)), none⟩,
         ⟨some 47, .faddr 1 (.t 9), none⟩,
         ⟨none, .store 1 (.t 47) (.t 44), none⟩,
         ⟨some 8, .mov (.t 45), none⟩])))
       (.seq (.reg [⟨some 49, .mov (.t 7), none⟩,
          ⟨some 50, .call true 45 [(.t 49)], none⟩,
          ⟨some 48, .mov (.t 50), none⟩])
       (.cond (.t 48)
        (.seq (.reg [⟨some 51, .mov (.t 0), none⟩,
           ⟨some 52, .mov (.t 6), none⟩,
           ⟨some 53, .slc .str (.t 51) (some (.t 52)) none none, none⟩,
           ⟨some 54, .call true 46 [(.t 53), (.f 45)], none⟩,
           ⟨some 8, .mov (.t 54), none⟩])
        (.reg [⟨some 55, .mov (.t 0), none⟩,
          ⟨some 56, .mov (.t 6), none⟩,
          ⟨some 57, .mov (.t 6), none⟩,
          ⟨some 58, .mov (.t 8), none⟩,
          ⟨some 59, .bin .add (.t 57) (.t 58), none⟩,
          ⟨some 60, .slc .str (.t 55) (some (.t 56)) (some (.t 59)) none, none⟩,
          ⟨some 61, .faddr 0 (.t 9), none⟩,
          ⟨none, .store 1 (.t 61) (.k (.i .i64 1)), none⟩,
          ⟨some 62, .faddr 1 (.t 9), none⟩,
          ⟨none, .store 1 (.t 62) (.t 60), none⟩]))
        (.seq (.reg [⟨some 64, .mov (.t 7), none⟩,
           ⟨some 65, .call true 47 [(.t 64)], none⟩,
           ⟨some 63, .mov (.t 65), none⟩])
        (.cond (.t 63)
         (.seq (.reg [⟨some 66, .mov (.t 0), none⟩,
            ⟨some 67, .mov (.t 6), none⟩,
            ⟨some 68, .slc .str (.t 66) (some (.t 67)) none none, none⟩,
            ⟨some 69, .call true 46 [(.t 68), (.f 47)], none⟩,
            ⟨some 8, .mov (.t 69), none⟩])
         (.reg [⟨some 70, .mov (.t 0), none⟩,
           ⟨some 71, .mov (.t 6), none⟩,
           ⟨some 72, .mov (.t 6), none⟩,
           ⟨some 73, .mov (.t 8), none⟩,
           ⟨some 74, .bin .add (.t 72) (.t 73), none⟩,
           ⟨some 75, .slc .str (.t 70) (some (.t 71)) (some (.t 74)) none, none⟩,
           ⟨some 76, .faddr 0 (.t 9), none⟩,
           ⟨none, .store 1 (.t 76) (.k (.i .i64 3)), none⟩,
           ⟨some 77, .faddr 1 (.t 9), none⟩,
           ⟨none, .store 1 (.t 77) (.t 75), none⟩]))
         (.seq (.reg [⟨some 79, .mov (.t 7), none⟩,
            ⟨some 80, .bin .eql (.t 79) (.k (.i .i32 45)), none⟩,
            ⟨some 81, .mov (.t 80), none⟩,
            ⟨some 82, .mov (.t 6), some (81, true)⟩,
            ⟨some 83, .bin .add (.t 82) (.k (.i .i64 1)), some (81, true)⟩,
            ⟨some 84, .mov (.t 0), some (81, true)⟩,
            ⟨some 85, .len .str (.t 84), some (81, true)⟩,
            ⟨some 86, .bin .lss (.t 83) (.t 85), some (81, true)⟩,
            ⟨some 87, .pick (.t 81) (.t 86) (.k (.b false)), none⟩,
            ⟨some 88, .mov (.t 87), none⟩,
            ⟨some 89, .mov (.t 0), some (88, true)⟩,
            ⟨some 90, .mov (.t 6), some (88, true)⟩,
            ⟨some 91, .bin .add (.t 90) (.k (.i .i64 1)), some (88, true)⟩,
            ⟨some 92, .idx .str (.t 89) (.t 91), some (88, true)⟩,
            ⟨some 93, .conv (.int .i32) (.t 92), some (88, true)⟩,
            ⟨some 94, .call true 47 [(.t 93)], some (88, true)⟩,
            ⟨some 95, .pick (.t 88) (.t 94) (.k (.b false)), none⟩,
            ⟨some 78, .mov (.t 95), none⟩])
         (.cond (.t 78)
          (.seq (.reg [⟨some 96, .mov (.t 0), none⟩,
             ⟨some 97, .mov (.t 6), none⟩,
             ⟨some 98, .bin .add (.t 97) (.k (.i .i64 1)), none⟩,
             ⟨some 99, .slc .str (.t 96) (some (.t 98)) none none, none⟩,
             ⟨some 100, .call true 46 [(.t 99), (.f 47)], none⟩,
             ⟨some 101, .bin .add (.k (.i .i64 1)) (.t 100), none⟩,
             ⟨some 8, .mov (.t 101), none⟩])
          (.reg [⟨some 102, .mov (.t 0), none⟩,
            ⟨some 103, .mov (.t 6), none⟩,
            ⟨some 104, .mov (.t 6), none⟩,
            ⟨some 105, .mov (.t 8), none⟩,
            ⟨some 106, .bin .add (.t 104) (.t 105), none⟩,
            ⟨some 107, .slc .str (.t 102) (some (.t 103)) (some (.t 106)) none, none⟩,
            ⟨some 108, .faddr 0 (.t 9), none⟩,
            ⟨none, .store 1 (.t 108) (.k (.i .i64 3)), none⟩,
            ⟨some 109, .faddr 1 (.t 9), none⟩,
            ⟨none, .store 1 (.t 109) (.t 107), none⟩]))
          (.seq (.reg [⟨some 111, .mov (.t 7), none⟩,
             ⟨some 112, .call true 48 [(.t 111)], none⟩,
             ⟨some 110, .mov (.t 112), none⟩])
          (.cond (.t 110)
           (.reg [⟨some 113, .mov (.t 0), none⟩,
             ⟨some 114, .mov (.t 6), none⟩,
             ⟨some 115, .mov (.t 6), none⟩,
             ⟨some 116, .mov (.t 8), none⟩,
             ⟨some 117, .bin .add (.t 115) (.t 116), none⟩,
             ⟨some 118, .slc .str (.t 113) (some (.t 114)) (some (.t 117)) none, none⟩,
             ⟨some 119, .faddr 0 (.t 9), none⟩,
             ⟨none, .store 1 (.t 119) (.k (.i .i64 4)), none⟩,
             ⟨some 120, .faddr 1 (.t 9), none⟩,
             ⟨none, .store 1 (.t 120) (.t 118), none⟩])
           (.seq (.reg [⟨some 25, .mov (.t 6), none⟩,
              ⟨some 2, .movnil 45, none⟩,
              ⟨some 3, .mov (.t 25), none⟩,
              ⟨some 4, .mov (.k (.i .i64 190)), none⟩])
           .ret))))))))))))))
   (.seq (.reg [⟨some 121, .mov (.t 5), none⟩,
      ⟨some 122, .load true 3 (.t 9), none⟩,
      ⟨some 123, .bslice false 45 3 1 [(.i .i64 0), (.s []), (.i .i64 0)] [(0, (.t 122))], none⟩,
      ⟨some 124, .app 45 3 (.t 121) (.t 123), none⟩,
      ⟨some 5, .mov (.t 124), none⟩])
   (.reg [⟨some 125, .mov (.t 6), none⟩,
     ⟨some 126, .mov (.t 8), none⟩,
     ⟨some 127, .bin .add (.t 125) (.t 126), none⟩,
     ⟨some 6, .mov (.t 127), none⟩])))))))) k st Q := rfl
theorem U21 {xf : FuncId → List V → Option V} {kz : Nat → List Nat} {k : List Fr} {st : St} {Q : AEx → St → Prop} : M xf kz (.code B21) k st Q = M xf kz (.code (.seq (.reg [⟨some 2, .movnil 45, none⟩,
     ⟨some 3, .mov (.k (.i .i64 0)), none⟩,
     ⟨some 4, .mov (.k (.i .i64 0)), none⟩])
  (.seq (.reg [⟨some 5, .movnil 45, none⟩])
  (.seq (.seq (.reg [⟨some 6, .mov (.k (.i .i64 0)), none⟩])
   (.blk 0 (.loop L21_1)))
  (.seq (.reg [⟨some 128, .mov (.t 5), none⟩,
     ⟨some 2, .mov (.t 128), none⟩,
     ⟨some 3, .mov (.k (.i .i64 0)), none⟩,
     ⟨some 4, .mov (.k (.i .i64 0)), none⟩])
  .ret))))) k st Q := rfl
def kz21 (_ : Nat) : List Nat := [1, 2, 3, 4, 7, 8, 9, 10, 11, 12, 13, 14, 15, 16, 17, 18, 19, 20, 21, 22, 23, 24, 25, 26, 27, 28, 29, 30, 31, 32, 33, 34, 35, 36, 37, 38, 39, 40, 41, 42, 43, 44, 45, 46, 47, 48, 49, 50, 51, 52, 53, 54, 55, 56, 57, 58, 59, 60, 61, 62, 63, 64, 65, 66, 67, 68, 69, 70, 71, 72, 73, 74, 75, 76, 77, 78, 79, 80, 81, 82, 83, 84, 85, 86, 87, 88, 89, 90, 91, 92, 93, 94, 95, 96, 97, 98, 99, 100, 101, 102, 103, 104, 105, 106, 107, 108, 109, 110, 111, 112, 113, 114, 115, 116, 117, 118, 119, 120, 121, 122, 123, 124, 125, 126, 127, 128]
def tokH (n : Nat) : H := ⟨0, [], 2, [(1, (n, 45)), (0, (0, 45))]⟩
theorem w_Tokens_loop (s : List UInt8) (hs : s.length ≤ 1048576) (gl : Nat → List V) : ∀ (n : Nat) (l : List UInt8) (k : Nat) (acc : List Tok) (loc : List (Nat × List V)), l.length ≤ n → s.drop k = l → k ≤ s.length → acc.length ≤ k →
    M X_toks (kz21) (.code L21_1) (.loop L21_1 :: K21_1) ⟨gl, (.node (.node (.node (.node (.node (.node (.node (.node .leaf .any .leaf) .any (.node .leaf .any .leaf)) .any (.node (.node .leaf .any .leaf) .any (.node .leaf .any .leaf))) .any (.node (.node (.node .leaf .any .leaf) .any (.node .leaf .any .leaf)) .any (.node (.node .leaf .any .leaf) .any (.node .leaf .any .leaf)))) .any (.node (.node (.node (.node .leaf .any .leaf) .any (.node .leaf .any .leaf)) .any (.node (.node .leaf .any .leaf) .any (.node .leaf .any .leaf))) .any (.node (.node (.node .leaf .any .leaf) .any (.node .leaf .any .leaf)) .any (.node (.node .leaf .any .leaf) .any (.node .leaf .any .leaf))))) .any (.node (.node (.node (.node (.node .leaf .any .leaf) .any (.node .leaf .any .leaf)) .any (.node (.node .leaf .any .leaf) .any (.node .leaf .any .leaf))) .any (.node (.node (.node .leaf .any .leaf) .any (.node .leaf .any .leaf)) .any (.node (.node .leaf .any .leaf) .any (.node .leaf .any .leaf)))) .any (.node (.node (.node (.node .leaf .any .leaf) .any (.node .leaf .any .leaf)) .any (.node (.node .leaf .any .leaf) .any (.node .leaf .any .leaf))) .any (.node (.node (.node .leaf .any .leaf) .any (.node .leaf .any .leaf)) .any (.node (.node .leaf .any .leaf) .any (.node .leaf .any .leaf)))))) .any (.node (.node (.node (.node (.node (.node .leaf .any .leaf) .any (.node .leaf .any .leaf)) .any (.node (.node .leaf .any .leaf) .any (.node .leaf .any .leaf))) .any (.node (.node (.node .leaf .any .leaf) .any (.node .leaf .any .leaf)) .any (.node (.node .leaf .any .leaf) .any (.node .leaf .any .leaf)))) .any (.node (.node (.node (.node .leaf .any .leaf) .any (.node .leaf .any .leaf)) .any (.node (.node .leaf .any .leaf) .any (.node .leaf .any .leaf))) .any (.node (.node (.node .leaf .any .leaf) .any (.node .leaf .any .leaf)) .any (.node (.node .leaf .any .leaf) .any (.node .leaf .any .leaf))))) (.sl (acc.flatMap Tok.cells) acc.length (.own 1)) (.node (.node (.node (.node (.node .leaf .any .leaf) .any (.node .leaf .any .leaf)) .any (.node (.node .leaf .any .leaf) .any (.node .leaf .any .leaf))) .any (.node (.node (.node .leaf .any .leaf) .any (.node .leaf .any .leaf)) .any (.node (.node .leaf .any .leaf) .any (.node .leaf .any .leaf)))) .any (.node (.node (.node (.node .leaf .any .leaf) .any (.node .leaf .any .leaf)) .any (.node (.node .leaf .any .leaf) .any (.node .leaf .any .leaf))) .any (.node (.node (.node .leaf .any .leaf) .any (.node .leaf .any .leaf)) .any (.node (.node .leaf .any .leaf) .any (.node .leaf .any .leaf))))))) (.s s) (.node (.node (.node (.node (.node (.node (.node .leaf .any .leaf) .any (.node .leaf .any .leaf)) .any (.node (.node .leaf .any .leaf) .any (.node .leaf .any .leaf))) .any (.node (.node (.node .leaf .any .leaf) .any (.node .leaf .any .leaf)) .any (.node (.node .leaf .any .leaf) .any (.node .leaf .any .leaf)))) .any (.node (.node (.node (.node .leaf .any .leaf) .any (.node .leaf .any .leaf)) .any (.node (.node .leaf .any .leaf) .any (.node .leaf .any .leaf))) .any (.node (.node (.node .leaf .any .leaf) .any (.node .leaf .any .leaf)) .any (.node (.node .leaf .any .leaf) .any (.node .leaf .any .leaf))))) .any (.node (.node (.node (.node (.node .leaf .any .leaf) .any (.node .leaf .any .leaf)) .any (.node (.node .leaf .any .leaf) .any (.node .leaf .any .leaf))) .any (.node (.node (.node .leaf .any .leaf) .any (.node .leaf .any .leaf)) .any (.node (.node .leaf .any .leaf) .any (.node .leaf .any .leaf)))) .any (.node (.node (.node (.node .leaf .any .leaf) .any (.node .leaf .any .leaf)) .any (.node (.node .leaf .any .leaf) .any (.node .leaf .any .leaf))) .any (.node (.node (.node .leaf .any .leaf) .any (.node .leaf .any .leaf)) .any (.node (.node .leaf .any .leaf) .any (.node .leaf .any .leaf)))))) .any (.node (.node (.node (.node (.node (.node .leaf .any .leaf) .any (.node .leaf .any .leaf)) .any (.node (.node .leaf .any .leaf) .any (.node .leaf .any .leaf))) .any (.node (.node (.node .leaf .any .leaf) .any (.node .leaf .any .leaf)) .any (.node (.node .leaf .any .leaf) .any (.node .leaf .any .leaf)))) .any (.node (.node (.node (.node .leaf .any .leaf) .any (.node .leaf .any .leaf)) .any (.node (.node .leaf .any .leaf) .any (.node .leaf .any .leaf))) .any (.node (.node (.node .leaf .any .leaf) .any (.node .leaf .any .leaf)) .any (.node (.node .leaf .any .leaf) .any (.node .leaf .any .leaf))))) (.i .i64 k) (.node (.node (.node (.node (.node .leaf .any .leaf) .any (.node .leaf .any .leaf)) .any (.node (.node .leaf .any .leaf) .any (.node .leaf .any .leaf))) .any (.node (.node (.node .leaf .any .leaf) .any (.node .leaf .any .leaf)) .any (.node (.node .leaf .any .leaf) .any (.node .leaf .any .leaf)))) .any (.node (.node (.node (.node .leaf .any .leaf) .any (.node .leaf .any .leaf)) .any (.node (.node .leaf .any .leaf) .any (.node .leaf .any .leaf))) .any (.node (.node (.node .leaf .any .leaf) .any (.node .leaf .any .leaf)) .any (.node (.node .leaf .any .leaf) .any (.node .leaf .any .leaf)))))))), [], loc, tokH acc.length⟩
      (Fin [.tmp 2, .tmp 3, .tmp 4] (tokR acc (lx l k))) := by
  intro n
  induction n with
  | zero =>
    intro l k acc loc hn hd hk ha
    obtain rfl : l = [] := List.length_eq_zero_iff.1 (by omega)
    have hl := drop_len hd hk
    simp only [List.length_nil, Nat.add_zero] at hl
    have e1 : decide ((k : Int) < (s.length : Int)) = false := decide_eq_false (by omega)
    rw [U21_1, lx_nil]
    simp only [e1, K21_1, tokR, List.append_nil, frz_toks, go_sem, ne_eq, not_false_eq_true, reduceIte, Nat.reduceMul, Nat.reduceAdd, Nat.reduceSub, Nat.reduceEqDiff, Nat.reduceLeDiff, Nat.reduceLT, List.take_succ_cons, List.take_zero, List.drop_succ_cons, List.cons_append]
  | succ n ih =>
    intro l k acc loc hn hd hk ha
    cases l with
    | nil =>
      have hl := drop_len hd hk
      simp only [List.length_nil, Nat.add_zero] at hl
      have e1 : decide ((k : Int) < (s.length : Int)) = false := decide_eq_false (by omega)
      rw [U21_1, lx_nil]
      simp only [e1, K21_1, tokR, List.append_nil, frz_toks, go_sem, ne_eq, not_false_eq_true, reduceIte, Nat.reduceMul, Nat.reduceAdd, Nat.reduceSub, Nat.reduceEqDiff, Nat.reduceLeDiff, Nat.reduceLT, List.take_succ_cons, List.take_zero, List.drop_succ_cons, List.cons_append]
    | cons a r =>
      have hl := drop_len hd hk
      simp only [List.length_cons] at hl hn
      have e1 : decide ((k : Int) < (s.length : Int)) = true := decide_eq_true (by omega)
      have e2 : (s.drop k).take (s.length - k) = a :: r := by rw [List.take_of_length_le (by simp), hd]
      have hm : acc.length + 1 ≤ most := by unfold most; omega
      have hcl := toks_len acc
      have w1 : wr .i64 ((k : Int) + 1) = ((k + 1 : Nat) : Int) := by rw [wr64] <;> omega
      -- a token is written behind
      have step : ∀ (t : Tok) (m : Nat) (loc' : List (Nat × List V)), 1 ≤ m → m ≤ r.length + 1 → t.at_ = k → M X_toks (kz21) (.code L21_1) (.loop L21_1 :: K21_1) ⟨gl, (.node (.node (.node (.node (.node (.node (.node (.node .leaf .any .leaf) .any (.node .leaf .any .leaf)) .any (.node (.node .leaf .any .leaf) .any (.node .leaf .any .leaf))) .any (.node (.node (.node .leaf .any .leaf) .any (.node .leaf .any .leaf)) .any (.node (.node .leaf .any .leaf) .any (.node .leaf .any .leaf)))) .any (.node (.node (.node (.node .leaf .any .leaf) .any (.node .leaf .any .leaf)) .any (.node (.node .leaf .any .leaf) .any (.node .leaf .any .leaf))) .any (.node (.node (.node .leaf .any .leaf) .any (.node .leaf .any .leaf)) .any (.node (.node .leaf .any .leaf) .any (.node .leaf .any .leaf))))) .any (.node (.node (.node (.node (.node .leaf .any .leaf) .any (.node .leaf .any .leaf)) .any (.node (.node .leaf .any .leaf) .any (.node .leaf .any .leaf))) .any (.node (.node (.node .leaf .any .leaf) .any (.node .leaf .any .leaf)) .any (.node (.node .leaf .any .leaf) .any (.node .leaf .any .leaf)))) .any (.node (.node (.node (.node .leaf .any .leaf) .any (.node .leaf .any .leaf)) .any (.node (.node .leaf .any .leaf) .any (.node .leaf .any .leaf))) .any (.node (.node (.node .leaf .any .leaf) .any (.node .leaf .any .leaf)) .any (.node (.node .leaf .any .leaf) .any (.node .leaf .any .leaf)))))) .any (.node (.node (.node (.node (.node (.node .leaf .any .leaf) .any (.node .leaf .any .leaf)) .any (.node (.node .leaf .any .leaf) .any (.node .leaf .any .leaf))) .any (.node (.node (.node .leaf .any .leaf) .any (.node .leaf .any .leaf)) .any (.node (.node .leaf .any .leaf) .any (.node .leaf .any .leaf)))) .any (.node (.node (.node (.node .leaf .any .leaf) .any (.node .leaf .any .leaf)) .any (.node (.node .leaf .any .leaf) .any (.node .leaf .any .leaf))) .any (.node (.node (.node .leaf .any .leaf) .any (.node .leaf .any .leaf)) .any (.node (.node .leaf .any .leaf) .any (.node .leaf .any .leaf))))) (.sl ((acc ++ [t]).flatMap Tok.cells) (acc ++ [t]).length (.own 1)) (.node (.node (.node (.node (.node .leaf .any .leaf) .any (.node .leaf .any .leaf)) .any (.node (.node .leaf .any .leaf) .any (.node .leaf .any .leaf))) .any (.node (.node (.node .leaf .any .leaf) .any (.node .leaf .any .leaf)) .any (.node (.node .leaf .any .leaf) .any (.node .leaf .any .leaf)))) .any (.node (.node (.node (.node .leaf .any .leaf) .any (.node .leaf .any .leaf)) .any (.node (.node .leaf .any .leaf) .any (.node .leaf .any .leaf))) .any (.node (.node (.node .leaf .any .leaf) .any (.node .leaf .any .leaf)) .any (.node (.node .leaf .any .leaf) .any (.node .leaf .any .leaf))))))) (.s s) (.node (.node (.node (.node (.node (.node (.node .leaf .any .leaf) .any (.node .leaf .any .leaf)) .any (.node (.node .leaf .any .leaf) .any (.node .leaf .any .leaf))) .any (.node (.node (.node .leaf .any .leaf) .any (.node .leaf .any .leaf)) .any (.node (.node .leaf .any .leaf) .any (.node .leaf .any .leaf)))) .any (.node (.node (.node (.node .leaf .any .leaf) .any (.node .leaf .any .leaf)) .any (.node (.node .leaf .any .leaf) .any (.node .leaf .any .leaf))) .any (.node (.node (.node .leaf .any .leaf) .any (.node .leaf .any .leaf)) .any (.node (.node .leaf .any .leaf) .any (.node .leaf .any .leaf))))) .any (.node (.node (.node (.node (.node .leaf .any .leaf) .any (.node .leaf .any .leaf)) .any (.node (.node .leaf .any .leaf) .any (.node .leaf .any .leaf))) .any (.node (.node (.node .leaf .any .leaf) .any (.node .leaf .any .leaf)) .any (.node (.node .leaf .any .leaf) .any (.node .leaf .any .leaf)))) .any (.node (.node (.node (.node .leaf .any .leaf) .any (.node .leaf .any .leaf)) .any (.node (.node .leaf .any .leaf) .any (.node .leaf .any .leaf))) .any (.node (.node (.node .leaf .any .leaf) .any (.node .leaf .any .leaf)) .any (.node (.node .leaf .any .leaf) .any (.node .leaf .any .leaf)))))) .any (.node (.node (.node (.node (.node (.node .leaf .any .leaf) .any (.node .leaf .any .leaf)) .any (.node (.node .leaf .any .leaf) .any (.node .leaf .any .leaf))) .any (.node (.node (.node .leaf .any .leaf) .any (.node .leaf .any .leaf)) .any (.node (.node .leaf .any .leaf) .any (.node .leaf .any .leaf)))) .any (.node (.node (.node (.node .leaf .any .leaf) .any (.node .leaf .any .leaf)) .any (.node (.node .leaf .any .leaf) .any (.node .leaf .any .leaf))) .any (.node (.node (.node .leaf .any .leaf) .any (.node .leaf .any .leaf)) .any (.node (.node .leaf .any .leaf) .any (.node .leaf .any .leaf))))) (.i .i64 ((k + m : Nat) : Int)) (.node (.node (.node (.node (.node .leaf .any .leaf) .any (.node .leaf .any .leaf)) .any (.node (.node .leaf .any .leaf) .any (.node .leaf .any .leaf))) .any (.node (.node (.node .leaf .any .leaf) .any (.node .leaf .any .leaf)) .any (.node (.node .leaf .any .leaf) .any (.node .leaf .any .leaf)))) .any (.node (.node (.node (.node .leaf .any .leaf) .any (.node .leaf .any .leaf)) .any (.node (.node .leaf .any .leaf) .any (.node .leaf .any .leaf))) .any (.node (.node (.node .leaf .any .leaf) .any (.node .leaf .any .leaf)) .any (.node (.node .leaf .any .leaf) .any (.node .leaf .any .leaf)))))))), [], loc', tokH (acc ++ [t]).length⟩
          (Fin [.tmp 2, .tmp 3, .tmp 4] (tokR (acc ++ [t]) (lx (r.drop (m - 1)) (k + m)))) := by
        intro t m loc' h1 h2 h3
        refine ih (r.drop (m - 1)) (k + m) (acc ++ [t]) loc' (by rw [List.length_drop]; omega) ?_ (by omega) (by simp; omega)
        rw [← List.drop_drop, hd]
        cases m with
        | zero => omega
        | succ m => rfl
      have cells_app : ∀ t : Tok, (acc ++ [t]).flatMap Tok.cells = acc.flatMap Tok.cells ++ [.i .i64 t.kind, .s t.text, .i .i64 t.at_] := fun t => by simp [Tok.cells]
      rw [U21_1]
      by_cases hlow : a.toNat < 128
      · have hdc : dec (a :: r) = (a.toNat, 1) := dec_ascii hlow r
        have i32 : decide (((a.toNat : Nat) : Int) = 32) = decide (a = 32) := decide_eq_decide.2 ⟨fun h => UInt8.toNat_inj.1 (by show a.toNat = 32; omega), fun h => by rw [h]; rfl⟩
        have i34 : decide (((a.toNat : Nat) : Int) = 34) = decide (a = 34) := decide_eq_decide.2 ⟨fun h => UInt8.toNat_inj.1 (by show a.toNat = 34; omega), fun h => by rw [h]; rfl⟩
        have i45 : decide (((a.toNat : Nat) : Int) = 45) = decide (a = 45) := decide_eq_decide.2 ⟨fun h => UInt8.toNat_inj.1 (by show a.toNat = 45; omega), fun h => by rw [h]; rfl⟩
        rw [lx_cons]
        by_cases c1 : a = 32
        · have f1 : decide (a = 32) = true := decide_eq_true c1
          rw [if_pos c1]
          have := ih r (k + 1) acc (lset loc 9 [.i .i64 0, .s [], .i .i64 k]) (by omega) (by rw [← List.drop_drop, hd]; rfl) (by omega) (by omega)
          simp only [e1, e2, hk, Nat.le_refl, tk_dec, hdc, i32, f1, w1, go_sem, ne_eq, not_false_eq_true, reduceIte, Nat.reduceMul, Nat.reduceAdd, Nat.reduceSub, Nat.reduceEqDiff, Nat.reduceLeDiff, Nat.reduceLT, List.take_succ_cons, List.take_zero, List.drop_succ_cons, List.cons_append]
          rw [M_loop]
          simp only [kz21, K21_1, List.length_cons, List.length_nil, go_sem, ne_eq, not_false_eq_true, reduceIte, Nat.reduceMul, Nat.reduceAdd, Nat.reduceSub, Nat.reduceEqDiff, Nat.reduceLeDiff, Nat.reduceLT, List.take_succ_cons, List.take_zero, List.drop_succ_cons, List.cons_append] at this ⊢
          exact this
        · have f1 : decide (a = 32) = false := decide_eq_false c1
          rw [if_neg c1]
          by_cases c2 : a = 34
          · have f2 : decide (a = 34) = true := decide_eq_true c2
            have hq := tk_quo a r (by simp only [List.length_cons]; omega)
            rw [if_pos c2]
            cases hqs : qscan r [] 1 with
            | none =>
              rw [hqs] at hq
              simp only [qres] at hq
              simp only [e1, e2, hk, Nat.le_refl, tk_dec, hdc, i32, f1, i34, f2, hq, K21_1, tokR, tokH, Int.cast_ofNat_Int, go_sem, ne_eq, not_false_eq_true, reduceIte, Nat.reduceMul, Nat.reduceAdd, Nat.reduceSub, Nat.reduceEqDiff, Nat.reduceLeDiff, Nat.reduceLT, List.take_succ_cons, List.take_zero, List.drop_succ_cons, List.cons_append]
            | some p =>
              obtain ⟨x, m⟩ := p
              rw [hqs] at hq
              simp only [qres] at hq
              obtain ⟨m1, m2⟩ := qscan_k r.length r [] 1 (Nat.le_refl _) x m hqs
              have f3 : decide ((m : Int) = 0) = false := decide_eq_false (by omega)
              have w2 : wr .i64 ((k : Int) + (m : Int)) = ((k + m : Nat) : Int) := by rw [wr64] <;> omega
              dsimp only
              rw [tokR_cons]
              have := step ⟨2, x, k⟩ m (lset loc 9 [.i .i64 2, .s x, .i .i64 k]) (by omega) (by omega) rfl
              rw [cells_app] at this
              simp only [List.length_append, List.length_cons, List.length_nil, Nat.zero_add] at this
              simp only [e1, e2, hk, Nat.le_refl, tk_dec, hdc, i32, f1, i34, f2, hq, f3, w2, hcl, hm, tokH, splice, List.take_zero, go_sem, ne_eq, not_false_eq_true, reduceIte, Nat.reduceMul, Nat.reduceAdd, Nat.reduceSub, Nat.reduceEqDiff, Nat.reduceLeDiff, Nat.reduceLT, List.take_succ_cons, List.take_zero, List.drop_succ_cons, List.cons_append]
              rw [M_loop]
              simp only [kz21, K21_1, tokH, List.length_cons, List.length_nil, Int.cast_ofNat_Int, go_sem, ne_eq, not_false_eq_true, reduceIte, Nat.reduceMul, Nat.reduceAdd, Nat.reduceSub, Nat.reduceEqDiff, Nat.reduceLeDiff, Nat.reduceLT, List.take_succ_cons, List.take_zero, List.drop_succ_cons, List.cons_append] at this ⊢
              exact this
          · have f2 : decide (a = 34) = false := decide_eq_false c2
            rw [if_neg c2]
            have hcat : ∀ m, (s.drop k).take (k + (m + 1) - k) = a :: r.take m := fun m => take_cat hd m
            by_cases c3 : letB a.toNat = true
            · rw [if_pos c3]
              have hw : wh letB (a :: r) = wh letB r + 1 := wh_pos c3
              have hle := wh_le letB r
              generalize wh letB r = w at hw hle ⊢
              have := step ⟨1, a :: r.take w, k⟩ (w + 1) (lset loc 9 [.i .i64 1, .s (a :: r.take w), .i .i64 k]) (by omega) (by omega) rfl
              rw [cells_app, Nat.add_sub_cancel] at this
              simp only [List.length_append, List.length_cons, List.length_nil, Nat.zero_add] at this
              have w2 : wr .i64 ((k : Int) + ((w + 1 : Nat) : Int)) = ((k + (w + 1) : Nat) : Int) := by rw [wr64] <;> omega
              have g1 : k + (w + 1) ≤ s.length := by omega
              have g2 : k ≤ k + (w + 1) := by omega
              rw [show k + 1 + w = k + (w + 1) from by omega, tokR_cons]
              simp only [e1, e2, hk, Nat.le_refl, tk_dec, hdc, i32, f1, i34, f2, tk_let, c3, tk_whL, hw, w2, g1, g2, hcat, hcl, hm, tokH, splice, List.take_zero, go_sem, ne_eq, not_false_eq_true, reduceIte, Nat.reduceMul, Nat.reduceAdd, Nat.reduceSub, Nat.reduceEqDiff, Nat.reduceLeDiff, Nat.reduceLT, List.take_succ_cons, List.take_zero, List.drop_succ_cons, List.cons_append]
              rw [M_loop]
              simp only [kz21, K21_1, tokH, List.length_cons, List.length_nil, Int.cast_ofNat_Int, go_sem, ne_eq, not_false_eq_true, reduceIte, Nat.reduceMul, Nat.reduceAdd, Nat.reduceSub, Nat.reduceEqDiff, Nat.reduceLeDiff, Nat.reduceLT, List.take_succ_cons, List.take_zero, List.drop_succ_cons, List.cons_append] at this ⊢
              exact this
            · rw [if_neg c3]
              have c3' : letB a.toNat = false := by simpa using c3
              by_cases c4 : digB a.toNat = true
              · rw [if_pos c4]
                have hw : wh digB (a :: r) = wh digB r + 1 := wh_pos c4
                have hle := wh_le digB r
                generalize wh digB r = w at hw hle ⊢
                have := step ⟨3, a :: r.take w, k⟩ (w + 1) (lset loc 9 [.i .i64 3, .s (a :: r.take w), .i .i64 k]) (by omega) (by omega) rfl
                rw [cells_app, Nat.add_sub_cancel] at this
                simp only [List.length_append, List.length_cons, List.length_nil, Nat.zero_add] at this
                have w2 : wr .i64 ((k : Int) + ((w + 1 : Nat) : Int)) = ((k + (w + 1) : Nat) : Int) := by rw [wr64] <;> omega
                have g1 : k + (w + 1) ≤ s.length := by omega
                have g2 : k ≤ k + (w + 1) := by omega
                rw [show k + 1 + w = k + (w + 1) from by omega, tokR_cons]
                simp only [e1, e2, hk, Nat.le_refl, tk_dec, hdc, i32, f1, i34, f2, tk_let, c3', tk_dig, c4, tk_whD, hw, w2, g1, g2, hcat, hcl, hm, tokH, splice, List.take_zero, go_sem, ne_eq, not_false_eq_true, reduceIte, Nat.reduceMul, Nat.reduceAdd, Nat.reduceSub, Nat.reduceEqDiff, Nat.reduceLeDiff, Nat.reduceLT, List.take_succ_cons, List.take_zero, List.drop_succ_cons, List.cons_append]
                rw [M_loop]
                simp only [kz21, K21_1, tokH, List.length_cons, List.length_nil, Int.cast_ofNat_Int, go_sem, ne_eq, not_false_eq_true, reduceIte, Nat.reduceMul, Nat.reduceAdd, Nat.reduceSub, Nat.reduceEqDiff, Nat.reduceLeDiff, Nat.reduceLT, List.take_succ_cons, List.take_zero, List.drop_succ_cons, List.cons_append] at this ⊢
                exact this
              · rw [if_neg c4]
                have c4' : digB a.toNat = false := by simpa using c4
                have w0 : wr .i64 ((k : Int) + 1) = ((k + 1 : Nat) : Int) := by rw [wr64] <;> omega
                by_cases c5 : a = 45 ∧ headDig r = true
                · rw [if_pos c5]
                  obtain ⟨c5, c6⟩ := c5
                  cases r with
                  | nil => cases c6
                  | cons b r2 =>
                    have f3 : decide (a = 45) = true := decide_eq_true c5
                    have c6' : digB b.toNat = true := c6
                    have hget : s[k + 1]? = some b := get_drop (by rw [← List.drop_drop, hd]; rfl)
                    have e3 : decide ((k + 1 : Nat) < (s.length : Int)) = true := decide_eq_true (by simp only [List.length_cons] at hl; omega)
                    have hb : wr .i32 ((b.toNat : Nat) : Int) = (b.toNat : Int) := by have := b.toNat_lt; simp only [wr, lo]; split <;> omega
                    have e4 : (s.drop (k + 1)).take (s.length - (k + 1)) = b :: r2 := by rw [List.take_of_length_le (by simp), ← List.drop_drop, hd]; rfl
                    have g0 : k + 1 ≤ s.length := by simp only [List.length_cons] at hl; omega
                    have hle := wh_le digB (b :: r2)
                    have hwD := tk_whD (b :: r2)
                    generalize wh digB (b :: r2) = w at hle hwD ⊢
                    generalize hr : b :: r2 = r at *
                    have w3 : wr .i64 (1 + (w : Int)) = ((w + 1 : Nat) : Int) := by rw [wr64] <;> omega
                    have := step ⟨3, a :: r.take w, k⟩ (w + 1) (lset loc 9 [.i .i64 3, .s (a :: r.take w), .i .i64 k]) (by omega) (by omega) rfl
                    rw [cells_app, Nat.add_sub_cancel] at this
                    simp only [List.length_append, List.length_cons, List.length_nil, Nat.zero_add] at this
                    have w2 : wr .i64 ((k : Int) + ((w + 1 : Nat) : Int)) = ((k + (w + 1) : Nat) : Int) := by rw [wr64] <;> omega
                    have g1 : k + (w + 1) ≤ s.length := by omega
                    have g2 : k ≤ k + (w + 1) := by omega
                    rw [show k + 1 + w = k + (w + 1) from by omega, tokR_cons]
                    simp only [e1, e2, hk, Nat.le_refl, tk_dec, hdc, i32, f1, i34, f2, tk_let, c3', tk_dig, c4', i45, f3, w0, e3, byteV, hget, hb, c6', e4, g0, hwD, w3, Int.cast_ofNat_Int, w2, g1, g2, hcat, hcl, hm, tokH, splice, List.take_zero, go_sem, ne_eq, not_false_eq_true, reduceIte, Nat.reduceMul, Nat.reduceAdd, Nat.reduceSub, Nat.reduceEqDiff, Nat.reduceLeDiff, Nat.reduceLT, List.take_succ_cons, List.take_zero, List.drop_succ_cons, List.cons_append]
                    rw [M_loop]
                    simp only [kz21, K21_1, tokH, List.length_cons, List.length_nil, Int.cast_ofNat_Int, go_sem, ne_eq, not_false_eq_true, reduceIte, Nat.reduceMul, Nat.reduceAdd, Nat.reduceSub, Nat.reduceEqDiff, Nat.reduceLeDiff, Nat.reduceLT, List.take_succ_cons, List.take_zero, List.drop_succ_cons, List.cons_append] at this ⊢
                    exact this
                · rw [if_neg c5]
                  by_cases c8 : a = 45
                  · have c7 : ¬ sgnB a.toNat = true := by rw [c8]; decide
                    have c7' : sgnB a.toNat = false := by simpa using c7
                    have f3 : decide (a = 45) = true := decide_eq_true c8
                    rw [if_neg c7]
                    cases r with
                    | nil =>
                      have e3 : decide ((k + 1 : Nat) < (s.length : Int)) = false := decide_eq_false (by simp only [List.length_nil] at hl; omega)
                      simp only [e1, e2, hk, Nat.le_refl, tk_dec, hdc, i32, f1, i34, f2, tk_let, c3', tk_dig, c4', i45, f3, w0, e3, tk_sgn, c7', K21_1, tokR, tokH, Int.cast_ofNat_Int, go_sem, ne_eq, not_false_eq_true, reduceIte, Nat.reduceMul, Nat.reduceAdd, Nat.reduceSub, Nat.reduceEqDiff, Nat.reduceLeDiff, Nat.reduceLT, List.take_succ_cons, List.take_zero, List.drop_succ_cons, List.cons_append]
                    | cons b r2 =>
                      have c6' : digB b.toNat = false := by
                        cases h : digB b.toNat with
                        | false => rfl
                        | true => exact absurd ⟨c8, h⟩ c5
                      have hget : s[k + 1]? = some b := get_drop (by rw [← List.drop_drop, hd]; rfl)
                      have e3 : decide ((k + 1 : Nat) < (s.length : Int)) = true := decide_eq_true (by simp only [List.length_cons] at hl; omega)
                      have hb : wr .i32 ((b.toNat : Nat) : Int) = (b.toNat : Int) := by have := b.toNat_lt; simp only [wr, lo]; split <;> omega
                      simp only [e1, e2, hk, Nat.le_refl, tk_dec, hdc, i32, f1, i34, f2, tk_let, c3', tk_dig, c4', i45, f3, w0, e3, byteV, hget, hb, c6', tk_sgn, c7', K21_1, tokR, tokH, Int.cast_ofNat_Int, go_sem, ne_eq, not_false_eq_true, reduceIte, Nat.reduceMul, Nat.reduceAdd, Nat.reduceSub, Nat.reduceEqDiff, Nat.reduceLeDiff, Nat.reduceLT, List.take_succ_cons, List.take_zero, List.drop_succ_cons, List.cons_append]
                  · have f3 : decide (a = 45) = false := decide_eq_false c8
                    by_cases c7 : sgnB a.toNat = true
                    · rw [if_pos c7]
                      have := step ⟨4, [a], k⟩ 1 (lset loc 9 [.i .i64 4, .s [a], .i .i64 k]) (by omega) (by omega) rfl
                      rw [cells_app, Nat.sub_self, List.drop_zero] at this
                      simp only [List.length_append, List.length_cons, List.length_nil, Nat.zero_add] at this
                      have g1 : k + 1 ≤ s.length := by omega
                      have g2 : k ≤ k + 1 := by omega
                      have hc0 : (s.drop k).take (k + 1 - k) = [a] := hcat 0
                      rw [tokR_cons]
                      simp only [e1, e2, hk, Nat.le_refl, tk_dec, hdc, i32, f1, i34, f2, tk_let, c3', tk_dig, c4', i45, f3, w0, tk_sgn, c7, g1, g2, hc0, hcl, hm, tokH, splice, List.take_zero, Int.cast_ofNat_Int, go_sem, ne_eq, not_false_eq_true, reduceIte, Nat.reduceMul, Nat.reduceAdd, Nat.reduceSub, Nat.reduceEqDiff, Nat.reduceLeDiff, Nat.reduceLT, List.take_succ_cons, List.take_zero, List.drop_succ_cons, List.cons_append]
                      rw [M_loop]
                      simp only [kz21, K21_1, tokH, List.length_cons, List.length_nil, Int.cast_ofNat_Int, go_sem, ne_eq, not_false_eq_true, reduceIte, Nat.reduceMul, Nat.reduceAdd, Nat.reduceSub, Nat.reduceEqDiff, Nat.reduceLeDiff, Nat.reduceLT, List.take_succ_cons, List.take_zero, List.drop_succ_cons, List.cons_append] at this ⊢
                      exact this
                    · have c7' : sgnB a.toNat = false := by simpa using c7
                      rw [if_neg c7]
                      simp only [e1, e2, hk, Nat.le_refl, tk_dec, hdc, i32, f1, i34, f2, tk_let, c3', tk_dig, c4', i45, f3, tk_sgn, c7', K21_1, tokR, tokH, Int.cast_ofNat_Int, go_sem, ne_eq, not_false_eq_true, reduceIte, Nat.reduceMul, Nat.reduceAdd, Nat.reduceSub, Nat.reduceEqDiff, Nat.reduceLeDiff, Nat.reduceLT, List.take_succ_cons, List.take_zero, List.drop_succ_cons, List.cons_append]
      · have hh := dec_high (r := r) hlow
        have h1 : decide (((dec (a :: r)).1 : Int) = 32) = false := decide_eq_false (by omega)
        have h2 : decide (((dec (a :: r)).1 : Int) = 34) = false := decide_eq_false (by omega)
        have h3 : decide (((dec (a :: r)).1 : Int) = 45) = false := decide_eq_false (by omega)
        have l1 := let_hi _ hh
        have l2 := dig_hi _ hh
        have l3 := sgn_hi _ hh
        have n1 : a ≠ 32 := fun h => hlow (by rw [h]; decide)
        have n2 : a ≠ 34 := fun h => hlow (by rw [h]; decide)
        have n3 : ¬ (a = 45 ∧ headDig r = true) := fun h => hlow (by rw [h.1]; decide)
        rw [lx_cons, if_neg n1, if_neg n2, let_hi a.toNat (by omega), dig_hi a.toNat (by omega), sgn_hi a.toNat (by omega), if_neg n3]
        simp only [e1, e2, hk, Nat.le_refl, tk_dec, h1, h2, h3, tk_let, l1, tk_dig, l2, tk_sgn, l3, Bool.false_eq_true, if_false, K21_1, tokR, tokH, Int.cast_ofNat_Int, go_sem, ne_eq, not_false_eq_true, reduceIte, Nat.reduceMul, Nat.reduceAdd, Nat.reduceSub, Nat.reduceEqDiff, Nat.reduceLeDiff, Nat.reduceLT, List.take_succ_cons, List.take_zero, List.drop_succ_cons, List.cons_append]
/-- The tokens of a text. -/
theorem w_Tokens (s : List UInt8) (hs : s.length ≤ 1048576) (gl : Nat → List V) : M X_toks (kz21) (.code B21) [] (St.init gl 8 [.s s] {}) (Fin [.tmp 2, .tmp 3, .tmp 4] (tokR [] (lx s 0))) := by
  rw [U21]
  simp only [go_sem, ne_eq, not_false_eq_true, reduceIte, Nat.reduceMul, Nat.reduceAdd, Nat.reduceSub, Nat.reduceEqDiff, Nat.reduceLeDiff, Nat.reduceLT, List.take_succ_cons, List.take_zero, List.drop_succ_cons, List.cons_append]
  rw [M_loop]
  have := w_Tokens_loop s hs gl s.length s 0 [] [] (Nat.le_refl _) rfl (by omega) (by simp)
  simp only [kz21, K21_1, tokH, List.flatMap_nil, List.length_cons, List.length_nil, Int.cast_ofNat_Int, go_sem, ne_eq, not_false_eq_true, reduceIte, Nat.reduceMul, Nat.reduceAdd, Nat.reduceSub, Nat.reduceEqDiff, Nat.reduceLeDiff, Nat.reduceLT, List.take_succ_cons, List.take_zero, List.drop_succ_cons, List.cons_append] at this ⊢
  exact this
def F_Tokens (a : List V) : Option V := match a with
  | [.s s] => if s.length ≤ 1048576 then some (tokR [] (lx s 0)) else none
  | _ => none
theorem F_Tokens1 (s : List UInt8) (h : s.length ≤ 1048576) : F_Tokens [.s s] = some (tokR [] (lx s 0)) := if_pos h
theorem o_Tokens : ∀ a v, F_Tokens a = some v → Comp tabx told 21 a v := fun a v e => by
  unfold F_Tokens at e
  split at e
  · split at e
    · rename_i h; cases e; exact comp_of t_toks (fn := af21) rfl (Nat.le_of_ble_eq_true rfl) fun gl => w_Tokens _ h gl
    · cases e
  · cases e
end Go.Proofs.YtbhclhgljnoioaaDoor
