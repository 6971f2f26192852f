/- lang: LangMeant. -/
import Derived.Test.YtbhclhgljnoioaaDoorLx6
set_option linter.unusedSimpArgs false
set_option linter.unusedVariables false
namespace Go.Proofs.YtbhclhgljnoioaaDoor
open Ai
def K27_1 : List Fr := [.blk 0,
  .seq (.seq (.reg [⟨some 4, .mov (.k (.b true)), none⟩])
    .ret)]
theorem U27_1 {xf : FuncId → List V → Option V} {kz : Nat → List Nat} {k : List Fr} {st : St} {Q : AEx → St → Prop} : M xf kz (.code L27_1) k st Q = M xf kz (.code (.seq (.reg [⟨some 14, .bin .lss (.t 13) (.t 12), none⟩])
  (.seq (.cond (.t 14)
    .skip
    (.exit 0))
  (.seq (.blk 1 (.seq (.reg [⟨some 15, .mov (.t 13), none⟩,
       ⟨some 5, .mov (.t 15), none⟩])
    (.seq (.reg [⟨some 16, .mov (.t 0), none⟩,
       ⟨some 17, .mov (.t 5), none⟩,
       ⟨some 18, .iaddr (.slice 3) (.t 16) (.t 17), none⟩,
       ⟨some 19, .load true 3 (.t 18), none⟩,
       ⟨some 20, .mov (.t 1), none⟩,
       ⟨some 21, .mov (.t 5), none⟩,
       ⟨some 22, .iaddr (.slice 3) (.t 20) (.t 21), none⟩,
       ⟨some 23, .load true 3 (.t 22), none⟩,
       ⟨some 24, .eq true (.struct [(0, 1, false, .int), (1, 1, false, .str), (2, 1, false, .int)]) (.t 19) (.t 23), none⟩])
    (.cond (.t 24)
     (.seq (.reg [⟨some 4, .mov (.k (.b false)), none⟩])
     .ret)
     .skip))))
  (.reg [⟨some 25, .bin .add (.t 13) (.k (.i .i64 1)), none⟩,
    ⟨some 13, .mov (.t 25), none⟩]))))) k st Q := rfl
theorem U27 {xf : FuncId → List V → Option V} {kz : Nat → List Nat} {k : List Fr} {st : St} {Q : AEx → St → Prop} : M xf kz (.code B27) k st Q = M xf kz (.code (.seq (.reg [⟨some 4, .mov (.k (.b false)), none⟩])
  (.seq (.seq (.reg [⟨some 6, .mov (.t 0), none⟩,
      ⟨some 7, .len .slice (.t 6), none⟩,
      ⟨some 8, .mov (.t 1), none⟩,
      ⟨some 9, .len .slice (.t 8), none⟩,
      ⟨some 10, .bin .neq (.t 7) (.t 9), none⟩])
   (.cond (.t 10)
    (.seq (.reg [⟨some 4, .mov (.k (.b false)), none⟩])
    .ret)
    .skip))
  (.seq (.seq (.reg [⟨some 11, .mov (.t 0), none⟩,
      ⟨some 12, .len .slice (.t 11), none⟩,
      ⟨some 13, .mov (.k (.i .i64 0)), none⟩])
   (.blk 0 (.loop L27_1)))
  (.seq (.reg [⟨some 4, .mov (.k (.b true)), none⟩])
  .ret))))) k st Q := rfl
def kz27 (_ : Nat) : List Nat := [2, 3, 4, 5, 6, 7, 8, 9, 10, 11, 14, 15, 16, 17, 18, 19, 20, 21, 22, 23, 24, 25]
theorem tok_drop (pre post : List Tok) : ((pre ++ post).flatMap Tok.cells).drop (pre.length * 3) = post.flatMap Tok.cells := by
  rw [List.flatMap_append, ← toks_len pre, List.drop_left]
/-- Equal rows of tokens. -/
theorem w_SEq_loop (l : List Tok) (t1 t2 : Tk) (hm : l.length ≤ 1048576) (gl : Nat → List V) : ∀ (post pre : List Tok), l = pre ++ post →
    M noX (kz27) (.code L27_1) (.loop L27_1 :: K27_1) ⟨gl, (.node (.node (.node (.node (.node .leaf .any .leaf) .any (.node .leaf .any .leaf)) .any (.node (.node .leaf .any .leaf) .any (.node .leaf .any .leaf))) (.sl (l.flatMap Tok.cells) l.length t2) (.node (.node (.node .leaf .any .leaf) .any (.node .leaf .any .leaf)) .any (.node (.node .leaf .any .leaf) (.i .i64 pre.length) (.node .leaf .any .leaf)))) (.sl (l.flatMap Tok.cells) l.length t1) (.node (.node (.node (.node .leaf .any .leaf) .any (.node .leaf .any .leaf)) .any (.node (.node .leaf .any .leaf) (.i .i64 l.length) (.node .leaf .any .leaf))) .any (.node (.node (.node .leaf .any .leaf) .any (.node .leaf .any .leaf)) .any (.node (.node .leaf .any .leaf) .any (.node .leaf .any .leaf))))), [], [], {}⟩ (Fin [.tmp 4] (.b true)) := by
  intro post
  induction post with
  | nil =>
    intro pre h
    have hl : l.length = pre.length := by rw [h]; simp
    have e1 : decide ((pre.length : Int) < (l.length : Int)) = false := decide_eq_false (by omega)
    rw [U27_1]
    simp only [e1, K27_1, go_sem, ne_eq, not_false_eq_true, reduceIte, Nat.reduceMul, Nat.reduceAdd, Nat.reduceSub, Nat.reduceEqDiff, Nat.reduceLeDiff, Nat.reduceLT, List.take_succ_cons, List.take_zero, List.drop_succ_cons, List.cons_append]
  | cons t post ih =>
    intro pre h
    have hl : l.length = pre.length + post.length + 1 := by rw [h]; simp; omega
    have e1 : decide ((pre.length : Int) < (l.length : Int)) = true := decide_eq_true (by omega)
    have hc := toks_len l
    have hd : (l.flatMap Tok.cells).drop (pre.length * 3) = .i .i64 t.kind :: .s t.text :: .i .i64 t.at_ :: post.flatMap Tok.cells := by rw [h, tok_drop]; rfl
    have g1 : pre.length < l.length := by omega
    have g2 : (pre.length + 1) * 3 ≤ l.length * 3 := by omega
    have w1 : wr .i64 ((pre.length : Int) + 1) = ((pre.length + 1 : Nat) : Int) := by rw [wr64] <;> omega
    have := ih (pre ++ [t]) (by rw [h]; simp)
    rw [U27_1]
    simp only [e1, hc, rd_ip, hd, g1, g2, w1, strEq_self, go_sem, ne_eq, not_false_eq_true, reduceIte, Nat.reduceMul, Nat.reduceAdd, Nat.reduceSub, Nat.reduceEqDiff, Nat.reduceLeDiff, Nat.reduceLT, List.take_succ_cons, List.take_zero, List.drop_succ_cons, List.cons_append]
    rw [M_loop]
    simp only [kz27, K27_1, List.length_append, List.length_cons, List.length_nil, go_sem, ne_eq, not_false_eq_true, reduceIte, Nat.reduceMul, Nat.reduceAdd, Nat.reduceSub, Nat.reduceEqDiff, Nat.reduceLeDiff, Nat.reduceLT, List.take_succ_cons, List.take_zero, List.drop_succ_cons, List.cons_append] at this ⊢
    exact this
theorem w_SEq (l : List Tok) (t1 t2 : Tk) (hm : l.length ≤ 1048576) (gl : Nat → List V) : M noX (kz27) (.code B27) [] (St.init gl 5 [.sl (l.flatMap Tok.cells) l.length t1, .sl (l.flatMap Tok.cells) l.length t2] {}) (Fin [.tmp 4] (.b true)) := by
  rw [U27]
  simp only [go_sem, ne_eq, not_false_eq_true, reduceIte, Nat.reduceMul, Nat.reduceAdd, Nat.reduceSub, Nat.reduceEqDiff, Nat.reduceLeDiff, Nat.reduceLT, List.take_succ_cons, List.take_zero, List.drop_succ_cons, List.cons_append]
  rw [M_loop]
  have := w_SEq_loop l t1 t2 hm gl l [] rfl
  simp only [kz27, K27_1, List.length_cons, List.length_nil, Int.cast_ofNat_Int, go_sem, ne_eq, not_false_eq_true, reduceIte, Nat.reduceMul, Nat.reduceAdd, Nat.reduceSub, Nat.reduceEqDiff, Nat.reduceLeDiff, Nat.reduceLT, List.take_succ_cons, List.take_zero, List.drop_succ_cons, List.cons_append] at this ⊢
  exact this
noncomputable def F_SEq (a : List V) : Option V := match a with
  | [.sl x n t, .sl y m u] => open Classical in if h : ∃ l : List Tok, x = l.flatMap Tok.cells ∧ n = l.length ∧ y = l.flatMap Tok.cells ∧ m = l.length ∧ l.length ≤ 1048576 then some (.b true) else none
  | _ => none
theorem F_SEq1 (l : List Tok) (t u : Tk) (h : l.length ≤ 1048576) : F_SEq [.sl (l.flatMap Tok.cells) l.length t, .sl (l.flatMap Tok.cells) l.length u] = some (.b true) := dif_pos ⟨l, rfl, rfl, rfl, rfl, h⟩
theorem tok_strip (l : List Tok) : stripL (l.flatMap Tok.cells) = l.flatMap Tok.cells := by
  induction l with
  | nil => rfl
  | cons t r ih =>
    rw [List.flatMap_cons]
    show V.strip _ :: V.strip _ :: V.strip _ :: stripL (r.flatMap Tok.cells) = _
    rw [ih]; rfl
theorem o_SEq : ∀ a v, F_SEq a = some v → Comp tabx told 27 a v := fun a v e => by
  unfold F_SEq at e
  split at e
  · rename_i x n t y m u
    split at e
    · rename_i h
      obtain ⟨l, rfl, rfl, rfl, rfl, hm⟩ := h
      cases e
      refine comp_of (kz := kz27) tells_noX (fn := af27) rfl (Nat.le_of_ble_eq_true rfl) fun gl => ?_
      have := w_SEq l t.cp u.cp hm gl
      simp only [stripL, V.strip, tok_strip]
      exact this
    · cases e
  · cases e
theorem lx_len : ∀ (n : Nat) (l : List UInt8) (k : Nat) (m : List Tok), l.length ≤ n → lx l k = .ok m → m.length ≤ l.length := by
  intro n
  induction n with
  | zero =>
    intro l k m hn h
    obtain rfl : l = [] := List.length_eq_zero_iff.1 (by omega)
    rw [lx_nil] at h; cases h; exact Nat.le_refl _
  | succ n ih =>
    intro l k m hn h
    cases l with
    | nil => rw [lx_nil] at h; cases h; exact Nat.le_refl _
    | cons a r =>
      simp only [List.length_cons] at hn ⊢
      rw [lx_cons] at h
      split at h
      · have := ih r _ _ (by omega) h; omega
      · split at h
        · cases hq : qscan r [] 1 with
          | none => rw [hq] at h; cases h
          | some p =>
            obtain ⟨x, j⟩ := p
            rw [hq] at h
            obtain ⟨m', e1, rfl⟩ := Lx.cons_ok h
            have := ih _ _ _ (by rw [List.length_drop]; omega) e1
            rw [List.length_drop] at this
            simp only [List.length_cons]; omega
        · split at h
          · obtain ⟨m', e1, rfl⟩ := Lx.cons_ok h
            have := ih _ _ _ (by rw [List.length_drop]; omega) e1
            rw [List.length_drop] at this
            simp only [List.length_cons]; omega
          · split at h
            · obtain ⟨m', e1, rfl⟩ := Lx.cons_ok h
              have := ih _ _ _ (by rw [List.length_drop]; omega) e1
              rw [List.length_drop] at this
              simp only [List.length_cons]; omega
            · split at h
              · obtain ⟨m', e1, rfl⟩ := Lx.cons_ok h
                have := ih _ _ _ (by rw [List.length_drop]; omega) e1
                rw [List.length_drop] at this
                simp only [List.length_cons]; omega
              · split at h
                · obtain ⟨m', e1, rfl⟩ := Lx.cons_ok h
                  have := ih _ _ _ (by omega) e1
                  simp only [List.length_cons]; omega
                · cases h
end Go.Proofs.YtbhclhgljnoioaaDoor
