/- lang: LangMeant. -/
import Derived.Test.YtbhclhgljnoioaaDoorLx6
set_option linter.unusedSimpArgs false
set_option linter.unusedVariables false
namespace Go.Proofs.YtbhclhgljnoioaaDoor
open Ai
def K27_1 : List Fr := [.blk 0,
  .seq (.seq (.reg [⟨some 4, .mov (.k (.b true)), none⟩])
    .ret)]
theorem U27_1 {xf : FuncId → List V → Option V} {kz : Nat → List Nat} {k : List Fr} {st : St} {Q : AEx → St → Prop} : M xf kz (.code L27_1) k st Q = M xf kz (.code (.seq (.reg [⟨some 14, .bin .lss (.t 13) (.t 12), none⟩])
  (.seq (.cond (.t 14)
    .skip
    (.exit 0))
  (.seq (.blk 1 (.seq (.reg [⟨some 15, .mov (.t 13), none⟩,
       ⟨some 5, .mov (.t 15), none⟩])
    (.seq (.reg [⟨some 16, .mov (.t 0), none⟩,
       ⟨some 17, .mov (.t 5), none⟩,
       ⟨some 18, .iaddr (.slice 3) (.t 16) (.t 17), none⟩,
       ⟨some 19, .load true 3 (.t 18), none⟩,
       ⟨some 20, .mov (.t 1), none⟩,
       ⟨some 21, .mov (.t 5), none⟩,
       ⟨some 22, .iaddr (.slice 3) (.t 20) (.t 21), none⟩,
       ⟨some 23, .load true 3 (.t 22), none⟩,
       ⟨some 24, .eq true (.struct [(0, 1, false, .int), (1, 1, false, .str), (2, 1, false, .int)]) (.t 19) (.t 23), none⟩])
    (.cond (.t 24)
     (.seq (.reg [⟨some 4, .mov (.k (.b false)), none⟩])
     .ret)
     .skip))))
  (.reg [⟨some 25, .bin .add (.t 13) (.k (.i .i64 1)), none⟩,
    ⟨some 13, .mov (.t 25), none⟩]))))) k st Q := rfl
theorem U27 {xf : FuncId → List V → Option V} {kz : Nat → List Nat} {k : List Fr} {st : St} {Q : AEx → St → Prop} : M xf kz (.code B27) k st Q = M xf kz (.code (.seq (.reg [⟨some 4, .mov (.k (.b false)), none⟩])
  (.seq (.seq (.reg [⟨some 6, .mov (.t 0), none⟩,
      ⟨some 7, .len .slice (.t 6), none⟩,
      ⟨some 8, .mov (.t 1), none⟩,
      ⟨some 9, .len .slice (.t 8), none⟩,
      ⟨some 10, .bin .neq (.t 7) (.t 9), none⟩])
   (.cond (.t 10)
    (.seq (.reg [⟨some 4, .mov (.k (.b false)), none⟩])
    .ret)
    .skip))
  (.seq (.seq (.reg [⟨some 11, .mov (.t 0), none⟩,
      ⟨some 12, .len .slice (.t 11), none⟩,
      ⟨some 13, .mov (.k (.i .i64 0)), none⟩])
   (.blk 0 (.loop L27_1)))
  (.seq (.reg [⟨some 4, .mov (.k (.b true)), none⟩])
  .ret))))) k st Q := rfl
def kz27 (_ : Nat) : List Nat := [2, 3, 4, 5, 6, 7, 8, 9, 10, 11, 14, 15, 16, 17, 18, 19, 20, 21, 22, 23, 24, 25]
theorem tok_drop (pre post : List Tok) : ((pre ++ post).flatMap Tok.cells).drop (pre.length * 3) = post.flatMap Tok.cells := by
  rw [List.flatMap_append, ← toks_len pre, List.drop_left]
theorem tok_take (pre post : List Tok) : ((pre ++ post).flatMap Tok.cells).take (pre.length * 3) = pre.flatMap Tok.cells := by
  rw [List.flatMap_append, ← toks_len pre, List.take_left]
/-- Equal rows of tokens. -/
theorem w_SEq_loop (l : List Tok) (t1 t2 : Tk) (hm : l.length ≤ 1048576) (gl : Nat → List V) : ∀ (post pre : List Tok), l = pre ++ post →
    M noX (kz27) (.code L27_1) (.loop L27_1 :: K27_1) ⟨gl, (.node (.node (.node (.node (.node .leaf .any .leaf) .any (.node .leaf .any .leaf)) .any (.node (.node .leaf .any .leaf) .any (.node .leaf .any .leaf))) (.sl (l.flatMap Tok.cells) l.length t2) (.node (.node (.node .leaf .any .leaf) .any (.node .leaf .any .leaf)) .any (.node (.node .leaf .any .leaf) (.i .i64 pre.length) (.node .leaf .any .leaf)))) (.sl (l.flatMap Tok.cells) l.length t1) (.node (.node (.node (.node .leaf .any .leaf) .any (.node .leaf .any .leaf)) .any (.node (.node .leaf .any .leaf) (.i .i64 l.length) (.node .leaf .any .leaf))) .any (.node (.node (.node .leaf .any .leaf) .any (.node .leaf .any .leaf)) .any (.node (.node .leaf .any .leaf) .any (.node .leaf .any .leaf))))), [], [], {}⟩ (Fin [.tmp 4] (.b true)) := by
  intro post
  induction post with
  | nil =>
    intro pre h
    have hl : l.length = pre.length := by rw [h]; simp
    have e1 : decide ((pre.length : Int) < (l.length : Int)) = false := decide_eq_false (by omega)
    rw [U27_1]
    simp only [e1, K27_1, go_sem, ne_eq, not_false_eq_true, reduceIte, Nat.reduceMul, Nat.reduceAdd, Nat.reduceSub, Nat.reduceEqDiff, Nat.reduceLeDiff, Nat.reduceLT, List.take_succ_cons, List.take_zero, List.drop_succ_cons, List.cons_append]
  | cons t post ih =>
    intro pre h
    have hl : l.length = pre.length + post.length + 1 := by rw [h]; simp; omega
    have e1 : decide ((pre.length : Int) < (l.length : Int)) = true := decide_eq_true (by omega)
    have hc := toks_len l
    have hd : (l.flatMap Tok.cells).drop (pre.length * 3) = .i .i64 t.kind :: .s t.text :: .i .i64 t.at_ :: post.flatMap Tok.cells := by rw [h, tok_drop]; rfl
    have g1 : pre.length < l.length := by omega
    have g2 : (pre.length + 1) * 3 ≤ l.length * 3 := by omega
    have w1 : wr .i64 ((pre.length : Int) + 1) = ((pre.length + 1 : Nat) : Int) := by rw [wr64] <;> omega
    have := ih (pre ++ [t]) (by rw [h]; simp)
    rw [U27_1]
    simp only [e1, hc, rd_ip, hd, g1, g2, w1, strEq_self, go_sem, ne_eq, not_false_eq_true, reduceIte, Nat.reduceMul, Nat.reduceAdd, Nat.reduceSub, Nat.reduceEqDiff, Nat.reduceLeDiff, Nat.reduceLT, List.take_succ_cons, List.take_zero, List.drop_succ_cons, List.cons_append]
    rw [M_loop]
    simp only [kz27, K27_1, List.length_append, List.length_cons, List.length_nil, go_sem, ne_eq, not_false_eq_true, reduceIte, Nat.reduceMul, Nat.reduceAdd, Nat.reduceSub, Nat.reduceEqDiff, Nat.reduceLeDiff, Nat.reduceLT, List.take_succ_cons, List.take_zero, List.drop_succ_cons, List.cons_append] at this ⊢
    exact this
theorem w_SEq (l : List Tok) (t1 t2 : Tk) (hm : l.length ≤ 1048576) (gl : Nat → List V) : M noX (kz27) (.code B27) [] (St.init gl 5 [.sl (l.flatMap Tok.cells) l.length t1, .sl (l.flatMap Tok.cells) l.length t2] {}) (Fin [.tmp 4] (.b true)) := by
  rw [U27]
  simp only [go_sem, ne_eq, not_false_eq_true, reduceIte, Nat.reduceMul, Nat.reduceAdd, Nat.reduceSub, Nat.reduceEqDiff, Nat.reduceLeDiff, Nat.reduceLT, List.take_succ_cons, List.take_zero, List.drop_succ_cons, List.cons_append]
  rw [M_loop]
  have := w_SEq_loop l t1 t2 hm gl l [] rfl
  simp only [kz27, K27_1, List.length_cons, List.length_nil, Int.cast_ofNat_Int, go_sem, ne_eq, not_false_eq_true, reduceIte, Nat.reduceMul, Nat.reduceAdd, Nat.reduceSub, Nat.reduceEqDiff, Nat.reduceLeDiff, Nat.reduceLT, List.take_succ_cons, List.take_zero, List.drop_succ_cons, List.cons_append] at this ⊢
  exact this
noncomputable def F_SEq (a : List V) : Option V := match a with
  | [.sl x n t, .sl y m u] => open Classical in if h : ∃ l : List Tok, x = l.flatMap Tok.cells ∧ n = l.length ∧ y = l.flatMap Tok.cells ∧ m = l.length ∧ l.length ≤ 1048576 then some (.b true) else none
  | _ => none
theorem F_SEq1 (l : List Tok) (t u : Tk) (h : l.length ≤ 1048576) : F_SEq [.sl (l.flatMap Tok.cells) l.length t, .sl (l.flatMap Tok.cells) l.length u] = some (.b true) := dif_pos ⟨l, rfl, rfl, rfl, rfl, h⟩
theorem tok_strip (l : List Tok) : stripL (l.flatMap Tok.cells) = l.flatMap Tok.cells := by
  induction l with
  | nil => rfl
  | cons t r ih =>
    rw [List.flatMap_cons]
    show V.strip _ :: V.strip _ :: V.strip _ :: stripL (r.flatMap Tok.cells) = _
    rw [ih]; rfl
theorem o_SEq : ∀ a v, F_SEq a = some v → Comp tabx told 27 a v := fun a v e => by
  unfold F_SEq at e
  split at e
  · rename_i x n t y m u
    split at e
    · rename_i h
      obtain ⟨l, rfl, rfl, rfl, rfl, hm⟩ := h
      cases e
      refine comp_of (kz := kz27) tells_noX (fn := af27) rfl (Nat.le_of_ble_eq_true rfl) fun gl => ?_
      have := w_SEq l t.cp u.cp hm gl
      simp only [stripL, V.strip, tok_strip]
      exact this
    · cases e
  · cases e
def F_Quo (a : List V) : Option V := match a with
  | [.s l] => if l.length ≤ 8192 then some (.s (quoteV l)) else none
  | _ => none
theorem F_Quo1 (l : List UInt8) (h : l.length ≤ 8192) : F_Quo [.s l] = some (.s (quoteV l)) := if_pos h
theorem o_Quo : ∀ a v, F_Quo a = some v → Comp tabx told 12 a v := fun a v e => by
  unfold F_Quo at e
  split at e
  · split at e
    · rename_i h; cases e; exact c_Quote _ h
    · cases e
  · cases e
theorem o_val : ∀ a v, fnValid a = some v → Comp tabx told 28 a v := fun a v e => comp_prim (by show xf _ a = some v; exact e)
theorem val1 (l : List UInt8) (h : l.length ≤ 9223372036854775807) : fnValid [.s l] = some (.b (Lib.validD l)) := if_pos h
theorem quoteV_len (l : List UInt8) : (quoteV l).length ≤ 10 * l.length + 2 := by
  unfold quoteV
  have h1 := rns_le l
  have h2 : ∀ cs : List Nat, (cs.flatMap qt).length ≤ 10 * cs.length := by
    intro cs
    induction cs with
    | nil => simp
    | cons c cs ih => have := qt_len c; simp only [List.flatMap_cons, List.length_append, List.length_cons]; omega
  have := h2 (rns l)
  simp only [List.length_cons, List.length_append, List.length_nil]; omega
theorem lx_len : ∀ (n : Nat) (l : List UInt8) (k : Nat) (m : List Tok), l.length ≤ n → lx l k = .ok m → m.length ≤ l.length := by
  intro n
  induction n with
  | zero =>
    intro l k m hn h
    obtain rfl : l = [] := List.length_eq_zero_iff.1 (by omega)
    rw [lx_nil] at h; cases h; exact Nat.le_refl _
  | succ n ih =>
    intro l k m hn h
    cases l with
    | nil => rw [lx_nil] at h; cases h; exact Nat.le_refl _
    | cons a r =>
      simp only [List.length_cons] at hn ⊢
      rw [lx_cons] at h
      split at h
      · have := ih r _ _ (by omega) h; omega
      · split at h
        · cases hq : qscan r [] 1 with
          | none => rw [hq] at h; cases h
          | some p =>
            obtain ⟨x, j⟩ := p
            rw [hq] at h
            obtain ⟨m', e1, rfl⟩ := Lx.cons_ok h
            have := ih _ _ _ (by rw [List.length_drop]; omega) e1
            rw [List.length_drop] at this
            simp only [List.length_cons]; omega
        · split at h
          · obtain ⟨m', e1, rfl⟩ := Lx.cons_ok h
            have := ih _ _ _ (by rw [List.length_drop]; omega) e1
            rw [List.length_drop] at this
            simp only [List.length_cons]; omega
          · split at h
            · obtain ⟨m', e1, rfl⟩ := Lx.cons_ok h
              have := ih _ _ _ (by rw [List.length_drop]; omega) e1
              rw [List.length_drop] at this
              simp only [List.length_cons]; omega
            · split at h
              · obtain ⟨m', e1, rfl⟩ := Lx.cons_ok h
                have := ih _ _ _ (by rw [List.length_drop]; omega) e1
                rw [List.length_drop] at this
                simp only [List.length_cons]; omega
              · split at h
                · obtain ⟨m', e1, rfl⟩ := Lx.cons_ok h
                  have := ih _ _ _ (by omega) e1
                  simp only [List.length_cons]; omega
                · cases h
theorem Lx.cons_bad {t : Tok} {x : Lx} {a e : Nat} (h : x.cons t = .bad a e) : x = .bad a e := by
  cases x with
  | ok l => cases h
  | bad b f => exact h
/-- Where a text is no tokens: within it, and why. -/
theorem lx_bad : ∀ (n : Nat) (l : List UInt8) (k a e : Nat), l.length ≤ n → lx l k = .bad a e → (e = 190 ∨ e = 191) ∧ k ≤ a ∧ a < k + l.length := by
  intro n
  induction n with
  | zero =>
    intro l k a e hn h
    obtain rfl : l = [] := List.length_eq_zero_iff.1 (by omega)
    rw [lx_nil] at h; cases h
  | succ n ih =>
    intro l k b e hn h
    cases l with
    | nil => rw [lx_nil] at h; cases h
    | cons a r =>
      simp only [List.length_cons] at hn ⊢
      rw [lx_cons] at h
      have wl := wh_le letB r
      have wd := wh_le digB r
      split at h
      · have := ih r _ _ _ (by omega) h; omega
      · split at h
        · cases hq : qscan r [] 1 with
          | none => rw [hq] at h; cases h; omega
          | some p =>
            obtain ⟨x, j⟩ := p
            rw [hq] at h
            obtain ⟨m1, m2⟩ := qscan_k r.length r [] 1 (Nat.le_refl _) x j hq
            have := ih _ _ _ _ (by rw [List.length_drop]; omega) (Lx.cons_bad h)
            rw [List.length_drop] at this
            omega
        · split at h
          · have := ih _ _ _ _ (by rw [List.length_drop]; omega) (Lx.cons_bad h)
            rw [List.length_drop] at this
            omega
          · split at h
            · have := ih _ _ _ _ (by rw [List.length_drop]; omega) (Lx.cons_bad h)
              rw [List.length_drop] at this
              omega
            · split at h
              · have := ih _ _ _ _ (by rw [List.length_drop]; omega) (Lx.cons_bad h)
                rw [List.length_drop] at this
                omega
              · split at h
                · have := ih _ _ _ _ (by omega) (Lx.cons_bad h)
                  omega
                · cases h; omega
noncomputable def X_meant := xs [(14, F_awake), (12, F_Quo), (21, F_Tokens), (28, fnValid), (27, F_SEq)]
theorem t_LangMeant : Tells tabx told X_meant := tells_cons o_awake (tells_cons o_Quo (tells_cons o_Tokens (tells_cons o_val (tells_cons o_SEq tells_nil))))
theorem mt_quo (l : List UInt8) (h : l.length ≤ 8192) : X_meant 12 [.s l] = some (.s (quoteV l)) := F_Quo1 l h
theorem mt_tok (l : List UInt8) (h : l.length ≤ 1048576) : X_meant 21 [.s l] = some (tokR [] (lx l 0)) := F_Tokens1 l h
theorem mt_val (l : List UInt8) (h : l.length ≤ 9223372036854775807) : X_meant 28 [.s l] = some (.b (Lib.validD l)) := val1 l h
theorem mt_eq (l : List Tok) (t u : Tk) (h : l.length ≤ 1048576) : X_meant 27 [.sl (l.flatMap Tok.cells) l.length t, .sl (l.flatMap Tok.cells) l.length u] = some (.b true) := F_SEq1 l t u h
theorem mt_awake : X_meant 14 [] = some (.b true) := rfl
theorem U10 {xf : FuncId → List V → Option V} {kz : Nat → List Nat} {k : List Fr} {st : St} {Q : AEx → St → Prop} : M xf kz (.code B10) k st Q = M xf kz (.code (.seq (.reg [⟨some 4, .mov (.k (.b false)), none⟩])
  (.seq (.seq (.reg [⟨some 14, .mov (.t 0), none⟩,
      ⟨some 15, .len .str (.t 14), none⟩,
      ⟨some 16, .bin .gtr (.t 15) (.k (.i .i64 4096)), none⟩,
      ⟨some 17, .mov (.t 16), none⟩,
      ⟨some 18, .mov (.t 1), some (17, false)⟩,
      ⟨some 19, .len .str (.t 18), some (17, false)⟩,
      ⟨some 20, .bin .gtr (.t 19) (.k (.i .i64 4096)), some (17, false)⟩,
      ⟨some 21, .pick (.t 17) (.k (.b true)) (.t 20), none⟩])
   (.cond (.t 21)
    (.seq (.reg [⟨some 22, .call true 14 [], none⟩,
       ⟨some 4, .mov (.t 22), none⟩])
    .ret)
    .skip))
  (.seq (.reg [⟨some 24, .mov (.t 0), none⟩,
     ⟨some 25, .call true 12 [(.t 24)], none⟩,
     ⟨some 26, .call true 21 [(.t 25)], none⟩,
     ⟨some 23, .mov (.t 26), none⟩,
     ⟨some 27, .ext (.t 23) 0, none⟩,
     ⟨some 28, .ext (.t 23) 1, none⟩,
     ⟨some 29, .ext (.t 23) 2, none⟩,
     ⟨some 5, .mov (.t 27), none⟩,
     ⟨some 6, .mov (.t 28), none⟩,
     ⟨some 7, .mov (.t 29), none⟩])
  (.seq (.seq (.reg [⟨some 30, .mov (.t 7), none⟩,
      ⟨some 31, .bin .neq (.t 30) (.k (.i .i64 0)), none⟩,
      ⟨some 32, .mov (.t 31), none⟩,
      ⟨some 33, .mov (.t 5), some (32, false)⟩,
      ⟨some 34, .len .slice (.t 33), some (32, false)⟩,
      ⟨some 35, .bin .neq (.t 34) (.k (.i .i64 1)), some (32, false)⟩,
      ⟨some 36, .pick (.t 32) (.k (.b true)) (.t 35), none⟩,
      ⟨some 37, .mov (.t 36), none⟩,
      ⟨some 38, .mov (.t 5), some (37, false)⟩,
      ⟨some 39, .iaddr (.slice 3) (.t 38) (.k (.i .i64 0)), some (37, false)⟩,
      ⟨some 40, .faddr 0 (.t 39), some (37, false)⟩,
      ⟨some 41, .load false 1 (.t 40), some (37, false)⟩,
      ⟨some 42, .bin .neq (.t 41) (.k (.i .i64 2)), some (37, false)⟩,
      ⟨some 43, .pick (.t 37) (.k (.b true)) (.t 42), none⟩,
      ⟨some 44, .mov (.t 43), none⟩,
      ⟨some 45, .mov (.t 0), some (44, false)⟩,
      ⟨some 46, .call true 28 [(.t 45)], some (44, false)⟩,
      ⟨some 47, .mov (.t 46), some (44, false)⟩,
      ⟨some 48, .mov (.t 5), some (47, true)⟩,
      ⟨some 49, .iaddr (.slice 3) (.t 48) (.k (.i .i64 0)), some (47, true)⟩,
      ⟨some 50, .faddr 1 (.t 49), some (47, true)⟩,
      ⟨some 51, .load false 1 (.t 50), some (47, true)⟩,
      ⟨some 52, .mov (.t 0), some (47, true)⟩,
      ⟨some 53, .bin .neq (.t 51) (.t 52), some (47, true)⟩,
      ⟨some 54, .pick (.t 47) (.t 53) (.k (.b false)), some (44, false)⟩,
      ⟨some 55, .pick (.t 44) (.k (.b true)) (.t 54), none⟩])
   (.cond (.t 55)
    (.seq (.reg [⟨some 4, .mov (.k (.b false)), none⟩])
    .ret)
    .skip))
  (.seq (.reg [⟨some 57, .mov (.t 1), none⟩,
     ⟨some 58, .call true 21 [(.t 57)], none⟩,
     ⟨some 56, .mov (.t 58), none⟩,
     ⟨some 59, .ext (.t 56) 0, none⟩,
     ⟨some 60, .ext (.t 56) 1, none⟩,
     ⟨some 61, .ext (.t 56) 2, none⟩,
     ⟨some 8, .mov (.t 59), none⟩,
     ⟨some 9, .mov (.t 60), none⟩,
     ⟨some 10, .mov (.t 61), none⟩])
  (.seq (.seq (.reg [⟨some 62, .mov (.t 10), none⟩,
      ⟨some 63, .bin .neq (.t 62) (.k (.i .i64 0)), none⟩])
   (.cond (.t 63)
    (.seq (.reg [⟨some 64, .call true 14 [], none⟩,
       ⟨some 4, .mov (.t 64), none⟩])
    .ret)
    .skip))
  (.seq (.reg [⟨some 66, .mov (.t 1), none⟩,
     ⟨some 67, .bin .add (.t 66) (.k (.s [32])), none⟩,
     ⟨some 68, .mov (.t 0), none⟩,
     ⟨some 69, .call true 12 [(.t 68)], none⟩,
     ⟨some 70, .bin .add (.t 67) (.t 69), none⟩,
     ⟨some 71, .call true 21 [(.t 70)], none⟩,
     ⟨some 65, .mov (.t 71), none⟩,
     ⟨some 72, .ext (.t 65) 0, none⟩,
     ⟨some 73, .ext (.t 65) 1, none⟩,
     ⟨some 74, .ext (.t 65) 2, none⟩,
     ⟨some 11, .mov (.t 72), none⟩,
     ⟨some 12, .mov (.t 73), none⟩,
     ⟨some 13, .mov (.t 74), none⟩])
  (.seq (.reg [⟨some 75, .mov (.t 13), none⟩,
     ⟨some 76, .bin .eql (.t 75) (.k (.i .i64 0)), none⟩,
     ⟨some 77, .mov (.t 76), none⟩,
     ⟨some 78, .mov (.t 11), some (77, true)⟩,
     ⟨some 79, .len .slice (.t 78), some (77, true)⟩,
     ⟨some 80, .mov (.t 8), some (77, true)⟩,
     ⟨some 81, .len .slice (.t 80), some (77, true)⟩,
     ⟨some 82, .bin .add (.t 81) (.k (.i .i64 1)), some (77, true)⟩,
     ⟨some 83, .bin .eql (.t 79) (.t 82), some (77, true)⟩,
     ⟨some 84, .pick (.t 77) (.t 83) (.k (.b false)), none⟩,
     ⟨some 85, .mov (.t 84), none⟩,
     ⟨some 86, .mov (.t 11), some (85, true)⟩,
     ⟨some 87, .mov (.t 8), some (85, true)⟩,
     ⟨some 88, .len .slice (.t 87), some (85, true)⟩,
     ⟨some 89, .slc (.slice 3) (.t 86) none (some (.t 88)) none, some (85, true)⟩,
     ⟨some 90, .mov (.t 8), some (85, true)⟩,
     ⟨some 91, .call true 27 [(.t 89), (.t 90)], some (85, true)⟩,
     ⟨some 92, .pick (.t 85) (.t 91) (.k (.b false)), none⟩,
     ⟨some 93, .mov (.t 92), none⟩,
     ⟨some 94, .mov (.t 11), some (93, true)⟩,
     ⟨some 95, .mov (.t 8), some (93, true)⟩,
     ⟨some 96, .len .slice (.t 95), some (93, true)⟩,
     ⟨some 97, .iaddr (.slice 3) (.t 94) (.t 96), some (93, true)⟩,
     ⟨some 98, .faddr 1 (.t 97), some (93, true)⟩,
     ⟨some 99, .load false 1 (.t 98), some (93, true)⟩,
     ⟨some 100, .mov (.t 5), some (93, true)⟩,
     ⟨some 101, .iaddr (.slice 3) (.t 100) (.k (.i .i64 0)), some (93, true)⟩,
     ⟨some 102, .faddr 1 (.t 101), some (93, true)⟩,
     ⟨some 103, .load false 1 (.t 102), some (93, true)⟩,
     ⟨some 104, .bin .eql (.t 99) (.t 103), some (93, true)⟩,
     ⟨some 105, .pick (.t 93) (.t 104) (.k (.b false)), none⟩,
     ⟨some 106, .mov (.t 105), none⟩,
     ⟨some 107, .call true 14 [], some (106, true)⟩,
     ⟨some 108, .pick (.t 106) (.t 107) (.k (.b false)), none⟩,
     ⟨some 4, .mov (.t 108), none⟩])
  .ret))))))))) k st Q := rfl
def kz10 (_ : Nat) : List Nat := []
theorem w_LangMeant (s f : List UInt8) (gl : Nat → List V) : M X_meant (kz10) (.code B10) [] (St.init gl 7 [.s s, .s f] {}) (Fin [.tmp 4] (.b true)) := by
  rw [U10]
  by_cases h1 : s.length ≤ 4096
  · by_cases h2 : f.length ≤ 4096
    · have e1 : decide ((4096 : Int) < (s.length : Int)) = false := decide_eq_false (by omega)
      have e2 : decide ((4096 : Int) < (f.length : Int)) = false := decide_eq_false (by omega)
      have hq := mt_quo s (by omega)
      have hql := quoteV_len s
      have ht : X_meant 21 [.s (quoteV s)] = some (.tup [.sl [.i .i64 2, .s (txt s), .i .i64 0] 1 .no, .i .i64 0, .i .i64 0]) := by
        have := mt_tok (quoteV s) (by omega)
        rw [lx_quote] at this
        exact this
      have hv := mt_val s (by omega)
      have hf := mt_tok f (by omega)
      have hb : f.length + 1 ≤ 4611686018427387904 := by omega
      have hb2 : f.length + 1 + (quoteV s).length ≤ 4611686018427387904 := by omega
      have hg := mt_tok (f ++ [32] ++ quoteV s) (by simp only [List.length_append, List.length_cons, List.length_nil]; omega)
      have key : Lib.validD s = true → txt s = s := txt_valid s
      cases hlx : lx f 0 with
      | bad a e =>
        obtain ⟨he, _⟩ := lx_bad _ f 0 a e (Nat.le_refl _) hlx
        rw [hlx] at hf
        have e3 : decide ((e : Int) = 0) = false := decide_eq_false (by omega)
        simp only [tokR] at hf
        cases hvd : Lib.validD s with
        | true =>
          rw [hvd] at hv
          rw [key hvd] at ht
          simp only [e1, e2, hq, ht, hv, hf, e3, strEq_self, mt_awake, Int.cast_ofNat_Int, List.getElem?_cons_zero, List.getElem?_cons_succ, go_sem, ne_eq, not_false_eq_true, reduceIte, Nat.reduceMul, Nat.reduceAdd, Nat.reduceSub, Nat.reduceEqDiff, Nat.reduceLeDiff, Nat.reduceLT, List.take_succ_cons, List.take_zero, List.drop_succ_cons, List.cons_append]
        | false =>
          rw [hvd] at hv
          simp only [e1, e2, hq, ht, hv, hf, e3, mt_awake, Int.cast_ofNat_Int, List.getElem?_cons_zero, List.getElem?_cons_succ, go_sem, ne_eq, not_false_eq_true, reduceIte, Nat.reduceMul, Nat.reduceAdd, Nat.reduceSub, Nat.reduceEqDiff, Nat.reduceLeDiff, Nat.reduceLT, List.take_succ_cons, List.take_zero, List.drop_succ_cons, List.cons_append]
      | ok m =>
        have hlen := lx_len _ f 0 m (Nat.le_refl _) hlx
        have hcat : lx (f ++ [32] ++ quoteV s) 0 = .ok (m ++ [(⟨2, txt s, f.length + 1⟩ : Tok)]) := by
          have := lx_sp (quoteV s) _ f 0 m (Nat.le_refl _) hlx
          rw [Nat.zero_add, lx_quote] at this
          rw [List.append_assoc]; exact this
        rw [hcat] at hg
        rw [hlx] at hf
        have hc := toks_len (m ++ [(⟨2, txt s, f.length + 1⟩ : Tok)])
        have htk := tok_take m [(⟨2, txt s, f.length + 1⟩ : Tok)]
        have hdr : ((m ++ [(⟨2, txt s, f.length + 1⟩ : Tok)]).flatMap Tok.cells)[m.length * 3 + 1]? = some (.s (txt s)) := by
          have := tok_drop m [(⟨2, txt s, f.length + 1⟩ : Tok)]
          have h2 := List.getElem?_drop (xs := (m ++ [(⟨2, txt s, f.length + 1⟩ : Tok)]).flatMap Tok.cells) (i := m.length * 3) (j := 1)
          rw [this] at h2
          exact h2.symm
        have hzl : (m ++ [(⟨2, txt s, f.length + 1⟩ : Tok)]).length = m.length + 1 := by simp
        rw [hzl] at hc
        generalize m ++ [(⟨2, txt s, f.length + 1⟩ : Tok)] = Z at hg hc htk hdr hzl
        simp only [tokR, List.nil_append, hzl] at hg hf
        have hse := mt_eq m .no .no (by omega)
        have w1 : wr .i64 ((m.length : Int) + 1) = ((m.length + 1 : Nat) : Int) := by rw [wr64] <;> omega
        have g1 : m.length ≤ m.length + 1 := by omega
        have g2 : m.length < m.length + 1 := by omega
        have g4 : decide (m.length = m.length + 1) = false := decide_eq_false (by omega)
        have g3 : (m.length + 1) * 3 ≤ (m.length + 1) * 3 := Nat.le_refl _
        obtain ⟨z0, zs, hz⟩ : ∃ x xs, Z.flatMap Tok.cells = x :: xs := by
          cases h : Z.flatMap Tok.cells with
          | nil => rw [h] at hc; simp at hc
          | cons x xs => exact ⟨x, xs, rfl⟩
        rw [hz] at hg hc htk hdr
        rw [List.length_cons] at hc
        cases hvd : Lib.validD s with
        | true =>
          rw [hvd] at hv
          have hk := key hvd
          rw [hk] at ht hdr
          simp only [e1, e2, hq, ht, hv, hf, hb, hb2, hg, hc, htk, hdr, hse, w1, g1, g2, strEq_self, mt_awake, Int.cast_ofNat_Int, List.getElem?_cons_zero, List.getElem?_cons_succ, List.length_append, Nat.zero_le, Nat.le_refl, g4, Nat.zero_mul, Nat.sub_zero, List.drop_zero, go_sem, ne_eq, not_false_eq_true, reduceIte, Nat.reduceMul, Nat.reduceAdd, Nat.reduceSub, Nat.reduceEqDiff, Nat.reduceLeDiff, Nat.reduceLT, List.take_succ_cons, List.take_zero, List.drop_succ_cons, List.cons_append]
        | false =>
          rw [hvd] at hv
          simp only [e1, e2, hq, ht, hv, hf, hb, hb2, hg, hc, htk, hdr, hse, w1, g1, g2, strEq_self, mt_awake, Int.cast_ofNat_Int, List.getElem?_cons_zero, List.getElem?_cons_succ, List.length_append, Nat.zero_le, Nat.le_refl, g4, Nat.zero_mul, Nat.sub_zero, List.drop_zero, go_sem, ne_eq, not_false_eq_true, reduceIte, Nat.reduceMul, Nat.reduceAdd, Nat.reduceSub, Nat.reduceEqDiff, Nat.reduceLeDiff, Nat.reduceLT, List.take_succ_cons, List.take_zero, List.drop_succ_cons, List.cons_append]
    · have e1 : decide ((4096 : Int) < (f.length : Int)) = true := decide_eq_true (by omega)
      have e0 : decide ((4096 : Int) < (s.length : Int)) = false := decide_eq_false (by omega)
      simp only [e0, e1, mt_awake, Int.cast_ofNat_Int, List.getElem?_cons_zero, List.getElem?_cons_succ, go_sem, ne_eq, not_false_eq_true, reduceIte, Nat.reduceMul, Nat.reduceAdd, Nat.reduceSub, Nat.reduceEqDiff, Nat.reduceLeDiff, Nat.reduceLT, List.take_succ_cons, List.take_zero, List.drop_succ_cons, List.cons_append]
  · have e1 : decide ((4096 : Int) < (s.length : Int)) = true := decide_eq_true (by omega)
    simp only [e1, mt_awake, Int.cast_ofNat_Int, List.getElem?_cons_zero, List.getElem?_cons_succ, go_sem, ne_eq, not_false_eq_true, reduceIte, Nat.reduceMul, Nat.reduceAdd, Nat.reduceSub, Nat.reduceEqDiff, Nat.reduceLeDiff, Nat.reduceLT, List.take_succ_cons, List.take_zero, List.drop_succ_cons, List.cons_append]
end Go.Proofs.YtbhclhgljnoioaaDoor
