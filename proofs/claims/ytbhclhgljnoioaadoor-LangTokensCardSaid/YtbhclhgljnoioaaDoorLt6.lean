/- 'LangTokens': its function walked. -/
import Derived.Test.YtbhclhgljnoioaaDoorLt5
set_option linter.unusedSimpArgs false
set_option linter.unusedVariables false
namespace Go.Proofs.YtbhclhgljnoioaaDoor
open Ai
theorem w_rTokens (s : List UInt8) (hs : s.length ≤ 1048576) (gl : Nat → List V) : M X_rt (kz26) (.code B26) [] (St.init gl 7 [.s s] {}) (Fin [.tmp 2, .tmp 3, .tmp 4] (tokR [] (lx s 0))) := by
  rw [U26]
  simp only [go_sem, ne_eq, not_false_eq_true, reduceIte, Nat.reduceMul, Nat.reduceAdd, Nat.reduceSub, Nat.reduceEqDiff, Nat.reduceLeDiff, Nat.reduceLT, List.take_succ_cons, List.take_zero, List.drop_succ_cons, List.cons_append]
  rw [M_loop]
  have := w_rt_loop s hs gl s.length s 0 0 [] [] (Nat.le_refl _) rfl (by omega) (by simp) (by omega)
  simp only [kz26, K26_1, tokH, List.flatMap_nil, List.length_cons, List.length_nil, Int.natCast_zero, Int.cast_ofNat_Int, go_sem, ne_eq, not_false_eq_true, reduceIte, Nat.reduceMul, Nat.reduceAdd, Nat.reduceSub, Nat.reduceEqDiff, Nat.reduceLeDiff, Nat.reduceLT, List.take_succ_cons, List.take_zero, List.drop_succ_cons, List.cons_append] at this ⊢
  exact this
def F_rTokens (a : List V) : Option V := match a with
  | [.s s] => if s.length ≤ 1048576 then some (tokR [] (lx s 0)) else none
  | _ => none
theorem F_rTokens1 (s : List UInt8) (h : s.length ≤ 1048576) : F_rTokens [.s s] = some (tokR [] (lx s 0)) := if_pos h
theorem o_rTokens : ∀ a v, F_rTokens a = some v → Comp tabx told 26 a v := fun a v e => by
  unfold F_rTokens at e
  split at e
  · split at e
    · rename_i h; cases e; exact comp_of t_rt (fn := af26) rfl (Nat.le_of_ble_eq_true rfl) fun gl => w_rTokens _ h gl
    · cases e
  · cases e
noncomputable def X_lt := xs [(14, F_awake), (21, F_Tokens), (26, F_rTokens), (27, F_SEq)]
theorem t_LangTokens : Tells tabx told X_lt := tells_cons o_awake (tells_cons o_Tokens (tells_cons o_rTokens (tells_cons o_SEq tells_nil)))
theorem lt_tok (l : List UInt8) (h : l.length ≤ 1048576) : X_lt 21 [.s l] = some (tokR [] (lx l 0)) := F_Tokens1 l h
theorem lt_rtok (l : List UInt8) (h : l.length ≤ 1048576) : X_lt 26 [.s l] = some (tokR [] (lx l 0)) := F_rTokens1 l h
theorem lt_eq (l : List Tok) (t u : Tk) (h : l.length ≤ 1048576) : X_lt 27 [.sl (l.flatMap Tok.cells) l.length t, .sl (l.flatMap Tok.cells) l.length u] = some (.b true) := F_SEq1 l t u h
theorem lt_awake : X_lt 14 [] = some (.b true) := rfl
theorem U9 {xf : FuncId → List V → Option V} {kz : Nat → List Nat} {k : List Fr} {st : St} {Q : AEx → St → Prop} : M xf kz (.code B9) k st Q = M xf kz (.code (.seq (.reg [⟨some 2, .mov (.k (.b false)), none⟩])
  (.seq (.seq (.reg [⟨some 9, .mov (.t 0), none⟩,
      ⟨some 10, .len .str (.t 9), none⟩,
      ⟨some 11, .bin .gtr (.t 10) (.k (.i .i64 4096)), none⟩])
   (.cond (.t 11)
    (.seq (.reg [⟨some 12, .call true 14 [], none⟩,
       ⟨some 2, .mov (.t 12), none⟩])
    .ret)
    .skip))
  (.seq (.reg [⟨some 14, .mov (.t 0), none⟩,
     ⟨some 15, .call true 21 [(.t 14)], none⟩,
     ⟨some 13, .mov (.t 15), none⟩,
     ⟨some 16, .ext (.t 13) 0, none⟩,
     ⟨some 17, .ext (.t 13) 1, none⟩,
     ⟨some 18, .ext (.t 13) 2, none⟩,
     ⟨some 3, .mov (.t 16), none⟩,
     ⟨some 4, .mov (.t 17), none⟩,
     ⟨some 5, .mov (.t 18), none⟩])
  (.seq (.reg [⟨some 20, .mov (.t 0), none⟩,
     ⟨some 21, .call true 26 [(.t 20)], none⟩,
     ⟨some 19, .mov (.t 21), none⟩,
     ⟨some 22, .ext (.t 19) 0, none⟩,
     ⟨some 23, .ext (.t 19) 1, none⟩,
     ⟨some 24, .ext (.t 19) 2, none⟩,
     ⟨some 6, .mov (.t 22), none⟩,
     ⟨some 7, .mov (.t 23), none⟩,
     ⟨some 8, .mov (.t 24), none⟩])
  (.seq (.reg [⟨some 25, .mov (.t 3), none⟩,
     ⟨some 26, .mov (.t 6), none⟩,
     ⟨some 27, .call true 27 [(.t 25), (.t 26)], none⟩,
     ⟨some 28, .mov (.t 27), none⟩,
     ⟨some 29, .mov (.t 4), some (28, true)⟩,
     ⟨some 30, .mov (.t 7), some (28, true)⟩,
     ⟨some 31, .bin .eql (.t 29) (.t 30), some (28, true)⟩,
     ⟨some 32, .pick (.t 28) (.t 31) (.k (.b false)), none⟩,
     ⟨some 33, .mov (.t 32), none⟩,
     ⟨some 34, .mov (.t 5), some (33, true)⟩,
     ⟨some 35, .mov (.t 8), some (33, true)⟩,
     ⟨some 36, .bin .eql (.t 34) (.t 35), some (33, true)⟩,
     ⟨some 37, .pick (.t 33) (.t 36) (.k (.b false)), none⟩,
     ⟨some 38, .mov (.t 37), none⟩,
     ⟨some 39, .call true 14 [], some (38, true)⟩,
     ⟨some 40, .pick (.t 38) (.t 39) (.k (.b false)), none⟩,
     ⟨some 2, .mov (.t 40), none⟩])
  .ret)))))) k st Q := rfl
def kz9 (_ : Nat) : List Nat := []
theorem w_LangTokens (s : List UInt8) (gl : Nat → List V) : M X_lt (kz9) (.code B9) [] (St.init gl 6 [.s s] {}) (Fin [.tmp 2] (.b true)) := by
  rw [U9]
  by_cases h1 : s.length ≤ 4096
  · have e1 : decide ((4096 : Int) < (s.length : Int)) = false := decide_eq_false (by omega)
    have hf := lt_tok s (by omega)
    have hg := lt_rtok s (by omega)
    cases hlx : lx s 0 with
    | bad a e =>
      rw [hlx] at hf hg
      simp only [tokR] at hf hg
      have heq := lt_eq [] .no .no (by simp)
      simp only [List.flatMap_nil, List.length_nil] at heq
      simp only [e1, hf, hg, heq, lt_awake, List.getElem?_cons_zero, List.getElem?_cons_succ, go_sem, ne_eq, not_false_eq_true, reduceIte, Nat.reduceMul, Nat.reduceAdd, Nat.reduceSub, Nat.reduceEqDiff, Nat.reduceLeDiff, Nat.reduceLT, List.take_succ_cons, List.take_zero, List.drop_succ_cons, List.cons_append]
    | ok m =>
      have hlen := lx_len _ s 0 m (Nat.le_refl _) hlx
      rw [hlx] at hf hg
      simp only [tokR, List.nil_append] at hf hg
      have heq := lt_eq m .no .no (by omega)
      simp only [e1, hf, hg, heq, lt_awake, List.getElem?_cons_zero, List.getElem?_cons_succ, go_sem, ne_eq, not_false_eq_true, reduceIte, Nat.reduceMul, Nat.reduceAdd, Nat.reduceSub, Nat.reduceEqDiff, Nat.reduceLeDiff, Nat.reduceLT, List.take_succ_cons, List.take_zero, List.drop_succ_cons, List.cons_append]
  · have e1 : decide ((4096 : Int) < (s.length : Int)) = true := decide_eq_true (by omega)
    simp only [e1, lt_awake, go_sem, ne_eq, not_false_eq_true, reduceIte, Nat.reduceMul, Nat.reduceAdd, Nat.reduceSub, Nat.reduceEqDiff, Nat.reduceLeDiff, Nat.reduceLT, List.take_succ_cons, List.take_zero, List.drop_succ_cons, List.cons_append]
end Go.Proofs.YtbhclhgljnoioaaDoor
