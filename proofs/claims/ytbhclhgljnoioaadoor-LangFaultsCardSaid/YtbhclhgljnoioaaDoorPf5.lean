/- LangFaults. -/
import Derived.Test.YtbhclhgljnoioaaDoorPf4
set_option linter.unusedSimpArgs false
set_option linter.unusedVariables false
namespace Go.Proofs.YtbhclhgljnoioaaDoor
open Ai
theorem tokAt_le {ts : List Tok} {e a : Nat} (h : ∀ t ∈ ts, t.at_ < e) : (tokAt ts e a).at_ ≤ e := by
  unfold tokAt
  rcases Nat.lt_or_ge a ts.length with h1 | h1
  · rw [List.getElem?_eq_getElem h1]
    have := h _ (List.getElem_mem h1)
    simp only [Option.getD_some]; omega
  · rw [List.getElem?_eq_none h1]; exact Nat.le_refl _
theorem parseV_ok {s : List UInt8} {ts : List Tok} (hl : lx s 0 = .ok ts) : (parseV s).2.1 ≤ s.length ∧ ((parseV s).2.2 = 0 → (parseV s).2.1 = 0) := by
  have hk : ∀ t ∈ ts, t.at_ < s.length := fun t ht => by have := (lx_kind _ s 0 ts (Nat.le_refl _) hl t ht).2; omega
  unfold parseV
  rw [hl]
  dsimp only
  split
  · exact ⟨tokAt_le hk, fun h => by cases h⟩
  · unfold filV
    split
    · rename_i h; exact ⟨tokAt_le hk, fun h2 => absurd h2 h⟩
    · split
      · rename_i h; exact ⟨tokAt_le hk, fun h2 => absurd h2 h⟩
      · exact ⟨Nat.zero_le _, fun _ => rfl⟩
noncomputable def X_faults := xs [(14, F_awake), (21, F_Tokens), (19, F_parse)]
theorem t_LangFaults : Tells tabx told X_faults := tells_cons o_awake (tells_cons o_Tokens (tells_cons o_parse tells_nil))
theorem U7 {xf : FuncId → List V → Option V} {kz : Nat → List Nat} {k : List Fr} {st : St} {Q : AEx → St → Prop} : M xf kz (.code B7) k st Q = M xf kz (.code (.seq (.reg [⟨some 2, .mov (.k (.b false)), none⟩])
  (.seq (.seq (.reg [⟨some 9, .mov (.t 0), none⟩,
      ⟨some 10, .len .str (.t 9), none⟩,
      ⟨some 11, .bin .gtr (.t 10) (.k (.i .i64 4096)), none⟩])
   (.cond (.t 11)
    (.seq (.reg [⟨some 12, .call true 14 [], none⟩,
       ⟨some 2, .mov (.t 12), none⟩])
    .ret)
    .skip))
  (.seq (.reg [⟨some 14, .mov (.t 0), none⟩,
     ⟨some 15, .call true 21 [(.t 14)], none⟩,
     ⟨some 13, .mov (.t 15), none⟩,
     ⟨some 16, .ext (.t 13) 0, none⟩,
     ⟨some 17, .ext (.t 13) 1, none⟩,
     ⟨some 18, .ext (.t 13) 2, none⟩,
     ⟨some 3, .mov (.t 16), none⟩,
     ⟨some 4, .mov (.t 17), none⟩,
     ⟨some 5, .mov (.t 18), none⟩])
  (.seq (.seq (.reg [⟨some 19, .mov (.t 4), none⟩,
      ⟨some 20, .bin .lss (.t 19) (.k (.i .i64 0)), none⟩,
      ⟨some 21, .mov (.t 20), none⟩,
      ⟨some 22, .mov (.t 4), some (21, false)⟩,
      ⟨some 23, .mov (.t 0), some (21, false)⟩,
      ⟨some 24, .len .str (.t 23), some (21, false)⟩,
      ⟨some 25, .bin .gtr (.t 22) (.t 24), some (21, false)⟩,
      ⟨some 26, .pick (.t 21) (.k (.b true)) (.t 25), none⟩,
      ⟨some 27, .mov (.t 26), none⟩,
      ⟨some 28, .mov (.t 5), some (27, false)⟩,
      ⟨some 29, .bin .neq (.t 28) (.k (.i .i64 0)), some (27, false)⟩,
      ⟨some 30, .mov (.t 29), some (27, false)⟩,
      ⟨some 31, .mov (.t 3), some (30, true)⟩,
      ⟨some 32, .len .slice (.t 31), some (30, true)⟩,
      ⟨some 33, .bin .gtr (.t 32) (.k (.i .i64 0)), some (30, true)⟩,
      ⟨some 34, .mov (.t 33), some (30, true)⟩,
      ⟨some 35, .mov (.t 4), some (34, false)⟩,
      ⟨some 36, .mov (.t 0), some (34, false)⟩,
      ⟨some 37, .len .str (.t 36), some (34, false)⟩,
      ⟨some 38, .bin .eql (.t 35) (.t 37), some (34, false)⟩,
      ⟨some 39, .pick (.t 34) (.k (.b true)) (.t 38), some (30, true)⟩,
      ⟨some 40, .pick (.t 30) (.t 39) (.k (.b false)), some (27, false)⟩,
      ⟨some 41, .pick (.t 27) (.k (.b true)) (.t 40), none⟩])
   (.cond (.t 41)
    (.seq (.reg [⟨some 2, .mov (.k (.b false)), none⟩])
    .ret)
    .skip))
  (.seq (.reg [⟨some 43, .mov (.t 0), none⟩,
     ⟨some 44, .call true 19 [(.t 43)], none⟩,
     ⟨some 42, .mov (.t 44), none⟩,
     ⟨some 45, .ext (.t 42) 0, none⟩,
     ⟨some 46, .ext (.t 42) 1, none⟩,
     ⟨some 47, .ext (.t 42) 2, none⟩,
     ⟨some 6, .lalloc [(.i .i64 0), (.s []), (.s []), (.sl [] 0 .nil)] [6], none⟩,
     ⟨none, .store 4 (.t 6) (.t 45), none⟩,
     ⟨some 7, .mov (.t 46), none⟩,
     ⟨some 8, .mov (.t 47), none⟩])
  (.seq (.reg [⟨some 48, .mov (.t 7), none⟩,
     ⟨some 49, .bin .geq (.t 48) (.k (.i .i64 0)), none⟩,
     ⟨some 50, .mov (.t 49), none⟩,
     ⟨some 51, .mov (.t 7), some (50, true)⟩,
     ⟨some 52, .mov (.t 0), some (50, true)⟩,
     ⟨some 53, .len .str (.t 52), some (50, true)⟩,
     ⟨some 54, .bin .leq (.t 51) (.t 53), some (50, true)⟩,
     ⟨some 55, .pick (.t 50) (.t 54) (.k (.b false)), none⟩,
     ⟨some 56, .mov (.t 55), none⟩,
     ⟨some 57, .mov (.t 5), some (56, true)⟩,
     ⟨some 58, .bin .eql (.t 57) (.k (.i .i64 0)), some (56, true)⟩,
     ⟨some 59, .mov (.t 58), some (56, true)⟩,
     ⟨some 60, .mov (.t 8), some (59, false)⟩,
     ⟨some 61, .mov (.t 5), some (59, false)⟩,
     ⟨some 62, .bin .eql (.t 60) (.t 61), some (59, false)⟩,
     ⟨some 63, .mov (.t 62), some (59, false)⟩,
     ⟨some 64, .mov (.t 7), some (63, true)⟩,
     ⟨some 65, .mov (.t 4), some (63, true)⟩,
     ⟨some 66, .bin .eql (.t 64) (.t 65), some (63, true)⟩,
     ⟨some 67, .pick (.t 63) (.t 66) (.k (.b false)), some (59, false)⟩,
     ⟨some 68, .pick (.t 59) (.k (.b true)) (.t 67), some (56, true)⟩,
     ⟨some 69, .pick (.t 56) (.t 68) (.k (.b false)), none⟩,
     ⟨some 70, .mov (.t 69), none⟩,
     ⟨some 71, .mov (.t 8), some (70, true)⟩,
     ⟨some 72, .bin .neq (.t 71) (.k (.i .i64 0)), some (70, true)⟩,
     ⟨some 73, .mov (.t 72), some (70, true)⟩,
     ⟨some 74, .mov (.t 7), some (73, false)⟩,
     ⟨some 75, .bin .eql (.t 74) (.k (.i .i64 0)), some (73, false)⟩,
     ⟨some 76, .pick (.t 73) (.k (.b true)) (.t 75), some (70, true)⟩,
     ⟨some 77, .pick (.t 70) (.t 76) (.k (.b false)), none⟩,
     ⟨some 78, .mov (.t 77), none⟩,
     ⟨some 79, .call true 14 [], some (78, true)⟩,
     ⟨some 80, .pick (.t 78) (.t 79) (.k (.b false)), none⟩,
     ⟨some 2, .mov (.t 80), none⟩])
  .ret))))))) k st Q := rfl
def kz7 (_ : Nat) : List Nat := []
theorem w_LangFaults (s : List UInt8) (gl : Nat → List V) : M X_faults (kz7) (.code B7) [] (St.init gl 7 [.s s] {}) (Fin [.tmp 2] (.b true)) := by
  rw [U7]
  have y0 : X_faults 14 [] = some (.b true) := rfl
  by_cases h1 : s.length ≤ 4096
  · have e1 : decide ((4096 : Int) < (s.length : Int)) = false := decide_eq_false (by omega)
    have y1 : X_faults 21 [.s s] = some (tokR [] (lx s 0)) := F_Tokens1 s (by omega)
    obtain ⟨c, y2, hc⟩ := parse_eq s (by omega)
    replace y2 : X_faults 19 [.s s] = _ := y2
    cases hl : lx s 0 with
    | bad a e =>
      obtain ⟨he, ha1, ha2⟩ := lx_bad _ s 0 a e (Nat.le_refl _) hl
      rw [hl] at y1
      have hp : parseV s = (fil0, a, e) := by unfold parseV; rw [hl]
      rw [hp] at y2 hc
      obtain ⟨tk, rfl⟩ := fil0_cells hc
      simp only [tokR] at y1
      have f1 : decide ((a : Int) < 0) = false := decide_eq_false (by omega)
      have f2 : decide ((s.length : Int) < (a : Int)) = false := decide_eq_false (by omega)
      have f3 : decide ((e : Int) = 0) = false := decide_eq_false (by omega)
      have f4 : decide ((a : Int) = (s.length : Int)) = false := decide_eq_false (by omega)
      have f5 : decide ((0 : Int) ≤ (a : Int)) = true := decide_eq_true (by omega)
      have f6 : decide ((a : Int) ≤ (s.length : Int)) = true := decide_eq_true (by omega)
      have f7 : decide ((0 : Int) < 0) = false := by decide
      simp only [e1, y0, y1, y2, f1, f2, f3, f4, f5, f6, f7, Int.cast_ofNat_Int, go_sem, ne_eq, not_false_eq_true, reduceIte, Nat.reduceMul, Nat.reduceAdd, Nat.reduceSub, Nat.reduceEqDiff, Nat.reduceLeDiff, Nat.reduceLT, List.take_succ_cons, List.take_zero, List.drop_succ_cons, List.cons_append]
    | ok ts =>
      obtain ⟨p1, p2⟩ := parseV_ok hl
      rw [hl] at y1
      generalize parseV s = r at *
      obtain ⟨f, pos, er⟩ := r
      simp only at y2 hc p1 p2
      simp only [tokR, List.nil_append] at y1
      have f1 : decide ((0 : Int) < 0) = false := by decide
      have f2 : decide ((s.length : Int) < 0) = false := decide_eq_false (by omega)
      have f5 : decide ((0 : Int) ≤ (pos : Int)) = true := decide_eq_true (by omega)
      have f6 : decide ((pos : Int) ≤ (s.length : Int)) = true := decide_eq_true (by omega)
      cases hc with | mk k nm tx kids xs n tk hn hx =>
      by_cases he : er = 0
      · have := p2 he
        subst he this
        have f8 : decide ((0 : Int) ≤ 0) = true := by decide
        have f9 : decide ((0 : Int) ≤ (s.length : Int)) = true := decide_eq_true (by omega)
        simp only [e1, y0, y1, y2, f1, f2, f8, f9, Int.cast_ofNat_Int, go_sem, ne_eq, not_false_eq_true, reduceIte, Nat.reduceMul, Nat.reduceAdd, Nat.reduceSub, Nat.reduceEqDiff, Nat.reduceLeDiff, Nat.reduceLT, List.take_succ_cons, List.take_zero, List.drop_succ_cons, List.cons_append]
      · have f7 : decide ((er : Int) = 0) = false := decide_eq_false (by omega)
        simp only [e1, y0, y1, y2, f1, f2, f5, f6, f7, Int.cast_ofNat_Int, go_sem, ne_eq, not_false_eq_true, reduceIte, Nat.reduceMul, Nat.reduceAdd, Nat.reduceSub, Nat.reduceEqDiff, Nat.reduceLeDiff, Nat.reduceLT, List.take_succ_cons, List.take_zero, List.drop_succ_cons, List.cons_append]
  · have e1 : decide ((4096 : Int) < (s.length : Int)) = true := decide_eq_true (by omega)
    simp only [e1, y0, go_sem, ne_eq, not_false_eq_true, reduceIte, Nat.reduceMul, Nat.reduceAdd, Nat.reduceSub, Nat.reduceEqDiff, Nat.reduceLeDiff, Nat.reduceLT, List.take_succ_cons, List.take_zero, List.drop_succ_cons, List.cons_append]
end Go.Proofs.YtbhclhgljnoioaaDoor
