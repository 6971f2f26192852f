/- lang: the text of a filter: walked. -/
import Derived.Test.YtbhclhgljnoioaaDoorPg2
set_option linter.unusedSimpArgs false
set_option linter.unusedVariables false
namespace Go.Proofs.YtbhclhgljnoioaaDoor
open Ai Go.Shelf
def bindV (k : Int) (n : Nat) : Nat := if k = 6 ∧ 1 < n then 1 else if k = 5 ∧ 1 < n then 2 else 3
theorem U88 {xf : FuncId → List V → Option V} {kz : Nat → List Nat} {k : List Fr} {st : St} {Q : AEx → St → Prop} : M xf kz (.code B88) k st Q = M xf kz (.code (.seq (.reg [⟨some 1, .lbox (.t 0) [1, 4, 8, 14, 18], none⟩,
     ⟨some 2, .mov (.k (.i .i64 0)), none⟩])
  (.seq (.blk 0 (.seq (.reg [⟨some 4, .faddr 0 (.t 1), none⟩,
       ⟨some 5, .load false 1 (.t 4), none⟩,
       ⟨some 6, .bin .eql (.t 5) (.k (.i .i64 6)), none⟩,
       ⟨some 7, .mov (.t 6), none⟩,
       ⟨some 8, .faddr 3 (.t 1), some (7, true)⟩,
       ⟨some 9, .load false 1 (.t 8), some (7, true)⟩,
       ⟨some 10, .len .slice (.t 9), some (7, true)⟩,
       ⟨some 11, .bin .gtr (.t 10) (.k (.i .i64 1)), some (7, true)⟩,
       ⟨some 12, .pick (.t 7) (.t 11) (.k (.b false)), none⟩,
       ⟨some 3, .mov (.t 12), none⟩])
    (.cond (.t 3)
     (.seq (.reg [⟨some 2, .mov (.k (.i .i64 1)), none⟩])
     .ret)
     (.seq (.reg [⟨some 14, .faddr 0 (.t 1), none⟩,
        ⟨some 15, .load false 1 (.t 14), none⟩,
        ⟨some 16, .bin .eql (.t 15) (.k (.i .i64 5)), none⟩,
        ⟨some 17, .mov (.t 16), none⟩,
        ⟨some 18, .faddr 3 (.t 1), some (17, true)⟩,
        ⟨some 19, .load false 1 (.t 18), some (17, true)⟩,
        ⟨some 20, .len .slice (.t 19), some (17, true)⟩,
        ⟨some 21, .bin .gtr (.t 20) (.k (.i .i64 1)), some (17, true)⟩,
        ⟨some 22, .pick (.t 17) (.t 21) (.k (.b false)), none⟩,
        ⟨some 13, .mov (.t 22), none⟩])
     (.cond (.t 13)
      (.seq (.reg [⟨some 2, .mov (.k (.i .i64 2)), none⟩])
      .ret)
      .skip)))))
  (.seq (.reg [⟨some 2, .mov (.k (.i .i64 3)), none⟩])
  .ret)))) k st Q := rfl
def kz88 (_ : Nat) : List Nat := []
theorem w_binds (k : Int) (nm tx : List UInt8) (xs : List V) (n : Nat) (tk : Tk) (gl : Nat → List V) :
    M noX (kz88) (.code B88) [] (St.init gl 5 [.agg [.i .i64 k, .s nm, .s tx, .sl xs n tk]] {}) (Fin [.tmp 2] (.i .i64 (bindV k n : Nat))) := by
  rw [U88]
  by_cases h1 : 1 < n
  · have e1 : decide ((1 : Int) < (n : Int)) = true := decide_eq_true (by omega)
    by_cases k6 : k = 6
    · have d6 : decide (k = 6) = true := decide_eq_true k6
      have hM : bindV k n = 1 := by unfold bindV; rw [if_pos ⟨k6, h1⟩]
      rw [hM]
      simp only [e1, d6, Int.cast_ofNat_Int, go_sem, ne_eq, not_false_eq_true, reduceIte, Nat.reduceMul, Nat.reduceAdd, Nat.reduceSub, Nat.reduceEqDiff, Nat.reduceLeDiff, Nat.reduceLT, List.take_succ_cons, List.take_zero, List.drop_succ_cons, List.cons_append]
    · have d6 : decide (k = 6) = false := decide_eq_false k6
      by_cases k5 : k = 5
      · have d5 : decide (k = 5) = true := decide_eq_true k5
        have hM : bindV k n = 2 := by unfold bindV; rw [if_neg (fun h => k6 h.1), if_pos ⟨k5, h1⟩]
        rw [hM]
        simp only [e1, d5, d6, Int.cast_ofNat_Int, go_sem, ne_eq, not_false_eq_true, reduceIte, Nat.reduceMul, Nat.reduceAdd, Nat.reduceSub, Nat.reduceEqDiff, Nat.reduceLeDiff, Nat.reduceLT, List.take_succ_cons, List.take_zero, List.drop_succ_cons, List.cons_append]
      · have d5 : decide (k = 5) = false := decide_eq_false k5
        have hM : bindV k n = 3 := by unfold bindV; rw [if_neg (fun h => k6 h.1), if_neg (fun h => k5 h.1)]
        rw [hM]
        simp only [e1, d5, d6, Int.cast_ofNat_Int, go_sem, ne_eq, not_false_eq_true, reduceIte, Nat.reduceMul, Nat.reduceAdd, Nat.reduceSub, Nat.reduceEqDiff, Nat.reduceLeDiff, Nat.reduceLT, List.take_succ_cons, List.take_zero, List.drop_succ_cons, List.cons_append]
  · have e1 : decide ((1 : Int) < (n : Int)) = false := decide_eq_false (by omega)
    have hM : bindV k n = 3 := by unfold bindV; rw [if_neg (fun h => h1 h.2), if_neg (fun h => h1 h.2)]
    rw [hM]
    cases d6 : decide (k = 6) <;> cases d5 : decide (k = 5) <;> simp only [e1, d5, d6, Int.cast_ofNat_Int, go_sem, ne_eq, not_false_eq_true, reduceIte, Nat.reduceMul, Nat.reduceAdd, Nat.reduceSub, Nat.reduceEqDiff, Nat.reduceLeDiff, Nat.reduceLT, List.take_succ_cons, List.take_zero, List.drop_succ_cons, List.cons_append]
def F_binds (a : List V) : Option V := match a with
  | [.agg [.i .i64 k, .s nm, .s tx, .sl xs n tk]] => some (.i .i64 (bindV k n : Nat))
  | _ => none
theorem o_binds : ∀ a v, F_binds a = some v → Comp tabx told 88 a v := fun a v e => by
  unfold F_binds at e
  split at e
  · cases e; exact comp_of tells_noX (fn := af88) rfl (Nat.le_of_ble_eq_true rfl) fun gl => w_binds _ _ _ _ _ _ gl
  · cases e
def R_tell (a : List V) (v : V) : Prop := ∀ (f : Fil) (c : List V), a = [.agg c] → FilR f c → v = .s (tellF f)
def R_within (a : List V) (v : V) : Prop := ∀ (f : Fil) (c : List V) (b : Nat), a = [.agg c, .i .i64 (b : Nat)] → FilR f c → v = .s (withinF f b)
noncomputable def F_tell : List V → Option V := pickP 38 R_tell
noncomputable def F_within : List V → Option V := pickP 65 R_within
def S_tell (D : Nat) : Prop := ∀ (f : Fil) (c : List V) (d : Nat), FilR f c → Fine f d → 8 ≤ d + D → Comp tabx told 38 [.agg c] (.s (tellF f))
def S_within (D : Nat) : Prop := ∀ (f : Fil) (c : List V) (d b : Nat), FilR f c → Fine f d → 8 ≤ d + D → b ≤ 3 → Comp tabx told 65 [.agg c, .i .i64 (b : Nat)] (.s (withinF f b))
theorem call_tell {D : Nat} (S : S_tell D) {f : Fil} {c : List V} {d : Nat} (hf : FilR f c) (h1 : Fine f d) (h2 : 8 ≤ d + D) : F_tell [.agg c] = some (.s (tellF f)) := by
  obtain ⟨v, e1, r⟩ := pickP_spec (R := R_tell) (S f c d hf h1 h2) (by
    intro f' c' e1 hf'
    simp only [List.cons.injEq, V.agg.injEq, and_true] at e1
    subst e1
    rw [← FilR.uniq f f' c hf hf'])
  rw [r f c rfl hf] at e1
  exact e1
theorem call_within {D : Nat} (S : S_within D) {f : Fil} {c : List V} {d b : Nat} (hf : FilR f c) (h1 : Fine f d) (h2 : 8 ≤ d + D) (h3 : b ≤ 3) : F_within [.agg c, .i .i64 (b : Nat)] = some (.s (withinF f b)) := by
  obtain ⟨v, e1, r⟩ := pickP_spec (R := R_within) (S f c d b hf h1 h2 h3) (by
    intro f' c' b' e1 hf'
    simp only [List.cons.injEq, V.agg.injEq, V.i.injEq, true_and, and_true] at e1
    obtain ⟨e1, e2⟩ := e1
    obtain rfl : b = b' := by omega
    subst e1
    rw [← FilR.uniq f f' c hf hf'])
  rw [r f c b rfl hf] at e1
  exact e1
noncomputable def X_within := xs [(88, F_binds), (38, F_tell)]
theorem t_within : Tells tabx told X_within := tells_cons o_binds (tells_cons pickP_tells tells_nil)
theorem UH65 {xf : FuncId → List V → Option V} {xh : FuncId → List V → H → Option (V × H)} {kz : Nat → List Nat} {k : List Fr} {st : St} {Q : AEx → St → Prop} : Hp.M xf xh kz (.code B65) k st Q = Hp.M xf xh kz (.code (.seq (.reg [⟨some 2, .lbox (.t 0) [2], none⟩,
     ⟨some 4, .mov (.k (.s [])), none⟩])
  (.seq (.seq (.reg [⟨some 5, .load true 4 (.t 2), none⟩,
      ⟨some 6, .call true 88 [(.t 5)], none⟩,
      ⟨some 7, .mov (.t 1), none⟩,
      ⟨some 8, .bin .lss (.t 6) (.t 7), none⟩])
   (.cond (.t 8)
    (.seq (.reg [⟨some 9, .load true 4 (.t 2), none⟩,
       ⟨some 10, .call true 38 [(.t 9)], none⟩,
       ⟨some 11, .bin .add (.k (.s [40])) (.t 10), none⟩,
       ⟨some 12, .bin .add (.t 11) (.k (.s [41])), none⟩,
       ⟨some 4, .mov (.t 12), none⟩])
    .ret)
    .skip))
  (.seq (.reg [⟨some 13, .load true 4 (.t 2), none⟩,
     ⟨some 14, .call true 38 [(.t 13)], none⟩,
     ⟨some 4, .mov (.t 14), none⟩])
  .ret)))) k st Q := rfl
def kz65 (_ : Nat) : List Nat := []
section
variable {D : Nat}
theorem s_within (S : S_tell D) : S_within D := by
  intro f c d b hf hfi hD hb
  have hs := FilR.strip f c hf
  have hl := hfi.len
  refine Hp.comp_of (kz := kz65) t_within tells_noY (fn := af65) rfl (Nat.le_of_ble_eq_true rfl) fun gl => ?_
  show Hp.M _ _ _ (.code B65) _ (St.init gl 4 [.agg (stripL c), .i .i64 (b : Nat)] _) (Fin [.tmp 4] _)
  rw [UH65]
  have y1 : X_within 38 [.agg (stripL c)] = some (.s (tellF f)) := call_tell S hs hfi hD
  generalize stripL c = c2 at hs y1
  have hbd : ∃ k nm tx xs n tk, c2 = [.i .i64 k, .s nm, .s tx, .sl xs n tk] ∧ bindF f = bindV k n := by
    cases hs with | mk k nm tx kids xs n tk hn hx => subst hn; exact ⟨k, nm, tx, xs, _, tk, rfl, rfl⟩
  obtain ⟨k, nm, tx, xs, n, tk, rfl, hbe⟩ := hbd
  have y2 : X_within 88 [.agg [.i .i64 k, .s nm, .s tx, .sl xs n tk]] = some (.i .i64 (bindV k n : Nat)) := rfl
  rw [← hbe] at y2
  unfold withinF
  generalize tellF f = t at *
  by_cases hlt : bindF f < b
  · have e1 : decide ((bindF f : Int) < (b : Int)) = true := decide_eq_true (by omega)
    rw [if_pos hlt]
    have g1 : 1 + t.length ≤ 4611686018427387904 := by omega
    have g2 : 1 + t.length + 1 ≤ 4611686018427387904 := by omega
    have g3 : t.length + 1 ≤ 4611686018427387904 := by omega
    have g4 : t.length + 1 + 1 ≤ 4611686018427387904 := by omega
    simp only [y1, y2, e1, g1, g2, g3, g4, List.length_append, List.length_cons, List.length_nil, Nat.zero_add, go_sem, ne_eq, not_false_eq_true, reduceIte, Nat.reduceMul, Nat.reduceAdd, Nat.reduceSub, Nat.reduceEqDiff, Nat.reduceLeDiff, Nat.reduceLT, List.take_succ_cons, List.take_zero, List.drop_succ_cons, List.cons_append]
  · have e1 : decide ((bindF f : Int) < (b : Int)) = false := decide_eq_false (by omega)
    rw [if_neg hlt]
    simp only [y1, y2, e1, go_sem, ne_eq, not_false_eq_true, reduceIte, Nat.reduceMul, Nat.reduceAdd, Nat.reduceSub, Nat.reduceEqDiff, Nat.reduceLeDiff, Nat.reduceLT, List.take_succ_cons, List.take_zero, List.drop_succ_cons, List.cons_append]
end
end Go.Proofs.YtbhclhgljnoioaaDoor
