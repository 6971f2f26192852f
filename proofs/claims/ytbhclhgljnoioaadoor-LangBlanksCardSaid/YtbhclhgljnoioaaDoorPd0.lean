/- lang: the text of a filter: walked. -/
import Derived.Test.YtbhclhgljnoioaaDoorPg2
import Derived.Test.YtbhclhgljnoioaaDoorAi12
set_option linter.unusedSimpArgs false
set_option linter.unusedVariables false
namespace Go.Proofs.YtbhclhgljnoioaaDoor
open Ai Go.Shelf
def bindV (k : Int) (n : Nat) : Nat := if k = 6 ∧ 1 < n then 1 else if k = 5 ∧ 1 < n then 2 else 3
theorem U88 : type_of% (@M_open _ _ B88.eq_1) := @M_open _ _ B88.eq_1
def kz88 (_ : Nat) : List Nat := []
theorem w_binds (k : Int) (nm tx : List UInt8) (xs : List V) (n : Nat) (tk : Tk) (gl : Nat → List V) :
    M noX (kz88) (.code B88) [] (St.init gl 5 [.agg [.i .i64 k, .s nm, .s tx, .sl xs n tk]] {}) (Fin [.tmp 2] (.i .i64 (bindV k n : Nat))) := by
  rw [U88]
  by_cases h1 : 1 < n
  · have e1 : decide ((1 : Int) < (n : Int)) = true := decide_eq_true (by omega)
    by_cases k6 : k = 6
    · have d6 : decide (k = 6) = true := decide_eq_true k6
      have hM : bindV k n = 1 := by unfold bindV; rw [if_pos ⟨k6, h1⟩]
      rw [hM]
      simp only [e1, d6, Int.cast_ofNat_Int, go_sem, ne_eq, not_false_eq_true, reduceIte, Nat.reduceMul, Nat.reduceAdd, Nat.reduceSub, Nat.reduceEqDiff, Nat.reduceLeDiff, Nat.reduceLT, List.take_succ_cons, List.take_zero, List.drop_succ_cons, List.cons_append]
    · have d6 : decide (k = 6) = false := decide_eq_false k6
      by_cases k5 : k = 5
      · have d5 : decide (k = 5) = true := decide_eq_true k5
        have hM : bindV k n = 2 := by unfold bindV; rw [if_neg (fun h => k6 h.1), if_pos ⟨k5, h1⟩]
        rw [hM]
        simp only [e1, d5, d6, Int.cast_ofNat_Int, go_sem, ne_eq, not_false_eq_true, reduceIte, Nat.reduceMul, Nat.reduceAdd, Nat.reduceSub, Nat.reduceEqDiff, Nat.reduceLeDiff, Nat.reduceLT, List.take_succ_cons, List.take_zero, List.drop_succ_cons, List.cons_append]
      · have d5 : decide (k = 5) = false := decide_eq_false k5
        have hM : bindV k n = 3 := by unfold bindV; rw [if_neg (fun h => k6 h.1), if_neg (fun h => k5 h.1)]
        rw [hM]
        simp only [e1, d5, d6, Int.cast_ofNat_Int, go_sem, ne_eq, not_false_eq_true, reduceIte, Nat.reduceMul, Nat.reduceAdd, Nat.reduceSub, Nat.reduceEqDiff, Nat.reduceLeDiff, Nat.reduceLT, List.take_succ_cons, List.take_zero, List.drop_succ_cons, List.cons_append]
  · have e1 : decide ((1 : Int) < (n : Int)) = false := decide_eq_false (by omega)
    have hM : bindV k n = 3 := by unfold bindV; rw [if_neg (fun h => h1 h.2), if_neg (fun h => h1 h.2)]
    rw [hM]
    cases d6 : decide (k = 6) <;> cases d5 : decide (k = 5) <;> simp only [e1, d5, d6, Int.cast_ofNat_Int, go_sem, ne_eq, not_false_eq_true, reduceIte, Nat.reduceMul, Nat.reduceAdd, Nat.reduceSub, Nat.reduceEqDiff, Nat.reduceLeDiff, Nat.reduceLT, List.take_succ_cons, List.take_zero, List.drop_succ_cons, List.cons_append]
def F_binds (a : List V) : Option V := match a with
  | [.agg [.i .i64 k, .s nm, .s tx, .sl xs n tk]] => some (.i .i64 (bindV k n : Nat))
  | _ => none
theorem o_binds : ∀ a v, F_binds a = some v → Comp tabx told 88 a v := fun a v e => by
  unfold F_binds at e
  split at e
  · cases e; exact comp_of tells_noX (fn := af88) rfl (Nat.le_of_ble_eq_true rfl) fun gl => w_binds _ _ _ _ _ _ gl
  · cases e
def R_tell (a : List V) (v : V) : Prop := ∀ (f : Fil) (c : List V), a = [.agg c] → FilR f c → v = .s (tellF f)
def R_within (a : List V) (v : V) : Prop := ∀ (f : Fil) (c : List V) (b : Nat), a = [.agg c, .i .i64 (b : Nat)] → FilR f c → v = .s (withinF f b)
noncomputable def F_tell : List V → Option V := pickP 38 R_tell
noncomputable def F_within : List V → Option V := pickP 65 R_within
def S_tell (D : Nat) : Prop := ∀ (f : Fil) (c : List V) (d : Nat), FilR f c → Fine f d → 8 ≤ d + D → Comp tabx told 38 [.agg c] (.s (tellF f))
def S_within (D : Nat) : Prop := ∀ (f : Fil) (c : List V) (d b : Nat), FilR f c → Fine f d → 8 ≤ d + D → b ≤ 3 → Comp tabx told 65 [.agg c, .i .i64 (b : Nat)] (.s (withinF f b))
theorem call_tell {D : Nat} (S : S_tell D) {f : Fil} {c : List V} {d : Nat} (hf : FilR f c) (h1 : Fine f d) (h2 : 8 ≤ d + D) : F_tell [.agg c] = some (.s (tellF f)) := by
  obtain ⟨v, e1, r⟩ := pickP_spec (R := R_tell) (S f c d hf h1 h2) (by
    intro f' c' e1 hf'
    simp only [List.cons.injEq, V.agg.injEq, and_true] at e1
    subst e1
    rw [← FilR.uniq f f' c hf hf'])
  rw [r f c rfl hf] at e1
  exact e1
theorem call_within {D : Nat} (S : S_within D) {f : Fil} {c : List V} {d b : Nat} (hf : FilR f c) (h1 : Fine f d) (h2 : 8 ≤ d + D) (h3 : b ≤ 3) : F_within [.agg c, .i .i64 (b : Nat)] = some (.s (withinF f b)) := by
  obtain ⟨v, e1, r⟩ := pickP_spec (R := R_within) (S f c d b hf h1 h2 h3) (by
    intro f' c' b' e1 hf'
    simp only [List.cons.injEq, V.agg.injEq, V.i.injEq, true_and, and_true] at e1
    obtain ⟨e1, e2⟩ := e1
    obtain rfl : b = b' := by omega
    subst e1
    rw [← FilR.uniq f f' c hf hf'])
  rw [r f c b rfl hf] at e1
  exact e1
noncomputable def X_within := xs [(88, F_binds), (38, F_tell)]
theorem t_within : Tells tabx told X_within := tells_cons o_binds (tells_cons pickP_tells tells_nil)
theorem UH65 : type_of% (@Hp_open _ _ B65.eq_1) := @Hp_open _ _ B65.eq_1
def kz65 (_ : Nat) : List Nat := []
section
variable {D : Nat}
theorem s_within (S : S_tell D) : S_within D := by
  intro f c d b hf hfi hD hb
  have hs := FilR.strip f c hf
  have hl := hfi.len
  refine Hp.comp_of (kz := kz65) t_within tells_noY (fn := af65) rfl (Nat.le_of_ble_eq_true rfl) fun gl => ?_
  show Hp.M _ _ _ (.code B65) _ (St.init gl 4 [.agg (stripL c), .i .i64 (b : Nat)] _) (Fin [.tmp 4] _)
  rw [UH65]
  have y1 : X_within 38 [.agg (stripL c)] = some (.s (tellF f)) := call_tell S hs hfi hD
  generalize stripL c = c2 at hs y1
  have hbd : ∃ k nm tx xs n tk, c2 = [.i .i64 k, .s nm, .s tx, .sl xs n tk] ∧ bindF f = bindV k n := by
    cases hs with | mk k nm tx kids xs n tk hn hx => subst hn; exact ⟨k, nm, tx, xs, _, tk, rfl, rfl⟩
  obtain ⟨k, nm, tx, xs, n, tk, rfl, hbe⟩ := hbd
  have y2 : X_within 88 [.agg [.i .i64 k, .s nm, .s tx, .sl xs n tk]] = some (.i .i64 (bindV k n : Nat)) := rfl
  rw [← hbe] at y2
  unfold withinF
  generalize tellF f = t at *
  by_cases hlt : bindF f < b
  · have e1 : decide ((bindF f : Int) < (b : Int)) = true := decide_eq_true (by omega)
    rw [if_pos hlt]
    have g1 : 1 + t.length ≤ 4611686018427387904 := by omega
    have g2 : 1 + t.length + 1 ≤ 4611686018427387904 := by omega
    have g3 : t.length + 1 ≤ 4611686018427387904 := by omega
    have g4 : t.length + 1 + 1 ≤ 4611686018427387904 := by omega
    simp only [y1, y2, e1, g1, g2, g3, g4, List.length_append, List.length_cons, List.length_nil, Nat.zero_add, go_sem, ne_eq, not_false_eq_true, reduceIte, Nat.reduceMul, Nat.reduceAdd, Nat.reduceSub, Nat.reduceEqDiff, Nat.reduceLeDiff, Nat.reduceLT, List.take_succ_cons, List.take_zero, List.drop_succ_cons, List.cons_append]
  · have e1 : decide ((bindF f : Int) < (b : Int)) = false := decide_eq_false (by omega)
    rw [if_neg hlt]
    simp only [y1, y2, e1, go_sem, ne_eq, not_false_eq_true, reduceIte, Nat.reduceMul, Nat.reduceAdd, Nat.reduceSub, Nat.reduceEqDiff, Nat.reduceLeDiff, Nat.reduceLT, List.take_succ_cons, List.take_zero, List.drop_succ_cons, List.cons_append]
end
end Go.Proofs.YtbhclhgljnoioaaDoor
set_option linter.unusedSimpArgs false
set_option linter.unusedVariables false
namespace Go.Proofs.YtbhclhgljnoioaaDoor
open Ai Go.Shelf
theorem k_bsliceT {xf : FuncId → List V → Option V} {xh : FuncId → List V → H → Option (V × H)} (gl : Nat → List V) (T : T) (its : List (Nat × (List UInt8 × Nat))) (loc : List (Nat × List V)) (nx : Nat) (obs : List (Nat × Ai.Obj)) (nt : Nat) (tips : List (Nat × (Nat × TypeId))) (d : Nat) (ty : TypeId) (z : V) (x : Opd) :
    Hp.stepK xf xh ⟨gl, T, its, loc, ⟨nx, obs, nt, tips⟩⟩ d (.bslice true ty 1 1 [z] [(0, x)]) = (match (St.ev ⟨gl, T, its, loc, ⟨nx, obs, nt, tips⟩⟩ x).cells? with
      | some [v] => some (.hs nx 0 1 1, ⟨gl, T, its, loc, ⟨nx + 1, (nx, .cells ty [v]) :: obs, nt, tips⟩⟩)
      | _ => none) := by
  have e : Hp.stepK xf xh ⟨gl, T, its, loc, ⟨nx, obs, nt, tips⟩⟩ d (.bslice true ty 1 1 [z] [(0, x)]) = (match fill (zeros [z] 1) (evB ⟨gl, T, its, loc, ⟨nx, obs, nt, tips⟩⟩ 1 [(0, x)]) with
    | some cs => some (.hs nx 0 1 1, ⟨gl, T, its, loc, ⟨nx + 1, (nx, .cells ty cs) :: obs, nt, tips⟩⟩)
    | none => none) := rfl
  rw [e]
  simp only [evB, fill]
  cases (St.ev ⟨gl, T, its, loc, ⟨nx, obs, nt, tips⟩⟩ x).cells? with
  | none => rfl
  | some vs =>
    match vs with
    | [] => rfl
    | [v] => rfl
    | a :: b :: r =>
      simp only [List.length_cons]
      rw [nbne (show r.length + 1 + 1 ≠ 1 by omega)]
      rfl
noncomputable def X_tell := xs [(12, F_Quote), (65, F_within), (38, F_tell)]
theorem t_tell : Tells tabx told X_tell := tells_cons o_Quote (tells_cons pickP_tells (tells_cons pickP_tells tells_nil))
def Y_tell := ys [(66, H_Join)]
theorem u_tell : Hp.TellsI tabx told Y_tell := itells_cons i_Join itells_nil
def K38_2 : List Fr := [.blk 3,
 .seq (.seq (.reg [⟨some 78, .mov (.t 4), none⟩, ⟨some 79, .mov (.t 6), none⟩, ⟨some 80, .call false 66 [(.t 79), (.k (.s [44, 32]))], none⟩, ⟨some 81, .bin .add (.t 78) (.t 80), none⟩, ⟨some 82, .bin .add (.t 81) (.k (.s [41])), none⟩, ⟨some 2, .mov (.t 82), none⟩])
 .ret)]
theorem UH38_2 : type_of% (@Hp_open _ _ L38_2.eq_1) := @Hp_open _ _ L38_2.eq_1
def K38_1 : List Fr := [.blk 1,
 .seq (.seq (.seq (.reg [⟨some 58, .mov (.t 6), none⟩, ⟨some 59, .len .slice (.t 58), none⟩, ⟨some 60, .bin .gtr (.t 59) (.k (.i .i64 1)), none⟩])
 (.cond (.t 60)
 (.seq (.reg [⟨some 61, .mov (.t 6), none⟩, ⟨some 62, .mov (.t 3), none⟩, ⟨some 63, .call false 66 [(.t 61), (.t 62)], none⟩, ⟨some 2, .mov (.t 63), none⟩])
 .ret)
 .skip))
 (.seq (.seq (.reg [⟨some 64, .faddr 3 (.t 1), none⟩, ⟨some 65, .load false 1 (.t 64), none⟩, ⟨some 66, .len .slice (.t 65), none⟩, ⟨some 67, .mov (.k (.i .i64 0)), none⟩])
 (.blk 3 (.loop L38_2)))
 (.seq (.reg [⟨some 78, .mov (.t 4), none⟩, ⟨some 79, .mov (.t 6), none⟩, ⟨some 80, .call false 66 [(.t 79), (.k (.s [44, 32]))], none⟩, ⟨some 81, .bin .add (.t 78) (.t 80), none⟩, ⟨some 82, .bin .add (.t 81) (.k (.s [41])), none⟩, ⟨some 2, .mov (.t 82), none⟩])
 .ret)))]
theorem UH38_1 : type_of% (@Hp_open _ _ L38_1.eq_1) := @Hp_open _ _ L38_1.eq_1
theorem UH38 : type_of% (@Hp_open _ _ B38.eq_1) := @Hp_open _ _ B38.eq_1
def kz38 (_ : Nat) : List Nat := [0, 2, 7, 8, 9, 10, 11, 12, 13, 14, 15, 16, 17, 18, 19, 20, 21, 22, 23, 24, 25, 26, 27, 28, 29, 30, 31, 32, 33, 34, 35, 36, 37, 38, 39, 40, 41, 42, 43, 47, 48, 49, 50, 51, 52, 53, 54, 55, 56, 57, 58, 59, 60, 61, 62, 63, 64, 68, 69, 70, 71, 72, 73, 74, 75, 76, 77, 78, 79, 80, 81, 82]
theorem tellW_le (l : List Fil) (b : Nat) (sep : List UInt8) (hs : sep.length ≤ 5) (h : okLs l) : (Lib.join (tellW l b) sep).length ≤ 50000 * cnts l := Nat.le_trans (join_le _ _ 5 hs) (tellW_sum l b h)
theorem Y_JoinS (sep : List UInt8) (h : H) : Y_tell 66 [.sl [] 0 .nil, .s sep] h = some (.s [], h) := H_JoinS (l := []) (tk := .nil) sep h rfl (by decide) (Nat.zero_le _)
section
variable {D : Nat}
/-! The kids' texts, in parentheses where they must be. -/
set_option maxRecDepth 100000 in
theorem w_t2 (S : S_tell D) (kids : List Fil) (ys : List V) (tk0 : Tk) (hy : KidsR kids ys) (d : Nat) (hk : ∀ (pre : List Fil) (f : Fil) (post : List Fil), kids = pre ++ f :: post → Fine f (d + 1)) (hD : 8 ≤ d + 1 + D) (li : List UInt8) (hli : li.length = 4 ∨ li.length = 5) (gl : Nat → List V)
    (l : List (List UInt8)) (hl1 : l.length = kids.length) (hk1 : kids.length ≤ 1) (v : V) (h : H) (hb : LB h v l) (loc : List (Nat × List V)) (x1 x3 x5 x44 x45 x46 : V) :
    Hp.M X_tell Y_tell (kz38) (.code L38_2) (.loop L38_2 :: K38_2) ⟨gl, (.node (.node (.node (.node (.node (.node (.node .leaf .any .leaf) .any (.node .leaf .any .leaf)) .any (.node (.node .leaf .any .leaf) .any (.node .leaf .any .leaf))) .any (.node (.node (.node .leaf .any .leaf) .any (.node .leaf .any .leaf)) .any (.node (.node .leaf .any .leaf) .any (.node .leaf .any .leaf)))) (x3) (.node (.node (.node (.node .leaf (.i .i64 0) .leaf) .any (.node .leaf .any .leaf)) .any (.node (.node .leaf .any .leaf) .any (.node .leaf .any .leaf))) .any (.node (.node (.node .leaf .any .leaf) .any (.node .leaf .any .leaf)) .any (.node (.node .leaf .any .leaf) .any (.node .leaf .any .leaf))))) (x1) (.node (.node (.node (.node (.node .leaf (.sl ys kids.length tk0) .leaf) .any (.node .leaf .any .leaf)) .any (.node (.node .leaf .any .leaf) .any (.node .leaf .any .leaf))) .any (.node (.node (.node .leaf .any .leaf) .any (.node .leaf .any .leaf)) .any (.node (.node .leaf .any .leaf) .any (.node .leaf .any .leaf)))) (x5) (.node (.node (.node (.node .leaf .any .leaf) .any (.node .leaf .any .leaf)) .any (.node (.node .leaf .any .leaf) .any (.node .leaf .any .leaf))) .any (.node (.node (.node .leaf .any .leaf) (x45) (.node .leaf .any .leaf)) .any (.node (.node .leaf .any .leaf) .any (.node .leaf .any .leaf)))))) .any (.node (.node (.node (.node (.node (.node .leaf .any .leaf) .any (.node .leaf .any .leaf)) .any (.node (.node .leaf .any .leaf) .any (.node .leaf .any .leaf))) .any (.node (.node (.node .leaf .any .leaf) .any (.node .leaf .any .leaf)) .any (.node (.node .leaf .any .leaf) .any (.node .leaf .any .leaf)))) (.s li) (.node (.node (.node (.node .leaf .any .leaf) .any (.node .leaf .any .leaf)) .any (.node (.node .leaf .any .leaf) .any (.node .leaf .any .leaf))) .any (.node (.node (.node .leaf .any .leaf) (x44) (.node .leaf .any .leaf)) .any (.node (.node .leaf .any .leaf) .any (.node .leaf .any .leaf))))) .any (.node (.node (.node (.node (.node .leaf (.i .i64 (kids.length : Nat)) .leaf) .any (.node .leaf .any .leaf)) .any (.node (.node .leaf .any .leaf) .any (.node .leaf .any .leaf))) .any (.node (.node (.node .leaf .any .leaf) .any (.node .leaf .any .leaf)) .any (.node (.node .leaf .any .leaf) .any (.node .leaf .any .leaf)))) (v) (.node (.node (.node (.node .leaf .any .leaf) .any (.node .leaf .any .leaf)) .any (.node (.node .leaf .any .leaf) .any (.node .leaf .any .leaf))) .any (.node (.node (.node .leaf .any .leaf) (x46) (.node .leaf .any .leaf)) .any (.node (.node .leaf .any .leaf) .any (.node .leaf .any .leaf))))))), [], loc, h⟩
      (Fin [.tmp 2] (.s (li ++ Lib.join (tellL kids) [44, 32] ++ [41]))) := by
  match kids, hl1, hk1 with
  | [], hl1, _ =>
    obtain rfl : l = [] := List.eq_nil_of_length_eq_zero (by simpa using hl1)
    rcases hb with ⟨_, rfl⟩ | ⟨hne, _⟩
    · have e1 : decide ((0 : Int) < 0) = false := by decide
      have yj := Y_JoinS [44, 32] h
      have g1 : li.length ≤ 4611686018427387904 := by omega
      have g2 : li.length + 1 ≤ 4611686018427387904 := by omega
      rw [UH38_2, tellL, Lib.join_nil]
      simp only [e1, yj, g1, g2, K38_2, List.length_append, List.append_nil, Nat.add_zero, Int.cast_ofNat_Int, go_sem, ne_eq, not_false_eq_true, reduceIte, Nat.reduceMul, Nat.reduceAdd, Nat.reduceSub, Nat.reduceEqDiff, Nat.reduceLeDiff, Nat.reduceLT, List.take_succ_cons, List.take_zero, List.drop_succ_cons, List.cons_append]
    · exact absurd rfl hne
  | [g], hl1, _ =>
    obtain ⟨x, rfl⟩ : ∃ x, l = [x] := by
      match l, (show l.length = 1 by simpa using hl1) with
      | [x], _ => exact ⟨x, rfl⟩
    rcases hb with ⟨hne, _⟩ | ⟨_, id, rfl, hid, ho⟩
    · cases hne
    · obtain ⟨nx, obs, nt, tips⟩ := h
      simp only [List.map_cons, List.map_nil] at ho
      have hfi := hk [] g [] rfl
      obtain ⟨c, hc, ht⟩ := hy.split [] g [] rfl
      have y1 : X_tell 38 [.agg c] = some (.s (tellF g)) := call_tell S hc hfi hD
      have hlen := hfi.len
      have hyl := hy.len
      have e1 : decide ((0 : Int) < 1) = true := by decide
      have e2 : decide ((1 : Int) < 1) = false := by decide
      have w1 : wr .i64 ((0 : Int) + 1) = 1 := by decide
      rw [tellL, tellL, Lib.join_one]
      cases hc with | mk k1 nm1 tx1 kids1 xs1 n1 tk1 hn1 hx1 =>
      generalize tellF (.mk k1 nm1 tx1 kids1) = t at *
      have yj : Y_tell 66 [.hs id 0 1 1, .s [44, 32]] ⟨nx, alSet obs id (.cells 9 [.s t]), nt, tips⟩ = some (.s t, ⟨nx, alSet obs id (.cells 9 [.s t]), nt, tips⟩) := by
        have := H_JoinH (h := ⟨nx, alSet obs id (.cells 9 [.s t]), nt, tips⟩) (id := id) (n := 1) (ty := 9) (l := [t]) [44, 32] (al_alSet _ _ _) rfl (by decide) (by rw [Lib.join_one]; omega)
        rw [Lib.join_one] at this
        exact this
      have g1 : li.length + t.length ≤ 4611686018427387904 := by omega
      have g2 : li.length + t.length + 1 ≤ 4611686018427387904 := by omega
      have g3 : 4 ≤ ys.length := by simp only [List.length_cons, List.length_nil] at hyl; omega
      rw [UH38_2]
      simp only [List.length_cons, List.length_nil, Nat.zero_add, Nat.zero_mul, Nat.one_mul, List.drop_zero] at hyl ht ⊢
      simp only [e1, hyl, g3, rd_ip, ht, y1, ho, w1, splice, Int.cast_ofNat_Int, go_sem, ne_eq, not_false_eq_true, reduceIte, Nat.reduceMul, Nat.reduceAdd, Nat.reduceSub, Nat.reduceEqDiff, Nat.reduceLeDiff, Nat.reduceLT, List.take_succ_cons, List.take_zero, List.drop_succ_cons, List.cons_append]
      rw [Hp.M_loop]
      rw [UH38_2]
      simp only [kz38, K38_2, List.length_cons, List.length_nil, go_sem, ne_eq, not_false_eq_true, reduceIte, Nat.reduceMul, Nat.reduceAdd, Nat.reduceSub, Nat.reduceEqDiff, Nat.reduceLeDiff, Nat.reduceLT, List.take_succ_cons, List.take_zero, List.drop_succ_cons, List.cons_append]
      simp only [e2, yj, g1, g2, K38_2, List.length_append, List.length_cons, List.length_nil, Int.cast_ofNat_Int, go_sem, ne_eq, not_false_eq_true, reduceIte, Nat.reduceMul, Nat.reduceAdd, Nat.reduceSub, Nat.reduceEqDiff, Nat.reduceLeDiff, Nat.reduceLT, List.take_succ_cons, List.take_zero, List.drop_succ_cons, List.cons_append]
  | _ :: _ :: _, _, h => simp only [List.length_cons] at h; omega
end
end Go.Proofs.YtbhclhgljnoioaaDoor
set_option linter.unusedSimpArgs false
set_option linter.unusedVariables false
namespace Go.Proofs.YtbhclhgljnoioaaDoor
open Ai Go.Shelf
section
variable {D : Nat}
set_option maxRecDepth 100000 in
theorem w_t1 (S : S_tell D) (k : Int) (nm tx : List UInt8) (kids : List Fil) (ys : List V) (tk0 : Tk) (hy : KidsR kids ys) (d : Nat) (hfi : Fine (.mk k nm tx kids) d) (hD : 8 ≤ d + 1 + D) (word li : List UInt8) (hwo : word.length = 4 ∨ word.length = 5) (hli : li.length = 4 ∨ li.length = 5) (b : Nat) (hb1 : b ≤ 2) (gl : Nat → List V) :
    ∀ (post pre : List Fil) (l : List (List UInt8)) (v : V) (h : H) (l8 : List (Nat × List V)), kids = pre ++ post → l = tellW pre (b + 1) → LB h v l →
    Hp.M X_tell Y_tell (kz38) (.code L38_1) (.loop L38_1 :: K38_1) ⟨gl, (.node (.node (.node (.node (.node (.node (.node .leaf .any .leaf) .any (.node .leaf .any .leaf)) .any (.node (.node .leaf .any .leaf) .any (.node .leaf .any .leaf))) .any (.node (.node (.node .leaf .any .leaf) .any (.node .leaf .any .leaf)) .any (.node (.node .leaf .any .leaf) .any (.node .leaf .any .leaf)))) (.s word) (.node (.node (.node (.node .leaf .any .leaf) .any (.node .leaf .any .leaf)) .any (.node (.node .leaf .any .leaf) .any (.node .leaf .any .leaf))) .any (.node (.node (.node .leaf .any .leaf) .any (.node .leaf .any .leaf)) .any (.node (.node .leaf .any .leaf) .any (.node .leaf .any .leaf))))) (.l 1 0) (.node (.node (.node (.node (.node .leaf .any .leaf) .any (.node .leaf .any .leaf)) .any (.node (.node .leaf .any .leaf) .any (.node .leaf .any .leaf))) .any (.node (.node (.node .leaf .any .leaf) .any (.node .leaf .any .leaf)) .any (.node (.node .leaf .any .leaf) .any (.node .leaf .any .leaf)))) (.i .i64 (b : Nat)) (.node (.node (.node (.node .leaf .any .leaf) .any (.node .leaf .any .leaf)) .any (.node (.node .leaf .any .leaf) .any (.node .leaf .any .leaf))) .any (.node (.node (.node .leaf .any .leaf) (.i .i64 (kids.length : Nat)) (.node .leaf .any .leaf)) .any (.node (.node .leaf .any .leaf) .any (.node .leaf .any .leaf)))))) .any (.node (.node (.node (.node (.node (.node .leaf .any .leaf) .any (.node .leaf .any .leaf)) .any (.node (.node .leaf .any .leaf) .any (.node .leaf .any .leaf))) .any (.node (.node (.node .leaf .any .leaf) .any (.node .leaf .any .leaf)) .any (.node (.node .leaf .any .leaf) .any (.node .leaf .any .leaf)))) (.s li) (.node (.node (.node (.node .leaf .any .leaf) .any (.node .leaf .any .leaf)) .any (.node (.node .leaf .any .leaf) .any (.node .leaf .any .leaf))) .any (.node (.node (.node .leaf .any .leaf) (.sl ys kids.length tk0) (.node .leaf .any .leaf)) .any (.node (.node .leaf .any .leaf) .any (.node .leaf .any .leaf))))) .any (.node (.node (.node (.node (.node .leaf .any .leaf) .any (.node .leaf .any .leaf)) .any (.node (.node .leaf .any .leaf) .any (.node .leaf .any .leaf))) .any (.node (.node (.node .leaf .any .leaf) .any (.node .leaf .any .leaf)) .any (.node (.node .leaf .any .leaf) .any (.node .leaf .any .leaf)))) (v) (.node (.node (.node (.node .leaf .any .leaf) .any (.node .leaf .any .leaf)) .any (.node (.node .leaf .any .leaf) .any (.node .leaf .any .leaf))) .any (.node (.node (.node .leaf .any .leaf) (.i .i64 (pre.length : Nat)) (.node .leaf .any .leaf)) .any (.node (.node .leaf .any .leaf) .any (.node .leaf .any .leaf))))))), [], (1, [.i .i64 k, .s nm, .s tx, .sl ys kids.length tk0]) :: l8, h⟩
      (Fin [.tmp 2] (.s (if 1 < kids.length then Lib.join (tellW kids (b + 1)) word else li ++ Lib.join (tellL kids) [44, 32] ++ [41]))) := by
  obtain ⟨m1, m2, m3, m4, m5, m6, m7⟩ := hfi.may
  intro post
  induction post with
  | nil =>
    intro pre l v h l8 hk1 hl hb
    have hkl : kids.length = pre.length := by rw [hk1]; simp
    rw [List.append_nil] at hk1
    have hll : l.length = kids.length := by rw [hl, tellW_len, hkl]
    have e1 : decide ((pre.length : Int) < (kids.length : Int)) = false := decide_eq_false (by omega)
    rw [UH38_1]
    by_cases hk2 : 1 < kids.length
    · rw [if_pos hk2]
      rcases hb with ⟨rfl, rfl⟩ | ⟨hne, id, rfl, hid, ho⟩
      · simp only [List.length_nil] at hll; omega
      · have e2 : decide ((1 : Int) < (l.length : Int)) = true := decide_eq_true (by omega)
        have yj : Y_tell 66 [.hs id 0 l.length 1, .s word] h = some (.s (Lib.join l word), h) := H_JoinH word ho rfl (by omega) (by
          rw [hl]; have := tellW_le pre (b + 1) word (by omega) (hk1 ▸ m7); rw [hk1] at m6; omega)
        have hjl : Lib.join l word = Lib.join (tellW kids (b + 1)) word := by rw [hl, hk1]
        rw [hjl] at yj
        simp only [e1, e2, yj, K38_1, go_sem, ne_eq, not_false_eq_true, reduceIte, Nat.reduceMul, Nat.reduceAdd, Nat.reduceSub, Nat.reduceEqDiff, Nat.reduceLeDiff, Nat.reduceLT, List.take_succ_cons, List.take_zero, List.drop_succ_cons, List.cons_append]
    · rw [if_neg hk2]
      have key := fun x1 x3 x5 x44 x45 x46 => w_t2 S kids ys tk0 hy d (hfi.kid) hD li hli gl l hll (by omega) v h hb ((1, [.i .i64 k, .s nm, .s tx, .sl ys kids.length tk0]) :: l8) x1 x3 x5 x44 x45 x46
      rcases hb with ⟨rfl, rfl⟩ | ⟨hne, id, rfl, hid, ho⟩
      · have e2 : decide ((1 : Int) < 0) = false := by decide
        simp only [e1, e2, K38_1, Int.cast_ofNat_Int, Int.natCast_zero, go_sem, ne_eq, not_false_eq_true, reduceIte, Nat.reduceMul, Nat.reduceAdd, Nat.reduceSub, Nat.reduceEqDiff, Nat.reduceLeDiff, Nat.reduceLT, List.take_succ_cons, List.take_zero, List.drop_succ_cons, List.cons_append]
        rw [Hp.M_loop]
        simp only [kz38, K38_2, List.length_cons, List.length_nil, go_sem, ne_eq, not_false_eq_true, reduceIte, Nat.reduceMul, Nat.reduceAdd, Nat.reduceSub, Nat.reduceEqDiff, Nat.reduceLeDiff, Nat.reduceLT, List.take_succ_cons, List.take_zero, List.drop_succ_cons, List.cons_append] at key ⊢
        exact key _ _ _ _ _ _
      · have e2 : decide ((1 : Int) < (l.length : Int)) = false := decide_eq_false (by omega)
        simp only [e1, e2, K38_1, go_sem, ne_eq, not_false_eq_true, reduceIte, Nat.reduceMul, Nat.reduceAdd, Nat.reduceSub, Nat.reduceEqDiff, Nat.reduceLeDiff, Nat.reduceLT, List.take_succ_cons, List.take_zero, List.drop_succ_cons, List.cons_append]
        rw [Hp.M_loop]
        simp only [kz38, K38_2, List.length_cons, List.length_nil, go_sem, ne_eq, not_false_eq_true, reduceIte, Nat.reduceMul, Nat.reduceAdd, Nat.reduceSub, Nat.reduceEqDiff, Nat.reduceLeDiff, Nat.reduceLT, List.take_succ_cons, List.take_zero, List.drop_succ_cons, List.cons_append] at key ⊢
        exact key _ _ _ _ _ _
  | cons f post ih =>
    intro pre l v h l8 hk1 hl hb
    have hkl : kids.length = pre.length + post.length + 1 := by rw [hk1]; simp; omega
    have hll : l.length = pre.length := by rw [hl, tellW_len]
    have e1 : decide ((pre.length : Int) < (kids.length : Int)) = true := decide_eq_true (by omega)
    have g1 : pre.length < kids.length := by omega
    have hyl := hy.len
    have g2 : (pre.length + 1) * 4 ≤ kids.length * 4 := by omega
    obtain ⟨c, hc, ht⟩ := hy.split pre f post hk1
    have w1 : wr .i64 ((b : Int) + 1) = ((b + 1 : Nat) : Int) := by rw [wr64] <;> omega
    have w2 : wr .i64 ((pre.length : Int) + 1) = ((pre.length + 1 : Nat) : Int) := by rw [wr64] <;> omega
    have y1 : X_tell 65 [.agg c, .i .i64 ((b + 1 : Nat) : Int)] = some (.s (withinF f (b + 1))) := call_within (s_within S) hc (hfi.kid pre f post hk1) hD (by omega)
    obtain ⟨nx, obs, nt, tips⟩ := h
    obtain ⟨v', h', hap, hb'⟩ := hb.step (withinF f (b + 1)) (by unfold most; omega)
    have hl' : l ++ [withinF f (b + 1)] = tellW (pre ++ [f]) (b + 1) := by rw [tellW_app, tellW_one, hl]
    have hb2 := hb'
    rcases hb' with ⟨h0, _⟩ | ⟨_, id', rfl, _, _⟩
    · simp at h0
    · have := fun l8 => ih (pre ++ [f]) _ _ h' l8 (by rw [hk1]; simp) hl' hb2
      rw [UH38_1]
      cases hc with | mk k1 nm1 tx1 kids1 xs1 n1 tk1 hn1 hx1 =>
      rcases hb with ⟨rfl, rfl⟩ | ⟨hne, id, rfl, hid, ho⟩
      · simp only [e1, g1, hyl, g2, rd_ip, ht, w1, w2, y1, k_bsliceT, hap, splice, Int.cast_ofNat_Int, go_sem, ne_eq, not_false_eq_true, reduceIte, Nat.reduceMul, Nat.reduceAdd, Nat.reduceSub, Nat.reduceEqDiff, Nat.reduceLeDiff, Nat.reduceLT, List.take_succ_cons, List.take_zero, List.drop_succ_cons, List.cons_append]
        rw [Hp.M_loop]
        simp only [kz38, K38_1, List.length_append, List.length_cons, List.length_nil, Nat.zero_add, go_sem, ne_eq, not_false_eq_true, reduceIte, Nat.reduceMul, Nat.reduceAdd, Nat.reduceSub, Nat.reduceEqDiff, Nat.reduceLeDiff, Nat.reduceLT, List.take_succ_cons, List.take_zero, List.drop_succ_cons, List.cons_append] at this ⊢
        exact this _
      · simp only [e1, g1, hyl, g2, rd_ip, ht, w1, w2, y1, k_bsliceT, hap, splice, Int.cast_ofNat_Int, go_sem, ne_eq, not_false_eq_true, reduceIte, Nat.reduceMul, Nat.reduceAdd, Nat.reduceSub, Nat.reduceEqDiff, Nat.reduceLeDiff, Nat.reduceLT, List.take_succ_cons, List.take_zero, List.drop_succ_cons, List.cons_append]
        rw [Hp.M_loop]
        simp only [kz38, K38_1, List.length_append, List.length_cons, List.length_nil, Nat.zero_add, go_sem, ne_eq, not_false_eq_true, reduceIte, Nat.reduceMul, Nat.reduceAdd, Nat.reduceSub, Nat.reduceEqDiff, Nat.reduceLeDiff, Nat.reduceLT, List.take_succ_cons, List.take_zero, List.drop_succ_cons, List.cons_append] at this ⊢
        exact this _
set_option maxRecDepth 100000 in
set_option maxHeartbeats 1000000 in
theorem s_tell (S : S_tell D) : S_tell (D + 1) := by
  intro f c d hf hfi hD
  have hs := FilR.strip f c hf
  refine Hp.comp_of (kz := kz38) t_tell u_tell (fn := af38) rfl (Nat.le_of_ble_eq_true rfl) fun gl => ?_
  show Hp.M _ _ _ (.code B38) _ (St.init gl 7 [.agg (stripL c)] _) (Fin [.tmp 2] _)
  rw [UH38]
  generalize stripL c = c2 at hs
  clear hf c
  cases hs with | mk k nm tx kids xs n tk hn hx =>
  subst hn
  obtain ⟨m1, m2, m3, m4, m5, m6, m7⟩ := hfi.may
  obtain ⟨q1, q2, q3⟩ := may_kind m1
  have y1 : X_tell 12 [.s tx] = some (.s (quoteV tx)) := F_Quote1 tx (by omega)
  have hql := quoteV_len tx
  rw [tellF]
  by_cases k0 : k = 0
  · have d0 : decide (k = 0) = true := decide_eq_true k0
    rw [if_pos k0]
    simp only [d0, go_sem, ne_eq, not_false_eq_true, reduceIte, Nat.reduceMul, Nat.reduceAdd, Nat.reduceSub, Nat.reduceEqDiff, Nat.reduceLeDiff, Nat.reduceLT, List.take_succ_cons, List.take_zero, List.drop_succ_cons, List.cons_append]
  · have d0 : decide (k = 0) = false := decide_eq_false k0
    rw [if_neg k0]
    by_cases k1 : k = 1
    · have d1 : decide (k = 1) = true := decide_eq_true k1
      have g1 : 6 + (quoteV tx).length ≤ 4611686018427387904 := by omega
      rw [if_pos k1]
      generalize quoteV tx = q at *
      simp only [d0, d1, y1, g1, go_sem, ne_eq, not_false_eq_true, reduceIte, Nat.reduceMul, Nat.reduceAdd, Nat.reduceSub, Nat.reduceEqDiff, Nat.reduceLeDiff, Nat.reduceLT, List.take_succ_cons, List.take_zero, List.drop_succ_cons, List.cons_append]
    · have d1 : decide (k = 1) = false := decide_eq_false k1
      rw [if_neg k1]
      by_cases k2 : k = 2
      · have d2 : decide (k = 2) = true := decide_eq_true k2
        have g1 : nm.length + 3 ≤ 4611686018427387904 := by omega
        have g2 : nm.length + 3 + (quoteV tx).length ≤ 4611686018427387904 := by omega
        rw [if_pos k2]
        generalize quoteV tx = q at *
        simp only [d0, d1, d2, y1, g1, g2, List.length_append, go_sem, ne_eq, not_false_eq_true, reduceIte, Nat.reduceMul, Nat.reduceAdd, Nat.reduceSub, Nat.reduceEqDiff, Nat.reduceLeDiff, Nat.reduceLT, List.take_succ_cons, List.take_zero, List.drop_succ_cons, List.cons_append]
      · have d2 : decide (k = 2) = false := decide_eq_false k2
        rw [if_neg k2]
        by_cases k3 : k = 3
        · have d3 : decide (k = 3) = true := decide_eq_true k3
          rw [if_pos k3]
          simp only [d0, d1, d2, d3, go_sem, ne_eq, not_false_eq_true, reduceIte, Nat.reduceMul, Nat.reduceAdd, Nat.reduceSub, Nat.reduceEqDiff, Nat.reduceLeDiff, Nat.reduceLT, List.take_succ_cons, List.take_zero, List.drop_succ_cons, List.cons_append]
        · have d3 : decide (k = 3) = false := decide_eq_false k3
          rw [if_neg k3]
          by_cases k4 : k = 4
          · have d4 : decide (k = 4) = true := decide_eq_true k4
            rw [if_pos k4]
            obtain ⟨g, rfl⟩ : ∃ g, kids = [g] := by
              match kids, q3 k4 with
              | [g], _ => exact ⟨g, rfl⟩
            have hfk := hfi.kid [] g [] rfl
            obtain ⟨c, hc, ht⟩ := hx.split [] g [] rfl
            have y2 : X_tell 65 [.agg c, .i .i64 ((3 : Nat) : Int)] = some (.s (withinF g 3)) := call_within (s_within S) hc hfk (by omega) (by omega)
            have hwl : (withinF g 3).length ≤ 1300002 := by
              have := hfk.len
              unfold withinF
              split
              · simp only [List.length_append, List.length_cons, List.length_nil]; omega
              · omega
            have hyl := hx.len
            have g3 : 4 ≤ xs.length := by simp only [List.length_cons, List.length_nil] at hyl; omega
            rw [tellW_one, List.headD_cons]
            generalize withinF g 3 = w at *
            have g1 : 4 + w.length ≤ 4611686018427387904 := by omega
            cases hc with | mk k1 nm1 tx1 kids1 xs1 n1 tk1 hn1 hx1 =>
            simp only [List.length_cons, List.length_nil, Nat.zero_add, Nat.zero_mul, Nat.one_mul, List.drop_zero, Int.cast_ofNat_Int] at hyl ht y2 ⊢
            simp only [d0, d1, d2, d3, d4, hyl, g3, rd_ip, ht, y2, g1, Int.cast_ofNat_Int, go_sem, ne_eq, not_false_eq_true, reduceIte, Nat.reduceMul, Nat.reduceAdd, Nat.reduceSub, Nat.reduceEqDiff, Nat.reduceLeDiff, Nat.reduceLT, List.take_succ_cons, List.take_zero, List.drop_succ_cons, List.cons_append]
          · have d4 : decide (k = 4) = false := decide_eq_false k4
            rw [if_neg k4]
            by_cases k5 : k = 5
            · have d5 : decide (k = 5) = true := decide_eq_true k5
              have key := w_t1 S k nm tx kids xs tk hx d hfi (by omega) [32, 97, 110, 100, 32] [101, 97, 99, 104, 40] (.inr rfl) (.inr rfl) 2 (by decide) gl kids [] [] (.sl [] 0 .nil) ⟨0, [], 0, []⟩ [] rfl (by rw [tellW]) (.inl ⟨rfl, rfl⟩)
              rw [if_pos k5, if_pos k5, if_pos k5]
              simp only [d0, d1, d2, d3, d4, d5, splice, go_sem, ne_eq, not_false_eq_true, reduceIte, Nat.reduceMul, Nat.reduceAdd, Nat.reduceSub, Nat.reduceEqDiff, Nat.reduceLeDiff, Nat.reduceLT, List.take_succ_cons, List.take_zero, List.drop_succ_cons, List.cons_append]
              rw [Hp.M_loop]
              simp only [kz38, K38_1, List.length_cons, List.length_nil, Int.cast_ofNat_Int, Int.natCast_zero, go_sem, ne_eq, not_false_eq_true, reduceIte, Nat.reduceMul, Nat.reduceAdd, Nat.reduceSub, Nat.reduceEqDiff, Nat.reduceLeDiff, Nat.reduceLT, List.take_succ_cons, List.take_zero, List.drop_succ_cons, List.cons_append] at key ⊢
              exact key
            · have d5 : decide (k = 5) = false := decide_eq_false k5
              have key := w_t1 S k nm tx kids xs tk hx d hfi (by omega) [32, 111, 114, 32] [97, 110, 121, 40] (.inl rfl) (.inl rfl) 1 (by decide) gl kids [] [] (.sl [] 0 .nil) ⟨0, [], 0, []⟩ [] rfl (by rw [tellW]) (.inl ⟨rfl, rfl⟩)
              rw [if_neg k5, if_neg k5, if_neg k5]
              simp only [d0, d1, d2, d3, d4, d5, splice, go_sem, ne_eq, not_false_eq_true, reduceIte, Nat.reduceMul, Nat.reduceAdd, Nat.reduceSub, Nat.reduceEqDiff, Nat.reduceLeDiff, Nat.reduceLT, List.take_succ_cons, List.take_zero, List.drop_succ_cons, List.cons_append]
              rw [Hp.M_loop]
              simp only [kz38, K38_1, List.length_cons, List.length_nil, Int.cast_ofNat_Int, Int.natCast_zero, go_sem, ne_eq, not_false_eq_true, reduceIte, Nat.reduceMul, Nat.reduceAdd, Nat.reduceSub, Nat.reduceEqDiff, Nat.reduceLeDiff, Nat.reduceLT, List.take_succ_cons, List.take_zero, List.drop_succ_cons, List.cons_append] at key ⊢
              exact key
theorem s_tell_all : ∀ D, S_tell D
  | 0 => fun f c d _ hfi h => by
    obtain ⟨w, h1, h2⟩ := hfi.b
    cases f with | mk k nm tx kids =>
    have := hfi.may
    omega
  | D + 1 => s_tell (s_tell_all D)
end
end Go.Proofs.YtbhclhgljnoioaaDoor
set_option linter.unusedSimpArgs false
set_option linter.unusedVariables false
namespace Go.Proofs.YtbhclhgljnoioaaDoor
open Ai Go.Shelf
/-! ### several -/
/-! ### tell -/
section
variable {D : Nat}
end
end Go.Proofs.YtbhclhgljnoioaaDoor
set_option linter.unusedSimpArgs false
set_option linter.unusedVariables false
namespace Go.Proofs.YtbhclhgljnoioaaDoor
open Ai Go.Shelf
section
variable {D : Nat}
end
/-! ### Print -/
def printV (f : Fil) : List UInt8 := if chk f = 0 then tellF f else []
theorem fine1 {f : Fil} (h : okL f) (hc : chk f = 0) : Fine f 1 := ⟨h, 0, by decide, hc⟩
noncomputable def X_print := xs [(18, F_check), (38, F_tell)]
theorem t_print : Tells tabx told X_print := tells_cons o_check (tells_cons pickP_tells tells_nil)
theorem U16 : type_of% (@M_open _ _ B16.eq_1) := @M_open _ _ B16.eq_1
def kz16 (_ : Nat) : List Nat := []
theorem c_print (f : Fil) (c : List V) (hf : FilR f c) (hok : okL f) : Comp tabx told 16 [.agg c] (.tup [.s (printV f), .i .i64 (chk f : Nat)]) := by
  have hs := FilR.strip f c hf
  refine comp_of (kz := kz16) t_print (fn := af16) rfl (Nat.le_of_ble_eq_true rfl) fun gl => ?_
  show M _ _ (.code B16) _ (St.init gl 4 [.agg (stripL c)] _) (Fin [.tmp 2, .tmp 3] _)
  rw [U16]
  have y1 : X_print 18 [.agg (stripL c)] = some (.i .i64 (chk f : Nat)) := check_eq f _ hs
  have y2 : chk f = 0 → X_print 38 [.agg (stripL c)] = some (.s (tellF f)) := fun h => call_tell (s_tell_all 8) hs (fine1 hok h) (by decide)
  unfold printV
  generalize stripL c = c2 at hs y1 y2
  generalize tellF f = t at *
  generalize chk f = e at *
  cases hs with | mk k nm tx kids xs n tk hn hx =>
  by_cases he : e = 0
  · have y2 := y2 he
    subst he
    have f0 : decide (((0 : Nat) : Int) = 0) = true := by decide
    rw [if_pos rfl]
    simp only [y1, y2, f0, go_sem, ne_eq, not_false_eq_true, reduceIte, Nat.reduceMul, Nat.reduceAdd, Nat.reduceSub, Nat.reduceEqDiff, Nat.reduceLeDiff, Nat.reduceLT, List.take_succ_cons, List.take_zero, List.drop_succ_cons, List.cons_append]
    rfl
  · have f1 : decide ((e : Int) = 0) = false := decide_eq_false (by omega)
    rw [if_neg he]
    simp only [y1, f1, go_sem, ne_eq, not_false_eq_true, reduceIte, Nat.reduceMul, Nat.reduceAdd, Nat.reduceSub, Nat.reduceEqDiff, Nat.reduceLeDiff, Nat.reduceLT, List.take_succ_cons, List.take_zero, List.drop_succ_cons, List.cons_append]
end Go.Proofs.YtbhclhgljnoioaaDoor
set_option linter.unusedSimpArgs false
set_option linter.unusedVariables false
namespace Go.Proofs.YtbhclhgljnoioaaDoor
open Ai Go.Shelf
/-! ### The examples: what Print is handed there is told -/
def exF : Fil := .mk 5 [] [] [.mk 1 [] [97] [], .mk 4 [] [] [.mk 2 [110] [53] []]]
def exC : List V := [.i .i64 5, .s [], .s [], .sl [.i .i64 1, .s [], .s [97], .sl [] 0 .nil, .i .i64 4, .s [], .s [], .sl [.i .i64 2, .s [110], .s [53], .sl [] 0 .nil] 1 .full] 2 .no]
def exT : List UInt8 := [107, 101, 121, 32, 94, 32, 34, 97, 34, 32, 97, 110, 100, 32, 110, 111, 116, 32, 110, 32, 61, 32, 34, 53, 34]
theorem exR : FilR exF exC := by
  refine .mk _ _ _ _ _ _ _ rfl (.cons _ _ [.i .i64 1, .s [], .s [97], .sl [] 0 .nil] _ (.mk _ _ _ _ _ _ _ rfl .nil) (.cons _ _ [.i .i64 4, .s [], .s [], .sl [.i .i64 2, .s [110], .s [53], .sl [] 0 .nil] 1 .full] _ (.mk _ _ _ _ _ _ _ rfl ?_) .nil))
  exact .cons _ _ [.i .i64 2, .s [110], .s [53], .sl [] 0 .nil] _ (.mk _ _ _ _ _ _ _ rfl .nil) .nil
theorem exOk : okL exF := by
  simp only [exF, okL, okLs, List.length_cons, List.length_nil, and_true]
  decide
theorem exV : printV exF = exT ∧ chk exF = 0 := by decide +kernel
def tabA (g : FuncId) : Option AFunc := bif Nat.beq g 16 then none else tabx g
def xfA (g : FuncId) (a : List V) : Option V := bif Nat.beq g 16 then memo [([.agg exC], .tup [.s exT, .i .i64 0])] a else xf g a
theorem tabA_le : ∀ g fn, tabA g = some fn → tabx g = some fn := fun g fn h => by
  unfold tabA at h
  cases hb : Nat.beq g 16 with
  | true => rw [hb] at h; cases h
  | false => rw [hb] at h; exact h
theorem tellsA : Tells tabx told xfA := fun g a v h => by
  unfold xfA at h
  cases hb : Nat.beq g 16 with
  | true =>
    rw [hb] at h
    have := Nat.eq_of_beq_eq_true hb
    subst this
    have hm := memo_mem h
    simp only [List.mem_singleton, Prod.mk.injEq] at hm
    obtain ⟨rfl, rfl⟩ := hm
    have := c_print exF exC exR exOk
    rw [exV.1, exV.2] at this
    exact this
  | false => rw [hb] at h; exact comp_prim h
theorem r_awake : runF gl0 tabA xfA 20000 14 [] = some (.b true) := by kernel_rfl
theorem c_awake : Comp tabx told 14 [] (.b true) := comp_runM tabA_le tellsA 20000 fun gl h => by
  have : gl = gl0 := h
  rw [this]; exact r_awake
def F_awake (a : List V) : Option V := match a with
  | [] => some (.b true)
  | _ => none
theorem o_awake : ∀ a v, F_awake a = some v → Comp tabx told 14 a v := fun a v e => by
  unfold F_awake at e
  split at e
  · cases e; exact c_awake
  · cases e
/-! ### The law -/
/-! ### Arguments -/
end Go.Proofs.YtbhclhgljnoioaaDoor
set_option linter.unusedSimpArgs false
set_option linter.unusedVariables false
namespace Go.Proofs.YtbhclhgljnoioaaDoor
open Ai
/-- A type that is Filter's shape. -/
structure FilT (P : Program) (F I T S : TypeId) : Prop where
  f : ∃ fs : Array Field, P.underlying F = some (.struct fs) ∧ fs.toList.map Field.type = [I, T, T, S]
  i : P.underlying I = some (.int .i64)
  t : P.underlying T = some .string
  s : P.underlying S = some (.slice F)
section
variable {P : Program} {F I T S : TypeId}
end
end Go.Proofs.YtbhclhgljnoioaaDoor
set_option linter.unusedSimpArgs false
set_option linter.unusedVariables false
namespace Go.Proofs.YtbhclhgljnoioaaDoor
open Ai Go.Shelf
abbrev TK := Nat × List UInt8
def Tok.kt (t : Tok) : TK := (t.kind, t.text)
/-- A word is not gone on with. -/
def stopB (t : List UInt8) : Prop := ∀ c r, t = c :: r → letB c.toNat = false
theorem stop_cons {c : UInt8} {r : List UInt8} (h : letB c.toNat = false) : stopB (c :: r) := fun c' r' e => by cases e; exact h
/-- The tokens of a text, whatever comes behind it; or whatever comes that is no letter. -/
def LxF (s : List UInt8) (l : List TK) : Prop := ∀ (t : List UInt8) (k : Nat) (m : List Tok), lx t (k + s.length) = .ok m → ∃ m', lx (s ++ t) k = .ok (m' ++ m) ∧ m'.map Tok.kt = l
def LxS (s : List UInt8) (l : List TK) : Prop := ∀ (t : List UInt8) (k : Nat) (m : List Tok), stopB t → lx t (k + s.length) = .ok m → ∃ m', lx (s ++ t) k = .ok (m' ++ m) ∧ m'.map Tok.kt = l
section
variable {s s' : List UInt8} {l l' : List TK}
theorem LxF.st (h : LxF s l) : LxS s l := fun t k m _ hm => h t k m hm
theorem LxF.app (h : LxF s l) (g : LxF s' l') : LxF (s ++ s') (l ++ l') := by
  intro t k m hm
  rw [List.length_append, ← Nat.add_assoc] at hm
  obtain ⟨m1, e1, q1⟩ := g t (k + s.length) m hm
  obtain ⟨m2, e2, q2⟩ := h (s' ++ t) k (m1 ++ m) e1
  exact ⟨m2 ++ m1, by rw [List.append_assoc, e2, List.append_assoc], by rw [List.map_append, q1, q2]⟩
theorem LxS.app (h : LxS s l) (g : LxF s' l') (hs : ∀ t, stopB (s' ++ t)) : LxF (s ++ s') (l ++ l') := by
  intro t k m hm
  rw [List.length_append, ← Nat.add_assoc] at hm
  obtain ⟨m1, e1, q1⟩ := g t (k + s.length) m hm
  obtain ⟨m2, e2, q2⟩ := h (s' ++ t) k (m1 ++ m) (hs t) e1
  exact ⟨m2 ++ m1, by rw [List.append_assoc, e2, List.append_assoc], by rw [List.map_append, q1, q2]⟩
end
theorem lx_sp1 : LxF [32] [] := by
  intro t k m hm
  refine ⟨[], ?_, rfl⟩
  rw [List.singleton_append, lx_cons, if_pos rfl]
  exact hm
theorem lx_sgn (c : UInt8) (h : sgnB c.toNat = true) : LxF [c] [(4, [c])] := by
  intro t k m hm
  have h1 : c.toNat = 40 ∨ c.toNat = 41 ∨ c.toNat = 61 ∨ c.toNat = 94 ∨ c.toNat = 60 ∨ c.toNat = 62 ∨ c.toNat = 44 := by
    simp only [sgnB, Bool.or_eq_true, beq_iff_eq] at h; exact h
  have ne : ∀ d : UInt8, c = d → c.toNat = d.toNat := fun d e => by rw [e]
  have hl : letB c.toNat = false := by simp only [letB, Bool.and_eq_false_iff, decide_eq_false_iff_not]; omega
  have hd : digB c.toNat = false := by simp only [digB, Bool.and_eq_false_iff, decide_eq_false_iff_not]; omega
  refine ⟨[⟨4, [c], k⟩], ?_, rfl⟩
  rw [List.singleton_append, lx_cons, if_neg (fun e => by have := ne _ e; rw [show (32 : UInt8).toNat = 32 from rfl] at this; omega), if_neg (fun e => by have := ne _ e; rw [show (34 : UInt8).toNat = 34 from rfl] at this; omega),
    if_neg (by rw [hl]; decide), if_neg (by rw [hd]; decide), if_neg (fun e => by have := ne _ e.1; rw [show (45 : UInt8).toNat = 45 from rfl] at this; omega), if_pos h]
  have hm : lx t (k + 1) = .ok m := hm
  rw [hm]; rfl
theorem wh_all {p : Nat → Bool} {t : List UInt8} (ht : ∀ c r, t = c :: r → p c.toNat = false) : ∀ r : List UInt8, (r.all fun c => p c.toNat) = true → wh p (r ++ t) = r.length := by
  intro r
  induction r with
  | nil =>
    intro _
    cases t with
    | nil => rfl
    | cons c u => rw [List.nil_append, wh, ht c u rfl]; rfl
  | cons a r ih =>
    intro h
    rw [List.all_cons, Bool.and_eq_true] at h
    rw [List.cons_append, wh, h.1, cond_true, ih h.2, List.length_cons]
theorem lx_word (w : List UInt8) (hne : w ≠ []) (ha : (w.all fun c => letB c.toNat) = true) : LxS w [(1, w)] := by
  intro t k m ht hm
  cases w with
  | nil => exact absurd rfl hne
  | cons a r =>
    rw [List.all_cons, Bool.and_eq_true] at ha
    have hr := wh_all ht r ha.2
    have hl := ha.1
    simp only [letB, Bool.and_eq_true, decide_eq_true_eq] at hl
    have ne : ∀ d : UInt8, a = d → a.toNat = d.toNat := fun d e => by rw [e]
    refine ⟨[⟨1, a :: r, k⟩], ?_, rfl⟩
    rw [List.cons_append, lx_cons, if_neg (fun e => by have := ne _ e; rw [show (32 : UInt8).toNat = 32 from rfl] at this; omega), if_neg (fun e => by have := ne _ e; rw [show (34 : UInt8).toNat = 34 from rfl] at this; omega), if_pos ha.1, hr,
      List.drop_left, List.take_left]
    rw [List.length_cons, show k + (r.length + 1) = k + 1 + r.length by omega] at hm
    rw [hm]; rfl
/-! ### The tokens of a filter -/
def tjoin : List (List TK) → TK → List TK
  | [], _ => []
  | x :: r, s => x ++ r.flatMap fun y => s :: y
def wAnd : List UInt8 := [97, 110, 100]
def wOr : List UInt8 := [111, 114]
mutual
def tkF : Fil → List TK
  | .mk k nm tx kids =>
    if k = 0 then [(1, [97, 108, 108])] else if k = 1 then [(1, [107, 101, 121]), (4, [94]), (2, tx)] else if k = 2 then [(1, nm), (4, [61]), (2, tx)] else if k = 3 then [(1, [112, 117, 116])] else
    if k = 4 then (1, [110, 111, 116]) :: (tkW kids 3).headD [] else
    if 1 < kids.length then tjoin (tkW kids (if k = 5 then 3 else 2)) (if k = 5 then (1, wAnd) else (1, wOr)) else
    (if k = 5 then (1, [101, 97, 99, 104]) else (1, [97, 110, 121])) :: (4, [40]) :: (tjoin (tkL kids) (4, [44]) ++ [(4, [41])])
def tkW : List Fil → Nat → List (List TK)
  | [], _ => []
  | f :: r, b => (if bindF f < b then (4, [40]) :: (tkF f ++ [(4, [41])]) else tkF f) :: tkW r b
def tkL : List Fil → List (List TK)
  | [] => []
  | f :: r => tkF f :: tkL r
end
end Go.Proofs.YtbhclhgljnoioaaDoor
set_option linter.unusedSimpArgs false
set_option linter.unusedVariables false
namespace Go.Proofs.YtbhclhgljnoioaaDoor
open Ai Go.Shelf
/-- These tokens stand there. -/
def At (ts : List Tok) (a : Nat) (l : List TK) : Prop := ∀ i x, l[i]? = some x → ∃ t, ts[a + i]? = some t ∧ t.kt = x
section
variable {ts : List Tok} {e : Nat}
theorem At.tok {a : Nat} {x : TK} {l : List TK} (h : At ts a (x :: l)) (e : Nat) : (tokAt ts e a).kind = x.1 ∧ (tokAt ts e a).text = x.2 := by
  obtain ⟨t, h1, h2⟩ := h 0 x rfl
  unfold tokAt
  rw [Nat.add_zero] at h1
  rw [h1, Option.getD_some, ← h2]
  exact ⟨rfl, rfl⟩
theorem At.isT {a : Nat} {x : TK} {l : List TK} (h : At ts a (x :: l)) (e : Nat) (w : List UInt8) : isT ts e a w = (decide (x.1 = 4) && decide (x.2 = w)) := by
  unfold Go.Proofs.YtbhclhgljnoioaaDoor.isT
  rw [(h.tok e).1, (h.tok e).2, strEq_dec]
theorem At.isW {a : Nat} {x : TK} {l : List TK} (h : At ts a (x :: l)) (e : Nat) (w : List UInt8) : isW ts e a w = (decide (x.1 = 1) && decide (x.2 = w)) := by
  unfold Go.Proofs.YtbhclhgljnoioaaDoor.isW
  rw [(h.tok e).1, (h.tok e).2, strEq_dec]
/-- The parser comes to that. -/
def Pr (ts : List Tok) (e : Nat) (q : PQ) (a : Nat) (r : PR) : Prop := ∃ n, P ts e n q a = some r
theorem P_suc (n : Nat) (q : PQ) (a : Nat) : P ts e (n + 1) q a = pstep ts e (P ts e n) q a := rfl
theorem Pr.word {deep a a1 : Nat} {f : Fil} (hk : (tokAt ts e a).kind = 1) (hn : isT ts e (a + 1) [61] = false) (h : Pr ts e (.word deep) a (f, 0, a1)) : Pr ts e (.unary deep) a (f, 0, a1) := by
  obtain ⟨n, h⟩ := h
  refine ⟨n + 1, ?_⟩
  have h1 : isF ts e a = false := by unfold isF; rw [hn, Bool.and_false]
  have h2 : isT ts e a [40] = false := by unfold isT; rw [hk]; rfl
  rw [P_suc]
  simp only [pstep]
  rw [if_neg (by simp [h1]), if_neg (by simp [h2]), if_neg (by simp [hk]), h, Option.bind_some, if_neg (by simp)]
/-- What comes behind does not go on with it. -/
def Stp (ts : List Tok) (e a b : Nat) : Prop := isT ts e a [61] = false ∧ ∀ c, b ≤ c → c ≤ 2 → isW ts e a (wordOf c) = false
/-- What is shown of a filter. -/
structure Back (ts : List Tok) (e : Nat) (f : Fil) (d : Nat) : Prop where
  pu : bindF f = 3 → ∀ a deep, At ts a (tkF f) → isT ts e (a + (tkF f).length) [61] = false → deep ≤ 2 * d → Pr ts e (.unary deep) a (f, 0, a + (tkF f).length)
  pt : ∀ a deep b, At ts a (tkF f) → Stp ts e (a + (tkF f).length) b → 1 ≤ b → b ≤ bindF f → deep ≤ 2 * d → Pr ts e (.parse b deep) a (f, 0, a + (tkF f).length)
end
end Go.Proofs.YtbhclhgljnoioaaDoor
set_option linter.unusedSimpArgs false
set_option linter.unusedVariables false
namespace Go.Proofs.YtbhclhgljnoioaaDoor
open Ai Go.Shelf
section
variable {ts : List Tok} {e : Nat}
end
end Go.Proofs.YtbhclhgljnoioaaDoor
set_option linter.unusedSimpArgs false
set_option linter.unusedVariables false
namespace Go.Proofs.YtbhclhgljnoioaaDoor
open Ai Go.Shelf
/-! ### A filter that may be has short texts -/
/-! ### Same -/
def R_same (a : List V) (v : V) : Prop := ∀ (f : Fil) (c c' : List V), a = [.agg c, .agg c'] → FilR f c → FilR f c' → v = .b true
noncomputable def F_same : List V → Option V := pickP 20 R_same
theorem o_same : ∀ a v, F_same a = some v → Comp tabx told 20 a v := pickP_tells
def S_same (D : Nat) : Prop := ∀ (f : Fil) (c c' : List V) (d w : Nat), FilR f c → FilR f c' → w ≤ 24 → (bld f d w).1 = 0 → 8 ≤ d + D → Comp tabx told 20 [.agg c, .agg c'] (.b true)
theorem call_same {D : Nat} (S : S_same D) {f : Fil} {c c' : List V} {d w : Nat} (h1 : FilR f c) (h2 : FilR f c') (h3 : w ≤ 24) (h4 : (bld f d w).1 = 0) (h5 : 8 ≤ d + D) : F_same [.agg c, .agg c'] = some (.b true) := by
  obtain ⟨v, e1, r⟩ := pickP_spec (R := R_same) (S f c c' d w h1 h2 h3 h4 h5) (fun _ _ _ _ _ _ => rfl)
  rw [r f c c' rfl h1 h2] at e1
  exact e1
noncomputable def X_same := xs [(20, F_same)]
theorem t_same : Tells tabx told X_same := tells_cons o_same tells_nil
def K20_1 : List Fr := [.blk 0,
 .seq (.seq (.reg [⟨some 4, .mov (.k (.b true)), none⟩])
 .ret)]
theorem U20_1 : type_of% (@M_open _ _ L20_1.eq_1) := @M_open _ _ L20_1.eq_1
theorem U20 : type_of% (@M_open _ _ B20.eq_1) := @M_open _ _ B20.eq_1
def kz20 (_ : Nat) : List Nat := [0, 1, 4, 5, 6, 7, 8, 9, 10, 11, 12, 13, 14, 15, 16, 17, 18, 19, 20, 21, 22, 23, 24, 25, 26, 27, 28, 29, 30, 31, 32, 33, 34, 35, 38, 39, 40, 41, 42, 43, 44, 45, 46, 47, 48, 49, 50, 51, 52]
section
variable {D : Nat}
set_option maxRecDepth 100000 in
theorem w_same (S : S_same D) (k : Int) (nm tx : List UInt8) (kids : List Fil) (ys zs : List V) (tk0 tk1 : Tk) (hy : KidsR kids ys) (hz : KidsR kids zs) (d w : Nat) (hw : w ≤ 24) (hb : (blds kids d w).1 = 0) (hD : 8 ≤ d + D) (hk : kids.length ≤ 24) (gl : Nat → List V) : ∀ (post pre : List Fil), kids = pre ++ post →
    M X_same (kz20) (.code L20_1) (.loop L20_1 :: K20_1) ⟨gl, (.node (.node (.node (.node (.node (.node .leaf .any .leaf) .any (.node .leaf .any .leaf)) .any (.node (.node .leaf .any .leaf) .any (.node .leaf .any .leaf))) (.l 3 0) (.node (.node (.node .leaf .any .leaf) .any (.node .leaf .any .leaf)) .any (.node (.node .leaf .any .leaf) .any (.node .leaf .any .leaf)))) .any (.node (.node (.node (.node .leaf .any .leaf) .any (.node .leaf .any .leaf)) .any (.node (.node .leaf .any .leaf) .any (.node .leaf .any .leaf))) .any (.node (.node (.node .leaf (.i .i64 (pre.length : Nat)) .leaf) .any (.node .leaf .any .leaf)) .any (.node (.node .leaf .any .leaf) .any (.node .leaf .any .leaf))))) .any (.node (.node (.node (.node (.node .leaf .any .leaf) .any (.node .leaf .any .leaf)) .any (.node (.node .leaf .any .leaf) .any (.node .leaf .any .leaf))) .any (.node (.node (.node .leaf (.i .i64 (kids.length : Nat)) .leaf) .any (.node .leaf .any .leaf)) .any (.node (.node .leaf .any .leaf) .any (.node .leaf .any .leaf)))) (.l 2 0) (.node (.node (.node (.node .leaf .any .leaf) .any (.node .leaf .any .leaf)) .any (.node (.node .leaf .any .leaf) .any (.node .leaf .any .leaf))) .any (.node (.node (.node .leaf .any .leaf) .any (.node .leaf .any .leaf)) .any (.node (.node .leaf .any .leaf) .any (.node .leaf .any .leaf)))))), [], [(2, [.i .i64 k, .s nm, .s tx, .sl ys kids.length tk0]), (3, [.i .i64 k, .s nm, .s tx, .sl zs kids.length tk1])], {}⟩
      (Fin [.tmp 4] (.b true)) := by
  intro post
  induction post with
  | nil =>
    intro pre hk1
    have hl : kids.length = pre.length := by rw [hk1]; simp
    have e1 : decide ((pre.length : Int) < (kids.length : Int)) = false := decide_eq_false (by omega)
    rw [U20_1]
    simp only [e1, K20_1, go_sem, ne_eq, not_false_eq_true, reduceIte, Nat.reduceMul, Nat.reduceAdd, Nat.reduceSub, Nat.reduceEqDiff, Nat.reduceLeDiff, Nat.reduceLT, List.take_succ_cons, List.take_zero, List.drop_succ_cons, List.cons_append]
  | cons f post ih =>
    intro pre hk1
    have hl : kids.length = pre.length + post.length + 1 := by rw [hk1]; simp; omega
    have e1 : decide ((pre.length : Int) < (kids.length : Int)) = true := decide_eq_true (by omega)
    have g1 : pre.length < kids.length := by omega
    have hyl := hy.len
    have hzl := hz.len
    have g2 : (pre.length + 1) * 4 ≤ kids.length * 4 := by omega
    obtain ⟨c, hc, ht⟩ := hy.split pre f post hk1
    obtain ⟨c', hc', ht'⟩ := hz.split pre f post hk1
    obtain ⟨w', q1, q2⟩ := blds_mem kids d w hw hb pre f post hk1
    have y4 : X_same 20 [.agg c, .agg c'] = some (.b true) := call_same S hc hc' q1 q2 hD
    have w2 : wr .i64 ((pre.length : Int) + 1) = ((pre.length + 1 : Nat) : Int) := by rw [wr64] <;> omega
    rw [U20_1]
    have := ih (pre ++ [f]) (by rw [hk1]; simp)
    cases hc with | mk k1 nm1 tx1 kids1 xs1 n1 tk1 hn1 hx1 =>
    cases hc' with | mk _ _ _ _ xs2 n2 tk2 hn2 hx2 =>
    simp only [e1, g1, hyl, hzl, g2, rd_ip, ht, ht', y4, w2, Int.cast_ofNat_Int, go_sem, ne_eq, not_false_eq_true, reduceIte, Nat.reduceMul, Nat.reduceAdd, Nat.reduceSub, Nat.reduceEqDiff, Nat.reduceLeDiff, Nat.reduceLT, List.take_succ_cons, List.take_zero, List.drop_succ_cons, List.cons_append]
    rw [M_loop]
    simp only [kz20, K20_1, List.length_append, List.length_cons, List.length_nil, Nat.zero_add, go_sem, ne_eq, not_false_eq_true, reduceIte, Nat.reduceMul, Nat.reduceAdd, Nat.reduceSub, Nat.reduceEqDiff, Nat.reduceLeDiff, Nat.reduceLT, List.take_succ_cons, List.take_zero, List.drop_succ_cons, List.cons_append] at this ⊢
    exact this
set_option maxRecDepth 100000 in
theorem s_same (S : S_same D) : S_same (D + 1) := by
  intro f c c' d w hf hf' hw hb hD
  have hs := FilR.strip f c hf
  have hs' := FilR.strip f c' hf'
  refine comp_of (kz := kz20) t_same (fn := af20) rfl (Nat.le_of_ble_eq_true rfl) fun gl => ?_
  show M _ _ (.code B20) _ (St.init gl 6 [.agg (stripL c), .agg (stripL c')] _) (Fin [.tmp 4] _)
  rw [U20]
  generalize stripL c = c2 at hs
  generalize stripL c' = c3 at hs'
  clear hf hf' c c'
  cases hs with | mk k nm tx kids xs n tk hn hx =>
  cases hs' with | mk _ _ _ _ xs' n' tk' hn' hx' =>
  subst hn hn'
  rw [bld] at hb
  split at hb
  · cases hb
  · split at hb
    · cases hb
    · have hc := blds_cnt kids (d + 1) (w + 1) (by omega) hb
      have hl := (blds_le kids (d + 1) (w + 1) (by omega)).2 hb
      have key := w_same S k nm tx kids xs xs' tk tk' hx hx' (d + 1) (w + 1) (by omega) hb (by omega) (by omega) gl kids [] rfl
      simp only [strEq_self, go_sem, ne_eq, not_false_eq_true, reduceIte, Nat.reduceMul, Nat.reduceAdd, Nat.reduceSub, Nat.reduceEqDiff, Nat.reduceLeDiff, Nat.reduceLT, List.take_succ_cons, List.take_zero, List.drop_succ_cons, List.cons_append]
      rw [M_loop]
      simp only [kz20, K20_1, List.length_cons, List.length_nil, Int.cast_ofNat_Int, Int.natCast_zero, go_sem, ne_eq, not_false_eq_true, reduceIte, Nat.reduceMul, Nat.reduceAdd, Nat.reduceSub, Nat.reduceEqDiff, Nat.reduceLeDiff, Nat.reduceLT, List.take_succ_cons, List.take_zero, List.drop_succ_cons, List.cons_append] at key ⊢
      exact key
theorem s_same_all : ∀ D, S_same D
  | 0 => fun f c c' d w _ _ hw hb h => by
    cases f with | mk k nm tx kids =>
    rw [bld] at hb
    split at hb
    · cases hb
    · omega
  | D + 1 => s_same (s_same_all D)
end
theorem same_eq {f : Fil} {c c' : List V} (h1 : FilR f c) (h2 : FilR f c') (hc : chk f = 0) : F_same [.agg c, .agg c'] = some (.b true) := call_same (s_same_all 7) (d := 1) (w := 0) h1 h2 (by decide) hc (by decide)
end Go.Proofs.YtbhclhgljnoioaaDoor
set_option linter.unusedSimpArgs false
set_option linter.unusedVariables false
namespace Go.Proofs.YtbhclhgljnoioaaDoor
open Ai Go.Shelf
/-! ### LangBack -/
/-! ### LangSettled -/
theorem parseV_chk (s : List UInt8) : chk (parseV s).1 = 0 := by
  unfold parseV
  cases hl : lx s 0 with
  | bad a e => exact fil0_ok
  | ok ts =>
    dsimp only
    split
    · exact fil0_ok
    · exact filV_ok ts s.length
end Go.Proofs.YtbhclhgljnoioaaDoor
set_option linter.unusedSimpArgs false
set_option linter.unusedVariables false
namespace Go.Proofs.YtbhclhgljnoioaaDoor
open Ai Go.Shelf
/-! ### A text in quotes is read as far as it goes -/
theorem index_split (c : UInt8) : ∀ l : List UInt8, 0 ≤ Lib.indexByte l c → ∃ p r, l = p ++ c :: r ∧ c ∉ p := by
  intro l
  induction l with
  | nil => intro h; simp [Lib.indexByte] at h
  | cons a r ih =>
    intro h
    by_cases ha : a = c
    · exact ⟨[], r, by rw [ha]; rfl, by simp⟩
    · have hne : (a == c) = false := by simpa using ha
      rw [Lib.indexByte] at h
      simp only [hne, Bool.false_eq_true, if_false] at h
      have h0 : 0 ≤ Lib.indexByte r c := by
        apply Decidable.byContradiction
        intro hn
        have hneg := Lib.indexByte_ge r c
        have e : Lib.indexByte r c = -1 := by omega
        rw [e] at h
        simp at h
      obtain ⟨p, q, rfl, hp⟩ := ih h0
      refine ⟨a :: p, q, rfl, ?_⟩
      simp only [List.mem_cons, not_or]
      exact ⟨fun e => ha e.symm, hp⟩
theorem hexV_at {t : List UInt8} (h : (hexV t).2 ≠ 0) : ∃ p r, t = p ++ 125 :: r ∧ (hexV t).2 = p.length + 1 ∧ ∀ w, hexV (p ++ 125 :: w) = hexV t := by
  have hc : ¬ (t.length < 3 ∨ t.head? ≠ some 123 ∨ Lib.indexByte t 125 < 2 ∨ 7 < Lib.indexByte t 125) := by
    intro hc
    unfold hexV at h
    rw [if_pos hc] at h
    exact h rfl
  obtain ⟨p, r, rfl, hp⟩ := index_split 125 t (by omega)
  have hi := index_at p r hp
  have hl : 2 ≤ p.length := by omega
  have same : ∀ w, hexV (p ++ 125 :: w) = hexV (p ++ 125 :: r) := by
    intro w
    have hiw := index_at p w hp
    have hh : ∀ w, (p ++ 125 :: w).head? = p.head? := by intro w; cases p with | nil => simp at hl | cons a q => rfl
    have ht : ∀ w, ((p ++ 125 :: w).drop 1).take (((p.length : Int)).toNat - 1) = p.drop 1 := by
      intro w
      rw [Int.toNat_natCast, List.drop_append_of_le_length (by omega), List.take_append_of_le_length (by rw [List.length_drop]; omega), List.take_of_length_le (by rw [List.length_drop]; omega)]
    have hcw : ¬ ((p ++ 125 :: w).length < 3 ∨ (p ++ 125 :: w).head? ≠ some 123 ∨ Lib.indexByte (p ++ 125 :: w) 125 < 2 ∨ 7 < Lib.indexByte (p ++ 125 :: w) 125) := by
      rw [hi, hh r] at hc
      rw [hiw, hh w]
      intro hx
      apply hc
      rcases hx with hx | hx | hx
      · simp only [List.length_append, List.length_cons] at hx; omega
      · exact .inr (.inl hx)
      · exact .inr (.inr hx)
    unfold hexV
    rw [if_neg hc, if_neg hcw, hi, hiw, ht w, ht r]
  refine ⟨p, r, rfl, ?_, same⟩
  unfold hexV at h ⊢
  rw [if_neg hc] at h ⊢
  rw [hi] at h ⊢
  split at h
  · split at h
    · rename_i n hn hok
      simp only [hok, if_true, Int.toNat_natCast]
    · exact absurd rfl h
  · exact absurd rfl h
theorem qscan_pre : ∀ (n : Nat) (l out : List UInt8) (k : Nat) (x : List UInt8) (j : Nat), l.length ≤ n → qscan l out k = some (x, j) → ∃ u v, l = u ++ 34 :: v ∧ j = k + u.length + 1 ∧ qscan (u ++ [34]) out k = some (x, j) := by
  intro n
  induction n with
  | zero =>
    intro l out k x j hn h
    obtain rfl : l = [] := List.length_eq_zero_iff.1 (by omega)
    rw [qscan_nil] at h; cases h
  | succ n ih =>
    intro l out k x j hn h
    cases l with
    | nil => rw [qscan_nil] at h; cases h
    | cons a r =>
      simp only [List.length_cons] at hn
      have hle := dec_le a r
      by_cases c1 : (dec (a :: r)).1 = 34
      · rw [qscan_end c1] at h
        simp only [Option.some.injEq, Prod.mk.injEq] at h
        obtain ⟨rfl, rfl⟩ := h
        obtain ⟨h1, h2⟩ := dec_low (a := a) (r := r) (by omega)
        rw [h2] at c1
        have ha : a = 34 := UInt8.toNat_inj.1 (by rw [show (34 : UInt8).toNat = 34 from rfl]; exact c1)
        subst ha
        exact ⟨[], r, rfl, by simp, qscan_end (by decide)⟩
      · by_cases c2 : (dec (a :: r)).1 = 65533 ∧ (dec (a :: r)).2 = 1
        · rw [qscan_bad c2.1 c2.2] at h; cases h
        · by_cases c3 : (dec (a :: r)).1 = 92
          · have ha := dec_92 c3
            subst ha
            cases r with
            | nil => rw [qscan_esc0] at h; cases h
            | cons b t =>
              simp only [List.length_cons] at hn
              rw [qscan_esc] at h
              split at h
              · rename_i hb
                obtain ⟨u, v, rfl, e2, e3⟩ := ih t _ _ x j (by omega) h
                refine ⟨92 :: b :: u, v, rfl, by simp only [List.length_cons]; omega, ?_⟩
                rw [List.cons_append, List.cons_append, qscan_esc, if_pos hb]
                exact e3
              · rename_i hb
                split at h
                · rename_i h7
                  split at h
                  · cases h
                  · rename_i k4
                    obtain ⟨p, q, rfl, hp2, hpw⟩ := hexV_at k4
                    rw [hp2] at h
                    have hd : ∀ w : List UInt8, (p ++ 125 :: w).drop (p.length + 1) = w := fun w => by rw [← List.drop_drop, List.drop_left]; rfl
                    rw [hd] at h
                    obtain ⟨u, v, rfl, e2, e3⟩ := ih q _ _ x j (by simp only [List.length_append, List.length_cons] at hn; omega) h
                    refine ⟨92 :: b :: (p ++ 125 :: u), v, by simp, by simp only [List.length_cons, List.length_append]; omega, ?_⟩
                    rw [List.cons_append, List.cons_append, List.append_assoc, List.cons_append, qscan_esc, if_neg hb, if_pos h7, hpw, if_neg k4, hp2, hd]
                    exact e3
                · cases h
          · rw [qscan_rune c1 c2 c3] at h
            have hfree := dec_nil_free a r
            obtain ⟨u, v, e1, e2, e3⟩ := ih _ _ _ x j (by simp only [List.length_cons] at hfree; omega) h
            have he := enc_dec c2
            have hok := dec_oks (a :: r)
            have hlen : (enc (dec (a :: r)).1).length = (dec (a :: r)).2 := by rw [he, List.length_take]; omega
            have hsp : a :: r = enc (dec (a :: r)).1 ++ (u ++ 34 :: v) := by rw [he, ← e1, List.take_append_drop]
            generalize (dec (a :: r)).1 = c at *
            generalize (dec (a :: r)).2 = m at *
            have hde := dec_enc hok (u ++ [34])
            have hel := enc_len c
            refine ⟨enc c ++ u, v, by rw [hsp, List.append_assoc], by rw [List.length_append]; omega, ?_⟩
            obtain ⟨b, w, hbw⟩ : ∃ b w, enc c ++ (u ++ [34]) = b :: w := by
              cases hx : enc c with
              | nil => rw [hx] at hel; simp at hel
              | cons b w => exact ⟨b, w ++ (u ++ [34]), rfl⟩
            rw [List.append_assoc, hbw]
            rw [hbw] at hde
            have hdr : (b :: w).drop (enc c).length = u ++ [34] := by rw [← hbw, List.drop_left]
            rw [qscan_rune (by rw [hde]; exact c1) (by rw [hde, hlen]; exact c2) (by rw [hde]; exact c3), hde]
            dsimp only
            rw [hdr, hlen]
            exact e3
/-! ### Tokens, and the blanks between them -/
structure Raw (u : List UInt8) (x : TK) : Prop where
  ne : u ≠ []
  last : u.getLast? ≠ some 32
  lx : ∀ (t : List UInt8) (k : Nat) (m : List Tok), lx (32 :: t) (k + u.length) = .ok m → ∃ m', lx (u ++ 32 :: t) k = .ok (m' ++ m) ∧ m'.map Tok.kt = [x]
inductive Rw : List UInt8 → Nat → List Tok → List (List UInt8) → Prop
  | nil (sp : List UInt8) (k : Nat) (h : ∀ c ∈ sp, c = 32) : Rw sp k [] []
  | cons (sp u rest : List UInt8) (k : Nat) (t : Tok) (m : List Tok) (rs : List (List UInt8)) (h : ∀ c ∈ sp, c = 32) (ha : t.at_ = k + sp.length) (hu : Raw u t.kt) (hr : Rw rest (k + sp.length + u.length) m rs) : Rw (sp ++ u ++ rest) k (t :: m) (u :: rs)
theorem Rw.sp {l : List UInt8} {k : Nat} {m : List Tok} {rs : List (List UInt8)} (h : Rw l (k + 1) m rs) : Rw (32 :: l) k m rs := by
  cases h with
  | nil sp _ h => exact .nil (32 :: l) k (fun c hc => by rcases List.mem_cons.1 hc with rfl | hc; rfl; exact h c hc)
  | cons sp u rest _ t m rs h ha hu hr =>
    have e : 32 :: (sp ++ u ++ rest) = (32 :: sp) ++ u ++ rest := rfl
    rw [e]
    refine .cons (32 :: sp) u rest k t m rs (fun c hc => by rcases List.mem_cons.1 hc with rfl | hc; rfl; exact h c hc) (by rw [ha, List.length_cons]; omega) hu ?_
    rw [List.length_cons, show k + (sp.length + 1) + u.length = k + 1 + sp.length + u.length by omega]
    exact hr
theorem last_all {u : List UInt8} (h : ∀ c ∈ u, c ≠ 32) : u.getLast? ≠ some 32 := fun e => h 32 (List.mem_of_getLast? e) rfl
theorem wh_allT (p : Nat → Bool) : ∀ r : List UInt8, ((r.take (wh p r)).all fun c => p c.toNat) = true := by
  intro r
  induction r with
  | nil => rfl
  | cons a r ih =>
    rw [wh]
    cases h : p a.toNat with
    | true => rw [cond_true, List.take_succ_cons, List.all_cons, h, ih]; rfl
    | false => rfl
theorem raw_word {u : List UInt8} (hne : u ≠ []) (ha : (u.all fun c => letB c.toNat) = true) : Raw u (1, u) :=
  ⟨hne, last_all fun c hc e => by
    have := List.all_eq_true.1 ha c hc
    rw [e] at this
    exact absurd this (by decide), fun t k m hm => lx_word u hne ha (32 :: t) k m (stop_cons (by decide)) hm⟩
theorem raw_sgn {c : UInt8} (h : sgnB c.toNat = true) : Raw [c] (4, [c]) :=
  ⟨by simp, last_all fun d hd e => by
    rw [List.mem_singleton] at hd
    rw [hd] at e
    rw [e] at h
    exact absurd h (by decide), fun t k m hm => lx_sgn c h (32 :: t) k m hm⟩
theorem raw_quo {r x : List UInt8} {j : Nat} (h : qscan r [] 1 = some (x, j)) : Raw (34 :: r.take (j - 1)) (2, x) := by
  obtain ⟨u, v, rfl, rfl, h3⟩ := qscan_pre r.length r [] 1 x j (Nat.le_refl _) h
  have e : (u ++ 34 :: v).take (1 + u.length + 1 - 1) = u ++ [34] := by
    rw [show 1 + u.length + 1 - 1 = u.length + 1 by omega]
    have : u ++ 34 :: v = (u ++ [34]) ++ v := by simp
    rw [this, List.take_append_of_le_length (by simp), List.take_of_length_le (by simp)]
  rw [e]
  refine ⟨by simp, ?_, fun t k m hm => ?_⟩
  · have e3 : ∀ w : List UInt8, (w ++ [34]).getLast? = some 34 := fun w => by simp
    have e4 := e3 (34 :: u)
    rw [List.cons_append] at e4
    rw [e4]
    decide
  · have hq := qscan_sp t (u ++ [34]).length (u ++ [34]) [] 1 _ (Nat.le_refl _) h3
    refine ⟨[⟨2, x, k⟩], ?_, rfl⟩
    rw [List.cons_append, lx_cons, if_neg (by decide), if_pos rfl, hq]
    dsimp only
    have e2 : (u ++ [34] ++ 32 :: t).drop (1 + u.length + 1 - 1) = 32 :: t := by
      rw [show 1 + u.length + 1 - 1 = (u ++ [34]).length by simp; omega, List.drop_left]
    rw [e2]
    simp only [List.length_cons, List.length_append, List.length_nil] at hm
    rw [show k + (1 + u.length + 1) = k + (u.length + (0 + 1) + 1) by omega, hm]
    rfl
theorem dig_ne {u : List UInt8} (ha : (u.all fun c => digB c.toNat) = true) : ∀ c ∈ u, c ≠ 32 := fun c hc e => by
  have := List.all_eq_true.1 ha c hc
  rw [e] at this
  exact absurd this (by decide)
theorem toNat_ne {a b : UInt8} (h : a.toNat ≠ b.toNat) : a ≠ b := fun e => h (by rw [e])
theorem raw_num {a : UInt8} {r : List UInt8} (hd : digB a.toNat = true) : Raw (a :: r.take (wh digB r)) (3, a :: r.take (wh digB r)) := by
  have hall := wh_allT digB r
  generalize r.take (wh digB r) = u at hall
  have h1 := hd
  simp only [digB, Bool.and_eq_true, decide_eq_true_eq] at h1
  refine ⟨by simp, last_all fun c hc => by
    rcases List.mem_cons.1 hc with rfl | hc
    · exact toNat_ne (by rw [show (32 : UInt8).toNat = 32 from rfl]; omega)
    · exact dig_ne hall c hc, fun t k m hm => ?_⟩
  have hl : letB a.toNat = false := by simp only [letB, Bool.and_eq_false_iff, decide_eq_false_iff_not]; omega
  have hw := wh_all (t := 32 :: t) (p := digB) (fun c r e => by cases e; decide) u hall
  refine ⟨[⟨3, a :: u, k⟩], ?_, rfl⟩
  rw [List.cons_append, lx_cons, if_neg (toNat_ne (by rw [show (32 : UInt8).toNat = 32 from rfl]; omega)), if_neg (toNat_ne (by rw [show (34 : UInt8).toNat = 34 from rfl]; omega)), if_neg (by rw [hl]; decide), if_pos hd, hw, List.drop_left, List.take_left]
  rw [List.length_cons, show k + (u.length + 1) = k + 1 + u.length by omega] at hm
  rw [hm]; rfl
theorem raw_neg {r : List UInt8} (hh : headDig r = true) : Raw (45 :: r.take (wh digB r)) (3, 45 :: r.take (wh digB r)) := by
  have hall := wh_allT digB r
  have hne : r.take (wh digB r) ≠ [] := by
    cases r with
    | nil => cases hh
    | cons b r' =>
      have hb : digB b.toNat = true := hh
      rw [wh, hb, cond_true, List.take_succ_cons]; simp
  generalize r.take (wh digB r) = u at hall hne
  refine ⟨by simp, last_all fun c hc => by
    rcases List.mem_cons.1 hc with rfl | hc
    · decide
    · exact dig_ne hall c hc, fun t k m hm => ?_⟩
  have hw := wh_all (t := 32 :: t) (p := digB) (fun c r e => by cases e; decide) u hall
  have hh' : headDig (u ++ 32 :: t) = true := by
    cases u with
    | nil => exact absurd rfl hne
    | cons b u' => rw [List.all_cons, Bool.and_eq_true] at hall; exact hall.1
  refine ⟨[⟨3, 45 :: u, k⟩], ?_, rfl⟩
  rw [List.cons_append, lx_cons, if_neg (by decide), if_neg (by decide), if_neg (by decide), if_neg (by decide), if_pos ⟨rfl, hh'⟩, hw, List.drop_left, List.take_left]
  rw [List.length_cons, show k + (u.length + 1) = k + 1 + u.length by omega] at hm
  rw [hm]; rfl
theorem lx_rw : ∀ (n : Nat) (l : List UInt8) (k : Nat) (m : List Tok), l.length ≤ n → lx l k = .ok m → ∃ rs, Rw l k m rs := by
  intro n
  induction n with
  | zero =>
    intro l k m hn h
    obtain rfl : l = [] := List.length_eq_zero_iff.1 (by omega)
    rw [lx_nil] at h; cases h
    exact ⟨[], .nil [] k (fun c hc => by cases hc)⟩
  | succ n ih =>
    intro l k m hn h
    cases l with
    | nil =>
      rw [lx_nil] at h; cases h
      exact ⟨[], .nil [] k (fun c hc => by cases hc)⟩
    | cons a r =>
      simp only [List.length_cons] at hn
      rw [lx_cons] at h
      have one : ∀ (kd : Nat) (tx u rest : List UInt8) (m' : List Tok), a :: r = u ++ rest → Raw u (kd, tx) → Lx.ok m' = .ok m' → lx rest (k + u.length) = .ok m' → m = ⟨kd, tx, k⟩ :: m' → ∃ rs, Rw (a :: r) k m rs := by
        intro kd tx u rest m' e hu _ hl hm
        have hl0 : 0 < u.length := List.length_pos_iff.2 hu.ne
        have hlen := congrArg List.length e
        simp only [List.length_cons, List.length_append] at hlen
        obtain ⟨rs, hr⟩ := ih rest _ m' (by omega) hl
        refine ⟨u :: rs, ?_⟩
        rw [e, hm]
        exact Rw.cons [] u rest k ⟨kd, tx, k⟩ m' rs (fun c hc => by cases hc) rfl hu hr
      by_cases c1 : a = 32
      · rw [if_pos c1] at h
        obtain ⟨rs, hr⟩ := ih r (k + 1) m (by omega) h
        exact ⟨rs, by rw [c1]; exact hr.sp⟩
      · rw [if_neg c1] at h
        by_cases c2 : a = 34
        · rw [if_pos c2] at h
          cases hq : qscan r [] 1 with
          | none => rw [hq] at h; cases h
          | some p =>
            obtain ⟨x, j⟩ := p
            rw [hq] at h
            dsimp only at h
            obtain ⟨m', e1, e2⟩ := Lx.cons_ok h
            obtain ⟨m1, m2⟩ := qscan_k r.length r [] 1 (Nat.le_refl _) x j hq
            refine one 2 x (34 :: r.take (j - 1)) (r.drop (j - 1)) m' (by rw [c2, List.cons_append, List.take_append_drop]) (raw_quo hq) rfl ?_ e2
            rw [List.length_cons, List.length_take, show k + (min (j - 1) r.length + 1) = k + j by omega]
            exact e1
        · rw [if_neg c2] at h
          by_cases c3 : letB a.toNat = true
          · rw [if_pos c3] at h
            obtain ⟨m', e1, e2⟩ := Lx.cons_ok h
            have wl := wh_le letB r
            refine one 1 _ (a :: r.take (wh letB r)) (r.drop (wh letB r)) m' (by rw [List.cons_append, List.take_append_drop]) (raw_word (by simp) (by rw [List.all_cons, c3, wh_allT]; rfl)) rfl ?_ e2
            rw [List.length_cons, List.length_take, show k + (min (wh letB r) r.length + 1) = k + 1 + wh letB r by omega]
            exact e1
          · rw [if_neg c3] at h
            have wl := wh_le digB r
            by_cases c4 : digB a.toNat = true
            · rw [if_pos c4] at h
              obtain ⟨m', e1, e2⟩ := Lx.cons_ok h
              refine one 3 _ (a :: r.take (wh digB r)) (r.drop (wh digB r)) m' (by rw [List.cons_append, List.take_append_drop]) (raw_num c4) rfl ?_ e2
              rw [List.length_cons, List.length_take, show k + (min (wh digB r) r.length + 1) = k + 1 + wh digB r by omega]
              exact e1
            · rw [if_neg c4] at h
              by_cases c5 : a = 45 ∧ headDig r = true
              · rw [if_pos c5] at h
                obtain ⟨m', e1, e2⟩ := Lx.cons_ok h
                refine one 3 _ (a :: r.take (wh digB r)) (r.drop (wh digB r)) m' (by rw [List.cons_append, List.take_append_drop]) (by rw [c5.1]; exact raw_neg c5.2) rfl ?_ e2
                rw [List.length_cons, List.length_take, show k + (min (wh digB r) r.length + 1) = k + 1 + wh digB r by omega]
                exact e1
              · rw [if_neg c5] at h
                by_cases c6 : sgnB a.toNat = true
                · rw [if_pos c6] at h
                  obtain ⟨m', e1, e2⟩ := Lx.cons_ok h
                  exact one 4 _ [a] r m' rfl (raw_sgn c6) rfl e1 e2
                · rw [if_neg c6] at h; cases h
theorem Rw.len {l : List UInt8} {k : Nat} {m : List Tok} {rs : List (List UInt8)} (h : Rw l k m rs) : m.length = rs.length ∧ lsum rs 5 ≤ 6 * l.length := by
  induction h with
  | nil sp k h => exact ⟨rfl, Nat.zero_le _⟩
  | cons sp u rest k t m rs h ha hu hr ih =>
    have := List.length_pos_iff.2 hu.ne
    refine ⟨by rw [List.length_cons, List.length_cons, ih.1], ?_⟩
    rw [lsum, List.length_append, List.length_append]
    omega
/-- Without the blanks at its end. -/
def trimR (l : List UInt8) : List UInt8 := (l.reverse.dropWhile (· == 32)).reverse
theorem trimR_snoc (l : List UInt8) (c : UInt8) : trimR (l ++ [c]) = if c = 32 then trimR l else l ++ [c] := by
  unfold trimR
  rw [List.reverse_append, List.reverse_singleton, List.singleton_append, List.dropWhile_cons]
  by_cases h : c = 32
  · rw [if_pos (by simp [h]), if_pos h]
  · rw [if_neg (by simp [h]), if_neg h, List.reverse_cons, List.reverse_reverse]
theorem trimR_sp {u : List UInt8} (hu : u.getLast? ≠ some 32) : ∀ sp : List UInt8, (∀ c ∈ sp, c = 32) → trimR (u ++ sp) = u := by
  intro sp
  induction hn : sp.length generalizing sp with
  | zero =>
    intro _
    obtain rfl := List.length_eq_zero_iff.1 hn
    rw [List.append_nil]
    rcases List.eq_nil_or_concat u with rfl | ⟨v, c, rfl⟩
    · rfl
    · rw [List.concat_eq_append] at hu ⊢
      rw [trimR_snoc, if_neg (fun e => hu (by simp [e]))]
  | succ n ih =>
    intro h
    rcases List.eq_nil_or_concat sp with rfl | ⟨v, c, rfl⟩
    · cases hn
    · rw [List.concat_eq_append] at h hn ⊢
      rw [← List.append_assoc, trimR_snoc, if_pos (h c (by simp))]
      exact ih v (by simpa using hn) (fun d hd => h d (by simp [hd]))
/-- Where a token's stretch ends. -/
def endAt (m : List Tok) (i e : Nat) : Nat := if i + 1 < m.length then (m.getD (i + 1) ⟨0, [], 0⟩).at_ else e
theorem Rw.piece {l : List UInt8} {k : Nat} {m : List Tok} {rs : List (List UInt8)} (h : Rw l k m rs) : ∀ (i : Nat) (t : Tok), m[i]? = some t →
    k ≤ t.at_ ∧ t.at_ ≤ endAt m i (k + l.length) ∧ endAt m i (k + l.length) ≤ k + l.length ∧ ∃ u, rs[i]? = some u ∧ trimR ((l.drop (t.at_ - k)).take (endAt m i (k + l.length) - t.at_)) = u := by
  induction h with
  | nil sp k h => intro i t hi; simp at hi
  | cons sp u rest k t m rs h ha hu hr ih =>
    intro i t' hi
    have hll : (sp ++ u ++ rest).length = sp.length + u.length + rest.length := by rw [List.length_append, List.length_append]
    cases i with
    | zero =>
      simp only [List.getElem?_cons_zero, Option.some.injEq] at hi
      subst hi
      have hdr : (sp ++ u ++ rest).drop (t.at_ - k) = u ++ rest := by rw [ha, show k + sp.length - k = sp.length by omega, List.append_assoc, List.drop_left]
      rw [hdr, hll]
      cases hr with
      | nil sp' _ h' =>
        have he : endAt [t] 0 (k + (sp.length + u.length + rest.length)) = k + (sp.length + u.length + rest.length) := by unfold endAt; rw [if_neg (by simp)]
        rw [he]
        refine ⟨by omega, by omega, Nat.le_refl _, u, rfl, ?_⟩
        rw [List.take_of_length_le (by rw [List.length_append]; omega)]
        exact trimR_sp hu.last rest h'
      | cons sp' u' rest' _ t2 m' rs' h' ha' hu' hr' =>
        have he : endAt (t :: t2 :: m') 0 (k + (sp.length + u.length + (sp' ++ u' ++ rest').length)) = t2.at_ := by unfold endAt; rw [if_pos (by simp)]; rfl
        rw [he, List.length_append, List.length_append]
        refine ⟨by omega, by omega, by omega, u, rfl, ?_⟩
        have e2 : (u ++ (sp' ++ u' ++ rest')).take (t2.at_ - t.at_) = u ++ sp' := by
          rw [show t2.at_ - t.at_ = (u ++ sp').length by rw [List.length_append]; omega, show u ++ (sp' ++ u' ++ rest') = (u ++ sp') ++ (u' ++ rest') by simp only [List.append_assoc], List.take_left]
        rw [e2]
        exact trimR_sp hu.last sp' h'
    | succ i =>
      rw [List.getElem?_cons_succ] at hi
      obtain ⟨q1, q2, q3, v, q4, q5⟩ := ih i t' hi
      have he : endAt (t :: m) (i + 1) (k + (sp ++ u ++ rest).length) = endAt m i (k + sp.length + u.length + rest.length) := by
        unfold endAt
        rw [hll, List.length_cons]
        by_cases hc : i + 1 < m.length
        · rw [if_pos hc, if_pos (by omega), List.getD_cons_succ]
        · rw [if_neg hc, if_neg (by omega)]; omega
      rw [he]
      refine ⟨by omega, q2, by rw [hll]; omega, v, by rw [List.getElem?_cons_succ]; exact q4, ?_⟩
      have hdr : (sp ++ u ++ rest).drop (t'.at_ - k) = rest.drop (t'.at_ - (k + sp.length + u.length)) := by
        rw [show t'.at_ - k = (sp ++ u).length + (t'.at_ - (k + sp.length + u.length)) by rw [List.length_append]; omega, ← List.drop_drop, List.drop_left]
      rw [hdr]
      exact q5
/-- The tokens, with blanks between them. -/
theorem lx_gaps {l : List UInt8} {k0 : Nat} {m : List Tok} {rs : List (List UInt8)} (h : Rw l k0 m rs) (g : Nat) : LxF (rs.flatMap fun u => u ++ List.replicate (g + 1) 32) (m.map Tok.kt) := by
  have hsp : ∀ n : Nat, LxF (List.replicate n 32) [] := by
    intro n
    induction n with
    | zero => intro t k m hm; exact ⟨[], hm, rfl⟩
    | succ n ih => rw [List.replicate_succ]; exact lx_sp1.app ih
  induction h with
  | nil sp k h => intro t k m hm; exact ⟨[], hm, rfl⟩
  | cons sp u rest k t m rs h ha hu hr ih =>
    rw [List.flatMap_cons, List.map_cons]
    have h1 : LxF (u ++ List.replicate (g + 1) 32) [t.kt] := by
      intro t' k' m' hm
      obtain ⟨m1, e1, e2⟩ := hsp (g + 1) t' (k' + u.length) m' (by rw [List.length_append] at hm; rw [Nat.add_assoc]; exact hm)
      obtain rfl : m1 = [] := by simpa using e2
      rw [List.replicate_succ, List.cons_append, List.nil_append] at e1
      obtain ⟨m2, e3, e4⟩ := hu.lx _ _ _ e1
      refine ⟨m2, ?_, e4⟩
      rw [List.append_assoc, List.replicate_succ, List.cons_append]
      exact e3
    exact h1.app ih
/-! ### The parser does not look at places -/
section
variable {ts ts' : List Tok} {e e' : Nat}
theorem tokAt_kt (h : ts.map Tok.kt = ts'.map Tok.kt) (a : Nat) : (tokAt ts e a).kind = (tokAt ts' e' a).kind ∧ (tokAt ts e a).text = (tokAt ts' e' a).text := by
  have h1 : (ts.map Tok.kt)[a]? = (ts'.map Tok.kt)[a]? := by rw [h]
  rw [List.getElem?_map, List.getElem?_map] at h1
  unfold tokAt
  cases h2 : ts[a]? with
  | none =>
    cases h3 : ts'[a]? with
    | none => exact ⟨rfl, rfl⟩
    | some t => rw [h2, h3] at h1; cases h1
  | some t =>
    cases h3 : ts'[a]? with
    | none => rw [h2, h3] at h1; cases h1
    | some t' =>
      rw [h2, h3] at h1
      simp only [Option.map_some, Option.some.injEq, Tok.kt, Prod.mk.injEq] at h1
      exact h1
theorem P_kt (h : ts.map Tok.kt = ts'.map Tok.kt) : ∀ n : Nat, P ts e n = P ts' e' n := by
  have hk : ∀ a, (tokAt ts e a).kind = (tokAt ts' e' a).kind := fun a => (tokAt_kt h a).1
  have hx : ∀ a, (tokAt ts e a).text = (tokAt ts' e' a).text := fun a => (tokAt_kt h a).2
  have hT : ∀ a w, isT ts e a w = isT ts' e' a w := fun a w => by unfold isT; rw [hk, hx]
  have hW : ∀ a w, isW ts e a w = isW ts' e' a w := fun a w => by unfold isW; rw [hk, hx]
  have hF : ∀ a, isF ts e a = isF ts' e' a := fun a => by unfold isF; rw [hk, hT]
  intro n
  induction n with
  | zero => rfl
  | succ n ih =>
    funext q a
    rw [P_suc, P_suc, ih]
    cases q <;> simp only [pstep, hk, hx, hT, hW, hF]
theorem parR_kt (h : ts.map Tok.kt = ts'.map Tok.kt) : parR ts e = parR ts' e' := by
  have hl : ts.length = ts'.length := by have := congrArg List.length h; simpa using this
  unfold parR
  rw [P_kt (e' := e') h, hl]
end
theorem parse_kt {s t : List UInt8} {ts ts' : List Tok} (h1 : lx s 0 = .ok ts) (h2 : lx t 0 = .ok ts') (h : ts.map Tok.kt = ts'.map Tok.kt) : (parseV s).1 = (parseV t).1 ∧ (parseV s).2.2 = (parseV t).2.2 := by
  have hp := parR_kt (e := s.length) (e' := t.length) h
  have hf : (filV ts s.length).1 = (filV ts' t.length).1 ∧ (filV ts s.length).2.2 = (filV ts' t.length).2.2 := by
    unfold filV
    rw [hp]
    by_cases c1 : (parR ts' t.length).2.1 ≠ 0
    · rw [if_pos c1, if_pos c1]; exact ⟨rfl, rfl⟩
    · rw [if_neg c1, if_neg c1]
      by_cases c2 : chk (parR ts' t.length).1 ≠ 0
      · rw [if_pos c2, if_pos c2]; exact ⟨rfl, rfl⟩
      · rw [if_neg c2, if_neg c2]; exact ⟨rfl, rfl⟩
  unfold parseV
  rw [h1, h2]
  dsimp only
  rw [hp, (tokAt_kt (e := s.length) (e' := t.length) h _).1, hf.2]
  split
  · exact ⟨rfl, rfl⟩
  · exact hf
end Go.Proofs.YtbhclhgljnoioaaDoor
