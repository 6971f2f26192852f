/- lang: the text of a filter: walked. -/
import Derived.Test.YtbhclhgljnoioaaDoorPg2
import Derived.Test.YtbhclhgljnoioaaDoorAi12
set_option linter.unusedSimpArgs false
set_option linter.unusedVariables false
namespace Go.Proofs.YtbhclhgljnoioaaDoor
open Ai Go.Shelf
def bindV (k : Int) (n : Nat) : Nat := if k = 6 ∧ 1 < n then 1 else if k = 5 ∧ 1 < n then 2 else 3
theorem bindF_le (f : Fil) : bindF f ≤ 3 := by
  cases f with | mk k nm tx kids =>
  unfold bindF
  repeat' split
  all_goals omega
theorem U88 : type_of% (@M_open _ _ B88.eq_1) := @M_open _ _ B88.eq_1
def kz88 (_ : Nat) : List Nat := []
theorem w_binds (k : Int) (nm tx : List UInt8) (xs : List V) (n : Nat) (tk : Tk) (gl : Nat → List V) :
    M noX (kz88) (.code B88) [] (St.init gl 5 [.agg [.i .i64 k, .s nm, .s tx, .sl xs n tk]] {}) (Fin [.tmp 2] (.i .i64 (bindV k n : Nat))) := by
  rw [U88]
  by_cases h1 : 1 < n
  · have e1 : decide ((1 : Int) < (n : Int)) = true := decide_eq_true (by omega)
    by_cases k6 : k = 6
    · have d6 : decide (k = 6) = true := decide_eq_true k6
      have hM : bindV k n = 1 := by unfold bindV; rw [if_pos ⟨k6, h1⟩]
      rw [hM]
      simp only [e1, d6, Int.cast_ofNat_Int, go_sem, ne_eq, not_false_eq_true, reduceIte, Nat.reduceMul, Nat.reduceAdd, Nat.reduceSub, Nat.reduceEqDiff, Nat.reduceLeDiff, Nat.reduceLT, List.take_succ_cons, List.take_zero, List.drop_succ_cons, List.cons_append]
    · have d6 : decide (k = 6) = false := decide_eq_false k6
      by_cases k5 : k = 5
      · have d5 : decide (k = 5) = true := decide_eq_true k5
        have hM : bindV k n = 2 := by unfold bindV; rw [if_neg (fun h => k6 h.1), if_pos ⟨k5, h1⟩]
        rw [hM]
        simp only [e1, d5, d6, Int.cast_ofNat_Int, go_sem, ne_eq, not_false_eq_true, reduceIte, Nat.reduceMul, Nat.reduceAdd, Nat.reduceSub, Nat.reduceEqDiff, Nat.reduceLeDiff, Nat.reduceLT, List.take_succ_cons, List.take_zero, List.drop_succ_cons, List.cons_append]
      · have d5 : decide (k = 5) = false := decide_eq_false k5
        have hM : bindV k n = 3 := by unfold bindV; rw [if_neg (fun h => k6 h.1), if_neg (fun h => k5 h.1)]
        rw [hM]
        simp only [e1, d5, d6, Int.cast_ofNat_Int, go_sem, ne_eq, not_false_eq_true, reduceIte, Nat.reduceMul, Nat.reduceAdd, Nat.reduceSub, Nat.reduceEqDiff, Nat.reduceLeDiff, Nat.reduceLT, List.take_succ_cons, List.take_zero, List.drop_succ_cons, List.cons_append]
  · have e1 : decide ((1 : Int) < (n : Int)) = false := decide_eq_false (by omega)
    have hM : bindV k n = 3 := by unfold bindV; rw [if_neg (fun h => h1 h.2), if_neg (fun h => h1 h.2)]
    rw [hM]
    cases d6 : decide (k = 6) <;> cases d5 : decide (k = 5) <;> simp only [e1, d5, d6, Int.cast_ofNat_Int, go_sem, ne_eq, not_false_eq_true, reduceIte, Nat.reduceMul, Nat.reduceAdd, Nat.reduceSub, Nat.reduceEqDiff, Nat.reduceLeDiff, Nat.reduceLT, List.take_succ_cons, List.take_zero, List.drop_succ_cons, List.cons_append]
def F_binds (a : List V) : Option V := match a with
  | [.agg [.i .i64 k, .s nm, .s tx, .sl xs n tk]] => some (.i .i64 (bindV k n : Nat))
  | _ => none
theorem o_binds : ∀ a v, F_binds a = some v → Comp tabx told 88 a v := fun a v e => by
  unfold F_binds at e
  split at e
  · cases e; exact comp_of tells_noX (fn := af88) rfl (Nat.le_of_ble_eq_true rfl) fun gl => w_binds _ _ _ _ _ _ gl
  · cases e
def R_tell (a : List V) (v : V) : Prop := ∀ (f : Fil) (c : List V), a = [.agg c] → FilR f c → v = .s (tellF f)
def R_within (a : List V) (v : V) : Prop := ∀ (f : Fil) (c : List V) (b : Nat), a = [.agg c, .i .i64 (b : Nat)] → FilR f c → v = .s (withinF f b)
noncomputable def F_tell : List V → Option V := pickP 38 R_tell
noncomputable def F_within : List V → Option V := pickP 65 R_within
def S_tell (D : Nat) : Prop := ∀ (f : Fil) (c : List V) (d : Nat), FilR f c → Fine f d → 8 ≤ d + D → Comp tabx told 38 [.agg c] (.s (tellF f))
def S_within (D : Nat) : Prop := ∀ (f : Fil) (c : List V) (d b : Nat), FilR f c → Fine f d → 8 ≤ d + D → b ≤ 3 → Comp tabx told 65 [.agg c, .i .i64 (b : Nat)] (.s (withinF f b))
theorem call_tell {D : Nat} (S : S_tell D) {f : Fil} {c : List V} {d : Nat} (hf : FilR f c) (h1 : Fine f d) (h2 : 8 ≤ d + D) : F_tell [.agg c] = some (.s (tellF f)) := by
  obtain ⟨v, e1, r⟩ := pickP_spec (R := R_tell) (S f c d hf h1 h2) (by
    intro f' c' e1 hf'
    simp only [List.cons.injEq, V.agg.injEq, and_true] at e1
    subst e1
    rw [← FilR.uniq f f' c hf hf'])
  rw [r f c rfl hf] at e1
  exact e1
theorem call_within {D : Nat} (S : S_within D) {f : Fil} {c : List V} {d b : Nat} (hf : FilR f c) (h1 : Fine f d) (h2 : 8 ≤ d + D) (h3 : b ≤ 3) : F_within [.agg c, .i .i64 (b : Nat)] = some (.s (withinF f b)) := by
  obtain ⟨v, e1, r⟩ := pickP_spec (R := R_within) (S f c d b hf h1 h2 h3) (by
    intro f' c' b' e1 hf'
    simp only [List.cons.injEq, V.agg.injEq, V.i.injEq, true_and, and_true] at e1
    obtain ⟨e1, e2⟩ := e1
    obtain rfl : b = b' := by omega
    subst e1
    rw [← FilR.uniq f f' c hf hf'])
  rw [r f c b rfl hf] at e1
  exact e1
noncomputable def X_within := xs [(88, F_binds), (38, F_tell)]
theorem t_within : Tells tabx told X_within := tells_cons o_binds (tells_cons pickP_tells tells_nil)
theorem UH65 : type_of% (@Hp_open _ _ B65.eq_1) := @Hp_open _ _ B65.eq_1
def kz65 (_ : Nat) : List Nat := []
section
variable {D : Nat}
theorem s_within (S : S_tell D) : S_within D := by
  intro f c d b hf hfi hD hb
  have hs := FilR.strip f c hf
  have hl := hfi.len
  refine Hp.comp_of (kz := kz65) t_within tells_noY (fn := af65) rfl (Nat.le_of_ble_eq_true rfl) fun gl => ?_
  show Hp.M _ _ _ (.code B65) _ (St.init gl 4 [.agg (stripL c), .i .i64 (b : Nat)] _) (Fin [.tmp 4] _)
  rw [UH65]
  have y1 : X_within 38 [.agg (stripL c)] = some (.s (tellF f)) := call_tell S hs hfi hD
  generalize stripL c = c2 at hs y1
  have hbd : ∃ k nm tx xs n tk, c2 = [.i .i64 k, .s nm, .s tx, .sl xs n tk] ∧ bindF f = bindV k n := by
    cases hs with | mk k nm tx kids xs n tk hn hx => subst hn; exact ⟨k, nm, tx, xs, _, tk, rfl, rfl⟩
  obtain ⟨k, nm, tx, xs, n, tk, rfl, hbe⟩ := hbd
  have y2 : X_within 88 [.agg [.i .i64 k, .s nm, .s tx, .sl xs n tk]] = some (.i .i64 (bindV k n : Nat)) := rfl
  rw [← hbe] at y2
  unfold withinF
  generalize tellF f = t at *
  by_cases hlt : bindF f < b
  · have e1 : decide ((bindF f : Int) < (b : Int)) = true := decide_eq_true (by omega)
    rw [if_pos hlt]
    have g1 : 1 + t.length ≤ 4611686018427387904 := by omega
    have g2 : 1 + t.length + 1 ≤ 4611686018427387904 := by omega
    have g3 : t.length + 1 ≤ 4611686018427387904 := by omega
    have g4 : t.length + 1 + 1 ≤ 4611686018427387904 := by omega
    simp only [y1, y2, e1, g1, g2, g3, g4, List.length_append, List.length_cons, List.length_nil, Nat.zero_add, go_sem, ne_eq, not_false_eq_true, reduceIte, Nat.reduceMul, Nat.reduceAdd, Nat.reduceSub, Nat.reduceEqDiff, Nat.reduceLeDiff, Nat.reduceLT, List.take_succ_cons, List.take_zero, List.drop_succ_cons, List.cons_append]
  · have e1 : decide ((bindF f : Int) < (b : Int)) = false := decide_eq_false (by omega)
    rw [if_neg hlt]
    simp only [y1, y2, e1, go_sem, ne_eq, not_false_eq_true, reduceIte, Nat.reduceMul, Nat.reduceAdd, Nat.reduceSub, Nat.reduceEqDiff, Nat.reduceLeDiff, Nat.reduceLT, List.take_succ_cons, List.take_zero, List.drop_succ_cons, List.cons_append]
end
end Go.Proofs.YtbhclhgljnoioaaDoor
set_option linter.unusedSimpArgs false
set_option linter.unusedVariables false
namespace Go.Proofs.YtbhclhgljnoioaaDoor
open Ai Go.Shelf
theorem k_bsliceT {xf : FuncId → List V → Option V} {xh : FuncId → List V → H → Option (V × H)} (gl : Nat → List V) (T : T) (its : List (Nat × (List UInt8 × Nat))) (loc : List (Nat × List V)) (nx : Nat) (obs : List (Nat × Ai.Obj)) (nt : Nat) (tips : List (Nat × (Nat × TypeId))) (d : Nat) (ty : TypeId) (z : V) (x : Opd) :
    Hp.stepK xf xh ⟨gl, T, its, loc, ⟨nx, obs, nt, tips⟩⟩ d (.bslice true ty 1 1 [z] [(0, x)]) = (match (St.ev ⟨gl, T, its, loc, ⟨nx, obs, nt, tips⟩⟩ x).cells? with
      | some [v] => some (.hs nx 0 1 1, ⟨gl, T, its, loc, ⟨nx + 1, (nx, .cells ty [v]) :: obs, nt, tips⟩⟩)
      | _ => none) := by
  have e : Hp.stepK xf xh ⟨gl, T, its, loc, ⟨nx, obs, nt, tips⟩⟩ d (.bslice true ty 1 1 [z] [(0, x)]) = (match fill (zeros [z] 1) (evB ⟨gl, T, its, loc, ⟨nx, obs, nt, tips⟩⟩ 1 [(0, x)]) with
    | some cs => some (.hs nx 0 1 1, ⟨gl, T, its, loc, ⟨nx + 1, (nx, .cells ty cs) :: obs, nt, tips⟩⟩)
    | none => none) := rfl
  rw [e]
  simp only [evB, fill]
  cases (St.ev ⟨gl, T, its, loc, ⟨nx, obs, nt, tips⟩⟩ x).cells? with
  | none => rfl
  | some vs =>
    match vs with
    | [] => rfl
    | [v] => rfl
    | a :: b :: r =>
      simp only [List.length_cons]
      rw [nbne (show r.length + 1 + 1 ≠ 1 by omega)]
      rfl
noncomputable def X_tell := xs [(12, F_Quote), (65, F_within), (38, F_tell)]
theorem t_tell : Tells tabx told X_tell := tells_cons o_Quote (tells_cons pickP_tells (tells_cons pickP_tells tells_nil))
def Y_tell := ys [(66, H_Join)]
theorem u_tell : Hp.TellsI tabx told Y_tell := itells_cons i_Join itells_nil
def K38_2 : List Fr := [.blk 3,
 .seq (.seq (.reg [⟨some 78, .mov (.t 4), none⟩, ⟨some 79, .mov (.t 6), none⟩, ⟨some 80, .call false 66 [(.t 79), (.k (.s [44, 32]))], none⟩, ⟨some 81, .bin .add (.t 78) (.t 80), none⟩, ⟨some 82, .bin .add (.t 81) (.k (.s [41])), none⟩, ⟨some 2, .mov (.t 82), none⟩])
 .ret)]
theorem UH38_2 : type_of% (@Hp_open _ _ L38_2.eq_1) := @Hp_open _ _ L38_2.eq_1
def K38_1 : List Fr := [.blk 1,
 .seq (.seq (.seq (.reg [⟨some 58, .mov (.t 6), none⟩, ⟨some 59, .len .slice (.t 58), none⟩, ⟨some 60, .bin .gtr (.t 59) (.k (.i .i64 1)), none⟩])
 (.cond (.t 60)
 (.seq (.reg [⟨some 61, .mov (.t 6), none⟩, ⟨some 62, .mov (.t 3), none⟩, ⟨some 63, .call false 66 [(.t 61), (.t 62)], none⟩, ⟨some 2, .mov (.t 63), none⟩])
 .ret)
 .skip))
 (.seq (.seq (.reg [⟨some 64, .faddr 3 (.t 1), none⟩, ⟨some 65, .load false 1 (.t 64), none⟩, ⟨some 66, .len .slice (.t 65), none⟩, ⟨some 67, .mov (.k (.i .i64 0)), none⟩])
 (.blk 3 (.loop L38_2)))
 (.seq (.reg [⟨some 78, .mov (.t 4), none⟩, ⟨some 79, .mov (.t 6), none⟩, ⟨some 80, .call false 66 [(.t 79), (.k (.s [44, 32]))], none⟩, ⟨some 81, .bin .add (.t 78) (.t 80), none⟩, ⟨some 82, .bin .add (.t 81) (.k (.s [41])), none⟩, ⟨some 2, .mov (.t 82), none⟩])
 .ret)))]
theorem UH38_1 : type_of% (@Hp_open _ _ L38_1.eq_1) := @Hp_open _ _ L38_1.eq_1
theorem UH38 : type_of% (@Hp_open _ _ B38.eq_1) := @Hp_open _ _ B38.eq_1
def kz38 (_ : Nat) : List Nat := [0, 2, 7, 8, 9, 10, 11, 12, 13, 14, 15, 16, 17, 18, 19, 20, 21, 22, 23, 24, 25, 26, 27, 28, 29, 30, 31, 32, 33, 34, 35, 36, 37, 38, 39, 40, 41, 42, 43, 47, 48, 49, 50, 51, 52, 53, 54, 55, 56, 57, 58, 59, 60, 61, 62, 63, 64, 68, 69, 70, 71, 72, 73, 74, 75, 76, 77, 78, 79, 80, 81, 82]
theorem tellW_le (l : List Fil) (b : Nat) (sep : List UInt8) (hs : sep.length ≤ 5) (h : okLs l) : (Lib.join (tellW l b) sep).length ≤ 50000 * cnts l := Nat.le_trans (join_le _ _ 5 hs) (tellW_sum l b h)
theorem Y_JoinS (sep : List UInt8) (h : H) : Y_tell 66 [.sl [] 0 .nil, .s sep] h = some (.s [], h) := H_JoinS (l := []) (tk := .nil) sep h rfl (by decide) (Nat.zero_le _)
section
variable {D : Nat}
/-! The kids' texts, in parentheses where they must be. -/
set_option maxRecDepth 100000 in
theorem w_t2 (S : S_tell D) (kids : List Fil) (ys : List V) (tk0 : Tk) (hy : KidsR kids ys) (d : Nat) (hk : ∀ (pre : List Fil) (f : Fil) (post : List Fil), kids = pre ++ f :: post → Fine f (d + 1)) (hD : 8 ≤ d + 1 + D) (li : List UInt8) (hli : li.length = 4 ∨ li.length = 5) (gl : Nat → List V)
    (l : List (List UInt8)) (hl1 : l.length = kids.length) (hk1 : kids.length ≤ 1) (v : V) (h : H) (hb : LB h v l) (loc : List (Nat × List V)) (x1 x3 x5 x44 x45 x46 : V) :
    Hp.M X_tell Y_tell (kz38) (.code L38_2) (.loop L38_2 :: K38_2) ⟨gl, (.node (.node (.node (.node (.node (.node (.node .leaf .any .leaf) .any (.node .leaf .any .leaf)) .any (.node (.node .leaf .any .leaf) .any (.node .leaf .any .leaf))) .any (.node (.node (.node .leaf .any .leaf) .any (.node .leaf .any .leaf)) .any (.node (.node .leaf .any .leaf) .any (.node .leaf .any .leaf)))) (x3) (.node (.node (.node (.node .leaf (.i .i64 0) .leaf) .any (.node .leaf .any .leaf)) .any (.node (.node .leaf .any .leaf) .any (.node .leaf .any .leaf))) .any (.node (.node (.node .leaf .any .leaf) .any (.node .leaf .any .leaf)) .any (.node (.node .leaf .any .leaf) .any (.node .leaf .any .leaf))))) (x1) (.node (.node (.node (.node (.node .leaf (.sl ys kids.length tk0) .leaf) .any (.node .leaf .any .leaf)) .any (.node (.node .leaf .any .leaf) .any (.node .leaf .any .leaf))) .any (.node (.node (.node .leaf .any .leaf) .any (.node .leaf .any .leaf)) .any (.node (.node .leaf .any .leaf) .any (.node .leaf .any .leaf)))) (x5) (.node (.node (.node (.node .leaf .any .leaf) .any (.node .leaf .any .leaf)) .any (.node (.node .leaf .any .leaf) .any (.node .leaf .any .leaf))) .any (.node (.node (.node .leaf .any .leaf) (x45) (.node .leaf .any .leaf)) .any (.node (.node .leaf .any .leaf) .any (.node .leaf .any .leaf)))))) .any (.node (.node (.node (.node (.node (.node .leaf .any .leaf) .any (.node .leaf .any .leaf)) .any (.node (.node .leaf .any .leaf) .any (.node .leaf .any .leaf))) .any (.node (.node (.node .leaf .any .leaf) .any (.node .leaf .any .leaf)) .any (.node (.node .leaf .any .leaf) .any (.node .leaf .any .leaf)))) (.s li) (.node (.node (.node (.node .leaf .any .leaf) .any (.node .leaf .any .leaf)) .any (.node (.node .leaf .any .leaf) .any (.node .leaf .any .leaf))) .any (.node (.node (.node .leaf .any .leaf) (x44) (.node .leaf .any .leaf)) .any (.node (.node .leaf .any .leaf) .any (.node .leaf .any .leaf))))) .any (.node (.node (.node (.node (.node .leaf (.i .i64 (kids.length : Nat)) .leaf) .any (.node .leaf .any .leaf)) .any (.node (.node .leaf .any .leaf) .any (.node .leaf .any .leaf))) .any (.node (.node (.node .leaf .any .leaf) .any (.node .leaf .any .leaf)) .any (.node (.node .leaf .any .leaf) .any (.node .leaf .any .leaf)))) (v) (.node (.node (.node (.node .leaf .any .leaf) .any (.node .leaf .any .leaf)) .any (.node (.node .leaf .any .leaf) .any (.node .leaf .any .leaf))) .any (.node (.node (.node .leaf .any .leaf) (x46) (.node .leaf .any .leaf)) .any (.node (.node .leaf .any .leaf) .any (.node .leaf .any .leaf))))))), [], loc, h⟩
      (Fin [.tmp 2] (.s (li ++ Lib.join (tellL kids) [44, 32] ++ [41]))) := by
  match kids, hl1, hk1 with
  | [], hl1, _ =>
    obtain rfl : l = [] := List.eq_nil_of_length_eq_zero (by simpa using hl1)
    rcases hb with ⟨_, rfl⟩ | ⟨hne, _⟩
    · have e1 : decide ((0 : Int) < 0) = false := by decide
      have yj := Y_JoinS [44, 32] h
      have g1 : li.length ≤ 4611686018427387904 := by omega
      have g2 : li.length + 1 ≤ 4611686018427387904 := by omega
      rw [UH38_2, tellL, Lib.join_nil]
      simp only [e1, yj, g1, g2, K38_2, List.length_append, List.append_nil, Nat.add_zero, Int.cast_ofNat_Int, go_sem, ne_eq, not_false_eq_true, reduceIte, Nat.reduceMul, Nat.reduceAdd, Nat.reduceSub, Nat.reduceEqDiff, Nat.reduceLeDiff, Nat.reduceLT, List.take_succ_cons, List.take_zero, List.drop_succ_cons, List.cons_append]
    · exact absurd rfl hne
  | [g], hl1, _ =>
    obtain ⟨x, rfl⟩ : ∃ x, l = [x] := by
      match l, (show l.length = 1 by simpa using hl1) with
      | [x], _ => exact ⟨x, rfl⟩
    rcases hb with ⟨hne, _⟩ | ⟨_, id, rfl, hid, ho⟩
    · cases hne
    · obtain ⟨nx, obs, nt, tips⟩ := h
      simp only [List.map_cons, List.map_nil] at ho
      have hfi := hk [] g [] rfl
      obtain ⟨c, hc, ht⟩ := hy.split [] g [] rfl
      have y1 : X_tell 38 [.agg c] = some (.s (tellF g)) := call_tell S hc hfi hD
      have hlen := hfi.len
      have hyl := hy.len
      have e1 : decide ((0 : Int) < 1) = true := by decide
      have e2 : decide ((1 : Int) < 1) = false := by decide
      have w1 : wr .i64 ((0 : Int) + 1) = 1 := by decide
      rw [tellL, tellL, Lib.join_one]
      cases hc with | mk k1 nm1 tx1 kids1 xs1 n1 tk1 hn1 hx1 =>
      generalize tellF (.mk k1 nm1 tx1 kids1) = t at *
      have yj : Y_tell 66 [.hs id 0 1 1, .s [44, 32]] ⟨nx, alSet obs id (.cells 9 [.s t]), nt, tips⟩ = some (.s t, ⟨nx, alSet obs id (.cells 9 [.s t]), nt, tips⟩) := by
        have := H_JoinH (h := ⟨nx, alSet obs id (.cells 9 [.s t]), nt, tips⟩) (id := id) (n := 1) (ty := 9) (l := [t]) [44, 32] (al_alSet _ _ _) rfl (by decide) (by rw [Lib.join_one]; omega)
        rw [Lib.join_one] at this
        exact this
      have g1 : li.length + t.length ≤ 4611686018427387904 := by omega
      have g2 : li.length + t.length + 1 ≤ 4611686018427387904 := by omega
      have g3 : 4 ≤ ys.length := by simp only [List.length_cons, List.length_nil] at hyl; omega
      rw [UH38_2]
      simp only [List.length_cons, List.length_nil, Nat.zero_add, Nat.zero_mul, Nat.one_mul, List.drop_zero] at hyl ht ⊢
      simp only [e1, hyl, g3, rd_ip, ht, y1, ho, w1, splice, Int.cast_ofNat_Int, go_sem, ne_eq, not_false_eq_true, reduceIte, Nat.reduceMul, Nat.reduceAdd, Nat.reduceSub, Nat.reduceEqDiff, Nat.reduceLeDiff, Nat.reduceLT, List.take_succ_cons, List.take_zero, List.drop_succ_cons, List.cons_append]
      rw [Hp.M_loop]
      rw [UH38_2]
      simp only [kz38, K38_2, List.length_cons, List.length_nil, go_sem, ne_eq, not_false_eq_true, reduceIte, Nat.reduceMul, Nat.reduceAdd, Nat.reduceSub, Nat.reduceEqDiff, Nat.reduceLeDiff, Nat.reduceLT, List.take_succ_cons, List.take_zero, List.drop_succ_cons, List.cons_append]
      simp only [e2, yj, g1, g2, K38_2, List.length_append, List.length_cons, List.length_nil, Int.cast_ofNat_Int, go_sem, ne_eq, not_false_eq_true, reduceIte, Nat.reduceMul, Nat.reduceAdd, Nat.reduceSub, Nat.reduceEqDiff, Nat.reduceLeDiff, Nat.reduceLT, List.take_succ_cons, List.take_zero, List.drop_succ_cons, List.cons_append]
  | _ :: _ :: _, _, h => simp only [List.length_cons] at h; omega
end
end Go.Proofs.YtbhclhgljnoioaaDoor
set_option linter.unusedSimpArgs false
set_option linter.unusedVariables false
namespace Go.Proofs.YtbhclhgljnoioaaDoor
open Ai Go.Shelf
section
variable {D : Nat}
set_option maxRecDepth 100000 in
theorem w_t1 (S : S_tell D) (k : Int) (nm tx : List UInt8) (kids : List Fil) (ys : List V) (tk0 : Tk) (hy : KidsR kids ys) (d : Nat) (hfi : Fine (.mk k nm tx kids) d) (hD : 8 ≤ d + 1 + D) (word li : List UInt8) (hwo : word.length = 4 ∨ word.length = 5) (hli : li.length = 4 ∨ li.length = 5) (b : Nat) (hb1 : b ≤ 2) (gl : Nat → List V) :
    ∀ (post pre : List Fil) (l : List (List UInt8)) (v : V) (h : H) (l8 : List (Nat × List V)), kids = pre ++ post → l = tellW pre (b + 1) → LB h v l →
    Hp.M X_tell Y_tell (kz38) (.code L38_1) (.loop L38_1 :: K38_1) ⟨gl, (.node (.node (.node (.node (.node (.node (.node .leaf .any .leaf) .any (.node .leaf .any .leaf)) .any (.node (.node .leaf .any .leaf) .any (.node .leaf .any .leaf))) .any (.node (.node (.node .leaf .any .leaf) .any (.node .leaf .any .leaf)) .any (.node (.node .leaf .any .leaf) .any (.node .leaf .any .leaf)))) (.s word) (.node (.node (.node (.node .leaf .any .leaf) .any (.node .leaf .any .leaf)) .any (.node (.node .leaf .any .leaf) .any (.node .leaf .any .leaf))) .any (.node (.node (.node .leaf .any .leaf) .any (.node .leaf .any .leaf)) .any (.node (.node .leaf .any .leaf) .any (.node .leaf .any .leaf))))) (.l 1 0) (.node (.node (.node (.node (.node .leaf .any .leaf) .any (.node .leaf .any .leaf)) .any (.node (.node .leaf .any .leaf) .any (.node .leaf .any .leaf))) .any (.node (.node (.node .leaf .any .leaf) .any (.node .leaf .any .leaf)) .any (.node (.node .leaf .any .leaf) .any (.node .leaf .any .leaf)))) (.i .i64 (b : Nat)) (.node (.node (.node (.node .leaf .any .leaf) .any (.node .leaf .any .leaf)) .any (.node (.node .leaf .any .leaf) .any (.node .leaf .any .leaf))) .any (.node (.node (.node .leaf .any .leaf) (.i .i64 (kids.length : Nat)) (.node .leaf .any .leaf)) .any (.node (.node .leaf .any .leaf) .any (.node .leaf .any .leaf)))))) .any (.node (.node (.node (.node (.node (.node .leaf .any .leaf) .any (.node .leaf .any .leaf)) .any (.node (.node .leaf .any .leaf) .any (.node .leaf .any .leaf))) .any (.node (.node (.node .leaf .any .leaf) .any (.node .leaf .any .leaf)) .any (.node (.node .leaf .any .leaf) .any (.node .leaf .any .leaf)))) (.s li) (.node (.node (.node (.node .leaf .any .leaf) .any (.node .leaf .any .leaf)) .any (.node (.node .leaf .any .leaf) .any (.node .leaf .any .leaf))) .any (.node (.node (.node .leaf .any .leaf) (.sl ys kids.length tk0) (.node .leaf .any .leaf)) .any (.node (.node .leaf .any .leaf) .any (.node .leaf .any .leaf))))) .any (.node (.node (.node (.node (.node .leaf .any .leaf) .any (.node .leaf .any .leaf)) .any (.node (.node .leaf .any .leaf) .any (.node .leaf .any .leaf))) .any (.node (.node (.node .leaf .any .leaf) .any (.node .leaf .any .leaf)) .any (.node (.node .leaf .any .leaf) .any (.node .leaf .any .leaf)))) (v) (.node (.node (.node (.node .leaf .any .leaf) .any (.node .leaf .any .leaf)) .any (.node (.node .leaf .any .leaf) .any (.node .leaf .any .leaf))) .any (.node (.node (.node .leaf .any .leaf) (.i .i64 (pre.length : Nat)) (.node .leaf .any .leaf)) .any (.node (.node .leaf .any .leaf) .any (.node .leaf .any .leaf))))))), [], (1, [.i .i64 k, .s nm, .s tx, .sl ys kids.length tk0]) :: l8, h⟩
      (Fin [.tmp 2] (.s (if 1 < kids.length then Lib.join (tellW kids (b + 1)) word else li ++ Lib.join (tellL kids) [44, 32] ++ [41]))) := by
  obtain ⟨m1, m2, m3, m4, m5, m6, m7⟩ := hfi.may
  intro post
  induction post with
  | nil =>
    intro pre l v h l8 hk1 hl hb
    have hkl : kids.length = pre.length := by rw [hk1]; simp
    rw [List.append_nil] at hk1
    have hll : l.length = kids.length := by rw [hl, tellW_len, hkl]
    have e1 : decide ((pre.length : Int) < (kids.length : Int)) = false := decide_eq_false (by omega)
    rw [UH38_1]
    by_cases hk2 : 1 < kids.length
    · rw [if_pos hk2]
      rcases hb with ⟨rfl, rfl⟩ | ⟨hne, id, rfl, hid, ho⟩
      · simp only [List.length_nil] at hll; omega
      · have e2 : decide ((1 : Int) < (l.length : Int)) = true := decide_eq_true (by omega)
        have yj : Y_tell 66 [.hs id 0 l.length 1, .s word] h = some (.s (Lib.join l word), h) := H_JoinH word ho rfl (by omega) (by
          rw [hl]; have := tellW_le pre (b + 1) word (by omega) (hk1 ▸ m7); rw [hk1] at m6; omega)
        have hjl : Lib.join l word = Lib.join (tellW kids (b + 1)) word := by rw [hl, hk1]
        rw [hjl] at yj
        simp only [e1, e2, yj, K38_1, go_sem, ne_eq, not_false_eq_true, reduceIte, Nat.reduceMul, Nat.reduceAdd, Nat.reduceSub, Nat.reduceEqDiff, Nat.reduceLeDiff, Nat.reduceLT, List.take_succ_cons, List.take_zero, List.drop_succ_cons, List.cons_append]
    · rw [if_neg hk2]
      have key := fun x1 x3 x5 x44 x45 x46 => w_t2 S kids ys tk0 hy d (hfi.kid) hD li hli gl l hll (by omega) v h hb ((1, [.i .i64 k, .s nm, .s tx, .sl ys kids.length tk0]) :: l8) x1 x3 x5 x44 x45 x46
      rcases hb with ⟨rfl, rfl⟩ | ⟨hne, id, rfl, hid, ho⟩
      · have e2 : decide ((1 : Int) < 0) = false := by decide
        simp only [e1, e2, K38_1, Int.cast_ofNat_Int, Int.natCast_zero, go_sem, ne_eq, not_false_eq_true, reduceIte, Nat.reduceMul, Nat.reduceAdd, Nat.reduceSub, Nat.reduceEqDiff, Nat.reduceLeDiff, Nat.reduceLT, List.take_succ_cons, List.take_zero, List.drop_succ_cons, List.cons_append]
        rw [Hp.M_loop]
        simp only [kz38, K38_2, List.length_cons, List.length_nil, go_sem, ne_eq, not_false_eq_true, reduceIte, Nat.reduceMul, Nat.reduceAdd, Nat.reduceSub, Nat.reduceEqDiff, Nat.reduceLeDiff, Nat.reduceLT, List.take_succ_cons, List.take_zero, List.drop_succ_cons, List.cons_append] at key ⊢
        exact key _ _ _ _ _ _
      · have e2 : decide ((1 : Int) < (l.length : Int)) = false := decide_eq_false (by omega)
        simp only [e1, e2, K38_1, go_sem, ne_eq, not_false_eq_true, reduceIte, Nat.reduceMul, Nat.reduceAdd, Nat.reduceSub, Nat.reduceEqDiff, Nat.reduceLeDiff, Nat.reduceLT, List.take_succ_cons, List.take_zero, List.drop_succ_cons, List.cons_append]
        rw [Hp.M_loop]
        simp only [kz38, K38_2, List.length_cons, List.length_nil, go_sem, ne_eq, not_false_eq_true, reduceIte, Nat.reduceMul, Nat.reduceAdd, Nat.reduceSub, Nat.reduceEqDiff, Nat.reduceLeDiff, Nat.reduceLT, List.take_succ_cons, List.take_zero, List.drop_succ_cons, List.cons_append] at key ⊢
        exact key _ _ _ _ _ _
  | cons f post ih =>
    intro pre l v h l8 hk1 hl hb
    have hkl : kids.length = pre.length + post.length + 1 := by rw [hk1]; simp; omega
    have hll : l.length = pre.length := by rw [hl, tellW_len]
    have e1 : decide ((pre.length : Int) < (kids.length : Int)) = true := decide_eq_true (by omega)
    have g1 : pre.length < kids.length := by omega
    have hyl := hy.len
    have g2 : (pre.length + 1) * 4 ≤ kids.length * 4 := by omega
    obtain ⟨c, hc, ht⟩ := hy.split pre f post hk1
    have w1 : wr .i64 ((b : Int) + 1) = ((b + 1 : Nat) : Int) := by rw [wr64] <;> omega
    have w2 : wr .i64 ((pre.length : Int) + 1) = ((pre.length + 1 : Nat) : Int) := by rw [wr64] <;> omega
    have y1 : X_tell 65 [.agg c, .i .i64 ((b + 1 : Nat) : Int)] = some (.s (withinF f (b + 1))) := call_within (s_within S) hc (hfi.kid pre f post hk1) hD (by omega)
    obtain ⟨nx, obs, nt, tips⟩ := h
    obtain ⟨v', h', hap, hb'⟩ := hb.step (withinF f (b + 1)) (by unfold most; omega)
    have hl' : l ++ [withinF f (b + 1)] = tellW (pre ++ [f]) (b + 1) := by rw [tellW_app, tellW_one, hl]
    have hb2 := hb'
    rcases hb' with ⟨h0, _⟩ | ⟨_, id', rfl, _, _⟩
    · simp at h0
    · have := fun l8 => ih (pre ++ [f]) _ _ h' l8 (by rw [hk1]; simp) hl' hb2
      rw [UH38_1]
      cases hc with | mk k1 nm1 tx1 kids1 xs1 n1 tk1 hn1 hx1 =>
      rcases hb with ⟨rfl, rfl⟩ | ⟨hne, id, rfl, hid, ho⟩
      · simp only [e1, g1, hyl, g2, rd_ip, ht, w1, w2, y1, k_bsliceT, hap, splice, Int.cast_ofNat_Int, go_sem, ne_eq, not_false_eq_true, reduceIte, Nat.reduceMul, Nat.reduceAdd, Nat.reduceSub, Nat.reduceEqDiff, Nat.reduceLeDiff, Nat.reduceLT, List.take_succ_cons, List.take_zero, List.drop_succ_cons, List.cons_append]
        rw [Hp.M_loop]
        simp only [kz38, K38_1, List.length_append, List.length_cons, List.length_nil, Nat.zero_add, go_sem, ne_eq, not_false_eq_true, reduceIte, Nat.reduceMul, Nat.reduceAdd, Nat.reduceSub, Nat.reduceEqDiff, Nat.reduceLeDiff, Nat.reduceLT, List.take_succ_cons, List.take_zero, List.drop_succ_cons, List.cons_append] at this ⊢
        exact this _
      · simp only [e1, g1, hyl, g2, rd_ip, ht, w1, w2, y1, k_bsliceT, hap, splice, Int.cast_ofNat_Int, go_sem, ne_eq, not_false_eq_true, reduceIte, Nat.reduceMul, Nat.reduceAdd, Nat.reduceSub, Nat.reduceEqDiff, Nat.reduceLeDiff, Nat.reduceLT, List.take_succ_cons, List.take_zero, List.drop_succ_cons, List.cons_append]
        rw [Hp.M_loop]
        simp only [kz38, K38_1, List.length_append, List.length_cons, List.length_nil, Nat.zero_add, go_sem, ne_eq, not_false_eq_true, reduceIte, Nat.reduceMul, Nat.reduceAdd, Nat.reduceSub, Nat.reduceEqDiff, Nat.reduceLeDiff, Nat.reduceLT, List.take_succ_cons, List.take_zero, List.drop_succ_cons, List.cons_append] at this ⊢
        exact this _
set_option maxRecDepth 100000 in
set_option maxHeartbeats 1000000 in
theorem s_tell (S : S_tell D) : S_tell (D + 1) := by
  intro f c d hf hfi hD
  have hs := FilR.strip f c hf
  refine Hp.comp_of (kz := kz38) t_tell u_tell (fn := af38) rfl (Nat.le_of_ble_eq_true rfl) fun gl => ?_
  show Hp.M _ _ _ (.code B38) _ (St.init gl 7 [.agg (stripL c)] _) (Fin [.tmp 2] _)
  rw [UH38]
  generalize stripL c = c2 at hs
  clear hf c
  cases hs with | mk k nm tx kids xs n tk hn hx =>
  subst hn
  obtain ⟨m1, m2, m3, m4, m5, m6, m7⟩ := hfi.may
  obtain ⟨q1, q2, q3⟩ := may_kind m1
  have y1 : X_tell 12 [.s tx] = some (.s (quoteV tx)) := F_Quote1 tx (by omega)
  have hql := quoteV_len tx
  rw [tellF]
  by_cases k0 : k = 0
  · have d0 : decide (k = 0) = true := decide_eq_true k0
    rw [if_pos k0]
    simp only [d0, go_sem, ne_eq, not_false_eq_true, reduceIte, Nat.reduceMul, Nat.reduceAdd, Nat.reduceSub, Nat.reduceEqDiff, Nat.reduceLeDiff, Nat.reduceLT, List.take_succ_cons, List.take_zero, List.drop_succ_cons, List.cons_append]
  · have d0 : decide (k = 0) = false := decide_eq_false k0
    rw [if_neg k0]
    by_cases k1 : k = 1
    · have d1 : decide (k = 1) = true := decide_eq_true k1
      have g1 : 6 + (quoteV tx).length ≤ 4611686018427387904 := by omega
      rw [if_pos k1]
      generalize quoteV tx = q at *
      simp only [d0, d1, y1, g1, go_sem, ne_eq, not_false_eq_true, reduceIte, Nat.reduceMul, Nat.reduceAdd, Nat.reduceSub, Nat.reduceEqDiff, Nat.reduceLeDiff, Nat.reduceLT, List.take_succ_cons, List.take_zero, List.drop_succ_cons, List.cons_append]
    · have d1 : decide (k = 1) = false := decide_eq_false k1
      rw [if_neg k1]
      by_cases k2 : k = 2
      · have d2 : decide (k = 2) = true := decide_eq_true k2
        have g1 : nm.length + 3 ≤ 4611686018427387904 := by omega
        have g2 : nm.length + 3 + (quoteV tx).length ≤ 4611686018427387904 := by omega
        rw [if_pos k2]
        generalize quoteV tx = q at *
        simp only [d0, d1, d2, y1, g1, g2, List.length_append, go_sem, ne_eq, not_false_eq_true, reduceIte, Nat.reduceMul, Nat.reduceAdd, Nat.reduceSub, Nat.reduceEqDiff, Nat.reduceLeDiff, Nat.reduceLT, List.take_succ_cons, List.take_zero, List.drop_succ_cons, List.cons_append]
      · have d2 : decide (k = 2) = false := decide_eq_false k2
        rw [if_neg k2]
        by_cases k3 : k = 3
        · have d3 : decide (k = 3) = true := decide_eq_true k3
          rw [if_pos k3]
          simp only [d0, d1, d2, d3, go_sem, ne_eq, not_false_eq_true, reduceIte, Nat.reduceMul, Nat.reduceAdd, Nat.reduceSub, Nat.reduceEqDiff, Nat.reduceLeDiff, Nat.reduceLT, List.take_succ_cons, List.take_zero, List.drop_succ_cons, List.cons_append]
        · have d3 : decide (k = 3) = false := decide_eq_false k3
          rw [if_neg k3]
          by_cases k4 : k = 4
          · have d4 : decide (k = 4) = true := decide_eq_true k4
            rw [if_pos k4]
            obtain ⟨g, rfl⟩ : ∃ g, kids = [g] := by
              match kids, q3 k4 with
              | [g], _ => exact ⟨g, rfl⟩
            have hfk := hfi.kid [] g [] rfl
            obtain ⟨c, hc, ht⟩ := hx.split [] g [] rfl
            have y2 : X_tell 65 [.agg c, .i .i64 ((3 : Nat) : Int)] = some (.s (withinF g 3)) := call_within (s_within S) hc hfk (by omega) (by omega)
            have hwl : (withinF g 3).length ≤ 1300002 := by
              have := hfk.len
              unfold withinF
              split
              · simp only [List.length_append, List.length_cons, List.length_nil]; omega
              · omega
            have hyl := hx.len
            have g3 : 4 ≤ xs.length := by simp only [List.length_cons, List.length_nil] at hyl; omega
            rw [tellW_one, List.headD_cons]
            generalize withinF g 3 = w at *
            have g1 : 4 + w.length ≤ 4611686018427387904 := by omega
            cases hc with | mk k1 nm1 tx1 kids1 xs1 n1 tk1 hn1 hx1 =>
            simp only [List.length_cons, List.length_nil, Nat.zero_add, Nat.zero_mul, Nat.one_mul, List.drop_zero, Int.cast_ofNat_Int] at hyl ht y2 ⊢
            simp only [d0, d1, d2, d3, d4, hyl, g3, rd_ip, ht, y2, g1, Int.cast_ofNat_Int, go_sem, ne_eq, not_false_eq_true, reduceIte, Nat.reduceMul, Nat.reduceAdd, Nat.reduceSub, Nat.reduceEqDiff, Nat.reduceLeDiff, Nat.reduceLT, List.take_succ_cons, List.take_zero, List.drop_succ_cons, List.cons_append]
          · have d4 : decide (k = 4) = false := decide_eq_false k4
            rw [if_neg k4]
            by_cases k5 : k = 5
            · have d5 : decide (k = 5) = true := decide_eq_true k5
              have key := w_t1 S k nm tx kids xs tk hx d hfi (by omega) [32, 97, 110, 100, 32] [101, 97, 99, 104, 40] (.inr rfl) (.inr rfl) 2 (by decide) gl kids [] [] (.sl [] 0 .nil) ⟨0, [], 0, []⟩ [] rfl (by rw [tellW]) (.inl ⟨rfl, rfl⟩)
              rw [if_pos k5, if_pos k5, if_pos k5]
              simp only [d0, d1, d2, d3, d4, d5, splice, go_sem, ne_eq, not_false_eq_true, reduceIte, Nat.reduceMul, Nat.reduceAdd, Nat.reduceSub, Nat.reduceEqDiff, Nat.reduceLeDiff, Nat.reduceLT, List.take_succ_cons, List.take_zero, List.drop_succ_cons, List.cons_append]
              rw [Hp.M_loop]
              simp only [kz38, K38_1, List.length_cons, List.length_nil, Int.cast_ofNat_Int, Int.natCast_zero, go_sem, ne_eq, not_false_eq_true, reduceIte, Nat.reduceMul, Nat.reduceAdd, Nat.reduceSub, Nat.reduceEqDiff, Nat.reduceLeDiff, Nat.reduceLT, List.take_succ_cons, List.take_zero, List.drop_succ_cons, List.cons_append] at key ⊢
              exact key
            · have d5 : decide (k = 5) = false := decide_eq_false k5
              have key := w_t1 S k nm tx kids xs tk hx d hfi (by omega) [32, 111, 114, 32] [97, 110, 121, 40] (.inl rfl) (.inl rfl) 1 (by decide) gl kids [] [] (.sl [] 0 .nil) ⟨0, [], 0, []⟩ [] rfl (by rw [tellW]) (.inl ⟨rfl, rfl⟩)
              rw [if_neg k5, if_neg k5, if_neg k5]
              simp only [d0, d1, d2, d3, d4, d5, splice, go_sem, ne_eq, not_false_eq_true, reduceIte, Nat.reduceMul, Nat.reduceAdd, Nat.reduceSub, Nat.reduceEqDiff, Nat.reduceLeDiff, Nat.reduceLT, List.take_succ_cons, List.take_zero, List.drop_succ_cons, List.cons_append]
              rw [Hp.M_loop]
              simp only [kz38, K38_1, List.length_cons, List.length_nil, Int.cast_ofNat_Int, Int.natCast_zero, go_sem, ne_eq, not_false_eq_true, reduceIte, Nat.reduceMul, Nat.reduceAdd, Nat.reduceSub, Nat.reduceEqDiff, Nat.reduceLeDiff, Nat.reduceLT, List.take_succ_cons, List.take_zero, List.drop_succ_cons, List.cons_append] at key ⊢
              exact key
theorem s_tell_all : ∀ D, S_tell D
  | 0 => fun f c d _ hfi h => by
    obtain ⟨w, h1, h2⟩ := hfi.b
    cases f with | mk k nm tx kids =>
    have := hfi.may
    omega
  | D + 1 => s_tell (s_tell_all D)
end
end Go.Proofs.YtbhclhgljnoioaaDoor
set_option linter.unusedSimpArgs false
set_option linter.unusedVariables false
namespace Go.Proofs.YtbhclhgljnoioaaDoor
open Ai Go.Shelf
theorem bind3 {k : Int} {n : Nat} (h : 0 ≤ k ∧ k ≤ 6) : bindV k n < 3 ↔ 4 < k ∧ 1 < n := by
  unfold bindV
  split
  · omega
  · split <;> omega
theorem cnts_app (a b : List Fil) : cnts (a ++ b) = cnts a + cnts b := by
  induction a with
  | nil => rw [List.nil_append, cnts, Nat.zero_add]
  | cons f r ih => rw [List.cons_append, cnts, cnts, ih, Nat.add_assoc]
/-! ### several -/
/-! ### tell -/
section
variable {D : Nat}
end
end Go.Proofs.YtbhclhgljnoioaaDoor
set_option linter.unusedSimpArgs false
set_option linter.unusedVariables false
namespace Go.Proofs.YtbhclhgljnoioaaDoor
open Ai Go.Shelf
section
variable {D : Nat}
end
/-! ### Print -/
def printV (f : Fil) : List UInt8 := if chk f = 0 then tellF f else []
theorem fine1 {f : Fil} (h : okL f) (hc : chk f = 0) : Fine f 1 := ⟨h, 0, by decide, hc⟩
def R_print (a : List V) (v : V) : Prop := ∀ (f : Fil) (c : List V), a = [.agg c] → FilR f c → v = .tup [.s (printV f), .i .i64 (chk f : Nat)]
noncomputable def F_print : List V → Option V := pickP 16 R_print
theorem o_print : ∀ a v, F_print a = some v → Comp tabx told 16 a v := pickP_tells
noncomputable def X_print := xs [(18, F_check), (38, F_tell)]
theorem t_print : Tells tabx told X_print := tells_cons o_check (tells_cons pickP_tells tells_nil)
theorem U16 : type_of% (@M_open _ _ B16.eq_1) := @M_open _ _ B16.eq_1
def kz16 (_ : Nat) : List Nat := []
theorem c_print (f : Fil) (c : List V) (hf : FilR f c) (hok : okL f) : Comp tabx told 16 [.agg c] (.tup [.s (printV f), .i .i64 (chk f : Nat)]) := by
  have hs := FilR.strip f c hf
  refine comp_of (kz := kz16) t_print (fn := af16) rfl (Nat.le_of_ble_eq_true rfl) fun gl => ?_
  show M _ _ (.code B16) _ (St.init gl 4 [.agg (stripL c)] _) (Fin [.tmp 2, .tmp 3] _)
  rw [U16]
  have y1 : X_print 18 [.agg (stripL c)] = some (.i .i64 (chk f : Nat)) := check_eq f _ hs
  have y2 : chk f = 0 → X_print 38 [.agg (stripL c)] = some (.s (tellF f)) := fun h => call_tell (s_tell_all 8) hs (fine1 hok h) (by decide)
  unfold printV
  generalize stripL c = c2 at hs y1 y2
  generalize tellF f = t at *
  generalize chk f = e at *
  cases hs with | mk k nm tx kids xs n tk hn hx =>
  by_cases he : e = 0
  · have y2 := y2 he
    subst he
    have f0 : decide (((0 : Nat) : Int) = 0) = true := by decide
    rw [if_pos rfl]
    simp only [y1, y2, f0, go_sem, ne_eq, not_false_eq_true, reduceIte, Nat.reduceMul, Nat.reduceAdd, Nat.reduceSub, Nat.reduceEqDiff, Nat.reduceLeDiff, Nat.reduceLT, List.take_succ_cons, List.take_zero, List.drop_succ_cons, List.cons_append]
    rfl
  · have f1 : decide ((e : Int) = 0) = false := decide_eq_false (by omega)
    rw [if_neg he]
    simp only [y1, f1, go_sem, ne_eq, not_false_eq_true, reduceIte, Nat.reduceMul, Nat.reduceAdd, Nat.reduceSub, Nat.reduceEqDiff, Nat.reduceLeDiff, Nat.reduceLT, List.take_succ_cons, List.take_zero, List.drop_succ_cons, List.cons_append]
theorem R_print_ok {f : Fil} {c : List V} (hf : FilR f c) : R_print [.agg c] (.tup [.s (printV f), .i .i64 (chk f : Nat)]) := by
  intro f' c' e1 hf'
  simp only [List.cons.injEq, V.agg.injEq, and_true] at e1
  subst e1
  rw [← FilR.uniq f f' c hf hf']
theorem print_eq (f : Fil) (c : List V) (hf : FilR f c) (hok : okL f) : F_print [.agg c] = some (.tup [.s (printV f), .i .i64 (chk f : Nat)]) := by
  obtain ⟨v, e1, r⟩ := pickP_spec (R := R_print) (c_print f c hf hok) (R_print_ok hf)
  rw [r f c rfl hf] at e1
  exact e1
end Go.Proofs.YtbhclhgljnoioaaDoor
set_option linter.unusedSimpArgs false
set_option linter.unusedVariables false
namespace Go.Proofs.YtbhclhgljnoioaaDoor
open Ai Go.Shelf
/-! ### The examples: what Print is handed there is told -/
def exF : Fil := .mk 5 [] [] [.mk 1 [] [97] [], .mk 4 [] [] [.mk 2 [110] [53] []]]
def exC : List V := [.i .i64 5, .s [], .s [], .sl [.i .i64 1, .s [], .s [97], .sl [] 0 .nil, .i .i64 4, .s [], .s [], .sl [.i .i64 2, .s [110], .s [53], .sl [] 0 .nil] 1 .full] 2 .no]
def exT : List UInt8 := [107, 101, 121, 32, 94, 32, 34, 97, 34, 32, 97, 110, 100, 32, 110, 111, 116, 32, 110, 32, 61, 32, 34, 53, 34]
theorem exR : FilR exF exC := by
  refine .mk _ _ _ _ _ _ _ rfl (.cons _ _ [.i .i64 1, .s [], .s [97], .sl [] 0 .nil] _ (.mk _ _ _ _ _ _ _ rfl .nil) (.cons _ _ [.i .i64 4, .s [], .s [], .sl [.i .i64 2, .s [110], .s [53], .sl [] 0 .nil] 1 .full] _ (.mk _ _ _ _ _ _ _ rfl ?_) .nil))
  exact .cons _ _ [.i .i64 2, .s [110], .s [53], .sl [] 0 .nil] _ (.mk _ _ _ _ _ _ _ rfl .nil) .nil
theorem exOk : okL exF := by
  simp only [exF, okL, okLs, List.length_cons, List.length_nil, and_true]
  decide
theorem exV : printV exF = exT ∧ chk exF = 0 := by decide +kernel
def tabA (g : FuncId) : Option AFunc := bif Nat.beq g 16 then none else tabx g
def xfA (g : FuncId) (a : List V) : Option V := bif Nat.beq g 16 then memo [([.agg exC], .tup [.s exT, .i .i64 0])] a else xf g a
theorem tabA_le : ∀ g fn, tabA g = some fn → tabx g = some fn := fun g fn h => by
  unfold tabA at h
  cases hb : Nat.beq g 16 with
  | true => rw [hb] at h; cases h
  | false => rw [hb] at h; exact h
theorem tellsA : Tells tabx told xfA := fun g a v h => by
  unfold xfA at h
  cases hb : Nat.beq g 16 with
  | true =>
    rw [hb] at h
    have := Nat.eq_of_beq_eq_true hb
    subst this
    have hm := memo_mem h
    simp only [List.mem_singleton, Prod.mk.injEq] at hm
    obtain ⟨rfl, rfl⟩ := hm
    have := c_print exF exC exR exOk
    rw [exV.1, exV.2] at this
    exact this
  | false => rw [hb] at h; exact comp_prim h
theorem r_awake : runF gl0 tabA xfA 20000 14 [] = some (.b true) := by kernel_rfl
theorem c_awake : Comp tabx told 14 [] (.b true) := comp_runM tabA_le tellsA 20000 fun gl h => by
  have : gl = gl0 := h
  rw [this]; exact r_awake
def F_awake (a : List V) : Option V := match a with
  | [] => some (.b true)
  | _ => none
theorem o_awake : ∀ a v, F_awake a = some v → Comp tabx told 14 a v := fun a v e => by
  unfold F_awake at e
  split at e
  · cases e; exact c_awake
  · cases e
/-! ### The law -/
/-! ### Arguments -/
end Go.Proofs.YtbhclhgljnoioaaDoor
set_option linter.unusedSimpArgs false
set_option linter.unusedVariables false
namespace Go.Proofs.YtbhclhgljnoioaaDoor
open Ai
/-- A type that is Filter's shape. -/
structure FilT (P : Program) (F I T S : TypeId) : Prop where
  f : ∃ fs : Array Field, P.underlying F = some (.struct fs) ∧ fs.toList.map Field.type = [I, T, T, S]
  i : P.underlying I = some (.int .i64)
  t : P.underlying T = some .string
  s : P.underlying S = some (.slice F)
section
variable {P : Program} {F I T S : TypeId}
end
end Go.Proofs.YtbhclhgljnoioaaDoor
set_option linter.unusedSimpArgs false
set_option linter.unusedVariables false
namespace Go.Proofs.YtbhclhgljnoioaaDoor
open Ai Go.Shelf
abbrev TK := Nat × List UInt8
def Tok.kt (t : Tok) : TK := (t.kind, t.text)
/-- A word is not gone on with. -/
def stopB (t : List UInt8) : Prop := ∀ c r, t = c :: r → letB c.toNat = false
theorem stop_nil : stopB [] := fun c r e => by cases e
theorem stop_cons {c : UInt8} {r : List UInt8} (h : letB c.toNat = false) : stopB (c :: r) := fun c' r' e => by cases e; exact h
/-- The tokens of a text, whatever comes behind it; or whatever comes that is no letter. -/
def LxF (s : List UInt8) (l : List TK) : Prop := ∀ (t : List UInt8) (k : Nat) (m : List Tok), lx t (k + s.length) = .ok m → ∃ m', lx (s ++ t) k = .ok (m' ++ m) ∧ m'.map Tok.kt = l
def LxS (s : List UInt8) (l : List TK) : Prop := ∀ (t : List UInt8) (k : Nat) (m : List Tok), stopB t → lx t (k + s.length) = .ok m → ∃ m', lx (s ++ t) k = .ok (m' ++ m) ∧ m'.map Tok.kt = l
section
variable {s s' : List UInt8} {l l' : List TK}
theorem LxF.st (h : LxF s l) : LxS s l := fun t k m _ hm => h t k m hm
theorem LxF.app (h : LxF s l) (g : LxF s' l') : LxF (s ++ s') (l ++ l') := by
  intro t k m hm
  rw [List.length_append, ← Nat.add_assoc] at hm
  obtain ⟨m1, e1, q1⟩ := g t (k + s.length) m hm
  obtain ⟨m2, e2, q2⟩ := h (s' ++ t) k (m1 ++ m) e1
  exact ⟨m2 ++ m1, by rw [List.append_assoc, e2, List.append_assoc], by rw [List.map_append, q1, q2]⟩
theorem LxF.appS (h : LxF s l) (g : LxS s' l') : LxS (s ++ s') (l ++ l') := by
  intro t k m ht hm
  rw [List.length_append, ← Nat.add_assoc] at hm
  obtain ⟨m1, e1, q1⟩ := g t (k + s.length) m ht hm
  obtain ⟨m2, e2, q2⟩ := h (s' ++ t) k (m1 ++ m) e1
  exact ⟨m2 ++ m1, by rw [List.append_assoc, e2, List.append_assoc], by rw [List.map_append, q1, q2]⟩
theorem LxS.app (h : LxS s l) (g : LxF s' l') (hs : ∀ t, stopB (s' ++ t)) : LxF (s ++ s') (l ++ l') := by
  intro t k m hm
  rw [List.length_append, ← Nat.add_assoc] at hm
  obtain ⟨m1, e1, q1⟩ := g t (k + s.length) m hm
  obtain ⟨m2, e2, q2⟩ := h (s' ++ t) k (m1 ++ m) (hs t) e1
  exact ⟨m2 ++ m1, by rw [List.append_assoc, e2, List.append_assoc], by rw [List.map_append, q1, q2]⟩
end
theorem lx_sp1 : LxF [32] [] := by
  intro t k m hm
  refine ⟨[], ?_, rfl⟩
  rw [List.singleton_append, lx_cons, if_pos rfl]
  exact hm
theorem lx_sgn (c : UInt8) (h : sgnB c.toNat = true) : LxF [c] [(4, [c])] := by
  intro t k m hm
  have h1 : c.toNat = 40 ∨ c.toNat = 41 ∨ c.toNat = 61 ∨ c.toNat = 94 ∨ c.toNat = 60 ∨ c.toNat = 62 ∨ c.toNat = 44 := by
    simp only [sgnB, Bool.or_eq_true, beq_iff_eq] at h; exact h
  have ne : ∀ d : UInt8, c = d → c.toNat = d.toNat := fun d e => by rw [e]
  have hl : letB c.toNat = false := by simp only [letB, Bool.and_eq_false_iff, decide_eq_false_iff_not]; omega
  have hd : digB c.toNat = false := by simp only [digB, Bool.and_eq_false_iff, decide_eq_false_iff_not]; omega
  refine ⟨[⟨4, [c], k⟩], ?_, rfl⟩
  rw [List.singleton_append, lx_cons, if_neg (fun e => by have := ne _ e; rw [show (32 : UInt8).toNat = 32 from rfl] at this; omega), if_neg (fun e => by have := ne _ e; rw [show (34 : UInt8).toNat = 34 from rfl] at this; omega),
    if_neg (by rw [hl]; decide), if_neg (by rw [hd]; decide), if_neg (fun e => by have := ne _ e.1; rw [show (45 : UInt8).toNat = 45 from rfl] at this; omega), if_pos h]
  have hm : lx t (k + 1) = .ok m := hm
  rw [hm]; rfl
theorem wh_all {p : Nat → Bool} {t : List UInt8} (ht : ∀ c r, t = c :: r → p c.toNat = false) : ∀ r : List UInt8, (r.all fun c => p c.toNat) = true → wh p (r ++ t) = r.length := by
  intro r
  induction r with
  | nil =>
    intro _
    cases t with
    | nil => rfl
    | cons c u => rw [List.nil_append, wh, ht c u rfl]; rfl
  | cons a r ih =>
    intro h
    rw [List.all_cons, Bool.and_eq_true] at h
    rw [List.cons_append, wh, h.1, cond_true, ih h.2, List.length_cons]
theorem lx_word (w : List UInt8) (hne : w ≠ []) (ha : (w.all fun c => letB c.toNat) = true) : LxS w [(1, w)] := by
  intro t k m ht hm
  cases w with
  | nil => exact absurd rfl hne
  | cons a r =>
    rw [List.all_cons, Bool.and_eq_true] at ha
    have hr := wh_all ht r ha.2
    have hl := ha.1
    simp only [letB, Bool.and_eq_true, decide_eq_true_eq] at hl
    have ne : ∀ d : UInt8, a = d → a.toNat = d.toNat := fun d e => by rw [e]
    refine ⟨[⟨1, a :: r, k⟩], ?_, rfl⟩
    rw [List.cons_append, lx_cons, if_neg (fun e => by have := ne _ e; rw [show (32 : UInt8).toNat = 32 from rfl] at this; omega), if_neg (fun e => by have := ne _ e; rw [show (34 : UInt8).toNat = 34 from rfl] at this; omega), if_pos ha.1, hr,
      List.drop_left, List.take_left]
    rw [List.length_cons, show k + (r.length + 1) = k + 1 + r.length by omega] at hm
    rw [hm]; rfl
theorem lx_quo (l : List UInt8) : LxF (quoteV l) [(2, txt l)] := by
  intro t k m hm
  refine ⟨[⟨2, txt l, k⟩], ?_, rfl⟩
  unfold quoteV at hm ⊢
  have e : 34 :: ((rns l).flatMap qt ++ [34]) ++ t = 34 :: ((rns l).flatMap qt ++ 34 :: t) := by simp
  have hq := qscan_quote (rns l) (rns_oks l) t [] 1
  rw [e, lx_cons, if_neg (by decide), if_pos rfl, hq]
  dsimp only
  have e2 : ((rns l).flatMap qt ++ 34 :: t).drop (1 + ((rns l).flatMap qt).length + 1 - 1) = t := by
    rw [show 1 + ((rns l).flatMap qt).length + 1 - 1 = ((rns l).flatMap qt).length + 1 by omega, ← List.drop_drop, List.drop_left]; rfl
  rw [e2]
  simp only [List.length_cons, List.length_append, List.length_nil] at hm
  rw [show k + (1 + ((rns l).flatMap qt).length + 1) = k + (((rns l).flatMap qt).length + (0 + 1) + 1) by omega, hm, List.nil_append]
  rfl
theorem txt_plain (l : List UInt8) : (rns l).all plain = true → txt l = l := by
  induction l using rune_ind with
  | h0 => intro _; simp [txt, rns_nil]
  | h1 a r ih =>
    intro h
    rw [rns_cons, List.all_cons, Bool.and_eq_true] at h
    have hb : ¬ ((dec (a :: r)).1 = 65533 ∧ (dec (a :: r)).2 = 1) := by
      intro hh
      have := h.1
      rw [hh.1] at this
      exact absurd this (by decide)
    have := ih h.2
    unfold txt at this ⊢
    rw [rns_cons, List.flatMap_cons, this, enc_dec hb, List.take_append_drop]
theorem val_txt {l : List UInt8} (h : valB l = true) : txt l = l := by
  unfold valB allV at h
  simp only [Bool.and_eq_true] at h
  exact txt_plain l h.2.2
theorem key_txt {l : List UInt8} (h : keyB l = true) : txt l = l := by
  unfold keyB allV at h
  simp only [Bool.and_eq_true] at h
  exact txt_plain l h.2.2
theorem nam_word {l : List UInt8} (h : namB l = true) : LxS l [(1, l)] := by
  have h' : nameV l = true := by rw [← name_eq]; exact h
  unfold nameV at h'
  simp only [Bool.and_eq_true, decide_eq_true_eq] at h'
  refine lx_word l (fun e => by rw [e] at h'; simp at h') ?_
  refine List.all_eq_true.2 fun c hc => ?_
  have := List.all_eq_true.1 h'.2.2 c hc
  unfold az at this
  simp only [Bool.and_eq_true, decide_eq_true_eq] at this
  simp only [letB, Bool.and_eq_true, decide_eq_true_eq]
  omega
/-! ### The tokens of a filter -/
def tjoin : List (List TK) → TK → List TK
  | [], _ => []
  | x :: r, s => x ++ r.flatMap fun y => s :: y
def wAnd : List UInt8 := [97, 110, 100]
def wOr : List UInt8 := [111, 114]
mutual
def tkF : Fil → List TK
  | .mk k nm tx kids =>
    if k = 0 then [(1, [97, 108, 108])] else if k = 1 then [(1, [107, 101, 121]), (4, [94]), (2, tx)] else if k = 2 then [(1, nm), (4, [61]), (2, tx)] else if k = 3 then [(1, [112, 117, 116])] else
    if k = 4 then (1, [110, 111, 116]) :: (tkW kids 3).headD [] else
    if 1 < kids.length then tjoin (tkW kids (if k = 5 then 3 else 2)) (if k = 5 then (1, wAnd) else (1, wOr)) else
    (if k = 5 then (1, [101, 97, 99, 104]) else (1, [97, 110, 121])) :: (4, [40]) :: (tjoin (tkL kids) (4, [44]) ++ [(4, [41])])
def tkW : List Fil → Nat → List (List TK)
  | [], _ => []
  | f :: r, b => (if bindF f < b then (4, [40]) :: (tkF f ++ [(4, [41])]) else tkF f) :: tkW r b
def tkL : List Fil → List (List TK)
  | [] => []
  | f :: r => tkF f :: tkL r
end
def tkWi (f : Fil) (b : Nat) : List TK := if bindF f < b then (4, [40]) :: (tkF f ++ [(4, [41])]) else tkF f
theorem tkW_one (f : Fil) (b : Nat) : tkW [f] b = [tkWi f b] := by rw [tkW, tkW]; rfl
theorem tkW_cons (f : Fil) (r : List Fil) (b : Nat) : tkW (f :: r) b = tkWi f b :: tkW r b := by rw [tkW]; rfl
theorem tellW_cons (f : Fil) (r : List Fil) (b : Nat) : tellW (f :: r) b = withinF f b :: tellW r b := by rw [tellW]; rfl
theorem within_lx {f : Fil} {b : Nat} (h : LxS (tellF f) (tkF f)) : LxS (withinF f b) (tkWi f b) := by
  unfold withinF tkWi
  split
  · have h1 := h.app (lx_sgn 41 (by decide)) (fun t => stop_cons (by decide))
    have h2 := (lx_sgn 40 (by decide)).app h1
    have e : [40] ++ tellF f ++ [41] = [40] ++ (tellF f ++ [41]) := List.append_assoc _ _ _
    rw [e]
    exact h2.st
  · exact h
theorem join_lx {kids : List Fil} (h : ∀ f ∈ kids, LxS (tellF f) (tkF f)) (b : Nat) {sep : List UInt8} {x : TK} (hs : LxF sep [x]) (hst : ∀ t, stopB (sep ++ t)) (hne : kids ≠ []) : LxS (Lib.join (tellW kids b) sep) (tjoin (tkW kids b) x) := by
  induction kids with
  | nil => exact absurd rfl hne
  | cons f r ih =>
    have h1 := within_lx (b := b) (h f (by simp))
    cases r with
    | nil =>
      rw [tellW_one, tkW_one, Lib.join_one, tjoin, List.flatMap_nil, List.append_nil]
      exact h1
    | cons g r =>
      have h2 := ih (fun f hf => h f (by simp [hf])) (by simp)
      rw [tellW_cons, tkW_cons]
      have e1 : Lib.join (withinF f b :: tellW (g :: r) b) sep = withinF f b ++ sep ++ Lib.join (tellW (g :: r) b) sep := by
        rw [tellW_cons]; simp [Lib.join, List.intercalate]
      have e2 : tjoin (tkWi f b :: tkW (g :: r) b) x = tkWi f b ++ [x] ++ tjoin (tkW (g :: r) b) x := by
        rw [tkW_cons]; simp [tjoin]
      rw [e1, e2]
      exact (h1.app hs hst).appS h2
theorem sp_word (w : List UInt8) (hne : w ≠ []) (ha : (w.all fun c => letB c.toNat) = true) : LxF ([32] ++ w ++ [32]) [(1, w)] := by
  have h1 := lx_sp1.appS (lx_word w hne ha)
  have h2 := h1.app lx_sp1 (fun t => stop_cons (by decide))
  simpa using h2
theorem word_sp (w : List UInt8) (hne : w ≠ []) (ha : (w.all fun c => letB c.toNat) = true) : LxF (w ++ [32]) [(1, w)] := by
  have h2 := (lx_word w hne ha).app lx_sp1 (fun t => stop_cons (by decide))
  simpa using h2
theorem tell_lx : ∀ (n : Nat) (f : Fil) (d : Nat), cnt f ≤ n → Fine f d → LxS (tellF f) (tkF f) := by
  intro n
  induction n with
  | zero => intro f d h; cases f; rw [cnt] at h; omega
  | succ n ih =>
    intro f d hn hfi
    cases f with | mk k nm tx kids =>
    rw [cnt] at hn
    have hm := hfi.may.1
    have hkids : ∀ g ∈ kids, LxS (tellF g) (tkF g) := by
      intro g hg
      obtain ⟨pre, post, e⟩ := List.append_of_mem hg
      have hc : cnts kids = cnts pre + (cnt g + cnts post) := by rw [e, cnts_app, cnts]
      exact ih g (d + 1) (by omega) (hfi.kid pre g post e)
    obtain ⟨q1, q2, q3⟩ := may_kind hm
    rw [tellF, tkF]
    by_cases k0 : k = 0
    · rw [if_pos k0, if_pos k0]; exact lx_word _ (by simp) (by decide)
    · rw [if_neg k0, if_neg k0]
      by_cases k1 : k = 1
      · rw [if_pos k1, if_pos k1]
        have hk : keyB tx = true := by
          unfold mayB at hm
          rw [if_neg (by omega), if_pos k1] at hm
          simp only [Bool.and_eq_true] at hm
          exact hm.2.2
        have h1 := (word_sp [107, 101, 121] (by simp) (by decide)).app ((lx_sgn 94 (by decide)).app lx_sp1)
        have h2 := h1.app (lx_quo tx)
        rw [key_txt hk] at h2
        exact h2.st
      · rw [if_neg k1, if_neg k1]
        by_cases k2 : k = 2
        · rw [if_pos k2, if_pos k2]
          have hk : namB nm = true ∧ valB tx = true := by
            unfold mayB at hm
            rw [if_neg (by omega), if_neg k1, if_pos k2] at hm
            simp only [Bool.and_eq_true] at hm
            exact hm.2
          have h1 := (nam_word hk.1).app (lx_sp1.app ((lx_sgn 61 (by decide)).app lx_sp1)) (fun t => stop_cons (by decide))
          have h2 := h1.app (lx_quo tx)
          rw [val_txt hk.2] at h2
          exact h2.st
        · rw [if_neg k2, if_neg k2]
          by_cases k3 : k = 3
          · rw [if_pos k3, if_pos k3]; exact lx_word _ (by simp) (by decide)
          · rw [if_neg k3, if_neg k3]
            by_cases k4 : k = 4
            · rw [if_pos k4, if_pos k4]
              obtain ⟨g, rfl⟩ : ∃ g, kids = [g] := by
                match kids, q3 k4 with
                | [g], _ => exact ⟨g, rfl⟩
              rw [tellW_one, tkW_one]
              exact (word_sp [110, 111, 116] (by simp) (by decide)).appS (within_lx (hkids g (by simp)))
            · rw [if_neg k4, if_neg k4]
              by_cases hl : 1 < kids.length
              · rw [if_pos hl, if_pos hl]
                by_cases k5 : k = 5
                · simp only [if_pos k5]
                  exact join_lx hkids 3 (sp_word [97, 110, 100] (by simp) (by decide)) (fun t => stop_cons (by decide)) (by intro e; rw [e] at hl; simp at hl)
                · simp only [if_neg k5]
                  exact join_lx hkids 2 (sp_word [111, 114] (by simp) (by decide)) (fun t => stop_cons (by decide)) (by intro e; rw [e] at hl; simp at hl)
              · rw [if_neg hl, if_neg hl]
                have hin : LxS (Lib.join (tellL kids) [44, 32]) (tjoin (tkL kids) (4, [44])) := by
                  match kids, hkids, hl with
                  | [], _, _ =>
                    rw [tellL, tkL, Lib.join_nil, tjoin]
                    intro t k m _ h; exact ⟨[], h, rfl⟩
                  | [g], hk, _ =>
                    rw [tellL, tellL, tkL, tkL, Lib.join_one, tjoin, List.flatMap_nil, List.append_nil]
                    exact hk g (by simp)
                  | _ :: _ :: _, _, h => exact absurd (by simp) h
                have h2 := hin.app (lx_sgn 41 (by decide)) (fun t => stop_cons (by decide))
                by_cases k5 : k = 5
                · simp only [if_pos k5]
                  have h1 := (lx_word [101, 97, 99, 104] (by simp) (by decide)).app (lx_sgn 40 (by decide)) (fun t => stop_cons (by decide))
                  have h3 := h1.app h2
                  rw [← List.append_assoc] at h3
                  exact h3.st
                · simp only [if_neg k5]
                  have h1 := (lx_word [97, 110, 121] (by simp) (by decide)).app (lx_sgn 40 (by decide)) (fun t => stop_cons (by decide))
                  have h3 := h1.app h2
                  rw [← List.append_assoc] at h3
                  exact h3.st
theorem lx_tell {f : Fil} {d : Nat} (h : Fine f d) : ∃ ts, lx (tellF f) 0 = .ok ts ∧ ts.map Tok.kt = tkF f := by
  obtain ⟨m', e, q⟩ := tell_lx (cnt f) f d (Nat.le_refl _) h [] 0 [] stop_nil (lx_nil _)
  rw [List.append_nil, List.append_nil] at e
  exact ⟨m', e, q⟩
end Go.Proofs.YtbhclhgljnoioaaDoor
set_option linter.unusedSimpArgs false
set_option linter.unusedVariables false
namespace Go.Proofs.YtbhclhgljnoioaaDoor
open Ai Go.Shelf
/-- These tokens stand there. -/
def At (ts : List Tok) (a : Nat) (l : List TK) : Prop := ∀ i x, l[i]? = some x → ∃ t, ts[a + i]? = some t ∧ t.kt = x
section
variable {ts : List Tok} {e : Nat}
theorem At.tail {a : Nat} {x : TK} {l : List TK} (h : At ts a (x :: l)) : At ts (a + 1) l := fun i y hy => by
  obtain ⟨t, h1, h2⟩ := h (i + 1) y (by simpa using hy)
  exact ⟨t, by rw [← h1]; congr 1; omega, h2⟩
theorem At.left {a : Nat} {l m : List TK} (h : At ts a (l ++ m)) : At ts a l := fun i y hy => by
  have hi := (List.getElem?_eq_some_iff.1 hy).1
  exact h i y (by rw [List.getElem?_append_left hi]; exact hy)
theorem At.right {a : Nat} {l m : List TK} (h : At ts a (l ++ m)) : At ts (a + l.length) m := fun i y hy => by
  obtain ⟨t, h1, h2⟩ := h (l.length + i) y (by rw [List.getElem?_append_right (by omega)]; simpa using hy)
  exact ⟨t, by rw [← h1]; congr 1; omega, h2⟩
theorem At.tok {a : Nat} {x : TK} {l : List TK} (h : At ts a (x :: l)) (e : Nat) : (tokAt ts e a).kind = x.1 ∧ (tokAt ts e a).text = x.2 := by
  obtain ⟨t, h1, h2⟩ := h 0 x rfl
  unfold tokAt
  rw [Nat.add_zero] at h1
  rw [h1, Option.getD_some, ← h2]
  exact ⟨rfl, rfl⟩
theorem At.isT {a : Nat} {x : TK} {l : List TK} (h : At ts a (x :: l)) (e : Nat) (w : List UInt8) : isT ts e a w = (decide (x.1 = 4) && decide (x.2 = w)) := by
  unfold Go.Proofs.YtbhclhgljnoioaaDoor.isT
  rw [(h.tok e).1, (h.tok e).2, strEq_dec]
theorem At.isW {a : Nat} {x : TK} {l : List TK} (h : At ts a (x :: l)) (e : Nat) (w : List UInt8) : isW ts e a w = (decide (x.1 = 1) && decide (x.2 = w)) := by
  unfold Go.Proofs.YtbhclhgljnoioaaDoor.isW
  rw [(h.tok e).1, (h.tok e).2, strEq_dec]
/-- The parser comes to that. -/
def Pr (ts : List Tok) (e : Nat) (q : PQ) (a : Nat) (r : PR) : Prop := ∃ n, P ts e n q a = some r
theorem P_suc (n : Nat) (q : PQ) (a : Nat) : P ts e (n + 1) q a = pstep ts e (P ts e n) q a := rfl
theorem Pr.parse3 {deep a : Nat} {r : PR} (hd : deep ≤ 40) (h : Pr ts e (.unary deep) a r) : Pr ts e (.parse 3 deep) a r := by
  obtain ⟨n, h⟩ := h
  refine ⟨n + 1, ?_⟩
  rw [P_suc]
  simp only [pstep]
  rw [if_neg (by omega), if_pos (by decide)]
  exact h
theorem Pr.lift {b deep a : Nat} {r : PR} (hb : b ≤ 2) (hd : deep ≤ 40) (h : Pr ts e (.parse (b + 1) deep) a r) (hw : isW ts e r.2.2 (wordOf b) = false) : Pr ts e (.parse b deep) a r := by
  obtain ⟨n, h⟩ := h
  refine ⟨n + 1, ?_⟩
  rw [P_suc]
  simp only [pstep]
  rw [if_neg (by omega), if_neg (by omega), h, Option.bind_some, if_pos (.inr hw)]
theorem Pr.many {b deep a a1 : Nat} {f : Fil} {r : PR} (hb : b ≤ 2) (hd : deep ≤ 40) (h : Pr ts e (.parse (b + 1) deep) a (f, 0, a1)) (hw : isW ts e a1 (wordOf b) = true) (k : Pr ts e (.more b deep [f]) a1 r) : Pr ts e (.parse b deep) a r := by
  obtain ⟨n, h⟩ := h
  obtain ⟨m, k⟩ := k
  refine ⟨max n m + 1, ?_⟩
  rw [P_suc]
  simp only [pstep]
  rw [if_neg (by omega), if_neg (by omega), P_mono (Nat.le_max_left n m) h, Option.bind_some, if_neg (by simp [hw])]
  exact P_mono (Nat.le_max_right n m) k
theorem Pr.moreEnd {b deep a : Nat} {acc : List Fil} (hw : isW ts e a (wordOf b) = false) : Pr ts e (.more b deep acc) a (.mk (kindOf b) [] [] acc, 0, a) := by
  refine ⟨1, ?_⟩
  rw [P_suc]
  simp only [pstep]
  rw [if_pos hw]
theorem Pr.moreNext {b deep a a1 : Nat} {acc : List Fil} {f : Fil} {r : PR} (hw : isW ts e a (wordOf b) = true) (h : Pr ts e (.parse (b + 1) deep) (a + 1) (f, 0, a1)) (k : Pr ts e (.more b deep (acc ++ [f])) a1 r) : Pr ts e (.more b deep acc) a r := by
  obtain ⟨n, h⟩ := h
  obtain ⟨m, k⟩ := k
  refine ⟨max n m + 1, ?_⟩
  rw [P_suc]
  simp only [pstep]
  rw [if_neg (by simp [hw]), P_mono (Nat.le_max_left n m) h, Option.bind_some, if_neg (by simp)]
  exact P_mono (Nat.le_max_right n m) k
theorem Pr.word {deep a a1 : Nat} {f : Fil} (hk : (tokAt ts e a).kind = 1) (hn : isT ts e (a + 1) [61] = false) (h : Pr ts e (.word deep) a (f, 0, a1)) : Pr ts e (.unary deep) a (f, 0, a1) := by
  obtain ⟨n, h⟩ := h
  refine ⟨n + 1, ?_⟩
  have h1 : isF ts e a = false := by unfold isF; rw [hn, Bool.and_false]
  have h2 : isT ts e a [40] = false := by unfold isT; rw [hk]; rfl
  rw [P_suc]
  simp only [pstep]
  rw [if_neg (by simp [h1]), if_neg (by simp [h2]), if_neg (by simp [hk]), h, Option.bind_some, if_neg (by simp)]
theorem Pr.paren {deep a a1 : Nat} {f : Fil} (h0 : isF ts e a = false) (h1 : isT ts e a [40] = true) (h : Pr ts e (.parse 1 (deep + 1)) (a + 1) (f, 0, a1)) (h2 : isT ts e a1 [41] = true) : Pr ts e (.unary deep) a (f, 0, a1 + 1) := by
  obtain ⟨n, h⟩ := h
  refine ⟨n + 1, ?_⟩
  rw [P_suc]
  simp only [pstep]
  rw [if_neg (by simp [h0]), if_pos h1, h, Option.bind_some, if_neg (by simp), if_pos h2]
/-- What comes behind does not go on with it. -/
def Stp (ts : List Tok) (e a b : Nat) : Prop := isT ts e a [61] = false ∧ ∀ c, b ≤ c → c ≤ 2 → isW ts e a (wordOf c) = false
theorem Stp.le {a b c : Nat} (h : Stp ts e a b) (hc : b ≤ c) : Stp ts e a c := ⟨h.1, fun x h1 h2 => h.2 x (by omega) h2⟩
theorem stp_close {a b : Nat} {l : List TK} (h : At ts a ((4, [41]) :: l)) : Stp ts e a b := ⟨by rw [h.isT e]; rfl, fun c _ _ => by rw [h.isW e]; rfl⟩
theorem stp_word {a b : Nat} {l : List TK} (hb : b = 1 ∨ b = 2) (h : At ts a ((1, wordOf b) :: l)) : Stp ts e a (b + 1) := ⟨by rw [h.isT e]; rfl, fun c h1 h2 => by
  rw [h.isW e]
  have : b = 1 ∧ c = 2 := by omega
  obtain ⟨rfl, rfl⟩ := this
  rfl⟩
theorem Pr.down {b c deep a : Nat} {r : PR} (hd : deep ≤ 40) (h : Pr ts e (.parse c deep) a r) (h1 : 1 ≤ b) (h2 : b ≤ c) (h3 : c ≤ 3) (hs : Stp ts e r.2.2 b) : Pr ts e (.parse b deep) a r := by
  obtain ⟨k, rfl⟩ : ∃ k, c = b + k := ⟨c - b, by omega⟩
  clear h2
  induction k generalizing b with
  | zero => exact h
  | succ k ih =>
    have := ih (b := b + 1) (by omega) (hs.le (by omega)) (by rw [show b + 1 + k = b + (k + 1) by omega]; exact h) (by omega)
    exact this.lift (by omega) hd (hs.2 b (Nat.le_refl _) (by omega))
/-- What is shown of a filter. -/
structure Back (ts : List Tok) (e : Nat) (f : Fil) (d : Nat) : Prop where
  pu : bindF f = 3 → ∀ a deep, At ts a (tkF f) → isT ts e (a + (tkF f).length) [61] = false → deep ≤ 2 * d → Pr ts e (.unary deep) a (f, 0, a + (tkF f).length)
  pt : ∀ a deep b, At ts a (tkF f) → Stp ts e (a + (tkF f).length) b → 1 ≤ b → b ≤ bindF f → deep ≤ 2 * d → Pr ts e (.parse b deep) a (f, 0, a + (tkF f).length)
theorem bindF_ge (f : Fil) : 1 ≤ bindF f := by
  cases f with | mk k nm tx kids =>
  unfold bindF
  repeat' split
  all_goals omega
theorem Back.wu {f : Fil} {d : Nat} (h : Back ts e f d) {a deep : Nat} (ha : At ts a (tkWi f 3)) (hs : isT ts e (a + (tkWi f 3).length) [61] = false) (hd : deep + 1 ≤ 2 * d) : Pr ts e (.unary deep) a (f, 0, a + (tkWi f 3).length) := by
  unfold tkWi at ha hs ⊢
  by_cases hb : bindF f < 3
  · rw [if_pos hb] at ha hs ⊢
    have h1 := ha.tail
    have h2 := h1.right
    have := h.pt (a + 1) (deep + 1) 1 h1.left (stp_close h2) (Nat.le_refl _) (bindF_ge f) hd
    have := Pr.paren (by unfold isF; rw [(ha.tok e).1]; rfl) (by rw [ha.isT e]; rfl) this (by rw [h2.isT e]; rfl)
    rw [List.length_cons, List.length_append, List.length_cons, List.length_nil, show a + ((tkF f).length + (0 + 1) + 1) = a + 1 + (tkF f).length + 1 by omega]
    exact this
  · rw [if_neg hb] at ha hs ⊢
    have := bindF_le f
    exact h.pu (by omega) a deep ha hs (by omega)
theorem Back.wi {f : Fil} {d : Nat} (h : Back ts e f d) {a deep b : Nat} (ha : At ts a (tkWi f b)) (hs : Stp ts e (a + (tkWi f b).length) b) (h1 : 1 ≤ b) (h3 : b ≤ 3) (hd : deep + 1 ≤ 2 * d) (h40 : deep ≤ 40) : Pr ts e (.parse b deep) a (f, 0, a + (tkWi f b).length) := by
  unfold tkWi at ha hs ⊢
  by_cases hb : bindF f < b
  · rw [if_pos hb] at ha hs ⊢
    have e3 : tkWi f 3 = (4, [40]) :: (tkF f ++ [(4, [41])]) := by unfold tkWi; rw [if_pos (by omega)]
    have := h.wu (a := a) (deep := deep) (by rw [e3]; exact ha) (by rw [e3]; exact hs.1) hd
    rw [e3] at this
    exact (this.parse3 h40).down h40 h1 h3 (Nat.le_refl _) hs
  · rw [if_neg hb] at ha hs ⊢
    exact h.pt a deep b ha hs h1 (by omega) (by omega)
theorem more_all {b deep d : Nat} (hb : b = 1 ∨ b = 2) (hd : deep + 1 ≤ 2 * d) (h40 : deep ≤ 40) : ∀ (post acc : List Fil) (a : Nat), (∀ g ∈ post, Back ts e g d) → At ts a ((tkW post (b + 1)).flatMap fun y => (1, wordOf b) :: y) → Stp ts e (a + ((tkW post (b + 1)).flatMap fun y => (1, wordOf b) :: y).length) b →
    Pr ts e (.more b deep acc) a (.mk (kindOf b) [] [] (acc ++ post), 0, a + ((tkW post (b + 1)).flatMap fun y => (1, wordOf b) :: y).length) := by
  intro post
  induction post with
  | nil =>
    intro acc a _ _ hs
    rw [tkW, List.flatMap_nil, List.length_nil, Nat.add_zero] at hs ⊢
    rw [List.append_nil]
    exact Pr.moreEnd (hs.2 b (Nat.le_refl _) (by omega))
  | cons g r ih =>
    intro acc a hB ha hs
    rw [tkW_cons, List.flatMap_cons] at ha hs ⊢
    have h1 := ha.left
    have h2 := ha.right
    rw [List.length_append, List.length_cons] at hs ⊢
    rw [List.length_cons] at h2
    have hw : isW ts e a (wordOf b) = true := by rw [h1.isW e]; simp
    have hst : Stp ts e (a + 1 + (tkWi g (b + 1)).length) (b + 1) := by
      cases r with
      | nil =>
        rw [tkW, List.flatMap_nil, List.length_nil, Nat.add_zero, show a + ((tkWi g (b + 1)).length + 1) = a + 1 + (tkWi g (b + 1)).length by omega] at hs
        exact hs.le (by omega)
      | cons g2 r2 =>
        rw [tkW_cons, List.flatMap_cons, List.cons_append] at h2
        rw [show a + 1 + (tkWi g (b + 1)).length = a + ((tkWi g (b + 1)).length + 1) by omega]
        exact stp_word hb h2
    have hp := (hB g (by simp)).wi (deep := deep) h1.tail hst (by omega) (by omega) hd h40
    rw [show a + 1 + (tkWi g (b + 1)).length = a + ((tkWi g (b + 1)).length + 1) by omega] at hp
    have := ih (acc ++ [g]) (a + ((tkWi g (b + 1)).length + 1)) (fun x hx => hB x (by simp [hx])) h2 (by rw [Nat.add_assoc]; exact hs)
    rw [List.append_assoc, Nat.add_assoc] at this
    exact Pr.moreNext hw hp this
theorem kids_back {kids : List Fil} {b deep d : Nat} (hb : b = 1 ∨ b = 2) (hd : deep + 1 ≤ 2 * d) (h40 : deep ≤ 40) (hk : 1 < kids.length) (hB : ∀ g ∈ kids, Back ts e g d) {a : Nat} (ha : At ts a (tjoin (tkW kids (b + 1)) (1, wordOf b))) (hs : Stp ts e (a + (tjoin (tkW kids (b + 1)) (1, wordOf b)).length) b) :
    Pr ts e (.parse b deep) a (.mk (kindOf b) [] [] kids, 0, a + (tjoin (tkW kids (b + 1)) (1, wordOf b)).length) := by
  match kids, hk with
  | g :: g2 :: r, _ =>
    rw [tkW_cons, tjoin] at ha hs ⊢
    have h1 := ha.left
    have h2 := ha.right
    rw [List.length_append, ← Nat.add_assoc] at hs ⊢
    have h3 := h2
    rw [tkW_cons, List.flatMap_cons, List.cons_append] at h3
    have hp := (hB g (by simp)).wi (deep := deep) h1 (stp_word hb h3) (by omega) (by omega) hd h40
    have hm := more_all hb hd h40 (g2 :: r) [g] _ (fun x hx => hB x (by simp [hx])) h2 hs
    exact Pr.many (by omega) h40 hp (by rw [h3.isW e]; simp) hm
  | [], h => simp at h
  | [_], h => simp at h
end
end Go.Proofs.YtbhclhgljnoioaaDoor
set_option linter.unusedSimpArgs false
set_option linter.unusedVariables false
namespace Go.Proofs.YtbhclhgljnoioaaDoor
open Ai Go.Shelf
theorem may_cases {k : Int} {nm tx : List UInt8} {n : Nat} (h : mayB k nm tx n = true) :
    (k = 0 ∧ nm = [] ∧ tx = [] ∧ n = 0) ∨ (k = 1 ∧ nm = [] ∧ n = 0) ∨ (k = 2 ∧ n = 0) ∨ (k = 3 ∧ nm = [] ∧ tx = [] ∧ n = 0) ∨ (k = 4 ∧ nm = [] ∧ tx = [] ∧ n = 1) ∨ ((k = 5 ∨ k = 6) ∧ nm = [] ∧ tx = []) := by
  unfold mayB at h
  split at h
  · rename_i hk
    simp only [Bool.and_eq_true, decide_eq_true_eq] at h
    rcases hk with hk | hk
    · exact .inl ⟨hk, h.2.1, h.2.2, h.1⟩
    · exact .inr (.inr (.inr (.inl ⟨hk, h.2.1, h.2.2, h.1⟩)))
  · split at h
    · rename_i hk
      simp only [Bool.and_eq_true, decide_eq_true_eq] at h
      exact .inr (.inl ⟨hk, h.2.1, h.1⟩)
    · split at h
      · rename_i hk
        simp only [Bool.and_eq_true, decide_eq_true_eq] at h
        exact .inr (.inr (.inl ⟨hk, h.1⟩))
      · split at h
        · rename_i hk
          simp only [Bool.and_eq_true, decide_eq_true_eq] at h
          exact .inr (.inr (.inr (.inr (.inl ⟨hk, h.1, h.2.1, h.2.2⟩))))
        · split at h
          · rename_i hk
            simp only [Bool.and_eq_true, decide_eq_true_eq] at h
            exact .inr (.inr (.inr (.inr (.inr ⟨hk, h.1, h.2⟩))))
          · cases h
section
variable {ts : List Tok} {e : Nat}
theorem isF_of {a : Nat} {x y : TK} {l : List TK} (h : At ts a (x :: y :: l)) : isF ts e a = (decide (x.1 = 1) && (decide (y.1 = 4) && decide (y.2 = [61]))) := by
  unfold isF
  rw [(h.tok e).1, h.tail.isT e]
theorem tkF_head {f : Fil} {d : Nat} (h : Fine f d) : ∃ x l, tkF f = x :: l ∧ (x.1 = 1 ∨ x = (4, [40])) := by
  induction hn : cnt f using Nat.strongRecOn generalizing f d with
  | ind n ih =>
    cases f with | mk k nm tx kids =>
    rw [cnt] at hn
    rw [tkF]
    repeat' split
    all_goals first
      | exact ⟨_, _, rfl, .inl rfl⟩
      | skip
    all_goals
      match kids, ‹1 < kids.length›, hn, h with
      | g :: g2 :: r, _, hn, h =>
        rw [tkW_cons, tjoin]
        rw [cnts] at hn
        obtain ⟨x, l, e1, e2⟩ := ih (cnt g) (by omega) (h.kid [] g (g2 :: r) rfl) rfl
        unfold tkWi
        split
        · exact ⟨_, _, rfl, .inr rfl⟩
        · exact ⟨x, _, by rw [e1]; rfl, e2⟩
theorem back_all : ∀ (n : Nat) (f : Fil) (d : Nat), cnt f ≤ n → Fine f d → Back ts e f d := by
  intro n
  induction n with
  | zero => intro f d h; cases f; rw [cnt] at h; omega
  | succ n ih =>
    intro f d hn hfi
    cases f with | mk k nm tx kids =>
    rw [cnt] at hn
    have hm := hfi.may.1
    have hd6 := hfi.may.2.1
    have hkids : ∀ g ∈ kids, Back ts e g (d + 1) := by
      intro g hg
      obtain ⟨pre, post, e1⟩ := List.append_of_mem hg
      have hc : cnts kids = cnts pre + (cnt g + cnts post) := by rw [e1, cnts_app, cnts]
      exact ih g (d + 1) (by omega) (hfi.kid pre g post e1)
    have hpu : bindF (.mk k nm tx kids) = 3 → ∀ a deep, At ts a (tkF (.mk k nm tx kids)) → isT ts e (a + (tkF (.mk k nm tx kids)).length) [61] = false → deep ≤ 2 * d → Pr ts e (.unary deep) a (.mk k nm tx kids, 0, a + (tkF (.mk k nm tx kids)).length) := by
      intro hb a deep ha hs hdp
      rcases may_cases hm with ⟨rfl, rfl, rfl, hl⟩ | ⟨rfl, rfl, hl⟩ | ⟨rfl, hl⟩ | ⟨rfl, rfl, rfl, hl⟩ | ⟨rfl, rfl, rfl, hl⟩ | ⟨hk, rfl, rfl⟩
      · obtain rfl := List.eq_nil_of_length_eq_zero hl
        have et : tkF (.mk 0 [] [] []) = [(1, [97, 108, 108])] := by rw [tkF, if_pos rfl]
        rw [et] at ha hs ⊢
        refine Pr.word (ha.tok e).1 hs ⟨1, ?_⟩
        rw [P_suc]
        simp only [pstep]
        rw [if_pos (ha.tok e).2]
        rfl
      · obtain rfl := List.eq_nil_of_length_eq_zero hl
        have et : tkF (.mk 1 [] tx []) = [(1, [107, 101, 121]), (4, [94]), (2, tx)] := by rw [tkF, if_neg (by decide), if_pos rfl]
        rw [et] at ha hs ⊢
        refine Pr.word (ha.tok e).1 (by rw [ha.tail.isT e]; rfl) ⟨1, ?_⟩
        rw [P_suc]
        simp only [pstep]
        rw [(ha.tok e).2]
        rw [if_neg (by decide), if_neg (by decide), if_neg (by decide), if_pos rfl, if_pos (by rw [ha.tail.isT e]; rfl), if_pos (ha.tail.tail.tok e).1, (ha.tail.tail.tok e).2]
        rfl
      · obtain rfl := List.eq_nil_of_length_eq_zero hl
        have et : tkF (.mk 2 nm tx []) = [(1, nm), (4, [61]), (2, tx)] := by rw [tkF, if_neg (by decide), if_neg (by decide), if_pos rfl]
        rw [et] at ha hs ⊢
        refine ⟨1, ?_⟩
        rw [P_suc]
        simp only [pstep]
        rw [if_pos (by rw [isF_of ha]; rfl), if_pos (ha.tail.tail.tok e).1, (ha.tok e).2, (ha.tail.tail.tok e).2]
        rfl
      · obtain rfl := List.eq_nil_of_length_eq_zero hl
        have et : tkF (.mk 3 [] [] []) = [(1, [112, 117, 116])] := by rw [tkF, if_neg (by decide), if_neg (by decide), if_neg (by decide), if_pos rfl]
        rw [et] at ha hs ⊢
        refine Pr.word (ha.tok e).1 hs ⟨1, ?_⟩
        rw [P_suc]
        simp only [pstep]
        rw [(ha.tok e).2]
        rw [if_neg (by decide), if_pos rfl]
        rfl
      · obtain ⟨g, rfl⟩ : ∃ g, kids = [g] := by
          match kids, hl with
          | [g], _ => exact ⟨g, rfl⟩
        have et : tkF (.mk 4 [] [] [g]) = (1, [110, 111, 116]) :: tkWi g 3 := by rw [tkF, if_neg (by decide), if_neg (by decide), if_neg (by decide), if_neg (by decide), if_pos rfl, tkW_one, List.headD_cons]
        rw [et] at ha hs ⊢
        rw [List.length_cons] at hs ⊢
        have hfg := hfi.kid [] g [] rfl
        have hnx : isT ts e (a + 1) [61] = false := by
          obtain ⟨x, l, e1, e2⟩ := tkF_head hfg
          have h1 := ha.tail
          unfold tkWi at h1
          split at h1
          · rw [h1.isT e]; rfl
          · rw [e1] at h1
            rw [h1.isT e]
            rcases e2 with e2 | e2
            · rw [e2]; rfl
            · rw [e2]; rfl
        have hu := (hkids g (by simp)).wu (deep := deep + 1) ha.tail (by rw [show a + 1 + (tkWi g 3).length = a + ((tkWi g 3).length + 1) by omega]; exact hs) (by omega)
        obtain ⟨m, hu⟩ := hu
        refine Pr.word (ha.tok e).1 hnx ⟨m + 2, ?_⟩
        rw [P_suc]
        simp only [pstep]
        rw [(ha.tok e).2]
        rw [if_neg (by decide), if_neg (by decide), if_pos rfl]
        have hnest : P ts e (m + 1) (.nested deep) (a + 1) = some (g, 0, a + 1 + (tkWi g 3).length) := by
          rw [P_suc]
          simp only [pstep]
          rw [if_neg (by omega)]
          exact hu
        rw [hnest, Option.bind_some, show a + ((tkWi g 3).length + 1) = a + 1 + (tkWi g 3).length by omega]
      · have hl : ¬ 1 < kids.length := by
          intro hl
          have : bindF (.mk k [] [] kids) < 3 := by
            show bindV k kids.length < 3
            rw [bind3 (by omega)]; omega
          omega
        have et : tkF (.mk k [] [] kids) = (1, if k = 5 then [101, 97, 99, 104] else [97, 110, 121]) :: (4, [40]) :: (tjoin (tkL kids) (4, [44]) ++ [(4, [41])]) := by
          rw [tkF, if_neg (by omega), if_neg (by omega), if_neg (by omega), if_neg (by omega), if_neg (by omega), if_neg hl]
          split <;> rfl
        rw [et] at ha hs ⊢
        have hlist : Pr ts e (.list k deep) (a + 1) (.mk k [] [] kids, 0, a + 3 + (tjoin (tkL kids) (4, [44])).length) := by
          have h1 := ha.tail
          have h2 := h1.tail
          have t1 : isT ts e (a + 1) [40] = true := by rw [h1.isT e]; rfl
          match kids, hl, hkids, h2 with
          | [], _, _, h2 =>
            rw [tkL, tjoin] at h2 ⊢
            have t2 : isT ts e (a + 1 + 1) [41] = true := by rw [h2.isT e]; rfl
            refine ⟨1, ?_⟩
            rw [P_suc]
            simp only [pstep]
            rw [if_neg (by simp [t1]), if_pos t2]
            rfl
          | [g], _, hkids, h2 =>
            have ej : tjoin (tkL [g]) (4, [44]) = tkF g := by rw [tkL, tkL, tjoin, List.flatMap_nil, List.append_nil]
            rw [ej] at h2 ⊢
            have h3 := h2.right
            have t2 : isT ts e (a + 1 + 1) [41] = false := by
              obtain ⟨x, l, e1, e2⟩ := tkF_head (hfi.kid [] g [] rfl)
              have h4 := h2.left
              rw [e1] at h4
              rw [h4.isT e]
              rcases e2 with e2 | e2
              · rw [e2]; rfl
              · rw [e2]; rfl
            have hg := (hkids g (by simp)).pt (a + 1 + 1) (deep + 1) 1 h2.left (stp_close h3) (Nat.le_refl _) (bindF_ge g) (by omega)
            obtain ⟨m, hg⟩ := hg
            refine ⟨m + 2, ?_⟩
            rw [P_suc]
            simp only [pstep]
            rw [if_neg (by simp [t1]), if_neg (by simp [t2]), P_suc]
            simp only [pstep]
            rw [hg, Option.bind_some, if_neg (by simp), if_pos (by rw [h3.isT e]; rfl), List.nil_append, show a + 1 + 1 + (tkF g).length + 1 = a + 3 + (tkF g).length by omega]
          | _ :: _ :: _, h, _, _ => exact absurd (by simp) h
        have hlen : a + ((1, if k = 5 then [101, 97, 99, 104] else [97, 110, 121]) :: (4, [40]) :: (tjoin (tkL kids) (4, [44]) ++ [(4, [41])]) : List TK).length = a + 3 + (tjoin (tkL kids) (4, [44])).length := by
          simp only [List.length_cons, List.length_append, List.length_nil]; omega
        rw [hlen]
        obtain ⟨m, hlist⟩ := hlist
        refine Pr.word (ha.tok e).1 (by rw [ha.tail.isT e]; rfl) ⟨m + 1, ?_⟩
        rw [P_suc]
        simp only [pstep]
        rw [(ha.tok e).2]
        rcases hk with rfl | rfl
        · rw [if_pos rfl, if_neg (by decide), if_neg (by decide), if_neg (by decide), if_neg (by decide), if_neg (by decide), if_pos rfl]
          exact hlist
        · rw [if_neg (by decide), if_neg (by decide), if_neg (by decide), if_neg (by decide), if_pos (by decide)]
          exact hlist
    refine ⟨hpu, ?_⟩
    intro a deep b ha hs h1 hb hdp
    have h40 : deep ≤ 40 := by omega
    by_cases h3 : bindF (.mk k nm tx kids) = 3
    · exact ((hpu h3 a deep ha hs.1 hdp).parse3 h40).down h40 h1 (by omega) (Nat.le_refl _) hs
    · have hbv : bindF (.mk k nm tx kids) = bindV k kids.length := rfl
      have hlt : 4 < k ∧ 1 < kids.length := by
        have := may_kind hm
        have h4 := bindF_le (.mk k nm tx kids)
        exact (bind3 (by omega)).1 (by omega)
      rcases may_cases hm with ⟨rfl, _⟩ | ⟨rfl, _⟩ | ⟨rfl, _⟩ | ⟨rfl, _⟩ | ⟨rfl, _⟩ | ⟨hk, rfl, rfl⟩
      · omega
      · omega
      · omega
      · omega
      · omega
      · rcases hk with rfl | rfl
        · have et : tkF (.mk 5 [] [] kids) = tjoin (tkW kids (2 + 1)) (1, wordOf 2) := by
            rw [tkF, if_neg (by decide), if_neg (by decide), if_neg (by decide), if_neg (by decide), if_neg (by decide), if_pos hlt.2]; rfl
          have hb2 : bindF (.mk 5 [] [] kids) = 2 := by rw [hbv]; unfold bindV; rw [if_neg (by omega), if_pos ⟨rfl, hlt.2⟩]
          rw [et] at ha hs ⊢
          have := kids_back (b := 2) (.inr rfl) (d := d + 1) (deep := deep) (by omega) h40 hlt.2 hkids ha (hs.le (by omega))
          exact this.down h40 h1 (by omega) (by decide) hs
        · have et : tkF (.mk 6 [] [] kids) = tjoin (tkW kids (1 + 1)) (1, wordOf 1) := by
            rw [tkF, if_neg (by decide), if_neg (by decide), if_neg (by decide), if_neg (by decide), if_neg (by decide), if_pos hlt.2]; rfl
          have hb1 : bindF (.mk 6 [] [] kids) = 1 := by rw [hbv]; unfold bindV; rw [if_pos ⟨rfl, hlt.2⟩]
          rw [et] at ha hs ⊢
          have := kids_back (b := 1) (.inl rfl) (d := d + 1) (deep := deep) (by omega) h40 hlt.2 hkids ha (hs.le (by omega))
          exact this.down h40 h1 (by omega) (by decide) hs
end
/-- What is printed is parsed as it was. -/
theorem parse_tell {f : Fil} (hok : okL f) (hc : chk f = 0) : parseV (tellF f) = (f, 0, 0) := by
  have hfi := fine1 hok hc
  obtain ⟨ts, h1, h2⟩ := lx_tell hfi
  have hlen : ts.length = (tkF f).length := by rw [← h2, List.length_map]
  have hA : At ts 0 (tkF f) := by
    intro i x hx
    rw [← h2, List.getElem?_map] at hx
    cases ht : ts[i]? with
    | none => rw [ht] at hx; cases hx
    | some t =>
      rw [ht] at hx
      simp only [Option.map_some, Option.some.injEq] at hx
      exact ⟨t, by rw [Nat.zero_add]; exact ht, hx⟩
  have hend : (tokAt ts (tellF f).length ts.length).kind = 0 := by unfold tokAt; rw [List.getElem?_eq_none (Nat.le_refl _)]; rfl
  have hS : Stp ts (tellF f).length (0 + (tkF f).length) 1 := by
    rw [Nat.zero_add, ← hlen]
    exact ⟨by unfold isT; rw [hend]; rfl, fun c _ _ => by unfold isW; rw [hend]; rfl⟩
  obtain ⟨n, hp⟩ := (back_all (cnt f) f 1 (Nat.le_refl _) hfi).pt 0 1 1 hA hS (Nat.le_refl _) (bindF_ge f) (by decide)
  rw [Nat.zero_add, ← hlen] at hp
  have hq := (parR_eq ts (tellF f).length).1
  have hr : parR ts (tellF f).length = (f, 0, ts.length) := by
    have a := P_mono (Nat.le_max_left n (20 * ts.length + 9)) hp
    have b := P_mono (Nat.le_max_right n (20 * ts.length + 9)) hq
    rw [a] at b
    exact (Option.some.inj b).symm
  unfold parseV
  rw [h1]
  dsimp only
  have hf : filV ts (tellF f).length = (f, 0, 0) := by
    unfold filV
    rw [hr]
    rw [if_neg (by simp), if_neg (by simp [hc])]
  rw [hf, hr, if_neg (by simp [hend])]
end Go.Proofs.YtbhclhgljnoioaaDoor
set_option linter.unusedSimpArgs false
set_option linter.unusedVariables false
namespace Go.Proofs.YtbhclhgljnoioaaDoor
open Ai Go.Shelf
/-! ### A filter that may be has short texts -/
theorem dec_n4 (l : List UInt8) : (dec l).2 ≤ 4 := by
  unfold dec
  simp only
  repeat' split
  all_goals simp
theorem rns_len4 (l : List UInt8) : l.length ≤ 4 * (rns l).length := by
  induction l using rune_ind with
  | h0 => simp
  | h1 a r ih =>
    have h1 : (rns (a :: r)).length = (rns ((a :: r).drop (dec (a :: r)).2)).length + 1 := by rw [rns_cons, List.length_cons]
    rw [List.length_drop] at ih
    have := dec_n4 (a :: r)
    omega
theorem may_short {k : Int} {nm tx : List UInt8} {n : Nat} (h : mayB k nm tx n = true) : nm.length ≤ 192 ∧ tx.length ≤ 192 := by
  have hv : ∀ l, allV plain 0 48 l = true → l.length ≤ 192 := fun l h => by
    have := rns_len4 l
    unfold allV at h
    simp only [Bool.and_eq_true, decide_eq_true_eq] at h
    omega
  have hk : ∀ l, allV plain 1 24 l = true → l.length ≤ 192 := fun l h => by
    have := rns_len4 l
    unfold allV at h
    simp only [Bool.and_eq_true, decide_eq_true_eq] at h
    omega
  have hn : ∀ l, allV letter 1 8 l = true → l.length ≤ 192 := fun l h => by
    have := rns_len4 l
    unfold allV at h
    simp only [Bool.and_eq_true, decide_eq_true_eq] at h
    omega
  unfold mayB at h
  split at h
  · simp only [Bool.and_eq_true, decide_eq_true_eq] at h
    rw [h.2.1, h.2.2]; exact ⟨Nat.zero_le _, Nat.zero_le _⟩
  · split at h
    · simp only [Bool.and_eq_true, decide_eq_true_eq] at h
      rw [h.2.1]; exact ⟨Nat.zero_le _, hk _ h.2.2⟩
    · split at h
      · simp only [Bool.and_eq_true, decide_eq_true_eq] at h
        exact ⟨hn _ h.2.1, hv _ h.2.2⟩
      · split at h
        · simp only [Bool.and_eq_true, decide_eq_true_eq] at h
          rw [h.1, h.2.1]; exact ⟨Nat.zero_le _, Nat.zero_le _⟩
        · split at h
          · simp only [Bool.and_eq_true, decide_eq_true_eq] at h
            rw [h.1, h.2]; exact ⟨Nat.zero_le _, Nat.zero_le _⟩
          · cases h
mutual
theorem bld_ok : ∀ (f : Fil) (d w : Nat), (bld f d w).1 = 0 → okL f ∧ (tellF f).length + 100 ≤ 2300 * cnt f
  | .mk k nm tx kids, d, w, h => by
    rw [bld] at h
    split at h
    · cases h
    · split at h
      · cases h
      · rename_i h1 h2
        obtain ⟨s1, s2⟩ := may_short (by simpa using h2 : mayB k nm tx kids.length = true)
        obtain ⟨k1, k2, k3⟩ := blds_ok kids _ _ h
        have hq := quoteV_len tx
        refine ⟨by rw [okL]; exact ⟨by omega, by omega, k1⟩, ?_⟩
        rw [tellF, cnt]
        split
        · simp only [List.length_cons, List.length_nil]; omega
        · split
          · simp only [List.length_append, List.length_cons, List.length_nil]; omega
          · split
            · simp only [List.length_append, List.length_cons, List.length_nil]; omega
            · split
              · simp only [List.length_cons, List.length_nil]; omega
              · split
                · have := k2 3
                  cases hk : tellW kids 3 with
                  | nil => simp only [List.headD_nil, List.length_append, List.length_cons, List.length_nil]; omega
                  | cons x r =>
                    rw [hk, lsum] at this
                    simp only [List.headD_cons, List.length_append, List.length_cons, List.length_nil]; omega
                · split
                  · have hb := k2 (if k = 5 then 3 else 2)
                    have := join_le (tellW kids (if k = 5 then 3 else 2)) (if k = 5 then [32, 97, 110, 100, 32] else [32, 111, 114, 32]) 5 (by split <;> simp)
                    omega
                  · have := join_le (tellL kids) [44, 32] 5 (by simp)
                    have hc : (if k = 5 then [101, 97, 99, 104, 40] else [97, 110, 121, 40] : List UInt8).length ≤ 5 := by split <;> simp
                    simp only [List.length_append, List.length_cons, List.length_nil]; omega
theorem blds_ok : ∀ (l : List Fil) (d w : Nat), (blds l d w).1 = 0 → okLs l ∧ (∀ b, lsum (tellW l b) 5 ≤ 2300 * cnts l) ∧ lsum (tellL l) 5 ≤ 2300 * cnts l
  | [], d, w, _ => by
    refine ⟨by rw [okLs]; trivial, fun b => by rw [tellW]; exact Nat.zero_le _, by rw [tellL]; exact Nat.zero_le _⟩
  | f :: r, d, w, h => by
    rw [blds] at h
    split at h
    · rename_i h0
      obtain ⟨a1, a2⟩ := bld_ok f d w h0
      obtain ⟨b1, b2, b3⟩ := blds_ok r d _ h
      refine ⟨by rw [okLs]; exact ⟨a1, b1⟩, fun b => ?_, ?_⟩
      · have := b2 b
        rw [tellW, lsum, cnts]
        split
        · simp only [List.length_append, List.length_cons, List.length_nil]; omega
        · omega
      · rw [tellL, lsum, cnts]; omega
    · rename_i h0; exact absurd h h0
end
theorem chk_ok {f : Fil} (h : chk f = 0) : okL f := (bld_ok f 1 0 h).1
theorem chk_len {f : Fil} (h : chk f = 0) : (tellF f).length ≤ 55200 := by
  have h1 := (bld_ok f 1 0 h).2
  have h2 := bld_cnt f 1 0 (by decide) h
  have h3 := (bld_le f 1 0 (by decide)).2 h
  omega
/-! ### Same -/
def R_same (a : List V) (v : V) : Prop := ∀ (f : Fil) (c c' : List V), a = [.agg c, .agg c'] → FilR f c → FilR f c' → v = .b true
noncomputable def F_same : List V → Option V := pickP 20 R_same
theorem o_same : ∀ a v, F_same a = some v → Comp tabx told 20 a v := pickP_tells
def S_same (D : Nat) : Prop := ∀ (f : Fil) (c c' : List V) (d w : Nat), FilR f c → FilR f c' → w ≤ 24 → (bld f d w).1 = 0 → 8 ≤ d + D → Comp tabx told 20 [.agg c, .agg c'] (.b true)
theorem call_same {D : Nat} (S : S_same D) {f : Fil} {c c' : List V} {d w : Nat} (h1 : FilR f c) (h2 : FilR f c') (h3 : w ≤ 24) (h4 : (bld f d w).1 = 0) (h5 : 8 ≤ d + D) : F_same [.agg c, .agg c'] = some (.b true) := by
  obtain ⟨v, e1, r⟩ := pickP_spec (R := R_same) (S f c c' d w h1 h2 h3 h4 h5) (fun _ _ _ _ _ _ => rfl)
  rw [r f c c' rfl h1 h2] at e1
  exact e1
noncomputable def X_same := xs [(20, F_same)]
theorem t_same : Tells tabx told X_same := tells_cons o_same tells_nil
def K20_1 : List Fr := [.blk 0,
 .seq (.seq (.reg [⟨some 4, .mov (.k (.b true)), none⟩])
 .ret)]
theorem U20_1 : type_of% (@M_open _ _ L20_1.eq_1) := @M_open _ _ L20_1.eq_1
theorem U20 : type_of% (@M_open _ _ B20.eq_1) := @M_open _ _ B20.eq_1
def kz20 (_ : Nat) : List Nat := [0, 1, 4, 5, 6, 7, 8, 9, 10, 11, 12, 13, 14, 15, 16, 17, 18, 19, 20, 21, 22, 23, 24, 25, 26, 27, 28, 29, 30, 31, 32, 33, 34, 35, 38, 39, 40, 41, 42, 43, 44, 45, 46, 47, 48, 49, 50, 51, 52]
section
variable {D : Nat}
set_option maxRecDepth 100000 in
theorem w_same (S : S_same D) (k : Int) (nm tx : List UInt8) (kids : List Fil) (ys zs : List V) (tk0 tk1 : Tk) (hy : KidsR kids ys) (hz : KidsR kids zs) (d w : Nat) (hw : w ≤ 24) (hb : (blds kids d w).1 = 0) (hD : 8 ≤ d + D) (hk : kids.length ≤ 24) (gl : Nat → List V) : ∀ (post pre : List Fil), kids = pre ++ post →
    M X_same (kz20) (.code L20_1) (.loop L20_1 :: K20_1) ⟨gl, (.node (.node (.node (.node (.node (.node .leaf .any .leaf) .any (.node .leaf .any .leaf)) .any (.node (.node .leaf .any .leaf) .any (.node .leaf .any .leaf))) (.l 3 0) (.node (.node (.node .leaf .any .leaf) .any (.node .leaf .any .leaf)) .any (.node (.node .leaf .any .leaf) .any (.node .leaf .any .leaf)))) .any (.node (.node (.node (.node .leaf .any .leaf) .any (.node .leaf .any .leaf)) .any (.node (.node .leaf .any .leaf) .any (.node .leaf .any .leaf))) .any (.node (.node (.node .leaf (.i .i64 (pre.length : Nat)) .leaf) .any (.node .leaf .any .leaf)) .any (.node (.node .leaf .any .leaf) .any (.node .leaf .any .leaf))))) .any (.node (.node (.node (.node (.node .leaf .any .leaf) .any (.node .leaf .any .leaf)) .any (.node (.node .leaf .any .leaf) .any (.node .leaf .any .leaf))) .any (.node (.node (.node .leaf (.i .i64 (kids.length : Nat)) .leaf) .any (.node .leaf .any .leaf)) .any (.node (.node .leaf .any .leaf) .any (.node .leaf .any .leaf)))) (.l 2 0) (.node (.node (.node (.node .leaf .any .leaf) .any (.node .leaf .any .leaf)) .any (.node (.node .leaf .any .leaf) .any (.node .leaf .any .leaf))) .any (.node (.node (.node .leaf .any .leaf) .any (.node .leaf .any .leaf)) .any (.node (.node .leaf .any .leaf) .any (.node .leaf .any .leaf)))))), [], [(2, [.i .i64 k, .s nm, .s tx, .sl ys kids.length tk0]), (3, [.i .i64 k, .s nm, .s tx, .sl zs kids.length tk1])], {}⟩
      (Fin [.tmp 4] (.b true)) := by
  intro post
  induction post with
  | nil =>
    intro pre hk1
    have hl : kids.length = pre.length := by rw [hk1]; simp
    have e1 : decide ((pre.length : Int) < (kids.length : Int)) = false := decide_eq_false (by omega)
    rw [U20_1]
    simp only [e1, K20_1, go_sem, ne_eq, not_false_eq_true, reduceIte, Nat.reduceMul, Nat.reduceAdd, Nat.reduceSub, Nat.reduceEqDiff, Nat.reduceLeDiff, Nat.reduceLT, List.take_succ_cons, List.take_zero, List.drop_succ_cons, List.cons_append]
  | cons f post ih =>
    intro pre hk1
    have hl : kids.length = pre.length + post.length + 1 := by rw [hk1]; simp; omega
    have e1 : decide ((pre.length : Int) < (kids.length : Int)) = true := decide_eq_true (by omega)
    have g1 : pre.length < kids.length := by omega
    have hyl := hy.len
    have hzl := hz.len
    have g2 : (pre.length + 1) * 4 ≤ kids.length * 4 := by omega
    obtain ⟨c, hc, ht⟩ := hy.split pre f post hk1
    obtain ⟨c', hc', ht'⟩ := hz.split pre f post hk1
    obtain ⟨w', q1, q2⟩ := blds_mem kids d w hw hb pre f post hk1
    have y4 : X_same 20 [.agg c, .agg c'] = some (.b true) := call_same S hc hc' q1 q2 hD
    have w2 : wr .i64 ((pre.length : Int) + 1) = ((pre.length + 1 : Nat) : Int) := by rw [wr64] <;> omega
    rw [U20_1]
    have := ih (pre ++ [f]) (by rw [hk1]; simp)
    cases hc with | mk k1 nm1 tx1 kids1 xs1 n1 tk1 hn1 hx1 =>
    cases hc' with | mk _ _ _ _ xs2 n2 tk2 hn2 hx2 =>
    simp only [e1, g1, hyl, hzl, g2, rd_ip, ht, ht', y4, w2, Int.cast_ofNat_Int, go_sem, ne_eq, not_false_eq_true, reduceIte, Nat.reduceMul, Nat.reduceAdd, Nat.reduceSub, Nat.reduceEqDiff, Nat.reduceLeDiff, Nat.reduceLT, List.take_succ_cons, List.take_zero, List.drop_succ_cons, List.cons_append]
    rw [M_loop]
    simp only [kz20, K20_1, List.length_append, List.length_cons, List.length_nil, Nat.zero_add, go_sem, ne_eq, not_false_eq_true, reduceIte, Nat.reduceMul, Nat.reduceAdd, Nat.reduceSub, Nat.reduceEqDiff, Nat.reduceLeDiff, Nat.reduceLT, List.take_succ_cons, List.take_zero, List.drop_succ_cons, List.cons_append] at this ⊢
    exact this
set_option maxRecDepth 100000 in
theorem s_same (S : S_same D) : S_same (D + 1) := by
  intro f c c' d w hf hf' hw hb hD
  have hs := FilR.strip f c hf
  have hs' := FilR.strip f c' hf'
  refine comp_of (kz := kz20) t_same (fn := af20) rfl (Nat.le_of_ble_eq_true rfl) fun gl => ?_
  show M _ _ (.code B20) _ (St.init gl 6 [.agg (stripL c), .agg (stripL c')] _) (Fin [.tmp 4] _)
  rw [U20]
  generalize stripL c = c2 at hs
  generalize stripL c' = c3 at hs'
  clear hf hf' c c'
  cases hs with | mk k nm tx kids xs n tk hn hx =>
  cases hs' with | mk _ _ _ _ xs' n' tk' hn' hx' =>
  subst hn hn'
  rw [bld] at hb
  split at hb
  · cases hb
  · split at hb
    · cases hb
    · have hc := blds_cnt kids (d + 1) (w + 1) (by omega) hb
      have hl := (blds_le kids (d + 1) (w + 1) (by omega)).2 hb
      have key := w_same S k nm tx kids xs xs' tk tk' hx hx' (d + 1) (w + 1) (by omega) hb (by omega) (by omega) gl kids [] rfl
      simp only [strEq_self, go_sem, ne_eq, not_false_eq_true, reduceIte, Nat.reduceMul, Nat.reduceAdd, Nat.reduceSub, Nat.reduceEqDiff, Nat.reduceLeDiff, Nat.reduceLT, List.take_succ_cons, List.take_zero, List.drop_succ_cons, List.cons_append]
      rw [M_loop]
      simp only [kz20, K20_1, List.length_cons, List.length_nil, Int.cast_ofNat_Int, Int.natCast_zero, go_sem, ne_eq, not_false_eq_true, reduceIte, Nat.reduceMul, Nat.reduceAdd, Nat.reduceSub, Nat.reduceEqDiff, Nat.reduceLeDiff, Nat.reduceLT, List.take_succ_cons, List.take_zero, List.drop_succ_cons, List.cons_append] at key ⊢
      exact key
theorem s_same_all : ∀ D, S_same D
  | 0 => fun f c c' d w _ _ hw hb h => by
    cases f with | mk k nm tx kids =>
    rw [bld] at hb
    split at hb
    · cases hb
    · omega
  | D + 1 => s_same (s_same_all D)
end
theorem same_eq {f : Fil} {c c' : List V} (h1 : FilR f c) (h2 : FilR f c') (hc : chk f = 0) : F_same [.agg c, .agg c'] = some (.b true) := call_same (s_same_all 7) (d := 1) (w := 0) h1 h2 (by decide) hc (by decide)
end Go.Proofs.YtbhclhgljnoioaaDoor
set_option linter.unusedSimpArgs false
set_option linter.unusedVariables false
namespace Go.Proofs.YtbhclhgljnoioaaDoor
open Ai Go.Shelf
/-! ### LangBack -/
noncomputable def X_back := xs [(15, F_light), (14, F_awake), (16, F_print), (18, F_check), (19, F_parse), (20, F_same)]
theorem t_LangBack : Tells tabx told X_back := tells_cons o_light (tells_cons o_awake (tells_cons o_print (tells_cons o_check (tells_cons o_parse (tells_cons o_same tells_nil)))))
/-! ### LangSettled -/
theorem filV_bad {ts : List Tok} {e : Nat} (h : (filV ts e).2.2 ≠ 0) : (filV ts e).1 = fil0 := by
  unfold filV at h ⊢
  split
  · rfl
  · split
    · rfl
    · rename_i h1 h2
      rw [if_neg h1, if_neg h2] at h
      exact absurd rfl h
theorem parseV_bad {s : List UInt8} (h : (parseV s).2.2 ≠ 0) : (parseV s).1 = fil0 := by
  unfold parseV at h ⊢
  cases hl : lx s 0 with
  | bad a e => rfl
  | ok ts =>
    rw [hl] at h
    dsimp only at h ⊢
    split
    · rfl
    · rename_i h1
      rw [if_neg h1] at h
      exact filV_bad h
theorem parseV_chk (s : List UInt8) : chk (parseV s).1 = 0 := by
  unfold parseV
  cases hl : lx s 0 with
  | bad a e => exact fil0_ok
  | ok ts =>
    dsimp only
    split
    · exact fil0_ok
    · exact filV_ok ts s.length
theorem t_LangSettled : Tells tabx told X_back := t_LangBack
theorem U6 : type_of% (@M_open _ _ B6.eq_1) := @M_open _ _ B6.eq_1
def kz6 (_ : Nat) : List Nat := []
set_option maxRecDepth 100000 in
theorem w_LangSettled (s : List UInt8) (gl : Nat → List V) : M X_back (kz6) (.code B6) [] (St.init gl 7 [.s s] {}) (Fin [.tmp 2] (.b true)) := by
  rw [U6]
  have y0 : X_back 14 [] = some (.b true) := rfl
  by_cases h1 : s.length ≤ 4096
  · have e1 : decide ((4096 : Int) < (s.length : Int)) = false := decide_eq_false (by omega)
    obtain ⟨c, y1, hc⟩ := parse_eq s (by omega)
    replace y1 : X_back 19 [.s s] = _ := y1
    have hchk := parseV_chk s
    have hbad := @parseV_bad s
    generalize parseV s = r at *
    obtain ⟨f, pos, er⟩ := r
    simp only at y1 hc hchk hbad
    by_cases he : er = 0
    · subst he
      have hok := chk_ok hchk
      have hp : printV f = tellF f := by unfold printV; rw [if_pos hchk]
      have y2 : X_back 16 [.agg c] = some (.tup [.s (printV f), .i .i64 (chk f : Nat)]) := print_eq f c hc hok
      have y3 : X_back 18 [.agg c] = some (.i .i64 (chk f : Nat)) := check_eq f c hc
      obtain ⟨c', y4, hc'⟩ := parse_eq (tellF f) (by have := chk_len hchk; omega)
      rw [parse_tell hok hchk] at y4 hc'
      replace y4 : X_back 19 [.s (tellF f)] = _ := y4
      have y5 : X_back 20 [.agg c, .agg c'] = some (.b true) := same_eq hc hc' hchk
      have y6 : X_back 16 [.agg c'] = some (.tup [.s (printV f), .i .i64 (chk f : Nat)]) := print_eq f c' hc' hok
      rw [hp] at y2 y6
      rw [hchk] at y2 y3 y6
      generalize tellF f = t at *
      have f0 : decide ((0 : Int) = 0) = true := by decide
      cases hc with | mk k nm tx kids xs n tk hn hx =>
      cases hc' with | mk _ _ _ _ xs' n' tk' hn' hx' =>
      simp only [Int.natCast_zero, Int.cast_ofNat_Int] at y1 y2 y3 y4 y6
      simp only [e1, y0, y1, y2, y3, y4, y5, y6, f0, strEq_self, Int.natCast_zero, Int.cast_ofNat_Int, go_sem, ne_eq, not_false_eq_true, reduceIte, Nat.reduceMul, Nat.reduceAdd, Nat.reduceSub, Nat.reduceEqDiff, Nat.reduceLeDiff, Nat.reduceLT, List.take_succ_cons, List.take_zero, List.drop_succ_cons, List.cons_append]
    · have hf := hbad he
      subst hf
      obtain ⟨tk, rfl⟩ := fil0_cells hc
      have f1 : decide ((er : Int) = 0) = false := decide_eq_false (by omega)
      have y5 : X_back 20 [.agg [.i .i64 0, .s [], .s [], .sl [] 0 tk], .agg [.i .i64 0, .s [], .s [], .sl [] 0 .nil]] = some (.b true) := same_eq hc fil0R hchk
      simp only [e1, y0, y1, y5, f1, go_sem, ne_eq, not_false_eq_true, reduceIte, Nat.reduceMul, Nat.reduceAdd, Nat.reduceSub, Nat.reduceEqDiff, Nat.reduceLeDiff, Nat.reduceLT, List.take_succ_cons, List.take_zero, List.drop_succ_cons, List.cons_append]
  · have e1 : decide ((4096 : Int) < (s.length : Int)) = true := decide_eq_true (by omega)
    simp only [e1, y0, go_sem, ne_eq, not_false_eq_true, reduceIte, Nat.reduceMul, Nat.reduceAdd, Nat.reduceSub, Nat.reduceEqDiff, Nat.reduceLeDiff, Nat.reduceLT, List.take_succ_cons, List.take_zero, List.drop_succ_cons, List.cons_append]
end Go.Proofs.YtbhclhgljnoioaaDoor
