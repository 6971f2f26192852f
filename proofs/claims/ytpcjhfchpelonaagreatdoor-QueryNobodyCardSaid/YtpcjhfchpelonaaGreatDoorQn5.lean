/- Who is asked is nobody: the ways to its keys, walked. -/
import Derived.Test.YtpcjhfchpelonaaGreatDoorQn1
set_option linter.unusedSimpArgs false
set_option linter.unusedVariables false
namespace Go.Proofs.YtpcjhfchpelonaaGreatDoor
open Ai
/-! ### after -/
def K85_1 : List Fr := [.blk 0,
 .seq (.seq (.reg [⟨some 2, .mov (.k (.s [])), none⟩])
 .ret)]
theorem UH85_1 : type_of% (@Hp_open _ _ L85_1.eq_1) := @Hp_open _ _ L85_1.eq_1
theorem UH85 : type_of% (@Hp_open _ _ B85.eq_1) := @Hp_open _ _ B85.eq_1
def kz85 (_ : Nat) : List Nat := [0, 1, 2, 5, 6, 7, 8, 9, 10, 11, 12, 13, 14, 15, 16, 17, 18, 19, 20, 21, 22, 23, 24, 25, 26, 27, 28, 29, 30, 31, 32, 33]
theorem bytes_at (s : List UInt8) (n : Nat) (h : n < s.length) : ∃ c : UInt8, ((s.map byteV).drop n).take 1 = [.i .u8 c.toNat] := by
  refine ⟨s[n], ?_⟩
  rw [← List.map_drop, List.drop_eq_getElem_cons h, List.map_cons, List.take_succ_cons, List.take_zero]
  rfl
theorem wr8 (n : Int) (h0 : 0 ≤ n) (h : n < 256) : wr .u8 n = n := by
  have : wr .u8 n = n % 256 := rfl
  rw [this]; omega
theorem bytesOf_app (r : List V) : ∀ l : List UInt8, bytesOf? (l.map byteV ++ r) = (bytesOf? r).map (l ++ ·)
  | [] => by cases h : bytesOf? r <;> simp [h]
  | a :: l => by
    have ih := bytesOf_app r l
    have e : UInt8.ofNat (Int.toNat (a.toNat : Int)) = a := by simp
    rw [List.map_cons, List.cons_append]
    show (bytesOf? (l.map byteV ++ r)).map (UInt8.ofNat (Int.toNat (a.toNat : Int)) :: ·) = _
    rw [ih, e]
    cases h : bytesOf? r <;> simp [h]
theorem conv_toStr (st : St) (xs : List V) (n : Nat) (tk : Tk) : convV st .toStr (.sl xs n tk) = (bif Nat.beq xs.length (n * 1) then (bytesOf? xs).map V.s else none) := by
  show (match (bif Nat.beq xs.length (n * 1) then some (xs, n) else none : Option (List V × Nat)) with | some (cs, _) => (bytesOf? cs).map V.s | none => none) = _
  cases Nat.beq xs.length (n * 1) <;> rfl
set_option maxRecDepth 100000 in
theorem w_after (s : List UInt8) (tk : Tk) (hs : s.length ≤ 100000) (hh : H) : ∀ (n : Nat) (l8 : List (Nat × List V)), n ≤ s.length →
    Hp.M noX noY (kz85) (.code L85_1) (.loop L85_1 :: K85_1) ⟨gl0, (.node (.node (.node (.node (.node (.node .leaf .any .leaf) .any (.node .leaf .any .leaf)) .any (.node (.node .leaf .any .leaf) .any (.node .leaf .any .leaf))) (.sl (s.map byteV) s.length tk) (.node (.node (.node .leaf .any .leaf) .any (.node .leaf .any .leaf)) .any (.node (.node .leaf .any .leaf) .any (.node .leaf .any .leaf)))) .any (.node (.node (.node (.node .leaf .any .leaf) .any (.node .leaf .any .leaf)) .any (.node (.node .leaf .any .leaf) .any (.node .leaf .any .leaf))) .any (.node (.node (.node .leaf .any .leaf) .any (.node .leaf .any .leaf)) .any (.node (.node .leaf .any .leaf) .any (.node .leaf .any .leaf))))) .any (.node (.node (.node (.node (.node .leaf .any .leaf) .any (.node .leaf .any .leaf)) .any (.node (.node .leaf .any .leaf) .any (.node .leaf .any .leaf))) (.i .i64 (n : Nat)) (.node (.node (.node .leaf .any .leaf) .any (.node .leaf .any .leaf)) .any (.node (.node .leaf .any .leaf) .any (.node .leaf .any .leaf)))) .any (.node (.node (.node (.node .leaf .any .leaf) .any (.node .leaf .any .leaf)) .any (.node (.node .leaf .any .leaf) .any (.node .leaf .any .leaf))) .any (.node (.node (.node .leaf .any .leaf) .any (.node .leaf .any .leaf)) .any (.node (.node .leaf .any .leaf) .any (.node .leaf .any .leaf)))))), [], l8, hh⟩
      (fun ex st => ∃ v, Fin [.tmp 2] v ex st ∧ ∃ t, v = .s t) := by
  intro n
  obtain ⟨nx, obs, nt, tips⟩ := hh
  induction n with
  | zero =>
    intro l8 hn
    have e1 : decide ((0 : Int) < ((0 : Nat) : Int)) = false := rfl
    rw [UH85_1]
    simp only [e1, splice, K85_1, go_sem, ne_eq, not_false_eq_true, reduceIte, Nat.reduceMul, Nat.reduceAdd, Nat.reduceSub, Nat.reduceEqDiff, Nat.reduceLeDiff, Nat.reduceLT, List.take_succ_cons, List.take_zero, List.drop_succ_cons, List.cons_append]
    exact ⟨_, rfl, _, rfl⟩
  | succ n ih =>
    intro l8 hn
    have e1 : decide ((0 : Int) < ((n + 1 : Nat) : Int)) = true := decide_eq_true (by omega)
    have w1 : wr .i64 (((n + 1 : Nat) : Int) - 1) = ((n : Nat) : Int) := by rw [wr64] <;> omega
    have g1 : n < s.length := by omega
    have g2 : n + 1 ≤ s.length := hn
    have g3 : n ≤ s.length := by omega
    obtain ⟨c, ht⟩ := bytes_at s n g1
    have hc := c.toNat_lt
    rw [UH85_1]
    cases e2 : decide ((c.toNat : Int) < 255) with
    | false =>
      have := fun l8 => ih l8 (by omega)
      simp only [e1, w1, g1, g2, g3, rd_ip, List.length_map, Nat.mul_one, ht, e2, splice, go_sem, ne_eq, not_false_eq_true, reduceIte, Nat.reduceMul, Nat.reduceAdd, Nat.reduceSub, Nat.reduceEqDiff, Nat.reduceLeDiff, Nat.reduceLT, List.take_succ_cons, List.take_zero, List.drop_succ_cons, List.cons_append]
      rw [Hp.M_loop]
      simp only [kz85, K85_1, List.length_append, List.length_cons, List.length_nil, Nat.zero_add, go_sem, ne_eq, not_false_eq_true, reduceIte, Nat.reduceMul, Nat.reduceAdd, Nat.reduceSub, Nat.reduceEqDiff, Nat.reduceLeDiff, Nat.reduceLT, List.take_succ_cons, List.take_zero, List.drop_succ_cons, List.cons_append] at this ⊢
      exact this _
    | true =>
      have w2 : wr .u8 ((c.toNat : Int) + 1) = ((c.toNat + 1 : Nat) : Int) := by rw [wr8] <;> simp only [decide_eq_true_eq] at e2 <;> omega
      have hl : min n s.length = n := Nat.min_eq_left g3
      have hb : bytesOf? (List.take n (List.map byteV s) ++ [V.i .u8 ((c.toNat + 1 : Nat) : Int)]) = some (s.take n ++ [UInt8.ofNat (c.toNat + 1)]) := by
        rw [← List.map_take, bytesOf_app]
        rfl
      have hm : n + 1 ≤ most := by unfold most; omega
      simp only [e1, w1, w2, g1, g2, g3, hl, rd_ip, List.length_map, List.length_take, Nat.mul_one, Nat.sub_zero, Nat.zero_mul, List.drop_zero, Nat.zero_le, Nat.le_refl, allOne, List.length_append, List.length_cons, List.length_nil, hb, hm, conv_toStr, ht, e2, splice, K85_1, go_sem, ne_eq, not_false_eq_true, reduceIte, Nat.reduceMul, Nat.reduceAdd, Nat.reduceSub, Nat.reduceEqDiff, Nat.reduceLeDiff, Nat.reduceLT, List.take_succ_cons, List.take_zero, List.drop_succ_cons, List.cons_append]
      exact ⟨_, rfl, _, rfl⟩
theorem s_after (s : List UInt8) (hs : s.length ≤ 100000) : ∃ v, Comp tabx told 85 [.s s] v ∧ ∃ t, v = .s t := by
  refine comp_ex (xf := noX) (xh := noY) (kz := kz85) (fn := af85) tells_noX tells_noY rfl (Nat.le_of_ble_eq_true rfl) ?_
  rw [show stripL [V.s s] = [.s s] from by simp only [stripL, V.strip]]
  show Hp.M _ _ _ (.code B85) _ (St.init gl0 6 _ _) (fun ex st => ∃ v, Fin [.tmp 2] v ex st ∧ _)
  rw [UH85]
  have := fun tk hh l8 => w_after s tk hs hh s.length l8 (Nat.le_refl _)
  simp only [splice, go_sem, ne_eq, not_false_eq_true, reduceIte, Nat.reduceMul, Nat.reduceAdd, Nat.reduceSub, Nat.reduceEqDiff, Nat.reduceLeDiff, Nat.reduceLT, List.take_succ_cons, List.take_zero, List.drop_succ_cons, List.cons_append]
  rw [Hp.M_loop]
  simp only [kz85, K85_1, List.length_append, List.length_cons, List.length_nil, Nat.zero_add, go_sem, ne_eq, not_false_eq_true, reduceIte, Nat.reduceMul, Nat.reduceAdd, Nat.reduceSub, Nat.reduceEqDiff, Nat.reduceLeDiff, Nat.reduceLT, List.take_succ_cons, List.take_zero, List.drop_succ_cons, List.cons_append] at this ⊢
  exact this _ _ _
end Go.Proofs.YtpcjhfchpelonaaGreatDoor
set_option linter.unusedSimpArgs false
set_option linter.unusedVariables false
namespace Go.Proofs.YtpcjhfchpelonaaGreatDoor
open Ai
/-! ### found -/
def R_after (_ : List V) (v : V) : Prop := ∃ t, v = .s t
noncomputable def X_fnd := xs [(85, pickP 85 R_after)]
theorem t_fndX : Tells tabx told X_fnd := tells_cons pickP_tells tells_nil
def Y_fnd := ys [(65, runQ 65)]
theorem t_fnd : Hp.TellsI tabx told Y_fnd := itells_cons (fun _ _ _ _ e => runQ_ok e) itells_nil
def hR (qc : List V) (nt : Nat) (tips : List (Nat × (Nat × TypeId))) : H := ⟨3, (2, .cells 26 qc) :: hO.objs, nt, tips⟩
def ResF (qc : List V) (v : V) (h' : H) : Prop := ∃ tk nt tips, v = .sl [] 0 tk ∧ h' = hR qc nt tips
theorem UH51 : type_of% (@Hp_open _ _ B51.eq_1) := @Hp_open _ _ B51.eq_1
def kz51 (n : Nat) : List Nat := if n = 4 then [0, 1, 4, 6, 7, 8, 9, 10, 11, 12, 13, 14, 15, 16, 17, 18, 19, 20, 21, 22, 23, 24, 25, 26, 27, 31, 32, 33, 34, 35, 36, 37, 38, 39, 40, 41, 42, 43, 44, 45, 46, 47, 48, 49, 50, 51, 52, 53, 54, 55, 56, 57, 58, 59, 60, 61, 62, 63, 64, 65, 66, 67, 68, 69, 70, 71, 72, 73, 74, 75, 76, 77, 78] else if n = 8 then [0, 1, 4, 6, 7, 8, 9, 10, 11, 12, 13, 14, 15, 16, 17, 18, 19, 20, 21, 22, 23, 24, 25, 26, 27, 31, 32, 33, 34, 35, 36, 37, 38, 39, 40, 44, 45, 46, 47, 48, 49, 50, 51, 52, 53, 54, 55, 56, 57, 58, 59, 60, 61, 62, 63, 64, 65, 66, 67, 68, 69, 70, 71, 72, 73, 74, 75, 76, 77, 78] else []
set_option maxRecDepth 100000 in
theorem s_found (qc : List V) (nt : Nat) (tips : List (Nat × (Nat × TypeId))) (pk : Int) (best : List UInt8) (hp : pk = 0 ∨ pk = 1) (hb : best.length ≤ 8192) :
    ∃ v h', Hp.CompI tabx told 51 [.agg [.i .i64 pk, .s [], .s best], .agg srcO] (hR qc nt tips) v h' ∧ ResF qc v h' := by
  refine compI_ex (xf := X_fnd) (xh := Y_fnd) (kz := kz51) (fn := af51) t_fndX t_fnd rfl (Nat.le_of_ble_eq_true rfl) ?_
  show Hp.M _ _ _ (.code B51) _ (St.init gl0 7 _ _) (fun ex st => ∃ v h', Hp.FinI [.tmp 4] v h' ex st ∧ _)
  rw [UH51]
  obtain ⟨v, hc, hr⟩ := s_after best (by omega)
  obtain ⟨v, y1, t, rfl⟩ := pickP_spec (R := R_after) hc hr
  have y1 : X_fnd 85 [.s best] = some (.s t) := y1
  have y2 : ∀ (nt : Nat) (tips : List (Nat × (Nat × TypeId))) (a b : List UInt8), Y_fnd 65 [.s a, .s b, .p 0 0] ⟨3, (2, .cells 26 qc) :: hO.objs, nt, tips⟩ = some (.sl [] 0 (.own (nt + 1)), ⟨3, (2, .cells 26 qc) :: hO.objs, nt + 2, (nt + 1, (0, 35)) :: (nt, (0, 35)) :: tips⟩) := fun nt tips a b => by
    rw [Y_fnd, ys_hit]; exact keys_nobody 3 qc nt tips a b
  rcases hp with rfl | rfl
  · have e0 : decide ((0 : Int) = 2) = false := rfl
    have e1 : decide ((0 : Int) = 1) = false := rfl
    simp only [hR, srcO, k_callvI, List.nil_append, e0, e1, y1, y2, splice, go_sem, ne_eq, not_false_eq_true, reduceIte, Nat.reduceMul, Nat.reduceAdd, Nat.reduceSub, Nat.reduceEqDiff, Nat.reduceLeDiff, Nat.reduceLT, List.take_succ_cons, List.take_zero, List.drop_succ_cons, List.cons_append]
    exact ⟨_, _, ⟨rfl, rfl⟩, _, _, _, rfl, rfl⟩
  · have e0 : decide ((1 : Int) = 2) = false := rfl
    have e1 : decide ((1 : Int) = 1) = true := rfl
    simp only [hR, srcO, k_callvI, List.nil_append, e0, e1, y1, y2, splice, go_sem, ne_eq, not_false_eq_true, reduceIte, Nat.reduceMul, Nat.reduceAdd, Nat.reduceSub, Nat.reduceEqDiff, Nat.reduceLeDiff, Nat.reduceLT, List.take_succ_cons, List.take_zero, List.drop_succ_cons, List.cons_append]
    exact ⟨_, _, ⟨rfl, rfl⟩, _, _, _, rfl, rfl⟩
/-! ### lines, cut, sorting: of no pairs -/
def qL (k : Int) (of_ : List UInt8) (fk : Int) (nm tx : List UInt8) (xs : List V) (n : Nat) (tk : Tk) (by_ : List UInt8) (dn : Bool) (sk fi : Int) : List V := [.i .i64 k, .s of_, .i .i64 fk, .s nm, .s tx, .sl xs n tk, .s by_, .b dn, .i .i64 sk, .i .i64 fi]
theorem c_lines (k : Int) (of_ : List UInt8) (fk : Int) (nm tx : List UInt8) (xs : List V) (n : Nat) (tk : Tk) (by_ : List UInt8) (dn : Bool) (sk fi : Int) (tk1 : Nat) :
    Comp tabx told 54 [.agg (qL k of_ fk nm tx xs n tk by_ dn sk fi), .sl [] 0 (.own tk1)] (.tup [.sl [] 0 .no, .i .i64 0]) :=
  comp_runF told_xf 3000 fun gl hgl => by cases hgl; kernel_rfl
theorem reverse_none (h : H) : runQ 55 [.sl [] 0 .no] h = some (.tup [], h) := by kernel_rfl
theorem sort_none (t : Nat) (h : H) : runQ 57 [.sl [] 0 (.own t), .fn 58 [] [.p 2 0]] h = some (.tup [], h) := by kernel_rfl
theorem UH56 : type_of% (@Hp_open _ _ B56.eq_1) := @Hp_open _ _ B56.eq_1
def kz56 (_ : Nat) : List Nat := []
def R_cut (_ : List V) (v : V) : Prop := ∃ tk, v = .sl [] 0 tk
set_option maxRecDepth 100000 in
theorem s_cut (k : Int) (of_ : List UInt8) (fk : Int) (nm tx : List UInt8) (xs : List V) (n : Nat) (tk : Tk) (by_ : List UInt8) (dn : Bool) (sk fi : Int) (tk1 : Tk) (h0 : 0 ≤ sk) :
    ∃ v, Comp tabx told 56 [.agg (qL k of_ fk nm tx xs n tk by_ dn sk fi), .sl [] 0 tk1] v ∧ R_cut [.agg (qL k of_ fk nm tx xs n tk by_ dn sk fi), .sl [] 0 tk1] v := by
  refine comp_ex (xf := noX) (xh := noY) (kz := kz56) (fn := af56) tells_noX tells_noY rfl (Nat.le_of_ble_eq_true rfl) ?_
  unfold qL R_cut
  simp only [stripL, V.strip]
  generalize tk1.cp = tk2
  generalize stripL xs = xs2
  generalize tk.cp = tk3
  show Hp.M _ _ _ (.code B56) _ (St.init gl0 5 _ _) (fun ex st => ∃ v, Fin [.tmp 4] v ex st ∧ _)
  rw [UH56]
  have m1 : (if (0 : Int) < sk then (0 : Int) else sk) = 0 := by split <;> omega
  cases e1 : decide (0 < fi) with
  | false =>
    simp only [m1, e1, Int.cast_ofNat_Int, splice, go_sem, ne_eq, not_false_eq_true, reduceIte, Nat.reduceMul, Nat.reduceAdd, Nat.reduceSub, Nat.reduceEqDiff, Nat.reduceLeDiff, Nat.reduceLT, List.take_succ_cons, List.take_zero, List.drop_succ_cons, List.cons_append]
    exact ⟨_, rfl, _, rfl⟩
  | true =>
    have m2 : (if (0 : Int) < fi then (0 : Int) else fi) = 0 := by rw [if_pos (of_decide_eq_true e1)]
    simp only [m1, m2, e1, Int.cast_ofNat_Int, splice, go_sem, ne_eq, not_false_eq_true, reduceIte, Nat.reduceMul, Nat.reduceAdd, Nat.reduceSub, Nat.reduceEqDiff, Nat.reduceLeDiff, Nat.reduceLT, List.take_succ_cons, List.take_zero, List.drop_succ_cons, List.cons_append]
    exact ⟨_, rfl, _, rfl⟩
/-! ### run -/
theorem k_boxI (xf : FuncId → List V → Option V) (xh : FuncId → List V → H → Option (V × H)) (gl : Nat → List V) (T : T) (its : List (Nat × (List UInt8 × Nat))) (loc : List (Nat × List V)) (nx : Nat) (obs : List (Nat × Ai.Obj)) (nt : Nat) (tips : List (Nat × (Nat × TypeId))) (d : Nat) (ty : TypeId) (x : Opd) :
    Hp.stepK xf xh ⟨gl, T, its, loc, ⟨nx, obs, nt, tips⟩⟩ d (.box ty x) = (match (St.ev ⟨gl, T, its, loc, ⟨nx, obs, nt, tips⟩⟩ x).cells? with | some cs => some (.p nx 0, ⟨gl, T, its, loc, ⟨nx + 1, (nx, .cells ty cs) :: obs, nt, tips⟩⟩) | none => none) := rfl
noncomputable def F_lines : List V → Option V := pickP 54 fun _ v => v = .tup [.sl [] 0 .no, .i .i64 0]
noncomputable def X_run := xs [(54, F_lines), (56, pickP 56 R_cut)]
theorem t_runX : Tells tabx told X_run := tells_cons pickP_tells (tells_cons pickP_tells tells_nil)
noncomputable def Y_run (qc : List V) := ys [(51, pick 51 fun _ _ v h' => ResF qc v h'), (55, runQ 55), (57, runQ 57)]
theorem t_run (qc : List V) : Hp.TellsI tabx told (Y_run qc) := itells_cons pick_tells (itells_cons (fun _ _ _ _ e => runQ_ok e) (itells_cons (fun _ _ _ _ e => runQ_ok e) itells_nil))
def K29_2 : List Fr := [.blk 2,
 .seq (.seq (.reg [⟨some 72, .load true 10 (.t 3), none⟩, ⟨some 73, .mov (.t 13), none⟩, ⟨some 74, .call true 56 [(.t 72), (.t 73)], none⟩, ⟨some 6, .mov (.t 74), none⟩, ⟨some 7, .mov (.k (.i .i64 0)), none⟩])
 .ret)]
theorem UH29_2 : type_of% (@Hp_open _ _ L29_2.eq_1) := @Hp_open _ _ L29_2.eq_1
def K29_1 : List Fr := [.blk 0,
 .seq (.seq (.seq (.reg [⟨some 34, .faddr 0 (.t 3), none⟩, ⟨some 35, .load false 1 (.t 34), none⟩, ⟨some 36, .bin .neq (.t 35) (.k (.i .i64 0)), none⟩])
 (.cond (.t 36)
 (.seq (.reg [⟨some 38, .load true 10 (.t 3), none⟩, ⟨some 39, .mov (.t 8), none⟩, ⟨some 40, .call true 54 [(.t 38), (.t 39)], none⟩, ⟨some 37, .mov (.t 40), none⟩, ⟨some 41, .ext (.t 37) 0, none⟩, ⟨some 42, .ext (.t 37) 1, none⟩, ⟨some 11, .mov (.t 41), none⟩, ⟨some 12, .mov (.t 42), none⟩])
 (.seq (.seq (.reg [⟨some 43, .mov (.t 12), none⟩, ⟨some 44, .bin .neq (.t 43) (.k (.i .i64 0)), none⟩])
 (.cond (.t 44)
 (.seq (.reg [⟨some 45, .mov (.t 12), none⟩, ⟨some 6, .mov (.k (.sl [] 0 .nil)), none⟩, ⟨some 7, .mov (.t 45), none⟩])
 .ret)
 .skip))
 (.seq (.seq (.reg [⟨some 46, .faddr 7 (.t 3), none⟩, ⟨some 47, .load false 1 (.t 46), none⟩])
 (.cond (.t 47)
 (.reg [⟨some 48, .mov (.t 11), none⟩, ⟨some 49, .call false 55 [(.t 48)], none⟩])
 .skip))
 (.seq (.reg [⟨some 50, .load true 10 (.t 3), none⟩, ⟨some 51, .mov (.t 11), none⟩, ⟨some 52, .call true 56 [(.t 50), (.t 51)], none⟩, ⟨some 6, .mov (.t 52), none⟩, ⟨some 7, .mov (.k (.i .i64 0)), none⟩])
 .ret))))
 .skip))
 (.seq (.reg [⟨some 53, .mov (.t 8), none⟩, ⟨some 54, .mkfn 58 [] [(.t 3)], none⟩, ⟨some 55, .call false 57 [(.t 53), (.t 54)], none⟩])
 (.seq (.reg [⟨some 13, .movnil 60, none⟩])
 (.seq (.seq (.reg [⟨some 56, .mov (.t 8), none⟩, ⟨some 57, .len .slice (.t 56), none⟩, ⟨some 58, .mov (.k (.i .i64 0)), none⟩])
 (.blk 2 (.loop L29_2)))
 (.seq (.reg [⟨some 72, .load true 10 (.t 3), none⟩, ⟨some 73, .mov (.t 13), none⟩, ⟨some 74, .call true 56 [(.t 72), (.t 73)], none⟩, ⟨some 6, .mov (.t 74), none⟩, ⟨some 7, .mov (.k (.i .i64 0)), none⟩])
 .ret)))))]
theorem UH29_1 : type_of% (@Hp_open _ _ L29_1.eq_1) := @Hp_open _ _ L29_1.eq_1
theorem UH29 : type_of% (@Hp_open _ _ B29.eq_1) := @Hp_open _ _ B29.eq_1
def kz29 (_ : Nat) : List Nat := [0, 1, 2, 4, 5, 6, 7, 9, 10, 11, 12, 14, 15, 16, 17, 21, 22, 23, 24, 25, 26, 27, 28, 29, 30, 31, 32, 33, 34, 35, 36, 37, 38, 39, 40, 41, 42, 43, 44, 45, 46, 47, 48, 49, 50, 51, 52, 53, 54, 55, 59, 60, 61, 62, 63, 64, 65, 66, 67, 68, 69, 70, 71, 72, 73, 74]
def ResRun (v : V) : Prop := ∃ tk, v = .tup [.sl [] 0 tk, .i .i64 0]
set_option maxRecDepth 100000 in
theorem s_run (k : Int) (of_ : List UInt8) (fk : Int) (nm tx : List UInt8) (xs : List V) (n : Nat) (tk : Tk) (by_ : List UInt8) (dn : Bool) (sk fi : Int) (h0 : 0 ≤ sk) (pk : Int) (best : List UInt8) (hp : pk = 0 ∨ pk = 1) (hb : best.length ≤ 8192) :
    ∃ v h', Hp.CompI tabx told 29 [.agg (qL k of_ fk nm tx xs n tk by_ dn sk fi), .agg [.i .i64 pk, .s [], .s best], .agg srcO] hO v h' ∧ ResRun v := by
  have yF : ∀ (nt : Nat) (tips : List (Nat × (Nat × TypeId))), ∃ tk1 nt1 tips1, Y_run (qL k of_ fk nm tx xs n tk by_ dn sk fi) 51 [.agg [.i .i64 pk, .s [], .s best], .agg srcO] (hR (qL k of_ fk nm tx xs n tk by_ dn sk fi) nt tips) = some (.sl [] 0 tk1, hR (qL k of_ fk nm tx xs n tk by_ dn sk fi) nt1 tips1) := fun nt tips => by
    obtain ⟨v, h', hc, hr⟩ := s_found (qL k of_ fk nm tx xs n tk by_ dn sk fi) nt tips pk best hp hb
    obtain ⟨v, h', e1, tk1, nt1, tips1, rfl, rfl⟩ := pick_spec (R := fun _ _ v h' => ResF (qL k of_ fk nm tx xs n tk by_ dn sk fi) v h') hc hr
    exact ⟨tk1, nt1, tips1, e1⟩
  have yL : ∀ t, X_run 54 [.agg (qL k of_ fk nm tx xs n tk by_ dn sk fi), .sl [] 0 (.own t)] = some (.tup [.sl [] 0 .no, .i .i64 0]) := fun t => by
    obtain ⟨v, e1, e2⟩ := pickP_spec (R := fun _ v => v = .tup [.sl [] 0 .no, .i .i64 0]) (c_lines k of_ fk nm tx xs n tk by_ dn sk fi t) rfl
    rw [e2] at e1
    exact e1
  have yC : ∀ t, ∃ tk2, X_run 56 [.agg (qL k of_ fk nm tx xs n tk by_ dn sk fi), .sl [] 0 t] = some (.sl [] 0 tk2) := fun t => by
    obtain ⟨v, hc, hr⟩ := s_cut k of_ fk nm tx xs n tk by_ dn sk fi t h0
    obtain ⟨v, e1, tk2, rfl⟩ := pickP_spec (R := R_cut) hc hr
    exact ⟨tk2, e1⟩
  have yR : ∀ h, Y_run (qL k of_ fk nm tx xs n tk by_ dn sk fi) 55 [.sl [] 0 .no] h = some (.tup [], h) := fun h => by
    rw [Y_run, ys_miss _ _ _ _ _ _ (by decide), ys_hit]; exact reverse_none h
  have yS : ∀ t h, Y_run (qL k of_ fk nm tx xs n tk by_ dn sk fi) 57 [.sl [] 0 (.own t), .fn 58 [] [.p 2 0]] h = some (.tup [], h) := fun t h => by
    rw [Y_run, ys_miss _ _ _ _ _ _ (by decide), ys_miss _ _ _ _ _ _ (by decide), ys_hit]; exact sort_none t h
  refine compI_ex (xf := X_run) (xh := Y_run (qL k of_ fk nm tx xs n tk by_ dn sk fi)) (kz := kz29) (fn := af29) t_runX (t_run _) rfl (Nat.le_of_ble_eq_true rfl) ?_
  show Hp.M _ _ _ (.code B29) _ (St.init gl0 7 _ _) (fun ex st => ∃ v h', Hp.FinI [.tmp 6, .tmp 7] v h' ex st ∧ _)
  rw [UH29]
  generalize hY : Y_run (qL k of_ fk nm tx xs n tk by_ dn sk fi) = YY at *
  obtain ⟨tk1, nt1, tips1, yF⟩ := yF 1 [(0, (0, 35))]
  unfold hR qL at *
  obtain ⟨tk3, yC3⟩ := yC .no
  have e1 : decide ((0 : Int) < ((0 : Nat) : Int)) = false := rfl
  simp only [hO, srcO] at yF yL yC yR yS
  simp only [hO, srcO, k_boxI, yF, e1, splice, go_sem, ne_eq, not_false_eq_true, reduceIte, Nat.reduceMul, Nat.reduceAdd, Nat.reduceSub, Nat.reduceEqDiff, Nat.reduceLeDiff, Nat.reduceLT, List.take_succ_cons, List.take_zero, List.drop_succ_cons, List.cons_append]
  rw [Hp.M_loop]
  simp only [kz29, K29_1, go_sem, ne_eq, not_false_eq_true, reduceIte, Nat.reduceMul, Nat.reduceAdd, Nat.reduceSub, Nat.reduceEqDiff, Nat.reduceLeDiff, Nat.reduceLT, List.take_succ_cons, List.take_zero, List.drop_succ_cons, List.cons_append]
  rw [UH29_1]
  simp only [e1, go_sem, ne_eq, not_false_eq_true, reduceIte, Nat.reduceMul, Nat.reduceAdd, Nat.reduceSub, Nat.reduceEqDiff, Nat.reduceLeDiff, Nat.reduceLT, List.take_succ_cons, List.take_zero, List.drop_succ_cons, List.cons_append]
  cases ek : decide (k = 0) with
  | false =>
    cases dn with
    | false =>
      simp only [ek, yL, yC3, go_sem, ne_eq, not_false_eq_true, reduceIte, Nat.reduceMul, Nat.reduceAdd, Nat.reduceSub, Nat.reduceEqDiff, Nat.reduceLeDiff, Nat.reduceLT, List.take_succ_cons, List.take_zero, List.drop_succ_cons, List.cons_append]
      exact ⟨_, _, ⟨rfl, rfl⟩, _, rfl⟩
    | true =>
      simp only [ek, yL, yC3, yR, go_sem, ne_eq, not_false_eq_true, reduceIte, Nat.reduceMul, Nat.reduceAdd, Nat.reduceSub, Nat.reduceEqDiff, Nat.reduceLeDiff, Nat.reduceLT, List.take_succ_cons, List.take_zero, List.drop_succ_cons, List.cons_append]
      exact ⟨_, _, ⟨rfl, rfl⟩, _, rfl⟩
  | true =>
    obtain ⟨tk4, yC4⟩ := yC (.own (nt1 + 0))
    simp only [Nat.add_zero] at yC4
    simp only [ek, yS, e1, go_sem, ne_eq, not_false_eq_true, reduceIte, Nat.reduceMul, Nat.reduceAdd, Nat.reduceSub, Nat.reduceEqDiff, Nat.reduceLeDiff, Nat.reduceLT, List.take_succ_cons, List.take_zero, List.drop_succ_cons, List.cons_append]
    rw [Hp.M_loop]
    simp only [kz29, K29_2, go_sem, ne_eq, not_false_eq_true, reduceIte, Nat.reduceMul, Nat.reduceAdd, Nat.reduceSub, Nat.reduceEqDiff, Nat.reduceLeDiff, Nat.reduceLT, List.take_succ_cons, List.take_zero, List.drop_succ_cons, List.cons_append]
    rw [UH29_2]
    simp only [e1, yC4, K29_2, go_sem, ne_eq, not_false_eq_true, reduceIte, Nat.reduceMul, Nat.reduceAdd, Nat.reduceSub, Nat.reduceEqDiff, Nat.reduceLeDiff, Nat.reduceLT, List.take_succ_cons, List.take_zero, List.drop_succ_cons, List.cons_append]
    exact ⟨_, _, ⟨rfl, rfl⟩, _, rfl⟩
end Go.Proofs.YtpcjhfchpelonaaGreatDoor
set_option linter.unusedSimpArgs false
set_option linter.unusedVariables false
namespace Go.Proofs.YtpcjhfchpelonaaGreatDoor
open Ai
theorem wgh_lt {f : Fil} {d w : Nat} (h : (wgh f d w).1 = true) : w + 1 ≤ 8192 := by
  cases f with | mk k nm tx kids =>
  rw [wgh] at h
  split at h
  · cases h
  · omega
def R_qchk (a : List V) (v : V) : Prop := ∀ (k : Int) (of_ : List UInt8) (f : Fil) (c : List V) (by_ : List UInt8) (dn : Bool) (sk fi : Int), a = [.agg (qC k of_ c by_ dn sk fi)] → FilR f c → v = .i .i64 (qchk k of_ f by_ dn sk fi)
theorem R_qchk_ok {k : Int} {of_ : List UInt8} {f : Fil} {c : List V} {by_ : List UInt8} {dn : Bool} {sk fi : Int} (hf : FilR f c) : R_qchk [.agg (qC k of_ c by_ dn sk fi)] (.i .i64 (qchk k of_ f by_ dn sk fi)) := by
  intro k' of' f' c' by' dn' sk' fi' e1 hf'
  simp only [List.cons.injEq, V.agg.injEq, and_true] at e1
  obtain ⟨rfl, rfl, rfl, rfl, rfl, rfl, rfl, rfl⟩ := qC_inj hf hf' e1
  rfl
noncomputable def F_qcheck : List V → Option V := pickP 8 R_qchk
noncomputable def F_rqcheck : List V → Option V := pickP 9 R_qchk
theorem o_qcheck : ∀ a v, F_qcheck a = some v → Comp tabx told 8 a v := pickP_tells
theorem o_rqcheck : ∀ a v, F_rqcheck a = some v → Comp tabx told 9 a v := pickP_tells
section
variable (k : Int) (of_ : List UInt8) (f : Fil) (c : List V) (by_ : List UInt8) (dn : Bool) (sk fi : Int)
theorem qcheck_eq (hf : FilR f c) : F_qcheck [.agg (qC k of_ c by_ dn sk fi)] = some (.i .i64 (qchk k of_ f by_ dn sk fi)) := by
  have hc : Comp tabx told 8 [.agg (qC k of_ c by_ dn sk fi)] (.i .i64 (qchk k of_ f by_ dn sk fi)) := by
    refine comp_of (kz := kz8) t_qc (fn := af8) rfl (Nat.le_of_ble_eq_true rfl) fun gl => ?_
    rw [qC_strip]
    exact w_qc k of_ f (stripL c) by_ dn sk fi (FilR.strip f c hf) gl
  obtain ⟨v, e1, r⟩ := pickP_spec (R := R_qchk) hc (R_qchk_ok hf)
  rw [r k of_ f c by_ dn sk fi rfl hf] at e1
  exact e1
theorem rqcheck_eq (hf : FilR f c) (hok : okL f) (ho : of_.length ≤ 16384) (hbl : by_.length ≤ 16384) : F_rqcheck [.agg (qC k of_ c by_ dn sk fi)] = some (.i .i64 (qchk k of_ f by_ dn sk fi)) := by
  have hc : Comp tabx told 9 [.agg (qC k of_ c by_ dn sk fi)] (.i .i64 (qchk k of_ f by_ dn sk fi)) := by
    refine comp_of (kz := kz9) t_rqc (fn := af9) rfl (Nat.le_of_ble_eq_true rfl) fun gl => ?_
    rw [qC_strip]
    exact w_rqc k of_ f (stripL c) by_ dn sk fi (FilR.strip f c hf) hok ho hbl gl
  obtain ⟨v, e1, r⟩ := pickP_spec (R := R_qchk) hc (R_qchk_ok hf)
  rw [r k of_ f c by_ dn sk fi rfl hf] at e1
  exact e1
end
/-! ### Questions, as a law is handed them -/
/-- A type that is Filter's shape. -/
structure FilT (P : Program) (F I T S : TypeId) : Prop where
  f : ∃ fs : Array Field, P.underlying F = some (.struct fs) ∧ fs.toList.map Field.type = [I, T, T, S]
  i : P.underlying I = some (.int .i64)
  t : P.underlying T = some .string
  s : P.underlying S = some (.slice F)
section
variable {P : Program} {F I T S : TypeId}
theorem shape_i (h : FilT P F I T S) {x : List V} (hs : Shape P I x) : ∃ k : Int, x = [.i .i64 k] := by
  have hi := h.i
  cases hs with
  | i _ k n hu _ => rw [hi] at hu; cases hu; exact ⟨n, rfl⟩
  | b _ _ hu => rw [hi] at hu; cases hu
  | s _ _ hu _ => rw [hi] at hu; cases hu
  | sl _ _ _ _ hu _ _ => rw [hi] at hu; cases hu
  | st _ _ _ hu _ => rw [hi] at hu; cases hu
theorem shape_t (h : FilT P F I T S) {x : List V} (hs : Shape P T x) : ∃ l : List UInt8, x = [.s l] := by
  have hi := h.t
  cases hs with
  | s _ l hu _ => exact ⟨l, rfl⟩
  | b _ _ hu => rw [hi] at hu; cases hu
  | i _ _ _ hu _ => rw [hi] at hu; cases hu
  | sl _ _ _ _ hu _ _ => rw [hi] at hu; cases hu
  | st _ _ _ hu _ => rw [hi] at hu; cases hu
theorem fields4 {fs : List Field} {x : List V} {a b c d : TypeId} (hf : Fields P fs x) (hm : fs.map Field.type = [a, b, c, d]) : ∃ xa xb xc xd, x = xa ++ (xb ++ (xc ++ (xd ++ []))) ∧ Shape P a xa ∧ Shape P b xb ∧ Shape P c xc ∧ Shape P d xd := by
  cases hf with
  | nil => cases hm
  | cons f r xa ya h1 hr =>
    cases hr with
    | nil => cases hm
    | cons f2 r2 xb yb h2 hr2 =>
      cases hr2 with
      | nil => cases hm
      | cons f3 r3 xc yc h3 hr3 =>
        cases hr3 with
        | nil => cases hm
        | cons f4 r4 xd yd h4 hr4 =>
          simp only [List.map_cons, List.cons.injEq, List.map_eq_nil_iff] at hm
          obtain ⟨rfl, rfl, rfl, rfl, rfl⟩ := hm
          cases hr4
          exact ⟨xa, xb, xc, xd, rfl, h1, h2, h3, h4⟩
mutual
def vsz : V → Nat
  | .sl xs _ _ => 1 + vszL xs
  | _ => 1
def vszL : List V → Nat
  | [] => 0
  | v :: r => vsz v + vszL r
end
theorem vszL_app (a b : List V) : vszL (a ++ b) = vszL a + vszL b := by
  induction a with
  | nil => simp only [List.nil_append, vszL, Nat.zero_add]
  | cons x r ih => simp only [List.cons_append, vszL, ih, Nat.add_assoc]
theorem shape_fil (h : FilT P F I T S) : ∀ (n : Nat), (∀ x : List V, vszL x ≤ n → Shape P F x → ∃ f, FilR f x) ∧ (∀ (ys : List V) (m : Nat), vszL ys ≤ n → Shapes P F ys m → ∃ l, KidsR l ys ∧ m = l.length) := by
  intro n
  have kids : ∀ (k : Nat), (∀ x : List V, vszL x ≤ k → Shape P F x → ∃ f, FilR f x) → ∀ (m : Nat) (ys : List V), vszL ys ≤ k → Shapes P F ys m → ∃ l, KidsR l ys ∧ m = l.length := by
    intro k hk m
    induction m with
    | zero =>
      intro ys _ hs
      cases hs
      exact ⟨[], .nil, rfl⟩
    | succ m ih =>
      intro ys hv hs
      cases hs with | cons _ x ys' _ h1 h2 =>
      rw [vszL_app] at hv
      obtain ⟨f, hf⟩ := hk x (by omega) h1
      obtain ⟨l, hl, rfl⟩ := ih ys' (by omega) h2
      exact ⟨f :: l, .cons f l x ys' hf hl, rfl⟩
  induction n with
  | zero =>
    have one : ∀ x : List V, vszL x ≤ 0 → Shape P F x → ∃ f, FilR f x := by
      intro x hv hs
      obtain ⟨fs, h1, h2⟩ := h.f
      cases hs with
      | st _ fs' _ hu hf =>
        rw [h1] at hu; cases hu
        obtain ⟨xa, xb, xc, xd, rfl, s1, s2, s3, s4⟩ := fields4 hf h2
        obtain ⟨k, rfl⟩ := shape_i h s1
        simp only [List.cons_append, vszL, vsz] at hv
        omega
      | b _ _ hu => rw [h1] at hu; cases hu
      | i _ _ _ hu _ => rw [h1] at hu; cases hu
      | s _ _ hu _ => rw [h1] at hu; cases hu
      | sl _ _ _ _ hu _ _ => rw [h1] at hu; cases hu
    exact ⟨one, fun ys m hv hs => kids 0 one m ys hv hs⟩
  | succ n ih =>
    have one : ∀ x : List V, vszL x ≤ n + 1 → Shape P F x → ∃ f, FilR f x := by
      intro x hv hs
      obtain ⟨fs, h1, h2⟩ := h.f
      cases hs with
      | st _ fs' _ hu hf =>
        rw [h1] at hu; cases hu
        obtain ⟨xa, xb, xc, xd, rfl, s1, s2, s3, s4⟩ := fields4 hf h2
        obtain ⟨k, rfl⟩ := shape_i h s1
        obtain ⟨nm, rfl⟩ := shape_t h s2
        obtain ⟨tx, rfl⟩ := shape_t h s3
        have hS := h.s
        cases s4 with
        | sl _ e ys m hu hn hs' =>
          rw [hS] at hu; cases hu
          simp only [List.cons_append, List.nil_append, List.append_nil, vszL, vsz] at hv ⊢
          obtain ⟨l, hl, rfl⟩ := ih.2 ys m (by omega) hs'
          exact ⟨.mk k nm tx l, .mk k nm tx l ys _ .no rfl hl⟩
        | b _ _ hu => rw [hS] at hu; cases hu
        | i _ _ _ hu _ => rw [hS] at hu; cases hu
        | s _ _ hu _ => rw [hS] at hu; cases hu
        | st _ _ _ hu _ => rw [hS] at hu; cases hu
      | b _ _ hu => rw [h1] at hu; cases hu
      | i _ _ _ hu _ => rw [h1] at hu; cases hu
      | s _ _ hu _ => rw [h1] at hu; cases hu
      | sl _ _ _ _ hu _ _ => rw [h1] at hu; cases hu
    exact ⟨one, fun ys m hv hs => kids (n + 1) one m ys hv hs⟩
theorem shape_b {B : TypeId} (hB : P.underlying B = some .bool) {x : List V} (hs : Shape P B x) : ∃ b : Bool, x = [.b b] := by
  cases hs with
  | b _ b hu => exact ⟨b, rfl⟩
  | s _ _ hu _ => rw [hB] at hu; cases hu
  | i _ _ _ hu _ => rw [hB] at hu; cases hu
  | sl _ _ _ _ hu _ _ => rw [hB] at hu; cases hu
  | st _ _ _ hu _ => rw [hB] at hu; cases hu
theorem fields_cons {fs : List Field} {x : List V} {a : TypeId} {r : List TypeId} (hf : Fields P fs x) (hm : fs.map Field.type = a :: r) : ∃ fs' xa ya, x = xa ++ ya ∧ Shape P a xa ∧ Fields P fs' ya ∧ fs'.map Field.type = r := by
  cases hf with
  | nil => cases hm
  | cons g r' xa ya h1 hr =>
    simp only [List.map_cons, List.cons.injEq] at hm
    obtain ⟨rfl, rfl⟩ := hm
    exact ⟨r', xa, ya, rfl, h1, hr, rfl⟩
theorem fields_nil {fs : List Field} {x : List V} (hf : Fields P fs x) (hm : fs.map Field.type = []) : x = [] := by
  cases hf with
  | nil => rfl
  | cons g r' xa ya h1 hr => cases hm
theorem arg_q (h : FilT P F I T S) {Q B : TypeId} (hB : P.underlying B = some .bool) (hQ : ∃ fs : Array Field, P.underlying Q = some (.struct fs) ∧ fs.toList.map Field.type = [I, T, F, T, B, I, I]) {x : V} (hx : ArgV P Q x) :
    ∃ (k : Int) (of_ : List UInt8) (f : Fil) (c : List V) (by_ : List UInt8) (dn : Bool) (sk fi : Int), x = .agg (qC k of_ c by_ dn sk fi) ∧ FilR f c := by
  obtain ⟨fs0, h1, h2⟩ := hQ
  rcases hx with ⟨fs, xs, hu, rfl, hs⟩ | ⟨hn, _⟩
  · cases hs with
    | st _ fs' _ hu' hf =>
      rw [h1] at hu'; cases hu'
      obtain ⟨g1, x1, r1, rfl, s1, hf, m1⟩ := fields_cons hf h2
      obtain ⟨g2, x2, r2, rfl, s2, hf, m2⟩ := fields_cons hf m1
      obtain ⟨g3, x3, r3, rfl, s3, hf, m3⟩ := fields_cons hf m2
      obtain ⟨g4, x4, r4, rfl, s4, hf, m4⟩ := fields_cons hf m3
      obtain ⟨g5, x5, r5, rfl, s5, hf, m5⟩ := fields_cons hf m4
      obtain ⟨g6, x6, r6, rfl, s6, hf, m6⟩ := fields_cons hf m5
      obtain ⟨g7, x7, r7, rfl, s7, hf, m7⟩ := fields_cons hf m6
      obtain rfl := fields_nil hf m7
      obtain ⟨k, rfl⟩ := shape_i h s1
      obtain ⟨of_, rfl⟩ := shape_t h s2
      obtain ⟨f, hff⟩ := (shape_fil h (vszL x3)).1 x3 (Nat.le_refl _) s3
      obtain ⟨by_, rfl⟩ := shape_t h s4
      obtain ⟨dn, rfl⟩ := shape_b hB s5
      obtain ⟨sk, rfl⟩ := shape_i h s6
      obtain ⟨fi, rfl⟩ := shape_i h s7
      exact ⟨k, of_, f, x3, by_, dn, sk, fi, rfl, hff⟩
    | b _ _ hu' => rw [h1] at hu'; cases hu'
    | i _ _ _ hu' _ => rw [h1] at hu'; cases hu'
    | s _ _ hu' _ => rw [h1] at hu'; cases hu'
    | sl _ _ _ _ hu' _ _ => rw [h1] at hu'; cases hu'
  · exact absurd h1 (hn fs0)
end
theorem filT : FilT Tryz.prog 24 3 9 22 := ⟨⟨_, Tryz.underlying24, by kernel_rfl⟩, Tryz.underlying3, Tryz.underlying9, Tryz.underlying22⟩
end Go.Proofs.YtpcjhfchpelonaaGreatDoor
set_option linter.unusedSimpArgs false
set_option linter.unusedVariables false
namespace Go.Proofs.YtpcjhfchpelonaaGreatDoor
open Ai
theorem qchk_sk {k : Int} {of_ : List UInt8} {f : Fil} {by_ : List UInt8} {dn : Bool} {sk fi : Int} (h : qchk k of_ f by_ dn sk fi = 0) : chk f = 0 ∧ 0 ≤ sk := by
  unfold qchk at h
  split at h
  · rename_i h1
    refine ⟨h1, ?_⟩
    by_cases hs : 0 ≤ sk
    · exact hs
    · exfalso
      have hd : decide (sk < 0) = true := decide_eq_true (by omega)
      unfold qcode qok at h
      rw [hd] at h
      simp only [Bool.not_true, Bool.false_and, Bool.and_false, cond_false] at h
      exact absurd h (by decide)
  · rename_i h1; exact absurd (by omega) h1
/-! ### Ask -/
noncomputable def X_ask := xs [(8, F_qcheck)]
theorem t_askX : Tells tabx told X_ask := tells_cons o_qcheck tells_nil
noncomputable def Y_ask := ys [(35, runQ 35), (36, pick 36 fun _ _ v h' => ResCh v h'), (29, pick 29 fun _ _ v _ => ResRun v)]
theorem t_ask : Hp.TellsI tabx told Y_ask := itells_cons (fun _ _ _ _ e => runQ_ok e) (itells_cons pick_tells (itells_cons pick_tells itells_nil))
theorem UH17 : type_of% (@Hp_open _ _ B17.eq_1) := @Hp_open _ _ B17.eq_1
def kz17 (_ : Nat) : List Nat := []
section
variable (k : Int) (of_ : List UInt8) (f : Fil) (c : List V) (by_ : List UInt8) (dn : Bool) (sk fi : Int)
def ResNil (e : Int) (v : V) (h' : H) : Prop := h' = {} ∧ v = .tup [.sl [] 0 .nil, .agg [.i .i64 0, .s [], .s []], .i .i64 (if e = 0 then 6 else e)]
set_option maxRecDepth 100000 in
theorem s_askNil (hf : FilR f c) : ∃ v h', Hp.CompI tabx told 17 [.agg (qC k of_ c by_ dn sk fi), .nili] {} v h' ∧ ResNil (qchk k of_ f by_ dn sk fi) v h' := by
  have y2 : X_ask 8 [.agg (qC k of_ c by_ dn sk fi)] = some (.i .i64 (qchk k of_ f by_ dn sk fi)) := qcheck_eq k of_ f c by_ dn sk fi hf
  refine compI_ex (xf := X_ask) (xh := Y_ask) (kz := kz17) (fn := af17) t_askX t_ask rfl (Nat.le_of_ble_eq_true rfl) ?_
  show Hp.M _ _ _ (.code B17) _ (St.init gl0 6 _ _) (fun ex st => ∃ v h', Hp.FinI [.tmp 4, .cell 5 true 3, .tmp 6] v h' ex st ∧ _)
  rw [UH17]
  generalize qchk k of_ f by_ dn sk fi = e at *
  unfold ResNil
  cases hf with | mk k1 nm tx kids xs n tk hn hx =>
  simp only [qC, List.cons_append, List.nil_append] at y2
  by_cases h0 : e = 0
  · subst h0
    have e0 : decide ((0 : Int) = 0) = true := rfl
    simp only [qC, y2, e0, splice, go_sem, ne_eq, not_false_eq_true, reduceIte, Nat.reduceMul, Nat.reduceAdd, Nat.reduceSub, Nat.reduceEqDiff, Nat.reduceLeDiff, Nat.reduceLT, List.take_succ_cons, List.take_zero, List.drop_succ_cons, List.cons_append]
    exact ⟨_, _, ⟨rfl, rfl⟩, rfl, rfl⟩
  · have e0 : decide (e = 0) = false := decide_eq_false h0
    rw [if_neg h0]
    simp only [qC, y2, e0, splice, go_sem, ne_eq, not_false_eq_true, reduceIte, Nat.reduceMul, Nat.reduceAdd, Nat.reduceSub, Nat.reduceEqDiff, Nat.reduceLeDiff, Nat.reduceLT, List.take_succ_cons, List.take_zero, List.drop_succ_cons, List.cons_append]
    exact ⟨_, _, ⟨rfl, rfl⟩, rfl, rfl⟩
def ResNobody (e : Int) (v : V) : Prop := ∃ tk p1 p2 p3, v = .tup [.sl [] 0 tk, .agg [.i .i64 p1, .s p2, .s p3], .i .i64 e]
set_option maxRecDepth 100000 in
theorem s_askNobody (hf : FilR f c) (ho : okL f) : ∃ v h', Hp.CompI tabx told 17 [.agg (qC k of_ c by_ dn sk fi), .ifc 47 .nilp] {} v h' ∧ ResNobody (qchk k of_ f by_ dn sk fi) v := by
  have y2 : X_ask 8 [.agg (qC k of_ c by_ dn sk fi)] = some (.i .i64 (qchk k of_ f by_ dn sk fi)) := qcheck_eq k of_ f c by_ dn sk fi hf
  refine compI_ex (xf := X_ask) (xh := Y_ask) (kz := kz17) (fn := af17) t_askX t_ask rfl (Nat.le_of_ble_eq_true rfl) ?_
  show Hp.M _ _ _ (.code B17) _ (St.init gl0 6 _ _) (fun ex st => ∃ v h', Hp.FinI [.tmp 4, .cell 5 true 3, .tmp 6] v h' ex st ∧ _)
  rw [UH17]
  unfold ResNobody
  have yO : Y_ask 35 [.ifc 47 .nilp] {} = some (.agg srcO, hO) := by rw [Y_ask, ys_hit]; exact of_nobody
  by_cases h0 : qchk k of_ f by_ dn sk fi = 0
  · obtain ⟨hk, hsk⟩ := qchk_sk h0
    rw [h0] at y2 ⊢
    have e0 : decide ((0 : Int) = 0) = true := rfl
    have hnd := chk_nds hk
    obtain ⟨v, h', hc, hr⟩ := s_choose f c hf (by omega) ho
    obtain ⟨v, h', yC, rfl, pk, best, hp, hb, rfl⟩ := pick_spec (R := fun _ _ v h' => ResCh v h') hc hr
    have yC : Y_ask 36 [.agg c, .agg srcO] hO = some (.agg [.i .i64 pk, .s [], .s best], hO) := by rw [Y_ask, ys_miss _ _ _ _ _ _ (by decide), ys_hit]; exact yC
    cases hf with | mk k1 nm tx kids xs n tk hn hx =>
    obtain ⟨v, h', hc, hr⟩ := s_run k of_ k1 nm tx xs n tk by_ dn sk fi hsk pk best hp hb
    obtain ⟨v, h', yR, tk2, rfl⟩ := pick_spec (R := fun _ _ v _ => ResRun v) hc hr
    have yR : Y_ask 29 [.agg (qL k of_ k1 nm tx xs n tk by_ dn sk fi), .agg [.i .i64 pk, .s [], .s best], .agg srcO] hO = some (.tup [.sl [] 0 tk2, .i .i64 0], h') := by rw [Y_ask, ys_miss _ _ _ _ _ _ (by decide), ys_miss _ _ _ _ _ _ (by decide), ys_hit]; exact yR
    generalize Y_ask = YY at *
    simp only [qC, qL, hO, srcO, List.cons_append, List.nil_append] at y2 yO yC yR
    simp only [qC, y2, e0, yO, yC, yR, splice, go_sem, ne_eq, not_false_eq_true, reduceIte, Nat.reduceMul, Nat.reduceAdd, Nat.reduceSub, Nat.reduceEqDiff, Nat.reduceLeDiff, Nat.reduceLT, List.take_succ_cons, List.take_zero, List.drop_succ_cons, List.cons_append]
    exact ⟨_, _, ⟨rfl, rfl⟩, _, _, _, _, rfl⟩
  · have e0 : decide (qchk k of_ f by_ dn sk fi = 0) = false := decide_eq_false h0
    generalize qchk k of_ f by_ dn sk fi = e at *
    cases hf with | mk k1 nm tx kids xs n tk hn hx =>
    simp only [qC, List.cons_append, List.nil_append] at y2
    simp only [qC, y2, e0, splice, go_sem, ne_eq, not_false_eq_true, reduceIte, Nat.reduceMul, Nat.reduceAdd, Nat.reduceSub, Nat.reduceEqDiff, Nat.reduceLeDiff, Nat.reduceLT, List.take_succ_cons, List.take_zero, List.drop_succ_cons, List.cons_append]
    exact ⟨_, _, ⟨rfl, rfl⟩, _, _, _, _, rfl⟩
end
end Go.Proofs.YtpcjhfchpelonaaGreatDoor
set_option linter.unusedSimpArgs false
set_option linter.unusedVariables false
namespace Go.Proofs.YtpcjhfchpelonaaGreatDoor
open Ai
def R_ask (a : List V) (h : H) (v : V) (h' : H) : Prop := ∀ (k : Int) (of_ : List UInt8) (f : Fil) (c : List V) (by_ : List UInt8) (dn : Bool) (sk fi : Int), FilR f c →
  (a = [.agg (qC k of_ c by_ dn sk fi), .nili] → ResNil (qchk k of_ f by_ dn sk fi) v h') ∧ (a = [.agg (qC k of_ c by_ dn sk fi), .ifc 47 .nilp] → ResNobody (qchk k of_ f by_ dn sk fi) v)
noncomputable def X_qn := xs [(7, F_light), (10, F_awake), (9, F_rqcheck)]
theorem t_qnX : Tells tabx told X_qn := tells_cons o_light (tells_cons o_awake (tells_cons o_rqcheck tells_nil))
noncomputable def Y_qn := ys [(17, pick 17 R_ask)]
theorem t_qn : Hp.TellsI tabx told Y_qn := itells_cons pick_tells itells_nil
theorem UH5 : type_of% (@Hp_open _ _ B5.eq_1) := @Hp_open _ _ B5.eq_1
def kz5 (_ : Nat) : List Nat := []
section
variable {k : Int} {of_ : List UInt8} {f : Fil} {c : List V} {by_ : List UInt8} {dn : Bool} {sk fi : Int}
theorem call_askNil (hf : FilR f c) : Y_qn 17 [.agg (qC k of_ c by_ dn sk fi), .nili] {} = some (.tup [.sl [] 0 .nil, .agg [.i .i64 0, .s [], .s []], .i .i64 (if qchk k of_ f by_ dn sk fi = 0 then 6 else qchk k of_ f by_ dn sk fi)], {}) := by
  obtain ⟨v, h', hc, hr⟩ := s_askNil k of_ f c by_ dn sk fi hf
  obtain ⟨v, h', e1, r1⟩ := pick_spec (R := R_ask) hc (by
    intro k' of' f' c' by' dn' sk' fi' hf'
    refine ⟨fun e1 => ?_, fun e1 => ?_⟩
    · simp only [List.cons.injEq, V.agg.injEq, and_true] at e1
      obtain ⟨rfl, rfl, rfl, rfl, rfl, rfl, rfl, rfl⟩ := qC_inj hf hf' e1
      exact hr
    · simp only [List.cons.injEq, V.agg.injEq, reduceCtorEq, false_and, and_false] at e1)
  obtain ⟨rfl, rfl⟩ := (r1 k of_ f c by_ dn sk fi hf).1 rfl
  rw [Y_qn, ys_hit]
  exact e1
theorem call_askNobody (hf : FilR f c) (ho : okL f) : ∃ tk p1 p2 p3 h', Y_qn 17 [.agg (qC k of_ c by_ dn sk fi), .ifc 47 .nilp] {} = some (.tup [.sl [] 0 tk, .agg [.i .i64 p1, .s p2, .s p3], .i .i64 (qchk k of_ f by_ dn sk fi)], h') := by
  obtain ⟨v, h', hc, hr⟩ := s_askNobody k of_ f c by_ dn sk fi hf ho
  obtain ⟨v, h', e1, r1⟩ := pick_spec (R := R_ask) hc (by
    intro k' of' f' c' by' dn' sk' fi' hf'
    refine ⟨fun e1 => ?_, fun e1 => ?_⟩
    · simp only [List.cons.injEq, V.agg.injEq, reduceCtorEq, false_and, and_false] at e1
    · simp only [List.cons.injEq, V.agg.injEq, and_true] at e1
      obtain ⟨rfl, rfl, rfl, rfl, rfl, rfl, rfl, rfl⟩ := qC_inj hf hf' e1
      exact hr)
  obtain ⟨tk, p1, p2, p3, rfl⟩ := (r1 k of_ f c by_ dn sk fi hf).2 rfl
  refine ⟨tk, p1, p2, p3, h', ?_⟩
  rw [Y_qn, ys_hit]
  exact e1
end
set_option maxRecDepth 100000 in
theorem w_qn (k : Int) (of_ : List UInt8) (f : Fil) (c : List V) (by_ : List UInt8) (dn : Bool) (sk fi : Int) (hf : FilR f c) (gl : Nat → List V) :
    Hp.M X_qn Y_qn (kz5) (.code B5) [] (St.init gl 7 [.agg (qC k of_ c by_ dn sk fi)] {}) (Fin [.tmp 2] (.b true)) := by
  rw [UH5]
  have y0 : X_qn 10 [] = some (.b true) := rfl
  have y1 : X_qn 7 [.agg (qC k of_ c by_ dn sk fi)] = some (.b (wgh f 0 (min of_.length 8192 + min by_.length 8192)).1) := light_eq k of_ f c by_ dn sk fi hf
  cases hw : (wgh f 0 (min of_.length 8192 + min by_.length 8192)).1 with
  | false =>
    rw [hw] at y1
    cases hf with | mk k1 nm tx kids xs n tk hn hx =>
    simp only [qC, List.cons_append, List.nil_append] at y1
    simp only [qC, y0, y1, splice, go_sem, ne_eq, not_false_eq_true, reduceIte, Nat.reduceMul, Nat.reduceAdd, Nat.reduceSub, Nat.reduceEqDiff, Nat.reduceLeDiff, Nat.reduceLT, List.take_succ_cons, List.take_zero, List.drop_succ_cons, List.cons_append]
  | true =>
    rw [hw] at y1
    have hok := wgh_ok f 0 _ hw
    have hlt := wgh_lt hw
    have y3 : X_qn 9 [.agg (qC k of_ c by_ dn sk fi)] = some (.i .i64 (qchk k of_ f by_ dn sk fi)) := rqcheck_eq k of_ f c by_ dn sk fi hf hok (by omega) (by omega)
    have y4 := call_askNil (k := k) (of_ := of_) (by_ := by_) (dn := dn) (sk := sk) (fi := fi) hf
    obtain ⟨tk0, p1, p2, p3, h', y5⟩ := call_askNobody (k := k) (of_ := of_) (by_ := by_) (dn := dn) (sk := sk) (fi := fi) hf hok
    generalize qchk k of_ f by_ dn sk fi = e at *
    have e1 : decide (e = e) = true := decide_eq_true rfl
    have ez : decide (wr .i64 (((0 : Nat) : Int) + ((0 : Nat) : Int)) = 0) = true := by decide
    obtain ⟨nx, obs, nt, tips⟩ := h'
    cases hf with | mk k1 nm tx kids xs n tk hn hx =>
    simp only [qC, List.cons_append, List.nil_append] at y1 y3 y4 y5
    by_cases h0 : e = 0
    · subst h0
      have e0 : decide ((0 : Int) = 0) = true := rfl
      have e6 : decide ((6 : Int) = 6) = true := rfl
      rw [if_pos rfl] at y4
      simp only [qC, y0, y1, y3, y4, y5, e0, e6, ez, strEq_self, splice, go_sem, ne_eq, not_false_eq_true, reduceIte, Nat.reduceMul, Nat.reduceAdd, Nat.reduceSub, Nat.reduceEqDiff, Nat.reduceLeDiff, Nat.reduceLT, List.take_succ_cons, List.take_zero, List.drop_succ_cons, List.cons_append]
    · have e0 : decide (e = 0) = false := decide_eq_false h0
      rw [if_neg h0] at y4
      simp only [qC, y0, y1, y3, y4, y5, e0, e1, ez, splice, go_sem, ne_eq, not_false_eq_true, reduceIte, Nat.reduceMul, Nat.reduceAdd, Nat.reduceSub, Nat.reduceEqDiff, Nat.reduceLeDiff, Nat.reduceLT, List.take_succ_cons, List.take_zero, List.drop_succ_cons, List.cons_append]
theorem w_QueryNobody (x0 : V) (y0 : ArgV Tryz.prog 26 x0) : Comp tabx told 5 [x0] (.b true) := by
  obtain ⟨k, of_, f, c, by_, dn, sk, fi, rfl, hf⟩ := arg_q filT Tryz.underlying4 ⟨_, Tryz.underlying26, by kernel_rfl⟩ y0
  refine Hp.comp_of (xf := X_qn) (xh := Y_qn) (kz := kz5) t_qnX t_qn (fn := af5) rfl (Nat.le_of_ble_eq_true rfl) fun gl => ?_
  rw [qC_strip]
  exact w_qn k of_ f (stripL c) by_ dn sk fi (FilR.strip f c hf) gl
end Go.Proofs.YtpcjhfchpelonaaGreatDoor
