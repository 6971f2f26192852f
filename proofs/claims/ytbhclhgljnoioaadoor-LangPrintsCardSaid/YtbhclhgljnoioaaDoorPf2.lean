/- filter.Check; lang.Parse. -/
import Derived.Test.YtbhclhgljnoioaaDoorPf1
set_option linter.unusedSimpArgs false
set_option linter.unusedVariables false
namespace Go.Proofs.YtbhclhgljnoioaaDoor
open Ai
/-! ### Pure functions, told by what they do -/
noncomputable def pickP (g : FuncId) (R : List V → V → Prop) (a : List V) : Option V := open Classical in if e : ∃ v : V, Comp tabx told g a v ∧ R a v then some e.choose else none
theorem pickP_tells {g : FuncId} {R : List V → V → Prop} : ∀ a v, pickP g R a = some v → Comp tabx told g a v := fun a v e => by
  unfold pickP at e
  split at e
  · rename_i hp
    have hs := hp.choose_spec
    simp only [Option.some.injEq] at e
    rw [e] at hs
    exact hs.1
  · cases e
theorem pickP_spec {g : FuncId} {R : List V → V → Prop} {a : List V} {v : V} (hc : Comp tabx told g a v) (hr : R a v) : ∃ v, pickP g R a = some v ∧ R a v := by
  have hp : ∃ v : V, Comp tabx told g a v ∧ R a v := ⟨v, hc, hr⟩
  exact ⟨hp.choose, dif_pos hp, hp.choose_spec.2⟩
theorem comp_ex {xf : FuncId → List V → Option V} {xh : FuncId → List V → H → Option (V × H)} {kz : Nat → List Nat} (hx : Tells tabx told xf) (hy : Hp.TellsI tabx told xh) {g : FuncId} {fn : AFunc} {args : List V} {Q : V → Prop} (ht : tabx g = some fn) (hn : args.length ≤ fn.n)
    (h : Hp.M xf xh kz (.code fn.body) [] (St.init gl0 fn.depth (stripL args) {}) (fun ex st => ∃ v, Fin fn.res v ex st ∧ Q v)) : ∃ v, Comp tabx told g args v ∧ Q v := by
  obtain ⟨f, ex, st', e, v, hf, q⟩ := h
  refine ⟨v, fun hh gl hok => ?_, q⟩
  have hgl : gl = gl0 := hok
  subst hgl
  obtain ⟨he, hl⟩ := hf
  obtain ⟨ex1, st1, f1, _, _, hr, hev⟩ := Hp.runK_ev hx hy f f (Nat.le_refl _) _ _ _ _ _ hok e
  simp only at hev
  have : ex1 = ex ∧ st1 = st' := by
    match f1, hr with
    | 0, hr => simp [Hp.runK] at hr
    | f1 + 1, hr => simp only [Hp.runK, Option.some.injEq, Prod.mk.injEq] at hr; exact hr
  obtain ⟨rfl, rfl⟩ := this
  have hl' : leave fn true hh st1 = some (v, hh) := by
    unfold leave
    cases hv : resV st1 fn.res with
    | none => rw [hv] at hl; cases hl
    | some vs =>
      rw [hv] at hl
      simp only [Option.map_some, Option.some.injEq] at hl
      simp only [cond_true, hl]
  exact .fn ht hn hev he hl'
/-! ### Filters, stripped and frozen -/
theorem stripL_app (a b : List V) : stripL (a ++ b) = stripL a ++ stripL b := by
  induction a with
  | nil => rfl
  | cons x r ih => simp only [List.cons_append, stripL, ih]
mutual
theorem FilR.strip : ∀ (f : Fil) (c : List V), FilR f c → FilR f (stripL c)
  | .mk k nm tx kids, c, h => by
    cases h with | mk _ _ _ _ xs n tk hn hx =>
    exact .mk k nm tx kids (stripL xs) n tk.cp hn (KidsR.strip kids xs hx)
theorem KidsR.strip : ∀ (l : List Fil) (xs : List V), KidsR l xs → KidsR l (stripL xs)
  | [], xs, h => by cases h; exact .nil
  | f :: r, xs, h => by
    cases h with | cons _ _ c ys h1 h2 =>
    rw [stripL_app]
    exact .cons f r _ _ (FilR.strip f c h1) (KidsR.strip r ys h2)
end
/-! ### Check -/
def chk (f : Fil) : Nat := (bld f 1 0).1
def R_ready (a : List V) (h : H) (v : V) (h' : H) : Prop := ∀ (f : Fil) (c : List V), a = [.agg c] → FilR f c → ∃ x, v = .tup [x, .i .i64 (chk f : Nat)] ∧ (x = .nili ∨ ∃ t y, x = .ifc t y)
theorem UH41 {xf : FuncId → List V → Option V} {xh : FuncId → List V → H → Option (V × H)} {kz : Nat → List Nat} {k : List Fr} {st : St} {Q : AEx → St → Prop} : Hp.M xf xh kz (.code B41) k st Q = Hp.M xf xh kz (.code (.seq (.reg [⟨some 1, .lbox (.t 0) [1], none⟩,
     ⟨some 2, .mov (.k .nili), none⟩,
     ⟨some 3, .mov (.k (.i .i64 0)), none⟩])
  (.seq (.reg [⟨some 4, .alloc 3 [(.i .i64 0)], none⟩,
     ⟨none, .store 1 (.t 4) (.k (.i .i64 0)), none⟩])
  (.seq (.reg [⟨some 8, .load true 4 (.t 1), none⟩,
     ⟨some 9, .call false 69 [(.t 8), (.k (.i .i64 1)), (.t 4)], none⟩,
     ⟨some 7, .mov (.t 9), none⟩,
     ⟨some 10, .ext (.t 7) 0, none⟩,
     ⟨some 11, .ext (.t 7) 1, none⟩,
     ⟨some 5, .mov (.t 10), none⟩,
     ⟨some 6, .mov (.t 11), none⟩])
  (.seq (.seq (.reg [⟨some 12, .mov (.t 6), none⟩,
      ⟨some 13, .bin .neq (.t 12) (.k (.i .i64 0)), none⟩])
   (.cond (.t 13)
    (.seq (.reg [⟨some 14, .mov (.t 6), none⟩,
       ⟨some 2, .mov (.k .nili), none⟩,
       ⟨some 3, .mov (.t 14), none⟩])
    .ret)
    .skip))
  (.seq (.reg [⟨some 15, .mov (.t 5), none⟩,
     ⟨some 16, .tas false [132, 135, 137, 138, 142, 144, 145] [9] .nili false (.t 15), none⟩,
     ⟨some 2, .mov (.t 16), none⟩,
     ⟨some 3, .mov (.k (.i .i64 0)), none⟩])
  .ret)))))) k st Q := rfl
def kz41 (_ : Nat) : List Nat := []
set_option maxRecDepth 100000 in
theorem ready_ex (f : Fil) (c : List V) (hf : FilR f c) : ∃ x h', pick 41 R_ready [.agg c] {} = some (.tup [x, .i .i64 (chk f : Nat)], h') ∧ (x = .nili ∨ ∃ t y, x = .ifc t y) := by
  have key : ∃ v h', Hp.CompI tabx told 41 [.agg c] {} v h' ∧ ∃ x, v = .tup [x, .i .i64 (chk f : Nat)] ∧ (x = .nili ∨ ∃ t y, x = .ifc t y) := by
    refine compI_ex (xf := noX) (xh := Y_build 0) (kz := kz41) (fn := af41) tells_noX (t_build 0) rfl (Nat.le_of_ble_eq_true rfl) ?_
    show Hp.M _ _ _ (.code B41) _ (St.init gl0 5 _ _) (fun ex st => ∃ v h', Hp.FinI [.tmp 2, .tmp 3] v h' ex st ∧ _)
    rw [UH41]
    obtain ⟨x, h', y4, q1, q2, q3⟩ := call_build (s_build_all 0 7) (d := 1) (w := 0) (h := ⟨1, [(0, .cells 3 [.i .i64 ((0 : Nat) : Int)])], 0, []⟩) hf rfl (by decide) (by decide) (by decide)
    have hch : (bld f 1 0).1 = chk f := rfl
    rw [hch] at y4 q1
    cases hf with | mk k nm tx kids xs n tk hn hx =>
    simp only [Int.cast_ofNat_Int] at y4
    rcases q1 with ⟨q, t, y, rfl, hq2⟩ | ⟨q, rfl⟩
    · have hqc := isQ_c hq2
      have f1 : decide (((chk (.mk k nm tx kids) : Nat) : Int) = 0) = true := decide_eq_true (by omega)
      simp only [y4, f1, hqc, splice, go_sem, ne_eq, not_false_eq_true, reduceIte, Nat.reduceMul, Nat.reduceAdd, Nat.reduceSub, Nat.reduceEqDiff, Nat.reduceLeDiff, Nat.reduceLT, List.take_succ_cons, List.take_zero, List.drop_succ_cons, List.cons_append]
      exact ⟨_, _, ⟨rfl, rfl⟩, _, by rw [q]; rfl, .inr ⟨_, _, rfl⟩⟩
    · have f1 : decide (((chk (.mk k nm tx kids) : Nat) : Int) = 0) = false := decide_eq_false (by omega)
      simp only [y4, f1, splice, go_sem, ne_eq, not_false_eq_true, reduceIte, Nat.reduceMul, Nat.reduceAdd, Nat.reduceSub, Nat.reduceEqDiff, Nat.reduceLeDiff, Nat.reduceLT, List.take_succ_cons, List.take_zero, List.drop_succ_cons, List.cons_append]
      exact ⟨_, _, ⟨rfl, rfl⟩, _, rfl, .inl rfl⟩
  obtain ⟨v, h', hc, x, rfl, hxx⟩ := key
  obtain ⟨v, h', e1, r⟩ := pick_spec (R := R_ready) hc (by
    intro f' c' e1 hf'
    simp only [List.cons.injEq, V.agg.injEq, and_true] at e1
    subst e1
    rw [← FilR.uniq f f' c hf hf']
    exact ⟨x, rfl, hxx⟩)
  obtain ⟨x, rfl, hxx⟩ := r f c rfl hf
  exact ⟨x, h', e1, hxx⟩
noncomputable def Y_check := ys [(41, pick 41 R_ready)]
theorem t_check : Hp.TellsI tabx told Y_check := itells_cons pick_tells itells_nil
def R_check (a : List V) (v : V) : Prop := ∀ (f : Fil) (c : List V), a = [.agg c] → FilR f c → v = .i .i64 (chk f : Nat)
noncomputable def F_check : List V → Option V := pickP 18 R_check
theorem o_check : ∀ a v, F_check a = some v → Comp tabx told 18 a v := pickP_tells
theorem UH18 {xf : FuncId → List V → Option V} {xh : FuncId → List V → H → Option (V × H)} {kz : Nat → List Nat} {k : List Fr} {st : St} {Q : AEx → St → Prop} : Hp.M xf xh kz (.code B18) k st Q = Hp.M xf xh kz (.code (.seq (.reg [⟨some 1, .lbox (.t 0) [1], none⟩,
     ⟨some 2, .mov (.k (.i .i64 0)), none⟩])
  (.seq (.reg [⟨some 6, .load true 4 (.t 1), none⟩,
     ⟨some 7, .call false 41 [(.t 6)], none⟩,
     ⟨some 5, .mov (.t 7), none⟩,
     ⟨some 8, .ext (.t 5) 0, none⟩,
     ⟨some 9, .ext (.t 5) 1, none⟩,
     ⟨some 3, .mov (.t 8), none⟩,
     ⟨some 4, .mov (.t 9), none⟩])
  (.seq (.reg [⟨some 10, .mov (.t 4), none⟩,
     ⟨some 2, .mov (.t 10), none⟩])
  .ret)))) k st Q := rfl
def kz18 (_ : Nat) : List Nat := []
theorem check_eq (f : Fil) (c : List V) (hf : FilR f c) : F_check [.agg c] = some (.i .i64 (chk f : Nat)) := by
  have hc : Comp tabx told 18 [.agg c] (.i .i64 (chk f : Nat)) := Hp.comp_of tells_noX t_check (fn := af18) (kz := kz18) rfl (Nat.le_of_ble_eq_true rfl) fun gl => by
    have hs := FilR.strip f c hf
    obtain ⟨x, h', y4, hxx⟩ := ready_ex f (stripL c) hs
    show Hp.M _ _ _ (.code B18) _ (St.init gl 4 [.agg (stripL c)] _) (Fin [.tmp 2] _)
    rw [UH18]
    generalize stripL c = c2 at hs y4 ⊢
    cases hs with | mk k nm tx kids xs n tk hn hx =>
    rcases hxx with rfl | ⟨t, y, rfl⟩ <;> simp only [Y_check, ys_hit, y4, go_sem, ne_eq, not_false_eq_true, reduceIte, Nat.reduceMul, Nat.reduceAdd, Nat.reduceSub, Nat.reduceEqDiff, Nat.reduceLeDiff, Nat.reduceLT, List.take_succ_cons, List.take_zero, List.drop_succ_cons, List.cons_append]
  obtain ⟨v, e1, r⟩ := pickP_spec (R := R_check) hc (by
    intro f' c' e1 hf'
    simp only [List.cons.injEq, V.agg.injEq, and_true] at e1
    subst e1
    rw [← FilR.uniq f f' c hf hf'])
  rw [r f c rfl hf] at e1
  exact e1
end Go.Proofs.YtbhclhgljnoioaaDoor
