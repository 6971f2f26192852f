/- Functions that write, told; filters as values. -/
import Derived.Test.YtpcjhfchpelonaaGreatDoorMemo
import Derived.Test.YtpcjhfchpelonaaGreatDoorAi12
set_option linter.unusedSimpArgs false
set_option linter.unusedVariables false
namespace Go.Proofs.YtpcjhfchpelonaaGreatDoor
open Ai
def noX (_ : FuncId) (_ : List V) : Option V := none
theorem tells_noX : Tells tabx told noX := fun _ _ _ h => by cases h
def noY (_ : FuncId) (_ : List V) (_ : H) : Option (V × H) := none
theorem tells_noY : Hp.TellsI tabx told noY := fun _ _ _ _ _ h => by cases h
def F_awake (a : List V) : Option V := match a with
  | [] => some (.b true)
  | _ => none
theorem o_awake : ∀ a v, F_awake a = some v → Comp tabx told 10 a v := fun a v e => by
  unfold F_awake at e
  split at e
  · cases e; exact memo_all
  · cases e
/-! ### Impure calls, function by function -/
def ys : List (FuncId × (List V → H → Option (V × H))) → FuncId → List V → H → Option (V × H)
  | [], _, _, _ => none
  | (g, F) :: r, f, a, h => bif Nat.beq f g then F a h else ys r f a h
theorem ys_hit (g : FuncId) (F : List V → H → Option (V × H)) (r : List (FuncId × (List V → H → Option (V × H)))) (a : List V) (h : H) : ys ((g, F) :: r) g a h = F a h := by simp [ys]
theorem ys_miss (g f : FuncId) (F : List V → H → Option (V × H)) (r : List (FuncId × (List V → H → Option (V × H)))) (a : List V) (h : H) (hn : f ≠ g) : ys ((g, F) :: r) f a h = ys r f a h := by
  have : Nat.beq f g = false := by cases hb : Nat.beq f g with | true => exact absurd (Nat.eq_of_beq_eq_true hb) hn | false => rfl
  simp only [ys, this, cond_false]
theorem itells_nil : Hp.TellsI tabx told (ys []) := fun _ _ _ _ _ h => by cases h
theorem itells_cons {g : FuncId} {F : List V → H → Option (V × H)} {r : List (FuncId × (List V → H → Option (V × H)))} (h : ∀ a m v m', F a m = some (v, m') → Hp.CompI tabx told g a m v m') (t : Hp.TellsI tabx told (ys r)) : Hp.TellsI tabx told (ys ((g, F) :: r)) := by
  intro g' a m v m' e
  unfold ys at e
  cases hb : Nat.beq g' g with
  | true =>
    rw [hb] at e
    have := Nat.eq_of_beq_eq_true hb
    subst this
    exact h _ _ _ _ e
  | false =>
    rw [hb] at e
    exact t _ _ _ _ _ e
/-! ### Functions that write, told by what they do -/
noncomputable def pick (g : FuncId) (R : List V → H → V → H → Prop) (a : List V) (h : H) : Option (V × H) := open Classical in if e : ∃ p : V × H, Hp.CompI tabx told g a h p.1 p.2 ∧ R a h p.1 p.2 then some e.choose else none
theorem pick_tells {g : FuncId} {R : List V → H → V → H → Prop} : ∀ a h v h', pick g R a h = some (v, h') → Hp.CompI tabx told g a h v h' := fun a h v h' e => by
  unfold pick at e
  split at e
  · rename_i hp
    have hs := hp.choose_spec
    simp only [Option.some.injEq] at e
    rw [e] at hs
    exact hs.1
  · cases e
theorem pick_spec {g : FuncId} {R : List V → H → V → H → Prop} {a : List V} {h : H} {v : V} {h' : H} (hc : Hp.CompI tabx told g a h v h') (hr : R a h v h') : ∃ v h', pick g R a h = some (v, h') ∧ R a h v h' := by
  have hp : ∃ p : V × H, Hp.CompI tabx told g a h p.1 p.2 ∧ R a h p.1 p.2 := ⟨(v, h'), hc, hr⟩
  exact ⟨hp.choose.1, hp.choose.2, dif_pos hp, hp.choose_spec.2⟩
theorem compI_ex {xf : FuncId → List V → Option V} {xh : FuncId → List V → H → Option (V × H)} {kz : Nat → List Nat} (hx : Tells tabx told xf) (hy : Hp.TellsI tabx told xh) {g : FuncId} {fn : AFunc} {args : List V} {h0 : H} {Q : V → H → Prop} (ht : tabx g = some fn) (hn : args.length ≤ fn.n)
    (h : Hp.M xf xh kz (.code fn.body) [] (St.init gl0 fn.depth args h0) (fun ex st => ∃ v h', Hp.FinI fn.res v h' ex st ∧ Q v h')) : ∃ v h', Hp.CompI tabx told g args h0 v h' ∧ Q v h' := by
  obtain ⟨f, ex, st', e, v, h', hf, q⟩ := h
  refine ⟨v, h', fun gl hok => ?_, q⟩
  have hgl : gl = gl0 := hok
  subst hgl
  obtain ⟨he, hl⟩ := hf
  obtain ⟨ex1, st1, f1, _, _, hr, hev⟩ := Hp.runK_ev hx hy f f (Nat.le_refl _) _ _ _ _ _ hok e
  simp only at hev
  have : ex1 = ex ∧ st1 = st' := by
    match f1, hr with
    | 0, hr => simp [Hp.runK] at hr
    | f1 + 1, hr => simp only [Hp.runK, Option.some.injEq, Prod.mk.injEq] at hr; exact hr
  obtain ⟨rfl, rfl⟩ := this
  have hl' : leave fn false h0 st1 = some (v, h') := by
    unfold leave
    cases hv : resV st1 fn.res with
    | none => rw [hv] at hl; cases hl
    | some vs =>
      rw [hv] at hl
      simp only [Option.map_some, Option.some.injEq] at hl
      simp only [cond_false, hl]
  exact .fn ht hn hev he hl'
inductive Fil where
  | mk (k : Int) (name text : List UInt8) (kids : List Fil)
/-! ### Filters as values -/
mutual
inductive FilR : Fil → List V → Prop
  | mk (k : Int) (name text : List UInt8) (kids : List Fil) (xs : List V) (n : Nat) (tk : Tk) (hn : n = kids.length) (h : KidsR kids xs) : FilR (.mk k name text kids) [.i .i64 k, .s name, .s text, .sl xs n tk]
inductive KidsR : List Fil → List V → Prop
  | nil : KidsR [] []
  | cons (f : Fil) (r : List Fil) (c xs : List V) (h1 : FilR f c) (h2 : KidsR r xs) : KidsR (f :: r) (c ++ xs)
end
theorem FilR.len {f : Fil} {c : List V} (h : FilR f c) : c.length = 4 := by cases h; rfl
theorem KidsR.len {l : List Fil} {xs : List V} (h : KidsR l xs) : xs.length = l.length * 4 := by
  induction l generalizing xs with
  | nil => cases h; rfl
  | cons f r ih =>
    cases h with | cons _ _ c xs h1 h2 =>
    rw [List.length_append, h1.len, ih h2, List.length_cons]; omega
theorem KidsR.app {l : List Fil} {xs : List V} (h : KidsR l xs) {f : Fil} {c : List V} (hf : FilR f c) : KidsR (l ++ [f]) (xs ++ c) := by
  induction l generalizing xs with
  | nil => cases h; have := KidsR.cons f [] c [] hf .nil; rw [List.append_nil] at this; exact this
  | cons g r ih =>
    cases h with | cons _ _ c' xs h1 h2 =>
    rw [List.append_assoc]
    exact .cons g (r ++ [f]) c' _ h1 (ih h2)
theorem KidsR.one {f : Fil} {c : List V} (hf : FilR f c) : KidsR [f] c := by have := KidsR.cons f [] c [] hf .nil; rwa [List.append_nil] at this
/-- The shared memory behind a call of the parser: only the place has changed, and tokens are new. -/
structure Hop (h h' : H) (id : Nat) : Prop where
  next : h'.next = h.next
  nt : h.nt ≤ h'.nt
  tips : ∀ t, t < h.nt → al h'.tips t = al h.tips t
  objs : ∀ j, j ≠ id → al h'.objs j = al h.objs j
theorem Hop.trans {h h1 h2 : H} {id : Nat} (a : Hop h h1 id) (b : Hop h1 h2 id) : Hop h h2 id :=
  ⟨b.next.trans a.next, Nat.le_trans a.nt b.nt, fun t ht => (b.tips t (Nat.lt_of_lt_of_le ht a.nt)).trans (a.tips t ht), fun j hj => (b.objs j hj).trans (a.objs j hj)⟩
end Go.Proofs.YtpcjhfchpelonaaGreatDoor
set_option linter.unusedSimpArgs false
set_option linter.unusedVariables false
namespace Go.Proofs.YtpcjhfchpelonaaGreatDoor
open Ai

def plain (n : Nat) : Bool := decide ((32 : Int) ≤ n) && (!decide ((n : Int) = 127) && !decide ((n : Int) = 65533))
def letter (n : Nat) : Bool := decide ((97 : Int) ≤ n) && decide ((n : Int) ≤ 122)

theorem U139 : type_of% (@M_open _ _ B139.eq_1) := @M_open _ _ B139.eq_1
def kz139 (_ : Nat) : List Nat := []
theorem w_plain (n : Nat) (gl : Nat → List V) : M noX (kz139) (.code B139) [] (St.init gl 4 [.i .i32 n] {}) (Fin [.tmp 2] (.b (plain n))) := by
  rw [U139]
  simp only [go_sem, ne_eq, not_false_eq_true, reduceIte, Nat.reduceMul, Nat.reduceAdd, Nat.reduceSub, Nat.reduceEqDiff, Nat.reduceLeDiff, Nat.reduceLT, List.take_succ_cons, List.take_zero, List.drop_succ_cons, List.cons_append]
  refine G_split _ _ _ _ _ ?_ ?_ <;> intro h1 <;> simp only [h1, go_sem, ne_eq, not_false_eq_true, reduceIte, Nat.reduceMul, Nat.reduceAdd, Nat.reduceSub, Nat.reduceEqDiff, Nat.reduceLeDiff, Nat.reduceLT, List.take_succ_cons, List.take_zero, List.drop_succ_cons, List.cons_append]
  · refine G_split _ _ _ _ _ ?_ ?_ <;> intro h2 <;> simp only [h2, go_sem, ne_eq, not_false_eq_true, reduceIte, Nat.reduceMul, Nat.reduceAdd, Nat.reduceSub, Nat.reduceEqDiff, Nat.reduceLeDiff, Nat.reduceLT, List.take_succ_cons, List.take_zero, List.drop_succ_cons, List.cons_append]
    · simp only [plain, h1, h2, Bool.true_and]
    · simp only [plain, h1, h2, Bool.true_and, Bool.false_and]
  · simp only [plain, h1, Bool.false_and]

theorem U48 : type_of% (@M_open _ _ B48.eq_1) := @M_open _ _ B48.eq_1
def kz48 (_ : Nat) : List Nat := []
theorem w_tletter (n : Nat) (gl : Nat → List V) : M noX (kz48) (.code B48) [] (St.init gl 4 [.i .i32 n] {}) (Fin [.tmp 2] (.b (letter n))) := by
  rw [U48]
  simp only [go_sem, ne_eq, not_false_eq_true, reduceIte, Nat.reduceMul, Nat.reduceAdd, Nat.reduceSub, Nat.reduceEqDiff, Nat.reduceLeDiff, Nat.reduceLT, List.take_succ_cons, List.take_zero, List.drop_succ_cons, List.cons_append]
  refine G_split _ _ _ _ _ ?_ ?_ <;> intro h1 <;> simp only [h1, go_sem, ne_eq, not_false_eq_true, reduceIte, Nat.reduceMul, Nat.reduceAdd, Nat.reduceSub, Nat.reduceEqDiff, Nat.reduceLeDiff, Nat.reduceLT, List.take_succ_cons, List.take_zero, List.drop_succ_cons, List.cons_append]
  · simp only [letter, h1, Bool.true_and]
  · simp only [letter, h1, Bool.false_and]

def K47_1 : List Fr := [.blk 0,
 .seq (.seq (.reg [⟨some 28, .mov (.t 9), none⟩, ⟨some 29, .mov (.t 1), none⟩, ⟨some 30, .bin .geq (.t 28) (.t 29), none⟩, ⟨some 8, .mov (.t 30), none⟩])
 .ret)]
theorem U47_1 : type_of% (@M_open _ _ L47_1.eq_1) := @M_open _ _ L47_1.eq_1
theorem U47 : type_of% (@M_open _ _ B47.eq_1) := @M_open _ _ B47.eq_1
def kz47 (_ : Nat) : List Nat := [0, 4, 5, 6, 7, 8, 10, 11, 12, 14, 15, 16, 17, 18, 19, 20, 21, 22, 23, 24, 25, 26, 27, 28, 29, 30]
def allV (p : Nat → Bool) (lo hi : Nat) (l : List UInt8) : Bool := decide (lo ≤ (rns l).length) && (decide ((rns l).length ≤ hi) && (rns l).all p)
def allX (f : FuncId) (p : Nat → Bool) (g : FuncId) (a : List V) : Option V := bif Nat.beq g f then (match a with | [.i .i32 (Int.ofNat n)] => some (.b (p n)) | _ => none) else none
theorem allX_eq (f : FuncId) (p : Nat → Bool) (n : Nat) : allX f p f [.i .i32 n] = some (.b (p n)) := by unfold allX; simp only [nat_beq, decide_true, cond_true]

def allQ (p : Nat → Bool) (lo hi n : Nat) (l : List UInt8) : Bool := decide (lo ≤ n + (rns l).length) && (decide (n + (rns l).length ≤ hi) && (rns l).all p)
theorem w_all_loop (f : FuncId) (p : Nat → Bool) (lo hi : Nat) (hh : hi < 4611686018427387904) (gl : Nat → List V) : ∀ (l : List UInt8) (n pos : Nat), n ≤ hi →
    M (allX f p) (kz47) (.code L47_1) (.loop L47_1 :: K47_1) ⟨gl, (.node (.node (.node (.node (.node .leaf .any .leaf) .any (.node .leaf .any .leaf)) (.fn f [] []) (.node (.node .leaf .any .leaf) .any (.node .leaf .any .leaf))) (.i .i64 lo) (.node (.node (.node .leaf .any .leaf) (.i .i64 n) (.node .leaf .any .leaf)) .any (.node (.node .leaf .any .leaf) (.it) (.node .leaf .any .leaf)))) .any (.node (.node (.node (.node .leaf .any .leaf) .any (.node .leaf .any .leaf)) .any (.node (.node .leaf .any .leaf) .any (.node .leaf .any .leaf))) (.i .i64 hi) (.node (.node (.node .leaf .any .leaf) .any (.node .leaf .any .leaf)) .any (.node (.node .leaf .any .leaf) .any (.node .leaf .any .leaf))))), [(13, (l, pos))], [], {}⟩ (Fin [.tmp 8] (.b (allQ p lo hi n l))) := by
  intro l
  induction l using rune_ind with
  | h0 =>
    intro n pos hn
    rw [U47_1]
    simp only [K47_1, go_sem, ne_eq, not_false_eq_true, reduceIte, Nat.reduceMul, Nat.reduceAdd, Nat.reduceSub, Nat.reduceEqDiff, Nat.reduceLeDiff, Nat.reduceLT, List.take_succ_cons, List.take_zero, List.drop_succ_cons, List.cons_append]
    simp [allQ, rns_nil, hn]
  | h1 a r ih =>
    intro n pos hn
    have e : wr .i64 ((n : Int) + 1) = ((n + 1 : Nat) : Int) := by rw [wr64] <;> omega
    rw [U47_1]
    simp only [e, go_sem, ne_eq, not_false_eq_true, reduceIte, Nat.reduceMul, Nat.reduceAdd, Nat.reduceSub, Nat.reduceEqDiff, Nat.reduceLeDiff, Nat.reduceLT, List.take_succ_cons, List.take_zero, List.drop_succ_cons, List.cons_append]
    refine G_split _ _ _ _ _ ?_ ?_ <;> intro h1 <;> simp only [h1, allX_eq, go_sem, ne_eq, not_false_eq_true, reduceIte, Nat.reduceMul, Nat.reduceAdd, Nat.reduceSub, Nat.reduceEqDiff, Nat.reduceLeDiff, Nat.reduceLT, List.take_succ_cons, List.take_zero, List.drop_succ_cons, List.cons_append]
    · simp only [K47_1, go_sem, ne_eq, not_false_eq_true, reduceIte, Nat.reduceMul, Nat.reduceAdd, Nat.reduceSub, Nat.reduceEqDiff, Nat.reduceLeDiff, Nat.reduceLT, List.take_succ_cons, List.take_zero, List.drop_succ_cons, List.cons_append]
      simp only [decide_eq_true_eq] at h1
      simp only [allQ, rns_cons, List.length_cons]
      rw [decide_eq_false (p := n + _ ≤ hi) (by omega)]
      simp
    · refine B_split _ _ _ ?_ ?_ <;> intro h2 <;> simp only [h2, go_sem, ne_eq, not_false_eq_true, reduceIte, Nat.reduceMul, Nat.reduceAdd, Nat.reduceSub, Nat.reduceEqDiff, Nat.reduceLeDiff, Nat.reduceLT, List.take_succ_cons, List.take_zero, List.drop_succ_cons, List.cons_append]
      · simp only [K47_1, go_sem, ne_eq, not_false_eq_true, reduceIte, Nat.reduceMul, Nat.reduceAdd, Nat.reduceSub, Nat.reduceEqDiff, Nat.reduceLeDiff, Nat.reduceLT, List.take_succ_cons, List.take_zero, List.drop_succ_cons, List.cons_append]
        simp only [Bool.not_eq_true'] at h2
        simp [allQ, rns_cons, h2]
      · rw [M_loop]
        simp only [kz47, go_sem, ne_eq, not_false_eq_true, reduceIte, Nat.reduceMul, Nat.reduceAdd, Nat.reduceSub, Nat.reduceEqDiff, Nat.reduceLeDiff, Nat.reduceLT, List.take_succ_cons, List.take_zero, List.drop_succ_cons, List.cons_append]
        simp only [Bool.not_eq_false'] at h2
        simp only [decide_eq_false_iff_not] at h1
        rw [show allQ p lo hi n (a :: r) = allQ p lo hi (n + 1) ((a :: r).drop (dec (a :: r)).2) from by
          simp only [allQ, rns_cons, List.length_cons, List.all_cons, h2, Bool.true_and]
          simp only [Nat.add_assoc, Nat.add_comm 1]]
        exact ih (n + 1) _ (by omega)
theorem w_all (f : FuncId) (p : Nat → Bool) (lo hi : Nat) (hh : hi < 4611686018427387904) (l : List UInt8) (gl : Nat → List V) :
    M (allX f p) (kz47) (.code B47) [] (St.init gl 5 [.s l, .i .i64 lo, .i .i64 hi, .fn f [] []] {}) (Fin [.tmp 8] (.b (allV p lo hi l))) := by
  rw [U47]
  simp only [go_sem, ne_eq, not_false_eq_true, reduceIte, Nat.reduceMul, Nat.reduceAdd, Nat.reduceSub, Nat.reduceEqDiff, Nat.reduceLeDiff, Nat.reduceLT, List.take_succ_cons, List.take_zero, List.drop_succ_cons, List.cons_append]
  rw [M_loop]
  simp only [kz47, go_sem, ne_eq, not_false_eq_true, reduceIte, Nat.reduceMul, Nat.reduceAdd, Nat.reduceSub, Nat.reduceEqDiff, Nat.reduceLeDiff, Nat.reduceLT, List.take_succ_cons, List.take_zero, List.drop_succ_cons, List.cons_append]
  rw [show allV p lo hi l = allQ p lo hi 0 l from by simp [allV, allQ]]
  exact w_all_loop f p lo hi hh gl l 0 0 (by omega)

theorem c_plain (n : Nat) : Comp tabx told 139 [.i .i32 n] (.b (plain n)) := comp_of tells_noX (fn := af139) rfl (Nat.le_of_ble_eq_true rfl) fun gl => w_plain n gl
theorem c_letter (n : Nat) : Comp tabx told 48 [.i .i32 n] (.b (letter n)) := comp_of tells_noX (fn := af48) rfl (Nat.le_of_ble_eq_true rfl) fun gl => w_tletter n gl
theorem tells_all {f : FuncId} {p : Nat → Bool} (h : ∀ n : Nat, Comp tabx told f [.i .i32 n] (.b (p n))) : Tells tabx told (allX f p) := by
  intro g a v e
  unfold allX at e
  cases hb : Nat.beq g f with
  | false => rw [hb] at e; cases e
  | true =>
    rw [hb] at e
    have := Nat.eq_of_beq_eq_true hb
    subst this
    simp only [cond_true] at e
    split at e
    · rename_i n
      cases e
      exact h n
    · cases e
theorem c_all {f : FuncId} {p : Nat → Bool} (h : ∀ n : Nat, Comp tabx told f [.i .i32 n] (.b (p n))) (lo hi : Nat) (hh : hi < 4611686018427387904) (l : List UInt8) :
    Comp tabx told 47 [.s l, .i .i64 lo, .i .i64 hi, .fn f [] []] (.b (allV p lo hi l)) := comp_of (tells_all h) (fn := af47) rfl (Nat.le_of_ble_eq_true rfl) fun gl => w_all f p lo hi hh l gl

/-! ### text.Key, Value, Name -/
def F_all (a : List V) : Option V := match a with
  | [.s l, .i .i64 1, .i .i64 24, .fn 139 [] []] => some (.b (allV plain 1 24 l))
  | [.s l, .i .i64 0, .i .i64 48, .fn 139 [] []] => some (.b (allV plain 0 48 l))
  | [.s l, .i .i64 1, .i .i64 8, .fn 48 [] []] => some (.b (allV letter 1 8 l))
  | _ => none
theorem F_all1 (l : List UInt8) : F_all [.s l, .i .i64 1, .i .i64 24, .fn 139 [] []] = some (.b (allV plain 1 24 l)) := rfl
theorem F_all2 (l : List UInt8) : F_all [.s l, .i .i64 0, .i .i64 48, .fn 139 [] []] = some (.b (allV plain 0 48 l)) := rfl
theorem F_all3 (l : List UInt8) : F_all [.s l, .i .i64 1, .i .i64 8, .fn 48 [] []] = some (.b (allV letter 1 8 l)) := rfl
def X_all := xs [(47, F_all)]
theorem t_all : Tells tabx told X_all := tells_cons (fun a v e => by
  unfold F_all at e
  split at e
  · cases e; exact c_all c_plain 1 24 (by decide) _
  · cases e; exact c_all c_plain 0 48 (by decide) _
  · cases e; exact c_all c_letter 1 8 (by decide) _
  · cases e) tells_nil
def errV (b : Bool) (n : Int) : Int := bif b then 0 else n

theorem U111 : type_of% (@M_open _ _ B111.eq_1) := @M_open _ _ B111.eq_1
def kz111 (_ : Nat) : List Nat := []
theorem w_Key (l : List UInt8) (gl : Nat → List V) : M X_all (kz111) (.code B111) [] (St.init gl 3 [.s l] {}) (Fin [.tmp 2] (.i .i64 (errV (allV plain 1 24 l) 20))) := by
  rw [U111]
  simp only [X_all, F_all1, go_sem, ne_eq, not_false_eq_true, reduceIte, Nat.reduceMul, Nat.reduceAdd, Nat.reduceSub, Nat.reduceEqDiff, Nat.reduceLeDiff, Nat.reduceLT, List.take_succ_cons, List.take_zero, List.drop_succ_cons, List.cons_append]
  refine B_split _ _ _ ?_ ?_ <;> intro h <;> simp only [h, go_sem, ne_eq, not_false_eq_true, reduceIte, Nat.reduceMul, Nat.reduceAdd, Nat.reduceSub, Nat.reduceEqDiff, Nat.reduceLeDiff, Nat.reduceLT, List.take_succ_cons, List.take_zero, List.drop_succ_cons, List.cons_append]
  · simp only [Bool.not_eq_true'] at h
    simp [errV, h]
  · simp only [Bool.not_eq_false'] at h
    simp [errV, h]
theorem c_Key (l : List UInt8) : Comp tabx told 111 [.s l] (.i .i64 (errV (allV plain 1 24 l) 20)) := comp_of t_all (fn := af111) rfl (Nat.le_of_ble_eq_true rfl) fun gl => w_Key l gl

theorem U112 : type_of% (@M_open _ _ B112.eq_1) := @M_open _ _ B112.eq_1
def kz112 (_ : Nat) : List Nat := []
theorem w_Value (l : List UInt8) (gl : Nat → List V) : M X_all (kz112) (.code B112) [] (St.init gl 3 [.s l] {}) (Fin [.tmp 2] (.i .i64 (errV (allV plain 0 48 l) 21))) := by
  rw [U112]
  simp only [X_all, F_all2, go_sem, ne_eq, not_false_eq_true, reduceIte, Nat.reduceMul, Nat.reduceAdd, Nat.reduceSub, Nat.reduceEqDiff, Nat.reduceLeDiff, Nat.reduceLT, List.take_succ_cons, List.take_zero, List.drop_succ_cons, List.cons_append]
  refine B_split _ _ _ ?_ ?_ <;> intro h <;> simp only [h, go_sem, ne_eq, not_false_eq_true, reduceIte, Nat.reduceMul, Nat.reduceAdd, Nat.reduceSub, Nat.reduceEqDiff, Nat.reduceLeDiff, Nat.reduceLT, List.take_succ_cons, List.take_zero, List.drop_succ_cons, List.cons_append]
  · simp only [Bool.not_eq_true'] at h
    simp [errV, h]
  · simp only [Bool.not_eq_false'] at h
    simp [errV, h]
theorem c_Value (l : List UInt8) : Comp tabx told 112 [.s l] (.i .i64 (errV (allV plain 0 48 l) 21)) := comp_of t_all (fn := af112) rfl (Nat.le_of_ble_eq_true rfl) fun gl => w_Value l gl

theorem U25 : type_of% (@M_open _ _ B25.eq_1) := @M_open _ _ B25.eq_1
def kz25 (_ : Nat) : List Nat := []
theorem w_Name (l : List UInt8) (gl : Nat → List V) : M X_all (kz25) (.code B25) [] (St.init gl 3 [.s l] {}) (Fin [.tmp 2] (.i .i64 (errV (allV letter 1 8 l) 22))) := by
  rw [U25]
  simp only [X_all, F_all3, go_sem, ne_eq, not_false_eq_true, reduceIte, Nat.reduceMul, Nat.reduceAdd, Nat.reduceSub, Nat.reduceEqDiff, Nat.reduceLeDiff, Nat.reduceLT, List.take_succ_cons, List.take_zero, List.drop_succ_cons, List.cons_append]
  refine B_split _ _ _ ?_ ?_ <;> intro h <;> simp only [h, go_sem, ne_eq, not_false_eq_true, reduceIte, Nat.reduceMul, Nat.reduceAdd, Nat.reduceSub, Nat.reduceEqDiff, Nat.reduceLeDiff, Nat.reduceLT, List.take_succ_cons, List.take_zero, List.drop_succ_cons, List.cons_append]
  · simp only [Bool.not_eq_true'] at h
    simp [errV, h]
  · simp only [Bool.not_eq_false'] at h
    simp [errV, h]
theorem c_Name (l : List UInt8) : Comp tabx told 25 [.s l] (.i .i64 (errV (allV letter 1 8 l) 22)) := comp_of t_all (fn := af25) rfl (Nat.le_of_ble_eq_true rfl) fun gl => w_Name l gl
end Go.Proofs.YtpcjhfchpelonaaGreatDoor
set_option linter.unusedSimpArgs false
set_option linter.unusedVariables false
namespace Go.Proofs.YtpcjhfchpelonaaGreatDoor
open Ai

theorem U166 : type_of% (@M_open _ _ B166.eq_1) := @M_open _ _ B166.eq_1
def kz166 (_ : Nat) : List Nat := []
theorem w_rplain (n : Nat) (gl : Nat → List V) : M noX (kz166) (.code B166) [] (St.init gl 4 [.i .i32 n] {}) (Fin [.tmp 2] (.b (plain n))) := by
  rw [U166]
  have e : decide ((31 : Int) < n) = decide ((32 : Int) ≤ n) := decide_eq_decide.2 (by omega)
  simp only [e, go_sem, ne_eq, not_false_eq_true, reduceIte, Nat.reduceMul, Nat.reduceAdd, Nat.reduceSub, Nat.reduceEqDiff, Nat.reduceLeDiff, Nat.reduceLT, List.take_succ_cons, List.take_zero, List.drop_succ_cons, List.cons_append]
  refine G_split _ _ _ _ _ ?_ ?_ <;> intro h1 <;> simp only [h1, go_sem, ne_eq, not_false_eq_true, reduceIte, Nat.reduceMul, Nat.reduceAdd, Nat.reduceSub, Nat.reduceEqDiff, Nat.reduceLeDiff, Nat.reduceLT, List.take_succ_cons, List.take_zero, List.drop_succ_cons, List.cons_append]
  · refine G_split _ _ _ _ _ ?_ ?_ <;> intro h2 <;> simp only [h2, go_sem, ne_eq, not_false_eq_true, reduceIte, Nat.reduceMul, Nat.reduceAdd, Nat.reduceSub, Nat.reduceEqDiff, Nat.reduceLeDiff, Nat.reduceLT, List.take_succ_cons, List.take_zero, List.drop_succ_cons, List.cons_append]
    · simp only [plain, h1, h2, Bool.true_and]
    · simp only [plain, h1, h2, Bool.true_and, Bool.false_and]
  · simp only [plain, h1, Bool.false_and]
theorem c_rplain (n : Nat) : Comp tabx told 166 [.i .i32 n] (.b (plain n)) := comp_of tells_noX (fn := af166) rfl (Nat.le_of_ble_eq_true rfl) fun gl => w_rplain n gl

def K165_1 : List Fr := [.blk 0,
 .seq (.seq (.reg [⟨some 15, .mov (.t 3), none⟩, ⟨some 2, .mov (.t 15), none⟩])
 .ret)]
theorem U165_1 : type_of% (@M_open _ _ L165_1.eq_1) := @M_open _ _ L165_1.eq_1
theorem U165 : type_of% (@M_open _ _ B165.eq_1) := @M_open _ _ B165.eq_1
def kz165 (_ : Nat) : List Nat := [0, 1, 2, 4, 5, 6, 8, 9, 10, 11, 12, 13, 14, 15]
theorem w_Runes_loop (gl : Nat → List V) : ∀ (l : List UInt8) (xs : List Nat) (pos : Nat), xs.length + l.length ≤ 16384 →
    M noX (kz165) (.code L165_1) (.loop L165_1 :: K165_1) ⟨gl, (.node (.node (.node (.node (.node .leaf .any .leaf) (.it) (.node .leaf .any .leaf)) (.sl (xs.map rv) xs.length (.own 1)) (.node (.node .leaf .any .leaf) .any (.node .leaf .any .leaf))) .any (.node (.node (.node .leaf .any .leaf) .any (.node .leaf .any .leaf)) .any (.node (.node .leaf .any .leaf) .any (.node .leaf .any .leaf)))) .any (.node (.node (.node (.node .leaf .any .leaf) .any (.node .leaf .any .leaf)) .any (.node (.node .leaf .any .leaf) .any (.node .leaf .any .leaf))) .any (.node (.node (.node .leaf .any .leaf) .any (.node .leaf .any .leaf)) .any (.node (.node .leaf .any .leaf) .any (.node .leaf .any .leaf))))), [(7, (l, pos))], [], ⟨0, [], 2, [(1, (xs.length, 21)), (0, (0, 21))]⟩⟩
      (Fin [.tmp 2] (.sl ((xs ++ rns l).map rv) (xs ++ rns l).length .no)) := by
  intro l
  induction l using rune_ind with
  | h0 =>
    intro xs pos hn
    rw [U165_1]
    simp only [K165_1, go_sem, ne_eq, not_false_eq_true, reduceIte, Nat.reduceMul, Nat.reduceAdd, Nat.reduceSub, Nat.reduceEqDiff, Nat.reduceLeDiff, Nat.reduceLT, List.take_succ_cons, List.take_zero, List.drop_succ_cons, List.cons_append]
    rw [frz_rvs]
    simp [rns_nil]
  | h1 a r ih =>
    intro xs pos hn
    rw [U165_1]
    have e1 : (xs.map rv).length = xs.length := List.length_map ..
    have e2 : xs.length + 1 ≤ most := by unfold most; have : (a :: r).length ≥ 1 := by simp
                                         omega
    simp only [e1, e2, go_sem, ne_eq, not_false_eq_true, reduceIte, Nat.reduceMul, Nat.reduceAdd, Nat.reduceSub, Nat.reduceEqDiff, Nat.reduceLeDiff, Nat.reduceLT, List.take_succ_cons, List.take_zero, List.drop_succ_cons, List.cons_append]
    rw [M_loop]
    simp only [kz165, go_sem, ne_eq, not_false_eq_true, reduceIte, Nat.reduceMul, Nat.reduceAdd, Nat.reduceSub, Nat.reduceEqDiff, Nat.reduceLeDiff, Nat.reduceLT, List.take_succ_cons, List.take_zero, List.drop_succ_cons, List.cons_append]
    have := ih (xs ++ [(dec (a :: r)).1]) (pos + (dec (a :: r)).2) (by
      have := dec_nil_free a r
      simp only [List.length_append, List.length_cons, List.length_nil] at hn ⊢
      simp only [List.length_cons] at this
      omega)
    rw [rns_cons]
    simpa [rv] using this
theorem w_Runes (l : List UInt8) (hl : l.length ≤ 16384) (gl : Nat → List V) : M noX (kz165) (.code B165) [] (St.init gl 5 [.s l] {}) (Fin [.tmp 2] (.sl ((rns l).map rv) (rns l).length .no)) := by
  rw [U165]
  simp only [go_sem, ne_eq, not_false_eq_true, reduceIte, Nat.reduceMul, Nat.reduceAdd, Nat.reduceSub, Nat.reduceEqDiff, Nat.reduceLeDiff, Nat.reduceLT, List.take_succ_cons, List.take_zero, List.drop_succ_cons, List.cons_append]
  rw [M_loop]
  simp only [kz165, go_sem, ne_eq, not_false_eq_true, reduceIte, Nat.reduceMul, Nat.reduceAdd, Nat.reduceSub, Nat.reduceEqDiff, Nat.reduceLeDiff, Nat.reduceLT, List.take_succ_cons, List.take_zero, List.drop_succ_cons, List.cons_append]
  exact w_Runes_loop gl l [] 0 (by simpa using hl)
theorem c_Runes (l : List UInt8) (hl : l.length ≤ 16384) : Comp tabx told 165 [.s l] (.sl ((rns l).map rv) (rns l).length .no) := comp_of tells_noX (fn := af165) rfl (Nat.le_of_ble_eq_true rfl) fun gl => w_Runes l hl gl

def F_Runes (a : List V) : Option V := match a with
  | [.s l] => if l.length ≤ 16384 then some (.sl ((rns l).map rv) (rns l).length .no) else none
  | _ => none
theorem F_Runes1 (l : List UInt8) (h : l.length ≤ 16384) : F_Runes [.s l] = some (.sl ((rns l).map rv) (rns l).length .no) := by simp [F_Runes, h]
theorem o_Runes : ∀ a v, F_Runes a = some v → Comp tabx told 165 a v := fun a v e => by
  unfold F_Runes at e
  split at e
  · split at e
    · rename_i h; cases e; exact c_Runes _ h
    · cases e
  · cases e
def F_rplain (a : List V) : Option V := match a with
  | [.i .i32 (Int.ofNat n)] => some (.b (plain n))
  | _ => none
theorem F_rplain1 (n : Nat) : F_rplain [.i .i32 (n : Int)] = some (.b (plain n)) := rfl
theorem o_rplain : ∀ a v, F_rplain a = some v → Comp tabx told 166 a v := fun a v e => by
  unfold F_rplain at e
  split at e
  · cases e; exact c_rplain _
  · cases e
def X_many := xs [(165, F_Runes), (166, F_rplain)]
theorem t_many : Tells tabx told X_many := tells_cons o_Runes (tells_cons o_rplain tells_nil)

def K140_1 : List Fr := [.blk 0,
 .seq (.seq (.reg [⟨some 35, .mov (.t 8), none⟩, ⟨some 6, .mov (.t 35), none⟩])
 .ret)]
theorem U140_1 : type_of% (@M_open _ _ L140_1.eq_1) := @M_open _ _ L140_1.eq_1
theorem U140 : type_of% (@M_open _ _ B140.eq_1) := @M_open _ _ B140.eq_1
def kz140 (_ : Nat) : List Nat := [0, 1, 2, 3, 4, 5, 6, 7, 9, 10, 11, 12, 13, 14, 15, 16, 17, 18, 19, 20, 21, 22, 26, 27, 28, 29, 30, 31, 32, 33, 34, 35]
theorem w_many_loop (rs : List Nat) (hr : rs.length ≤ 16384) (gl : Nat → List V) : ∀ (k i : Nat) (acc : Bool), i + k = rs.length → ∀ its h,
    M X_many (kz140) (.code L140_1) (.loop L140_1 :: K140_1) ⟨gl, (.node (.node (.node (.node (.node (.node .leaf .any .leaf) .any (.node .leaf .any .leaf)) .any (.node (.node .leaf .any .leaf) (.sl (rs.map rv) rs.length .no) (.node .leaf .any .leaf))) .any (.node (.node (.node .leaf .any .leaf) .any (.node .leaf .any .leaf)) .any (.node (.node .leaf .any .leaf) .any (.node .leaf .any .leaf)))) .any (.node (.node (.node (.node .leaf .any .leaf) .any (.node .leaf .any .leaf)) .any (.node (.node .leaf .any .leaf) (.i .i64 i) (.node .leaf .any .leaf))) .any (.node (.node (.node .leaf .any .leaf) .any (.node .leaf .any .leaf)) .any (.node (.node .leaf .any .leaf) .any (.node .leaf .any .leaf))))) .any (.node (.node (.node (.node (.node .leaf .any .leaf) .any (.node .leaf .any .leaf)) (.b acc) (.node (.node .leaf .any .leaf) (.i .i64 rs.length) (.node .leaf .any .leaf))) .any (.node (.node (.node .leaf .any .leaf) .any (.node .leaf .any .leaf)) .any (.node (.node .leaf .any .leaf) .any (.node .leaf .any .leaf)))) .any (.node (.node (.node (.node .leaf .any .leaf) .any (.node .leaf .any .leaf)) .any (.node (.node .leaf .any .leaf) .any (.node .leaf .any .leaf))) .any (.node (.node (.node .leaf .any .leaf) .any (.node .leaf .any .leaf)) .any (.node (.node .leaf .any .leaf) .any (.node .leaf .any .leaf)))))), its, [], h⟩
      (Fin [.tmp 6] (.b (acc && (rs.drop i).all plain))) := by
  intro k
  induction k with
  | zero =>
    intro i acc hi its h
    rw [U140_1]
    have e1 : decide ((i : Int) < rs.length) = false := by simp; omega
    simp only [e1, K140_1, go_sem, ne_eq, not_false_eq_true, reduceIte, Nat.reduceMul, Nat.reduceAdd, Nat.reduceSub, Nat.reduceEqDiff, Nat.reduceLeDiff, Nat.reduceLT, List.take_succ_cons, List.take_zero, List.drop_succ_cons, List.cons_append]
    rw [List.drop_eq_nil_of_le (by omega)]
    simp
  | succ k ih =>
    intro i acc hi its h
    rw [U140_1]
    have hlt : i < rs.length := by omega
    have e1 : decide ((i : Int) < rs.length) = true := by simp; omega
    have e2 : i + 1 ≤ (rs.map rv).length := by simp; omega
    have e3 : (rs.map rv)[i]? = some (.i .i32 ((rs[i] : Nat) : Int)) := by simp [rv, hlt]
    have e4 : wr .i64 ((i : Int) + 1) = ((i + 1 : Nat) : Int) := by rw [wr64] <;> omega
    cases acc with
    | true =>
      simp only [e1, e2, e3, e4, hlt, X_many, F_rplain1, go_sem, ne_eq, not_false_eq_true, reduceIte, Nat.reduceMul, Nat.reduceAdd, Nat.reduceSub, Nat.reduceEqDiff, Nat.reduceLeDiff, Nat.reduceLT, List.take_succ_cons, List.take_zero, List.drop_succ_cons, List.cons_append]
      rw [M_loop]
      simp only [kz140, e4, go_sem, ne_eq, not_false_eq_true, reduceIte, Nat.reduceMul, Nat.reduceAdd, Nat.reduceSub, Nat.reduceEqDiff, Nat.reduceLeDiff, Nat.reduceLT, List.take_succ_cons, List.take_zero, List.drop_succ_cons, List.cons_append]
      rw [show (rs.drop i).all plain = (plain rs[i] && (rs.drop (i + 1)).all plain) from by rw [List.drop_eq_getElem_cons hlt, List.all_cons]]
      exact ih (i + 1) _ (by omega) _ _
    | false =>
      simp only [e1, e2, e3, e4, hlt, go_sem, ne_eq, not_false_eq_true, reduceIte, Nat.reduceMul, Nat.reduceAdd, Nat.reduceSub, Nat.reduceEqDiff, Nat.reduceLeDiff, Nat.reduceLT, List.take_succ_cons, List.take_zero, List.drop_succ_cons, List.cons_append]
      rw [M_loop]
      simp only [kz140, e4, go_sem, ne_eq, not_false_eq_true, reduceIte, Nat.reduceMul, Nat.reduceAdd, Nat.reduceSub, Nat.reduceEqDiff, Nat.reduceLeDiff, Nat.reduceLT, List.take_succ_cons, List.take_zero, List.drop_succ_cons, List.cons_append]
      exact ih (i + 1) _ (by omega) _ _
theorem w_many (l : List UInt8) (lo hi : Nat) (hl : l.length ≤ 16384) (gl : Nat → List V) : M X_many (kz140) (.code B140) [] (St.init gl 6 [.s l, .i .i64 lo, .i .i64 hi] {}) (Fin [.tmp 6] (.b (allV plain lo hi l))) := by
  rw [U140]
  have hr : (rns l).length ≤ 16384 := Nat.le_trans (rns_le l) hl
  simp only [X_many, F_Runes1 l hl, go_sem, ne_eq, not_false_eq_true, reduceIte, Nat.reduceMul, Nat.reduceAdd, Nat.reduceSub, Nat.reduceEqDiff, Nat.reduceLeDiff, Nat.reduceLT, List.take_succ_cons, List.take_zero, List.drop_succ_cons, List.cons_append]
  have e : allV plain lo hi l = (decide (((lo : Nat) : Int) ≤ (rns l).length) && (decide ((((rns l).length : Nat) : Int) ≤ hi) && (rns l).all plain)) := by simp [allV]
  refine G_split _ _ _ _ _ ?_ ?_ <;> intro h1 <;> simp only [h1, go_sem, ne_eq, not_false_eq_true, reduceIte, Nat.reduceMul, Nat.reduceAdd, Nat.reduceSub, Nat.reduceEqDiff, Nat.reduceLeDiff, Nat.reduceLT, List.take_succ_cons, List.take_zero, List.drop_succ_cons, List.cons_append]
  · rw [M_loop]
    simp only [kz140, go_sem, ne_eq, not_false_eq_true, reduceIte, Nat.reduceMul, Nat.reduceAdd, Nat.reduceSub, Nat.reduceEqDiff, Nat.reduceLeDiff, Nat.reduceLT, List.take_succ_cons, List.take_zero, List.drop_succ_cons, List.cons_append]
    have := w_many_loop (rns l) hr gl (rns l).length 0 (decide (((rns l).length : Int) ≤ hi)) (by omega) [] {}
    rw [e, h1, Bool.true_and]
    exact this
  · rw [M_loop]
    simp only [kz140, go_sem, ne_eq, not_false_eq_true, reduceIte, Nat.reduceMul, Nat.reduceAdd, Nat.reduceSub, Nat.reduceEqDiff, Nat.reduceLeDiff, Nat.reduceLT, List.take_succ_cons, List.take_zero, List.drop_succ_cons, List.cons_append]
    have := w_many_loop (rns l) hr gl (rns l).length 0 false (by omega) [] {}
    rw [e, h1]
    exact this
theorem c_many (l : List UInt8) (lo hi : Nat) (hl : l.length ≤ 16384) : Comp tabx told 140 [.s l, .i .i64 lo, .i .i64 hi] (.b (allV plain lo hi l)) := comp_of t_many (fn := af140) rfl (Nat.le_of_ble_eq_true rfl) fun gl => w_many l lo hi hl gl
def F_many (a : List V) : Option V := match a with
  | [.s l, .i .i64 (Int.ofNat lo), .i .i64 (Int.ofNat hi)] => if l.length ≤ 16384 then some (.b (allV plain lo hi l)) else none
  | _ => none
theorem F_many1 (l : List UInt8) (h : l.length ≤ 16384) : F_many [.s l, .i .i64 1, .i .i64 24] = some (.b (allV plain 1 24 l)) := if_pos h
theorem F_many2 (l : List UInt8) (h : l.length ≤ 16384) : F_many [.s l, .i .i64 0, .i .i64 48] = some (.b (allV plain 0 48 l)) := if_pos h
theorem o_many : ∀ a v, F_many a = some v → Comp tabx told 140 a v := fun a v e => by
  unfold F_many at e
  split at e
  · split at e
    · rename_i h; cases e; exact c_many _ _ _ h
    · cases e
  · cases e
def X_rkey := xs [(140, F_many)]
theorem t_rkey : Tells tabx told X_rkey := tells_cons o_many tells_nil

theorem U113 : type_of% (@M_open _ _ B113.eq_1) := @M_open _ _ B113.eq_1
def kz113 (_ : Nat) : List Nat := []
theorem w_rKey (l : List UInt8) (hl : l.length ≤ 16384) (gl : Nat → List V) : M X_rkey (kz113) (.code B113) [] (St.init gl 3 [.s l] {}) (Fin [.tmp 2] (.i .i64 (errV (allV plain 1 24 l) 20))) := by
  rw [U113]
  simp only [X_rkey, F_many1 l hl, go_sem, ne_eq, not_false_eq_true, reduceIte, Nat.reduceMul, Nat.reduceAdd, Nat.reduceSub, Nat.reduceEqDiff, Nat.reduceLeDiff, Nat.reduceLT, List.take_succ_cons, List.take_zero, List.drop_succ_cons, List.cons_append]
  refine B_split _ _ _ ?_ ?_ <;> intro h <;> simp only [h, go_sem, ne_eq, not_false_eq_true, reduceIte, Nat.reduceMul, Nat.reduceAdd, Nat.reduceSub, Nat.reduceEqDiff, Nat.reduceLeDiff, Nat.reduceLT, List.take_succ_cons, List.take_zero, List.drop_succ_cons, List.cons_append]
  · simp only [Bool.not_eq_true'] at h
    simp [errV, h]
  · simp only [Bool.not_eq_false'] at h
    simp [errV, h]
theorem c_rKey (l : List UInt8) (hl : l.length ≤ 16384) : Comp tabx told 113 [.s l] (.i .i64 (errV (allV plain 1 24 l) 20)) := comp_of t_rkey (fn := af113) rfl (Nat.le_of_ble_eq_true rfl) fun gl => w_rKey l hl gl

theorem U114 : type_of% (@M_open _ _ B114.eq_1) := @M_open _ _ B114.eq_1
def kz114 (_ : Nat) : List Nat := []
theorem w_rValue (l : List UInt8) (hl : l.length ≤ 16384) (gl : Nat → List V) : M X_rkey (kz114) (.code B114) [] (St.init gl 3 [.s l] {}) (Fin [.tmp 2] (.i .i64 (errV (allV plain 0 48 l) 21))) := by
  rw [U114]
  simp only [X_rkey, F_many2 l hl, go_sem, ne_eq, not_false_eq_true, reduceIte, Nat.reduceMul, Nat.reduceAdd, Nat.reduceSub, Nat.reduceEqDiff, Nat.reduceLeDiff, Nat.reduceLT, List.take_succ_cons, List.take_zero, List.drop_succ_cons, List.cons_append]
  refine B_split _ _ _ ?_ ?_ <;> intro h <;> simp only [h, go_sem, ne_eq, not_false_eq_true, reduceIte, Nat.reduceMul, Nat.reduceAdd, Nat.reduceSub, Nat.reduceEqDiff, Nat.reduceLeDiff, Nat.reduceLT, List.take_succ_cons, List.take_zero, List.drop_succ_cons, List.cons_append]
  · simp only [Bool.not_eq_true'] at h
    simp [errV, h]
  · simp only [Bool.not_eq_false'] at h
    simp [errV, h]
theorem c_rValue (l : List UInt8) (hl : l.length ≤ 16384) : Comp tabx told 114 [.s l] (.i .i64 (errV (allV plain 0 48 l) 21)) := comp_of t_rkey (fn := af114) rfl (Nat.le_of_ble_eq_true rfl) fun gl => w_rValue l hl gl

/-! ### The document's Name: byte by byte -/
def az (c : UInt8) : Bool := decide ((97 : Int) ≤ (c.toNat : Int)) && decide ((c.toNat : Int) ≤ 122)
def nameV (l : List UInt8) : Bool := decide (1 ≤ l.length) && (decide (l.length ≤ 8) && l.all az)

def K50_1 : List Fr := [.blk 0,
 .seq (.seq (.seq (.reg [⟨some 32, .mov (.t 3), none⟩, ⟨some 33, .un .not (.t 32), none⟩])
 (.cond (.t 33)
 (.seq (.reg [⟨some 2, .mov (.k (.i .i64 22)), none⟩])
 .ret)
 .skip))
 (.seq (.reg [⟨some 2, .mov (.k (.i .i64 0)), none⟩])
 .ret))]
theorem U50_1 : type_of% (@M_open _ _ L50_1.eq_1) := @M_open _ _ L50_1.eq_1
theorem U50 : type_of% (@M_open _ _ B50.eq_1) := @M_open _ _ B50.eq_1
def kz50 (_ : Nat) : List Nat := [1, 2, 4, 5, 6, 7, 8, 9, 10, 11, 12, 13, 16, 17, 18, 19, 20, 21, 22, 23, 24, 25, 26, 27, 28, 29, 30, 31, 32, 33]
theorem w_rName_loop (l : List UInt8) (hl : l.length ≤ 16384) (gl : Nat → List V) : ∀ (k i : Nat) (acc : Bool), i + k = l.length → ∀ its h,
    M noX (kz50) (.code L50_1) (.loop L50_1 :: K50_1) ⟨gl, (.node (.node (.node (.node (.node (.node .leaf .any .leaf) (.i .i64 i) (.node .leaf .any .leaf)) .any (.node (.node .leaf .any .leaf) .any (.node .leaf .any .leaf))) (.b acc) (.node (.node (.node .leaf .any .leaf) .any (.node .leaf .any .leaf)) .any (.node (.node .leaf .any .leaf) .any (.node .leaf .any .leaf)))) .any (.node (.node (.node (.node .leaf .any .leaf) .any (.node .leaf .any .leaf)) .any (.node (.node .leaf .any .leaf) .any (.node .leaf .any .leaf))) .any (.node (.node (.node .leaf .any .leaf) .any (.node .leaf .any .leaf)) .any (.node (.node .leaf .any .leaf) .any (.node .leaf .any .leaf))))) (.s l) (.node (.node (.node (.node (.node .leaf .any .leaf) .any (.node .leaf .any .leaf)) .any (.node (.node .leaf .any .leaf) .any (.node .leaf .any .leaf))) .any (.node (.node (.node .leaf .any .leaf) .any (.node .leaf .any .leaf)) .any (.node (.node .leaf .any .leaf) .any (.node .leaf .any .leaf)))) .any (.node (.node (.node (.node .leaf .any .leaf) .any (.node .leaf .any .leaf)) .any (.node (.node .leaf .any .leaf) .any (.node .leaf .any .leaf))) .any (.node (.node (.node .leaf .any .leaf) .any (.node .leaf .any .leaf)) (.i .i64 l.length) (.node (.node .leaf .any .leaf) .any (.node .leaf .any .leaf)))))), its, [], h⟩
      (Fin [.tmp 2] (.i .i64 (errV (acc && (l.drop i).all az) 22))) := by
  intro k
  induction k with
  | zero =>
    intro i acc hi its h
    rw [U50_1]
    have e1 : decide ((i : Int) < l.length) = false := by simp; omega
    simp only [e1, K50_1, go_sem, ne_eq, not_false_eq_true, reduceIte, Nat.reduceMul, Nat.reduceAdd, Nat.reduceSub, Nat.reduceEqDiff, Nat.reduceLeDiff, Nat.reduceLT, List.take_succ_cons, List.take_zero, List.drop_succ_cons, List.cons_append]
    rw [List.drop_eq_nil_of_le (by omega)]
    cases acc <;> simp only [go_sem, ne_eq, not_false_eq_true, reduceIte, Nat.reduceMul, Nat.reduceAdd, Nat.reduceSub, Nat.reduceEqDiff, Nat.reduceLeDiff, Nat.reduceLT, List.take_succ_cons, List.take_zero, List.drop_succ_cons, List.cons_append] <;> simp [errV]
  | succ k ih =>
    intro i acc hi its h
    rw [U50_1]
    have hlt : i < l.length := by omega
    have e1 : decide ((i : Int) < l.length) = true := by simp; omega
    have e3 : l[i]? = some l[i] := by simp [hlt]
    have e4 : wr .i64 ((i : Int) + 1) = ((i + 1 : Nat) : Int) := by rw [wr64] <;> omega
    have key : (l.drop i).all az = (az l[i] && (l.drop (i + 1)).all az) := by rw [List.drop_eq_getElem_cons hlt, List.all_cons]
    cases acc with
    | true =>
      simp only [e1, e3, e4, hlt, go_sem, ne_eq, not_false_eq_true, reduceIte, Nat.reduceMul, Nat.reduceAdd, Nat.reduceSub, Nat.reduceEqDiff, Nat.reduceLeDiff, Nat.reduceLT, List.take_succ_cons, List.take_zero, List.drop_succ_cons, List.cons_append]
      rw [key]
      refine G_split _ _ _ _ _ ?_ ?_ <;> intro h1 <;> simp only [h1, e3, e4, az, go_sem, ne_eq, not_false_eq_true, reduceIte, Nat.reduceMul, Nat.reduceAdd, Nat.reduceSub, Nat.reduceEqDiff, Nat.reduceLeDiff, Nat.reduceLT, List.take_succ_cons, List.take_zero, List.drop_succ_cons, List.cons_append]
      · rw [M_loop]
        simp only [kz50, e4, go_sem, ne_eq, not_false_eq_true, reduceIte, Nat.reduceMul, Nat.reduceAdd, Nat.reduceSub, Nat.reduceEqDiff, Nat.reduceLeDiff, Nat.reduceLT, List.take_succ_cons, List.take_zero, List.drop_succ_cons, List.cons_append]
        have := ih (i + 1) (decide (((l[i]).toNat : Int) ≤ 122)) (by omega) its h
        exact this
      · rw [M_loop]
        simp only [kz50, e4, go_sem, ne_eq, not_false_eq_true, reduceIte, Nat.reduceMul, Nat.reduceAdd, Nat.reduceSub, Nat.reduceEqDiff, Nat.reduceLeDiff, Nat.reduceLT, List.take_succ_cons, List.take_zero, List.drop_succ_cons, List.cons_append]
        exact ih (i + 1) false (by omega) its h
    | false =>
      simp only [e1, e3, e4, hlt, go_sem, ne_eq, not_false_eq_true, reduceIte, Nat.reduceMul, Nat.reduceAdd, Nat.reduceSub, Nat.reduceEqDiff, Nat.reduceLeDiff, Nat.reduceLT, List.take_succ_cons, List.take_zero, List.drop_succ_cons, List.cons_append]
      rw [M_loop]
      simp only [kz50, e4, go_sem, ne_eq, not_false_eq_true, reduceIte, Nat.reduceMul, Nat.reduceAdd, Nat.reduceSub, Nat.reduceEqDiff, Nat.reduceLeDiff, Nat.reduceLT, List.take_succ_cons, List.take_zero, List.drop_succ_cons, List.cons_append]
      exact ih (i + 1) _ (by omega) _ _
theorem w_rName (l : List UInt8) (hl : l.length ≤ 16384) (gl : Nat → List V) : M noX (kz50) (.code B50) [] (St.init gl 6 [.s l] {}) (Fin [.tmp 2] (.i .i64 (errV (nameV l) 22))) := by
  rw [U50]
  simp only [go_sem, ne_eq, not_false_eq_true, reduceIte, Nat.reduceMul, Nat.reduceAdd, Nat.reduceSub, Nat.reduceEqDiff, Nat.reduceLeDiff, Nat.reduceLT, List.take_succ_cons, List.take_zero, List.drop_succ_cons, List.cons_append]
  have e1 : decide ((1 : Int) ≤ (l.length : Int)) = decide (1 ≤ l.length) := decide_eq_decide.2 (by omega)
  have e2 : decide ((l.length : Int) ≤ 8) = decide (l.length ≤ 8) := decide_eq_decide.2 (by omega)
  refine G_split _ _ _ _ _ ?_ ?_ <;> intro h1 <;> simp only [h1, go_sem, ne_eq, not_false_eq_true, reduceIte, Nat.reduceMul, Nat.reduceAdd, Nat.reduceSub, Nat.reduceEqDiff, Nat.reduceLeDiff, Nat.reduceLT, List.take_succ_cons, List.take_zero, List.drop_succ_cons, List.cons_append]
  · rw [M_loop]
    simp only [kz50, e2, go_sem, ne_eq, not_false_eq_true, reduceIte, Nat.reduceMul, Nat.reduceAdd, Nat.reduceSub, Nat.reduceEqDiff, Nat.reduceLeDiff, Nat.reduceLT, List.take_succ_cons, List.take_zero, List.drop_succ_cons, List.cons_append]
    rw [e1] at h1
    have := w_rName_loop l hl gl l.length 0 (decide (l.length ≤ 8)) (by omega) [] {}
    rw [nameV, h1, Bool.true_and]
    exact this
  · rw [M_loop]
    simp only [kz50, go_sem, ne_eq, not_false_eq_true, reduceIte, Nat.reduceMul, Nat.reduceAdd, Nat.reduceSub, Nat.reduceEqDiff, Nat.reduceLeDiff, Nat.reduceLT, List.take_succ_cons, List.take_zero, List.drop_succ_cons, List.cons_append]
    rw [e1] at h1
    have := w_rName_loop l hl gl l.length 0 false (by omega) [] {}
    rw [nameV, h1, Bool.false_and]
    exact this
theorem c_rName (l : List UInt8) (hl : l.length ≤ 16384) : Comp tabx told 50 [.s l] (.i .i64 (errV (nameV l) 22)) := comp_of tells_noX (fn := af50) rfl (Nat.le_of_ble_eq_true rfl) fun gl => w_rName l hl gl

theorem letters_az (l : List UInt8) : (rns l).all letter = l.all az ∧ ((rns l).all letter = true → (rns l).length = l.length) := by
  induction l using rune_ind with
  | h0 => simp [rns_nil]
  | h1 a r ih =>
    by_cases h : letter (dec (a :: r)).1 = true
    · have h' := h
      simp only [letter, Bool.and_eq_true, decide_eq_true_eq] at h'
      obtain ⟨h1, h2⟩ := dec_low (a := a) (r := r) (by omega)
      rw [h2] at ih h h'
      simp only [List.drop_succ_cons, List.drop_zero] at ih
      rw [rns_cons, h2]
      simp only [List.drop_succ_cons, List.drop_zero, List.all_cons, List.length_cons]
      refine ⟨?_, fun e => ?_⟩
      · rw [ih.1]; rfl
      · simp only [Bool.and_eq_true] at e
        rw [ih.2 e.2]
    · have h0 : letter (dec (a :: r)).1 = false := by simpa using h
      have : az a = false := by
        cases ha : az a with
        | false => rfl
        | true =>
          exfalso
          simp only [az, Bool.and_eq_true, decide_eq_true_eq] at ha
          rw [dec_ascii (by omega)] at h0
          simp only [letter, Bool.and_eq_false_iff, decide_eq_false_iff_not] at h0
          omega
      rw [rns_cons]
      simp [h0, this]
theorem name_eq (l : List UInt8) : allV letter 1 8 l = nameV l := by
  obtain ⟨h1, h2⟩ := letters_az l
  unfold allV nameV
  rw [← h1]
  cases h : (rns l).all letter with
  | false => simp
  | true => rw [h2 h]

/-! ### The law -/
def F_Key (a : List V) : Option V := match a with
  | [.s l] => some (.i .i64 (errV (allV plain 1 24 l) 20))
  | _ => none
def F_Value (a : List V) : Option V := match a with
  | [.s l] => some (.i .i64 (errV (allV plain 0 48 l) 21))
  | _ => none
def F_Name (a : List V) : Option V := match a with
  | [.s l] => some (.i .i64 (errV (allV letter 1 8 l) 22))
  | _ => none
def F_rKey (a : List V) : Option V := match a with
  | [.s l] => if l.length ≤ 16384 then some (.i .i64 (errV (allV plain 1 24 l) 20)) else none
  | _ => none
def F_rValue (a : List V) : Option V := match a with
  | [.s l] => if l.length ≤ 16384 then some (.i .i64 (errV (allV plain 0 48 l) 21)) else none
  | _ => none
def F_rName (a : List V) : Option V := match a with
  | [.s l] => if l.length ≤ 16384 then some (.i .i64 (errV (nameV l) 22)) else none
  | _ => none
theorem F_rKey1 (l : List UInt8) (h : l.length ≤ 16384) : F_rKey [.s l] = some (.i .i64 (errV (allV plain 1 24 l) 20)) := if_pos h
theorem F_rValue1 (l : List UInt8) (h : l.length ≤ 16384) : F_rValue [.s l] = some (.i .i64 (errV (allV plain 0 48 l) 21)) := if_pos h
theorem F_rName1 (l : List UInt8) (h : l.length ≤ 16384) : F_rName [.s l] = some (.i .i64 (errV (nameV l) 22)) := if_pos h
theorem o_Key : ∀ a v, F_Key a = some v → Comp tabx told 111 a v := fun a v e => by
  unfold F_Key at e
  split at e <;> cases e
  exact c_Key _
theorem o_Value : ∀ a v, F_Value a = some v → Comp tabx told 112 a v := fun a v e => by
  unfold F_Value at e
  split at e <;> cases e
  exact c_Value _
theorem o_Name : ∀ a v, F_Name a = some v → Comp tabx told 25 a v := fun a v e => by
  unfold F_Name at e
  split at e <;> cases e
  exact c_Name _
theorem o_rKey : ∀ a v, F_rKey a = some v → Comp tabx told 113 a v := fun a v e => by
  unfold F_rKey at e
  split at e
  · split at e
    · rename_i h; cases e; exact c_rKey _ h
    · cases e
  · cases e
theorem o_rValue : ∀ a v, F_rValue a = some v → Comp tabx told 114 a v := fun a v e => by
  unfold F_rValue at e
  split at e
  · split at e
    · rename_i h; cases e; exact c_rValue _ h
    · cases e
  · cases e
theorem o_rName : ∀ a v, F_rName a = some v → Comp tabx told 50 a v := fun a v e => by
  unfold F_rName at e
  split at e
  · split at e
    · rename_i h; cases e; exact c_rName _ h
    · cases e
  · cases e
end Go.Proofs.YtpcjhfchpelonaaGreatDoor
set_option linter.unusedSimpArgs false
set_option linter.unusedVariables false
namespace Go.Proofs.YtpcjhfchpelonaaGreatDoor
open Ai
mutual
theorem FilR.uniq : ∀ (f g : Fil) (c : List V), FilR f c → FilR g c → f = g
  | .mk k nm tx kids, g, c, h1, h2 => by
    cases h1 with | mk _ _ _ _ xs n tk hn hx =>
    cases h2 with | mk _ _ _ kids' _ _ _ hn' hx' =>
    rw [KidsR.uniq kids kids' xs hx hx']
theorem KidsR.uniq : ∀ (l m : List Fil) (xs : List V), KidsR l xs → KidsR m xs → l = m
  | [], m, xs, h1, h2 => by
    have e := h2.len
    cases h1
    cases m with
    | nil => rfl
    | cons g r => simp only [List.length_nil, List.length_cons] at e; omega
  | f :: r, m, xs, h1, h2 => by
    cases h1 with | cons _ _ c ys h3 h4 =>
    generalize he : c ++ ys = zs at h2
    cases h2 with
    | nil => have := h3.len; have := congrArg List.length he; simp only [List.length_append, List.length_nil] at this; omega
    | cons g r' c' ys' h5 h6 =>
      have hc : c = c' ∧ ys = ys' := List.append_inj he (by rw [h3.len, h5.len])
      obtain ⟨rfl, rfl⟩ := hc
      rw [FilR.uniq f g c h3 h5, KidsR.uniq r r' ys h4 h6]
end
def keyB (l : List UInt8) : Bool := allV plain 1 24 l
def valB (l : List UInt8) : Bool := allV plain 0 48 l
def namB (l : List UInt8) : Bool := allV letter 1 8 l
/-- May a part be, whatever its kids are? 'n': how many. -/
def mayB (k : Int) (nm tx : List UInt8) (n : Nat) : Bool :=
  if k = 0 ∨ k = 3 then decide (n = 0) && (decide (nm = []) && decide (tx = []))
  else if k = 1 then decide (n = 0) && (decide (nm = []) && keyB tx)
  else if k = 2 then decide (n = 0) && (namB nm && valB tx)
  else if k = 4 then decide (nm = []) && (decide (tx = []) && decide (n = 1))
  else if k = 5 ∨ k = 6 then decide (nm = []) && decide (tx = [])
  else false
mutual
/-- Whether a filter may be: the error, and how many parts were gone through. -/
def bld : Fil → Nat → Nat → Nat × Nat
  | .mk k nm tx kids, d, w => if 6 < d ∨ 24 < w + 1 then (51, w + 1) else if mayB k nm tx kids.length = false then (50, w + 1) else blds kids (d + 1) (w + 1)
def blds : List Fil → Nat → Nat → Nat × Nat
  | [], _, w => (0, w)
  | f :: r, d, w => if (bld f d w).1 = 0 then blds r d (bld f d w).2 else bld f d w
end
mutual
theorem bld_le : ∀ (f : Fil) (d w : Nat), w ≤ 24 → w ≤ (bld f d w).2 ∧ ((bld f d w).1 = 0 → (bld f d w).2 ≤ 24)
  | .mk k nm tx kids, d, w, h => by
    rw [bld]
    split
    · exact ⟨by simp only; omega, fun h => by simp only at h; omega⟩
    · split
      · exact ⟨by simp only; omega, fun h => by simp only at h; omega⟩
      · have := blds_le kids (d + 1) (w + 1) (by omega)
        exact ⟨by omega, this.2⟩
theorem blds_le : ∀ (l : List Fil) (d w : Nat), w ≤ 24 → w ≤ (blds l d w).2 ∧ ((blds l d w).1 = 0 → (blds l d w).2 ≤ 24)
  | [], d, w, h => by rw [blds]; exact ⟨Nat.le_refl _, fun _ => h⟩
  | f :: r, d, w, h => by
    rw [blds]
    have h1 := bld_le f d w h
    split
    · rename_i h0
      have h2 := blds_le r d (bld f d w).2 (h1.2 h0)
      exact ⟨by omega, h2.2⟩
    · exact h1
end
/-! ### The walk -/
def WB (h : H) (id w : Nat) : Prop := al h.objs id = some (.cells 3 [.i .i64 (w : Nat)])
def setW (h : H) (id w : Nat) : H := ⟨h.next, alSet h.objs id (.cells 3 [.i .i64 (w : Nat)]), h.nt, h.tips⟩
theorem WB.set (h : H) (id w : Nat) : WB (setW h id w) id w := al_alSet _ _ _
theorem WB.uniq {h : H} {id w w' : Nat} (h1 : WB h id w) (h2 : WB h id w') : w = w' := by
  have := h1.symm.trans h2
  simp only [Option.some.injEq, Ai.Obj.cells.injEq, List.cons.injEq, V.i.injEq, true_and, and_true] at this
  omega
theorem Hop.setW (h : H) (id w : Nat) : Hop h (setW h id w) id :=
  ⟨rfl, Nat.le_refl _, fun _ _ => rfl, fun j hj => by show al (alSet _ _ _) _ = _; rw [al_set, if_neg (fun h => hj h)]⟩
def isQ (t : Nat) : Bool := [181, 183, 185, 186, 190, 192, 193].contains t
def ResB (id : Nat) (h : H) (v : V) (h' : H) (q : Nat × Nat) : Prop := ∃ x, v = .tup [x, .i .i64 (q.1 : Nat)] ∧ ((q.1 = 0 ∧ ∃ t y, x = .ifc t y ∧ isQ t = true) ∨ (q.1 ≠ 0 ∧ x = .nili)) ∧ Hop h h' id ∧ WB h' id q.2
def R_build (id : Nat) (a : List V) (h : H) (v : V) (h' : H) : Prop := ∀ (f : Fil) (c : List V) (d w : Nat), a = [.agg c, .i .i64 (d : Nat), .p id 0] → FilR f c → WB h id w → ResB id h v h' (bld f d w)
def S_build (id D : Nat) : Prop := ∀ (f : Fil) (c : List V) (d w : Nat) (h : H), FilR f c → WB h id w → w ≤ 24 → 8 ≤ d + D → d ≤ 7 →
  ∃ v h', Hp.CompI tabx told 83 [.agg c, .i .i64 (d : Nat), .p id 0] h v h' ∧ ResB id h v h' (bld f d w)
noncomputable def Y_build (id : Nat) := ys [(83, pick 83 (R_build id))]
theorem t_build (id : Nat) : Hp.TellsI tabx told (Y_build id) := itells_cons pick_tells itells_nil
def X_build := xs [(111, F_Key), (112, F_Value), (25, F_Name)]
theorem x_build : Tells tabx told X_build := tells_cons o_Key (tells_cons o_Value (tells_cons o_Name tells_nil))
theorem call_build {id D : Nat} (S : S_build id D) {f : Fil} {c : List V} {d w : Nat} {h : H} (hf : FilR f c) (hw : WB h id w) (h1 : w ≤ 24) (h2 : 8 ≤ d + D) (h3 : d ≤ 7) :
    ∃ x h', Y_build id 83 [.agg c, .i .i64 (d : Nat), .p id 0] h = some (.tup [x, .i .i64 ((bld f d w).1 : Nat)], h') ∧ (((bld f d w).1 = 0 ∧ ∃ t y, x = .ifc t y ∧ isQ t = true) ∨ ((bld f d w).1 ≠ 0 ∧ x = .nili)) ∧ Hop h h' id ∧ WB h' id (bld f d w).2 := by
  obtain ⟨v, h', hc, hr⟩ := S f c d w h hf hw h1 h2 h3
  obtain ⟨v, h', e1, r1⟩ := pick_spec (R := R_build id) hc (by
    intro f' c' d' w' e1 hf' hw'
    simp only [List.cons.injEq, V.i.injEq, V.agg.injEq, true_and, and_true] at e1
    obtain ⟨e1, e2⟩ := e1
    have e2 : d = d' := by omega
    subst e1 e2
    rw [← FilR.uniq f f' c hf hf', ← hw.uniq hw']
    exact hr)
  obtain ⟨x, rfl, q1, q2, q3⟩ := r1 f c d w rfl hf hw
  exact ⟨x, h', e1, q1, q2, q3⟩
/-! Rows that are being built, of any type. -/
def TkH (h0 h : H) (ty m : Nat) (tk : Tk) : Prop := ∃ t, tk = .own t ∧ h0.nt ≤ t ∧ t < h.nt ∧ al h.tips t = some (m, ty)
theorem TkH.hop {h0 h h' : H} {ty m id : Nat} {tk : Tk} (g : TkH h0 h ty m tk) (hp : Hop h h' id) : TkH h0 h' ty m tk := by
  obtain ⟨t, g1, g2, g3, g4⟩ := g
  exact ⟨t, g1, g2, Nat.lt_of_lt_of_le g3 hp.nt, (hp.tips t g3).trans g4⟩
theorem app_tkH {h0 : H} {nx : Nat} {obs : List (Nat × Ai.Obj)} {nt : Nat} {tips : List (Nat × (Nat × TypeId))} {ty sz m id : Nat} {tk : Tk} (g : TkH h0 ⟨nx, obs, nt, tips⟩ ty m tk) {xs c : List V} (hx : xs.length = m * sz) (hc : c.length = 1 * sz) (h1 : allOne c = true) (hm : m + 1 ≤ most) (hp : Hop h0 ⟨nx, obs, nt, tips⟩ id) :
    ∃ tips', (∀ gl T its loc, St.app ⟨gl, T, its, loc, ⟨nx, obs, nt, tips⟩⟩ ty sz (.sl xs m tk) (.sl c 1 .full) = some (.sl (xs ++ c) (m + 1) tk, ⟨gl, T, its, loc, ⟨nx, obs, nt, tips'⟩⟩)) ∧ TkH h0 ⟨nx, obs, nt, tips'⟩ ty (m + 1) tk ∧ Hop h0 ⟨nx, obs, nt, tips'⟩ id := by
  obtain ⟨t, rfl, g2, g3, g4⟩ := g
  refine ⟨alSet tips t (m + 1, ty), fun gl T its loc => ?_, ⟨t, rfl, g2, g3, ?_⟩, ⟨hp.next, hp.nt, fun t' ht => ?_, hp.objs⟩⟩
  · simp only at g4
    simp only [hx, hc, h1, hm, g4, go_sem, ne_eq, not_false_eq_true, reduceIte, Nat.reduceMul, Nat.reduceAdd, Nat.reduceSub, Nat.reduceEqDiff, Nat.reduceLeDiff, Nat.reduceLT, List.take_succ_cons, List.take_zero, List.drop_succ_cons, List.cons_append]
  · simp only [go_sem, ne_eq, not_false_eq_true, reduceIte, Nat.reduceMul, Nat.reduceAdd, Nat.reduceSub, Nat.reduceEqDiff, Nat.reduceLeDiff, Nat.reduceLT, List.take_succ_cons, List.take_zero, List.drop_succ_cons, List.cons_append]
  · show al (alSet _ _ _) _ = _
    rw [al_set, if_neg (by omega)]
    exact hp.tips t' ht
theorem KidsR.split {l : List Fil} {xs : List V} (h : KidsR l xs) : ∀ (pre : List Fil) (f : Fil) (post : List Fil), l = pre ++ f :: post → ∃ c, FilR f c ∧ (xs.drop (pre.length * 4)).take 4 = c := by
  intro pre
  induction pre generalizing l xs with
  | nil =>
    intro f post e
    subst e
    cases h with | cons _ _ c ys h1 h2 =>
    refine ⟨c, h1, ?_⟩
    have := h1.len
    simp only [List.length_nil, Nat.zero_mul, List.drop_zero]
    rw [← this, List.take_left]
  | cons g pre ih =>
    intro f post e
    subst e
    cases h with | cons _ _ c ys h1 h2 =>
    obtain ⟨c', h3, h4⟩ := ih h2 f post rfl
    refine ⟨c', h3, ?_⟩
    have := h1.len
    rw [List.length_cons, show (pre.length + 1) * 4 = c.length + pre.length * 4 from by omega, ← List.drop_drop, List.drop_left, h4]
def K83_1 : List Fr := [.blk 1,
 .seq (.seq (.seq (.reg [⟨some 177, .faddr 0 (.t 3), none⟩, ⟨some 178, .load false 1 (.t 177), none⟩])
 (.blk 3 (.seq (.reg [⟨some 180, .bin .eql (.t 178) (.k (.i .i64 4)), none⟩, ⟨some 179, .mov (.t 180), none⟩])
 (.cond (.t 179)
 (.seq (.reg [⟨some 181, .mov (.t 9), none⟩, ⟨some 182, .iaddr (.slice 1) (.t 181) (.k (.i .i64 0)), none⟩, ⟨some 183, .load false 1 (.t 182), none⟩, ⟨some 184, .build [.nili] [(0, 1, (.t 183))], none⟩, ⟨some 185, .mkif 190 (.t 184), none⟩, ⟨some 6, .mov (.t 185), none⟩, ⟨some 7, .mov (.k (.i .i64 0)), none⟩])
 .ret)
 (.seq (.reg [⟨some 187, .bin .eql (.t 178) (.k (.i .i64 5)), none⟩, ⟨some 186, .mov (.t 187), none⟩])
 (.cond (.t 186)
 (.seq (.reg [⟨some 188, .mov (.t 9), none⟩, ⟨some 189, .build [(.sl [] 0 .nil)] [(0, 1, (.t 188))], none⟩, ⟨some 190, .mkif 192 (.t 189), none⟩, ⟨some 6, .mov (.t 190), none⟩, ⟨some 7, .mov (.k (.i .i64 0)), none⟩])
 .ret)
 .skip))))))
 (.seq (.reg [⟨some 191, .mov (.t 9), none⟩, ⟨some 192, .build [(.sl [] 0 .nil)] [(0, 1, (.t 191))], none⟩, ⟨some 193, .mkif 193 (.t 192), none⟩, ⟨some 6, .mov (.t 193), none⟩, ⟨some 7, .mov (.k (.i .i64 0)), none⟩])
 .ret))]
theorem UH83_1 : type_of% (@Hp_open _ _ L83_1.eq_1) := @Hp_open _ _ L83_1.eq_1
theorem UH83 : type_of% (@Hp_open _ _ B83.eq_1) := @Hp_open _ _ B83.eq_1
def kz83 (_ : Nat) : List Nat := [0, 4, 5, 6, 7, 8, 10, 11, 12, 13, 14, 15, 16, 17, 18, 19, 20, 21, 22, 23, 24, 25, 26, 27, 28, 29, 30, 31, 32, 33, 34, 35, 36, 37, 38, 39, 40, 41, 42, 43, 44, 45, 46, 47, 48, 49, 50, 51, 52, 53, 54, 55, 56, 57, 58, 59, 60, 61, 62, 63, 64, 65, 66, 67, 68, 69, 70, 71, 72, 73, 74, 75, 76, 77, 78, 79, 80, 81, 82, 83, 84, 85, 86, 87, 88, 89, 90, 91, 92, 93, 94, 95, 96, 97, 98, 99, 100, 101, 102, 103, 104, 105, 106, 107, 108, 109, 110, 111, 112, 113, 114, 115, 116, 117, 118, 119, 120, 121, 122, 123, 124, 125, 126, 127, 128, 129, 130, 131, 132, 133, 134, 135, 136, 137, 138, 139, 140, 141, 142, 143, 144, 145, 146, 147, 148, 152, 153, 154, 155, 156, 157, 158, 159, 160, 161, 162, 163, 164, 165, 166, 167, 168, 169, 170, 171, 172, 173, 174, 175, 176, 177, 178, 179, 180, 181, 182, 183, 184, 185, 186, 187, 188, 189, 190, 191, 192, 193]
theorem isQ_c {t : Nat} (h : isQ t = true) : ([181, 183, 185, 186, 190, 192, 193] : List Nat).contains t = true := h
end Go.Proofs.YtpcjhfchpelonaaGreatDoor
set_option linter.unusedSimpArgs false
set_option linter.unusedVariables false
namespace Go.Proofs.YtpcjhfchpelonaaGreatDoor
open Ai
theorem bld_gt (f : Fil) (d w : Nat) (h : w ≤ 24) : w + 1 ≤ (bld f d w).2 := by
  cases f with | mk k nm tx kids =>
  rw [bld]
  split
  · exact Nat.le_refl _
  · split
    · exact Nat.le_refl _
    · exact (blds_le kids (d + 1) (w + 1) (by omega)).1
section
variable {id D : Nat}
set_option maxRecDepth 100000 in
theorem w_kids (S : S_build id D) (k : Int) (nm tx : List UInt8) (kids : List Fil) (ys : List V) (tk0 : Tk) (hy : KidsR kids ys) (hk : 4 ≤ k ∧ k ≤ 6) (hk4 : k = 4 → kids.length = 1) (d : Nat) (hd : d ≤ 6) (hD : 8 ≤ d + 1 + D) (h0 : H) : ∀ (post pre : List Fil) (w : Nat) (h : H) (xs : List V) (tk : Tk) (l11 : List (Nat × List V)), kids = pre ++ post → WB h id w → w ≤ 24 → pre.length ≤ w → TkH h0 h 96 pre.length tk → Hop h0 h id → xs.length = pre.length → (∀ x ∈ xs, ∃ t y, x = .ifc t y) →
    Hp.M X_build (Y_build id) (kz83) (.code L83_1) (.loop L83_1 :: K83_1) ⟨gl0, (.node (.node (.node (.node (.node (.node (.node (.node .leaf .any .leaf) .any (.node .leaf .any .leaf)) .any (.node (.node .leaf .any .leaf) .any (.node .leaf .any .leaf))) .any (.node (.node (.node .leaf .any .leaf) .any (.node .leaf .any .leaf)) .any (.node (.node .leaf .any .leaf) .any (.node .leaf .any .leaf)))) .any (.node (.node (.node (.node .leaf .any .leaf) .any (.node .leaf .any .leaf)) .any (.node (.node .leaf .any .leaf) .any (.node .leaf .any .leaf))) .any (.node (.node (.node .leaf (.i .i64 (pre.length : Nat)) .leaf) .any (.node .leaf .any .leaf)) .any (.node (.node .leaf .any .leaf) .any (.node .leaf .any .leaf))))) (.l 3 0) (.node (.node (.node (.node (.node .leaf .any .leaf) .any (.node .leaf .any .leaf)) .any (.node (.node .leaf .any .leaf) .any (.node .leaf .any .leaf))) .any (.node (.node (.node .leaf .any .leaf) .any (.node .leaf .any .leaf)) .any (.node (.node .leaf .any .leaf) .any (.node .leaf .any .leaf)))) .any (.node (.node (.node (.node .leaf .any .leaf) .any (.node .leaf .any .leaf)) .any (.node (.node .leaf .any .leaf) .any (.node .leaf .any .leaf))) .any (.node (.node (.node .leaf .any .leaf) .any (.node .leaf .any .leaf)) .any (.node (.node .leaf .any .leaf) .any (.node .leaf .any .leaf)))))) (.i .i64 (d : Nat)) (.node (.node (.node (.node (.node (.node .leaf .any .leaf) .any (.node .leaf .any .leaf)) .any (.node (.node .leaf .any .leaf) .any (.node .leaf .any .leaf))) .any (.node (.node (.node .leaf .any .leaf) .any (.node .leaf .any .leaf)) .any (.node (.node .leaf .any .leaf) .any (.node .leaf .any .leaf)))) (.sl xs pre.length tk) (.node (.node (.node (.node .leaf .any .leaf) .any (.node .leaf .any .leaf)) .any (.node (.node .leaf .any .leaf) .any (.node .leaf .any .leaf))) .any (.node (.node (.node .leaf .any .leaf) .any (.node .leaf .any .leaf)) .any (.node (.node .leaf .any .leaf) .any (.node .leaf .any .leaf))))) .any (.node (.node (.node (.node (.node .leaf .any .leaf) .any (.node .leaf .any .leaf)) .any (.node (.node .leaf .any .leaf) .any (.node .leaf .any .leaf))) .any (.node (.node (.node .leaf (.sl ys kids.length tk0) .leaf) .any (.node .leaf .any .leaf)) .any (.node (.node .leaf .any .leaf) .any (.node .leaf .any .leaf)))) .any (.node (.node (.node (.node .leaf .any .leaf) .any (.node .leaf .any .leaf)) .any (.node (.node .leaf .any .leaf) .any (.node .leaf .any .leaf))) .any (.node (.node (.node .leaf .any .leaf) .any (.node .leaf .any .leaf)) .any (.node (.node .leaf .any .leaf) .any (.node .leaf .any .leaf))))))) .any (.node (.node (.node (.node (.node (.node (.node .leaf .any .leaf) .any (.node .leaf .any .leaf)) .any (.node (.node .leaf .any .leaf) .any (.node .leaf .any .leaf))) .any (.node (.node (.node .leaf .any .leaf) .any (.node .leaf .any .leaf)) .any (.node (.node .leaf .any .leaf) .any (.node .leaf .any .leaf)))) .any (.node (.node (.node (.node .leaf .any .leaf) .any (.node .leaf .any .leaf)) .any (.node (.node .leaf .any .leaf) .any (.node .leaf .any .leaf))) .any (.node (.node (.node .leaf .any .leaf) .any (.node .leaf .any .leaf)) .any (.node (.node .leaf .any .leaf) .any (.node .leaf .any .leaf))))) .any (.node (.node (.node (.node (.node .leaf .any .leaf) .any (.node .leaf .any .leaf)) .any (.node (.node .leaf .any .leaf) .any (.node .leaf .any .leaf))) .any (.node (.node (.node .leaf .any .leaf) .any (.node .leaf .any .leaf)) .any (.node (.node .leaf .any .leaf) .any (.node .leaf .any .leaf)))) .any (.node (.node (.node (.node .leaf .any .leaf) .any (.node .leaf .any .leaf)) .any (.node (.node .leaf .any .leaf) .any (.node .leaf .any .leaf))) .any (.node (.node (.node .leaf .any .leaf) .any (.node .leaf .any .leaf)) .any (.node (.node .leaf .any .leaf) .any (.node .leaf .any .leaf)))))) (.p id 0) (.node (.node (.node (.node (.node (.node .leaf .any .leaf) .any (.node .leaf .any .leaf)) .any (.node (.node .leaf .any .leaf) .any (.node .leaf .any .leaf))) .any (.node (.node (.node .leaf .any .leaf) .any (.node .leaf .any .leaf)) .any (.node (.node .leaf .any .leaf) .any (.node .leaf .any .leaf)))) .any (.node (.node (.node (.node .leaf .any .leaf) .any (.node .leaf .any .leaf)) .any (.node (.node .leaf .any .leaf) .any (.node .leaf .any .leaf))) .any (.node (.node (.node .leaf .any .leaf) .any (.node .leaf .any .leaf)) .any (.node (.node .leaf .any .leaf) .any (.node .leaf .any .leaf))))) .any (.node (.node (.node (.node (.node .leaf .any .leaf) .any (.node .leaf .any .leaf)) .any (.node (.node .leaf .any .leaf) .any (.node .leaf .any .leaf))) .any (.node (.node (.node .leaf (.i .i64 (kids.length : Nat)) .leaf) .any (.node .leaf .any .leaf)) .any (.node (.node .leaf .any .leaf) .any (.node .leaf .any .leaf)))) .any (.node (.node (.node (.node .leaf .any .leaf) .any (.node .leaf .any .leaf)) .any (.node (.node .leaf .any .leaf) .any (.node .leaf .any .leaf))) .any (.node (.node (.node .leaf .any .leaf) .any (.node .leaf .any .leaf)) .any (.node (.node .leaf .any .leaf) .any (.node .leaf .any .leaf)))))))), [], (3, [.i .i64 k, .s nm, .s tx, .sl ys kids.length tk0]) :: l11, h⟩
      (fun ex st => ∃ v h', Hp.FinI [.tmp 6, .tmp 7] v h' ex st ∧ ResB id h0 v h' (blds post (d + 1) w)) := by
  intro post
  induction post with
  | nil =>
    intro pre w h xs tk l11 hk1 hw hw2 hpw htk hop hxl hxs
    have hl : kids.length = pre.length := by rw [hk1]; simp
    have e1 : decide ((pre.length : Int) < (kids.length : Int)) = false := decide_eq_false (by omega)
    rw [UH83_1, blds]
    rcases (by omega : k = 4 ∨ k = 5 ∨ k = 6) with rfl | rfl | rfl
    · have h1 := hk4 rfl
      obtain ⟨x0, rfl⟩ : ∃ x, xs = [x] := by
        match xs, (show xs.length = 1 by omega) with
        | [x], _ => exact ⟨x, rfl⟩
      obtain ⟨t, y, rfl⟩ := hxs x0 (by simp)
      have hp1 : pre.length = 1 := by omega
      rw [h1, hp1] at *
      have e1 : decide (((1 : Nat) : Int) < ((1 : Nat) : Int)) = false := by decide
      simp only [e1, K83_1, List.getElem?_cons_zero, Int.cast_ofNat_Int, go_sem, ne_eq, not_false_eq_true, reduceIte, Nat.reduceMul, Nat.reduceAdd, Nat.reduceSub, Nat.reduceEqDiff, Nat.reduceLeDiff, Nat.reduceLT, List.take_succ_cons, List.take_zero, List.drop_succ_cons, List.cons_append]
      simp only [show decide ((1 : Int) < 1) = false by decide, K83_1, List.getElem?_cons_zero, Int.cast_ofNat_Int, go_sem, ne_eq, not_false_eq_true, reduceIte, Nat.reduceMul, Nat.reduceAdd, Nat.reduceSub, Nat.reduceEqDiff, Nat.reduceLeDiff, Nat.reduceLT, List.take_succ_cons, List.take_zero, List.drop_succ_cons, List.cons_append]
      exact ⟨_, _, ⟨rfl, rfl⟩, _, rfl, .inl ⟨rfl, _, _, rfl, rfl⟩, hop, hw⟩
    · have e2 : decide ((5 : Int) = 4) = false := by decide
      simp only [e1, e2, K83_1, Int.cast_ofNat_Int, go_sem, ne_eq, not_false_eq_true, reduceIte, Nat.reduceMul, Nat.reduceAdd, Nat.reduceSub, Nat.reduceEqDiff, Nat.reduceLeDiff, Nat.reduceLT, List.take_succ_cons, List.take_zero, List.drop_succ_cons, List.cons_append]
      exact ⟨_, _, ⟨rfl, rfl⟩, _, rfl, .inl ⟨rfl, _, _, rfl, rfl⟩, hop, hw⟩
    · have e2 : decide ((6 : Int) = 4) = false := by decide
      have e3 : decide ((6 : Int) = 5) = false := by decide
      simp only [e1, e2, e3, K83_1, Int.cast_ofNat_Int, go_sem, ne_eq, not_false_eq_true, reduceIte, Nat.reduceMul, Nat.reduceAdd, Nat.reduceSub, Nat.reduceEqDiff, Nat.reduceLeDiff, Nat.reduceLT, List.take_succ_cons, List.take_zero, List.drop_succ_cons, List.cons_append]
      exact ⟨_, _, ⟨rfl, rfl⟩, _, rfl, .inl ⟨rfl, _, _, rfl, rfl⟩, hop, hw⟩
  | cons f post ih =>
    intro pre w h xs tk l11 hk1 hw hw2 hpw htk hop hxl hxs
    have hl : kids.length = pre.length + post.length + 1 := by rw [hk1]; simp; omega
    have e1 : decide ((pre.length : Int) < (kids.length : Int)) = true := decide_eq_true (by omega)
    have g1 : pre.length < kids.length := by omega
    have hyl := hy.len
    have g2 : (pre.length + 1) * 4 ≤ kids.length * 4 := by omega
    obtain ⟨c, hc, ht⟩ := hy.split pre f post hk1
    obtain ⟨x, h', y4, q1, q2, q3⟩ := call_build S hc hw hw2 hD (by omega)
    have hle := bld_le f (d + 1) w hw2
    have w1 : wr .i64 ((d : Int) + 1) = ((d + 1 : Nat) : Int) := by rw [wr64] <;> omega
    rw [UH83_1, blds]
    cases hc with | mk k1 nm1 tx1 kids1 xs1 n1 tk1 hn1 hx1 =>
    generalize hq : bld (.mk k1 nm1 tx1 kids1) (d + 1) w = q at *
    obtain ⟨er, w'⟩ := q
    simp only at q1 q3 y4 hle
    by_cases he : er = 0
    · subst he
      rw [if_pos rfl]
      rcases q1 with ⟨_, t, y, rfl, hq2⟩ | ⟨hq1, _⟩
      · have hqc := isQ_c hq2
        obtain ⟨nx, obs, nt, tips⟩ := h'
        obtain ⟨tips', hap, g3, g4⟩ := app_tkH (htk.hop q2) (sz := 1) (by rw [hxl]; simp) (c := [.ifc t y]) rfl rfl (by unfold most; omega) (hop.trans q2)
        have hw' : WB ⟨nx, obs, nt, tips'⟩ id w' := q3
        have w2 : wr .i64 ((pre.length : Int) + 1) = ((pre.length + 1 : Nat) : Int) := by rw [wr64] <;> omega
        have hgrow : pre.length + 1 ≤ w' := by
          have := bld_gt (.mk k1 nm1 tx1 kids1) (d + 1) w hw2
          rw [hq] at this
          simp only at this
          omega
        have := fun l11 => ih (pre ++ [.mk k1 nm1 tx1 kids1]) w' ⟨nx, obs, nt, tips'⟩ (xs ++ [.ifc t y]) tk l11 (by rw [hk1]; simp) hw' (hle.2 rfl) (by simp; omega) (by simpa using g3) g4 (by simp [hxl]) (by
          intro z hz
          rcases List.mem_append.1 hz with hz | hz
          · exact hxs z hz
          · simp only [List.mem_singleton] at hz; exact ⟨t, y, hz⟩)
        simp only [e1, g1, hyl, g2, rd_ip, ht, w1, y4, hqc, hap, w2, splice, Int.cast_ofNat_Int, go_sem, ne_eq, not_false_eq_true, reduceIte, Nat.reduceMul, Nat.reduceAdd, Nat.reduceSub, Nat.reduceEqDiff, Nat.reduceLeDiff, Nat.reduceLT, List.take_succ_cons, List.take_zero, List.drop_succ_cons, List.cons_append]
        rw [Hp.M_loop]
        simp only [kz83, K83_1, List.length_append, List.length_cons, List.length_nil, Nat.zero_add, go_sem, ne_eq, not_false_eq_true, reduceIte, Nat.reduceMul, Nat.reduceAdd, Nat.reduceSub, Nat.reduceEqDiff, Nat.reduceLeDiff, Nat.reduceLT, List.take_succ_cons, List.take_zero, List.drop_succ_cons, List.cons_append] at this ⊢
        exact this _
      · exact absurd rfl hq1
    · rw [if_neg he]
      rcases q1 with ⟨hq1, _⟩ | ⟨hq1, rfl⟩
      · exact absurd hq1 he
      · have f1 : decide ((er : Int) = 0) = false := decide_eq_false (by omega)
        simp only [e1, g1, hyl, g2, rd_ip, ht, w1, y4, f1, splice, K83_1, go_sem, ne_eq, not_false_eq_true, reduceIte, Nat.reduceMul, Nat.reduceAdd, Nat.reduceSub, Nat.reduceEqDiff, Nat.reduceLeDiff, Nat.reduceLT, List.take_succ_cons, List.take_zero, List.drop_succ_cons, List.cons_append]
        exact ⟨_, _, ⟨rfl, rfl⟩, _, rfl, .inr ⟨he, rfl⟩, hop.trans q2, q3⟩
theorem errB (b : Bool) (e : Nat) (he : e ≠ 0) : decide (errV b e = 0) = b := by
  cases b with
  | true => rfl
  | false => exact decide_eq_false (by show ¬ ((e : Int) = 0); omega)
end
section
variable {id D : Nat}
set_option maxRecDepth 100000 in
set_option maxHeartbeats 1000000 in
theorem s_build (S : S_build id D) : S_build id (D + 1) := by
  intro f c d w h hf hw hw2 hD hd
  cases hf with | mk k nm tx kids xs n tk hn hx =>
  subst hn
  obtain ⟨nx, obs, nt, tips⟩ := h
  refine compI_ex (xf := X_build) (kz := kz83) (fn := af83) x_build (t_build id) rfl (Nat.le_of_ble_eq_true rfl) ?_
  show Hp.M _ _ _ (.code B83) _ (St.init gl0 8 _ _) (fun ex st => ∃ v h', Hp.FinI [.tmp 6, .tmp 7] v h' ex st ∧ _)
  rw [UH83]
  have hw' : al obs id = some (Ai.Obj.cells 3 [.i .i64 (w : Nat)]) := hw
  have w1 : wr .i64 ((w : Int) + 1) = ((w + 1 : Nat) : Int) := by rw [wr64] <;> omega
  rw [bld]
  by_cases c1 : 6 < d
  · have e1 : decide ((6 : Int) < (d : Int)) = true := decide_eq_true (by omega)
    rw [if_pos (.inl c1)]
    simp only [hw', w1, e1, splice, go_sem, ne_eq, not_false_eq_true, reduceIte, Nat.reduceMul, Nat.reduceAdd, Nat.reduceSub, Nat.reduceEqDiff, Nat.reduceLeDiff, Nat.reduceLT, List.take_succ_cons, List.take_zero, List.drop_succ_cons, List.cons_append]
    exact ⟨_, _, ⟨rfl, rfl⟩, _, rfl, .inr ⟨(show (51 : Nat) ≠ 0 from by decide), rfl⟩, Hop.setW ⟨nx, obs, nt, tips⟩ id (w + 1), WB.set ⟨nx, obs, nt, tips⟩ id (w + 1)⟩
  · have e1 : decide ((6 : Int) < (d : Int)) = false := decide_eq_false (by omega)
    by_cases c2 : 24 < w + 1
    · have e2 : decide ((24 : Int) < ((w + 1 : Nat) : Int)) = true := decide_eq_true (by omega)
      rw [if_pos (.inr c2)]
      simp only [hw', w1, e1, e2, splice, go_sem, ne_eq, not_false_eq_true, reduceIte, Nat.reduceMul, Nat.reduceAdd, Nat.reduceSub, Nat.reduceEqDiff, Nat.reduceLeDiff, Nat.reduceLT, List.take_succ_cons, List.take_zero, List.drop_succ_cons, List.cons_append]
      exact ⟨_, _, ⟨rfl, rfl⟩, _, rfl, .inr ⟨(show (51 : Nat) ≠ 0 from by decide), rfl⟩, Hop.setW ⟨nx, obs, nt, tips⟩ id (w + 1), WB.set ⟨nx, obs, nt, tips⟩ id (w + 1)⟩
    · have e2 : decide ((24 : Int) < ((w + 1 : Nat) : Int)) = false := decide_eq_false (by omega)
      rw [if_neg (by omega)]
      have eL : decide ((kids.length : Int) = 0) = decide (kids.length = 0) := decide_eq_decide.2 (by omega)
      have eN := strEq_dec nm []
      have eT := strEq_dec tx []
      have xk : X_build 111 [.s tx] = some (.i .i64 (errV (keyB tx) 20)) := rfl
      have xv : X_build 112 [.s tx] = some (.i .i64 (errV (valB tx) 21)) := rfl
      have xn : X_build 25 [.s nm] = some (.i .i64 (errV (namB nm) 22)) := rfl
      have ek : decide (errV (keyB tx) 20 = 0) = keyB tx := errB (keyB tx) 20 (by decide)
      have ev : decide (errV (valB tx) 21 = 0) = valB tx := errB (valB tx) 21 (by decide)
      have en : decide (errV (namB nm) 22 = 0) = namB nm := errB (namB nm) 22 (by decide)
      by_cases k0 : k = 0
      · skip
        have hM : mayB k nm tx kids.length = (decide (kids.length = 0) && (decide (nm = []) && decide (tx = []))) := by unfold mayB; rw [if_pos (by omega)]
        have d0 : decide (k = 0) = true := decide_eq_true (by omega)
        have d1 : decide (k = 1) = false := decide_eq_false (by omega)
        have d2 : decide (k = 2) = false := decide_eq_false (by omega)
        have d3 : decide (k = 3) = false := decide_eq_false (by omega)
        have d4 : decide (k < 4) = true := decide_eq_true (by omega)
        rw [hM]
        cases hL : decide (kids.length = 0) <;> cases hN : decide (nm = []) <;> cases hT : decide (tx = []) <;> rw [hL] at eL <;> rw [hN] at eN <;> rw [hT] at eT
        all_goals first
          | (rw [if_pos (show (_ && (_ && _)) = false from rfl)]; simp only [hw', w1, e1, e2, eL, eN, eT, d0, d1, d2, d3, d4, xk, xv, xn, ek, ev, en, splice, Int.cast_ofNat_Int, go_sem, ne_eq, not_false_eq_true, reduceIte, Nat.reduceMul, Nat.reduceAdd, Nat.reduceSub, Nat.reduceEqDiff, Nat.reduceLeDiff, Nat.reduceLT, List.take_succ_cons, List.take_zero, List.drop_succ_cons, List.cons_append]; exact ⟨_, _, ⟨rfl, rfl⟩, _, rfl, .inr ⟨(show (50 : Nat) ≠ 0 from by decide), rfl⟩, Hop.setW ⟨nx, obs, nt, tips⟩ id (w + 1), WB.set ⟨nx, obs, nt, tips⟩ id (w + 1)⟩)
          | (obtain rfl : kids = [] := List.eq_nil_of_length_eq_zero (of_decide_eq_true hL)
             rw [if_neg (by decide), blds]
             simp only [hw', w1, e1, e2, eL, eN, eT, d0, d1, d2, d3, d4, xk, xv, xn, ek, ev, en, splice, Int.cast_ofNat_Int, go_sem, ne_eq, not_false_eq_true, reduceIte, Nat.reduceMul, Nat.reduceAdd, Nat.reduceSub, Nat.reduceEqDiff, Nat.reduceLeDiff, Nat.reduceLT, List.take_succ_cons, List.take_zero, List.drop_succ_cons, List.cons_append]
             exact ⟨_, _, ⟨rfl, rfl⟩, _, rfl, .inl ⟨rfl, _, _, rfl, rfl⟩, Hop.setW ⟨nx, obs, nt, tips⟩ id (w + 1), WB.set ⟨nx, obs, nt, tips⟩ id (w + 1)⟩)
      · by_cases k1 : k = 1
        · skip
          have hM : mayB k nm tx kids.length = (decide (kids.length = 0) && (decide (nm = []) && keyB tx)) := by unfold mayB; rw [if_neg (by omega), if_pos k1]
          have d0 : decide (k = 0) = false := decide_eq_false (by omega)
          have d1 : decide (k = 1) = true := decide_eq_true (by omega)
          have d2 : decide (k = 2) = false := decide_eq_false (by omega)
          have d3 : decide (k = 3) = false := decide_eq_false (by omega)
          have d4 : decide (k < 4) = true := decide_eq_true (by omega)
          rw [hM]
          cases hL : decide (kids.length = 0) <;> cases hN : decide (nm = []) <;> cases hT : decide (tx = []) <;> cases hK : keyB tx <;> rw [hL] at eL <;> rw [hN] at eN <;> rw [hT] at eT <;> rw [hK] at ek xk
          all_goals first
            | (rw [if_pos (show (_ && (_ && _)) = false from rfl)]; simp only [hw', w1, e1, e2, eL, eN, eT, d0, d1, d2, d3, d4, xk, xv, xn, ek, ev, en, splice, Int.cast_ofNat_Int, go_sem, ne_eq, not_false_eq_true, reduceIte, Nat.reduceMul, Nat.reduceAdd, Nat.reduceSub, Nat.reduceEqDiff, Nat.reduceLeDiff, Nat.reduceLT, List.take_succ_cons, List.take_zero, List.drop_succ_cons, List.cons_append]; exact ⟨_, _, ⟨rfl, rfl⟩, _, rfl, .inr ⟨(show (50 : Nat) ≠ 0 from by decide), rfl⟩, Hop.setW ⟨nx, obs, nt, tips⟩ id (w + 1), WB.set ⟨nx, obs, nt, tips⟩ id (w + 1)⟩)
            | (obtain rfl : kids = [] := List.eq_nil_of_length_eq_zero (of_decide_eq_true hL)
               rw [if_neg (by decide), blds]
               simp only [hw', w1, e1, e2, eL, eN, eT, d0, d1, d2, d3, d4, xk, xv, xn, ek, ev, en, splice, Int.cast_ofNat_Int, go_sem, ne_eq, not_false_eq_true, reduceIte, Nat.reduceMul, Nat.reduceAdd, Nat.reduceSub, Nat.reduceEqDiff, Nat.reduceLeDiff, Nat.reduceLT, List.take_succ_cons, List.take_zero, List.drop_succ_cons, List.cons_append]
               exact ⟨_, _, ⟨rfl, rfl⟩, _, rfl, .inl ⟨rfl, _, _, rfl, rfl⟩, Hop.setW ⟨nx, obs, nt, tips⟩ id (w + 1), WB.set ⟨nx, obs, nt, tips⟩ id (w + 1)⟩)
        · by_cases k2 : k = 2
          · skip
            have hM : mayB k nm tx kids.length = (decide (kids.length = 0) && (namB nm && valB tx)) := by unfold mayB; rw [if_neg (by omega), if_neg k1, if_pos k2]
            have d0 : decide (k = 0) = false := decide_eq_false (by omega)
            have d1 : decide (k = 1) = false := decide_eq_false (by omega)
            have d2 : decide (k = 2) = true := decide_eq_true (by omega)
            have d3 : decide (k = 3) = false := decide_eq_false (by omega)
            have d4 : decide (k < 4) = true := decide_eq_true (by omega)
            rw [hM]
            cases hL : decide (kids.length = 0) <;> cases hN : decide (nm = []) <;> cases hT : decide (tx = []) <;> cases hK : namB nm <;> cases hV : valB tx <;> rw [hL] at eL <;> rw [hN] at eN <;> rw [hT] at eT <;> rw [hK] at en xn <;> rw [hV] at ev xv
            all_goals first
              | (rw [if_pos (show (_ && (_ && _)) = false from rfl)]; simp only [hw', w1, e1, e2, eL, eN, eT, d0, d1, d2, d3, d4, xk, xv, xn, ek, ev, en, splice, Int.cast_ofNat_Int, go_sem, ne_eq, not_false_eq_true, reduceIte, Nat.reduceMul, Nat.reduceAdd, Nat.reduceSub, Nat.reduceEqDiff, Nat.reduceLeDiff, Nat.reduceLT, List.take_succ_cons, List.take_zero, List.drop_succ_cons, List.cons_append]; exact ⟨_, _, ⟨rfl, rfl⟩, _, rfl, .inr ⟨(show (50 : Nat) ≠ 0 from by decide), rfl⟩, Hop.setW ⟨nx, obs, nt, tips⟩ id (w + 1), WB.set ⟨nx, obs, nt, tips⟩ id (w + 1)⟩)
              | (obtain rfl : kids = [] := List.eq_nil_of_length_eq_zero (of_decide_eq_true hL)
                 rw [if_neg (by decide), blds]
                 simp only [hw', w1, e1, e2, eL, eN, eT, d0, d1, d2, d3, d4, xk, xv, xn, ek, ev, en, splice, Int.cast_ofNat_Int, go_sem, ne_eq, not_false_eq_true, reduceIte, Nat.reduceMul, Nat.reduceAdd, Nat.reduceSub, Nat.reduceEqDiff, Nat.reduceLeDiff, Nat.reduceLT, List.take_succ_cons, List.take_zero, List.drop_succ_cons, List.cons_append]
                 exact ⟨_, _, ⟨rfl, rfl⟩, _, rfl, .inl ⟨rfl, _, _, rfl, rfl⟩, Hop.setW ⟨nx, obs, nt, tips⟩ id (w + 1), WB.set ⟨nx, obs, nt, tips⟩ id (w + 1)⟩)
          · by_cases k3 : k = 3
            · skip
              have hM : mayB k nm tx kids.length = (decide (kids.length = 0) && (decide (nm = []) && decide (tx = []))) := by unfold mayB; rw [if_pos (by omega)]
              have d0 : decide (k = 0) = false := decide_eq_false (by omega)
              have d1 : decide (k = 1) = false := decide_eq_false (by omega)
              have d2 : decide (k = 2) = false := decide_eq_false (by omega)
              have d3 : decide (k = 3) = true := decide_eq_true (by omega)
              have d4 : decide (k < 4) = true := decide_eq_true (by omega)
              rw [hM]
              cases hL : decide (kids.length = 0) <;> cases hN : decide (nm = []) <;> cases hT : decide (tx = []) <;> rw [hL] at eL <;> rw [hN] at eN <;> rw [hT] at eT
              all_goals first
                | (rw [if_pos (show (_ && (_ && _)) = false from rfl)]; simp only [hw', w1, e1, e2, eL, eN, eT, d0, d1, d2, d3, d4, xk, xv, xn, ek, ev, en, splice, Int.cast_ofNat_Int, go_sem, ne_eq, not_false_eq_true, reduceIte, Nat.reduceMul, Nat.reduceAdd, Nat.reduceSub, Nat.reduceEqDiff, Nat.reduceLeDiff, Nat.reduceLT, List.take_succ_cons, List.take_zero, List.drop_succ_cons, List.cons_append]; exact ⟨_, _, ⟨rfl, rfl⟩, _, rfl, .inr ⟨(show (50 : Nat) ≠ 0 from by decide), rfl⟩, Hop.setW ⟨nx, obs, nt, tips⟩ id (w + 1), WB.set ⟨nx, obs, nt, tips⟩ id (w + 1)⟩)
                | (obtain rfl : kids = [] := List.eq_nil_of_length_eq_zero (of_decide_eq_true hL)
                   rw [if_neg (by decide), blds]
                   simp only [hw', w1, e1, e2, eL, eN, eT, d0, d1, d2, d3, d4, xk, xv, xn, ek, ev, en, splice, Int.cast_ofNat_Int, go_sem, ne_eq, not_false_eq_true, reduceIte, Nat.reduceMul, Nat.reduceAdd, Nat.reduceSub, Nat.reduceEqDiff, Nat.reduceLeDiff, Nat.reduceLT, List.take_succ_cons, List.take_zero, List.drop_succ_cons, List.cons_append]
                   exact ⟨_, _, ⟨rfl, rfl⟩, _, rfl, .inl ⟨rfl, _, _, rfl, rfl⟩, Hop.setW ⟨nx, obs, nt, tips⟩ id (w + 1), WB.set ⟨nx, obs, nt, tips⟩ id (w + 1)⟩)
            · have d0 : decide (k = 0) = false := decide_eq_false k0
              have d1 : decide (k = 1) = false := decide_eq_false k1
              have d2 : decide (k = 2) = false := decide_eq_false k2
              have d3 : decide (k = 3) = false := decide_eq_false k3
              -- not one of the kinds
              by_cases k4 : k < 4 ∨ 6 < k
              · have hM : mayB k nm tx kids.length = false := by unfold mayB; rw [if_neg (by omega), if_neg k1, if_neg k2, if_neg (by omega), if_neg (by omega)]
                rw [if_pos hM]
                by_cases k5 : k < 4
                · have d4 : decide (k < 4) = true := decide_eq_true k5
                  cases hN : decide (nm = []) <;> cases hT : decide (tx = []) <;> rw [hN] at eN <;> rw [hT] at eT <;> simp only [hw', w1, e1, e2, eL, eN, eT, d0, d1, d2, d3, d4, splice, go_sem, ne_eq, not_false_eq_true, reduceIte, Nat.reduceMul, Nat.reduceAdd, Nat.reduceSub, Nat.reduceEqDiff, Nat.reduceLeDiff, Nat.reduceLT, List.take_succ_cons, List.take_zero, List.drop_succ_cons, List.cons_append] <;> exact ⟨_, _, ⟨rfl, rfl⟩, _, rfl, .inr ⟨(show (50 : Nat) ≠ 0 from by decide), rfl⟩, Hop.setW ⟨nx, obs, nt, tips⟩ id (w + 1), WB.set ⟨nx, obs, nt, tips⟩ id (w + 1)⟩
                · have d4 : decide (k < 4) = false := decide_eq_false k5
                  have d6 : decide (6 < k) = true := decide_eq_true (by omega)
                  cases hN : decide (nm = []) <;> cases hT : decide (tx = []) <;> rw [hN] at eN <;> rw [hT] at eT <;> simp only [hw', w1, e1, e2, eL, eN, eT, d0, d1, d2, d3, d4, d6, splice, go_sem, ne_eq, not_false_eq_true, reduceIte, Nat.reduceMul, Nat.reduceAdd, Nat.reduceSub, Nat.reduceEqDiff, Nat.reduceLeDiff, Nat.reduceLT, List.take_succ_cons, List.take_zero, List.drop_succ_cons, List.cons_append] <;> exact ⟨_, _, ⟨rfl, rfl⟩, _, rfl, .inr ⟨(show (50 : Nat) ≠ 0 from by decide), rfl⟩, Hop.setW ⟨nx, obs, nt, tips⟩ id (w + 1), WB.set ⟨nx, obs, nt, tips⟩ id (w + 1)⟩
              · have d4 : decide (k < 4) = false := decide_eq_false (by omega)
                have d6 : decide (6 < k) = false := decide_eq_false (by omega)
                have eK : decide ((kids.length : Int) = 1) = decide (kids.length = 1) := decide_eq_decide.2 (by omega)
                have hM : mayB k nm tx kids.length = (decide (nm = []) && (decide (tx = []) && (!decide (k = 4) || decide (kids.length = 1)))) := by
                  unfold mayB
                  rw [if_neg (by omega), if_neg k1, if_neg k2]
                  by_cases h4 : k = 4
                  · rw [if_pos h4, decide_eq_true h4]; rfl
                  · rw [if_neg h4, if_pos (by omega), decide_eq_false h4]; simp
                rw [hM]
                have fin : ((k = 4) → kids.length = 1) → _ := fun hk4 => w_kids S k nm tx kids xs tk hx (by omega) hk4 d (by omega) (by omega) ⟨nx, obs, nt, tips⟩ kids [] (w + 1) ⟨nx, alSet obs id (.cells 3 [.i .i64 ((w + 1 : Nat) : Int)]), nt + 1, (nt, (0, 96)) :: tips⟩ [] (.own nt) [] rfl (WB.set ⟨nx, obs, nt, tips⟩ id (w + 1)) (by omega) (Nat.zero_le _) ⟨nt, rfl, Nat.le_refl _, Nat.lt_succ_self _, by simp only [go_sem, ne_eq, not_false_eq_true, reduceIte, Nat.reduceMul, Nat.reduceAdd, Nat.reduceSub, Nat.reduceEqDiff, Nat.reduceLeDiff, Nat.reduceLT, List.take_succ_cons, List.take_zero, List.drop_succ_cons, List.cons_append]⟩
                  ⟨rfl, Nat.le_succ _, fun t ht => by
                    have hne : Nat.beq nt t = false := by
                      cases hb : Nat.beq nt t with
                      | true => have h1 := Nat.eq_of_beq_eq_true hb; simp only at ht; omega
                      | false => rfl
                    show al ((nt, _) :: tips) t = _
                    simp only [al, hne, cond_false], (Hop.setW ⟨nx, obs, nt, tips⟩ id (w + 1)).objs⟩ rfl (fun x hx => by cases hx)
                cases h4 : decide (k = 4) <;> cases hK : decide (kids.length = 1) <;> cases hN : decide (nm = []) <;> cases hT : decide (tx = []) <;> rw [hN] at eN <;> rw [hT] at eT <;> rw [hK] at eK
                all_goals first
                  | (rw [if_pos (show (_ && (_ && (_ || _))) = false from rfl)]; simp only [hw', w1, e1, e2, eL, eN, eT, eK, h4, d0, d1, d2, d3, d4, d6, splice, go_sem, ne_eq, not_false_eq_true, reduceIte, Nat.reduceMul, Nat.reduceAdd, Nat.reduceSub, Nat.reduceEqDiff, Nat.reduceLeDiff, Nat.reduceLT, List.take_succ_cons, List.take_zero, List.drop_succ_cons, List.cons_append]; exact ⟨_, _, ⟨rfl, rfl⟩, _, rfl, .inr ⟨(show (50 : Nat) ≠ 0 from by decide), rfl⟩, Hop.setW ⟨nx, obs, nt, tips⟩ id (w + 1), WB.set ⟨nx, obs, nt, tips⟩ id (w + 1)⟩)
                  | (rw [if_neg (by decide)]
                     have fin := fin (fun h5 => by first | exact of_decide_eq_true hK | exact absurd h5 (of_decide_eq_false h4))
                     simp only [hw', w1, e1, e2, eL, eN, eT, eK, h4, d0, d1, d2, d3, d4, d6, splice, go_sem, ne_eq, not_false_eq_true, reduceIte, Nat.reduceMul, Nat.reduceAdd, Nat.reduceSub, Nat.reduceEqDiff, Nat.reduceLeDiff, Nat.reduceLT, List.take_succ_cons, List.take_zero, List.drop_succ_cons, List.cons_append]
                     rw [Hp.M_loop]
                     simp only [kz83, K83_1, List.length_cons, List.length_nil, Int.cast_ofNat_Int, go_sem, ne_eq, not_false_eq_true, reduceIte, Nat.reduceMul, Nat.reduceAdd, Nat.reduceSub, Nat.reduceEqDiff, Nat.reduceLeDiff, Nat.reduceLT, List.take_succ_cons, List.take_zero, List.drop_succ_cons, List.cons_append] at fin ⊢
                     exact fin)
theorem s_build_all (id : Nat) : ∀ D, S_build id D
  | 0 => fun _ _ _ _ _ _ _ _ h1 h2 => by omega
  | D + 1 => s_build (s_build_all id D)
end
end Go.Proofs.YtpcjhfchpelonaaGreatDoor
set_option linter.unusedSimpArgs false
set_option linter.unusedVariables false
namespace Go.Proofs.YtpcjhfchpelonaaGreatDoor
open Ai
/-! ### Pure functions, told by what they do -/
noncomputable def pickP (g : FuncId) (R : List V → V → Prop) (a : List V) : Option V := open Classical in if e : ∃ v : V, Comp tabx told g a v ∧ R a v then some e.choose else none
theorem pickP_tells {g : FuncId} {R : List V → V → Prop} : ∀ a v, pickP g R a = some v → Comp tabx told g a v := fun a v e => by
  unfold pickP at e
  split at e
  · rename_i hp
    have hs := hp.choose_spec
    simp only [Option.some.injEq] at e
    rw [e] at hs
    exact hs.1
  · cases e
theorem pickP_spec {g : FuncId} {R : List V → V → Prop} {a : List V} {v : V} (hc : Comp tabx told g a v) (hr : R a v) : ∃ v, pickP g R a = some v ∧ R a v := by
  have hp : ∃ v : V, Comp tabx told g a v ∧ R a v := ⟨v, hc, hr⟩
  exact ⟨hp.choose, dif_pos hp, hp.choose_spec.2⟩
theorem comp_ex {xf : FuncId → List V → Option V} {xh : FuncId → List V → H → Option (V × H)} {kz : Nat → List Nat} (hx : Tells tabx told xf) (hy : Hp.TellsI tabx told xh) {g : FuncId} {fn : AFunc} {args : List V} {Q : V → Prop} (ht : tabx g = some fn) (hn : args.length ≤ fn.n)
    (h : Hp.M xf xh kz (.code fn.body) [] (St.init gl0 fn.depth (stripL args) {}) (fun ex st => ∃ v, Fin fn.res v ex st ∧ Q v)) : ∃ v, Comp tabx told g args v ∧ Q v := by
  obtain ⟨f, ex, st', e, v, hf, q⟩ := h
  refine ⟨v, fun hh gl hok => ?_, q⟩
  have hgl : gl = gl0 := hok
  subst hgl
  obtain ⟨he, hl⟩ := hf
  obtain ⟨ex1, st1, f1, _, _, hr, hev⟩ := Hp.runK_ev hx hy f f (Nat.le_refl _) _ _ _ _ _ hok e
  simp only at hev
  have : ex1 = ex ∧ st1 = st' := by
    match f1, hr with
    | 0, hr => simp [Hp.runK] at hr
    | f1 + 1, hr => simp only [Hp.runK, Option.some.injEq, Prod.mk.injEq] at hr; exact hr
  obtain ⟨rfl, rfl⟩ := this
  have hl' : leave fn true hh st1 = some (v, hh) := by
    unfold leave
    cases hv : resV st1 fn.res with
    | none => rw [hv] at hl; cases hl
    | some vs =>
      rw [hv] at hl
      simp only [Option.map_some, Option.some.injEq] at hl
      simp only [cond_true, hl]
  exact .fn ht hn hev he hl'
/-! ### Filters, stripped and frozen -/
theorem stripL_app (a b : List V) : stripL (a ++ b) = stripL a ++ stripL b := by
  induction a with
  | nil => rfl
  | cons x r ih => simp only [List.cons_append, stripL, ih]
mutual
theorem FilR.strip : ∀ (f : Fil) (c : List V), FilR f c → FilR f (stripL c)
  | .mk k nm tx kids, c, h => by
    cases h with | mk _ _ _ _ xs n tk hn hx =>
    exact .mk k nm tx kids (stripL xs) n tk.cp hn (KidsR.strip kids xs hx)
theorem KidsR.strip : ∀ (l : List Fil) (xs : List V), KidsR l xs → KidsR l (stripL xs)
  | [], xs, h => by cases h; exact .nil
  | f :: r, xs, h => by
    cases h with | cons _ _ c ys h1 h2 =>
    rw [stripL_app]
    exact .cons f r _ _ (FilR.strip f c h1) (KidsR.strip r ys h2)
end
mutual
theorem FilR.frz (h : H) : ∀ (f : Fil) (c : List V) (d w m : Nat), FilR f c → (bld f d w).1 = 0 → 8 ≤ d + m → FilR f (c.map (frz h m))
  | .mk k nm tx kids, c, d, w, m, hf, hb, hm => by
    cases hf with | mk _ _ _ _ xs n tk hn hx =>
    rw [bld] at hb
    split at hb
    · cases hb
    · rename_i h1
      split at hb
      · cases hb
      · match m, (show m ≠ 0 by omega) with
        | m + 1, _ =>
          have := KidsR.frz h kids xs (d + 1) (w + 1) m hx hb (by omega)
          exact .mk k nm tx kids (xs.map (Ai.frz h m)) n tk.cp hn this
theorem KidsR.frz (h : H) : ∀ (l : List Fil) (xs : List V) (d w m : Nat), KidsR l xs → (blds l d w).1 = 0 → 8 ≤ d + m → KidsR l (xs.map (frz h m))
  | [], xs, d, w, m, hf, hb, hm => by cases hf; exact .nil
  | f :: r, xs, d, w, m, hf, hb, hm => by
    cases hf with | cons _ _ c ys h1 h2 =>
    rw [blds] at hb
    split at hb
    · rename_i h0
      rw [List.map_append]
      exact .cons f r _ _ (FilR.frz h f c d w m h1 h0 hm) (KidsR.frz h r ys d _ m h2 hb hm)
    · rename_i h0; exact absurd hb h0
end
/-! ### Check -/
def chk (f : Fil) : Nat := (bld f 1 0).1
def R_ready (a : List V) (h : H) (v : V) (h' : H) : Prop := ∀ (f : Fil) (c : List V), a = [.agg c] → FilR f c → ∃ x, v = .tup [x, .i .i64 (chk f : Nat)] ∧ (x = .nili ∨ ∃ t y, x = .ifc t y)
theorem UH46 : type_of% (@Hp_open _ _ B46.eq_1) := @Hp_open _ _ B46.eq_1
def kz46 (_ : Nat) : List Nat := []
set_option maxRecDepth 100000 in
theorem ready_ex (f : Fil) (c : List V) (hf : FilR f c) : ∃ x h', pick 46 R_ready [.agg c] {} = some (.tup [x, .i .i64 (chk f : Nat)], h') ∧ (x = .nili ∨ ∃ t y, x = .ifc t y) := by
  have key : ∃ v h', Hp.CompI tabx told 46 [.agg c] {} v h' ∧ ∃ x, v = .tup [x, .i .i64 (chk f : Nat)] ∧ (x = .nili ∨ ∃ t y, x = .ifc t y) := by
    refine compI_ex (xf := noX) (xh := Y_build 0) (kz := kz46) (fn := af46) tells_noX (t_build 0) rfl (Nat.le_of_ble_eq_true rfl) ?_
    show Hp.M _ _ _ (.code B46) _ (St.init gl0 5 _ _) (fun ex st => ∃ v h', Hp.FinI [.tmp 2, .tmp 3] v h' ex st ∧ _)
    rw [UH46]
    obtain ⟨x, h', y4, q1, q2, q3⟩ := call_build (s_build_all 0 7) (d := 1) (w := 0) (h := ⟨1, [(0, .cells 3 [.i .i64 ((0 : Nat) : Int)])], 0, []⟩) hf rfl (by decide) (by decide) (by decide)
    have hch : (bld f 1 0).1 = chk f := rfl
    rw [hch] at y4 q1
    cases hf with | mk k nm tx kids xs n tk hn hx =>
    simp only [Int.cast_ofNat_Int] at y4
    rcases q1 with ⟨q, t, y, rfl, hq2⟩ | ⟨q, rfl⟩
    · have hqc := isQ_c hq2
      have f1 : decide (((chk (.mk k nm tx kids) : Nat) : Int) = 0) = true := decide_eq_true (by omega)
      simp only [y4, f1, hqc, splice, go_sem, ne_eq, not_false_eq_true, reduceIte, Nat.reduceMul, Nat.reduceAdd, Nat.reduceSub, Nat.reduceEqDiff, Nat.reduceLeDiff, Nat.reduceLT, List.take_succ_cons, List.take_zero, List.drop_succ_cons, List.cons_append]
      exact ⟨_, _, ⟨rfl, rfl⟩, _, by rw [q]; rfl, .inr ⟨_, _, rfl⟩⟩
    · have f1 : decide (((chk (.mk k nm tx kids) : Nat) : Int) = 0) = false := decide_eq_false (by omega)
      simp only [y4, f1, splice, go_sem, ne_eq, not_false_eq_true, reduceIte, Nat.reduceMul, Nat.reduceAdd, Nat.reduceSub, Nat.reduceEqDiff, Nat.reduceLeDiff, Nat.reduceLT, List.take_succ_cons, List.take_zero, List.drop_succ_cons, List.cons_append]
      exact ⟨_, _, ⟨rfl, rfl⟩, _, rfl, .inl rfl⟩
  obtain ⟨v, h', hc, x, rfl, hxx⟩ := key
  obtain ⟨v, h', e1, r⟩ := pick_spec (R := R_ready) hc (by
    intro f' c' e1 hf'
    simp only [List.cons.injEq, V.agg.injEq, and_true] at e1
    subst e1
    rw [← FilR.uniq f f' c hf hf']
    exact ⟨x, rfl, hxx⟩)
  obtain ⟨x, rfl, hxx⟩ := r f c rfl hf
  exact ⟨x, h', e1, hxx⟩
noncomputable def Y_check := ys [(46, pick 46 R_ready)]
theorem t_check : Hp.TellsI tabx told Y_check := itells_cons pick_tells itells_nil
def R_check (a : List V) (v : V) : Prop := ∀ (f : Fil) (c : List V), a = [.agg c] → FilR f c → v = .i .i64 (chk f : Nat)
noncomputable def F_check : List V → Option V := pickP 23 R_check
theorem o_check : ∀ a v, F_check a = some v → Comp tabx told 23 a v := pickP_tells
theorem UH23 : type_of% (@Hp_open _ _ B23.eq_1) := @Hp_open _ _ B23.eq_1
def kz23 (_ : Nat) : List Nat := []
theorem check_eq (f : Fil) (c : List V) (hf : FilR f c) : F_check [.agg c] = some (.i .i64 (chk f : Nat)) := by
  have hc : Comp tabx told 23 [.agg c] (.i .i64 (chk f : Nat)) := Hp.comp_of tells_noX t_check (fn := af23) (kz := kz23) rfl (Nat.le_of_ble_eq_true rfl) fun gl => by
    have hs := FilR.strip f c hf
    obtain ⟨x, h', y4, hxx⟩ := ready_ex f (stripL c) hs
    show Hp.M _ _ _ (.code B23) _ (St.init gl 4 [.agg (stripL c)] _) (Fin [.tmp 2] _)
    rw [UH23]
    generalize stripL c = c2 at hs y4 ⊢
    cases hs with | mk k nm tx kids xs n tk hn hx =>
    rcases hxx with rfl | ⟨t, y, rfl⟩ <;> simp only [Y_check, ys_hit, y4, go_sem, ne_eq, not_false_eq_true, reduceIte, Nat.reduceMul, Nat.reduceAdd, Nat.reduceSub, Nat.reduceEqDiff, Nat.reduceLeDiff, Nat.reduceLT, List.take_succ_cons, List.take_zero, List.drop_succ_cons, List.cons_append]
  obtain ⟨v, e1, r⟩ := pickP_spec (R := R_check) hc (by
    intro f' c' e1 hf'
    simp only [List.cons.injEq, V.agg.injEq, and_true] at e1
    subst e1
    rw [← FilR.uniq f f' c hf hf'])
  rw [r f c rfl hf] at e1
  exact e1
end Go.Proofs.YtpcjhfchpelonaaGreatDoor
