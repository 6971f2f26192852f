/- lang: tokens that are taken one by one. -/
import Derived.Test.YtbhclhgljnoioaaDoorLg7
set_option linter.unusedSimpArgs false
set_option linter.unusedVariables false
namespace Go.Proofs.YtbhclhgljnoioaaDoor
open Ai
/-! ### Functions that write, told by what they do -/
noncomputable def pick (g : FuncId) (R : List V → H → V → H → Prop) (a : List V) (h : H) : Option (V × H) := open Classical in if e : ∃ p : V × H, Hp.CompI tabx told g a h p.1 p.2 ∧ R a h p.1 p.2 then some e.choose else none
theorem pick_tells {g : FuncId} {R : List V → H → V → H → Prop} : ∀ a h v h', pick g R a h = some (v, h') → Hp.CompI tabx told g a h v h' := fun a h v h' e => by
  unfold pick at e
  split at e
  · rename_i hp
    have hs := hp.choose_spec
    simp only [Option.some.injEq] at e
    rw [e] at hs
    exact hs.1
  · cases e
theorem pick_spec {g : FuncId} {R : List V → H → V → H → Prop} {a : List V} {h : H} {v : V} {h' : H} (hc : Hp.CompI tabx told g a h v h') (hr : R a h v h') : ∃ v h', pick g R a h = some (v, h') ∧ R a h v h' := by
  have hp : ∃ p : V × H, Hp.CompI tabx told g a h p.1 p.2 ∧ R a h p.1 p.2 := ⟨(v, h'), hc, hr⟩
  exact ⟨hp.choose.1, hp.choose.2, dif_pos hp, hp.choose_spec.2⟩
theorem compI_ex {xf : FuncId → List V → Option V} {xh : FuncId → List V → H → Option (V × H)} {kz : Nat → List Nat} (hx : Tells tabx told xf) (hy : Hp.TellsI tabx told xh) {g : FuncId} {fn : AFunc} {args : List V} {h0 : H} {Q : V → H → Prop} (ht : tabx g = some fn) (hn : args.length ≤ fn.n)
    (h : Hp.M xf xh kz (.code fn.body) [] (St.init gl0 fn.depth args h0) (fun ex st => ∃ v h', Hp.FinI fn.res v h' ex st ∧ Q v h')) : ∃ v h', Hp.CompI tabx told g args h0 v h' ∧ Q v h' := by
  obtain ⟨f, ex, st', e, v, h', hf, q⟩ := h
  refine ⟨v, h', fun gl hok => ?_, q⟩
  have hgl : gl = gl0 := hok
  subst hgl
  obtain ⟨he, hl⟩ := hf
  obtain ⟨ex1, st1, f1, _, _, hr, hev⟩ := Hp.runK_ev hx hy f f (Nat.le_refl _) _ _ _ _ _ hok e
  simp only at hev
  have : ex1 = ex ∧ st1 = st' := by
    match f1, hr with
    | 0, hr => simp [Hp.runK] at hr
    | f1 + 1, hr => simp only [Hp.runK, Option.some.injEq, Prod.mk.injEq] at hr; exact hr
  obtain ⟨rfl, rfl⟩ := this
  have hl' : leave fn false h0 st1 = some (v, h') := by
    unfold leave
    cases hv : resV st1 fn.res with
    | none => rw [hv] at hl; cases hl
    | some vs =>
      rw [hv] at hl
      simp only [Option.map_some, Option.some.injEq] at hl
      simp only [cond_false, hl]
  exact .fn ht hn hev he hl'
/-! ### The tokens, and where one stands -/
def srcC (ts : List Tok) (a e : Nat) : Ai.Obj := .cells 41 [.sl (ts.flatMap Tok.cells) ts.length .no, .i .i64 a, .i .i64 e, .b true]
def SO (h : H) (id : Nat) (ts : List Tok) (e a : Nat) : Prop := al h.objs id = some (srcC ts a e) ∧ a ≤ ts.length ∧ ts.length ≤ 1048576 ∧ ∀ t ∈ ts, 1 ≤ t.kind
def setAt (h : H) (id : Nat) (ts : List Tok) (e a : Nat) : H := ⟨h.next, alSet h.objs id (srcC ts a e), h.nt, h.tips⟩
def tokAt (ts : List Tok) (e a : Nat) : Tok := (ts[a]?).getD ⟨0, [], e⟩
theorem SO.set {h : H} {id : Nat} {ts : List Tok} {e a : Nat} (ho : SO h id ts e a) {b : Nat} (hb : b ≤ ts.length) : SO (setAt h id ts e b) id ts e b :=
  ⟨al_alSet _ _ _, hb, ho.2.2⟩
theorem SO.uniq {h : H} {id : Nat} {ts : List Tok} {e a b : Nat} (h1 : SO h id ts e a) (h2 : SO h id ts e b) : a = b := by
  have := h1.1.symm.trans h2.1
  simp only [srcC, Option.some.injEq, Ai.Obj.cells.injEq, List.cons.injEq, V.i.injEq] at this
  omega
theorem tok_at {ts : List Tok} {i : Nat} {t : Tok} (h : ts[i]? = some t) : ((ts.flatMap Tok.cells).drop (i * 3)).take 3 = t.cells := by
  have hi := (List.getElem?_eq_some_iff.1 h).1
  have e : ts = ts.take i ++ t :: ts.drop (i + 1) := by
    have := (List.getElem?_eq_some_iff.1 h).2
    rw [← this, List.getElem_cons_drop, List.take_append_drop]
  have := tok_drop (ts.take i) (t :: ts.drop (i + 1))
  rw [← e, List.length_take, Nat.min_eq_left (by omega)] at this
  rw [this]; rfl
section
variable (ts : List Tok) (e id : Nat)
def R_ahead (a : List V) (h : H) (v : V) (h' : H) : Prop := ∀ k at_ : Nat, a = [.p id 0, .i .i64 (k : Nat)] → k ≤ 1 → SO h id ts e at_ → v = .agg (tokAt ts e (at_ + k)).cells ∧ h' = h
theorem UH50 : type_of% (@Hp_open _ _ B50.eq_1) := @Hp_open _ _ B50.eq_1
def kz50 (_ : Nat) : List Nat := []
theorem w_ahead (nx : Nat) (obs : List (Nat × Ai.Obj)) (nt : Nat) (tips : List (Nat × (Nat × TypeId))) (k at_ : Nat) (hk : k ≤ 1) (ho : SO ⟨nx, obs, nt, tips⟩ id ts e at_) (gl : Nat → List V) :
    Hp.M noX noY (kz50) (.code B50) [] (St.init gl 6 [.p id 0, .i .i64 (k : Nat)] ⟨nx, obs, nt, tips⟩) (Hp.FinI [.cell 4 true 3] (.agg (tokAt ts e (at_ + k)).cells) ⟨nx, obs, nt, tips⟩) := by
  rw [UH50]
  obtain ⟨h1, h2, h3, _⟩ := ho
  simp only [srcC] at h1
  have w1 : wr .i64 ((ts.length : Int) - (at_ : Int)) = (ts.length : Int) - (at_ : Int) := by rw [wr64] <;> omega
  have w2 : wr .i64 ((ts.length : Int) - (at_ : Int) - 1) = (ts.length : Int) - (at_ : Int) - 1 := by rw [wr64] <;> omega
  have w3 : wr .i64 ((at_ : Int) + (k : Int)) = ((at_ + k : Nat) : Int) := by rw [wr64] <;> omega
  have hc := toks_len ts
  by_cases hl : at_ + k < ts.length
  · have e1 : decide ((ts.length : Int) - (at_ : Int) - 1 < (k : Int)) = false := decide_eq_false (by omega)
    have hg : ts[at_ + k]? = some ts[at_ + k] := List.getElem?_eq_getElem hl
    have ht := tok_at hg
    have g2 : (at_ + k + 1) * 3 ≤ ts.length * 3 := by omega
    have et : tokAt ts e (at_ + k) = ts[at_ + k] := by unfold tokAt; rw [hg]; rfl
    rw [et]
    simp only [Tok.cells] at ht
    simp only [h1, w1, w2, e1, w3, hl, g2, hc, rd_ip, ht, Tok.cells, go_sem, ne_eq, not_false_eq_true, reduceIte, Nat.reduceMul, Nat.reduceAdd, Nat.reduceSub, Nat.reduceEqDiff, Nat.reduceLeDiff, Nat.reduceLT, List.take_succ_cons, List.take_zero, List.drop_succ_cons, List.cons_append]
  · have e1 : decide ((ts.length : Int) - (at_ : Int) - 1 < (k : Int)) = true := decide_eq_true (by omega)
    have et : tokAt ts e (at_ + k) = ⟨0, [], e⟩ := by unfold tokAt; rw [List.getElem?_eq_none (by omega)]; rfl
    rw [et]
    simp only [h1, w1, w2, e1, Tok.cells, Int.cast_ofNat_Int, go_sem, ne_eq, not_false_eq_true, reduceIte, Nat.reduceMul, Nat.reduceAdd, Nat.reduceSub, Nat.reduceEqDiff, Nat.reduceLeDiff, Nat.reduceLT, List.take_succ_cons, List.take_zero, List.drop_succ_cons, List.cons_append]
theorem ahead_eq {h : H} {k at_ : Nat} (hk : k ≤ 1) (ho : SO h id ts e at_) : pick 50 (R_ahead ts e id) [.p id 0, .i .i64 (k : Nat)] h = some (.agg (tokAt ts e (at_ + k)).cells, h) := by
  obtain ⟨nx, obs, nt, tips⟩ := h
  have hc : Hp.CompI tabx told 50 [.p id 0, .i .i64 (k : Nat)] ⟨nx, obs, nt, tips⟩ (.agg (tokAt ts e (at_ + k)).cells) ⟨nx, obs, nt, tips⟩ := Hp.compI_of tells_noX tells_noY (fn := af50) rfl (Nat.le_of_ble_eq_true rfl) fun gl => w_ahead ts e id nx obs nt tips k at_ hk ho gl
  obtain ⟨v, h', e1, r⟩ := pick_spec (R := R_ahead ts e id) hc (by
    intro k' at' e1 hk' ho'
    simp only [List.cons.injEq, V.i.injEq, true_and, and_true] at e1
    have e1 : k = k' := by omega
    subst e1
    rw [ho.uniq ho']; exact ⟨rfl, rfl⟩)
  obtain ⟨rfl, rfl⟩ := r k at_ rfl hk ho
  exact e1
noncomputable def Y_peek := ys [(50, pick 50 (R_ahead ts e id))]
theorem t_peek : Hp.TellsI tabx told (Y_peek ts e id) := itells_cons pick_tells itells_nil
def R_peek (a : List V) (h : H) (v : V) (h' : H) : Prop := ∀ at_ : Nat, a = [.p id 0] → SO h id ts e at_ → v = .agg (tokAt ts e at_).cells ∧ h' = h
theorem UH23 : type_of% (@Hp_open _ _ B23.eq_1) := @Hp_open _ _ B23.eq_1
def kz23 (_ : Nat) : List Nat := []
theorem peek_eq {h : H} {at_ : Nat} (ho : SO h id ts e at_) : pick 23 (R_peek ts e id) [.p id 0] h = some (.agg (tokAt ts e at_).cells, h) := by
  obtain ⟨nx, obs, nt, tips⟩ := h
  have ha := ahead_eq ts e id (k := 0) (Nat.zero_le _) ho
  have hc : Hp.CompI tabx told 23 [.p id 0] ⟨nx, obs, nt, tips⟩ (.agg (tokAt ts e at_).cells) ⟨nx, obs, nt, tips⟩ := Hp.compI_of tells_noX (t_peek ts e id) (fn := af23) (kz := kz23) rfl (Nat.le_of_ble_eq_true rfl) fun gl => by
    show Hp.M _ _ _ (.code B23) _ (St.init gl 3 _ _) (Hp.FinI [.cell 2 true 3] _ _)
    rw [UH23]
    simp only [Nat.add_zero, Int.cast_ofNat_Int, Tok.cells] at ha
    simp only [Y_peek, ys_hit, ha, Tok.cells, go_sem, ne_eq, not_false_eq_true, reduceIte, Nat.reduceMul, Nat.reduceAdd, Nat.reduceSub, Nat.reduceEqDiff, Nat.reduceLeDiff, Nat.reduceLT, List.take_succ_cons, List.take_zero, List.drop_succ_cons, List.cons_append]
  obtain ⟨v, h', e1, r⟩ := pick_spec (R := R_peek ts e id) hc (by
    intro at' e1 ho'
    rw [ho.uniq ho']; exact ⟨rfl, rfl⟩)
  obtain ⟨rfl, rfl⟩ := r at_ rfl ho
  exact e1
noncomputable def Y_take := ys [(23, pick 23 (R_peek ts e id))]
theorem t_take : Hp.TellsI tabx told (Y_take ts e id) := itells_cons pick_tells itells_nil
theorem tok_kind {h : H} {at_ : Nat} (ho : SO h id ts e at_) (hl : at_ < ts.length) : 1 ≤ (tokAt ts e at_).kind := by
  unfold tokAt
  rw [List.getElem?_eq_getElem hl]
  exact ho.2.2.2 _ (List.getElem_mem _)
def R_take (a : List V) (h : H) (v : V) (h' : H) : Prop := ∀ at_ : Nat, a = [.p id 0] → SO h id ts e at_ → at_ < ts.length → v = .agg (tokAt ts e at_).cells ∧ h' = setAt h id ts e (at_ + 1)
theorem UH24 : type_of% (@Hp_open _ _ B24.eq_1) := @Hp_open _ _ B24.eq_1
def kz24 (_ : Nat) : List Nat := []
theorem take_eq {h : H} {at_ : Nat} (ho : SO h id ts e at_) (hl : at_ < ts.length) : pick 24 (R_take ts e id) [.p id 0] h = some (.agg (tokAt ts e at_).cells, setAt h id ts e (at_ + 1)) := by
  obtain ⟨nx, obs, nt, tips⟩ := h
  have ha := peek_eq ts e id ho
  have hk := tok_kind ts e id ho hl
  obtain ⟨h1, h2, h3, _⟩ := ho
  have hc : Hp.CompI tabx told 24 [.p id 0] ⟨nx, obs, nt, tips⟩ (.agg (tokAt ts e at_).cells) (setAt ⟨nx, obs, nt, tips⟩ id ts e (at_ + 1)) := Hp.compI_of tells_noX (t_take ts e id) (fn := af24) (kz := kz24) rfl (Nat.le_of_ble_eq_true rfl) fun gl => by
    show Hp.M _ _ _ (.code B24) _ (St.init gl 5 _ _) (Hp.FinI [.cell 2 true 3] _ _)
    rw [UH24]
    have e1 : decide (((tokAt ts e at_).kind : Int) = 0) = false := decide_eq_false (by omega)
    have w1 : wr .i64 ((at_ : Int) + 1) = ((at_ + 1 : Nat) : Int) := by rw [wr64] <;> omega
    simp only [Tok.cells] at ha
    simp only [srcC] at h1
    simp only [Y_take, ys_hit, ha, h1, e1, w1, Tok.cells, setAt, srcC, splice, go_sem, ne_eq, not_false_eq_true, reduceIte, Nat.reduceMul, Nat.reduceAdd, Nat.reduceSub, Nat.reduceEqDiff, Nat.reduceLeDiff, Nat.reduceLT, List.take_succ_cons, List.take_zero, List.drop_succ_cons, List.cons_append]
  obtain ⟨v, h', e1, r⟩ := pick_spec (R := R_take ts e id) hc (by
    intro at' e1 ho' _
    rw [SO.uniq ⟨h1, h2, h3, ‹_›⟩ ho']; exact ⟨rfl, rfl⟩)
  obtain ⟨rfl, rfl⟩ := r at_ rfl ⟨h1, h2, h3, ‹_›⟩ hl
  exact e1
end
end Go.Proofs.YtbhclhgljnoioaaDoor
set_option linter.unusedSimpArgs false
set_option linter.unusedVariables false
namespace Go.Proofs.YtbhclhgljnoioaaDoor
open Ai
def isT (ts : List Tok) (e a : Nat) (tx : List UInt8) : Bool := decide ((tokAt ts e a).kind = 4) && strEq (tokAt ts e a).text tx
def isW (ts : List Tok) (e a : Nat) (tx : List UInt8) : Bool := decide ((tokAt ts e a).kind = 1) && strEq (tokAt ts e a).text tx
def isF (ts : List Tok) (e a : Nat) : Bool := decide ((tokAt ts e a).kind = 1) && isT ts e (a + 1) [61]
theorem tokAt_lt {ts : List Tok} {e a : Nat} (h : (tokAt ts e a).kind ≠ 0) : a < ts.length := by
  rcases Nat.lt_or_ge a ts.length with h1 | h1
  · exact h1
  · unfold tokAt at h; rw [List.getElem?_eq_none h1] at h; exact absurd rfl h
theorem isT_lt {ts : List Tok} {e a : Nat} {tx : List UInt8} (h : isT ts e a tx = true) : a < ts.length := by
  unfold isT at h
  rw [Bool.and_eq_true, decide_eq_true_eq] at h
  exact tokAt_lt (e := e) (by omega)
theorem isW_lt {ts : List Tok} {e a : Nat} {tx : List UInt8} (h : isW ts e a tx = true) : a < ts.length := by
  unfold isW at h
  rw [Bool.and_eq_true, decide_eq_true_eq] at h
  exact tokAt_lt (e := e) (by omega)
theorem kd (n k : Nat) : decide ((n : Int) = (k : Int)) = decide (n = k) := decide_eq_decide.2 Int.ofNat_inj
section
variable (ts : List Tok) (e id : Nat)
noncomputable def Y_is := ys [(23, pick 23 (R_peek ts e id)), (24, pick 24 (R_take ts e id))]
theorem t_is : Hp.TellsI tabx told (Y_is ts e id) := itells_cons pick_tells (itells_cons pick_tells itells_nil)
def R_is (a : List V) (h : H) (v : V) (h' : H) : Prop := ∀ (at_ : Nat) (tx : List UInt8), a = [.p id 0, .i .i64 4, .s tx] → SO h id ts e at_ → v = .b (isT ts e at_ tx) ∧ h' = bif isT ts e at_ tx then setAt h id ts e (at_ + 1) else h
theorem UH25 : type_of% (@Hp_open _ _ B25.eq_1) := @Hp_open _ _ B25.eq_1
def kz25 (_ : Nat) : List Nat := []
theorem is_eq {h : H} {at_ : Nat} (ho : SO h id ts e at_) (tx : List UInt8) : pick 25 (R_is ts e id) [.p id 0, .i .i64 4, .s tx] h = some (.b (isT ts e at_ tx), bif isT ts e at_ tx then setAt h id ts e (at_ + 1) else h) := by
  obtain ⟨nx, obs, nt, tips⟩ := h
  have ha := peek_eq ts e id ho
  have hc : Hp.CompI tabx told 25 [.p id 0, .i .i64 4, .s tx] ⟨nx, obs, nt, tips⟩ (.b (isT ts e at_ tx)) (bif isT ts e at_ tx then setAt ⟨nx, obs, nt, tips⟩ id ts e (at_ + 1) else ⟨nx, obs, nt, tips⟩) := Hp.compI_of tells_noX (t_is ts e id) (fn := af25) (kz := kz25) rfl (Nat.le_of_ble_eq_true rfl) fun gl => by
    show Hp.M _ _ _ (.code B25) _ (St.init gl 5 _ _) (Hp.FinI [.tmp 6] _ _)
    rw [UH25]
    have e1 := kd (tokAt ts e at_).kind 4
    have e0 : decide ((4 : Int) = 0) = false := by decide
    simp only [Int.cast_ofNat_Int] at e1
    simp only [Tok.cells] at ha
    by_cases hk : (tokAt ts e at_).kind = 4
    · have e2 : decide ((tokAt ts e at_).kind = 4) = true := decide_eq_true hk
      have ht := take_eq ts e id ho (tokAt_lt (e := e) (by omega))
      simp only [Tok.cells] at ht
      cases hs : strEq (tokAt ts e at_).text tx with
      | true =>
        have hi : isT ts e at_ tx = true := by unfold isT; rw [e2, hs]; rfl
        rw [hi]
        simp only [Y_is, ys_hit, ys_miss, ha, e1, e2, e0, hs, ht, setAt, go_sem, ne_eq, not_false_eq_true, reduceIte, Nat.reduceMul, Nat.reduceAdd, Nat.reduceSub, Nat.reduceEqDiff, Nat.reduceLeDiff, Nat.reduceLT, List.take_succ_cons, List.take_zero, List.drop_succ_cons, List.cons_append]
      | false =>
        have hi : isT ts e at_ tx = false := by unfold isT; rw [e2, hs]; rfl
        rw [hi]
        simp only [Y_is, ys_hit, ys_miss, ha, e1, e2, e0, hs, go_sem, ne_eq, not_false_eq_true, reduceIte, Nat.reduceMul, Nat.reduceAdd, Nat.reduceSub, Nat.reduceEqDiff, Nat.reduceLeDiff, Nat.reduceLT, List.take_succ_cons, List.take_zero, List.drop_succ_cons, List.cons_append]
    · have e2 : decide ((tokAt ts e at_).kind = 4) = false := decide_eq_false hk
      have hi : isT ts e at_ tx = false := by unfold isT; rw [e2]; rfl
      rw [hi]
      simp only [Y_is, ys_hit, ys_miss, ha, e1, e2, go_sem, ne_eq, not_false_eq_true, reduceIte, Nat.reduceMul, Nat.reduceAdd, Nat.reduceSub, Nat.reduceEqDiff, Nat.reduceLeDiff, Nat.reduceLT, List.take_succ_cons, List.take_zero, List.drop_succ_cons, List.cons_append]
  obtain ⟨v, h', e1, r⟩ := pick_spec (R := R_is ts e id) hc (by
    intro at' tx' e1 ho'
    simp only [List.cons.injEq, V.s.injEq, true_and, and_true] at e1
    subst e1
    rw [ho.uniq ho']; exact ⟨rfl, rfl⟩)
  obtain ⟨rfl, rfl⟩ := r at_ tx rfl ho
  exact e1
def R_joins (a : List V) (h : H) (v : V) (h' : H) : Prop := ∀ (at_ : Nat) (tx : List UInt8), a = [.p id 0, .s tx] → SO h id ts e at_ → v = .b (isW ts e at_ tx) ∧ h' = h
theorem UH73 : type_of% (@Hp_open _ _ B73.eq_1) := @Hp_open _ _ B73.eq_1
def kz73 (_ : Nat) : List Nat := []
theorem joins_eq {h : H} {at_ : Nat} (ho : SO h id ts e at_) (tx : List UInt8) : pick 73 (R_joins ts e id) [.p id 0, .s tx] h = some (.b (isW ts e at_ tx), h) := by
  obtain ⟨nx, obs, nt, tips⟩ := h
  have ha := peek_eq ts e id ho
  have hc : Hp.CompI tabx told 73 [.p id 0, .s tx] ⟨nx, obs, nt, tips⟩ (.b (isW ts e at_ tx)) ⟨nx, obs, nt, tips⟩ := Hp.compI_of tells_noX (t_is ts e id) (fn := af73) (kz := kz73) rfl (Nat.le_of_ble_eq_true rfl) fun gl => by
    show Hp.M _ _ _ (.code B73) _ (St.init gl 5 _ _) (Hp.FinI [.tmp 4] _ _)
    rw [UH73]
    have e1 := kd (tokAt ts e at_).kind 1
    simp only [Int.cast_ofNat_Int] at e1
    simp only [Tok.cells] at ha
    by_cases hk : (tokAt ts e at_).kind = 1
    · have e2 : decide ((tokAt ts e at_).kind = 1) = true := decide_eq_true hk
      have hi : isW ts e at_ tx = strEq (tokAt ts e at_).text tx := by unfold isW; rw [e2]; rfl
      rw [hi]
      simp only [Y_is, ys_hit, ys_miss, ha, e1, e2, go_sem, ne_eq, not_false_eq_true, reduceIte, Nat.reduceMul, Nat.reduceAdd, Nat.reduceSub, Nat.reduceEqDiff, Nat.reduceLeDiff, Nat.reduceLT, List.take_succ_cons, List.take_zero, List.drop_succ_cons, List.cons_append]
    · have e2 : decide ((tokAt ts e at_).kind = 1) = false := decide_eq_false hk
      have hi : isW ts e at_ tx = false := by unfold isW; rw [e2]; rfl
      rw [hi]
      simp only [Y_is, ys_hit, ys_miss, ha, e1, e2, go_sem, ne_eq, not_false_eq_true, reduceIte, Nat.reduceMul, Nat.reduceAdd, Nat.reduceSub, Nat.reduceEqDiff, Nat.reduceLeDiff, Nat.reduceLT, List.take_succ_cons, List.take_zero, List.drop_succ_cons, List.cons_append]
  obtain ⟨v, h', e1, r⟩ := pick_spec (R := R_joins ts e id) hc (by
    intro at' tx' e1 ho'
    simp only [List.cons.injEq, V.s.injEq, true_and, and_true] at e1
    subst e1
    rw [ho.uniq ho']; exact ⟨rfl, rfl⟩)
  obtain ⟨rfl, rfl⟩ := r at_ tx rfl ho
  exact e1
noncomputable def Y_field := ys [(23, pick 23 (R_peek ts e id)), (50, pick 50 (R_ahead ts e id))]
theorem t_field : Hp.TellsI tabx told (Y_field ts e id) := itells_cons pick_tells (itells_cons pick_tells itells_nil)
def R_field (a : List V) (h : H) (v : V) (h' : H) : Prop := ∀ (at_ : Nat), a = [.p id 0] → SO h id ts e at_ → v = .b (isF ts e at_) ∧ h' = h
theorem UH95 : type_of% (@Hp_open _ _ B95.eq_1) := @Hp_open _ _ B95.eq_1
def kz95 (_ : Nat) : List Nat := []
theorem field_eq {h : H} {at_ : Nat} (ho : SO h id ts e at_) : pick 95 (R_field ts e id) [.p id 0] h = some (.b (isF ts e at_), h) := by
  obtain ⟨nx, obs, nt, tips⟩ := h
  have ha := peek_eq ts e id ho
  have hb := ahead_eq ts e id (k := 1) (Nat.le_refl _) ho
  have hc : Hp.CompI tabx told 95 [.p id 0] ⟨nx, obs, nt, tips⟩ (.b (isF ts e at_)) ⟨nx, obs, nt, tips⟩ := Hp.compI_of tells_noX (t_field ts e id) (fn := af95) (kz := kz95) rfl (Nat.le_of_ble_eq_true rfl) fun gl => by
    show Hp.M _ _ _ (.code B95) _ (St.init gl 5 _ _) (Hp.FinI [.tmp 2] _ _)
    rw [UH95]
    have e1 := kd (tokAt ts e at_).kind 1
    have e3 := kd (tokAt ts e (at_ + 1)).kind 4
    simp only [Int.cast_ofNat_Int] at e1 e3
    simp only [Tok.cells, Int.cast_ofNat_Int] at ha hb
    by_cases hk : (tokAt ts e at_).kind = 1
    · have e2 : decide ((tokAt ts e at_).kind = 1) = true := decide_eq_true hk
      have hi : isF ts e at_ = isT ts e (at_ + 1) [61] := by unfold isF; rw [e2]; rfl
      rw [hi]
      by_cases hk2 : (tokAt ts e (at_ + 1)).kind = 4
      · have e4 : decide ((tokAt ts e (at_ + 1)).kind = 4) = true := decide_eq_true hk2
        have hi : isT ts e (at_ + 1) [61] = strEq (tokAt ts e (at_ + 1)).text [61] := by unfold isT; rw [e4]; rfl
        rw [hi]
        simp only [Y_field, ys_hit, ys_miss, ha, hb, e1, e2, e3, e4, go_sem, ne_eq, not_false_eq_true, reduceIte, Nat.reduceMul, Nat.reduceAdd, Nat.reduceSub, Nat.reduceEqDiff, Nat.reduceLeDiff, Nat.reduceLT, List.take_succ_cons, List.take_zero, List.drop_succ_cons, List.cons_append]
      · have e4 : decide ((tokAt ts e (at_ + 1)).kind = 4) = false := decide_eq_false hk2
        have hi : isT ts e (at_ + 1) [61] = false := by unfold isT; rw [e4]; rfl
        rw [hi]
        simp only [Y_field, ys_hit, ys_miss, ha, hb, e1, e2, e3, e4, go_sem, ne_eq, not_false_eq_true, reduceIte, Nat.reduceMul, Nat.reduceAdd, Nat.reduceSub, Nat.reduceEqDiff, Nat.reduceLeDiff, Nat.reduceLT, List.take_succ_cons, List.take_zero, List.drop_succ_cons, List.cons_append]
    · have e2 : decide ((tokAt ts e at_).kind = 1) = false := decide_eq_false hk
      have hi : isF ts e at_ = false := by unfold isF; rw [e2]; rfl
      rw [hi]
      simp only [Y_field, ys_hit, ys_miss, ha, hb, e1, e2, go_sem, ne_eq, not_false_eq_true, reduceIte, Nat.reduceMul, Nat.reduceAdd, Nat.reduceSub, Nat.reduceEqDiff, Nat.reduceLeDiff, Nat.reduceLT, List.take_succ_cons, List.take_zero, List.drop_succ_cons, List.cons_append]
  obtain ⟨v, h', e1, r⟩ := pick_spec (R := R_field ts e id) hc (by
    intro at' e1 ho'
    rw [ho.uniq ho']; exact ⟨rfl, rfl⟩)
  obtain ⟨rfl, rfl⟩ := r at_ rfl ho
  exact e1
def textV (ts : List Tok) (e a : Nat) : V := if (tokAt ts e a).kind = 2 then .tup [.s (tokAt ts e a).text, .i .i64 0] else .tup [.s [], .i .i64 192]
def R_text (a : List V) (h : H) (v : V) (h' : H) : Prop := ∀ (at_ : Nat), a = [.p id 0] → SO h id ts e at_ → v = textV ts e at_ ∧ h' = if (tokAt ts e at_).kind = 2 then setAt h id ts e (at_ + 1) else h
theorem UH96 : type_of% (@Hp_open _ _ B96.eq_1) := @Hp_open _ _ B96.eq_1
def kz96 (_ : Nat) : List Nat := []
theorem text_eq {h : H} {at_ : Nat} (ho : SO h id ts e at_) : pick 96 (R_text ts e id) [.p id 0] h = some (textV ts e at_, if (tokAt ts e at_).kind = 2 then setAt h id ts e (at_ + 1) else h) := by
  obtain ⟨nx, obs, nt, tips⟩ := h
  have ha := peek_eq ts e id ho
  have hc : Hp.CompI tabx told 96 [.p id 0] ⟨nx, obs, nt, tips⟩ (textV ts e at_) (if (tokAt ts e at_).kind = 2 then setAt ⟨nx, obs, nt, tips⟩ id ts e (at_ + 1) else ⟨nx, obs, nt, tips⟩) := Hp.compI_of tells_noX (t_is ts e id) (fn := af96) (kz := kz96) rfl (Nat.le_of_ble_eq_true rfl) fun gl => by
    show Hp.M _ _ _ (.code B96) _ (St.init gl 4 _ _) (Hp.FinI [.tmp 2, .tmp 3] _ _)
    rw [UH96]
    have e1 := kd (tokAt ts e at_).kind 2
    simp only [Int.cast_ofNat_Int] at e1
    simp only [Tok.cells] at ha
    by_cases hk : (tokAt ts e at_).kind = 2
    · have e2 : decide ((tokAt ts e at_).kind = 2) = true := decide_eq_true hk
      have ht := take_eq ts e id ho (tokAt_lt (e := e) (by omega))
      simp only [Tok.cells] at ht
      rw [textV, if_pos hk, if_pos hk]
      simp only [Y_is, ys_hit, ys_miss, ha, e1, e2, ht, setAt, go_sem, ne_eq, not_false_eq_true, reduceIte, Nat.reduceMul, Nat.reduceAdd, Nat.reduceSub, Nat.reduceEqDiff, Nat.reduceLeDiff, Nat.reduceLT, List.take_succ_cons, List.take_zero, List.drop_succ_cons, List.cons_append]
    · have e2 : decide ((tokAt ts e at_).kind = 2) = false := decide_eq_false hk
      rw [textV, if_neg hk, if_neg hk]
      simp only [Y_is, ys_hit, ys_miss, ha, e1, e2, go_sem, ne_eq, not_false_eq_true, reduceIte, Nat.reduceMul, Nat.reduceAdd, Nat.reduceSub, Nat.reduceEqDiff, Nat.reduceLeDiff, Nat.reduceLT, List.take_succ_cons, List.take_zero, List.drop_succ_cons, List.cons_append]
  obtain ⟨v, h', e1, r⟩ := pick_spec (R := R_text ts e id) hc (by
    intro at' e1 ho'
    rw [ho.uniq ho']; exact ⟨rfl, rfl⟩)
  obtain ⟨rfl, rfl⟩ := r at_ rfl ho
  exact e1
end
end Go.Proofs.YtbhclhgljnoioaaDoor
set_option linter.unusedSimpArgs false
set_option linter.unusedVariables false
namespace Go.Proofs.YtbhclhgljnoioaaDoor
open Ai
inductive Fil where
  | mk (k : Int) (name text : List UInt8) (kids : List Fil)
def fil0 : Fil := .mk 0 [] [] []
inductive PQ where
  | parse (by_ deep : Nat)
  | more (by_ deep : Nat) (acc : List Fil)
  | unary (deep : Nat)
  | word (deep : Nat)
  | nested (deep : Nat)
  | list (k : Int) (deep : Nat)
  | items (k : Int) (deep : Nat) (acc : List Fil)
abbrev PR := Fil × Nat × Nat
def wordOf (by_ : Nat) : List UInt8 := if by_ = 2 then [97, 110, 100] else [111, 114]
def kindOf (by_ : Nat) : Int := if by_ = 2 then 5 else 6
/-- One step of the parser; 'rec': what is below. -/
def pstep (ts : List Tok) (e : Nat) (rec : PQ → Nat → Option PR) : PQ → Nat → Option PR
  | .parse by_ deep, a =>
    if 40 < deep then some (fil0, 51, a) else
    if 2 < by_ then rec (.unary deep) a else
    (rec (.parse (by_ + 1) deep) a).bind fun r =>
      if r.2.1 ≠ 0 ∨ isW ts e r.2.2 (wordOf by_) = false then some r else rec (.more by_ deep [r.1]) r.2.2
  | .more by_ deep acc, a =>
    if isW ts e a (wordOf by_) = false then some (.mk (kindOf by_) [] [] acc, 0, a) else
    (rec (.parse (by_ + 1) deep) (a + 1)).bind fun r =>
      if r.2.1 ≠ 0 then some r else rec (.more by_ deep (acc ++ [r.1])) r.2.2
  | .unary deep, a =>
    if isF ts e a = true then
      (if (tokAt ts e (a + 2)).kind = 2 then some (.mk 2 (tokAt ts e a).text (tokAt ts e (a + 2)).text [], 0, a + 3) else some (fil0, 192, a + 2))
    else if isT ts e a [40] = true then
      (rec (.parse 1 (deep + 1)) (a + 1)).bind fun r =>
        if r.2.1 ≠ 0 then some (fil0, r.2.1, r.2.2) else
        if isT ts e r.2.2 [41] = true then some (r.1, 0, r.2.2 + 1) else some (fil0, 192, r.2.2)
    else if (tokAt ts e a).kind ≠ 1 then some (fil0, 192, a) else
    (rec (.word deep) a).bind fun r => if r.2.1 ≠ 0 then some (fil0, r.2.1, r.2.2) else some r
  | .word deep, a =>
    if (tokAt ts e a).text = [97, 108, 108] then some (fil0, 0, a + 1) else
    if (tokAt ts e a).text = [112, 117, 116] then some (.mk 3 [] [] [], 0, a + 1) else
    if (tokAt ts e a).text = [110, 111, 116] then (rec (.nested deep) (a + 1)).bind fun r => some (.mk 4 [] [] [r.1], r.2.1, r.2.2) else
    if (tokAt ts e a).text = [107, 101, 121] then
      (if isT ts e (a + 1) [94] = true then
        (if (tokAt ts e (a + 2)).kind = 2 then some (.mk 1 [] (tokAt ts e (a + 2)).text [], 0, a + 3) else some (.mk 1 [] [] [], 192, a + 2))
       else some (fil0, 192, a + 1)) else
    if (tokAt ts e a).text = [97, 110, 121] then rec (.list 6 deep) (a + 1) else
    if (tokAt ts e a).text = [101, 97, 99, 104] then rec (.list 5 deep) (a + 1) else
    some (fil0, 192, a)
  | .nested deep, a => if 40 ≤ deep then some (fil0, 51, a) else rec (.unary (deep + 1)) a
  | .list k deep, a =>
    if isT ts e a [40] = false then some (.mk k [] [] [], 192, a) else
    if isT ts e (a + 1) [41] = true then some (.mk k [] [] [], 0, a + 2) else
    rec (.items k deep []) (a + 1)
  | .items k deep acc, a =>
    (rec (.parse 1 (deep + 1)) a).bind fun r =>
      if r.2.1 ≠ 0 then some (.mk k [] [] acc, r.2.1, r.2.2) else
      if isT ts e r.2.2 [41] = true then some (.mk k [] [] (acc ++ [r.1]), 0, r.2.2 + 1) else
      if isT ts e r.2.2 [44] = true then rec (.items k deep (acc ++ [r.1])) (r.2.2 + 1) else
      some (.mk k [] [] (acc ++ [r.1]), 192, r.2.2)
def P (ts : List Tok) (e : Nat) : Nat → PQ → Nat → Option PR
  | 0 => fun _ _ => none
  | n + 1 => pstep ts e (P ts e n)
theorem bind_mono {α β : Type} {x y : Option α} {f g : α → Option β} (h : ∀ r, x = some r → y = some r) (hf : ∀ a r, f a = some r → g a = some r) : ∀ r, x.bind f = some r → y.bind g = some r := by
  intro r hr
  cases hx : x with
  | none => rw [hx] at hr; cases hr
  | some a => rw [hx] at hr; rw [h a hx]; exact hf a r hr
theorem pstep_mono {ts : List Tok} {e : Nat} {f g : PQ → Nat → Option PR} (h : ∀ q a r, f q a = some r → g q a = some r) : ∀ q a r, pstep ts e f q a = some r → pstep ts e g q a = some r := by
  intro q a r
  cases q with
  | parse by_ deep =>
    simp only [pstep]
    repeat' split
    · exact id
    · exact h _ _ _
    · refine bind_mono (h _ _) (fun b r => ?_) r
      split
      · exact id
      · exact h _ _ _
  | more by_ deep acc =>
    simp only [pstep]
    split
    · exact id
    · refine bind_mono (h _ _) (fun b r => ?_) r
      split
      · exact id
      · exact h _ _ _
  | unary deep =>
    simp only [pstep]
    split
    · exact id
    · split
      · exact bind_mono (h _ _) (fun b r => id) r
      · split
        · exact id
        · exact bind_mono (h _ _) (fun b r => id) r
  | word deep =>
    simp only [pstep]
    split
    · exact id
    · split
      · exact id
      · split
        · exact bind_mono (h _ _) (fun b r => id) r
        · split
          · exact id
          · split
            · exact h _ _ _
            · split
              · exact h _ _ _
              · exact id
  | nested deep =>
    simp only [pstep]
    split
    · exact id
    · exact h _ _ _
  | list k deep =>
    simp only [pstep]
    split
    · exact id
    · split
      · exact id
      · exact h _ _ _
  | items k deep acc =>
    simp only [pstep]
    refine bind_mono (h _ _) (fun b r => ?_) r
    split
    · exact id
    · split
      · exact id
      · split
        · exact h _ _ _
        · exact id
theorem P_succ {ts : List Tok} {e : Nat} : ∀ (n : Nat) (q : PQ) (a : Nat) (r : PR), P ts e n q a = some r → P ts e (n + 1) q a = some r := by
  intro n
  induction n with
  | zero => intro q a r h; cases h
  | succ n ih => intro q a r h; exact pstep_mono ih q a r h
theorem P_mono {ts : List Tok} {e : Nat} {n m : Nat} (hm : n ≤ m) {q : PQ} {a : Nat} {r : PR} (h : P ts e n q a = some r) : P ts e m q a = some r := by
  induction hm with
  | refl => exact h
  | step _ ih => exact P_succ _ _ _ _ ih
/-- How much there is to do. -/
def PQ.rank : PQ → Nat
  | .parse by_ _ => 8 - by_
  | .more .. => 0
  | .unary _ => 4
  | .word _ => 3
  | .nested _ => 5
  | .list .. => 0
  | .items .. => 9
theorem isF_lt {ts : List Tok} {e a : Nat} (h : isF ts e a = true) : a + 1 < ts.length := by
  unfold isF at h
  rw [Bool.and_eq_true] at h
  exact isT_lt h.2
theorem kind_lt {ts : List Tok} {e a : Nat} (h : (tokAt ts e a).kind = 2) : a < ts.length := tokAt_lt (e := e) (by omega)
theorem kind_lt1 {ts : List Tok} {e a : Nat} (h : (tokAt ts e a).kind = 1) : a < ts.length := tokAt_lt (e := e) (by omega)
/-- With fuel enough it comes to something, not further back than it began, and within the tokens. -/
theorem P_total (ts : List Tok) (e : Nat) : ∀ (n : Nat) (q : PQ) (a : Nat), a ≤ ts.length → (match q with | .word _ => a < ts.length | .parse b _ => 1 ≤ b ∧ b ≤ 3 | .more b _ _ => 1 ≤ b ∧ b ≤ 2 | _ => True) → 20 * (ts.length - a) + q.rank < n →
    ∃ r, P ts e n q a = some r ∧ a ≤ r.2.2 ∧ r.2.2 ≤ ts.length := by
  intro n
  induction n with
  | zero => intro q a _ _ h; omega
  | succ n ih =>
    intro q a ha hq hn
    show ∃ r, pstep ts e (P ts e n) q a = some r ∧ _
    cases q with
    | parse by_ deep =>
      simp only [PQ.rank] at hn hq
      simp only [pstep]
      split
      · exact ⟨_, rfl, Nat.le_refl _, ha⟩
      · split
        · exact ih (.unary deep) a ha trivial (by simp only [PQ.rank]; omega)
        · obtain ⟨r, e1, h1, h2⟩ := ih (.parse (by_ + 1) deep) a ha (by simp only; omega) (by simp only [PQ.rank]; omega)
          rw [e1, Option.bind_some]
          split
          · exact ⟨r, rfl, h1, h2⟩
          · obtain ⟨r', e2, h3, h4⟩ := ih (.more by_ deep [r.1]) r.2.2 h2 (by simp only; omega) (by simp only [PQ.rank]; omega)
            exact ⟨r', e2, by omega, h4⟩
    | more by_ deep acc =>
      simp only [PQ.rank] at hn hq
      simp only [pstep]
      split
      · exact ⟨_, rfl, Nat.le_refl _, ha⟩
      · rename_i hw
        have hl := isW_lt (by simpa using hw : isW ts e a (wordOf by_) = true)
        obtain ⟨r, e1, h1, h2⟩ := ih (.parse (by_ + 1) deep) (a + 1) (by omega) (by simp only; omega) (by simp only [PQ.rank]; omega)
        rw [e1, Option.bind_some]
        split
        · exact ⟨r, rfl, by omega, h2⟩
        · obtain ⟨r', e2, h3, h4⟩ := ih (.more by_ deep (acc ++ [r.1])) r.2.2 h2 (by simp only; omega) (by simp only [PQ.rank]; omega)
          exact ⟨r', e2, by omega, h4⟩
    | unary deep =>
      simp only [PQ.rank] at hn
      simp only [pstep]
      split
      · rename_i hf
        have hl := isF_lt hf
        split
        · rename_i hk
          have := kind_lt hk
          exact ⟨_, rfl, by simp only; omega, by simp only; omega⟩
        · exact ⟨_, rfl, by simp only; omega, by simp only; omega⟩
      · split
        · rename_i ht
          have hl := isT_lt ht
          obtain ⟨r, e1, h1, h2⟩ := ih (.parse 1 (deep + 1)) (a + 1) (by omega) (by simp only; omega) (by simp only [PQ.rank]; omega)
          rw [e1, Option.bind_some]
          split
          · exact ⟨_, rfl, by simp only; omega, h2⟩
          · split
            · rename_i ht2
              have := isT_lt ht2
              exact ⟨_, rfl, by simp only; omega, by simp only; omega⟩
            · exact ⟨_, rfl, by simp only; omega, by simp only; omega⟩
        · split
          · exact ⟨_, rfl, Nat.le_refl _, ha⟩
          · rename_i hk
            have hl := kind_lt1 (Decidable.not_not.1 hk)
            obtain ⟨r, e1, h1, h2⟩ := ih (.word deep) a ha hl (by simp only [PQ.rank]; omega)
            rw [e1, Option.bind_some]
            split
            · exact ⟨_, rfl, h1, h2⟩
            · exact ⟨_, rfl, h1, h2⟩
    | word deep =>
      simp only [PQ.rank] at hn hq
      simp only [pstep]
      split
      · exact ⟨_, rfl, by simp only; omega, by simp only; omega⟩
      · split
        · exact ⟨_, rfl, by simp only; omega, by simp only; omega⟩
        · split
          · obtain ⟨r, e1, h1, h2⟩ := ih (.nested deep) (a + 1) (by omega) trivial (by simp only [PQ.rank]; omega)
            rw [e1, Option.bind_some]
            exact ⟨_, rfl, by simp only; omega, h2⟩
          · split
            · split
              · rename_i ht
                have := isT_lt ht
                split
                · rename_i hk
                  have := kind_lt hk
                  exact ⟨_, rfl, by simp only; omega, by simp only; omega⟩
                · exact ⟨_, rfl, by simp only; omega, by simp only; omega⟩
              · exact ⟨_, rfl, by simp only; omega, by simp only; omega⟩
            · split
              · obtain ⟨r, e1, h1, h2⟩ := ih (.list 6 deep) (a + 1) (by omega) trivial (by simp only [PQ.rank]; omega)
                exact ⟨r, e1, by omega, h2⟩
              · split
                · obtain ⟨r, e1, h1, h2⟩ := ih (.list 5 deep) (a + 1) (by omega) trivial (by simp only [PQ.rank]; omega)
                  exact ⟨r, e1, by omega, h2⟩
                · exact ⟨_, rfl, Nat.le_refl _, ha⟩
    | nested deep =>
      simp only [PQ.rank] at hn
      simp only [pstep]
      split
      · exact ⟨_, rfl, Nat.le_refl _, ha⟩
      · exact ih (.unary (deep + 1)) a ha trivial (by simp only [PQ.rank]; omega)
    | list k deep =>
      simp only [PQ.rank] at hn
      simp only [pstep]
      split
      · exact ⟨_, rfl, Nat.le_refl _, ha⟩
      · rename_i ht
        have hl := isT_lt (by simpa using ht : isT ts e a [40] = true)
        split
        · rename_i ht2
          have := isT_lt ht2
          exact ⟨_, rfl, by simp only; omega, by simp only; omega⟩
        · obtain ⟨r, e1, h1, h2⟩ := ih (.items k deep []) (a + 1) (by omega) trivial (by simp only [PQ.rank]; omega)
          exact ⟨r, e1, by omega, h2⟩
    | items k deep acc =>
      simp only [PQ.rank] at hn
      simp only [pstep]
      obtain ⟨r, e1, h1, h2⟩ := ih (.parse 1 (deep + 1)) a ha (by simp only; omega) (by simp only [PQ.rank]; omega)
      rw [e1, Option.bind_some]
      split
      · exact ⟨_, rfl, h1, h2⟩
      · split
        · rename_i ht
          have := isT_lt ht
          exact ⟨_, rfl, by simp only; omega, by simp only; omega⟩
        · split
          · rename_i ht
            have := isT_lt ht
            obtain ⟨r', e2, h3, h4⟩ := ih (.items k deep (acc ++ [r.1])) (r.2.2 + 1) (by omega) trivial (by simp only [PQ.rank]; omega)
            exact ⟨r', e2, by omega, h4⟩
          · exact ⟨_, rfl, h1, h2⟩
/-! ### Filters as values -/
mutual
inductive FilR : Fil → List V → Prop
  | mk (k : Int) (name text : List UInt8) (kids : List Fil) (xs : List V) (n : Nat) (tk : Tk) (hn : n = kids.length) (h : KidsR kids xs) : FilR (.mk k name text kids) [.i .i64 k, .s name, .s text, .sl xs n tk]
inductive KidsR : List Fil → List V → Prop
  | nil : KidsR [] []
  | cons (f : Fil) (r : List Fil) (c xs : List V) (h1 : FilR f c) (h2 : KidsR r xs) : KidsR (f :: r) (c ++ xs)
end
theorem FilR.len {f : Fil} {c : List V} (h : FilR f c) : c.length = 4 := by cases h; rfl
theorem KidsR.len {l : List Fil} {xs : List V} (h : KidsR l xs) : xs.length = l.length * 4 := by
  induction l generalizing xs with
  | nil => cases h; rfl
  | cons f r ih =>
    cases h with | cons _ _ c xs h1 h2 =>
    rw [List.length_append, h1.len, ih h2, List.length_cons]; omega
theorem KidsR.app {l : List Fil} {xs : List V} (h : KidsR l xs) {f : Fil} {c : List V} (hf : FilR f c) : KidsR (l ++ [f]) (xs ++ c) := by
  induction l generalizing xs with
  | nil => cases h; have := KidsR.cons f [] c [] hf .nil; rw [List.append_nil] at this; exact this
  | cons g r ih =>
    cases h with | cons _ _ c' xs h1 h2 =>
    rw [List.append_assoc]
    exact .cons g (r ++ [f]) c' _ h1 (ih h2)
theorem KidsR.one {f : Fil} {c : List V} (hf : FilR f c) : KidsR [f] c := by have := KidsR.cons f [] c [] hf .nil; rwa [List.append_nil] at this
theorem fil0R : FilR fil0 [.i .i64 0, .s [], .s [], .sl [] 0 .nil] := .mk _ _ _ _ _ _ _ rfl .nil
/-- The shared memory behind a call of the parser: only the place has changed, and tokens are new. -/
structure Hop (h h' : H) (id : Nat) : Prop where
  next : h'.next = h.next
  nt : h.nt ≤ h'.nt
  tips : ∀ t, t < h.nt → al h'.tips t = al h.tips t
  objs : ∀ j, j ≠ id → al h'.objs j = al h.objs j
theorem Hop.refl (h : H) (id : Nat) : Hop h h id := ⟨rfl, Nat.le_refl _, fun _ _ => rfl, fun _ _ => rfl⟩
theorem Hop.trans {h h1 h2 : H} {id : Nat} (a : Hop h h1 id) (b : Hop h1 h2 id) : Hop h h2 id :=
  ⟨b.next.trans a.next, Nat.le_trans a.nt b.nt, fun t ht => (b.tips t (Nat.lt_of_lt_of_le ht a.nt)).trans (a.tips t ht), fun j hj => (b.objs j hj).trans (a.objs j hj)⟩
theorem Hop.set (h : H) (id : Nat) (ts : List Tok) (e a : Nat) : Hop h (setAt h id ts e a) id :=
  ⟨rfl, Nat.le_refl _, fun _ _ => rfl, fun j hj => by show al (alSet _ _ _) _ = _; rw [al_set, if_neg (fun h => hj h)]⟩
end Go.Proofs.YtbhclhgljnoioaaDoor
set_option linter.unusedSimpArgs false
set_option linter.unusedVariables false
namespace Go.Proofs.YtbhclhgljnoioaaDoor
open Ai
theorem P_le {ts : List Tok} {e n : Nat} {q : PQ} {a : Nat} {r : PR} (ha : a ≤ ts.length) (hq : match q with | .word _ => a < ts.length | .parse b _ => 1 ≤ b ∧ b ≤ 3 | .more b _ _ => 1 ≤ b ∧ b ≤ 2 | _ => True) (h : P ts e n q a = some r) : a ≤ r.2.2 ∧ r.2.2 ≤ ts.length := by
  obtain ⟨r', h1, h2, h3⟩ := P_total ts e (20 * (ts.length - a) + q.rank + 1 + n) q a ha hq (by omega)
  have := P_mono (show n ≤ 20 * (ts.length - a) + q.rank + 1 + n by omega) h
  rw [this] at h1
  cases h1
  exact ⟨h2, h3⟩
section
variable (ts : List Tok) (e id N : Nat)
def Res (h : H) (v : V) (h' : H) (r : PR) : Prop := ∃ c, v = .tup [.agg c, .i .i64 (r.2.1 : Nat)] ∧ FilR r.1 c ∧ Hop h h' id ∧ SO h' id ts e r.2.2
def R_parse (a : List V) (h : H) (v : V) (h' : H) : Prop := ∀ (b d at_ : Nat) (r : PR), a = [.p id 0, .i .i64 (b : Nat), .i .i64 (d : Nat)] → SO h id ts e at_ → P ts e N (.parse b d) at_ = some r → Res ts e id h v h' r
def R_one (q : Nat → PQ) (a : List V) (h : H) (v : V) (h' : H) : Prop := ∀ (d at_ : Nat) (r : PR), a = [.p id 0, .i .i64 (d : Nat)] → SO h id ts e at_ → P ts e N (q d) at_ = some r → Res ts e id h v h' r
def R_list (a : List V) (h : H) (v : V) (h' : H) : Prop := ∀ (k : Int) (d at_ : Nat) (r : PR), a = [.p id 0, .i .i64 k, .i .i64 (d : Nat)] → SO h id ts e at_ → P ts e N (.list k d) at_ = some r → Res ts e id h v h' r
noncomputable def YN := ys [(23, pick 23 (R_peek ts e id)), (24, pick 24 (R_take ts e id)), (25, pick 25 (R_is ts e id)), (73, pick 73 (R_joins ts e id)), (95, pick 95 (R_field ts e id)), (96, pick 96 (R_text ts e id)),
  (49, pick 49 (R_parse ts e id N)), (72, pick 72 (R_one ts e id N .unary)), (97, pick 97 (R_one ts e id N .word)), (114, pick 114 (R_one ts e id N .nested)), (115, pick 115 (R_list ts e id N))]
theorem t_YN : Hp.TellsI tabx told (YN ts e id N) := itells_cons pick_tells (itells_cons pick_tells (itells_cons pick_tells (itells_cons pick_tells (itells_cons pick_tells (itells_cons pick_tells (itells_cons pick_tells (itells_cons pick_tells (itells_cons pick_tells (itells_cons pick_tells (itells_cons pick_tells itells_nil))))))))))
variable {ts e id N}
theorem y_peek {h : H} {a : Nat} (ho : SO h id ts e a) : YN ts e id N 23 [.p id 0] h = some (.agg [.i .i64 (tokAt ts e a).kind, .s (tokAt ts e a).text, .i .i64 (tokAt ts e a).at_], h) := peek_eq ts e id ho
theorem y_take {h : H} {a : Nat} (ho : SO h id ts e a) (hl : a < ts.length) : YN ts e id N 24 [.p id 0] h = some (.agg [.i .i64 (tokAt ts e a).kind, .s (tokAt ts e a).text, .i .i64 (tokAt ts e a).at_], setAt h id ts e (a + 1)) := take_eq ts e id ho hl
theorem y_is {h : H} {a : Nat} (ho : SO h id ts e a) (tx : List UInt8) : YN ts e id N 25 [.p id 0, .i .i64 4, .s tx] h = some (.b (isT ts e a tx), bif isT ts e a tx then setAt h id ts e (a + 1) else h) := is_eq ts e id ho tx
theorem y_joins {h : H} {a : Nat} (ho : SO h id ts e a) (tx : List UInt8) : YN ts e id N 73 [.p id 0, .s tx] h = some (.b (isW ts e a tx), h) := joins_eq ts e id ho tx
theorem y_field {h : H} {a : Nat} (ho : SO h id ts e a) : YN ts e id N 95 [.p id 0] h = some (.b (isF ts e a), h) := field_eq ts e id ho
theorem y_text {h : H} {a : Nat} (ho : SO h id ts e a) : YN ts e id N 96 [.p id 0] h = some (textV ts e a, if (tokAt ts e a).kind = 2 then setAt h id ts e (a + 1) else h) := text_eq ts e id ho
def S_parse (ts : List Tok) (e id N : Nat) : Prop := ∀ (b d at_ : Nat) (r : PR) (h : H), 1 ≤ b → b ≤ 3 → d ≤ 41 → SO h id ts e at_ → P ts e N (.parse b d) at_ = some r →
  ∃ v h', Hp.CompI tabx told 49 [.p id 0, .i .i64 (b : Nat), .i .i64 (d : Nat)] h v h' ∧ Res ts e id h v h' r
def S_one (ts : List Tok) (e id N : Nat) (g : FuncId) (q : Nat → PQ) (pre : Nat → Prop) : Prop := ∀ (d at_ : Nat) (r : PR) (h : H), d ≤ 40 → pre at_ → SO h id ts e at_ → P ts e N (q d) at_ = some r →
  ∃ v h', Hp.CompI tabx told g [.p id 0, .i .i64 (d : Nat)] h v h' ∧ Res ts e id h v h' r
def S_list (ts : List Tok) (e id N : Nat) : Prop := ∀ (k : Int) (d at_ : Nat) (r : PR) (h : H), d ≤ 40 → SO h id ts e at_ → P ts e N (.list k d) at_ = some r →
  ∃ v h', Hp.CompI tabx told 115 [.p id 0, .i .i64 k, .i .i64 (d : Nat)] h v h' ∧ Res ts e id h v h' r
theorem call_parse (S : S_parse ts e id N) {b d a : Nat} {r : PR} {h : H} (h1 : 1 ≤ b) (h2 : b ≤ 3) (h3 : d ≤ 41) (ho : SO h id ts e a) (hp : P ts e N (.parse b d) a = some r) :
    ∃ c h', YN ts e id N 49 [.p id 0, .i .i64 (b : Nat), .i .i64 (d : Nat)] h = some (.tup [.agg c, .i .i64 (r.2.1 : Nat)], h') ∧ FilR r.1 c ∧ Hop h h' id ∧ SO h' id ts e r.2.2 := by
  obtain ⟨v, h', hc, hr⟩ := S b d a r h h1 h2 h3 ho hp
  obtain ⟨v, h', e1, r1⟩ := pick_spec (R := R_parse ts e id N) hc (by
    intro b' d' at' r' e1 ho' hp'
    simp only [List.cons.injEq, V.i.injEq, true_and, and_true] at e1
    obtain ⟨e1, e2⟩ := e1
    have e1 : b = b' := by omega
    have e2 : d = d' := by omega
    subst e1 e2
    rw [← ho.uniq ho', hp] at hp'
    cases hp'
    exact hr)
  obtain ⟨c, rfl, q1, q2, q3⟩ := r1 b d a r rfl ho hp
  exact ⟨c, h', e1, q1, q2, q3⟩
theorem call_one {g : FuncId} {q : Nat → PQ} {pre : Nat → Prop} (S : S_one ts e id N g q pre) {d a : Nat} {r : PR} {h : H} (h3 : d ≤ 40) (hpre : pre a) (ho : SO h id ts e a) (hp : P ts e N (q d) a = some r) :
    ∃ c h', pick g (R_one ts e id N q) [.p id 0, .i .i64 (d : Nat)] h = some (.tup [.agg c, .i .i64 (r.2.1 : Nat)], h') ∧ FilR r.1 c ∧ Hop h h' id ∧ SO h' id ts e r.2.2 := by
  obtain ⟨v, h', hc, hr⟩ := S d a r h h3 hpre ho hp
  obtain ⟨v, h', e1, r1⟩ := pick_spec (R := R_one ts e id N q) hc (by
    intro d' at' r' e1 ho' hp'
    simp only [List.cons.injEq, V.i.injEq, true_and, and_true] at e1
    have e2 : d = d' := by omega
    subst e2
    rw [← ho.uniq ho', hp] at hp'
    cases hp'
    exact hr)
  obtain ⟨c, rfl, q1, q2, q3⟩ := r1 d a r rfl ho hp
  exact ⟨c, h', e1, q1, q2, q3⟩
theorem call_list (S : S_list ts e id N) {k : Int} {d a : Nat} {r : PR} {h : H} (h3 : d ≤ 40) (ho : SO h id ts e a) (hp : P ts e N (.list k d) a = some r) :
    ∃ c h', YN ts e id N 115 [.p id 0, .i .i64 k, .i .i64 (d : Nat)] h = some (.tup [.agg c, .i .i64 (r.2.1 : Nat)], h') ∧ FilR r.1 c ∧ Hop h h' id ∧ SO h' id ts e r.2.2 := by
  obtain ⟨v, h', hc, hr⟩ := S k d a r h h3 ho hp
  obtain ⟨v, h', e1, r1⟩ := pick_spec (R := R_list ts e id N) hc (by
    intro k' d' at' r' e1 ho' hp'
    simp only [List.cons.injEq, V.i.injEq, true_and, and_true] at e1
    obtain ⟨e1, e2⟩ := e1
    have e2 : d = d' := by omega
    subst e1 e2
    rw [← ho.uniq ho', hp] at hp'
    cases hp'
    exact hr)
  obtain ⟨c, rfl, q1, q2, q3⟩ := r1 k d a r rfl ho hp
  exact ⟨c, h', e1, q1, q2, q3⟩
theorem UH114 : type_of% (@Hp_open _ _ B114.eq_1) := @Hp_open _ _ B114.eq_1
def kz114 (_ : Nat) : List Nat := []
theorem s_nested (hu : S_one ts e id N 72 .unary (fun _ => True)) : S_one ts e id (N + 1) 114 .nested (fun _ => True) := by
  intro d a r h hd _ ho hp
  replace hp : pstep ts e (P ts e N) (.nested d) a = some r := hp
  simp only [pstep] at hp
  refine compI_ex (xf := noX) (kz := kz114) (fn := af114) tells_noX (t_YN ts e id N) rfl (Nat.le_of_ble_eq_true rfl) ?_
  show Hp.M _ _ _ (.code B114) _ (St.init gl0 4 _ _) (fun ex st => ∃ v h', Hp.FinI [.cell 4 true 4, .tmp 5] v h' ex st ∧ _)
  rw [UH114]
  by_cases hk : 40 ≤ d
  · rw [if_pos hk] at hp
    cases hp
    have e1 : decide ((40 : Int) ≤ (d : Int)) = true := decide_eq_true (by omega)
    simp only [e1, go_sem, ne_eq, not_false_eq_true, reduceIte, Nat.reduceMul, Nat.reduceAdd, Nat.reduceSub, Nat.reduceEqDiff, Nat.reduceLeDiff, Nat.reduceLT, List.take_succ_cons, List.take_zero, List.drop_succ_cons, List.cons_append]
    exact ⟨_, _, ⟨rfl, rfl⟩, _, rfl, fil0R, Hop.refl _ _, ho⟩
  · rw [if_neg hk] at hp
    have e1 : decide ((40 : Int) ≤ (d : Int)) = false := decide_eq_false (by omega)
    have w1 : wr .i64 ((d : Int) + 1) = ((d + 1 : Nat) : Int) := by rw [wr64] <;> omega
    obtain ⟨c, h', e2, q1, q2, q3⟩ := call_one hu (by omega) trivial ho hp
    replace e2 : YN ts e id N 72 _ _ = _ := e2
    obtain ⟨f, er, a'⟩ := r
    replace q1 : FilR f c := q1
    cases q1 with | mk k nm tx kids xs n tk hn hx =>
    simp only [e1, w1, e2, go_sem, ne_eq, not_false_eq_true, reduceIte, Nat.reduceMul, Nat.reduceAdd, Nat.reduceSub, Nat.reduceEqDiff, Nat.reduceLeDiff, Nat.reduceLT, List.take_succ_cons, List.take_zero, List.drop_succ_cons, List.cons_append]
    exact ⟨_, _, ⟨rfl, rfl⟩, _, rfl, .mk k nm tx kids xs n tk hn hx, q2, q3⟩
end
end Go.Proofs.YtbhclhgljnoioaaDoor
set_option linter.unusedSimpArgs false
set_option linter.unusedVariables false
namespace Go.Proofs.YtbhclhgljnoioaaDoor
open Ai
theorem SO.objs {h h' : H} {id : Nat} {ts : List Tok} {e a : Nat} (ho : SO h id ts e a) (hh : h'.objs = h.objs) : SO h' id ts e a := by unfold SO; rw [hh]; exact ho
/-- Of a row that is being built. -/
def TkG (h0 h : H) (m : Nat) (tk : Tk) : Prop := tk = .nil ∨ tk = .full ∨ ∃ t, tk = .own t ∧ h0.nt ≤ t ∧ t < h.nt ∧ al h.tips t = some (m, 27)
theorem TkG.hop {h0 h h' : H} {m id : Nat} {tk : Tk} (g : TkG h0 h m tk) (hp : Hop h h' id) : TkG h0 h' m tk := by
  rcases g with g | g | ⟨t, g1, g2, g3, g4⟩
  · exact .inl g
  · exact .inr (.inl g)
  · exact .inr (.inr ⟨t, g1, g2, Nat.lt_of_lt_of_le g3 hp.nt, (hp.tips t g3).trans g4⟩)
theorem app_tk {h0 : H} {nx : Nat} {obs : List (Nat × Ai.Obj)} {nt : Nat} {tips : List (Nat × (Nat × TypeId))} {m id : Nat} {tk : Tk} (g : TkG h0 ⟨nx, obs, nt, tips⟩ m tk) {xs c : List V} (hx : xs.length = m * 4) (hc : c.length = 4) (h1 : allOne c = true) (hm : m + 1 ≤ most) (hp : Hop h0 ⟨nx, obs, nt, tips⟩ id) :
    ∃ tk' nt' tips', (∀ gl T its loc, St.app ⟨gl, T, its, loc, ⟨nx, obs, nt, tips⟩⟩ 27 4 (.sl xs m tk) (.sl c 1 .full) = some (.sl (xs ++ c) (m + 1) tk', ⟨gl, T, its, loc, ⟨nx, obs, nt', tips'⟩⟩)) ∧ TkG h0 ⟨nx, obs, nt', tips'⟩ (m + 1) tk' ∧ Hop h0 ⟨nx, obs, nt', tips'⟩ id := by
  rcases g with rfl | rfl | ⟨t, rfl, g2, g3, g4⟩
  · refine ⟨.own nt, nt + 1, (nt, (m + 1, 27)) :: tips, fun gl T its loc => ?_, .inr (.inr ⟨nt, rfl, hp.nt, Nat.lt_succ_self _, ?_⟩), ⟨hp.next, Nat.le_succ_of_le hp.nt, fun t ht => ?_, hp.objs⟩⟩
    · simp only [hx, hc, h1, hm, go_sem, ne_eq, not_false_eq_true, reduceIte, Nat.reduceMul, Nat.reduceAdd, Nat.reduceSub, Nat.reduceEqDiff, Nat.reduceLeDiff, Nat.reduceLT, List.take_succ_cons, List.take_zero, List.drop_succ_cons, List.cons_append]
    · simp only [al, go_sem, ne_eq, not_false_eq_true, reduceIte, Nat.reduceMul, Nat.reduceAdd, Nat.reduceSub, Nat.reduceEqDiff, Nat.reduceLeDiff, Nat.reduceLT, List.take_succ_cons, List.take_zero, List.drop_succ_cons, List.cons_append]
    · have := hp.tips t ht
      have hne : Nat.beq nt t = false := by
        cases hb : Nat.beq nt t with
        | true => have h1 := Nat.eq_of_beq_eq_true hb; have := hp.nt; simp only at this; omega
        | false => rfl
      show al ((nt, _) :: tips) t = _
      simp only [al, hne, cond_false]; exact this
  · refine ⟨.own nt, nt + 1, (nt, (m + 1, 27)) :: tips, fun gl T its loc => ?_, .inr (.inr ⟨nt, rfl, hp.nt, Nat.lt_succ_self _, ?_⟩), ⟨hp.next, Nat.le_succ_of_le hp.nt, fun t ht => ?_, hp.objs⟩⟩
    · simp only [hx, hc, h1, hm, go_sem, ne_eq, not_false_eq_true, reduceIte, Nat.reduceMul, Nat.reduceAdd, Nat.reduceSub, Nat.reduceEqDiff, Nat.reduceLeDiff, Nat.reduceLT, List.take_succ_cons, List.take_zero, List.drop_succ_cons, List.cons_append]
    · simp only [al, go_sem, ne_eq, not_false_eq_true, reduceIte, Nat.reduceMul, Nat.reduceAdd, Nat.reduceSub, Nat.reduceEqDiff, Nat.reduceLeDiff, Nat.reduceLT, List.take_succ_cons, List.take_zero, List.drop_succ_cons, List.cons_append]
    · have := hp.tips t ht
      have hne : Nat.beq nt t = false := by
        cases hb : Nat.beq nt t with
        | true => have h1 := Nat.eq_of_beq_eq_true hb; have := hp.nt; simp only at this; omega
        | false => rfl
      show al ((nt, _) :: tips) t = _
      simp only [al, hne, cond_false]; exact this
  · refine ⟨.own t, nt, alSet tips t (m + 1, 27), fun gl T its loc => ?_, .inr (.inr ⟨t, rfl, g2, g3, ?_⟩), ⟨hp.next, hp.nt, fun t' ht => ?_, hp.objs⟩⟩
    · simp only at g4
      simp only [hx, hc, h1, hm, g4, go_sem, ne_eq, not_false_eq_true, reduceIte, Nat.reduceMul, Nat.reduceAdd, Nat.reduceSub, Nat.reduceEqDiff, Nat.reduceLeDiff, Nat.reduceLT, List.take_succ_cons, List.take_zero, List.drop_succ_cons, List.cons_append]
    · simp only [go_sem, ne_eq, not_false_eq_true, reduceIte, Nat.reduceMul, Nat.reduceAdd, Nat.reduceSub, Nat.reduceEqDiff, Nat.reduceLeDiff, Nat.reduceLT, List.take_succ_cons, List.take_zero, List.drop_succ_cons, List.cons_append]
    · show al (alSet _ _ _) _ = _
      rw [al_set, if_neg (by omega)]
      exact hp.tips t' ht
section
variable {ts : List Tok} {e id N : Nat}
theorem UH72 : type_of% (@Hp_open _ _ B72.eq_1) := @Hp_open _ _ B72.eq_1
def kz72 (_ : Nat) : List Nat := []
theorem s_unary (hps : S_parse ts e id N) (hw : S_one ts e id N 97 .word (fun a => (tokAt ts e a).kind = 1)) : S_one ts e id (N + 1) 72 .unary (fun _ => True) := by
  intro d a r h hd _ ho hp
  replace hp : pstep ts e (P ts e N) (.unary d) a = some r := hp
  simp only [pstep] at hp
  refine compI_ex (xf := noX) (kz := kz72) (fn := af72) tells_noX (t_YN ts e id N) rfl (Nat.le_of_ble_eq_true rfl) ?_
  show Hp.M _ _ _ (.code B72) _ (St.init gl0 6 _ _) (fun ex st => ∃ v h', Hp.FinI [.cell 4 true 4, .tmp 5] v h' ex st ∧ _)
  rw [UH72]
  have y1 := y_peek (N := N) ho
  have y2 := y_field (N := N) ho
  cases hF : isF ts e a with
  | true =>
    rw [hF] at y2
    rw [if_pos hF] at hp
    have hl := isF_lt hF
    have y3 := y_take (N := N) ho (by omega)
    have ho1 := ho.set (b := a + 1) (by omega)
    have y4 := y_take (N := N) ho1 (by omega)
    have ho2 := ho1.set (b := a + 1 + 1) (by omega)
    have y5 := y_text (N := N) ho2
    have hop : Hop h (setAt (setAt h id ts e (a + 1)) id ts e (a + 1 + 1)) id := (Hop.set h id ts e _).trans (Hop.set _ id ts e _)
    by_cases hk : (tokAt ts e (a + 2)).kind = 2
    · rw [if_pos hk] at hp
      cases hp
      have hl2 := kind_lt hk
      have hk' : (tokAt ts e (a + 1 + 1)).kind = 2 := hk
      rw [textV, if_pos hk', if_pos hk'] at y5
      simp only [y1, y2, y3, y4, y5, go_sem, ne_eq, not_false_eq_true, reduceIte, Nat.reduceMul, Nat.reduceAdd, Nat.reduceSub, Nat.reduceEqDiff, Nat.reduceLeDiff, Nat.reduceLT, List.take_succ_cons, List.take_zero, List.drop_succ_cons, List.cons_append]
      exact ⟨_, _, ⟨rfl, rfl⟩, _, rfl, .mk _ _ _ _ _ _ _ rfl .nil, hop.trans (Hop.set _ id ts e _), ho2.set (b := a + 1 + 1 + 1) (by omega)⟩
    · rw [if_neg hk] at hp
      cases hp
      have hk' : ¬ (tokAt ts e (a + 1 + 1)).kind = 2 := hk
      have f1 : decide ((192 : Int) = 0) = false := by decide
      rw [textV, if_neg hk', if_neg hk'] at y5
      simp only [y1, y2, y3, y4, y5, f1, go_sem, ne_eq, not_false_eq_true, reduceIte, Nat.reduceMul, Nat.reduceAdd, Nat.reduceSub, Nat.reduceEqDiff, Nat.reduceLeDiff, Nat.reduceLT, List.take_succ_cons, List.take_zero, List.drop_succ_cons, List.cons_append]
      exact ⟨_, _, ⟨rfl, rfl⟩, _, rfl, fil0R, hop, ho2⟩
  | false =>
    rw [hF] at y2
    rw [if_neg (by rw [hF]; decide)] at hp
    have y3 := y_is (N := N) ho [40]
    cases hT : isT ts e a [40] with
    | true =>
      rw [hT, cond_true] at y3
      rw [if_pos hT] at hp
      have hl := isT_lt hT
      have ho1 := ho.set (b := a + 1) (by omega)
      cases hp1 : P ts e N (.parse 1 (d + 1)) (a + 1) with
      | none => rw [hp1] at hp; cases hp
      | some r1 =>
        rw [hp1, Option.bind_some] at hp
        obtain ⟨c, h', y4, q1, q2, q3⟩ := call_parse hps (Nat.le_refl _) (by omega) (by omega) ho1 hp1
        obtain ⟨f1, er, a1⟩ := r1
        simp only at hp q3 y4 q1
        have w1 : wr .i64 ((d : Int) + 1) = ((d + 1 : Nat) : Int) := by rw [wr64] <;> omega
        cases q1 with | mk k nm tx kids xs n tk hn hx =>
        simp only [Int.cast_ofNat_Int] at y4
        by_cases he : er = 0
        · subst he
          rw [if_neg (by simp)] at hp
          have y5 := y_is (N := N) q3 [41]
          cases hT2 : isT ts e a1 [41] with
          | true =>
            rw [if_pos hT2] at hp
            cases hp
            rw [hT2, cond_true] at y5
            have hl2 := isT_lt hT2
            simp only [y1, y2, y3, w1, y4, y5, Int.cast_ofNat_Int, go_sem, ne_eq, not_false_eq_true, reduceIte, Nat.reduceMul, Nat.reduceAdd, Nat.reduceSub, Nat.reduceEqDiff, Nat.reduceLeDiff, Nat.reduceLT, List.take_succ_cons, List.take_zero, List.drop_succ_cons, List.cons_append]
            exact ⟨_, _, ⟨rfl, rfl⟩, _, rfl, .mk k nm tx kids xs n tk hn hx, ((Hop.set h id ts e _).trans q2).trans (Hop.set _ id ts e _), q3.set (b := a1 + 1) (by omega)⟩
          | false =>
            rw [if_neg (by rw [hT2]; decide)] at hp
            cases hp
            rw [hT2, cond_false] at y5
            have f1 : decide ((192 : Int) = 0) = false := by decide
            simp only [y1, y2, y3, w1, y4, y5, f1, Int.cast_ofNat_Int, go_sem, ne_eq, not_false_eq_true, reduceIte, Nat.reduceMul, Nat.reduceAdd, Nat.reduceSub, Nat.reduceEqDiff, Nat.reduceLeDiff, Nat.reduceLT, List.take_succ_cons, List.take_zero, List.drop_succ_cons, List.cons_append]
            exact ⟨_, _, ⟨rfl, rfl⟩, _, rfl, fil0R, (Hop.set h id ts e _).trans q2, q3⟩
        · rw [if_pos he] at hp
          cases hp
          have f1 : decide ((er : Int) = 0) = false := decide_eq_false (by omega)
          simp only [y1, y2, y3, w1, y4, f1, Int.cast_ofNat_Int, go_sem, ne_eq, not_false_eq_true, reduceIte, Nat.reduceMul, Nat.reduceAdd, Nat.reduceSub, Nat.reduceEqDiff, Nat.reduceLeDiff, Nat.reduceLT, List.take_succ_cons, List.take_zero, List.drop_succ_cons, List.cons_append]
          exact ⟨_, _, ⟨rfl, rfl⟩, _, rfl, fil0R, (Hop.set h id ts e _).trans q2, q3⟩
    | false =>
      rw [hT, cond_false] at y3
      rw [if_neg (by rw [hT]; decide)] at hp
      have k1 := kd (tokAt ts e a).kind 1
      simp only [Int.cast_ofNat_Int] at k1
      by_cases hk : (tokAt ts e a).kind = 1
      · have k2 : decide ((tokAt ts e a).kind = 1) = true := decide_eq_true hk
        rw [if_neg (Decidable.not_not.2 hk)] at hp
        cases hp1 : P ts e N (.word d) a with
        | none => rw [hp1] at hp; cases hp
        | some r1 =>
          rw [hp1, Option.bind_some] at hp
          obtain ⟨c, h', y4, q1, q2, q3⟩ := call_one hw hd hk ho hp1
          replace y4 : YN ts e id N 97 _ _ = _ := y4
          obtain ⟨f1, er, a1⟩ := r1
          simp only at hp q3 y4 q1
          cases q1 with | mk k nm tx kids xs n tk hn hx =>
          by_cases he : er = 0
          · subst he
            rw [if_neg (by simp)] at hp
            cases hp
            simp only [y1, y2, y3, k1, k2, y4, Int.cast_ofNat_Int, go_sem, ne_eq, not_false_eq_true, reduceIte, Nat.reduceMul, Nat.reduceAdd, Nat.reduceSub, Nat.reduceEqDiff, Nat.reduceLeDiff, Nat.reduceLT, List.take_succ_cons, List.take_zero, List.drop_succ_cons, List.cons_append]
            exact ⟨_, _, ⟨rfl, rfl⟩, _, rfl, .mk k nm tx kids xs n tk hn hx, q2, q3⟩
          · rw [if_pos he] at hp
            cases hp
            have f1 : decide ((er : Int) = 0) = false := decide_eq_false (by omega)
            simp only [y1, y2, y3, k1, k2, y4, f1, Int.cast_ofNat_Int, go_sem, ne_eq, not_false_eq_true, reduceIte, Nat.reduceMul, Nat.reduceAdd, Nat.reduceSub, Nat.reduceEqDiff, Nat.reduceLeDiff, Nat.reduceLT, List.take_succ_cons, List.take_zero, List.drop_succ_cons, List.cons_append]
            exact ⟨_, _, ⟨rfl, rfl⟩, _, rfl, fil0R, q2, q3⟩
      · have k2 : decide ((tokAt ts e a).kind = 1) = false := decide_eq_false hk
        rw [if_pos hk] at hp
        cases hp
        have f1 : decide ((192 : Int) = 0) = false := by decide
        simp only [y1, y2, y3, k1, k2, f1, go_sem, ne_eq, not_false_eq_true, reduceIte, Nat.reduceMul, Nat.reduceAdd, Nat.reduceSub, Nat.reduceEqDiff, Nat.reduceLeDiff, Nat.reduceLT, List.take_succ_cons, List.take_zero, List.drop_succ_cons, List.cons_append]
        exact ⟨_, _, ⟨rfl, rfl⟩, _, rfl, fil0R, Hop.refl _ _, ho⟩
end
end Go.Proofs.YtbhclhgljnoioaaDoor
set_option linter.unusedSimpArgs false
set_option linter.unusedVariables false
namespace Go.Proofs.YtbhclhgljnoioaaDoor
open Ai
section
variable {ts : List Tok} {e id N : Nat}
theorem UH97 : type_of% (@Hp_open _ _ B97.eq_1) := @Hp_open _ _ B97.eq_1
def kz97 (_ : Nat) : List Nat := []
theorem s_word (hn : S_one ts e id N 114 .nested (fun _ => True)) (hli : S_list ts e id N) : S_one ts e id (N + 1) 97 .word (fun a => (tokAt ts e a).kind = 1) := by
  intro d a r h hd hk ho hp
  replace hp : pstep ts e (P ts e N) (.word d) a = some r := hp
  simp only [pstep] at hp
  have hl := kind_lt1 hk
  refine compI_ex (xf := noX) (kz := kz97) (fn := af97) tells_noX (t_YN ts e id N) rfl (Nat.le_of_ble_eq_true rfl) ?_
  show Hp.M _ _ _ (.code B97) _ (St.init gl0 7 _ _) (fun ex st => ∃ v h', Hp.FinI [.cell 4 true 4, .tmp 5] v h' ex st ∧ _)
  rw [UH97]
  have y1 := y_peek (N := N) ho
  have y2 := y_take (N := N) ho hl
  have ho1 := ho.set (b := a + 1) (by omega)
  have hop := Hop.set h id ts e (a + 1)
  have s1 := strEq_dec (tokAt ts e a).text [97, 108, 108]
  have s2 := strEq_dec (tokAt ts e a).text [112, 117, 116]
  have s3 := strEq_dec (tokAt ts e a).text [110, 111, 116]
  have s4 := strEq_dec (tokAt ts e a).text [107, 101, 121]
  have s5 := strEq_dec (tokAt ts e a).text [97, 110, 121]
  have s6 := strEq_dec (tokAt ts e a).text [101, 97, 99, 104]
  by_cases c1 : (tokAt ts e a).text = [97, 108, 108]
  · rw [decide_eq_true c1] at s1
    rw [if_pos c1] at hp
    cases hp
    simp only [y1, y2, s1, go_sem, ne_eq, not_false_eq_true, reduceIte, Nat.reduceMul, Nat.reduceAdd, Nat.reduceSub, Nat.reduceEqDiff, Nat.reduceLeDiff, Nat.reduceLT, List.take_succ_cons, List.take_zero, List.drop_succ_cons, List.cons_append]
    exact ⟨_, _, ⟨rfl, rfl⟩, _, rfl, fil0R, hop, ho1⟩
  · rw [decide_eq_false c1] at s1
    rw [if_neg c1] at hp
    by_cases c2 : (tokAt ts e a).text = [112, 117, 116]
    · rw [decide_eq_true c2] at s2
      rw [if_pos c2] at hp
      cases hp
      simp only [y1, y2, s1, s2, go_sem, ne_eq, not_false_eq_true, reduceIte, Nat.reduceMul, Nat.reduceAdd, Nat.reduceSub, Nat.reduceEqDiff, Nat.reduceLeDiff, Nat.reduceLT, List.take_succ_cons, List.take_zero, List.drop_succ_cons, List.cons_append]
      exact ⟨_, _, ⟨rfl, rfl⟩, _, rfl, .mk _ _ _ _ _ _ _ rfl .nil, hop, ho1⟩
    · rw [decide_eq_false c2] at s2
      rw [if_neg c2] at hp
      by_cases c3 : (tokAt ts e a).text = [110, 111, 116]
      · rw [decide_eq_true c3] at s3
        rw [if_pos c3] at hp
        cases hp1 : P ts e N (.nested d) (a + 1) with
        | none => rw [hp1] at hp; cases hp
        | some r1 =>
          rw [hp1, Option.bind_some] at hp
          cases hp
          obtain ⟨c, h', y4, q1, q2, q3⟩ := call_one hn hd trivial ho1 hp1
          replace y4 : YN ts e id N 114 _ _ = _ := y4
          obtain ⟨f1, er, a1⟩ := r1
          simp only at q3 y4 q1
          have q1' := q1
          cases q1 with | mk k nm tx kids xs n tk hn hx =>
          simp only [y1, y2, s1, s2, s3, y4, go_sem, ne_eq, not_false_eq_true, reduceIte, Nat.reduceMul, Nat.reduceAdd, Nat.reduceSub, Nat.reduceEqDiff, Nat.reduceLeDiff, Nat.reduceLT, List.take_succ_cons, List.take_zero, List.drop_succ_cons, List.cons_append]
          exact ⟨_, _, ⟨rfl, rfl⟩, _, rfl, .mk _ _ _ _ _ _ _ rfl (KidsR.one q1'), hop.trans q2, q3⟩
      · rw [decide_eq_false c3] at s3
        rw [if_neg c3] at hp
        by_cases c4 : (tokAt ts e a).text = [107, 101, 121]
        · rw [decide_eq_true c4] at s4
          rw [if_pos c4] at hp
          have y3 := y_is (N := N) ho1 [94]
          cases hT : isT ts e (a + 1) [94] with
          | true =>
            rw [hT, cond_true] at y3
            rw [if_pos hT] at hp
            have hl2 := isT_lt hT
            have ho2 := ho1.set (b := a + 1 + 1) (by omega)
            have y5 := y_text (N := N) ho2
            have hop2 := hop.trans (Hop.set (setAt h id ts e (a + 1)) id ts e (a + 1 + 1))
            by_cases hk2 : (tokAt ts e (a + 2)).kind = 2
            · have hk' : (tokAt ts e (a + 1 + 1)).kind = 2 := hk2
              have hl3 := kind_lt hk2
              rw [textV, if_pos hk', if_pos hk'] at y5
              rw [if_pos hk2] at hp
              cases hp
              simp only [y1, y2, s1, s2, s3, s4, y3, y5, go_sem, ne_eq, not_false_eq_true, reduceIte, Nat.reduceMul, Nat.reduceAdd, Nat.reduceSub, Nat.reduceEqDiff, Nat.reduceLeDiff, Nat.reduceLT, List.take_succ_cons, List.take_zero, List.drop_succ_cons, List.cons_append]
              exact ⟨_, _, ⟨rfl, rfl⟩, _, rfl, .mk _ _ _ _ _ _ _ rfl .nil, hop2.trans (Hop.set _ id ts e _), ho2.set (b := a + 1 + 1 + 1) (by omega)⟩
            · have hk' : ¬ (tokAt ts e (a + 1 + 1)).kind = 2 := hk2
              rw [textV, if_neg hk', if_neg hk'] at y5
              rw [if_neg hk2] at hp
              cases hp
              simp only [y1, y2, s1, s2, s3, s4, y3, y5, go_sem, ne_eq, not_false_eq_true, reduceIte, Nat.reduceMul, Nat.reduceAdd, Nat.reduceSub, Nat.reduceEqDiff, Nat.reduceLeDiff, Nat.reduceLT, List.take_succ_cons, List.take_zero, List.drop_succ_cons, List.cons_append]
              exact ⟨_, _, ⟨rfl, rfl⟩, _, rfl, .mk _ _ _ _ _ _ _ rfl .nil, hop2, ho2⟩
          | false =>
            rw [hT, cond_false] at y3
            rw [if_neg (by rw [hT]; decide)] at hp
            cases hp
            simp only [y1, y2, s1, s2, s3, s4, y3, go_sem, ne_eq, not_false_eq_true, reduceIte, Nat.reduceMul, Nat.reduceAdd, Nat.reduceSub, Nat.reduceEqDiff, Nat.reduceLeDiff, Nat.reduceLT, List.take_succ_cons, List.take_zero, List.drop_succ_cons, List.cons_append]
            exact ⟨_, _, ⟨rfl, rfl⟩, _, rfl, fil0R, hop, ho1⟩
        · rw [decide_eq_false c4] at s4
          rw [if_neg c4] at hp
          by_cases c5 : (tokAt ts e a).text = [97, 110, 121]
          · rw [decide_eq_true c5] at s5
            rw [if_pos c5] at hp
            obtain ⟨c, h', y4, q1, q2, q3⟩ := call_list hli hd ho1 hp
            obtain ⟨f1, er, a1⟩ := r
            simp only at q3 y4 q1
            cases q1 with | mk k nm tx kids xs n tk hn hx =>
            simp only [y1, y2, s1, s2, s3, s4, s5, y4, go_sem, ne_eq, not_false_eq_true, reduceIte, Nat.reduceMul, Nat.reduceAdd, Nat.reduceSub, Nat.reduceEqDiff, Nat.reduceLeDiff, Nat.reduceLT, List.take_succ_cons, List.take_zero, List.drop_succ_cons, List.cons_append]
            exact ⟨_, _, ⟨rfl, rfl⟩, _, rfl, .mk _ _ _ _ _ _ _ hn hx, hop.trans q2, q3⟩
          · rw [decide_eq_false c5] at s5
            rw [if_neg c5] at hp
            by_cases c6 : (tokAt ts e a).text = [101, 97, 99, 104]
            · rw [decide_eq_true c6] at s6
              rw [if_pos c6] at hp
              obtain ⟨c, h', y4, q1, q2, q3⟩ := call_list hli hd ho1 hp
              obtain ⟨f1, er, a1⟩ := r
              simp only at q3 y4 q1
              cases q1 with | mk k nm tx kids xs n tk hn hx =>
              simp only [y1, y2, s1, s2, s3, s4, s5, s6, y4, go_sem, ne_eq, not_false_eq_true, reduceIte, Nat.reduceMul, Nat.reduceAdd, Nat.reduceSub, Nat.reduceEqDiff, Nat.reduceLeDiff, Nat.reduceLT, List.take_succ_cons, List.take_zero, List.drop_succ_cons, List.cons_append]
              exact ⟨_, _, ⟨rfl, rfl⟩, _, rfl, .mk _ _ _ _ _ _ _ hn hx, hop.trans q2, q3⟩
            · rw [decide_eq_false c6] at s6
              rw [if_neg c6] at hp
              cases hp
              simp only [y1, y2, s1, s2, s3, s4, s5, s6, go_sem, ne_eq, not_false_eq_true, reduceIte, Nat.reduceMul, Nat.reduceAdd, Nat.reduceSub, Nat.reduceEqDiff, Nat.reduceLeDiff, Nat.reduceLT, List.take_succ_cons, List.take_zero, List.drop_succ_cons, List.cons_append]
              exact ⟨_, _, ⟨rfl, rfl⟩, _, rfl, fil0R, Hop.refl _ _, ho⟩
def K115_1 : List Fr := [.blk 0]
theorem UH115_1 : type_of% (@Hp_open _ _ L115_1.eq_1) := @Hp_open _ _ L115_1.eq_1
theorem UH115 : type_of% (@Hp_open _ _ B115.eq_1) := @Hp_open _ _ B115.eq_1
def kz115 (_ : Nat) : List Nat := [1, 3, 4, 5, 7, 9, 10, 11, 12, 13, 14, 15, 16, 17, 18, 19, 20, 21, 22, 23, 24, 25, 26, 27, 28, 29, 30, 31, 32, 33, 34, 35, 36, 37, 38, 39, 40, 41, 42, 43]
theorem w_items (hps : S_parse ts e id N) (k : Int) (d : Nat) (hd : d ≤ 40) (h0 : H) : ∀ (n : Nat) (acc : List Fil) (xs : List V) (m : Nat) (tk : Tk) (a : Nat) (h : H) (l9 : List (Nat × List V)) (r : PR), n ≤ N → P ts e n (.items k d acc) a = some r → SO h id ts e a → Hop h0 h id → KidsR acc xs → m = acc.length → TkG h0 h m tk → m ≤ a →
    Hp.M noX (YN ts e id N) (kz115) (.code L115_1) (.loop L115_1 :: K115_1) ⟨gl0, (.node (.node (.node (.node (.node (.node .leaf .any .leaf) .any (.node .leaf .any .leaf)) .any (.node (.node .leaf .any .leaf) .any (.node .leaf .any .leaf))) .any (.node (.node (.node .leaf .any .leaf) .any (.node .leaf .any .leaf)) .any (.node (.node .leaf .any .leaf) .any (.node .leaf .any .leaf)))) .any (.node (.node (.node (.node .leaf .any .leaf) .any (.node .leaf .any .leaf)) .any (.node (.node .leaf .any .leaf) .any (.node .leaf .any .leaf))) .any (.node (.node (.node .leaf .any .leaf) .any (.node .leaf .any .leaf)) .any (.node (.node .leaf .any .leaf) .any (.node .leaf .any .leaf))))) (.p id 0) (.node (.node (.node (.node (.node .leaf .any .leaf) .any (.node .leaf .any .leaf)) (.l 8 0) (.node (.node .leaf .any .leaf) .any (.node .leaf .any .leaf))) .any (.node (.node (.node .leaf .any .leaf) .any (.node .leaf .any .leaf)) .any (.node (.node .leaf .any .leaf) .any (.node .leaf .any .leaf)))) (.i .i64 (d : Nat)) (.node (.node (.node (.node .leaf .any .leaf) .any (.node .leaf .any .leaf)) .any (.node (.node .leaf .any .leaf) .any (.node .leaf .any .leaf))) (.l 6 0) (.node (.node (.node .leaf .any .leaf) .any (.node .leaf .any .leaf)) .any (.node (.node .leaf .any .leaf) .any (.node .leaf .any .leaf)))))), [], (6, [.i .i64 0, .s [], .s [], .sl [] 0 .nil]) :: (8, [.i .i64 k, .s [], .s [], .sl xs m tk]) :: l9, h⟩
      (fun ex st => ∃ v h', Hp.FinI [.cell 6 true 4, .tmp 7] v h' ex st ∧ Res ts e id h0 v h' r) := by
  intro n
  induction n with
  | zero => intro acc xs m tk a h l9 r _ hp; cases hp
  | succ n ih =>
    intro acc xs m tk a h l9 r hn hp ho hop hkd hm htk hma
    replace hp : pstep ts e (P ts e n) (.items k d acc) a = some r := hp
    simp only [pstep] at hp
    rw [UH115_1]
    cases hp1 : P ts e n (.parse 1 (d + 1)) a with
    | none => rw [hp1] at hp; cases hp
    | some r1 =>
      rw [hp1, Option.bind_some] at hp
      have hle := P_le ho.2.1 (by simp only; omega) hp1
      obtain ⟨c, h', y4, q1, q2, q3⟩ := call_parse hps (Nat.le_refl _) (by omega) (by omega) ho (P_mono (by omega) hp1)
      obtain ⟨f1, er, a1⟩ := r1
      simp only at hp q3 y4 q1 hle
      have w1 : wr .i64 ((d : Int) + 1) = ((d + 1 : Nat) : Int) := by rw [wr64] <;> omega
      have q1' := q1
      cases q1 with | mk k1 nm tx kids xs1 n1 tk1 hn1 hx1 =>
      simp only [Int.cast_ofNat_Int] at y4
      by_cases he : er = 0
      · subst he
        rw [if_neg (by simp)] at hp
        have hml : m + 1 ≤ most := by have := ho.2.2.1; have := ho.2.1; unfold most; omega
        obtain ⟨nx, obs, nt, tips⟩ := h'
        have hxl := hkd.len
        rw [← hm] at hxl
        obtain ⟨tk', nt', tips', hap, g1, g2⟩ := app_tk (htk.hop q2) hxl (c := [.i .i64 k1, .s nm, .s tx, .sl xs1 n1 tk1]) rfl rfl hml (hop.trans q2)
        have ho2 : SO ⟨nx, obs, nt', tips'⟩ id ts e a1 := q3.objs rfl
        have hkd2 := hkd.app q1'
        have y5 := y_is (N := N) ho2 [41]
        cases hT : isT ts e a1 [41] with
        | true =>
          rw [if_pos hT] at hp
          cases hp
          rw [hT, cond_true] at y5
          have hl2 := isT_lt hT
          simp only [w1, y4, hap, y5, splice, Int.cast_ofNat_Int, K115_1, go_sem, ne_eq, not_false_eq_true, reduceIte, Nat.reduceMul, Nat.reduceAdd, Nat.reduceSub, Nat.reduceEqDiff, Nat.reduceLeDiff, Nat.reduceLT, List.take_succ_cons, List.take_zero, List.drop_succ_cons, List.cons_append]
          exact ⟨_, _, ⟨rfl, rfl⟩, _, rfl, .mk _ _ _ _ _ _ _ (by rw [hm]; simp) hkd2, g2.trans (Hop.set _ id ts e _), ho2.set (b := a1 + 1) (by omega)⟩
        | false =>
          rw [if_neg (by rw [hT]; decide)] at hp
          rw [hT, cond_false] at y5
          have y6 := y_is (N := N) ho2 [44]
          cases hT2 : isT ts e a1 [44] with
          | true =>
            rw [if_pos hT2] at hp
            rw [hT2, cond_true] at y6
            have hl2 := isT_lt hT2
            have := fun l9 => ih _ (xs ++ [.i .i64 k1, .s nm, .s tx, .sl xs1 n1 tk1]) (m + 1) tk' (a1 + 1) (setAt ⟨nx, obs, nt', tips'⟩ id ts e (a1 + 1)) l9 r (by omega) hp (ho2.set (b := a1 + 1) (by omega)) (g2.trans (Hop.set _ id ts e _)) hkd2 (by rw [hm]; simp) (g1.hop (Hop.set _ id ts e _)) (by omega)
            simp only [w1, y4, hap, y5, y6, splice, Int.cast_ofNat_Int, K115_1, go_sem, ne_eq, not_false_eq_true, reduceIte, Nat.reduceMul, Nat.reduceAdd, Nat.reduceSub, Nat.reduceEqDiff, Nat.reduceLeDiff, Nat.reduceLT, List.take_succ_cons, List.take_zero, List.drop_succ_cons, List.cons_append]
            rw [Hp.M_loop]
            simp only [kz115, K115_1, List.length_cons, List.length_nil, go_sem, ne_eq, not_false_eq_true, reduceIte, Nat.reduceMul, Nat.reduceAdd, Nat.reduceSub, Nat.reduceEqDiff, Nat.reduceLeDiff, Nat.reduceLT, List.take_succ_cons, List.take_zero, List.drop_succ_cons, List.cons_append] at this ⊢
            exact this _
          | false =>
            rw [if_neg (by rw [hT2]; decide)] at hp
            cases hp
            rw [hT2, cond_false] at y6
            simp only [w1, y4, hap, y5, y6, splice, Int.cast_ofNat_Int, K115_1, go_sem, ne_eq, not_false_eq_true, reduceIte, Nat.reduceMul, Nat.reduceAdd, Nat.reduceSub, Nat.reduceEqDiff, Nat.reduceLeDiff, Nat.reduceLT, List.take_succ_cons, List.take_zero, List.drop_succ_cons, List.cons_append]
            exact ⟨_, _, ⟨rfl, rfl⟩, _, rfl, .mk _ _ _ _ _ _ _ (by rw [hm]; simp) hkd2, g2, ho2⟩
      · rw [if_pos he] at hp
        cases hp
        have f1 : decide ((er : Int) = 0) = false := decide_eq_false (by omega)
        simp only [w1, y4, f1, K115_1, go_sem, ne_eq, not_false_eq_true, reduceIte, Nat.reduceMul, Nat.reduceAdd, Nat.reduceSub, Nat.reduceEqDiff, Nat.reduceLeDiff, Nat.reduceLT, List.take_succ_cons, List.take_zero, List.drop_succ_cons, List.cons_append]
        exact ⟨_, _, ⟨rfl, rfl⟩, _, rfl, .mk _ _ _ _ _ _ _ hm hkd, hop.trans q2, q3⟩
theorem s_list (hps : S_parse ts e id N) : S_list ts e id (N + 1) := by
  intro k d a r h hd ho hp
  replace hp : pstep ts e (P ts e N) (.list k d) a = some r := hp
  simp only [pstep] at hp
  refine compI_ex (xf := noX) (kz := kz115) (fn := af115) tells_noX (t_YN ts e id N) rfl (Nat.le_of_ble_eq_true rfl) ?_
  show Hp.M _ _ _ (.code B115) _ (St.init gl0 6 _ _) (fun ex st => ∃ v h', Hp.FinI [.cell 6 true 4, .tmp 7] v h' ex st ∧ _)
  rw [UH115]
  have y3 := y_is (N := N) ho [40]
  cases hT : isT ts e a [40] with
  | false =>
    rw [hT, cond_false] at y3
    rw [if_pos hT] at hp
    cases hp
    simp only [y3, go_sem, ne_eq, not_false_eq_true, reduceIte, Nat.reduceMul, Nat.reduceAdd, Nat.reduceSub, Nat.reduceEqDiff, Nat.reduceLeDiff, Nat.reduceLT, List.take_succ_cons, List.take_zero, List.drop_succ_cons, List.cons_append]
    exact ⟨_, _, ⟨rfl, rfl⟩, _, rfl, .mk _ _ _ _ _ _ _ rfl .nil, Hop.refl _ _, ho⟩
  | true =>
    rw [hT, cond_true] at y3
    rw [if_neg (by rw [hT]; decide)] at hp
    have hl := isT_lt hT
    have ho1 := ho.set (b := a + 1) (by omega)
    have hop := Hop.set h id ts e (a + 1)
    have y4 := y_is (N := N) ho1 [41]
    cases hT2 : isT ts e (a + 1) [41] with
    | true =>
      rw [hT2, cond_true] at y4
      rw [if_pos hT2] at hp
      cases hp
      have hl2 := isT_lt hT2
      simp only [y3, y4, go_sem, ne_eq, not_false_eq_true, reduceIte, Nat.reduceMul, Nat.reduceAdd, Nat.reduceSub, Nat.reduceEqDiff, Nat.reduceLeDiff, Nat.reduceLT, List.take_succ_cons, List.take_zero, List.drop_succ_cons, List.cons_append]
      exact ⟨_, _, ⟨rfl, rfl⟩, _, rfl, .mk _ _ _ _ _ _ _ rfl .nil, hop.trans (Hop.set _ id ts e _), ho1.set (b := a + 1 + 1) (by omega)⟩
    | false =>
      rw [hT2, cond_false] at y4
      rw [if_neg (by rw [hT2]; decide)] at hp
      have := w_items hps k d hd h N [] [] 0 .nil (a + 1) (setAt h id ts e (a + 1)) [] r (Nat.le_refl _) hp ho1 hop .nil rfl (.inl rfl) (Nat.zero_le _)
      simp only [y3, y4, go_sem, ne_eq, not_false_eq_true, reduceIte, Nat.reduceMul, Nat.reduceAdd, Nat.reduceSub, Nat.reduceEqDiff, Nat.reduceLeDiff, Nat.reduceLT, List.take_succ_cons, List.take_zero, List.drop_succ_cons, List.cons_append]
      rw [Hp.M_loop]
      simp only [kz115, K115_1, List.length_cons, List.length_nil, go_sem, ne_eq, not_false_eq_true, reduceIte, Nat.reduceMul, Nat.reduceAdd, Nat.reduceSub, Nat.reduceEqDiff, Nat.reduceLeDiff, Nat.reduceLT, List.take_succ_cons, List.take_zero, List.drop_succ_cons, List.cons_append] at this ⊢
      exact this
end
end Go.Proofs.YtbhclhgljnoioaaDoor
set_option linter.unusedSimpArgs false
set_option linter.unusedVariables false
namespace Go.Proofs.YtbhclhgljnoioaaDoor
open Ai
section
variable {ts : List Tok} {e id N : Nat}
def K49_1 : List Fr := [.blk 0,
 .seq (.seq (.reg [⟨some 70, .load true 4 (.t 12), none⟩, ⟨none, .store 4 (.t 6) (.t 70), none⟩, ⟨some 7, .mov (.k (.i .i64 0)), none⟩])
 .ret)]
theorem UH49_1 : type_of% (@Hp_open _ _ L49_1.eq_1) := @Hp_open _ _ L49_1.eq_1
theorem UH49 : type_of% (@Hp_open _ _ B49.eq_1) := @Hp_open _ _ B49.eq_1
def kz49 (_ : Nat) : List Nat := [3, 4, 5, 7, 9, 11, 13, 14, 15, 16, 17, 18, 19, 20, 21, 22, 23, 24, 25, 26, 27, 28, 29, 30, 31, 32, 33, 34, 35, 36, 37, 38, 39, 40, 41, 42, 43, 44, 45, 46, 47, 48, 49, 50, 51, 52, 53, 54, 55, 56, 57, 58, 59, 60, 61, 62, 63, 64, 65, 66, 67, 68, 69, 70]
theorem w_more (hps : S_parse ts e id N) (b d : Nat) (hb : 1 ≤ b ∧ b ≤ 2) (hd : d ≤ 41) (h0 : H) : ∀ (n : Nat) (acc : List Fil) (xs : List V) (m : Nat) (tk : Tk) (a : Nat) (h : H) (c10 : List V) (r : PR), c10.length = 4 → n ≤ N → P ts e n (.more b d acc) a = some r → SO h id ts e a → Hop h0 h id → KidsR acc xs → m = acc.length → TkG h0 h m tk → m ≤ a + 1 →
    Hp.M noX (YN ts e id N) (kz49) (.code L49_1) (.loop L49_1 :: K49_1) ⟨gl0, (.node (.node (.node (.node (.node (.node (.node .leaf .any .leaf) .any (.node .leaf .any .leaf)) .any (.node (.node .leaf .any .leaf) .any (.node .leaf .any .leaf))) .any (.node (.node (.node .leaf .any .leaf) .any (.node .leaf .any .leaf)) .any (.node (.node .leaf .any .leaf) .any (.node .leaf .any .leaf)))) .any (.node (.node (.node (.node .leaf .any .leaf) .any (.node .leaf .any .leaf)) .any (.node (.node .leaf .any .leaf) .any (.node .leaf .any .leaf))) .any (.node (.node (.node .leaf .any .leaf) .any (.node .leaf .any .leaf)) .any (.node (.node .leaf .any .leaf) .any (.node .leaf .any .leaf))))) (.i .i64 (b : Nat)) (.node (.node (.node (.node (.node .leaf .any .leaf) .any (.node .leaf .any .leaf)) .any (.node (.node .leaf .any .leaf) .any (.node .leaf .any .leaf))) .any (.node (.node (.node .leaf .any .leaf) .any (.node .leaf .any .leaf)) .any (.node (.node .leaf .any .leaf) .any (.node .leaf .any .leaf)))) .any (.node (.node (.node (.node .leaf .any .leaf) .any (.node .leaf .any .leaf)) .any (.node (.node .leaf .any .leaf) .any (.node .leaf .any .leaf))) .any (.node (.node (.node .leaf .any .leaf) .any (.node .leaf .any .leaf)) .any (.node (.node .leaf .any .leaf) .any (.node .leaf .any .leaf)))))) (.p id 0) (.node (.node (.node (.node (.node (.node .leaf .any .leaf) .any (.node .leaf .any .leaf)) .any (.node (.node .leaf .any .leaf) .any (.node .leaf .any .leaf))) (.s (wordOf b)) (.node (.node (.node .leaf .any .leaf) .any (.node .leaf .any .leaf)) .any (.node (.node .leaf .any .leaf) .any (.node .leaf .any .leaf)))) .any (.node (.node (.node (.node .leaf .any .leaf) .any (.node .leaf .any .leaf)) .any (.node (.node .leaf .any .leaf) .any (.node .leaf .any .leaf))) (.l 12 0) (.node (.node (.node .leaf .any .leaf) .any (.node .leaf .any .leaf)) .any (.node (.node .leaf .any .leaf) .any (.node .leaf .any .leaf))))) (.i .i64 (d : Nat)) (.node (.node (.node (.node (.node .leaf .any .leaf) .any (.node .leaf .any .leaf)) .any (.node (.node .leaf .any .leaf) .any (.node .leaf .any .leaf))) (.l 10 0) (.node (.node (.node .leaf .any .leaf) .any (.node .leaf .any .leaf)) .any (.node (.node .leaf .any .leaf) .any (.node .leaf .any .leaf)))) (.l 6 0) (.node (.node (.node (.node .leaf .any .leaf) .any (.node .leaf .any .leaf)) .any (.node (.node .leaf .any .leaf) .any (.node .leaf .any .leaf))) .any (.node (.node (.node .leaf .any .leaf) .any (.node .leaf .any .leaf)) .any (.node (.node .leaf .any .leaf) .any (.node .leaf .any .leaf))))))), [], [(6, [.i .i64 0, .s [], .s [], .sl [] 0 .nil]), (10, c10), (12, [.i .i64 (kindOf b), .s [], .s [], .sl xs m tk])], h⟩
      (fun ex st => ∃ v h', Hp.FinI [.cell 6 true 4, .tmp 7] v h' ex st ∧ Res ts e id h0 v h' r) := by
  intro n
  induction n with
  | zero => intro acc xs m tk a h c10 r _ _ hp; cases hp
  | succ n ih =>
    intro acc xs m tk a h c10 r hc10 hn hp ho hop hkd hm htk hma
    replace hp : pstep ts e (P ts e n) (.more b d acc) a = some r := hp
    simp only [pstep] at hp
    rw [UH49_1]
    have y3 := y_joins (N := N) ho (wordOf b)
    cases hW : isW ts e a (wordOf b) with
    | false =>
      rw [if_pos hW] at hp
      cases hp
      rw [hW] at y3
      simp only [y3, K49_1, Int.cast_ofNat_Int, go_sem, ne_eq, not_false_eq_true, reduceIte, Nat.reduceMul, Nat.reduceAdd, Nat.reduceSub, Nat.reduceEqDiff, Nat.reduceLeDiff, Nat.reduceLT, List.take_succ_cons, List.take_zero, List.drop_succ_cons, List.cons_append]
      exact ⟨_, _, ⟨rfl, rfl⟩, _, rfl, .mk _ _ _ _ _ _ _ hm hkd, hop, ho⟩
    | true =>
      rw [hW] at y3
      rw [if_neg (by rw [hW]; decide)] at hp
      have hl := isW_lt hW
      have y1 := y_take (N := N) ho hl
      have ho1 := ho.set (b := a + 1) (by omega)
      cases hp1 : P ts e n (.parse (b + 1) d) (a + 1) with
      | none => rw [hp1] at hp; cases hp
      | some r1 =>
        rw [hp1, Option.bind_some] at hp
        have hle := P_le ho1.2.1 (by simp only; omega) hp1
        obtain ⟨c, h', y4, q1, q2, q3⟩ := call_parse hps (by omega) (by omega) hd ho1 (P_mono (by omega) hp1)
        obtain ⟨f1, er, a1⟩ := r1
        simp only at hp q3 y4 q1 hle
        have w1 : wr .i64 ((b : Int) + 1) = ((b + 1 : Nat) : Int) := by rw [wr64] <;> omega
        have q1' := q1
        cases q1 with | mk k1 nm tx kids xs1 n1 tk1 hn1 hx1 =>
        obtain ⟨v0, v1, v2, v3, rfl⟩ : ∃ v0 v1 v2 v3, c10 = [v0, v1, v2, v3] := by
          match c10, hc10 with
          | [v0, v1, v2, v3], _ => exact ⟨_, _, _, _, rfl⟩
        by_cases he : er = 0
        · subst he
          rw [if_neg (by simp)] at hp
          have hml : m + 1 ≤ most := by have := ho.2.2.1; have := ho.2.1; unfold most; omega
          obtain ⟨nx, obs, nt, tips⟩ := h'
          have hxl := hkd.len
          rw [← hm] at hxl
          have hop2 := hop.trans ((Hop.set h id ts e (a + 1)).trans q2)
          obtain ⟨tk', nt', tips', hap, g1, g2⟩ := app_tk (htk.hop ((Hop.set h id ts e (a + 1)).trans q2)) hxl (c := [.i .i64 k1, .s nm, .s tx, .sl xs1 n1 tk1]) rfl rfl hml hop2
          have ho2 : SO ⟨nx, obs, nt', tips'⟩ id ts e a1 := q3.objs rfl
          have hkd2 := hkd.app q1'
          have := ih _ (xs ++ [.i .i64 k1, .s nm, .s tx, .sl xs1 n1 tk1]) (m + 1) tk' a1 ⟨nx, obs, nt', tips'⟩ [.i .i64 k1, .s nm, .s tx, .sl xs1 n1 tk1] r rfl (by omega) hp ho2 g2 hkd2 (by rw [hm]; simp) g1 (by omega)
          simp only [y3, y1, w1, y4, hap, splice, Int.cast_ofNat_Int, go_sem, ne_eq, not_false_eq_true, reduceIte, Nat.reduceMul, Nat.reduceAdd, Nat.reduceSub, Nat.reduceEqDiff, Nat.reduceLeDiff, Nat.reduceLT, List.take_succ_cons, List.take_zero, List.drop_succ_cons, List.cons_append]
          rw [Hp.M_loop]
          simp only [kz49, K49_1, List.length_cons, List.length_nil, go_sem, ne_eq, not_false_eq_true, reduceIte, Nat.reduceMul, Nat.reduceAdd, Nat.reduceSub, Nat.reduceEqDiff, Nat.reduceLeDiff, Nat.reduceLT, List.take_succ_cons, List.take_zero, List.drop_succ_cons, List.cons_append] at this ⊢
          exact this
        · rw [if_pos he] at hp
          cases hp
          have f1 : decide ((er : Int) = 0) = false := decide_eq_false (by omega)
          simp only [y3, y1, w1, y4, f1, splice, K49_1, go_sem, ne_eq, not_false_eq_true, reduceIte, Nat.reduceMul, Nat.reduceAdd, Nat.reduceSub, Nat.reduceEqDiff, Nat.reduceLeDiff, Nat.reduceLT, List.take_succ_cons, List.take_zero, List.drop_succ_cons, List.cons_append]
          exact ⟨_, _, ⟨rfl, rfl⟩, _, rfl, q1', hop.trans ((Hop.set h id ts e (a + 1)).trans q2), q3⟩
theorem s_parse (hps : S_parse ts e id N) (hu : S_one ts e id N 72 .unary (fun _ => True)) : S_parse ts e id (N + 1) := by
  intro b d a r h hb1 hb2 hd ho hp
  replace hp : pstep ts e (P ts e N) (.parse b d) a = some r := hp
  simp only [pstep] at hp
  refine compI_ex (xf := noX) (kz := kz49) (fn := af49) tells_noX (t_YN ts e id N) rfl (Nat.le_of_ble_eq_true rfl) ?_
  show Hp.M _ _ _ (.code B49) _ (St.init gl0 7 _ _) (fun ex st => ∃ v h', Hp.FinI [.cell 6 true 4, .tmp 7] v h' ex st ∧ _)
  rw [UH49]
  by_cases hd2 : 40 < d
  · rw [if_pos hd2] at hp
    cases hp
    have e1 : decide ((40 : Int) < (d : Int)) = true := decide_eq_true (by omega)
    simp only [e1, Int.cast_ofNat_Int, go_sem, ne_eq, not_false_eq_true, reduceIte, Nat.reduceMul, Nat.reduceAdd, Nat.reduceSub, Nat.reduceEqDiff, Nat.reduceLeDiff, Nat.reduceLT, List.take_succ_cons, List.take_zero, List.drop_succ_cons, List.cons_append]
    exact ⟨_, _, ⟨rfl, rfl⟩, _, rfl, fil0R, Hop.refl _ _, ho⟩
  · rw [if_neg hd2] at hp
    have e1 : decide ((40 : Int) < (d : Int)) = false := decide_eq_false (by omega)
    by_cases hb3 : 2 < b
    · rw [if_pos hb3] at hp
      have e2 : decide ((2 : Int) < (b : Int)) = true := decide_eq_true (by omega)
      obtain ⟨c, h', y4, q1, q2, q3⟩ := call_one hu (by omega) trivial ho hp
      replace y4 : YN ts e id N 72 _ _ = _ := y4
      obtain ⟨f1, er, a1⟩ := r
      simp only at q3 y4 q1
      have q1' := q1
      cases q1 with | mk k nm tx kids xs n tk hn hx =>
      simp only [e1, e2, y4, go_sem, ne_eq, not_false_eq_true, reduceIte, Nat.reduceMul, Nat.reduceAdd, Nat.reduceSub, Nat.reduceEqDiff, Nat.reduceLeDiff, Nat.reduceLT, List.take_succ_cons, List.take_zero, List.drop_succ_cons, List.cons_append]
      exact ⟨_, _, ⟨rfl, rfl⟩, _, rfl, q1', q2, q3⟩
    · rw [if_neg hb3] at hp
      have e2 : decide ((2 : Int) < (b : Int)) = false := decide_eq_false (by omega)
      have w1 : wr .i64 ((b : Int) + 1) = ((b + 1 : Nat) : Int) := by rw [wr64] <;> omega
      cases hp1 : P ts e N (.parse (b + 1) d) a with
      | none => rw [hp1] at hp; cases hp
      | some r1 =>
        rw [hp1, Option.bind_some] at hp
        obtain ⟨c, h', y4, q1, q2, q3⟩ := call_parse hps (by omega) (by omega) hd ho hp1
        obtain ⟨f1, er, a1⟩ := r1
        simp only at hp q3 y4 q1
        have q1' := q1
        cases q1 with | mk k1 nm tx kids xs1 n1 tk1 hn1 hx1 =>
        have y3 := y_joins (N := N) q3 (wordOf b)
        by_cases he : er = 0
        · subst he
          cases hW : isW ts e a1 (wordOf b) with
          | false =>
            rw [if_pos (.inr hW)] at hp
            cases hp
            rw [hW] at y3
            rcases (by omega : b = 1 ∨ b = 2) with rfl | rfl
            · replace y3 : YN ts e id N 73 [.p id 0, .s [111, 114]] h' = _ := y3
              simp only [Nat.reduceAdd, Int.cast_ofNat_Int] at e2 w1 y4
              have e3 : decide ((1 : Int) = 2) = false := by decide
              simp only [e1, e2, e3, w1, y4, y3, Int.cast_ofNat_Int, go_sem, ne_eq, not_false_eq_true, reduceIte, Nat.reduceMul, Nat.reduceAdd, Nat.reduceSub, Nat.reduceEqDiff, Nat.reduceLeDiff, Nat.reduceLT, List.take_succ_cons, List.take_zero, List.drop_succ_cons, List.cons_append]
              exact ⟨_, _, ⟨rfl, rfl⟩, _, rfl, q1', q2, q3⟩
            · replace y3 : YN ts e id N 73 [.p id 0, .s [97, 110, 100]] h' = _ := y3
              simp only [Nat.reduceAdd, Int.cast_ofNat_Int] at e2 w1 y4
              simp only [e1, e2, w1, y4, y3, Int.cast_ofNat_Int, go_sem, ne_eq, not_false_eq_true, reduceIte, Nat.reduceMul, Nat.reduceAdd, Nat.reduceSub, Nat.reduceEqDiff, Nat.reduceLeDiff, Nat.reduceLT, List.take_succ_cons, List.take_zero, List.drop_succ_cons, List.cons_append]
              exact ⟨_, _, ⟨rfl, rfl⟩, _, rfl, q1', q2, q3⟩
          | true =>
            rw [if_neg (by rw [hW]; simp)] at hp
            rw [hW] at y3
            have := w_more hps b d (by omega) hd h N _ [.i .i64 k1, .s nm, .s tx, .sl xs1 n1 tk1] 1 .full a1 h' [.i .i64 k1, .s nm, .s tx, .sl xs1 n1 tk1] r rfl (Nat.le_refl _) hp q3 q2 (KidsR.one q1') rfl (.inr (.inl rfl)) (by omega)
            rcases (by omega : b = 1 ∨ b = 2) with rfl | rfl
            · replace y3 : YN ts e id N 73 [.p id 0, .s [111, 114]] h' = _ := y3
              simp only [Nat.reduceAdd, Int.cast_ofNat_Int] at e2 w1 y4
              have e3 : decide ((1 : Int) = 2) = false := by decide
              rw [show wordOf 1 = [111, 114] from rfl, show kindOf 1 = 6 from rfl] at this
              simp only [e1, e2, e3, w1, y4, y3, Int.cast_ofNat_Int, go_sem, ne_eq, not_false_eq_true, reduceIte, Nat.reduceMul, Nat.reduceAdd, Nat.reduceSub, Nat.reduceEqDiff, Nat.reduceLeDiff, Nat.reduceLT, List.take_succ_cons, List.take_zero, List.drop_succ_cons, List.cons_append]
              rw [Hp.M_loop]
              simp only [kz49, K49_1, List.length_cons, List.length_nil, Int.cast_ofNat_Int, go_sem, ne_eq, not_false_eq_true, reduceIte, Nat.reduceMul, Nat.reduceAdd, Nat.reduceSub, Nat.reduceEqDiff, Nat.reduceLeDiff, Nat.reduceLT, List.take_succ_cons, List.take_zero, List.drop_succ_cons, List.cons_append] at this ⊢
              exact this
            · replace y3 : YN ts e id N 73 [.p id 0, .s [97, 110, 100]] h' = _ := y3
              simp only [Nat.reduceAdd, Int.cast_ofNat_Int] at e2 w1 y4
              rw [show wordOf 2 = [97, 110, 100] from rfl, show kindOf 2 = 5 from rfl] at this
              simp only [e1, e2, w1, y4, y3, Int.cast_ofNat_Int, go_sem, ne_eq, not_false_eq_true, reduceIte, Nat.reduceMul, Nat.reduceAdd, Nat.reduceSub, Nat.reduceEqDiff, Nat.reduceLeDiff, Nat.reduceLT, List.take_succ_cons, List.take_zero, List.drop_succ_cons, List.cons_append]
              rw [Hp.M_loop]
              simp only [kz49, K49_1, List.length_cons, List.length_nil, Int.cast_ofNat_Int, go_sem, ne_eq, not_false_eq_true, reduceIte, Nat.reduceMul, Nat.reduceAdd, Nat.reduceSub, Nat.reduceEqDiff, Nat.reduceLeDiff, Nat.reduceLT, List.take_succ_cons, List.take_zero, List.drop_succ_cons, List.cons_append] at this ⊢
              exact this
        · rw [if_pos (.inl he)] at hp
          cases hp
          have f1 : decide ((er : Int) = 0) = false := decide_eq_false (by omega)
          rcases (by omega : b = 1 ∨ b = 2) with rfl | rfl
          · simp only [Nat.reduceAdd, Int.cast_ofNat_Int] at e2 w1 y4
            have e3 : decide ((1 : Int) = 2) = false := by decide
            simp only [e1, e2, e3, w1, y4, f1, Int.cast_ofNat_Int, go_sem, ne_eq, not_false_eq_true, reduceIte, Nat.reduceMul, Nat.reduceAdd, Nat.reduceSub, Nat.reduceEqDiff, Nat.reduceLeDiff, Nat.reduceLT, List.take_succ_cons, List.take_zero, List.drop_succ_cons, List.cons_append]
            exact ⟨_, _, ⟨rfl, rfl⟩, _, rfl, q1', q2, q3⟩
          · simp only [Nat.reduceAdd, Int.cast_ofNat_Int] at e2 w1 y4
            simp only [e1, e2, w1, y4, f1, Int.cast_ofNat_Int, go_sem, ne_eq, not_false_eq_true, reduceIte, Nat.reduceMul, Nat.reduceAdd, Nat.reduceSub, Nat.reduceEqDiff, Nat.reduceLeDiff, Nat.reduceLT, List.take_succ_cons, List.take_zero, List.drop_succ_cons, List.cons_append]
            exact ⟨_, _, ⟨rfl, rfl⟩, _, rfl, q1', q2, q3⟩
end
/-- The parser does what the function says. -/
theorem s_all (ts : List Tok) (e id : Nat) : ∀ N, S_parse ts e id N ∧ S_one ts e id N 72 .unary (fun _ => True) ∧ S_one ts e id N 97 .word (fun a => (tokAt ts e a).kind = 1) ∧ S_one ts e id N 114 .nested (fun _ => True) ∧ S_list ts e id N := by
  intro N
  induction N with
  | zero => exact ⟨fun _ _ _ _ _ _ _ _ _ h => (by cases h), fun _ _ _ _ _ _ _ h => (by cases h), fun _ _ _ _ _ _ _ h => (by cases h), fun _ _ _ _ _ _ _ h => (by cases h), fun _ _ _ _ _ _ _ h => (by cases h)⟩
  | succ N ih => exact ⟨s_parse ih.1 ih.2.1, s_unary ih.1 ih.2.2.1, s_word ih.2.2.2.1 ih.2.2.2.2, s_nested ih.2.1, s_list ih.1⟩
end Go.Proofs.YtbhclhgljnoioaaDoor
