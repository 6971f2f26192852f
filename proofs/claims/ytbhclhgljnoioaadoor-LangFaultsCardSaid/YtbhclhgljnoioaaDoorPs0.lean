/- lang: tokens that are taken one by one. -/
import Derived.Test.YtbhclhgljnoioaaDoorLx7
set_option linter.unusedSimpArgs false
set_option linter.unusedVariables false
namespace Go.Proofs.YtbhclhgljnoioaaDoor
open Ai
/-! ### Functions that write, told by what they do -/
noncomputable def pick (g : FuncId) (R : List V → H → V → H → Prop) (a : List V) (h : H) : Option (V × H) := open Classical in if e : ∃ p : V × H, Hp.CompI tabx told g a h p.1 p.2 ∧ R a h p.1 p.2 then some e.choose else none
theorem pick_tells {g : FuncId} {R : List V → H → V → H → Prop} : ∀ a h v h', pick g R a h = some (v, h') → Hp.CompI tabx told g a h v h' := fun a h v h' e => by
  unfold pick at e
  split at e
  · rename_i hp
    have hs := hp.choose_spec
    simp only [Option.some.injEq] at e
    rw [e] at hs
    exact hs.1
  · cases e
theorem pick_spec {g : FuncId} {R : List V → H → V → H → Prop} {a : List V} {h : H} {v : V} {h' : H} (hc : Hp.CompI tabx told g a h v h') (hr : R a h v h') : ∃ v h', pick g R a h = some (v, h') ∧ R a h v h' := by
  have hp : ∃ p : V × H, Hp.CompI tabx told g a h p.1 p.2 ∧ R a h p.1 p.2 := ⟨(v, h'), hc, hr⟩
  exact ⟨hp.choose.1, hp.choose.2, dif_pos hp, hp.choose_spec.2⟩
theorem compI_ex {xf : FuncId → List V → Option V} {xh : FuncId → List V → H → Option (V × H)} {kz : Nat → List Nat} (hx : Tells tabx told xf) (hy : Hp.TellsI tabx told xh) {g : FuncId} {fn : AFunc} {args : List V} {h0 : H} {Q : V → H → Prop} (ht : tabx g = some fn) (hn : args.length ≤ fn.n)
    (h : Hp.M xf xh kz (.code fn.body) [] (St.init gl0 fn.depth args h0) (fun ex st => ∃ v h', Hp.FinI fn.res v h' ex st ∧ Q v h')) : ∃ v h', Hp.CompI tabx told g args h0 v h' ∧ Q v h' := by
  obtain ⟨f, ex, st', e, v, h', hf, q⟩ := h
  refine ⟨v, h', fun gl hok => ?_, q⟩
  have hgl : gl = gl0 := hok
  subst hgl
  obtain ⟨he, hl⟩ := hf
  obtain ⟨ex1, st1, f1, _, _, hr, hev⟩ := Hp.runK_ev hx hy f f (Nat.le_refl _) _ _ _ _ _ hok e
  simp only at hev
  have : ex1 = ex ∧ st1 = st' := by
    match f1, hr with
    | 0, hr => simp [Hp.runK] at hr
    | f1 + 1, hr => simp only [Hp.runK, Option.some.injEq, Prod.mk.injEq] at hr; exact hr
  obtain ⟨rfl, rfl⟩ := this
  have hl' : leave fn false h0 st1 = some (v, h') := by
    unfold leave
    cases hv : resV st1 fn.res with
    | none => rw [hv] at hl; cases hl
    | some vs =>
      rw [hv] at hl
      simp only [Option.map_some, Option.some.injEq] at hl
      simp only [cond_false, hl]
  exact .fn ht hn hev he hl'
/-! ### The tokens, and where one stands -/
def srcC (ts : List Tok) (a e : Nat) : Ai.Obj := .cells 41 [.sl (ts.flatMap Tok.cells) ts.length .no, .i .i64 a, .i .i64 e, .b true]
def SO (h : H) (id : Nat) (ts : List Tok) (e a : Nat) : Prop := al h.objs id = some (srcC ts a e) ∧ a ≤ ts.length ∧ ts.length ≤ 1048576 ∧ ∀ t ∈ ts, 1 ≤ t.kind
def setAt (h : H) (id : Nat) (ts : List Tok) (e a : Nat) : H := ⟨h.next, alSet h.objs id (srcC ts a e), h.nt, h.tips⟩
def tokAt (ts : List Tok) (e a : Nat) : Tok := (ts[a]?).getD ⟨0, [], e⟩
theorem SO.set {h : H} {id : Nat} {ts : List Tok} {e a : Nat} (ho : SO h id ts e a) {b : Nat} (hb : b ≤ ts.length) : SO (setAt h id ts e b) id ts e b :=
  ⟨al_alSet _ _ _, hb, ho.2.2⟩
theorem SO.uniq {h : H} {id : Nat} {ts : List Tok} {e a b : Nat} (h1 : SO h id ts e a) (h2 : SO h id ts e b) : a = b := by
  have := h1.1.symm.trans h2.1
  simp only [srcC, Option.some.injEq, Ai.Obj.cells.injEq, List.cons.injEq, V.i.injEq] at this
  omega
theorem tok_at {ts : List Tok} {i : Nat} {t : Tok} (h : ts[i]? = some t) : ((ts.flatMap Tok.cells).drop (i * 3)).take 3 = t.cells := by
  have hi := (List.getElem?_eq_some_iff.1 h).1
  have e : ts = ts.take i ++ t :: ts.drop (i + 1) := by
    have := (List.getElem?_eq_some_iff.1 h).2
    rw [← this, List.getElem_cons_drop, List.take_append_drop]
  have := tok_drop (ts.take i) (t :: ts.drop (i + 1))
  rw [← e, List.length_take, Nat.min_eq_left (by omega)] at this
  rw [this]; rfl
section
variable (ts : List Tok) (e id : Nat)
def R_ahead (a : List V) (h : H) (v : V) (h' : H) : Prop := ∀ k at_ : Nat, a = [.p id 0, .i .i64 (k : Nat)] → k ≤ 1 → SO h id ts e at_ → v = .agg (tokAt ts e (at_ + k)).cells ∧ h' = h
theorem UH50 {xf : FuncId → List V → Option V} {xh : FuncId → List V → H → Option (V × H)} {kz : Nat → List Nat} {k : List Fr} {st : St} {Q : AEx → St → Prop} : Hp.M xf xh kz (.code B50) k st Q = Hp.M xf xh kz (.code (.seq (.reg [⟨some 4, .lalloc [(.i .i64 0), (.s []), (.i .i64 0)] [4], none⟩])
  (.seq (.seq (.reg [⟨some 5, .mov (.t 0), none⟩,
      ⟨some 6, .eq false .ptr (.t 5) (.k .nilp), none⟩,
      ⟨some 7, .mov (.t 6), none⟩,
      ⟨some 8, .mov (.t 1), some (7, false)⟩,
      ⟨some 9, .mov (.t 0), some (7, false)⟩,
      ⟨some 10, .nilck (.t 9), some (7, false)⟩,
      ⟨some 11, .faddr 0 (.t 10), some (7, false)⟩,
      ⟨some 12, .load false 1 (.t 11), some (7, false)⟩,
      ⟨some 13, .len .slice (.t 12), some (7, false)⟩,
      ⟨some 14, .mov (.t 0), some (7, false)⟩,
      ⟨some 15, .nilck (.t 14), some (7, false)⟩,
      ⟨some 16, .faddr 1 (.t 15), some (7, false)⟩,
      ⟨some 17, .load false 1 (.t 16), some (7, false)⟩,
      ⟨some 18, .bin .sub (.t 13) (.t 17), some (7, false)⟩,
      ⟨some 19, .bin .sub (.t 18) (.k (.i .i64 1)), some (7, false)⟩,
      ⟨some 20, .bin .gtr (.t 8) (.t 19), some (7, false)⟩,
      ⟨some 21, .pick (.t 7) (.k (.b true)) (.t 20), none⟩])
   (.cond (.t 21)
    (.seq (.seq (.reg [⟨some 22, .mov (.t 0), none⟩,
        ⟨some 23, .eq false .ptr (.t 22) (.k .nilp), none⟩])
     (.cond (.t 23)
      (.seq (.reg [⟨some 24, .build [(.i .i64 0), (.s []), (.i .i64 0)] [], none⟩,
         ⟨none, .store 3 (.t 4) (.t 24), none⟩])
      .ret)
      .skip))
    (.seq (.reg [⟨some 25, .mov (.t 0), none⟩,
       ⟨some 26, .nilck (.t 25), none⟩,
       ⟨some 27, .faddr 2 (.t 26), none⟩,
       ⟨some 28, .load false 1 (.t 27), none⟩,
       ⟨some 29, .build [(.i .i64 0), (.s []), (.i .i64 0)] [(2, 1, (.t 28))], none⟩,
       ⟨none, .store 3 (.t 4) (.t 29), none⟩])
    .ret))
    .skip))
  (.seq (.reg [⟨some 30, .mov (.t 0), none⟩,
     ⟨some 31, .nilck (.t 30), none⟩,
     ⟨some 32, .faddr 0 (.t 31), none⟩,
     ⟨some 33, .load false 1 (.t 32), none⟩,
     ⟨some 34, .mov (.t 0), none⟩,
     ⟨some 35, .nilck (.t 34), none⟩,
     ⟨some 36, .faddr 1 (.t 35), none⟩,
     ⟨some 37, .load false 1 (.t 36), none⟩,
     ⟨some 38, .mov (.t 1), none⟩,
     ⟨some 39, .bin .add (.t 37) (.t 38), none⟩,
     ⟨some 40, .iaddr (.slice 3) (.t 33) (.t 39), none⟩,
     ⟨some 41, .load true 3 (.t 40), none⟩,
     ⟨none, .store 3 (.t 4) (.t 41), none⟩])
  .ret)))) k st Q := rfl
def kz50 (_ : Nat) : List Nat := []
theorem w_ahead (nx : Nat) (obs : List (Nat × Ai.Obj)) (nt : Nat) (tips : List (Nat × (Nat × TypeId))) (k at_ : Nat) (hk : k ≤ 1) (ho : SO ⟨nx, obs, nt, tips⟩ id ts e at_) (gl : Nat → List V) :
    Hp.M noX noY (kz50) (.code B50) [] (St.init gl 6 [.p id 0, .i .i64 (k : Nat)] ⟨nx, obs, nt, tips⟩) (Hp.FinI [.cell 4 true 3] (.agg (tokAt ts e (at_ + k)).cells) ⟨nx, obs, nt, tips⟩) := by
  rw [UH50]
  obtain ⟨h1, h2, h3, _⟩ := ho
  simp only [srcC] at h1
  have w1 : wr .i64 ((ts.length : Int) - (at_ : Int)) = (ts.length : Int) - (at_ : Int) := by rw [wr64] <;> omega
  have w2 : wr .i64 ((ts.length : Int) - (at_ : Int) - 1) = (ts.length : Int) - (at_ : Int) - 1 := by rw [wr64] <;> omega
  have w3 : wr .i64 ((at_ : Int) + (k : Int)) = ((at_ + k : Nat) : Int) := by rw [wr64] <;> omega
  have hc := toks_len ts
  by_cases hl : at_ + k < ts.length
  · have e1 : decide ((ts.length : Int) - (at_ : Int) - 1 < (k : Int)) = false := decide_eq_false (by omega)
    have hg : ts[at_ + k]? = some ts[at_ + k] := List.getElem?_eq_getElem hl
    have ht := tok_at hg
    have g2 : (at_ + k + 1) * 3 ≤ ts.length * 3 := by omega
    have et : tokAt ts e (at_ + k) = ts[at_ + k] := by unfold tokAt; rw [hg]; rfl
    rw [et]
    simp only [Tok.cells] at ht
    simp only [h1, w1, w2, e1, w3, hl, g2, hc, rd_ip, ht, Tok.cells, go_sem, ne_eq, not_false_eq_true, reduceIte, Nat.reduceMul, Nat.reduceAdd, Nat.reduceSub, Nat.reduceEqDiff, Nat.reduceLeDiff, Nat.reduceLT, List.take_succ_cons, List.take_zero, List.drop_succ_cons, List.cons_append]
  · have e1 : decide ((ts.length : Int) - (at_ : Int) - 1 < (k : Int)) = true := decide_eq_true (by omega)
    have et : tokAt ts e (at_ + k) = ⟨0, [], e⟩ := by unfold tokAt; rw [List.getElem?_eq_none (by omega)]; rfl
    rw [et]
    simp only [h1, w1, w2, e1, Tok.cells, Int.cast_ofNat_Int, go_sem, ne_eq, not_false_eq_true, reduceIte, Nat.reduceMul, Nat.reduceAdd, Nat.reduceSub, Nat.reduceEqDiff, Nat.reduceLeDiff, Nat.reduceLT, List.take_succ_cons, List.take_zero, List.drop_succ_cons, List.cons_append]
theorem ahead_eq {h : H} {k at_ : Nat} (hk : k ≤ 1) (ho : SO h id ts e at_) : pick 50 (R_ahead ts e id) [.p id 0, .i .i64 (k : Nat)] h = some (.agg (tokAt ts e (at_ + k)).cells, h) := by
  obtain ⟨nx, obs, nt, tips⟩ := h
  have hc : Hp.CompI tabx told 50 [.p id 0, .i .i64 (k : Nat)] ⟨nx, obs, nt, tips⟩ (.agg (tokAt ts e (at_ + k)).cells) ⟨nx, obs, nt, tips⟩ := Hp.compI_of tells_noX tells_noY (fn := af50) rfl (Nat.le_of_ble_eq_true rfl) fun gl => w_ahead ts e id nx obs nt tips k at_ hk ho gl
  obtain ⟨v, h', e1, r⟩ := pick_spec (R := R_ahead ts e id) hc (by
    intro k' at' e1 hk' ho'
    simp only [List.cons.injEq, V.i.injEq, true_and, and_true] at e1
    have e1 : k = k' := by omega
    subst e1
    rw [ho.uniq ho']; exact ⟨rfl, rfl⟩)
  obtain ⟨rfl, rfl⟩ := r k at_ rfl hk ho
  exact e1
noncomputable def Y_peek := ys [(50, pick 50 (R_ahead ts e id))]
theorem t_peek : Hp.TellsI tabx told (Y_peek ts e id) := itells_cons pick_tells itells_nil
def R_peek (a : List V) (h : H) (v : V) (h' : H) : Prop := ∀ at_ : Nat, a = [.p id 0] → SO h id ts e at_ → v = .agg (tokAt ts e at_).cells ∧ h' = h
theorem UH23 {xf : FuncId → List V → Option V} {xh : FuncId → List V → H → Option (V × H)} {kz : Nat → List Nat} {k : List Fr} {st : St} {Q : AEx → St → Prop} : Hp.M xf xh kz (.code B23) k st Q = Hp.M xf xh kz (.code (.seq (.reg [⟨some 2, .lalloc [(.i .i64 0), (.s []), (.i .i64 0)] [2], none⟩])
  (.seq (.reg [⟨some 3, .mov (.t 0), none⟩,
     ⟨some 4, .call false 50 [(.t 3), (.k (.i .i64 0))], none⟩,
     ⟨none, .store 3 (.t 2) (.t 4), none⟩])
  .ret))) k st Q := rfl
def kz23 (_ : Nat) : List Nat := []
theorem peek_eq {h : H} {at_ : Nat} (ho : SO h id ts e at_) : pick 23 (R_peek ts e id) [.p id 0] h = some (.agg (tokAt ts e at_).cells, h) := by
  obtain ⟨nx, obs, nt, tips⟩ := h
  have ha := ahead_eq ts e id (k := 0) (Nat.zero_le _) ho
  have hc : Hp.CompI tabx told 23 [.p id 0] ⟨nx, obs, nt, tips⟩ (.agg (tokAt ts e at_).cells) ⟨nx, obs, nt, tips⟩ := Hp.compI_of tells_noX (t_peek ts e id) (fn := af23) (kz := kz23) rfl (Nat.le_of_ble_eq_true rfl) fun gl => by
    show Hp.M _ _ _ (.code B23) _ (St.init gl 3 _ _) (Hp.FinI [.cell 2 true 3] _ _)
    rw [UH23]
    simp only [Nat.add_zero, Int.cast_ofNat_Int, Tok.cells] at ha
    simp only [Y_peek, ys_hit, ha, Tok.cells, go_sem, ne_eq, not_false_eq_true, reduceIte, Nat.reduceMul, Nat.reduceAdd, Nat.reduceSub, Nat.reduceEqDiff, Nat.reduceLeDiff, Nat.reduceLT, List.take_succ_cons, List.take_zero, List.drop_succ_cons, List.cons_append]
  obtain ⟨v, h', e1, r⟩ := pick_spec (R := R_peek ts e id) hc (by
    intro at' e1 ho'
    rw [ho.uniq ho']; exact ⟨rfl, rfl⟩)
  obtain ⟨rfl, rfl⟩ := r at_ rfl ho
  exact e1
noncomputable def Y_take := ys [(23, pick 23 (R_peek ts e id))]
theorem t_take : Hp.TellsI tabx told (Y_take ts e id) := itells_cons pick_tells itells_nil
theorem tok_kind {h : H} {at_ : Nat} (ho : SO h id ts e at_) (hl : at_ < ts.length) : 1 ≤ (tokAt ts e at_).kind := by
  unfold tokAt
  rw [List.getElem?_eq_getElem hl]
  exact ho.2.2.2 _ (List.getElem_mem _)
def R_take (a : List V) (h : H) (v : V) (h' : H) : Prop := ∀ at_ : Nat, a = [.p id 0] → SO h id ts e at_ → at_ < ts.length → v = .agg (tokAt ts e at_).cells ∧ h' = setAt h id ts e (at_ + 1)
theorem UH24 {xf : FuncId → List V → Option V} {xh : FuncId → List V → H → Option (V × H)} {kz : Nat → List Nat} {k : List Fr} {st : St} {Q : AEx → St → Prop} : Hp.M xf xh kz (.code B24) k st Q = Hp.M xf xh kz (.code (.seq (.reg [⟨some 2, .lalloc [(.i .i64 0), (.s []), (.i .i64 0)] [2], none⟩])
  (.seq (.reg [⟨some 4, .mov (.t 0), none⟩,
     ⟨some 5, .call false 23 [(.t 4)], none⟩,
     ⟨some 3, .lalloc [(.i .i64 0), (.s []), (.i .i64 0)] [3, 6], none⟩,
     ⟨none, .store 3 (.t 3) (.t 5), none⟩])
  (.seq (.seq (.reg [⟨some 6, .faddr 0 (.t 3), none⟩,
      ⟨some 7, .load false 1 (.t 6), none⟩,
      ⟨some 8, .bin .neq (.t 7) (.k (.i .i64 0)), none⟩])
   (.cond (.t 8)
    (.reg [⟨some 9, .mov (.t 0), none⟩,
      ⟨some 10, .nilck (.t 9), none⟩,
      ⟨some 11, .faddr 1 (.t 10), none⟩,
      ⟨some 12, .load false 1 (.t 11), none⟩,
      ⟨some 13, .bin .add (.t 12) (.k (.i .i64 1)), none⟩,
      ⟨some 14, .nilck (.t 9), none⟩,
      ⟨some 15, .faddr 1 (.t 14), none⟩,
      ⟨none, .store 1 (.t 15) (.t 13), none⟩])
    .skip))
  (.seq (.reg [⟨some 16, .load true 3 (.t 3), none⟩,
     ⟨none, .store 3 (.t 2) (.t 16), none⟩])
  .ret))))) k st Q := rfl
def kz24 (_ : Nat) : List Nat := []
theorem take_eq {h : H} {at_ : Nat} (ho : SO h id ts e at_) (hl : at_ < ts.length) : pick 24 (R_take ts e id) [.p id 0] h = some (.agg (tokAt ts e at_).cells, setAt h id ts e (at_ + 1)) := by
  obtain ⟨nx, obs, nt, tips⟩ := h
  have ha := peek_eq ts e id ho
  have hk := tok_kind ts e id ho hl
  obtain ⟨h1, h2, h3, _⟩ := ho
  have hc : Hp.CompI tabx told 24 [.p id 0] ⟨nx, obs, nt, tips⟩ (.agg (tokAt ts e at_).cells) (setAt ⟨nx, obs, nt, tips⟩ id ts e (at_ + 1)) := Hp.compI_of tells_noX (t_take ts e id) (fn := af24) (kz := kz24) rfl (Nat.le_of_ble_eq_true rfl) fun gl => by
    show Hp.M _ _ _ (.code B24) _ (St.init gl 5 _ _) (Hp.FinI [.cell 2 true 3] _ _)
    rw [UH24]
    have e1 : decide (((tokAt ts e at_).kind : Int) = 0) = false := decide_eq_false (by omega)
    have w1 : wr .i64 ((at_ : Int) + 1) = ((at_ + 1 : Nat) : Int) := by rw [wr64] <;> omega
    simp only [Tok.cells] at ha
    simp only [srcC] at h1
    simp only [Y_take, ys_hit, ha, h1, e1, w1, Tok.cells, setAt, srcC, splice, go_sem, ne_eq, not_false_eq_true, reduceIte, Nat.reduceMul, Nat.reduceAdd, Nat.reduceSub, Nat.reduceEqDiff, Nat.reduceLeDiff, Nat.reduceLT, List.take_succ_cons, List.take_zero, List.drop_succ_cons, List.cons_append]
  obtain ⟨v, h', e1, r⟩ := pick_spec (R := R_take ts e id) hc (by
    intro at' e1 ho' _
    rw [SO.uniq ⟨h1, h2, h3, ‹_›⟩ ho']; exact ⟨rfl, rfl⟩)
  obtain ⟨rfl, rfl⟩ := r at_ rfl ⟨h1, h2, h3, ‹_›⟩ hl
  exact e1
end
end Go.Proofs.YtbhclhgljnoioaaDoor
