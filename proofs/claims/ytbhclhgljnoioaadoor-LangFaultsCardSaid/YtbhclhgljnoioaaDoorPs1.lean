/- lang: what comes next. -/
import Derived.Test.YtbhclhgljnoioaaDoorPs0
set_option linter.unusedSimpArgs false
set_option linter.unusedVariables false
namespace Go.Proofs.YtbhclhgljnoioaaDoor
open Ai
def isT (ts : List Tok) (e a : Nat) (tx : List UInt8) : Bool := decide ((tokAt ts e a).kind = 4) && strEq (tokAt ts e a).text tx
def isW (ts : List Tok) (e a : Nat) (tx : List UInt8) : Bool := decide ((tokAt ts e a).kind = 1) && strEq (tokAt ts e a).text tx
def isF (ts : List Tok) (e a : Nat) : Bool := decide ((tokAt ts e a).kind = 1) && isT ts e (a + 1) [61]
theorem tokAt_lt {ts : List Tok} {e a : Nat} (h : (tokAt ts e a).kind ≠ 0) : a < ts.length := by
  rcases Nat.lt_or_ge a ts.length with h1 | h1
  · exact h1
  · unfold tokAt at h; rw [List.getElem?_eq_none h1] at h; exact absurd rfl h
theorem isT_lt {ts : List Tok} {e a : Nat} {tx : List UInt8} (h : isT ts e a tx = true) : a < ts.length := by
  unfold isT at h
  rw [Bool.and_eq_true, decide_eq_true_eq] at h
  exact tokAt_lt (e := e) (by omega)
theorem isW_lt {ts : List Tok} {e a : Nat} {tx : List UInt8} (h : isW ts e a tx = true) : a < ts.length := by
  unfold isW at h
  rw [Bool.and_eq_true, decide_eq_true_eq] at h
  exact tokAt_lt (e := e) (by omega)
theorem kd (n k : Nat) : decide ((n : Int) = (k : Int)) = decide (n = k) := decide_eq_decide.2 Int.ofNat_inj
section
variable (ts : List Tok) (e id : Nat)
noncomputable def Y_is := ys [(23, pick 23 (R_peek ts e id)), (24, pick 24 (R_take ts e id))]
theorem t_is : Hp.TellsI tabx told (Y_is ts e id) := itells_cons pick_tells (itells_cons pick_tells itells_nil)
def R_is (a : List V) (h : H) (v : V) (h' : H) : Prop := ∀ (at_ : Nat) (tx : List UInt8), a = [.p id 0, .i .i64 4, .s tx] → SO h id ts e at_ → v = .b (isT ts e at_ tx) ∧ h' = bif isT ts e at_ tx then setAt h id ts e (at_ + 1) else h
theorem UH25 {xf : FuncId → List V → Option V} {xh : FuncId → List V → H → Option (V × H)} {kz : Nat → List Nat} {k : List Fr} {st : St} {Q : AEx → St → Prop} : Hp.M xf xh kz (.code B25) k st Q = Hp.M xf xh kz (.code (.seq (.reg [⟨some 6, .mov (.k (.b false)), none⟩])
  (.seq (.reg [⟨some 8, .mov (.t 0), none⟩,
     ⟨some 9, .call false 23 [(.t 8)], none⟩,
     ⟨some 7, .lalloc [(.i .i64 0), (.s []), (.i .i64 0)] [7, 10, 15], none⟩,
     ⟨none, .store 3 (.t 7) (.t 9), none⟩])
  (.seq (.seq (.reg [⟨some 10, .faddr 0 (.t 7), none⟩,
      ⟨some 11, .load false 1 (.t 10), none⟩,
      ⟨some 12, .mov (.t 1), none⟩,
      ⟨some 13, .bin .neq (.t 11) (.t 12), none⟩,
      ⟨some 14, .mov (.t 13), none⟩,
      ⟨some 15, .faddr 1 (.t 7), some (14, false)⟩,
      ⟨some 16, .load false 1 (.t 15), some (14, false)⟩,
      ⟨some 17, .mov (.t 2), some (14, false)⟩,
      ⟨some 18, .bin .neq (.t 16) (.t 17), some (14, false)⟩,
      ⟨some 19, .pick (.t 14) (.k (.b true)) (.t 18), none⟩,
      ⟨some 20, .mov (.t 19), none⟩,
      ⟨some 21, .mov (.t 1), some (20, false)⟩,
      ⟨some 22, .bin .eql (.t 21) (.k (.i .i64 0)), some (20, false)⟩,
      ⟨some 23, .pick (.t 20) (.k (.b true)) (.t 22), none⟩])
   (.cond (.t 23)
    (.seq (.reg [⟨some 6, .mov (.k (.b false)), none⟩])
    .ret)
    .skip))
  (.seq (.reg [⟨some 24, .mov (.t 0), none⟩,
     ⟨some 25, .call false 24 [(.t 24)], none⟩])
  (.seq (.reg [⟨some 6, .mov (.k (.b true)), none⟩])
  .ret)))))) k st Q := rfl
def kz25 (_ : Nat) : List Nat := []
theorem is_eq {h : H} {at_ : Nat} (ho : SO h id ts e at_) (tx : List UInt8) : pick 25 (R_is ts e id) [.p id 0, .i .i64 4, .s tx] h = some (.b (isT ts e at_ tx), bif isT ts e at_ tx then setAt h id ts e (at_ + 1) else h) := by
  obtain ⟨nx, obs, nt, tips⟩ := h
  have ha := peek_eq ts e id ho
  have hc : Hp.CompI tabx told 25 [.p id 0, .i .i64 4, .s tx] ⟨nx, obs, nt, tips⟩ (.b (isT ts e at_ tx)) (bif isT ts e at_ tx then setAt ⟨nx, obs, nt, tips⟩ id ts e (at_ + 1) else ⟨nx, obs, nt, tips⟩) := Hp.compI_of tells_noX (t_is ts e id) (fn := af25) (kz := kz25) rfl (Nat.le_of_ble_eq_true rfl) fun gl => by
    show Hp.M _ _ _ (.code B25) _ (St.init gl 5 _ _) (Hp.FinI [.tmp 6] _ _)
    rw [UH25]
    have e1 := kd (tokAt ts e at_).kind 4
    have e0 : decide ((4 : Int) = 0) = false := by decide
    simp only [Int.cast_ofNat_Int] at e1
    simp only [Tok.cells] at ha
    by_cases hk : (tokAt ts e at_).kind = 4
    · have e2 : decide ((tokAt ts e at_).kind = 4) = true := decide_eq_true hk
      have ht := take_eq ts e id ho (tokAt_lt (e := e) (by omega))
      simp only [Tok.cells] at ht
      cases hs : strEq (tokAt ts e at_).text tx with
      | true =>
        have hi : isT ts e at_ tx = true := by unfold isT; rw [e2, hs]; rfl
        rw [hi]
        simp only [Y_is, ys_hit, ys_miss, ha, e1, e2, e0, hs, ht, setAt, go_sem, ne_eq, not_false_eq_true, reduceIte, Nat.reduceMul, Nat.reduceAdd, Nat.reduceSub, Nat.reduceEqDiff, Nat.reduceLeDiff, Nat.reduceLT, List.take_succ_cons, List.take_zero, List.drop_succ_cons, List.cons_append]
      | false =>
        have hi : isT ts e at_ tx = false := by unfold isT; rw [e2, hs]; rfl
        rw [hi]
        simp only [Y_is, ys_hit, ys_miss, ha, e1, e2, e0, hs, go_sem, ne_eq, not_false_eq_true, reduceIte, Nat.reduceMul, Nat.reduceAdd, Nat.reduceSub, Nat.reduceEqDiff, Nat.reduceLeDiff, Nat.reduceLT, List.take_succ_cons, List.take_zero, List.drop_succ_cons, List.cons_append]
    · have e2 : decide ((tokAt ts e at_).kind = 4) = false := decide_eq_false hk
      have hi : isT ts e at_ tx = false := by unfold isT; rw [e2]; rfl
      rw [hi]
      simp only [Y_is, ys_hit, ys_miss, ha, e1, e2, go_sem, ne_eq, not_false_eq_true, reduceIte, Nat.reduceMul, Nat.reduceAdd, Nat.reduceSub, Nat.reduceEqDiff, Nat.reduceLeDiff, Nat.reduceLT, List.take_succ_cons, List.take_zero, List.drop_succ_cons, List.cons_append]
  obtain ⟨v, h', e1, r⟩ := pick_spec (R := R_is ts e id) hc (by
    intro at' tx' e1 ho'
    simp only [List.cons.injEq, V.s.injEq, true_and, and_true] at e1
    subst e1
    rw [ho.uniq ho']; exact ⟨rfl, rfl⟩)
  obtain ⟨rfl, rfl⟩ := r at_ tx rfl ho
  exact e1
def R_joins (a : List V) (h : H) (v : V) (h' : H) : Prop := ∀ (at_ : Nat) (tx : List UInt8), a = [.p id 0, .s tx] → SO h id ts e at_ → v = .b (isW ts e at_ tx) ∧ h' = h
theorem UH73 {xf : FuncId → List V → Option V} {xh : FuncId → List V → H → Option (V × H)} {kz : Nat → List Nat} {k : List Fr} {st : St} {Q : AEx → St → Prop} : Hp.M xf xh kz (.code B73) k st Q = Hp.M xf xh kz (.code (.seq (.reg [⟨some 4, .mov (.k (.b false)), none⟩])
  (.seq (.reg [⟨some 6, .mov (.t 0), none⟩,
     ⟨some 7, .call false 23 [(.t 6)], none⟩,
     ⟨some 5, .lalloc [(.i .i64 0), (.s []), (.i .i64 0)] [5, 8, 12], none⟩,
     ⟨none, .store 3 (.t 5) (.t 7), none⟩])
  (.seq (.reg [⟨some 8, .faddr 0 (.t 5), none⟩,
     ⟨some 9, .load false 1 (.t 8), none⟩,
     ⟨some 10, .bin .eql (.t 9) (.k (.i .i64 1)), none⟩,
     ⟨some 11, .mov (.t 10), none⟩,
     ⟨some 12, .faddr 1 (.t 5), some (11, true)⟩,
     ⟨some 13, .load false 1 (.t 12), some (11, true)⟩,
     ⟨some 14, .mov (.t 1), some (11, true)⟩,
     ⟨some 15, .bin .eql (.t 13) (.t 14), some (11, true)⟩,
     ⟨some 16, .pick (.t 11) (.t 15) (.k (.b false)), none⟩,
     ⟨some 4, .mov (.t 16), none⟩])
  .ret)))) k st Q := rfl
def kz73 (_ : Nat) : List Nat := []
theorem joins_eq {h : H} {at_ : Nat} (ho : SO h id ts e at_) (tx : List UInt8) : pick 73 (R_joins ts e id) [.p id 0, .s tx] h = some (.b (isW ts e at_ tx), h) := by
  obtain ⟨nx, obs, nt, tips⟩ := h
  have ha := peek_eq ts e id ho
  have hc : Hp.CompI tabx told 73 [.p id 0, .s tx] ⟨nx, obs, nt, tips⟩ (.b (isW ts e at_ tx)) ⟨nx, obs, nt, tips⟩ := Hp.compI_of tells_noX (t_is ts e id) (fn := af73) (kz := kz73) rfl (Nat.le_of_ble_eq_true rfl) fun gl => by
    show Hp.M _ _ _ (.code B73) _ (St.init gl 5 _ _) (Hp.FinI [.tmp 4] _ _)
    rw [UH73]
    have e1 := kd (tokAt ts e at_).kind 1
    simp only [Int.cast_ofNat_Int] at e1
    simp only [Tok.cells] at ha
    by_cases hk : (tokAt ts e at_).kind = 1
    · have e2 : decide ((tokAt ts e at_).kind = 1) = true := decide_eq_true hk
      have hi : isW ts e at_ tx = strEq (tokAt ts e at_).text tx := by unfold isW; rw [e2]; rfl
      rw [hi]
      simp only [Y_is, ys_hit, ys_miss, ha, e1, e2, go_sem, ne_eq, not_false_eq_true, reduceIte, Nat.reduceMul, Nat.reduceAdd, Nat.reduceSub, Nat.reduceEqDiff, Nat.reduceLeDiff, Nat.reduceLT, List.take_succ_cons, List.take_zero, List.drop_succ_cons, List.cons_append]
    · have e2 : decide ((tokAt ts e at_).kind = 1) = false := decide_eq_false hk
      have hi : isW ts e at_ tx = false := by unfold isW; rw [e2]; rfl
      rw [hi]
      simp only [Y_is, ys_hit, ys_miss, ha, e1, e2, go_sem, ne_eq, not_false_eq_true, reduceIte, Nat.reduceMul, Nat.reduceAdd, Nat.reduceSub, Nat.reduceEqDiff, Nat.reduceLeDiff, Nat.reduceLT, List.take_succ_cons, List.take_zero, List.drop_succ_cons, List.cons_append]
  obtain ⟨v, h', e1, r⟩ := pick_spec (R := R_joins ts e id) hc (by
    intro at' tx' e1 ho'
    simp only [List.cons.injEq, V.s.injEq, true_and, and_true] at e1
    subst e1
    rw [ho.uniq ho']; exact ⟨rfl, rfl⟩)
  obtain ⟨rfl, rfl⟩ := r at_ tx rfl ho
  exact e1
noncomputable def Y_field := ys [(23, pick 23 (R_peek ts e id)), (50, pick 50 (R_ahead ts e id))]
theorem t_field : Hp.TellsI tabx told (Y_field ts e id) := itells_cons pick_tells (itells_cons pick_tells itells_nil)
def R_field (a : List V) (h : H) (v : V) (h' : H) : Prop := ∀ (at_ : Nat), a = [.p id 0] → SO h id ts e at_ → v = .b (isF ts e at_) ∧ h' = h
theorem UH95 {xf : FuncId → List V → Option V} {xh : FuncId → List V → H → Option (V × H)} {kz : Nat → List Nat} {k : List Fr} {st : St} {Q : AEx → St → Prop} : Hp.M xf xh kz (.code B95) k st Q = Hp.M xf xh kz (.code (.seq (.reg [⟨some 2, .mov (.k (.b false)), none⟩])
  (.seq (.reg [⟨some 4, .mov (.t 0), none⟩,
     ⟨some 5, .call false 50 [(.t 4), (.k (.i .i64 1))], none⟩,
     ⟨some 3, .lalloc [(.i .i64 0), (.s []), (.i .i64 0)] [3, 11, 16], none⟩,
     ⟨none, .store 3 (.t 3) (.t 5), none⟩])
  (.seq (.reg [⟨some 6, .mov (.t 0), none⟩,
     ⟨some 7, .call false 23 [(.t 6)], none⟩,
     ⟨some 8, .fld false 0 1 (.t 7), none⟩,
     ⟨some 9, .bin .eql (.t 8) (.k (.i .i64 1)), none⟩,
     ⟨some 10, .mov (.t 9), none⟩,
     ⟨some 11, .faddr 0 (.t 3), some (10, true)⟩,
     ⟨some 12, .load false 1 (.t 11), some (10, true)⟩,
     ⟨some 13, .bin .eql (.t 12) (.k (.i .i64 4)), some (10, true)⟩,
     ⟨some 14, .pick (.t 10) (.t 13) (.k (.b false)), none⟩,
     ⟨some 15, .mov (.t 14), none⟩,
     ⟨some 16, .faddr 1 (.t 3), some (15, true)⟩,
     ⟨some 17, .load false 1 (.t 16), some (15, true)⟩,
     ⟨some 18, .bin .eql (.t 17) (.k (.s [61])), some (15, true)⟩,
     ⟨some 19, .pick (.t 15) (.t 18) (.k (.b false)), none⟩,
     ⟨some 2, .mov (.t 19), none⟩])
  .ret)))) k st Q := rfl
def kz95 (_ : Nat) : List Nat := []
theorem field_eq {h : H} {at_ : Nat} (ho : SO h id ts e at_) : pick 95 (R_field ts e id) [.p id 0] h = some (.b (isF ts e at_), h) := by
  obtain ⟨nx, obs, nt, tips⟩ := h
  have ha := peek_eq ts e id ho
  have hb := ahead_eq ts e id (k := 1) (Nat.le_refl _) ho
  have hc : Hp.CompI tabx told 95 [.p id 0] ⟨nx, obs, nt, tips⟩ (.b (isF ts e at_)) ⟨nx, obs, nt, tips⟩ := Hp.compI_of tells_noX (t_field ts e id) (fn := af95) (kz := kz95) rfl (Nat.le_of_ble_eq_true rfl) fun gl => by
    show Hp.M _ _ _ (.code B95) _ (St.init gl 5 _ _) (Hp.FinI [.tmp 2] _ _)
    rw [UH95]
    have e1 := kd (tokAt ts e at_).kind 1
    have e3 := kd (tokAt ts e (at_ + 1)).kind 4
    simp only [Int.cast_ofNat_Int] at e1 e3
    simp only [Tok.cells, Int.cast_ofNat_Int] at ha hb
    by_cases hk : (tokAt ts e at_).kind = 1
    · have e2 : decide ((tokAt ts e at_).kind = 1) = true := decide_eq_true hk
      have hi : isF ts e at_ = isT ts e (at_ + 1) [61] := by unfold isF; rw [e2]; rfl
      rw [hi]
      by_cases hk2 : (tokAt ts e (at_ + 1)).kind = 4
      · have e4 : decide ((tokAt ts e (at_ + 1)).kind = 4) = true := decide_eq_true hk2
        have hi : isT ts e (at_ + 1) [61] = strEq (tokAt ts e (at_ + 1)).text [61] := by unfold isT; rw [e4]; rfl
        rw [hi]
        simp only [Y_field, ys_hit, ys_miss, ha, hb, e1, e2, e3, e4, go_sem, ne_eq, not_false_eq_true, reduceIte, Nat.reduceMul, Nat.reduceAdd, Nat.reduceSub, Nat.reduceEqDiff, Nat.reduceLeDiff, Nat.reduceLT, List.take_succ_cons, List.take_zero, List.drop_succ_cons, List.cons_append]
      · have e4 : decide ((tokAt ts e (at_ + 1)).kind = 4) = false := decide_eq_false hk2
        have hi : isT ts e (at_ + 1) [61] = false := by unfold isT; rw [e4]; rfl
        rw [hi]
        simp only [Y_field, ys_hit, ys_miss, ha, hb, e1, e2, e3, e4, go_sem, ne_eq, not_false_eq_true, reduceIte, Nat.reduceMul, Nat.reduceAdd, Nat.reduceSub, Nat.reduceEqDiff, Nat.reduceLeDiff, Nat.reduceLT, List.take_succ_cons, List.take_zero, List.drop_succ_cons, List.cons_append]
    · have e2 : decide ((tokAt ts e at_).kind = 1) = false := decide_eq_false hk
      have hi : isF ts e at_ = false := by unfold isF; rw [e2]; rfl
      rw [hi]
      simp only [Y_field, ys_hit, ys_miss, ha, hb, e1, e2, go_sem, ne_eq, not_false_eq_true, reduceIte, Nat.reduceMul, Nat.reduceAdd, Nat.reduceSub, Nat.reduceEqDiff, Nat.reduceLeDiff, Nat.reduceLT, List.take_succ_cons, List.take_zero, List.drop_succ_cons, List.cons_append]
  obtain ⟨v, h', e1, r⟩ := pick_spec (R := R_field ts e id) hc (by
    intro at' e1 ho'
    rw [ho.uniq ho']; exact ⟨rfl, rfl⟩)
  obtain ⟨rfl, rfl⟩ := r at_ rfl ho
  exact e1
def textV (ts : List Tok) (e a : Nat) : V := if (tokAt ts e a).kind = 2 then .tup [.s (tokAt ts e a).text, .i .i64 0] else .tup [.s [], .i .i64 192]
def R_text (a : List V) (h : H) (v : V) (h' : H) : Prop := ∀ (at_ : Nat), a = [.p id 0] → SO h id ts e at_ → v = textV ts e at_ ∧ h' = if (tokAt ts e at_).kind = 2 then setAt h id ts e (at_ + 1) else h
theorem UH96 {xf : FuncId → List V → Option V} {xh : FuncId → List V → H → Option (V × H)} {kz : Nat → List Nat} {k : List Fr} {st : St} {Q : AEx → St → Prop} : Hp.M xf xh kz (.code B96) k st Q = Hp.M xf xh kz (.code (.seq (.reg [⟨some 2, .mov (.k (.s [])), none⟩,
     ⟨some 3, .mov (.k (.i .i64 0)), none⟩])
  (.seq (.seq (.reg [⟨some 4, .mov (.t 0), none⟩,
      ⟨some 5, .call false 23 [(.t 4)], none⟩,
      ⟨some 6, .fld false 0 1 (.t 5), none⟩,
      ⟨some 7, .bin .neq (.t 6) (.k (.i .i64 2)), none⟩])
   (.cond (.t 7)
    (.seq (.reg [⟨some 2, .mov (.k (.s [])), none⟩,
       ⟨some 3, .mov (.k (.i .i64 192)), none⟩])
    .ret)
    .skip))
  (.seq (.reg [⟨some 8, .mov (.t 0), none⟩,
     ⟨some 9, .call false 24 [(.t 8)], none⟩,
     ⟨some 10, .fld false 1 1 (.t 9), none⟩,
     ⟨some 2, .mov (.t 10), none⟩,
     ⟨some 3, .mov (.k (.i .i64 0)), none⟩])
  .ret)))) k st Q := rfl
def kz96 (_ : Nat) : List Nat := []
theorem text_eq {h : H} {at_ : Nat} (ho : SO h id ts e at_) : pick 96 (R_text ts e id) [.p id 0] h = some (textV ts e at_, if (tokAt ts e at_).kind = 2 then setAt h id ts e (at_ + 1) else h) := by
  obtain ⟨nx, obs, nt, tips⟩ := h
  have ha := peek_eq ts e id ho
  have hc : Hp.CompI tabx told 96 [.p id 0] ⟨nx, obs, nt, tips⟩ (textV ts e at_) (if (tokAt ts e at_).kind = 2 then setAt ⟨nx, obs, nt, tips⟩ id ts e (at_ + 1) else ⟨nx, obs, nt, tips⟩) := Hp.compI_of tells_noX (t_is ts e id) (fn := af96) (kz := kz96) rfl (Nat.le_of_ble_eq_true rfl) fun gl => by
    show Hp.M _ _ _ (.code B96) _ (St.init gl 4 _ _) (Hp.FinI [.tmp 2, .tmp 3] _ _)
    rw [UH96]
    have e1 := kd (tokAt ts e at_).kind 2
    simp only [Int.cast_ofNat_Int] at e1
    simp only [Tok.cells] at ha
    by_cases hk : (tokAt ts e at_).kind = 2
    · have e2 : decide ((tokAt ts e at_).kind = 2) = true := decide_eq_true hk
      have ht := take_eq ts e id ho (tokAt_lt (e := e) (by omega))
      simp only [Tok.cells] at ht
      rw [textV, if_pos hk, if_pos hk]
      simp only [Y_is, ys_hit, ys_miss, ha, e1, e2, ht, setAt, go_sem, ne_eq, not_false_eq_true, reduceIte, Nat.reduceMul, Nat.reduceAdd, Nat.reduceSub, Nat.reduceEqDiff, Nat.reduceLeDiff, Nat.reduceLT, List.take_succ_cons, List.take_zero, List.drop_succ_cons, List.cons_append]
    · have e2 : decide ((tokAt ts e at_).kind = 2) = false := decide_eq_false hk
      rw [textV, if_neg hk, if_neg hk]
      simp only [Y_is, ys_hit, ys_miss, ha, e1, e2, go_sem, ne_eq, not_false_eq_true, reduceIte, Nat.reduceMul, Nat.reduceAdd, Nat.reduceSub, Nat.reduceEqDiff, Nat.reduceLeDiff, Nat.reduceLT, List.take_succ_cons, List.take_zero, List.drop_succ_cons, List.cons_append]
  obtain ⟨v, h', e1, r⟩ := pick_spec (R := R_text ts e id) hc (by
    intro at' e1 ho'
    rw [ho.uniq ho']; exact ⟨rfl, rfl⟩)
  obtain ⟨rfl, rfl⟩ := r at_ rfl ho
  exact e1
end
end Go.Proofs.YtbhclhgljnoioaaDoor
