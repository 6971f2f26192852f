/- strings.Builder, where nothing is written yet. -/
import Derived.Test.YtbhclhgljnoioaaDoorLg5
set_option linter.unusedSimpArgs false
set_option linter.unusedVariables false
namespace Go.Proofs.YtbhclhgljnoioaaDoor
open Ai
theorem w_NA_nil (nx : Nat) (obs : List (Nat × Ai.Obj)) (nt : Nat) (tips : List (Nat × (Nat × TypeId))) (c : Nat) (ho : oks c) (hc : 128 ≤ c) (gl : Nat → List V) :
    Hp.M noX noY (kz83) (.code B83) [] (St.init gl 7 [.sl [] 0 .nil, .i .i32 c] ⟨nx, obs, nt, tips⟩)
      (Hp.FinI [.tmp 4] (.sl ((enc c).map byteV) (enc c).length (.own (nt + 1))) ⟨nx, obs, nt + 2, (nt + 1, ((enc c).length, 5)) :: (nt, (0, 5)) :: tips⟩) := by
  rw [UH83]
  have n4 : 4 ≤ most := by unfold most; omega
  have hc2 : c ≤ 1114111 := by unfold oks at ho; omega
  have w0 : wr .u32 (c : Int) = (c : Int) := wru32 (by omega)
  have d1 : decide ((c : Int) ≤ 2047) = decide (c < 2048) := decide_eq_decide.2 (by omega)
  have r0 : c % 256 % 64 = c % 64 := by omega
  have r1 : c / 64 % 256 % 64 = c / 64 % 64 := by omega
  have r2 : c / 4096 % 256 % 64 = c / 4096 % 64 := by omega
  have a0 : c % 256 < 256 := Nat.mod_lt _ (by decide)
  have a1 : c / 64 % 256 < 256 := Nat.mod_lt _ (by decide)
  have a2 : c / 4096 % 256 < 256 := Nat.mod_lt _ (by decide)
  have m0 : c % 64 < 64 := Nat.mod_lt _ (by decide)
  have m1 : c / 64 % 64 < 64 := Nat.mod_lt _ (by decide)
  have m2 : c / 4096 % 64 < 64 := Nat.mod_lt _ (by decide)
  by_cases k2 : c < 2048
  · have e := enc2 hc k2
    have l : (enc c).length = 2 := by have := congrArg List.length e; simpa using this
    have n2 : 2 ≤ most := by unfold most; omega
    have f1 : decide (c < 2048) = true := by simpa using k2
    have q0 : c / 64 % 256 = c / 64 := by omega
    have q1 : c / 64 < 32 := by omega
    rw [e, l]
    simp only [w0, d1, f1, shf6, wru8, q0, q1, a0, r0, m0, n2, go_sem, ne_eq, not_false_eq_true, reduceIte, Nat.reduceMul, Nat.reduceAdd, Nat.reduceSub, Nat.reduceEqDiff, Nat.reduceLeDiff, Nat.reduceLT, List.take_succ_cons, List.take_zero, List.drop_succ_cons, List.cons_append]
  · have f1 : decide (c < 2048) = false := by simpa using k2
    by_cases k3 : c < 65536
    · have e := enc3 (by omega) k3
      have l : (enc c).length = 3 := by have := congrArg List.length e; simpa using this
      have n3 : 3 ≤ most := by unfold most; omega
      have q0 : c / 4096 % 256 = c / 4096 := by omega
      have q1 : c / 4096 < 16 := by omega
      rw [e, l]
      by_cases k4 : c < 55296
      · have f2 : decide ((c : Int) < 55296) = true := decide_eq_true (by omega)
        simp only [w0, d1, f1, f2, shf6, shf12, wru8, q0, q1, a0, a1, r0, r1, m0, m1, n3, go_sem, ne_eq, not_false_eq_true, reduceIte, Nat.reduceMul, Nat.reduceAdd, Nat.reduceSub, Nat.reduceEqDiff, Nat.reduceLeDiff, Nat.reduceLT, List.take_succ_cons, List.take_zero, List.drop_succ_cons, List.cons_append]
      · have f2 : decide ((c : Int) < 55296) = false := decide_eq_false (by omega)
        have f3 : decide ((57343 : Int) < (c : Int)) = true := decide_eq_true (by unfold oks at ho; omega)
        have f4 : decide ((c : Int) ≤ 65535) = true := decide_eq_true (by omega)
        simp only [w0, d1, f1, f2, f3, f4, shf6, shf12, wru8, q0, q1, a0, a1, r0, r1, m0, m1, n3, go_sem, ne_eq, not_false_eq_true, reduceIte, Nat.reduceMul, Nat.reduceAdd, Nat.reduceSub, Nat.reduceEqDiff, Nat.reduceLeDiff, Nat.reduceLT, List.take_succ_cons, List.take_zero, List.drop_succ_cons, List.cons_append]
    · have e := enc4 ho (by omega)
      have l : (enc c).length = 4 := by have := congrArg List.length e; simpa using this
      have q0 : c / 262144 % 256 = c / 262144 := by omega
      have q1 : c / 262144 < 8 := by omega
      have f2 : decide ((c : Int) < 55296) = false := decide_eq_false (by omega)
      have f3 : decide ((57343 : Int) < (c : Int)) = true := decide_eq_true (by omega)
      have f4 : decide ((c : Int) ≤ 65535) = false := decide_eq_false (by omega)
      have f5 : decide ((65535 : Int) < (c : Int)) = true := decide_eq_true (by omega)
      have f6 : decide ((c : Int) ≤ 1114111) = true := decide_eq_true (by omega)
      rw [e, l]
      simp only [w0, d1, f1, f2, f3, f4, f5, f6, shf6, shf12, shf18, wru8, q0, q1, a0, a1, a2, r0, r1, r2, m0, m1, m2, n4, go_sem, ne_eq, not_false_eq_true, reduceIte, Nat.reduceMul, Nat.reduceAdd, Nat.reduceSub, Nat.reduceEqDiff, Nat.reduceLeDiff, Nat.reduceLT, List.take_succ_cons, List.take_zero, List.drop_succ_cons, List.cons_append]

/-- Where the bytes go, and what becomes of the tokens, in a fresh builder. -/
def arT0 (c nt : Nat) (tips : List (Nat × (Nat × TypeId))) : List (Nat × (Nat × TypeId)) := if c < 128 then (nt + 1, ((enc c).length, 5)) :: (nt, (0, 5)) :: tips else (nt + 2, ((enc c).length, 5)) :: (nt + 1, (0, 5)) :: (nt, (0, 5)) :: tips
def arK (c nt : Nat) : Nat := if c < 128 then nt + 1 else nt + 2
def H_NA0 (a : List V) (h : H) : Option (V × H) := match a with
  | [.sl [] 0 .nil, .i .i32 (Int.ofNat c)] => if (c < 55296 ∨ (57343 < c ∧ c ≤ 1114111)) ∧ 128 ≤ c then
      some (.sl ((enc c).map byteV) (enc c).length (.own (h.nt + 1)), ⟨h.next, h.objs, h.nt + 2, (h.nt + 1, ((enc c).length, 5)) :: (h.nt, (0, 5)) :: h.tips⟩) else none
  | _ => none
theorem H_NA01 {c : Nat} {h : H} (hc : oks c) (h2 : 128 ≤ c) : H_NA0 [.sl [] 0 .nil, .i .i32 (c : Int)] h = some (.sl ((enc c).map byteV) (enc c).length (.own (h.nt + 1)), ⟨h.next, h.objs, h.nt + 2, (h.nt + 1, ((enc c).length, 5)) :: (h.nt, (0, 5)) :: h.tips⟩) := if_pos ⟨hc, h2⟩
theorem i_NA0 : ∀ a h v h', H_NA0 a h = some (v, h') → Hp.CompI tabx told 83 a h v h' := fun a h v h' e => by
  unfold H_NA0 at e
  split at e
  · rename_i c
    obtain ⟨nx, obs, nt, tips⟩ := h
    split at e
    · rename_i hc
      cases e
      exact Hp.compI_of tells_noX tells_noY (fn := af83) rfl (Nat.le_of_ble_eq_true rfl) fun gl => w_NA_nil nx obs nt tips c hc.1 hc.2 gl
    · cases e
  · cases e
def Y_AR0 := ys [(83, H_NA0)]
theorem t_AR0 : Hp.TellsI tabx told Y_AR0 := itells_cons i_NA0 itells_nil
theorem w_AR_nil (nx : Nat) (obs : List (Nat × Ai.Obj)) (nt : Nat) (tips : List (Nat × (Nat × TypeId))) (c : Nat) (ho : oks c) (gl : Nat → List V) :
    Hp.M noX Y_AR0 (kz63) (.code B63) [] (St.init gl 5 [.sl [] 0 .nil, .i .i32 c] ⟨nx, obs, nt, tips⟩)
      (Hp.FinI [.tmp 4] (.sl ((enc c).map byteV) (enc c).length (.own (arK c nt))) ⟨nx, obs, arK c nt + 1, arT0 c nt tips⟩) := by
  rw [UH63]
  have hc2 : c ≤ 1114111 := by unfold oks at ho; omega
  have w0 : wr .u32 (c : Int) = (c : Int) := wru32 (by omega)
  have d1 : decide ((c : Int) ≤ 127) = decide (c < 128) := decide_eq_decide.2 (by omega)
  by_cases k : c < 128
  · have e := enc1 k
    have l : (enc c).length = 1 := by have := congrArg List.length e; simpa using this
    have f1 : decide (c < 128) = true := by simpa using k
    have n1 : 1 ≤ most := by unfold most; omega
    have w1 : c % 256 = c := by omega
    rw [arK, arT0, if_pos k, if_pos k, e, l]
    simp only [w0, d1, f1, wru8, w1, n1, go_sem, ne_eq, not_false_eq_true, reduceIte, Nat.reduceMul, Nat.reduceAdd, Nat.reduceSub, Nat.reduceEqDiff, Nat.reduceLeDiff, Nat.reduceLT, List.take_succ_cons, List.take_zero, List.drop_succ_cons, List.cons_append]
  · have f1 : decide (c < 128) = false := by simpa using k
    have hna := H_NA01 (c := c) (h := ⟨nx, obs, nt + 1, (nt, (0, 5)) :: tips⟩) ho (by omega)
    rw [arK, arT0, if_neg k, if_neg k]
    simp only [w0, d1, f1, Y_AR0, ys_hit, hna, go_sem, ne_eq, not_false_eq_true, reduceIte, Nat.reduceMul, Nat.reduceAdd, Nat.reduceSub, Nat.reduceEqDiff, Nat.reduceLeDiff, Nat.reduceLT, List.take_succ_cons, List.take_zero, List.drop_succ_cons, List.cons_append]
def H_AR0 (a : List V) (h : H) : Option (V × H) := match a with
  | [.sl [] 0 .nil, .i .i32 (Int.ofNat c)] => if (c < 55296 ∨ (57343 < c ∧ c ≤ 1114111)) then
      some (.sl ((enc c).map byteV) (enc c).length (.own (arK c h.nt)), ⟨h.next, h.objs, arK c h.nt + 1, arT0 c h.nt h.tips⟩) else none
  | _ => none
theorem H_AR01 {c : Nat} {h : H} (hc : oks c) : H_AR0 [.sl [] 0 .nil, .i .i32 (c : Int)] h = some (.sl ((enc c).map byteV) (enc c).length (.own (arK c h.nt)), ⟨h.next, h.objs, arK c h.nt + 1, arT0 c h.nt h.tips⟩) := if_pos hc
theorem i_AR0 : ∀ a h v h', H_AR0 a h = some (v, h') → Hp.CompI tabx told 63 a h v h' := fun a h v h' e => by
  unfold H_AR0 at e
  split at e
  · rename_i c
    obtain ⟨nx, obs, nt, tips⟩ := h
    split at e
    · rename_i hc
      cases e
      exact Hp.compI_of tells_noX t_AR0 (fn := af63) rfl (Nat.le_of_ble_eq_true rfl) fun gl => w_AR_nil nx obs nt tips c hc gl
    · cases e
  · cases e
def Y_WR0 := ys [(62, H_cc), (63, H_AR0)]
theorem t_WR0 : Hp.TellsI tabx told Y_WR0 := itells_cons i_cc (itells_cons i_AR0 itells_nil)
theorem w_WR_nil (nx : Nat) (obs : List (Nat × Ai.Obj)) (nt : Nat) (tips : List (Nat × (Nat × TypeId))) (id : Nat) (c : Nat) (hoc : oks c) (ho : al obs id = some (Ai.Obj.cells 57 [.nilp, .sl [] 0 .nil])) (gl : Nat → List V) :
    Hp.M noX Y_WR0 (kz32) (.code B32) [] (St.init gl 5 [.p id 0, .i .i32 c] ⟨nx, obs, nt, tips⟩)
      (Hp.FinI [.tmp 4, .tmp 5] (.tup [.i .i64 (enc c).length, .nili]) ⟨nx, alSet obs id (.cells 57 [.p id 0, .sl ((enc c).map byteV) (enc c).length (.own (arK c nt))]), arK c nt + 1, arT0 c nt tips⟩) := by
  rw [UH32]
  have har := H_AR01 (c := c) (h := ⟨nx, alSet obs id (.cells 57 [.p id 0, .sl [] 0 .nil]), nt, tips⟩) hoc
  have hel := enc_len c
  have w1 : wr .i64 (((enc c).length : Int) - 0) = ((enc c).length : Int) := by rw [wr64] <;> omega
  simp only [Y_WR0, ys_hit, ys_miss, H_cc_new _ _ _ _ _ _ ho, har, w1, Int.natCast_zero, go_sem, ne_eq, not_false_eq_true, reduceIte, Nat.reduceMul, Nat.reduceAdd, Nat.reduceSub, Nat.reduceEqDiff, Nat.reduceLeDiff, Nat.reduceLT, List.take_succ_cons, List.take_zero, List.drop_succ_cons, List.cons_append]
noncomputable def H_WR0 (a : List V) (h : H) : Option (V × H) := match a with
  | [.p id 0, .i .i32 (Int.ofNat c)] => (match al h.objs id with
    | some (.cells ty [.nilp, .sl [] 0 .nil]) => if ty = 57 ∧ (c < 55296 ∨ (57343 < c ∧ c ≤ 1114111)) then
        some (.tup [.i .i64 (enc c).length, .nili], ⟨h.next, alSet h.objs id (.cells 57 [.p id 0, .sl ((enc c).map byteV) (enc c).length (.own (arK c h.nt))]), arK c h.nt + 1, arT0 c h.nt h.tips⟩) else none
    | _ => H_WR a h)
  | _ => none
theorem i_WR0 : ∀ a h v h', H_WR0 a h = some (v, h') → Hp.CompI tabx told 32 a h v h' := fun a h v h' e => by
  unfold H_WR0 at e
  split at e
  · rename_i id c
    split at e
    · rename_i ty ho
      obtain ⟨nx, obs, nt, tips⟩ := h
      split at e
      · rename_i hc
        obtain ⟨rfl, hc⟩ := hc
        cases e
        exact Hp.compI_of tells_noX t_WR0 (fn := af32) rfl (Nat.le_of_ble_eq_true rfl) fun gl => w_WR_nil nx obs nt tips id c hc ho gl
      · cases e
    · exact i_WR _ _ _ _ e
  · cases e
/-- A builder: fresh, or with bytes. -/
def BF (h : H) (id : Nat) (bs : List UInt8) : Prop := BI h id bs ∧ (bs = [] → al h.objs id = some (Ai.Obj.cells 57 [.nilp, .sl [] 0 .nil]))
theorem bf_new {h : H} {id : Nat} (h1 : al h.objs id = some (Ai.Obj.cells 57 [.nilp, .sl [] 0 .nil])) : BF h id [] := ⟨.inl ⟨rfl, h1⟩, fun _ => h1⟩
theorem enc_ne (c : Nat) : enc c ≠ [] := fun e => by have := (enc_len c).1; rw [e] at this; simp at this
theorem H_WB0 {h : H} {id : Nat} {bs : List UInt8} (hi : BF h id bs) (hm : bs.length + 1 ≤ most) (c : UInt8) : ∃ h', H_WB [.p id 0, .i .u8 (c.toNat : Int)] h = some (.nili, h') ∧ BF h' id (bs ++ [c]) ∧ h'.next = h.next := by
  obtain ⟨h', e1, e2, e3⟩ := H_WB1 hi.1 hm c
  exact ⟨h', e1, ⟨e2, fun e => by simp at e⟩, e3⟩
theorem H_WR01 {h : H} {id : Nat} {bs : List UInt8} (hi : BF h id bs) (hm : bs.length + 4 ≤ most) {c : Nat} (ho : oks c) :
    ∃ h', H_WR0 [.p id 0, .i .i32 (c : Int)] h = some (.tup [.i .i64 (enc c).length, .nili], h') ∧ BF h' id (bs ++ enc c) ∧ h'.next = h.next := by
  by_cases hb : bs = []
  · subst hb
    have h1 := hi.2 rfl
    have e : H_WR0 [.p id 0, .i .i32 (c : Int)] h = some (.tup [.i .i64 (enc c).length, .nili], ⟨h.next, alSet h.objs id (.cells 57 [.p id 0, .sl ((enc c).map byteV) (enc c).length (.own (arK c h.nt))]), arK c h.nt + 1, arT0 c h.nt h.tips⟩) := by
      show (match al h.objs id with
        | some (.cells ty [.nilp, .sl [] 0 .nil]) => _
        | _ => _) = _
      rw [h1]
      exact if_pos ⟨rfl, ho⟩
    refine ⟨_, e, ⟨.inr ⟨arK c h.nt, ?_, ?_, Nat.lt_succ_self _⟩, fun e => absurd e (by rw [List.nil_append]; exact enc_ne c)⟩, rfl⟩
    · show al (alSet h.objs id _) id = _
      rw [al_alSet, List.nil_append]
    · show al (arT0 c h.nt h.tips) (arK c h.nt) = _
      unfold arT0 arK
      split <;> simp [al]
  · obtain ⟨h', e1, e2, e3⟩ := H_WR1 hi.1 hb hm ho
    refine ⟨h', ?_, ⟨e2, fun e => absurd (List.append_eq_nil_iff.1 e).1 hb⟩, e3⟩
    rw [← e1]
    rcases hi.1 with ⟨hb', _⟩ | ⟨t, h1, h2, h3⟩
    · exact absurd hb' hb
    · show (match al h.objs id with
        | some (.cells ty [.nilp, .sl [] 0 .nil]) => _
        | _ => _) = _
      rw [h1]
/-! ### String -/
theorem w_BS_nil (nx : Nat) (obs : List (Nat × Ai.Obj)) (nt : Nat) (tips : List (Nat × (Nat × TypeId))) (id : Nat) (q : V) (ho : al obs id = some (Ai.Obj.cells 57 [q, .sl [] 0 .nil])) (gl : Nat → List V) :
    Hp.M noX noY (kz35) (.code B35) [] (St.init gl 4 [.p id 0] ⟨nx, obs, nt, tips⟩)
      (Hp.FinI [.tmp 2] (.s []) ⟨nx, obs, nt, tips⟩) := by
  rw [UH35]
  have h0 : 0 ≤ most := Nat.zero_le _
  simp only [ho, h0, go_sem, ne_eq, not_false_eq_true, reduceIte, Nat.reduceMul, Nat.reduceAdd, Nat.reduceSub, Nat.reduceEqDiff, Nat.reduceLeDiff, Nat.reduceLT, List.take_succ_cons, List.take_zero, List.drop_succ_cons, List.cons_append]
noncomputable def H_BS0 (a : List V) (h : H) : Option (V × H) := match a with
  | [.p id 0] => (match al h.objs id with
    | some (.cells ty [q, .sl [] 0 .nil]) => if ty = 57 then some (.s [], h) else none
    | _ => H_BS a h)
  | _ => none
theorem i_BS0 : ∀ a h v h', H_BS0 a h = some (v, h') → Hp.CompI tabx told 35 a h v h' := fun a h v h' e => by
  unfold H_BS0 at e
  split at e
  · rename_i id
    split at e
    · rename_i ty q ho
      obtain ⟨nx, obs, nt, tips⟩ := h
      split at e
      · rename_i hc
        subst hc
        cases e
        exact Hp.compI_of tells_noX tells_noY (fn := af35) rfl (Nat.le_of_ble_eq_true rfl) fun gl => w_BS_nil nx obs nt tips id q ho gl
      · cases e
    · exact i_BS _ _ _ _ e
  · cases e
theorem H_BS01 {h : H} {id : Nat} {bs : List UInt8} (hi : BF h id bs) (hm : bs.length ≤ most) : H_BS0 [.p id 0] h = some (.s bs, h) := by
  by_cases hb : bs = []
  · subst hb
    show (match al h.objs id with
      | some (.cells ty [q, .sl [] 0 .nil]) => _
      | _ => _) = _
    rw [hi.2 rfl]
    exact if_pos rfl
  · rw [← H_BS1 hi.1 hb hm]
    rcases hi.1 with ⟨hb', _⟩ | ⟨t, h1, h2, h3⟩
    · exact absurd hb' hb
    · show (match al h.objs id with
        | some (.cells ty [q, .sl [] 0 .nil]) => _
        | _ => _) = _
      rw [h1]
      cases bs with
      | nil => exact absurd rfl hb
      | cons a r => rfl
end Go.Proofs.YtbhclhgljnoioaaDoor
