/- strings.Builder: what its methods do. -/
import Derived.Test.YtbhclhgljnoioaaDoorLg0
set_option linter.unusedSimpArgs false
set_option linter.unusedVariables false
namespace Go.Proofs.YtbhclhgljnoioaaDoor
open Ai
def noX (_ : FuncId) (_ : List V) : Option V := none
theorem tells_noX : Tells tabx told noX := fun _ _ _ h => by cases h
def noY (_ : FuncId) (_ : List V) (_ : H) : Option (V × H) := none
theorem tells_noY : Hp.TellsI tabx told noY := fun _ _ _ _ _ h => by cases h

theorem UH62 {xf : FuncId → List V → Option V} {xh : FuncId → List V → H → Option (V × H)} {kz : Nat → List Nat} {k : List Fr} {st : St} {Q : AEx → St → Prop} : Hp.M xf xh kz (.code B62) k st Q = Hp.M xf xh kz (.code (.seq (.reg [⟨some 2, .mov (.t 0), none⟩,
     ⟨some 3, .nilck (.t 2), none⟩,
     ⟨some 4, .faddr 0 (.t 3), none⟩,
     ⟨some 5, .load false 1 (.t 4), none⟩,
     ⟨some 6, .eq false .ptr (.t 5) (.k .nilp), none⟩])
  (.cond (.t 6)
   (.reg [⟨some 7, .mov (.t 0), none⟩,
     ⟨some 8, .mov (.t 0), none⟩,
     ⟨some 9, .conv .uns (.t 8), none⟩,
     ⟨some 10, .noesc 82 (.t 9), none⟩,
     ⟨some 11, .conv (.toPtr 57 2) (.t 10), none⟩,
     ⟨some 12, .nilck (.t 7), none⟩,
     ⟨some 13, .faddr 0 (.t 12), none⟩,
     ⟨none, .store 1 (.t 13) (.t 11), none⟩])
   (.seq (.reg [⟨some 14, .mov (.t 0), none⟩,
      ⟨some 15, .nilck (.t 14), none⟩,
      ⟨some 16, .faddr 0 (.t 15), none⟩,
      ⟨some 17, .load false 1 (.t 16), none⟩,
      ⟨some 18, .mov (.t 0), none⟩,
      ⟨some 19, .eq true .ptr (.t 17) (.t 18), none⟩])
   (.cond (.t 19)
    .refuse
    .skip))))) k st Q := rfl
def kz62 (_ : Nat) : List Nat := []
theorem w_cc_new (nx : Nat) (obs : List (Nat × Ai.Obj)) (nt : Nat) (tips : List (Nat × (Nat × TypeId))) (id : Nat) (s : V) (ho : al obs id = some (Ai.Obj.cells 57 [.nilp, s])) (gl : Nat → List V) :
    Hp.M noX noY (kz62) (.code B62) [] (St.init gl 5 [.p id 0] ⟨nx, obs, nt, tips⟩)
      (Hp.FinI [] (.tup []) ⟨nx, alSet obs id (.cells 57 [.p id 0, s]), nt, tips⟩) := by
  rw [UH62]
  have hl : 0 < [V.nilp, s].length := by simp
  simp only [ho, go_sem, ne_eq, not_false_eq_true, reduceIte, Nat.reduceMul, Nat.reduceAdd, Nat.reduceSub, Nat.reduceEqDiff, Nat.reduceLeDiff, Nat.reduceLT, List.take_succ_cons, List.take_zero, List.drop_succ_cons, List.cons_append]
theorem w_cc_old (nx : Nat) (obs : List (Nat × Ai.Obj)) (nt : Nat) (tips : List (Nat × (Nat × TypeId))) (id : Nat) (s : V) (ho : al obs id = some (Ai.Obj.cells 57 [.p id 0, s])) (gl : Nat → List V) :
    Hp.M noX noY (kz62) (.code B62) [] (St.init gl 5 [.p id 0] ⟨nx, obs, nt, tips⟩)
      (Hp.FinI [] (.tup []) ⟨nx, obs, nt, tips⟩) := by
  rw [UH62]
  simp only [ho, go_sem, ne_eq, not_false_eq_true, reduceIte, Nat.reduceMul, Nat.reduceAdd, Nat.reduceSub, Nat.reduceEqDiff, Nat.reduceLeDiff, Nat.reduceLT, List.take_succ_cons, List.take_zero, List.drop_succ_cons, List.cons_append]

/-- copyCheck. -/
def H_cc (a : List V) (h : H) : Option (V × H) := match a with
  | [.p id 0] => match al h.objs id with
    | some (.cells ty [.nilp, s]) => if ty = 57 then some (.tup [], ⟨h.next, alSet h.objs id (.cells 57 [.p id 0, s]), h.nt, h.tips⟩) else none
    | some (.cells ty [.p i 0, s]) => if ty = 57 ∧ i = id then some (.tup [], h) else none
    | _ => none
  | _ => none
theorem i_cc : ∀ a h v h', H_cc a h = some (v, h') → Hp.CompI tabx told 62 a h v h' := fun a h v h' e => by
  unfold H_cc at e
  split at e
  · rename_i id
    obtain ⟨nx, obs, nt, tips⟩ := h
    simp only at e
    split at e
    · rename_i ty s ho
      split at e
      · rename_i hy
        subst hy
        cases e
        exact Hp.compI_of tells_noX tells_noY (fn := af62) rfl (Nat.le_of_ble_eq_true rfl) fun gl => w_cc_new nx obs nt tips id s ho gl
      · cases e
    · rename_i ty i s ho
      split at e
      · rename_i hy
        obtain ⟨rfl, rfl⟩ := hy
        cases e
        exact Hp.compI_of tells_noX tells_noY (fn := af62) rfl (Nat.le_of_ble_eq_true rfl) fun gl => w_cc_old nx obs nt tips _ s ho gl
      · cases e
    · cases e
  · cases e
theorem H_cc_new (nx : Nat) (obs : List (Nat × Ai.Obj)) (nt : Nat) (tips : List (Nat × (Nat × TypeId))) (id : Nat) (s : V) (ho : al obs id = some (Ai.Obj.cells 57 [.nilp, s])) :
    H_cc [.p id 0] ⟨nx, obs, nt, tips⟩ = some (.tup [], ⟨nx, alSet obs id (.cells 57 [.p id 0, s]), nt, tips⟩) := by simp [H_cc, ho]
theorem H_cc_old (nx : Nat) (obs : List (Nat × Ai.Obj)) (nt : Nat) (tips : List (Nat × (Nat × TypeId))) (id : Nat) (s : V) (ho : al obs id = some (Ai.Obj.cells 57 [.p id 0, s])) :
    H_cc [.p id 0] ⟨nx, obs, nt, tips⟩ = some (.tup [], ⟨nx, obs, nt, tips⟩) := by simp [H_cc, ho]

/-! ### Impure calls, function by function -/
def ys : List (FuncId × (List V → H → Option (V × H))) → FuncId → List V → H → Option (V × H)
  | [], _, _, _ => none
  | (g, F) :: r, f, a, h => bif Nat.beq f g then F a h else ys r f a h
theorem ys_hit (g : FuncId) (F : List V → H → Option (V × H)) (r : List (FuncId × (List V → H → Option (V × H)))) (a : List V) (h : H) : ys ((g, F) :: r) g a h = F a h := by simp [ys]
theorem ys_miss (g f : FuncId) (F : List V → H → Option (V × H)) (r : List (FuncId × (List V → H → Option (V × H)))) (a : List V) (h : H) (hn : f ≠ g) : ys ((g, F) :: r) f a h = ys r f a h := by
  have : Nat.beq f g = false := by cases hb : Nat.beq f g with | true => exact absurd (Nat.eq_of_beq_eq_true hb) hn | false => rfl
  simp only [ys, this, cond_false]
theorem itells_nil : Hp.TellsI tabx told (ys []) := fun _ _ _ _ _ h => by cases h
theorem itells_cons {g : FuncId} {F : List V → H → Option (V × H)} {r : List (FuncId × (List V → H → Option (V × H)))} (h : ∀ a m v m', F a m = some (v, m') → Hp.CompI tabx told g a m v m') (t : Hp.TellsI tabx told (ys r)) : Hp.TellsI tabx told (ys ((g, F) :: r)) := by
  intro g' a m v m' e
  unfold ys at e
  cases hb : Nat.beq g' g with
  | true =>
    rw [hb] at e
    have := Nat.eq_of_beq_eq_true hb
    subst this
    exact h _ _ _ _ e
  | false =>
    rw [hb] at e
    exact t _ _ _ _ _ e
def Y_cc := ys [(62, H_cc)]
theorem t_cc : Hp.TellsI tabx told Y_cc := itells_cons i_cc itells_nil

/-! ### WriteByte -/
theorem UH31 {xf : FuncId → List V → Option V} {xh : FuncId → List V → H → Option (V × H)} {kz : Nat → List Nat} {k : List Fr} {st : St} {Q : AEx → St → Prop} : Hp.M xf xh kz (.code B31) k st Q = Hp.M xf xh kz (.code (.seq (.reg [⟨some 4, .mov (.k .nili), none⟩])
  (.seq (.reg [⟨some 5, .mov (.t 0), none⟩,
     ⟨some 6, .call false 62 [(.t 5)], none⟩])
  (.seq (.reg [⟨some 7, .mov (.t 0), none⟩,
     ⟨some 8, .mov (.t 0), none⟩,
     ⟨some 9, .nilck (.t 8), none⟩,
     ⟨some 10, .faddr 1 (.t 9), none⟩,
     ⟨some 11, .load false 1 (.t 10), none⟩,
     ⟨some 12, .mov (.t 1), none⟩,
     ⟨some 13, .bslice false 5 1 1 [(.i .u8 0)] [(0, (.t 12))], none⟩,
     ⟨some 14, .app 5 1 (.t 11) (.t 13), none⟩,
     ⟨some 15, .nilck (.t 7), none⟩,
     ⟨some 16, .faddr 1 (.t 15), none⟩,
     ⟨none, .store 1 (.t 16) (.t 14), none⟩])
  (.seq (.reg [⟨some 4, .mov (.k .nili), none⟩])
  .ret))))) k st Q := rfl
def kz31 (_ : Nat) : List Nat := []
theorem w_WB_new (nx : Nat) (obs : List (Nat × Ai.Obj)) (nt : Nat) (tips : List (Nat × (Nat × TypeId))) (id : Nat) (b : Int) (ho : al obs id = some (Ai.Obj.cells 57 [.nilp, .sl [] 0 .nil])) (gl : Nat → List V) :
    Hp.M noX Y_cc (kz31) (.code B31) [] (St.init gl 5 [.p id 0, .i .u8 b] ⟨nx, obs, nt, tips⟩)
      (Hp.FinI [.tmp 4] .nili ⟨nx, alSet obs id (.cells 57 [.p id 0, .sl [.i .u8 b] 1 (.own nt)]), nt + 1, (nt, (1, 5)) :: tips⟩) := by
  rw [UH31]
  have e1 : 1 ≤ most := by unfold most; omega
  simp only [Y_cc, ys_hit, H_cc_new _ _ _ _ _ _ ho, e1, go_sem, ne_eq, not_false_eq_true, reduceIte, Nat.reduceMul, Nat.reduceAdd, Nat.reduceSub, Nat.reduceEqDiff, Nat.reduceLeDiff, Nat.reduceLT, List.take_succ_cons, List.take_zero, List.drop_succ_cons, List.cons_append]
theorem w_WB_old (nx : Nat) (obs : List (Nat × Ai.Obj)) (nt : Nat) (tips : List (Nat × (Nat × TypeId))) (id : Nat) (b : Int) (xs : List V) (n t : Nat) (hx : xs.length = n) (hm : n + 1 ≤ most) (ht : al tips t = some (n, 5))
    (ho : al obs id = some (Ai.Obj.cells 57 [.p id 0, .sl xs n (.own t)])) (gl : Nat → List V) :
    Hp.M noX Y_cc (kz31) (.code B31) [] (St.init gl 5 [.p id 0, .i .u8 b] ⟨nx, obs, nt, tips⟩)
      (Hp.FinI [.tmp 4] .nili ⟨nx, alSet obs id (.cells 57 [.p id 0, .sl (xs ++ [.i .u8 b]) (n + 1) (.own t)]), nt, alSet tips t (n + 1, 5)⟩) := by
  rw [UH31]
  simp only [Y_cc, ys_hit, H_cc_old _ _ _ _ _ _ ho, ho, hx, hm, ht, go_sem, ne_eq, not_false_eq_true, reduceIte, Nat.reduceMul, Nat.reduceAdd, Nat.reduceSub, Nat.reduceEqDiff, Nat.reduceLeDiff, Nat.reduceLT, List.take_succ_cons, List.take_zero, List.drop_succ_cons, List.cons_append]
end Go.Proofs.YtbhclhgljnoioaaDoor
