/- The examples; 'LangPrints': its function walked. -/
import Derived.Test.YtbhclhgljnoioaaDoorPg7
import Derived.Test.YtbhclhgljnoioaaDoorAi12
set_option linter.unusedSimpArgs false
set_option linter.unusedVariables false
namespace Go.Proofs.YtbhclhgljnoioaaDoor
open Ai Go.Shelf
/-! ### The examples: what Print is handed there is told -/
def exF : Fil := .mk 5 [] [] [.mk 1 [] [97] [], .mk 4 [] [] [.mk 2 [110] [53] []]]
def exC : List V := [.i .i64 5, .s [], .s [], .sl [.i .i64 1, .s [], .s [97], .sl [] 0 .nil, .i .i64 4, .s [], .s [], .sl [.i .i64 2, .s [110], .s [53], .sl [] 0 .nil] 1 .full] 2 .no]
def exT : List UInt8 := [107, 101, 121, 32, 94, 32, 34, 97, 34, 32, 97, 110, 100, 32, 110, 111, 116, 32, 110, 32, 61, 32, 34, 53, 34]
theorem exR : FilR exF exC := by
  refine .mk _ _ _ _ _ _ _ rfl (.cons _ _ [.i .i64 1, .s [], .s [97], .sl [] 0 .nil] _ (.mk _ _ _ _ _ _ _ rfl .nil) (.cons _ _ [.i .i64 4, .s [], .s [], .sl [.i .i64 2, .s [110], .s [53], .sl [] 0 .nil] 1 .full] _ (.mk _ _ _ _ _ _ _ rfl ?_) .nil))
  exact .cons _ _ [.i .i64 2, .s [110], .s [53], .sl [] 0 .nil] _ (.mk _ _ _ _ _ _ _ rfl .nil) .nil
theorem exOk : okL exF := by
  simp only [exF, okL, okLs, List.length_cons, List.length_nil, and_true]
  decide
theorem exV : printV exF = exT ∧ chk exF = 0 := by decide +kernel
def tabA (g : FuncId) : Option AFunc := bif Nat.beq g 16 then none else tabx g
def xfA (g : FuncId) (a : List V) : Option V := bif Nat.beq g 16 then memo [([.agg exC], .tup [.s exT, .i .i64 0])] a else xf g a
theorem tabA_le : ∀ g fn, tabA g = some fn → tabx g = some fn := fun g fn h => by
  unfold tabA at h
  cases hb : Nat.beq g 16 with
  | true => rw [hb] at h; cases h
  | false => rw [hb] at h; exact h
theorem tellsA : Tells tabx told xfA := fun g a v h => by
  unfold xfA at h
  cases hb : Nat.beq g 16 with
  | true =>
    rw [hb] at h
    have := Nat.eq_of_beq_eq_true hb
    subst this
    have hm := memo_mem h
    simp only [List.mem_singleton, Prod.mk.injEq] at hm
    obtain ⟨rfl, rfl⟩ := hm
    have := c_print exF exC exR exOk
    rw [exV.1, exV.2] at this
    exact this
  | false => rw [hb] at h; exact comp_prim h
theorem r_awake : runF gl0 tabA xfA 20000 14 [] = some (.b true) := by kernel_rfl
theorem c_awake : Comp tabx told 14 [] (.b true) := comp_runM tabA_le tellsA 20000 fun gl h => by
  have : gl = gl0 := h
  rw [this]; exact r_awake
def F_awake (a : List V) : Option V := match a with
  | [] => some (.b true)
  | _ => none
theorem o_awake : ∀ a v, F_awake a = some v → Comp tabx told 14 a v := fun a v e => by
  unfold F_awake at e
  split at e
  · cases e; exact c_awake
  · cases e
/-! ### The law -/
noncomputable def X_prints := xs [(15, F_light), (14, F_awake), (16, F_print), (17, F_rprint)]
theorem t_LangPrints : Tells tabx told X_prints := tells_cons o_light (tells_cons o_awake (tells_cons o_print (tells_cons o_rprint tells_nil)))
theorem U4 {xf : FuncId → List V → Option V} {kz : Nat → List Nat} {k : List Fr} {st : St} {Q : AEx → St → Prop} : M xf kz (.code B4) k st Q = M xf kz (.code (.seq (.reg [⟨some 1, .lbox (.t 0) [1], none⟩,
     ⟨some 2, .mov (.k (.b false)), none⟩])
  (.seq (.seq (.reg [⟨some 7, .load true 4 (.t 1), none⟩,
      ⟨some 8, .call true 15 [(.t 7)], none⟩,
      ⟨some 9, .un .not (.t 8), none⟩])
   (.cond (.t 9)
    (.seq (.reg [⟨some 10, .call true 14 [], none⟩,
       ⟨some 2, .mov (.t 10), none⟩])
    .ret)
    .skip))
  (.seq (.reg [⟨some 12, .load true 4 (.t 1), none⟩,
     ⟨some 13, .call true 16 [(.t 12)], none⟩,
     ⟨some 11, .mov (.t 13), none⟩,
     ⟨some 14, .ext (.t 11) 0, none⟩,
     ⟨some 15, .ext (.t 11) 1, none⟩,
     ⟨some 3, .mov (.t 14), none⟩,
     ⟨some 4, .mov (.t 15), none⟩])
  (.seq (.reg [⟨some 17, .load true 4 (.t 1), none⟩,
     ⟨some 18, .call true 17 [(.t 17)], none⟩,
     ⟨some 16, .mov (.t 18), none⟩,
     ⟨some 19, .ext (.t 16) 0, none⟩,
     ⟨some 20, .ext (.t 16) 1, none⟩,
     ⟨some 5, .mov (.t 19), none⟩,
     ⟨some 6, .mov (.t 20), none⟩])
  (.seq (.reg [⟨some 21, .mov (.t 3), none⟩,
     ⟨some 22, .mov (.t 5), none⟩,
     ⟨some 23, .bin .eql (.t 21) (.t 22), none⟩,
     ⟨some 24, .mov (.t 23), none⟩,
     ⟨some 25, .mov (.t 4), some (24, true)⟩,
     ⟨some 26, .mov (.t 6), some (24, true)⟩,
     ⟨some 27, .bin .eql (.t 25) (.t 26), some (24, true)⟩,
     ⟨some 28, .pick (.t 24) (.t 27) (.k (.b false)), none⟩,
     ⟨some 29, .mov (.t 28), none⟩,
     ⟨some 30, .call true 14 [], some (29, true)⟩,
     ⟨some 31, .pick (.t 29) (.t 30) (.k (.b false)), none⟩,
     ⟨some 2, .mov (.t 31), none⟩])
  .ret)))))) k st Q := rfl
def kz4 (_ : Nat) : List Nat := []
theorem w_prints (f : Fil) (c : List V) (hf : FilR f c) (gl : Nat → List V) : M X_prints (kz4) (.code B4) [] (St.init gl 6 [.agg c] {}) (Fin [.tmp 2] (.b true)) := by
  rw [U4]
  have y0 : X_prints 14 [] = some (.b true) := rfl
  have y1 : X_prints 15 [.agg c] = some (.b (wgh f 0 0).1) := light_eq f c hf
  cases hw : (wgh f 0 0).1 with
  | false =>
    rw [hw] at y1
    cases hf with | mk k nm tx kids xs n tk hn hx =>
    simp only [y0, y1, go_sem, ne_eq, not_false_eq_true, reduceIte, Nat.reduceMul, Nat.reduceAdd, Nat.reduceSub, Nat.reduceEqDiff, Nat.reduceLeDiff, Nat.reduceLT, List.take_succ_cons, List.take_zero, List.drop_succ_cons, List.cons_append]
  | true =>
    rw [hw] at y1
    have hok := wgh_ok f 0 0 hw
    have y2 : X_prints 16 [.agg c] = some (.tup [.s (printV f), .i .i64 (chk f : Nat)]) := print_eq f c hf hok
    have y3 : X_prints 17 [.agg c] = some (.tup [.s (printV f), .i .i64 (chk f : Nat)]) := rprint_eq f c hf hok
    generalize printV f = t at *
    generalize chk f = e at *
    cases hf with | mk k nm tx kids xs n tk hn hx =>
    simp only [y0, y1, y2, y3, strEq_self, go_sem, ne_eq, not_false_eq_true, reduceIte, Nat.reduceMul, Nat.reduceAdd, Nat.reduceSub, Nat.reduceEqDiff, Nat.reduceLeDiff, Nat.reduceLT, List.take_succ_cons, List.take_zero, List.drop_succ_cons, List.cons_append]
/-! ### Arguments -/
end Go.Proofs.YtbhclhgljnoioaaDoor
