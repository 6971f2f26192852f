/- ref08: what a byte begins; what a digit to the base 16 is worth. -/
import Derived.Test.YtbhclhgljnoioaaDoorLx7
set_option linter.unusedSimpArgs false
set_option linter.unusedVariables false
namespace Go.Proofs.YtbhclhgljnoioaaDoor
open Ai
def clsV (c : Nat) : Nat := if letB c then 1 else if digB c then 3 else if sgnB c then 4 else 0
theorem cls_all (gl : Nat → List V) : ((List.range 256).all fun c => match runF gl tabx xf 1000 52 [.i .u8 (Int.ofNat c)] with | some (.i .i64 n) => n == Int.ofNat (clsV c) | _ => false) = true := by kernel_rfl
theorem cls_run (gl : Nat → List V) (c : Nat) (hc : c < 256) : runF gl tabx xf 1000 52 [.i .u8 (Int.ofNat c)] = some (.i .i64 (clsV c)) := by
  have := List.all_eq_true.1 (cls_all gl) c (List.mem_range.2 hc)
  split at this
  · rename_i n h
    rw [h]
    have := eq_of_beq this
    rw [this]; rfl
  · cases this
def F_cls (a : List V) : Option V := match a with
  | [.i .u8 (Int.ofNat n)] => if n < 256 then some (.i .i64 (clsV n)) else none
  | _ => none
theorem F_cls1 (a : UInt8) : F_cls [.i .u8 (a.toNat : Int)] = some (.i .i64 (clsV a.toNat)) := if_pos (by have := a.toNat_lt; omega)
theorem o_cls : ∀ a v, F_cls a = some v → Comp tabx told 52 a v := fun a v e => by
  unfold F_cls at e
  split at e
  · split at e
    · rename_i h; cases e; exact comp_runF (fun _ _ _ h => h) 1000 fun gl _ => cls_run gl _ h
    · cases e
  · cases e
def hexT : List UInt8 := [48, 49, 50, 51, 52, 53, 54, 55, 56, 57, 97, 98, 99, 100, 101, 102]
def vfrom : List UInt8 → Nat → Nat → Int
  | [], _, _ => -1
  | b :: r, k, c => if b.toNat = c then (k : Int) else vfrom r (k + 1) c
def hexI (c : Nat) : Int := match hexd c with | some d => (d : Int) | none => -1
theorem vfrom_all : ∀ c, c < 256 → vfrom hexT 0 c = hexI c := by decide +kernel
def K98_1 : List Fr := [.blk 0,
  .seq (.seq (.reg [⟨some 2, .mov (.k (.i .i32 (-1))), none⟩])
    .ret)]
theorem U98_1 {xf : FuncId → List V → Option V} {kz : Nat → List Nat} {k : List Fr} {st : St} {Q : AEx → St → Prop} : M xf kz (.code L98_1) k st Q = M xf kz (.code (.seq (.reg [⟨some 5, .bin .lss (.t 4) (.k (.i .i64 16)), none⟩])
  (.seq (.cond (.t 5)
    .skip
    (.exit 0))
  (.seq (.blk 1 (.seq (.reg [⟨some 6, .mov (.t 4), none⟩,
       ⟨some 3, .mov (.t 6), none⟩])
    (.seq (.reg [⟨some 7, .mov (.t 3), none⟩,
       ⟨some 8, .idx .str (.k (.s [48, 49, 50, 51, 52, 53, 54, 55, 56, 57, 97, 98, 99, 100, 101, 102])) (.t 7), none⟩,
       ⟨some 9, .mov (.t 0), none⟩,
       ⟨some 10, .bin .eql (.t 8) (.t 9), none⟩])
    (.cond (.t 10)
     (.seq (.reg [⟨some 11, .mov (.t 3), none⟩,
        ⟨some 12, .conv (.int .i32) (.t 11), none⟩,
        ⟨some 2, .mov (.t 12), none⟩])
     .ret)
     .skip))))
  (.reg [⟨some 13, .bin .add (.t 4) (.k (.i .i64 1)), none⟩,
    ⟨some 4, .mov (.t 13), none⟩]))))) k st Q := rfl
theorem U98 {xf : FuncId → List V → Option V} {kz : Nat → List Nat} {k : List Fr} {st : St} {Q : AEx → St → Prop} : M xf kz (.code B98) k st Q = M xf kz (.code (.seq (.reg [⟨some 2, .mov (.k (.i .i32 0)), none⟩])
  (.seq (.seq (.reg [⟨some 4, .mov (.k (.i .i64 0)), none⟩])
   (.blk 0 (.loop L98_1)))
  (.seq (.reg [⟨some 2, .mov (.k (.i .i32 (-1))), none⟩])
  .ret)))) k st Q := rfl
def kz98 (_ : Nat) : List Nat := [1, 2, 3, 5, 6, 7, 8, 9, 10, 11, 12, 13]
theorem w_value_loop (c : Nat) (gl : Nat → List V) : ∀ (l : List UInt8) (k : Nat), hexT.drop k = l → k + l.length = 16 →
    M noX (kz98) (.code L98_1) (.loop L98_1 :: K98_1) ⟨gl, (.node (.node (.node (.node .leaf .any .leaf) .any (.node .leaf .any .leaf)) .any (.node (.node .leaf .any .leaf) .any (.node .leaf .any .leaf))) (.i .u8 c) (.node (.node (.node .leaf .any .leaf) (.i .i64 k) (.node .leaf .any .leaf)) .any (.node (.node .leaf .any .leaf) .any (.node .leaf .any .leaf)))), [], [], {}⟩ (Fin [.tmp 2] (.i .i32 (vfrom l k c))) := by
  intro l
  induction l with
  | nil =>
    intro k hd hl
    simp only [List.length_nil, Nat.add_zero] at hl
    have e1 : decide ((k : Int) < 16) = false := decide_eq_false (by omega)
    rw [U98_1]
    simp only [e1, K98_1, vfrom, go_sem, ne_eq, not_false_eq_true, reduceIte, Nat.reduceMul, Nat.reduceAdd, Nat.reduceSub, Nat.reduceEqDiff, Nat.reduceLeDiff, Nat.reduceLT, List.take_succ_cons, List.take_zero, List.drop_succ_cons, List.cons_append]
  | cons b r ih =>
    intro k hd hl
    simp only [List.length_cons] at hl
    have e1 : decide ((k : Int) < 16) = true := decide_eq_true (by omega)
    have e2 : ([48, 49, 50, 51, 52, 53, 54, 55, 56, 57, 97, 98, 99, 100, 101, 102] : List UInt8)[k]? = some b := by
      have : (hexT.drop k)[0]? = some b := by rw [hd]; rfl
      rw [List.getElem?_drop] at this
      exact this
    have e3 : decide ((b.toNat : Int) = (c : Int)) = decide (b.toNat = c) := decide_eq_decide.2 Int.ofNat_inj
    have w1 : wr .i64 ((k : Int) + 1) = ((k + 1 : Nat) : Int) := by rw [wr64] <;> omega
    have w2 : wr .i32 (k : Int) = (k : Int) := by rw [wr32] <;> omega
    rw [U98_1]
    by_cases h : b.toNat = c
    · have f1 : decide (b.toNat = c) = true := decide_eq_true h
      rw [vfrom, if_pos h]
      simp only [e1, e2, e3, f1, w2, K98_1, go_sem, ne_eq, not_false_eq_true, reduceIte, Nat.reduceMul, Nat.reduceAdd, Nat.reduceSub, Nat.reduceEqDiff, Nat.reduceLeDiff, Nat.reduceLT, List.take_succ_cons, List.take_zero, List.drop_succ_cons, List.cons_append]
    · have f1 : decide (b.toNat = c) = false := decide_eq_false h
      rw [vfrom, if_neg h]
      have := ih (k + 1) (by rw [← List.drop_drop, hd]; rfl) (by omega)
      simp only [e1, e2, e3, f1, w1, go_sem, ne_eq, not_false_eq_true, reduceIte, Nat.reduceMul, Nat.reduceAdd, Nat.reduceSub, Nat.reduceEqDiff, Nat.reduceLeDiff, Nat.reduceLT, List.take_succ_cons, List.take_zero, List.drop_succ_cons, List.cons_append]
      rw [M_loop]
      simp only [kz98, K98_1, List.length_cons, List.length_nil, go_sem, ne_eq, not_false_eq_true, reduceIte, Nat.reduceMul, Nat.reduceAdd, Nat.reduceSub, Nat.reduceEqDiff, Nat.reduceLeDiff, Nat.reduceLT, List.take_succ_cons, List.take_zero, List.drop_succ_cons, List.cons_append] at this ⊢
      exact this
theorem w_value (c : Nat) (hc : c < 256) (gl : Nat → List V) : M noX (kz98) (.code B98) [] (St.init gl 4 [.i .u8 c] {}) (Fin [.tmp 2] (.i .i32 (hexI c))) := by
  rw [U98]
  simp only [go_sem, ne_eq, not_false_eq_true, reduceIte, Nat.reduceMul, Nat.reduceAdd, Nat.reduceSub, Nat.reduceEqDiff, Nat.reduceLeDiff, Nat.reduceLT, List.take_succ_cons, List.take_zero, List.drop_succ_cons, List.cons_append]
  rw [M_loop]
  have := w_value_loop c gl hexT 0 rfl rfl
  rw [vfrom_all c hc] at this
  simp only [kz98, K98_1, List.length_cons, List.length_nil, Int.natCast_zero, go_sem, ne_eq, not_false_eq_true, reduceIte, Nat.reduceMul, Nat.reduceAdd, Nat.reduceSub, Nat.reduceEqDiff, Nat.reduceLeDiff, Nat.reduceLT, List.take_succ_cons, List.take_zero, List.drop_succ_cons, List.cons_append] at this ⊢
  exact this
def F_rval (a : List V) : Option V := match a with
  | [.i .u8 (Int.ofNat n)] => if n < 256 then some (.i .i32 (hexI n)) else none
  | _ => none
theorem F_rval1 (a : UInt8) : F_rval [.i .u8 (a.toNat : Int)] = some (.i .i32 (hexI a.toNat)) := if_pos (by have := a.toNat_lt; omega)
theorem o_rval : ∀ a v, F_rval a = some v → Comp tabx told 98 a v := fun a v e => by
  unfold F_rval at e
  split at e
  · split at e
    · rename_i h; cases e; exact comp_of tells_noX (fn := af98) rfl (Nat.le_of_ble_eq_true rfl) fun gl => w_value _ h gl
    · cases e
  · cases e
end Go.Proofs.YtbhclhgljnoioaaDoor
