/- 'MachineNobody': its function walked. -/
import Derived.Test.YtlicphklkpbkdaaGreatMemo
import Derived.Test.YtlicphklkpbkdaaGreatAi12
import Derived.KernelRfl
set_option linter.unusedSimpArgs false
set_option linter.unusedVariables false
namespace Go.Proofs.YtlicphklkpbkdaaGreat
open Ai Ai.Hp

/-- The examples, told. -/
def xN (g : FuncId) (a : List V) : Option V := bif Nat.beq g 15 then (match a with | [] => some (.b true) | _ => none) else none
theorem xN_ok : Tells tabx told xN := by
  intro g a v h
  unfold xN at h
  cases hb : Nat.beq g 15 with
  | false => rw [hb] at h; cases h
  | true =>
    rw [hb] at h
    rw [Nat.eq_of_beq_eq_true hb]
    cases a with
    | nil => simp only [cond_true, Option.some.injEq] at h; subst h; exact memo_all
    | cons => cases h
/-- A call with the caller's memory, by the evaluator. -/
def xI (g : FuncId) (a : List V) (h : H) : Option (V × H) := runI gl0 tabx (fun _ _ => none) 1000 g a h
theorem xI_ok : TellsI tabx told xI := fun g a h v h' hr gl hok => by
  have : gl = gl0 := hok
  subst this
  exact runI_ev (fun _ _ h => h) (fun _ _ _ h => by cases h) hok hr

theorem UH10 {xf : FuncId → List V → Option V} {xh : FuncId → List V → H → Option (V × H)} {kz : Nat → List Nat} {k : List Fr} {st : St} {Q : AEx → St → Prop} : Hp.M xf xh kz (.code B10) k st Q = Hp.M xf xh kz (.code (.seq (.reg [⟨some 6, .mov (.k (.b false)), none⟩])
  (.seq (.seq (.reg [⟨some 14, .mov (.t 1), none⟩,
      ⟨some 15, .len .slice (.t 14), none⟩,
      ⟨some 16, .bin .gtr (.t 15) (.k (.i .i64 16384)), none⟩])
   (.cond (.t 16)
    (.seq (.reg [⟨some 17, .call true 15 [], none⟩,
       ⟨some 6, .mov (.t 17), none⟩])
    .ret)
    .skip))
  (.seq (.seq (.reg [⟨some 18, .build [.nilp, .nilp, .nilp, .nilp, .nilp, (.i .i64 0), (.i .i64 0)] [], none⟩,
      ⟨some 19, .box 110 (.t 18), none⟩,
      ⟨some 20, .bslice false 49 1 2 [.nilp] [(0, (.k .nilp)), (1, (.t 19))], none⟩,
      ⟨some 21, .len .slice (.t 20), none⟩,
      ⟨some 22, .mov (.k (.i .i64 0)), none⟩])
   (.blk 0 (.loop L10_1)))
  (.seq (.reg [⟨some 96, .call true 15 [], none⟩,
     ⟨some 6, .mov (.t 96), none⟩])
  .ret))))) k st Q := rfl
theorem w_body (a0 : Int) (ys : List V) (n : Nat) (s : List UInt8) (gl : Nat → List V) :
    M xN xI (fun _ => []) (.code B10) [] (St.init gl 7 [.i .i64 a0, .sl ys n .no, .s s] {}) (Fin [.tmp 6] (.b true)) := by
  rw [UH10]
  simp only [go_sem, ne_eq, not_false_eq_true, reduceIte, Nat.reduceMul, Nat.reduceAdd, Nat.reduceSub, Nat.reduceEqDiff, Nat.reduceLeDiff, Nat.reduceLT, List.take_succ_cons, List.take_zero, List.drop_succ_cons, List.cons_append]
  cases decide ((16384 : Int) < (n : Int)) with
  | true => exact M_fin 100 (by kernel_rfl)
  | false => exact M_fin 1000 (by kernel_rfl)

theorem w_MachineNobody (a0 : Int) (x1 : V) (y1 : ArgV Tryz.prog 22 x1) (s : List UInt8) : Comp tabx told 10 [.i .i64 a0, x1, .s s] (.b true) := by
  rcases y1 with ⟨fs, xs, hu, _⟩ | ⟨_, hs⟩
  · exact absurd hu (by rw [show Tryz.prog.underlying 22 = some (.slice 5) from by kernel_rfl]; simp)
  · generalize hv : [x1] = l at hs
    cases hs with
    | sl _ e ys n h hn hs =>
      cases hv
      refine Hp.comp_of (xf := xN) (xh := xI) (kz := fun _ => []) xN_ok xI_ok (fn := af10) rfl (Nat.le_of_ble_eq_true rfl) fun gl => ?_
      exact w_body a0 (stripL ys) n s gl
    | b _ _ h => rw [show Tryz.prog.underlying 22 = some (.slice 5) from by kernel_rfl] at h; cases h
    | i _ _ _ h _ => cases hv; rw [show Tryz.prog.underlying 22 = some (.slice 5) from by kernel_rfl] at h; cases h
    | s _ _ h _ => cases hv; rw [show Tryz.prog.underlying 22 = some (.slice 5) from by kernel_rfl] at h; cases h
    | st _ _ _ h _ => rw [show Tryz.prog.underlying 22 = some (.slice 5) from by kernel_rfl] at h; cases h

end Go.Proofs.YtlicphklkpbkdaaGreat
