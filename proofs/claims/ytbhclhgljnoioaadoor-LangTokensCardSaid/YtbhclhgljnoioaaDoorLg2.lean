/- strings.Builder: WriteByte, WriteString, WriteRune, String. -/
import Derived.Test.YtbhclhgljnoioaaDoorLg1
set_option linter.unusedSimpArgs false
set_option linter.unusedVariables false
namespace Go.Proofs.YtbhclhgljnoioaaDoor
open Ai
abbrev BI := BInv 57 5
open Classical in
noncomputable def H_WB (a : List V) (h : H) : Option (V × H) := match a with
  | [.p id 0, .i .u8 (Int.ofNat n)] => if n < 256 ∧ ∃ bs, BI h id bs ∧ bs.length + 1 ≤ most then (bwr 5 id [.i .u8 (Int.ofNat n)] h).map fun m => (.nili, m) else none
  | _ => none
theorem i_WB : ∀ a h v h', H_WB a h = some (v, h') → Hp.CompI tabx told 31 a h v h' := fun a h v h' e => by
  unfold H_WB at e
  split at e
  · rename_i id n
    obtain ⟨nx, obs, nt, tips⟩ := h
    split at e
    · rename_i hc
      obtain ⟨_, bs, hi, hm⟩ := hc
      rcases hi with ⟨rfl, ho⟩ | ⟨t, ho, ht, hn⟩
      · simp only at ho
        unfold bwr at e
        simp only [ho, Option.map_some, Option.some.injEq, Prod.mk.injEq] at e
        obtain ⟨rfl, rfl⟩ := e
        exact Hp.compI_of tells_noX t_cc (fn := af31) rfl (Nat.le_of_ble_eq_true rfl) fun gl => w_WB_new nx obs nt tips id n ho gl
      · simp only at ho ht
        unfold bwr at e
        simp only [ho, Option.map_some, Option.some.injEq, Prod.mk.injEq] at e
        obtain ⟨rfl, rfl⟩ := e
        exact Hp.compI_of tells_noX t_cc (fn := af31) rfl (Nat.le_of_ble_eq_true rfl) fun gl => w_WB_old nx obs nt tips id n _ _ t (List.length_map ..) hm ht ho gl
    · cases e
  · cases e
theorem H_WB1 {h : H} {id : Nat} {bs : List UInt8} (hi : BI h id bs) (hm : bs.length + 1 ≤ most) (c : UInt8) : ∃ h', H_WB [.p id 0, .i .u8 (c.toNat : Int)] h = some (.nili, h') ∧ BI h' id (bs ++ [c]) ∧ h'.next = h.next := by
  obtain ⟨h', e, hi', hn⟩ := bwr_inv hi [c]
  refine ⟨h', ?_, hi', hn⟩
  have : H_WB [.p id 0, .i .u8 (c.toNat : Int)] h = (bwr 5 id [.i .u8 (c.toNat : Int)] h).map fun m => (.nili, m) := if_pos ⟨c.toNat_lt, bs, hi, hm⟩
  rw [this, show ([.i .u8 (c.toNat : Int)] : List V) = [c].map byteV from rfl, e]
  rfl

/-! ### WriteString -/
open Classical in
/-! ### String: a pure reading of the builder's bytes; the memory stays -/
theorem bytesOf_map (l : List UInt8) : bytesOf? (l.map byteV) = some l := by
  induction l with
  | nil => rfl
  | cons a r ih => simp [bytesOf?, byteV, ih]
theorem UH35 {xf : FuncId → List V → Option V} {xh : FuncId → List V → H → Option (V × H)} {kz : Nat → List Nat} {k : List Fr} {st : St} {Q : AEx → St → Prop} : Hp.M xf xh kz (.code B35) k st Q = Hp.M xf xh kz (.code (.seq (.reg [⟨some 2, .mov (.k (.s [])), none⟩])
  (.seq (.reg [⟨some 3, .mov (.t 0), none⟩,
     ⟨some 4, .nilck (.t 3), none⟩,
     ⟨some 5, .faddr 1 (.t 4), none⟩,
     ⟨some 6, .load false 1 (.t 5), none⟩,
     ⟨some 7, .sdata (.t 6), none⟩,
     ⟨some 8, .mov (.t 0), none⟩,
     ⟨some 9, .nilck (.t 8), none⟩,
     ⟨some 10, .faddr 1 (.t 9), none⟩,
     ⟨some 11, .load false 1 (.t 10), none⟩,
     ⟨some 12, .len .slice (.t 11), none⟩,
     ⟨some 13, .ustr 5 (.t 7) (.t 12), none⟩,
     ⟨some 2, .mov (.t 13), none⟩])
  .ret))) k st Q := rfl
def kz35 (_ : Nat) : List Nat := []
theorem w_BS (nx : Nat) (obs : List (Nat × Ai.Obj)) (nt : Nat) (tips : List (Nat × (Nat × TypeId))) (id : Nat) (c : UInt8) (l : List UInt8) (t : Nat) (hm : l.length + 1 ≤ most) (ht : al tips t = some ((c :: l).length, 5))
    (ho : al obs id = some (Ai.Obj.cells 57 [.p id 0, .sl ((c :: l).map byteV) (c :: l).length (.own t)])) (gl : Nat → List V) :
    Hp.M noX noY (kz35) (.code B35) [] (St.init gl 4 [.p id 0] ⟨nx, obs, nt, tips⟩)
      (Hp.FinI [.tmp 2] (.s (c :: l)) ⟨nx, obs, nt, tips⟩) := by
  rw [UH35]
  have hb := bytesOf_map (c :: l)
  simp only [List.map_cons, List.length_cons, byteV] at ho ht hb
  have h0 : l.length + 1 ≠ 0 := by omega
  have hx : (l.map byteV).length = l.length := List.length_map ..
  simp only [ho, ht, hb, hm, h0, hx, go_sem, ne_eq, not_false_eq_true, reduceIte, Nat.reduceMul, Nat.reduceAdd, Nat.reduceSub, Nat.reduceEqDiff, Nat.reduceLeDiff, Nat.reduceLT, List.take_succ_cons, List.take_zero, List.drop_succ_cons, List.cons_append]
end Go.Proofs.YtbhclhgljnoioaaDoor
