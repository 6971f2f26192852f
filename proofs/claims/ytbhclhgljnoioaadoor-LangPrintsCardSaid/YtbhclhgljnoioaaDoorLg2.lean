/- strings.Builder: WriteByte, WriteString, WriteRune, String. -/
import Derived.Test.YtbhclhgljnoioaaDoorLg1
set_option linter.unusedSimpArgs false
set_option linter.unusedVariables false
namespace Go.Proofs.YtbhclhgljnoioaaDoor
open Ai
abbrev BI := BInv 57 5
open Classical in
noncomputable def H_WB (a : List V) (h : H) : Option (V × H) := match a with
  | [.p id 0, .i .u8 (Int.ofNat n)] => if n < 256 ∧ ∃ bs, BI h id bs ∧ bs.length + 1 ≤ most then (bwr 5 id [.i .u8 (Int.ofNat n)] h).map fun m => (.nili, m) else none
  | _ => none
theorem i_WB : ∀ a h v h', H_WB a h = some (v, h') → Hp.CompI tabx told 31 a h v h' := fun a h v h' e => by
  unfold H_WB at e
  split at e
  · rename_i id n
    obtain ⟨nx, obs, nt, tips⟩ := h
    split at e
    · rename_i hc
      obtain ⟨_, bs, hi, hm⟩ := hc
      rcases hi with ⟨rfl, ho⟩ | ⟨t, ho, ht, hn⟩
      · simp only at ho
        unfold bwr at e
        simp only [ho, Option.map_some, Option.some.injEq, Prod.mk.injEq] at e
        obtain ⟨rfl, rfl⟩ := e
        exact Hp.compI_of tells_noX t_cc (fn := af31) rfl (Nat.le_of_ble_eq_true rfl) fun gl => w_WB_new nx obs nt tips id n ho gl
      · simp only at ho ht
        unfold bwr at e
        simp only [ho, Option.map_some, Option.some.injEq, Prod.mk.injEq] at e
        obtain ⟨rfl, rfl⟩ := e
        exact Hp.compI_of tells_noX t_cc (fn := af31) rfl (Nat.le_of_ble_eq_true rfl) fun gl => w_WB_old nx obs nt tips id n _ _ t (List.length_map ..) hm ht ho gl
    · cases e
  · cases e
theorem H_WB1 {h : H} {id : Nat} {bs : List UInt8} (hi : BI h id bs) (hm : bs.length + 1 ≤ most) (c : UInt8) : ∃ h', H_WB [.p id 0, .i .u8 (c.toNat : Int)] h = some (.nili, h') ∧ BI h' id (bs ++ [c]) ∧ h'.next = h.next := by
  obtain ⟨h', e, hi', hn⟩ := bwr_inv hi [c]
  refine ⟨h', ?_, hi', hn⟩
  have : H_WB [.p id 0, .i .u8 (c.toNat : Int)] h = (bwr 5 id [.i .u8 (c.toNat : Int)] h).map fun m => (.nili, m) := if_pos ⟨c.toNat_lt, bs, hi, hm⟩
  rw [this, show ([.i .u8 (c.toNat : Int)] : List V) = [c].map byteV from rfl, e]
  rfl

/-! ### WriteString -/
theorem allOne_bytes (l : List UInt8) : allOne (l.map byteV) = true := by
  induction l with
  | nil => rfl
  | cons a r ih => simp only [List.map_cons, allOne, byteV, V.one, ih, cond_true]
theorem UH33 {xf : FuncId → List V → Option V} {xh : FuncId → List V → H → Option (V × H)} {kz : Nat → List Nat} {k : List Fr} {st : St} {Q : AEx → St → Prop} : Hp.M xf xh kz (.code B33) k st Q = Hp.M xf xh kz (.code (.seq (.reg [⟨some 4, .mov (.k (.i .i64 0)), none⟩,
     ⟨some 5, .mov (.k .nili), none⟩])
  (.seq (.reg [⟨some 6, .mov (.t 0), none⟩,
     ⟨some 7, .call false 62 [(.t 6)], none⟩])
  (.seq (.reg [⟨some 8, .mov (.t 0), none⟩,
     ⟨some 9, .mov (.t 0), none⟩,
     ⟨some 10, .nilck (.t 9), none⟩,
     ⟨some 11, .faddr 1 (.t 10), none⟩,
     ⟨some 12, .load false 1 (.t 11), none⟩,
     ⟨some 13, .mov (.t 1), none⟩,
     ⟨some 14, .app 5 1 (.t 12) (.t 13), none⟩,
     ⟨some 15, .nilck (.t 8), none⟩,
     ⟨some 16, .faddr 1 (.t 15), none⟩,
     ⟨none, .store 1 (.t 16) (.t 14), none⟩])
  (.seq (.reg [⟨some 17, .mov (.t 1), none⟩,
     ⟨some 18, .len .str (.t 17), none⟩,
     ⟨some 4, .mov (.t 18), none⟩,
     ⟨some 5, .mov (.k .nili), none⟩])
  .ret))))) k st Q := rfl
def kz33 (_ : Nat) : List Nat := []
theorem w_WS_new (nx : Nat) (obs : List (Nat × Ai.Obj)) (nt : Nat) (tips : List (Nat × (Nat × TypeId))) (id : Nat) (l : List UInt8) (hl : l.length ≠ 0) (hm : l.length ≤ most) (ho : al obs id = some (Ai.Obj.cells 57 [.nilp, .sl [] 0 .nil])) (gl : Nat → List V) :
    Hp.M noX Y_cc (kz33) (.code B33) [] (St.init gl 5 [.p id 0, .s l] ⟨nx, obs, nt, tips⟩)
      (Hp.FinI [.tmp 4, .tmp 5] (.tup [.i .i64 l.length, .nili]) ⟨nx, alSet obs id (.cells 57 [.p id 0, .sl (l.map byteV) l.length (.own nt)]), nt + 1, (nt, (l.length, 5)) :: tips⟩) := by
  rw [UH33]
  simp only [Y_cc, ys_hit, H_cc_new _ _ _ _ _ _ ho, allOne_bytes, hl, hm, go_sem, ne_eq, not_false_eq_true, reduceIte, Nat.reduceMul, Nat.reduceAdd, Nat.reduceSub, Nat.reduceEqDiff, Nat.reduceLeDiff, Nat.reduceLT, List.take_succ_cons, List.take_zero, List.drop_succ_cons, List.cons_append]
theorem w_WS_old (nx : Nat) (obs : List (Nat × Ai.Obj)) (nt : Nat) (tips : List (Nat × (Nat × TypeId))) (id : Nat) (l : List UInt8) (hl : l.length ≠ 0) (xs : List V) (n t : Nat) (hx : xs.length = n) (hm : n + l.length ≤ most) (ht : al tips t = some (n, 5))
    (ho : al obs id = some (Ai.Obj.cells 57 [.p id 0, .sl xs n (.own t)])) (gl : Nat → List V) :
    Hp.M noX Y_cc (kz33) (.code B33) [] (St.init gl 5 [.p id 0, .s l] ⟨nx, obs, nt, tips⟩)
      (Hp.FinI [.tmp 4, .tmp 5] (.tup [.i .i64 l.length, .nili]) ⟨nx, alSet obs id (.cells 57 [.p id 0, .sl (xs ++ l.map byteV) (n + l.length) (.own t)]), nt, alSet tips t (n + l.length, 5)⟩) := by
  rw [UH33]
  simp only [Y_cc, ys_hit, H_cc_old _ _ _ _ _ _ ho, ho, allOne_bytes, hl, hx, hm, ht, go_sem, ne_eq, not_false_eq_true, reduceIte, Nat.reduceMul, Nat.reduceAdd, Nat.reduceSub, Nat.reduceEqDiff, Nat.reduceLeDiff, Nat.reduceLT, List.take_succ_cons, List.take_zero, List.drop_succ_cons, List.cons_append]
open Classical in
noncomputable def H_WS (a : List V) (h : H) : Option (V × H) := match a with
  | [.p id 0, .s l] => if l.length ≠ 0 ∧ ∃ bs, BI h id bs ∧ bs.length + l.length ≤ most then (bwr 5 id (l.map byteV) h).map fun m => (.tup [.i .i64 l.length, .nili], m) else none
  | _ => none
theorem i_WS : ∀ a h v h', H_WS a h = some (v, h') → Hp.CompI tabx told 33 a h v h' := fun a h v h' e => by
  unfold H_WS at e
  split at e
  · rename_i id l
    obtain ⟨nx, obs, nt, tips⟩ := h
    split at e
    · rename_i hc
      obtain ⟨hl, bs, hi, hm⟩ := hc
      rcases hi with ⟨rfl, ho⟩ | ⟨t, ho, ht, hn⟩
      · simp only at ho
        unfold bwr at e
        simp only [ho, Option.map_some, Option.some.injEq, Prod.mk.injEq, List.length_map] at e
        obtain ⟨rfl, rfl⟩ := e
        exact Hp.compI_of tells_noX t_cc (fn := af33) rfl (Nat.le_of_ble_eq_true rfl) fun gl => w_WS_new nx obs nt tips id l hl (by simpa using hm) ho gl
      · simp only at ho ht
        unfold bwr at e
        simp only [ho, Option.map_some, Option.some.injEq, Prod.mk.injEq, List.length_map] at e
        obtain ⟨rfl, rfl⟩ := e
        exact Hp.compI_of tells_noX t_cc (fn := af33) rfl (Nat.le_of_ble_eq_true rfl) fun gl => w_WS_old nx obs nt tips id l hl _ _ t (List.length_map ..) hm ht ho gl
    · cases e
  · cases e
theorem H_WS1 {h : H} {id : Nat} {bs : List UInt8} (hi : BI h id bs) (l : List UInt8) (hl : l.length ≠ 0) (hm : bs.length + l.length ≤ most) : ∃ h', H_WS [.p id 0, .s l] h = some (.tup [.i .i64 l.length, .nili], h') ∧ BI h' id (bs ++ l) ∧ h'.next = h.next := by
  obtain ⟨h', e, hi', hn⟩ := bwr_inv hi l
  refine ⟨h', ?_, hi', hn⟩
  have : H_WS [.p id 0, .s l] h = (bwr 5 id (l.map byteV) h).map fun m => (.tup [.i .i64 l.length, .nili], m) := if_pos ⟨hl, bs, hi, hm⟩
  rw [this, e]
  rfl

/-! ### String: a pure reading of the builder's bytes; the memory stays -/
theorem bytesOf_map (l : List UInt8) : bytesOf? (l.map byteV) = some l := by
  induction l with
  | nil => rfl
  | cons a r ih => simp [bytesOf?, byteV, ih]
theorem UH35 {xf : FuncId → List V → Option V} {xh : FuncId → List V → H → Option (V × H)} {kz : Nat → List Nat} {k : List Fr} {st : St} {Q : AEx → St → Prop} : Hp.M xf xh kz (.code B35) k st Q = Hp.M xf xh kz (.code (.seq (.reg [⟨some 2, .mov (.k (.s [])), none⟩])
  (.seq (.reg [⟨some 3, .mov (.t 0), none⟩,
     ⟨some 4, .nilck (.t 3), none⟩,
     ⟨some 5, .faddr 1 (.t 4), none⟩,
     ⟨some 6, .load false 1 (.t 5), none⟩,
     ⟨some 7, .sdata (.t 6), none⟩,
     ⟨some 8, .mov (.t 0), none⟩,
     ⟨some 9, .nilck (.t 8), none⟩,
     ⟨some 10, .faddr 1 (.t 9), none⟩,
     ⟨some 11, .load false 1 (.t 10), none⟩,
     ⟨some 12, .len .slice (.t 11), none⟩,
     ⟨some 13, .ustr 5 (.t 7) (.t 12), none⟩,
     ⟨some 2, .mov (.t 13), none⟩])
  .ret))) k st Q := rfl
def kz35 (_ : Nat) : List Nat := []
theorem w_BS (nx : Nat) (obs : List (Nat × Ai.Obj)) (nt : Nat) (tips : List (Nat × (Nat × TypeId))) (id : Nat) (c : UInt8) (l : List UInt8) (t : Nat) (hm : l.length + 1 ≤ most) (ht : al tips t = some ((c :: l).length, 5))
    (ho : al obs id = some (Ai.Obj.cells 57 [.p id 0, .sl ((c :: l).map byteV) (c :: l).length (.own t)])) (gl : Nat → List V) :
    Hp.M noX noY (kz35) (.code B35) [] (St.init gl 4 [.p id 0] ⟨nx, obs, nt, tips⟩)
      (Hp.FinI [.tmp 2] (.s (c :: l)) ⟨nx, obs, nt, tips⟩) := by
  rw [UH35]
  have hb := bytesOf_map (c :: l)
  simp only [List.map_cons, List.length_cons, byteV] at ho ht hb
  have h0 : l.length + 1 ≠ 0 := by omega
  have hx : (l.map byteV).length = l.length := List.length_map ..
  simp only [ho, ht, hb, hm, h0, hx, go_sem, ne_eq, not_false_eq_true, reduceIte, Nat.reduceMul, Nat.reduceAdd, Nat.reduceSub, Nat.reduceEqDiff, Nat.reduceLeDiff, Nat.reduceLT, List.take_succ_cons, List.take_zero, List.drop_succ_cons, List.cons_append]
end Go.Proofs.YtbhclhgljnoioaaDoor
