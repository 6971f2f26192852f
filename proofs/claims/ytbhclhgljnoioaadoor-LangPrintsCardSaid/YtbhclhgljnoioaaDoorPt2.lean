/- The document's keys, values and names; the law on them. -/
import Derived.Test.YtbhclhgljnoioaaDoorPt1
set_option linter.unusedSimpArgs false
set_option linter.unusedVariables false
namespace Go.Proofs.YtbhclhgljnoioaaDoor
open Ai

theorem U123 {xf : FuncId → List V → Option V} {kz : Nat → List Nat} {k : List Fr} {st : St} {Q : AEx → St → Prop} : M xf kz (.code B123) k st Q = M xf kz (.code (.seq (.reg [⟨some 2, .mov (.k (.b false)), none⟩])
  (.seq (.reg [⟨some 3, .mov (.t 0), none⟩,
     ⟨some 4, .bin .gtr (.t 3) (.k (.i .i32 31)), none⟩,
     ⟨some 5, .mov (.t 4), none⟩,
     ⟨some 6, .mov (.t 0), some (5, true)⟩,
     ⟨some 7, .bin .neq (.t 6) (.k (.i .i32 127)), some (5, true)⟩,
     ⟨some 8, .pick (.t 5) (.t 7) (.k (.b false)), none⟩,
     ⟨some 9, .mov (.t 8), none⟩,
     ⟨some 10, .mov (.t 0), some (9, true)⟩,
     ⟨some 11, .bin .neq (.t 10) (.k (.i .i32 65533)), some (9, true)⟩,
     ⟨some 12, .pick (.t 9) (.t 11) (.k (.b false)), none⟩,
     ⟨some 2, .mov (.t 12), none⟩])
  .ret))) k st Q := rfl
def kz123 (_ : Nat) : List Nat := []
theorem w_rplain (n : Nat) (gl : Nat → List V) : M noX (kz123) (.code B123) [] (St.init gl 4 [.i .i32 n] {}) (Fin [.tmp 2] (.b (plain n))) := by
  rw [U123]
  have e : decide ((31 : Int) < n) = decide ((32 : Int) ≤ n) := decide_eq_decide.2 (by omega)
  simp only [e, go_sem, ne_eq, not_false_eq_true, reduceIte, Nat.reduceMul, Nat.reduceAdd, Nat.reduceSub, Nat.reduceEqDiff, Nat.reduceLeDiff, Nat.reduceLT, List.take_succ_cons, List.take_zero, List.drop_succ_cons, List.cons_append]
  refine G_split _ _ _ _ _ ?_ ?_ <;> intro h1 <;> simp only [h1, go_sem, ne_eq, not_false_eq_true, reduceIte, Nat.reduceMul, Nat.reduceAdd, Nat.reduceSub, Nat.reduceEqDiff, Nat.reduceLeDiff, Nat.reduceLT, List.take_succ_cons, List.take_zero, List.drop_succ_cons, List.cons_append]
  · refine G_split _ _ _ _ _ ?_ ?_ <;> intro h2 <;> simp only [h2, go_sem, ne_eq, not_false_eq_true, reduceIte, Nat.reduceMul, Nat.reduceAdd, Nat.reduceSub, Nat.reduceEqDiff, Nat.reduceLeDiff, Nat.reduceLT, List.take_succ_cons, List.take_zero, List.drop_succ_cons, List.cons_append]
    · simp only [plain, h1, h2, Bool.true_and]
    · simp only [plain, h1, h2, Bool.true_and, Bool.false_and]
  · simp only [plain, h1, Bool.false_and]
theorem c_rplain (n : Nat) : Comp tabx told 123 [.i .i32 n] (.b (plain n)) := comp_of tells_noX (fn := af123) rfl (Nat.le_of_ble_eq_true rfl) fun gl => w_rplain n gl

def K122_1 : List Fr := [.blk 0,
  .seq (.seq (.reg [⟨some 15, .mov (.t 3), none⟩,
       ⟨some 2, .mov (.t 15), none⟩])
    .ret)]
theorem U122_1 {xf : FuncId → List V → Option V} {kz : Nat → List Nat} {k : List Fr} {st : St} {Q : AEx → St → Prop} : M xf kz (.code L122_1) k st Q = M xf kz (.code (.seq (.reg [⟨some 8, .next 7, none⟩,
     ⟨some 9, .ext (.t 8) 0, none⟩])
  (.seq (.cond (.t 9)
    .skip
    (.exit 0))
  (.blk 1 (.seq (.reg [⟨some 10, .ext (.t 8) 2, none⟩,
      ⟨some 5, .mov (.t 10), none⟩])
   (.reg [⟨some 11, .mov (.t 3), none⟩,
     ⟨some 12, .mov (.t 5), none⟩,
     ⟨some 13, .bslice false 21 1 1 [(.i .i32 0)] [(0, (.t 12))], none⟩,
     ⟨some 14, .app 21 1 (.t 11) (.t 13), none⟩,
     ⟨some 3, .mov (.t 14), none⟩])))))) k st Q := rfl
theorem U122 {xf : FuncId → List V → Option V} {kz : Nat → List Nat} {k : List Fr} {st : St} {Q : AEx → St → Prop} : M xf kz (.code B122) k st Q = M xf kz (.code (.seq (.reg [⟨some 2, .movnil 21, none⟩])
  (.seq (.reg [⟨some 3, .movnil 21, none⟩])
  (.seq (.seq (.reg [⟨some 6, .mov (.t 0), none⟩,
      ⟨some 7, .range (.t 6), none⟩])
   (.blk 0 (.loop L122_1)))
  (.seq (.reg [⟨some 15, .mov (.t 3), none⟩,
     ⟨some 2, .mov (.t 15), none⟩])
  .ret))))) k st Q := rfl
def kz122 (_ : Nat) : List Nat := [0, 1, 2, 4, 5, 6, 8, 9, 10, 11, 12, 13, 14, 15]
theorem w_Runes_loop (gl : Nat → List V) : ∀ (l : List UInt8) (xs : List Nat) (pos : Nat), xs.length + l.length ≤ 16384 →
    M noX (kz122) (.code L122_1) (.loop L122_1 :: K122_1) ⟨gl, (.node (.node (.node (.node (.node .leaf .any .leaf) (.it) (.node .leaf .any .leaf)) (.sl (xs.map rv) xs.length (.own 1)) (.node (.node .leaf .any .leaf) .any (.node .leaf .any .leaf))) .any (.node (.node (.node .leaf .any .leaf) .any (.node .leaf .any .leaf)) .any (.node (.node .leaf .any .leaf) .any (.node .leaf .any .leaf)))) .any (.node (.node (.node (.node .leaf .any .leaf) .any (.node .leaf .any .leaf)) .any (.node (.node .leaf .any .leaf) .any (.node .leaf .any .leaf))) .any (.node (.node (.node .leaf .any .leaf) .any (.node .leaf .any .leaf)) .any (.node (.node .leaf .any .leaf) .any (.node .leaf .any .leaf))))), [(7, (l, pos))], [], ⟨0, [], 2, [(1, (xs.length, 21)), (0, (0, 21))]⟩⟩
      (Fin [.tmp 2] (.sl ((xs ++ rns l).map rv) (xs ++ rns l).length .no)) := by
  intro l
  induction l using rune_ind with
  | h0 =>
    intro xs pos hn
    rw [U122_1]
    simp only [K122_1, go_sem, ne_eq, not_false_eq_true, reduceIte, Nat.reduceMul, Nat.reduceAdd, Nat.reduceSub, Nat.reduceEqDiff, Nat.reduceLeDiff, Nat.reduceLT, List.take_succ_cons, List.take_zero, List.drop_succ_cons, List.cons_append]
    rw [frz_rvs]
    simp [rns_nil]
  | h1 a r ih =>
    intro xs pos hn
    rw [U122_1]
    have e1 : (xs.map rv).length = xs.length := List.length_map ..
    have e2 : xs.length + 1 ≤ most := by unfold most; have : (a :: r).length ≥ 1 := by simp
                                         omega
    simp only [e1, e2, go_sem, ne_eq, not_false_eq_true, reduceIte, Nat.reduceMul, Nat.reduceAdd, Nat.reduceSub, Nat.reduceEqDiff, Nat.reduceLeDiff, Nat.reduceLT, List.take_succ_cons, List.take_zero, List.drop_succ_cons, List.cons_append]
    rw [M_loop]
    simp only [kz122, go_sem, ne_eq, not_false_eq_true, reduceIte, Nat.reduceMul, Nat.reduceAdd, Nat.reduceSub, Nat.reduceEqDiff, Nat.reduceLeDiff, Nat.reduceLT, List.take_succ_cons, List.take_zero, List.drop_succ_cons, List.cons_append]
    have := ih (xs ++ [(dec (a :: r)).1]) (pos + (dec (a :: r)).2) (by
      have := dec_nil_free a r
      simp only [List.length_append, List.length_cons, List.length_nil] at hn ⊢
      simp only [List.length_cons] at this
      omega)
    rw [rns_cons]
    simpa [rv] using this
theorem w_Runes (l : List UInt8) (hl : l.length ≤ 16384) (gl : Nat → List V) : M noX (kz122) (.code B122) [] (St.init gl 5 [.s l] {}) (Fin [.tmp 2] (.sl ((rns l).map rv) (rns l).length .no)) := by
  rw [U122]
  simp only [go_sem, ne_eq, not_false_eq_true, reduceIte, Nat.reduceMul, Nat.reduceAdd, Nat.reduceSub, Nat.reduceEqDiff, Nat.reduceLeDiff, Nat.reduceLT, List.take_succ_cons, List.take_zero, List.drop_succ_cons, List.cons_append]
  rw [M_loop]
  simp only [kz122, go_sem, ne_eq, not_false_eq_true, reduceIte, Nat.reduceMul, Nat.reduceAdd, Nat.reduceSub, Nat.reduceEqDiff, Nat.reduceLeDiff, Nat.reduceLT, List.take_succ_cons, List.take_zero, List.drop_succ_cons, List.cons_append]
  exact w_Runes_loop gl l [] 0 (by simpa using hl)
theorem c_Runes (l : List UInt8) (hl : l.length ≤ 16384) : Comp tabx told 122 [.s l] (.sl ((rns l).map rv) (rns l).length .no) := comp_of tells_noX (fn := af122) rfl (Nat.le_of_ble_eq_true rfl) fun gl => w_Runes l hl gl

def F_Runes (a : List V) : Option V := match a with
  | [.s l] => if l.length ≤ 16384 then some (.sl ((rns l).map rv) (rns l).length .no) else none
  | _ => none
theorem F_Runes1 (l : List UInt8) (h : l.length ≤ 16384) : F_Runes [.s l] = some (.sl ((rns l).map rv) (rns l).length .no) := by simp [F_Runes, h]
theorem o_Runes : ∀ a v, F_Runes a = some v → Comp tabx told 122 a v := fun a v e => by
  unfold F_Runes at e
  split at e
  · split at e
    · rename_i h; cases e; exact c_Runes _ h
    · cases e
  · cases e
def F_rplain (a : List V) : Option V := match a with
  | [.i .i32 (Int.ofNat n)] => some (.b (plain n))
  | _ => none
theorem F_rplain1 (n : Nat) : F_rplain [.i .i32 (n : Int)] = some (.b (plain n)) := rfl
theorem o_rplain : ∀ a v, F_rplain a = some v → Comp tabx told 123 a v := fun a v e => by
  unfold F_rplain at e
  split at e
  · cases e; exact c_rplain _
  · cases e
def X_many := xs [(122, F_Runes), (123, F_rplain)]
theorem t_many : Tells tabx told X_many := tells_cons o_Runes (tells_cons o_rplain tells_nil)

def K120_1 : List Fr := [.blk 0,
  .seq (.seq (.reg [⟨some 35, .mov (.t 8), none⟩,
       ⟨some 6, .mov (.t 35), none⟩])
    .ret)]
theorem U120_1 {xf : FuncId → List V → Option V} {kz : Nat → List Nat} {k : List Fr} {st : St} {Q : AEx → St → Prop} : M xf kz (.code L120_1) k st Q = M xf kz (.code (.seq (.reg [⟨some 26, .bin .lss (.t 25) (.t 24), none⟩])
  (.seq (.cond (.t 26)
    .skip
    (.exit 0))
  (.seq (.blk 1 (.seq (.reg [⟨some 27, .iaddr (.slice 1) (.t 23) (.t 25), none⟩,
       ⟨some 28, .load false 1 (.t 27), none⟩,
       ⟨some 10, .mov (.t 28), none⟩])
    (.reg [⟨some 29, .mov (.t 8), none⟩,
      ⟨some 30, .mov (.t 29), none⟩,
      ⟨some 31, .mov (.t 10), some (30, true)⟩,
      ⟨some 32, .call true 123 [(.t 31)], some (30, true)⟩,
      ⟨some 33, .pick (.t 30) (.t 32) (.k (.b false)), none⟩,
      ⟨some 8, .mov (.t 33), none⟩])))
  (.reg [⟨some 34, .bin .add (.t 25) (.k (.i .i64 1)), none⟩,
    ⟨some 25, .mov (.t 34), none⟩]))))) k st Q := rfl
theorem U120 {xf : FuncId → List V → Option V} {kz : Nat → List Nat} {k : List Fr} {st : St} {Q : AEx → St → Prop} : M xf kz (.code B120) k st Q = M xf kz (.code (.seq (.reg [⟨some 6, .mov (.k (.b false)), none⟩])
  (.seq (.reg [⟨some 11, .mov (.t 0), none⟩,
     ⟨some 12, .call true 122 [(.t 11)], none⟩,
     ⟨some 7, .mov (.t 12), none⟩])
  (.seq (.reg [⟨some 13, .mov (.t 7), none⟩,
     ⟨some 14, .len .slice (.t 13), none⟩,
     ⟨some 15, .mov (.t 1), none⟩,
     ⟨some 16, .bin .geq (.t 14) (.t 15), none⟩,
     ⟨some 17, .mov (.t 16), none⟩,
     ⟨some 18, .mov (.t 7), some (17, true)⟩,
     ⟨some 19, .len .slice (.t 18), some (17, true)⟩,
     ⟨some 20, .mov (.t 2), some (17, true)⟩,
     ⟨some 21, .bin .leq (.t 19) (.t 20), some (17, true)⟩,
     ⟨some 22, .pick (.t 17) (.t 21) (.k (.b false)), none⟩,
     ⟨some 8, .mov (.t 22), none⟩])
  (.seq (.seq (.reg [⟨some 23, .mov (.t 7), none⟩,
      ⟨some 24, .len .slice (.t 23), none⟩,
      ⟨some 25, .mov (.k (.i .i64 0)), none⟩])
   (.blk 0 (.loop L120_1)))
  (.seq (.reg [⟨some 35, .mov (.t 8), none⟩,
     ⟨some 6, .mov (.t 35), none⟩])
  .ret)))))) k st Q := rfl
def kz120 (_ : Nat) : List Nat := [0, 1, 2, 3, 4, 5, 6, 7, 9, 10, 11, 12, 13, 14, 15, 16, 17, 18, 19, 20, 21, 22, 26, 27, 28, 29, 30, 31, 32, 33, 34, 35]
theorem w_many_loop (rs : List Nat) (hr : rs.length ≤ 16384) (gl : Nat → List V) : ∀ (k i : Nat) (acc : Bool), i + k = rs.length → ∀ its h,
    M X_many (kz120) (.code L120_1) (.loop L120_1 :: K120_1) ⟨gl, (.node (.node (.node (.node (.node (.node .leaf .any .leaf) .any (.node .leaf .any .leaf)) .any (.node (.node .leaf .any .leaf) (.sl (rs.map rv) rs.length .no) (.node .leaf .any .leaf))) .any (.node (.node (.node .leaf .any .leaf) .any (.node .leaf .any .leaf)) .any (.node (.node .leaf .any .leaf) .any (.node .leaf .any .leaf)))) .any (.node (.node (.node (.node .leaf .any .leaf) .any (.node .leaf .any .leaf)) .any (.node (.node .leaf .any .leaf) (.i .i64 i) (.node .leaf .any .leaf))) .any (.node (.node (.node .leaf .any .leaf) .any (.node .leaf .any .leaf)) .any (.node (.node .leaf .any .leaf) .any (.node .leaf .any .leaf))))) .any (.node (.node (.node (.node (.node .leaf .any .leaf) .any (.node .leaf .any .leaf)) (.b acc) (.node (.node .leaf .any .leaf) (.i .i64 rs.length) (.node .leaf .any .leaf))) .any (.node (.node (.node .leaf .any .leaf) .any (.node .leaf .any .leaf)) .any (.node (.node .leaf .any .leaf) .any (.node .leaf .any .leaf)))) .any (.node (.node (.node (.node .leaf .any .leaf) .any (.node .leaf .any .leaf)) .any (.node (.node .leaf .any .leaf) .any (.node .leaf .any .leaf))) .any (.node (.node (.node .leaf .any .leaf) .any (.node .leaf .any .leaf)) .any (.node (.node .leaf .any .leaf) .any (.node .leaf .any .leaf)))))), its, [], h⟩
      (Fin [.tmp 6] (.b (acc && (rs.drop i).all plain))) := by
  intro k
  induction k with
  | zero =>
    intro i acc hi its h
    rw [U120_1]
    have e1 : decide ((i : Int) < rs.length) = false := by simp; omega
    simp only [e1, K120_1, go_sem, ne_eq, not_false_eq_true, reduceIte, Nat.reduceMul, Nat.reduceAdd, Nat.reduceSub, Nat.reduceEqDiff, Nat.reduceLeDiff, Nat.reduceLT, List.take_succ_cons, List.take_zero, List.drop_succ_cons, List.cons_append]
    rw [List.drop_eq_nil_of_le (by omega)]
    simp
  | succ k ih =>
    intro i acc hi its h
    rw [U120_1]
    have hlt : i < rs.length := by omega
    have e1 : decide ((i : Int) < rs.length) = true := by simp; omega
    have e2 : i + 1 ≤ (rs.map rv).length := by simp; omega
    have e3 : (rs.map rv)[i]? = some (.i .i32 ((rs[i] : Nat) : Int)) := by simp [rv, hlt]
    have e4 : wr .i64 ((i : Int) + 1) = ((i + 1 : Nat) : Int) := by rw [wr64] <;> omega
    cases acc with
    | true =>
      simp only [e1, e2, e3, e4, hlt, X_many, F_rplain1, go_sem, ne_eq, not_false_eq_true, reduceIte, Nat.reduceMul, Nat.reduceAdd, Nat.reduceSub, Nat.reduceEqDiff, Nat.reduceLeDiff, Nat.reduceLT, List.take_succ_cons, List.take_zero, List.drop_succ_cons, List.cons_append]
      rw [M_loop]
      simp only [kz120, e4, go_sem, ne_eq, not_false_eq_true, reduceIte, Nat.reduceMul, Nat.reduceAdd, Nat.reduceSub, Nat.reduceEqDiff, Nat.reduceLeDiff, Nat.reduceLT, List.take_succ_cons, List.take_zero, List.drop_succ_cons, List.cons_append]
      rw [show (rs.drop i).all plain = (plain rs[i] && (rs.drop (i + 1)).all plain) from by rw [List.drop_eq_getElem_cons hlt, List.all_cons]]
      exact ih (i + 1) _ (by omega) _ _
    | false =>
      simp only [e1, e2, e3, e4, hlt, go_sem, ne_eq, not_false_eq_true, reduceIte, Nat.reduceMul, Nat.reduceAdd, Nat.reduceSub, Nat.reduceEqDiff, Nat.reduceLeDiff, Nat.reduceLT, List.take_succ_cons, List.take_zero, List.drop_succ_cons, List.cons_append]
      rw [M_loop]
      simp only [kz120, e4, go_sem, ne_eq, not_false_eq_true, reduceIte, Nat.reduceMul, Nat.reduceAdd, Nat.reduceSub, Nat.reduceEqDiff, Nat.reduceLeDiff, Nat.reduceLT, List.take_succ_cons, List.take_zero, List.drop_succ_cons, List.cons_append]
      exact ih (i + 1) _ (by omega) _ _
theorem w_many (l : List UInt8) (lo hi : Nat) (hl : l.length ≤ 16384) (gl : Nat → List V) : M X_many (kz120) (.code B120) [] (St.init gl 6 [.s l, .i .i64 lo, .i .i64 hi] {}) (Fin [.tmp 6] (.b (allV plain lo hi l))) := by
  rw [U120]
  have hr : (rns l).length ≤ 16384 := Nat.le_trans (rns_le l) hl
  simp only [X_many, F_Runes1 l hl, go_sem, ne_eq, not_false_eq_true, reduceIte, Nat.reduceMul, Nat.reduceAdd, Nat.reduceSub, Nat.reduceEqDiff, Nat.reduceLeDiff, Nat.reduceLT, List.take_succ_cons, List.take_zero, List.drop_succ_cons, List.cons_append]
  have e : allV plain lo hi l = (decide (((lo : Nat) : Int) ≤ (rns l).length) && (decide ((((rns l).length : Nat) : Int) ≤ hi) && (rns l).all plain)) := by simp [allV]
  refine G_split _ _ _ _ _ ?_ ?_ <;> intro h1 <;> simp only [h1, go_sem, ne_eq, not_false_eq_true, reduceIte, Nat.reduceMul, Nat.reduceAdd, Nat.reduceSub, Nat.reduceEqDiff, Nat.reduceLeDiff, Nat.reduceLT, List.take_succ_cons, List.take_zero, List.drop_succ_cons, List.cons_append]
  · rw [M_loop]
    simp only [kz120, go_sem, ne_eq, not_false_eq_true, reduceIte, Nat.reduceMul, Nat.reduceAdd, Nat.reduceSub, Nat.reduceEqDiff, Nat.reduceLeDiff, Nat.reduceLT, List.take_succ_cons, List.take_zero, List.drop_succ_cons, List.cons_append]
    have := w_many_loop (rns l) hr gl (rns l).length 0 (decide (((rns l).length : Int) ≤ hi)) (by omega) [] {}
    rw [e, h1, Bool.true_and]
    exact this
  · rw [M_loop]
    simp only [kz120, go_sem, ne_eq, not_false_eq_true, reduceIte, Nat.reduceMul, Nat.reduceAdd, Nat.reduceSub, Nat.reduceEqDiff, Nat.reduceLeDiff, Nat.reduceLT, List.take_succ_cons, List.take_zero, List.drop_succ_cons, List.cons_append]
    have := w_many_loop (rns l) hr gl (rns l).length 0 false (by omega) [] {}
    rw [e, h1]
    exact this
theorem c_many (l : List UInt8) (lo hi : Nat) (hl : l.length ≤ 16384) : Comp tabx told 120 [.s l, .i .i64 lo, .i .i64 hi] (.b (allV plain lo hi l)) := comp_of t_many (fn := af120) rfl (Nat.le_of_ble_eq_true rfl) fun gl => w_many l lo hi hl gl
def F_many (a : List V) : Option V := match a with
  | [.s l, .i .i64 (Int.ofNat lo), .i .i64 (Int.ofNat hi)] => if l.length ≤ 16384 then some (.b (allV plain lo hi l)) else none
  | _ => none
theorem F_many1 (l : List UInt8) (h : l.length ≤ 16384) : F_many [.s l, .i .i64 1, .i .i64 24] = some (.b (allV plain 1 24 l)) := if_pos h
theorem F_many2 (l : List UInt8) (h : l.length ≤ 16384) : F_many [.s l, .i .i64 0, .i .i64 48] = some (.b (allV plain 0 48 l)) := if_pos h
theorem o_many : ∀ a v, F_many a = some v → Comp tabx told 120 a v := fun a v e => by
  unfold F_many at e
  split at e
  · split at e
    · rename_i h; cases e; exact c_many _ _ _ h
    · cases e
  · cases e
def X_rkey := xs [(120, F_many)]
theorem t_rkey : Tells tabx told X_rkey := tells_cons o_many tells_nil

theorem U107 {xf : FuncId → List V → Option V} {kz : Nat → List Nat} {k : List Fr} {st : St} {Q : AEx → St → Prop} : M xf kz (.code B107) k st Q = M xf kz (.code (.seq (.reg [⟨some 2, .mov (.k (.i .i64 0)), none⟩])
  (.seq (.seq (.reg [⟨some 3, .mov (.t 0), none⟩,
      ⟨some 4, .call true 120 [(.t 3), (.k (.i .i64 1)), (.k (.i .i64 24))], none⟩,
      ⟨some 5, .un .not (.t 4), none⟩])
   (.cond (.t 5)
    (.seq (.reg [⟨some 2, .mov (.k (.i .i64 20)), none⟩])
    .ret)
    .skip))
  (.seq (.reg [⟨some 2, .mov (.k (.i .i64 0)), none⟩])
  .ret)))) k st Q := rfl
def kz107 (_ : Nat) : List Nat := []
theorem w_rKey (l : List UInt8) (hl : l.length ≤ 16384) (gl : Nat → List V) : M X_rkey (kz107) (.code B107) [] (St.init gl 3 [.s l] {}) (Fin [.tmp 2] (.i .i64 (errV (allV plain 1 24 l) 20))) := by
  rw [U107]
  simp only [X_rkey, F_many1 l hl, go_sem, ne_eq, not_false_eq_true, reduceIte, Nat.reduceMul, Nat.reduceAdd, Nat.reduceSub, Nat.reduceEqDiff, Nat.reduceLeDiff, Nat.reduceLT, List.take_succ_cons, List.take_zero, List.drop_succ_cons, List.cons_append]
  refine B_split _ _ _ ?_ ?_ <;> intro h <;> simp only [h, go_sem, ne_eq, not_false_eq_true, reduceIte, Nat.reduceMul, Nat.reduceAdd, Nat.reduceSub, Nat.reduceEqDiff, Nat.reduceLeDiff, Nat.reduceLT, List.take_succ_cons, List.take_zero, List.drop_succ_cons, List.cons_append]
  · simp only [Bool.not_eq_true'] at h
    simp [errV, h]
  · simp only [Bool.not_eq_false'] at h
    simp [errV, h]
theorem c_rKey (l : List UInt8) (hl : l.length ≤ 16384) : Comp tabx told 107 [.s l] (.i .i64 (errV (allV plain 1 24 l) 20)) := comp_of t_rkey (fn := af107) rfl (Nat.le_of_ble_eq_true rfl) fun gl => w_rKey l hl gl

theorem U109 {xf : FuncId → List V → Option V} {kz : Nat → List Nat} {k : List Fr} {st : St} {Q : AEx → St → Prop} : M xf kz (.code B109) k st Q = M xf kz (.code (.seq (.reg [⟨some 2, .mov (.k (.i .i64 0)), none⟩])
  (.seq (.seq (.reg [⟨some 3, .mov (.t 0), none⟩,
      ⟨some 4, .call true 120 [(.t 3), (.k (.i .i64 0)), (.k (.i .i64 48))], none⟩,
      ⟨some 5, .un .not (.t 4), none⟩])
   (.cond (.t 5)
    (.seq (.reg [⟨some 2, .mov (.k (.i .i64 21)), none⟩])
    .ret)
    .skip))
  (.seq (.reg [⟨some 2, .mov (.k (.i .i64 0)), none⟩])
  .ret)))) k st Q := rfl
def kz109 (_ : Nat) : List Nat := []
theorem w_rValue (l : List UInt8) (hl : l.length ≤ 16384) (gl : Nat → List V) : M X_rkey (kz109) (.code B109) [] (St.init gl 3 [.s l] {}) (Fin [.tmp 2] (.i .i64 (errV (allV plain 0 48 l) 21))) := by
  rw [U109]
  simp only [X_rkey, F_many2 l hl, go_sem, ne_eq, not_false_eq_true, reduceIte, Nat.reduceMul, Nat.reduceAdd, Nat.reduceSub, Nat.reduceEqDiff, Nat.reduceLeDiff, Nat.reduceLT, List.take_succ_cons, List.take_zero, List.drop_succ_cons, List.cons_append]
  refine B_split _ _ _ ?_ ?_ <;> intro h <;> simp only [h, go_sem, ne_eq, not_false_eq_true, reduceIte, Nat.reduceMul, Nat.reduceAdd, Nat.reduceSub, Nat.reduceEqDiff, Nat.reduceLeDiff, Nat.reduceLT, List.take_succ_cons, List.take_zero, List.drop_succ_cons, List.cons_append]
  · simp only [Bool.not_eq_true'] at h
    simp [errV, h]
  · simp only [Bool.not_eq_false'] at h
    simp [errV, h]
theorem c_rValue (l : List UInt8) (hl : l.length ≤ 16384) : Comp tabx told 109 [.s l] (.i .i64 (errV (allV plain 0 48 l) 21)) := comp_of t_rkey (fn := af109) rfl (Nat.le_of_ble_eq_true rfl) fun gl => w_rValue l hl gl

/-! ### The document's Name: byte by byte -/
def az (c : UInt8) : Bool := decide ((97 : Int) ≤ (c.toNat : Int)) && decide ((c.toNat : Int) ≤ 122)
def nameV (l : List UInt8) : Bool := decide (1 ≤ l.length) && (decide (l.length ≤ 8) && l.all az)

def K108_1 : List Fr := [.blk 0,
  .seq (.seq (.seq (.reg [⟨some 32, .mov (.t 3), none⟩,
        ⟨some 33, .un .not (.t 32), none⟩])
     (.cond (.t 33)
      (.seq (.reg [⟨some 2, .mov (.k (.i .i64 22)), none⟩])
      .ret)
      .skip))
    (.seq (.reg [⟨some 2, .mov (.k (.i .i64 0)), none⟩])
    .ret))]
theorem U108_1 {xf : FuncId → List V → Option V} {kz : Nat → List Nat} {k : List Fr} {st : St} {Q : AEx → St → Prop} : M xf kz (.code L108_1) k st Q = M xf kz (.code (.seq (.reg [⟨some 16, .bin .lss (.t 15) (.t 14), none⟩])
  (.seq (.cond (.t 16)
    .skip
    (.exit 0))
  (.seq (.blk 1 (.seq (.reg [⟨some 17, .mov (.t 15), none⟩,
       ⟨some 4, .mov (.t 17), none⟩])
    (.reg [⟨some 18, .mov (.t 3), none⟩,
      ⟨some 19, .mov (.t 18), none⟩,
      ⟨some 20, .mov (.t 0), some (19, true)⟩,
      ⟨some 21, .mov (.t 4), some (19, true)⟩,
      ⟨some 22, .idx .str (.t 20) (.t 21), some (19, true)⟩,
      ⟨some 23, .bin .geq (.t 22) (.k (.i .u8 97)), some (19, true)⟩,
      ⟨some 24, .pick (.t 19) (.t 23) (.k (.b false)), none⟩,
      ⟨some 25, .mov (.t 24), none⟩,
      ⟨some 26, .mov (.t 0), some (25, true)⟩,
      ⟨some 27, .mov (.t 4), some (25, true)⟩,
      ⟨some 28, .idx .str (.t 26) (.t 27), some (25, true)⟩,
      ⟨some 29, .bin .leq (.t 28) (.k (.i .u8 122)), some (25, true)⟩,
      ⟨some 30, .pick (.t 25) (.t 29) (.k (.b false)), none⟩,
      ⟨some 3, .mov (.t 30), none⟩])))
  (.reg [⟨some 31, .bin .add (.t 15) (.k (.i .i64 1)), none⟩,
    ⟨some 15, .mov (.t 31), none⟩]))))) k st Q := rfl
theorem U108 {xf : FuncId → List V → Option V} {kz : Nat → List Nat} {k : List Fr} {st : St} {Q : AEx → St → Prop} : M xf kz (.code B108) k st Q = M xf kz (.code (.seq (.reg [⟨some 2, .mov (.k (.i .i64 0)), none⟩])
  (.seq (.reg [⟨some 5, .mov (.t 0), none⟩,
     ⟨some 6, .len .str (.t 5), none⟩,
     ⟨some 7, .bin .geq (.t 6) (.k (.i .i64 1)), none⟩,
     ⟨some 8, .mov (.t 7), none⟩,
     ⟨some 9, .mov (.t 0), some (8, true)⟩,
     ⟨some 10, .len .str (.t 9), some (8, true)⟩,
     ⟨some 11, .bin .leq (.t 10) (.k (.i .i64 8)), some (8, true)⟩,
     ⟨some 12, .pick (.t 8) (.t 11) (.k (.b false)), none⟩,
     ⟨some 3, .mov (.t 12), none⟩])
  (.seq (.seq (.reg [⟨some 13, .mov (.t 0), none⟩,
      ⟨some 14, .len .str (.t 13), none⟩,
      ⟨some 15, .mov (.k (.i .i64 0)), none⟩])
   (.blk 0 (.loop L108_1)))
  (.seq (.seq (.reg [⟨some 32, .mov (.t 3), none⟩,
      ⟨some 33, .un .not (.t 32), none⟩])
   (.cond (.t 33)
    (.seq (.reg [⟨some 2, .mov (.k (.i .i64 22)), none⟩])
    .ret)
    .skip))
  (.seq (.reg [⟨some 2, .mov (.k (.i .i64 0)), none⟩])
  .ret)))))) k st Q := rfl
def kz108 (_ : Nat) : List Nat := [1, 2, 4, 5, 6, 7, 8, 9, 10, 11, 12, 13, 16, 17, 18, 19, 20, 21, 22, 23, 24, 25, 26, 27, 28, 29, 30, 31, 32, 33]
theorem w_rName_loop (l : List UInt8) (hl : l.length ≤ 16384) (gl : Nat → List V) : ∀ (k i : Nat) (acc : Bool), i + k = l.length → ∀ its h,
    M noX (kz108) (.code L108_1) (.loop L108_1 :: K108_1) ⟨gl, (.node (.node (.node (.node (.node (.node .leaf .any .leaf) (.i .i64 i) (.node .leaf .any .leaf)) .any (.node (.node .leaf .any .leaf) .any (.node .leaf .any .leaf))) (.b acc) (.node (.node (.node .leaf .any .leaf) .any (.node .leaf .any .leaf)) .any (.node (.node .leaf .any .leaf) .any (.node .leaf .any .leaf)))) .any (.node (.node (.node (.node .leaf .any .leaf) .any (.node .leaf .any .leaf)) .any (.node (.node .leaf .any .leaf) .any (.node .leaf .any .leaf))) .any (.node (.node (.node .leaf .any .leaf) .any (.node .leaf .any .leaf)) .any (.node (.node .leaf .any .leaf) .any (.node .leaf .any .leaf))))) (.s l) (.node (.node (.node (.node (.node .leaf .any .leaf) .any (.node .leaf .any .leaf)) .any (.node (.node .leaf .any .leaf) .any (.node .leaf .any .leaf))) .any (.node (.node (.node .leaf .any .leaf) .any (.node .leaf .any .leaf)) .any (.node (.node .leaf .any .leaf) .any (.node .leaf .any .leaf)))) .any (.node (.node (.node (.node .leaf .any .leaf) .any (.node .leaf .any .leaf)) .any (.node (.node .leaf .any .leaf) .any (.node .leaf .any .leaf))) .any (.node (.node (.node .leaf .any .leaf) .any (.node .leaf .any .leaf)) (.i .i64 l.length) (.node (.node .leaf .any .leaf) .any (.node .leaf .any .leaf)))))), its, [], h⟩
      (Fin [.tmp 2] (.i .i64 (errV (acc && (l.drop i).all az) 22))) := by
  intro k
  induction k with
  | zero =>
    intro i acc hi its h
    rw [U108_1]
    have e1 : decide ((i : Int) < l.length) = false := by simp; omega
    simp only [e1, K108_1, go_sem, ne_eq, not_false_eq_true, reduceIte, Nat.reduceMul, Nat.reduceAdd, Nat.reduceSub, Nat.reduceEqDiff, Nat.reduceLeDiff, Nat.reduceLT, List.take_succ_cons, List.take_zero, List.drop_succ_cons, List.cons_append]
    rw [List.drop_eq_nil_of_le (by omega)]
    cases acc <;> simp only [go_sem, ne_eq, not_false_eq_true, reduceIte, Nat.reduceMul, Nat.reduceAdd, Nat.reduceSub, Nat.reduceEqDiff, Nat.reduceLeDiff, Nat.reduceLT, List.take_succ_cons, List.take_zero, List.drop_succ_cons, List.cons_append] <;> simp [errV]
  | succ k ih =>
    intro i acc hi its h
    rw [U108_1]
    have hlt : i < l.length := by omega
    have e1 : decide ((i : Int) < l.length) = true := by simp; omega
    have e3 : l[i]? = some l[i] := by simp [hlt]
    have e4 : wr .i64 ((i : Int) + 1) = ((i + 1 : Nat) : Int) := by rw [wr64] <;> omega
    have key : (l.drop i).all az = (az l[i] && (l.drop (i + 1)).all az) := by rw [List.drop_eq_getElem_cons hlt, List.all_cons]
    cases acc with
    | true =>
      simp only [e1, e3, e4, hlt, go_sem, ne_eq, not_false_eq_true, reduceIte, Nat.reduceMul, Nat.reduceAdd, Nat.reduceSub, Nat.reduceEqDiff, Nat.reduceLeDiff, Nat.reduceLT, List.take_succ_cons, List.take_zero, List.drop_succ_cons, List.cons_append]
      rw [key]
      refine G_split _ _ _ _ _ ?_ ?_ <;> intro h1 <;> simp only [h1, e3, e4, az, go_sem, ne_eq, not_false_eq_true, reduceIte, Nat.reduceMul, Nat.reduceAdd, Nat.reduceSub, Nat.reduceEqDiff, Nat.reduceLeDiff, Nat.reduceLT, List.take_succ_cons, List.take_zero, List.drop_succ_cons, List.cons_append]
      · rw [M_loop]
        simp only [kz108, e4, go_sem, ne_eq, not_false_eq_true, reduceIte, Nat.reduceMul, Nat.reduceAdd, Nat.reduceSub, Nat.reduceEqDiff, Nat.reduceLeDiff, Nat.reduceLT, List.take_succ_cons, List.take_zero, List.drop_succ_cons, List.cons_append]
        have := ih (i + 1) (decide (((l[i]).toNat : Int) ≤ 122)) (by omega) its h
        exact this
      · rw [M_loop]
        simp only [kz108, e4, go_sem, ne_eq, not_false_eq_true, reduceIte, Nat.reduceMul, Nat.reduceAdd, Nat.reduceSub, Nat.reduceEqDiff, Nat.reduceLeDiff, Nat.reduceLT, List.take_succ_cons, List.take_zero, List.drop_succ_cons, List.cons_append]
        exact ih (i + 1) false (by omega) its h
    | false =>
      simp only [e1, e3, e4, hlt, go_sem, ne_eq, not_false_eq_true, reduceIte, Nat.reduceMul, Nat.reduceAdd, Nat.reduceSub, Nat.reduceEqDiff, Nat.reduceLeDiff, Nat.reduceLT, List.take_succ_cons, List.take_zero, List.drop_succ_cons, List.cons_append]
      rw [M_loop]
      simp only [kz108, e4, go_sem, ne_eq, not_false_eq_true, reduceIte, Nat.reduceMul, Nat.reduceAdd, Nat.reduceSub, Nat.reduceEqDiff, Nat.reduceLeDiff, Nat.reduceLT, List.take_succ_cons, List.take_zero, List.drop_succ_cons, List.cons_append]
      exact ih (i + 1) _ (by omega) _ _
theorem w_rName (l : List UInt8) (hl : l.length ≤ 16384) (gl : Nat → List V) : M noX (kz108) (.code B108) [] (St.init gl 6 [.s l] {}) (Fin [.tmp 2] (.i .i64 (errV (nameV l) 22))) := by
  rw [U108]
  simp only [go_sem, ne_eq, not_false_eq_true, reduceIte, Nat.reduceMul, Nat.reduceAdd, Nat.reduceSub, Nat.reduceEqDiff, Nat.reduceLeDiff, Nat.reduceLT, List.take_succ_cons, List.take_zero, List.drop_succ_cons, List.cons_append]
  have e1 : decide ((1 : Int) ≤ (l.length : Int)) = decide (1 ≤ l.length) := decide_eq_decide.2 (by omega)
  have e2 : decide ((l.length : Int) ≤ 8) = decide (l.length ≤ 8) := decide_eq_decide.2 (by omega)
  refine G_split _ _ _ _ _ ?_ ?_ <;> intro h1 <;> simp only [h1, go_sem, ne_eq, not_false_eq_true, reduceIte, Nat.reduceMul, Nat.reduceAdd, Nat.reduceSub, Nat.reduceEqDiff, Nat.reduceLeDiff, Nat.reduceLT, List.take_succ_cons, List.take_zero, List.drop_succ_cons, List.cons_append]
  · rw [M_loop]
    simp only [kz108, e2, go_sem, ne_eq, not_false_eq_true, reduceIte, Nat.reduceMul, Nat.reduceAdd, Nat.reduceSub, Nat.reduceEqDiff, Nat.reduceLeDiff, Nat.reduceLT, List.take_succ_cons, List.take_zero, List.drop_succ_cons, List.cons_append]
    rw [e1] at h1
    have := w_rName_loop l hl gl l.length 0 (decide (l.length ≤ 8)) (by omega) [] {}
    rw [nameV, h1, Bool.true_and]
    exact this
  · rw [M_loop]
    simp only [kz108, go_sem, ne_eq, not_false_eq_true, reduceIte, Nat.reduceMul, Nat.reduceAdd, Nat.reduceSub, Nat.reduceEqDiff, Nat.reduceLeDiff, Nat.reduceLT, List.take_succ_cons, List.take_zero, List.drop_succ_cons, List.cons_append]
    rw [e1] at h1
    have := w_rName_loop l hl gl l.length 0 false (by omega) [] {}
    rw [nameV, h1, Bool.false_and]
    exact this
theorem c_rName (l : List UInt8) (hl : l.length ≤ 16384) : Comp tabx told 108 [.s l] (.i .i64 (errV (nameV l) 22)) := comp_of tells_noX (fn := af108) rfl (Nat.le_of_ble_eq_true rfl) fun gl => w_rName l hl gl

theorem letters_az (l : List UInt8) : (rns l).all letter = l.all az ∧ ((rns l).all letter = true → (rns l).length = l.length) := by
  induction l using rune_ind with
  | h0 => simp [rns_nil]
  | h1 a r ih =>
    by_cases h : letter (dec (a :: r)).1 = true
    · have h' := h
      simp only [letter, Bool.and_eq_true, decide_eq_true_eq] at h'
      obtain ⟨h1, h2⟩ := dec_low (a := a) (r := r) (by omega)
      rw [h2] at ih h h'
      simp only [List.drop_succ_cons, List.drop_zero] at ih
      rw [rns_cons, h2]
      simp only [List.drop_succ_cons, List.drop_zero, List.all_cons, List.length_cons]
      refine ⟨?_, fun e => ?_⟩
      · rw [ih.1]; rfl
      · simp only [Bool.and_eq_true] at e
        rw [ih.2 e.2]
    · have h0 : letter (dec (a :: r)).1 = false := by simpa using h
      have : az a = false := by
        cases ha : az a with
        | false => rfl
        | true =>
          exfalso
          simp only [az, Bool.and_eq_true, decide_eq_true_eq] at ha
          rw [dec_ascii (by omega)] at h0
          simp only [letter, Bool.and_eq_false_iff, decide_eq_false_iff_not] at h0
          omega
      rw [rns_cons]
      simp [h0, this]
theorem name_eq (l : List UInt8) : allV letter 1 8 l = nameV l := by
  obtain ⟨h1, h2⟩ := letters_az l
  unfold allV nameV
  rw [← h1]
  cases h : (rns l).all letter with
  | false => simp
  | true => rw [h2 h]

/-! ### The law -/
def F_Key (a : List V) : Option V := match a with
  | [.s l] => some (.i .i64 (errV (allV plain 1 24 l) 20))
  | _ => none
def F_Value (a : List V) : Option V := match a with
  | [.s l] => some (.i .i64 (errV (allV plain 0 48 l) 21))
  | _ => none
def F_Name (a : List V) : Option V := match a with
  | [.s l] => some (.i .i64 (errV (allV letter 1 8 l) 22))
  | _ => none
def F_rKey (a : List V) : Option V := match a with
  | [.s l] => if l.length ≤ 16384 then some (.i .i64 (errV (allV plain 1 24 l) 20)) else none
  | _ => none
def F_rValue (a : List V) : Option V := match a with
  | [.s l] => if l.length ≤ 16384 then some (.i .i64 (errV (allV plain 0 48 l) 21)) else none
  | _ => none
def F_rName (a : List V) : Option V := match a with
  | [.s l] => if l.length ≤ 16384 then some (.i .i64 (errV (nameV l) 22)) else none
  | _ => none
theorem F_rKey1 (l : List UInt8) (h : l.length ≤ 16384) : F_rKey [.s l] = some (.i .i64 (errV (allV plain 1 24 l) 20)) := if_pos h
theorem F_rValue1 (l : List UInt8) (h : l.length ≤ 16384) : F_rValue [.s l] = some (.i .i64 (errV (allV plain 0 48 l) 21)) := if_pos h
theorem F_rName1 (l : List UInt8) (h : l.length ≤ 16384) : F_rName [.s l] = some (.i .i64 (errV (nameV l) 22)) := if_pos h
theorem o_Key : ∀ a v, F_Key a = some v → Comp tabx told 90 a v := fun a v e => by
  unfold F_Key at e
  split at e <;> cases e
  exact c_Key _
theorem o_Value : ∀ a v, F_Value a = some v → Comp tabx told 92 a v := fun a v e => by
  unfold F_Value at e
  split at e <;> cases e
  exact c_Value _
theorem o_Name : ∀ a v, F_Name a = some v → Comp tabx told 91 a v := fun a v e => by
  unfold F_Name at e
  split at e <;> cases e
  exact c_Name _
theorem o_rKey : ∀ a v, F_rKey a = some v → Comp tabx told 107 a v := fun a v e => by
  unfold F_rKey at e
  split at e
  · split at e
    · rename_i h; cases e; exact c_rKey _ h
    · cases e
  · cases e
theorem o_rValue : ∀ a v, F_rValue a = some v → Comp tabx told 109 a v := fun a v e => by
  unfold F_rValue at e
  split at e
  · split at e
    · rename_i h; cases e; exact c_rValue _ h
    · cases e
  · cases e
theorem o_rName : ∀ a v, F_rName a = some v → Comp tabx told 108 a v := fun a v e => by
  unfold F_rName at e
  split at e
  · split at e
    · rename_i h; cases e; exact c_rName _ h
    · cases e
  · cases e
end Go.Proofs.YtbhclhgljnoioaaDoor
