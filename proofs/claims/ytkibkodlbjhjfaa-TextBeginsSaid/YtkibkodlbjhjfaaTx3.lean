/- Whether a text begins with another one; the law on it. -/
import Derived.Test.YtkibkodlbjhjfaaTx1
import Derived.SizedLaws
set_option linter.unusedSimpArgs false
set_option linter.unusedVariables false
namespace Go.Proofs.Ytkibkodlbjhjfaa
open Ai
def begV (s f : List UInt8) : Bool := decide (((f.length : Nat) : Int) ≤ s.length) && decide (s.take f.length = f)

theorem U17 {xf : FuncId → List V → Option V} {kz : Nat → List Nat} {k : List Fr} {st : St} {Q : AEx → St → Prop} : M xf kz (.code B17) k st Q = M xf kz (.code (.seq (.reg [⟨some 4, .mov (.k (.b false)), none⟩])
  (.seq (.reg [⟨some 5, .mov (.t 0), none⟩,
     ⟨some 6, .len .str (.t 5), none⟩,
     ⟨some 7, .mov (.t 1), none⟩,
     ⟨some 8, .len .str (.t 7), none⟩,
     ⟨some 9, .bin .geq (.t 6) (.t 8), none⟩,
     ⟨some 10, .mov (.t 9), none⟩,
     ⟨some 11, .mov (.t 0), some (10, true)⟩,
     ⟨some 12, .mov (.t 1), some (10, true)⟩,
     ⟨some 13, .len .str (.t 12), some (10, true)⟩,
     ⟨some 14, .slc .str (.t 11) none (some (.t 13)) none, some (10, true)⟩,
     ⟨some 15, .mov (.t 1), some (10, true)⟩,
     ⟨some 16, .bin .eql (.t 14) (.t 15), some (10, true)⟩,
     ⟨some 17, .pick (.t 10) (.t 16) (.k (.b false)), none⟩,
     ⟨some 4, .mov (.t 17), none⟩])
  .ret))) k st Q := rfl
def kz17 (_ : Nat) : List Nat := []
theorem w_Begins (s f : List UInt8) (gl : Nat → List V) : M noX (kz17) (.code B17) [] (St.init gl 5 [.s s, .s f] {}) (Fin [.tmp 4] (.b (begV s f))) := by
  rw [U17]
  simp only [go_sem, ne_eq, not_false_eq_true, reduceIte, Nat.reduceMul, Nat.reduceAdd, Nat.reduceSub, Nat.reduceEqDiff, Nat.reduceLeDiff]
  refine G_split _ _ _ _ _ ?_ ?_ <;> intro h1 <;> simp only [h1, go_sem, ne_eq, not_false_eq_true, reduceIte, Nat.reduceMul, Nat.reduceAdd, Nat.reduceSub, Nat.reduceEqDiff, Nat.reduceLeDiff]
  · have h2 : f.length ≤ s.length := by simp only [decide_eq_true_eq] at h1; omega
    simp only [h2, Nat.zero_le, Nat.le_refl, strEq_dec, go_sem, ne_eq, not_false_eq_true, reduceIte, Nat.reduceMul, Nat.reduceAdd, Nat.reduceSub, Nat.reduceEqDiff, Nat.reduceLeDiff]
    simp only [begV, h1, Bool.true_and]
  · simp only [begV, h1, Bool.false_and]
theorem c_Begins (s f : List UInt8) : Comp tabx told 17 [.s s, .s f] (.b (begV s f)) := comp_of tells_noX (fn := af17) rfl (Nat.le_of_ble_eq_true rfl) fun gl => w_Begins s f gl
def F_Begins (a : List V) : Option V := match a with
  | [.s s, .s f] => some (.b (begV s f))
  | _ => none
theorem F_Begins1 (s f : List UInt8) : F_Begins [.s s, .s f] = some (.b (begV s f)) := rfl

theorem U29 {xf : FuncId → List V → Option V} {kz : Nat → List Nat} {k : List Fr} {st : St} {Q : AEx → St → Prop} : M xf kz (.code B29) k st Q = M xf kz (.code (.seq (.reg [⟨some 4, .mov (.k (.b false)), none⟩])
  (.seq (.reg [⟨some 5, .mov (.t 0), none⟩,
     ⟨some 6, .len .str (.t 5), none⟩,
     ⟨some 7, .mov (.t 1), none⟩,
     ⟨some 8, .len .str (.t 7), none⟩,
     ⟨some 9, .bin .geq (.t 6) (.t 8), none⟩,
     ⟨some 10, .mov (.t 9), none⟩,
     ⟨some 11, .mov (.t 0), some (10, true)⟩,
     ⟨some 12, .mov (.t 1), some (10, true)⟩,
     ⟨some 13, .len .str (.t 12), some (10, true)⟩,
     ⟨some 14, .slc .str (.t 11) none (some (.t 13)) none, some (10, true)⟩,
     ⟨some 15, .mov (.t 1), some (10, true)⟩,
     ⟨some 16, .bin .eql (.t 14) (.t 15), some (10, true)⟩,
     ⟨some 17, .pick (.t 10) (.t 16) (.k (.b false)), none⟩,
     ⟨some 4, .mov (.t 17), none⟩])
  .ret))) k st Q := rfl
def kz29 (_ : Nat) : List Nat := []
theorem w_liteP (s f : List UInt8) (gl : Nat → List V) : M noX (kz29) (.code B29) [] (St.init gl 5 [.s s, .s f] {}) (Fin [.tmp 4] (.b (begV s f))) := by
  rw [U29]
  simp only [go_sem, ne_eq, not_false_eq_true, reduceIte, Nat.reduceMul, Nat.reduceAdd, Nat.reduceSub, Nat.reduceEqDiff, Nat.reduceLeDiff]
  refine G_split _ _ _ _ _ ?_ ?_ <;> intro h1 <;> simp only [h1, go_sem, ne_eq, not_false_eq_true, reduceIte, Nat.reduceMul, Nat.reduceAdd, Nat.reduceSub, Nat.reduceEqDiff, Nat.reduceLeDiff]
  · have h2 : f.length ≤ s.length := by simp only [decide_eq_true_eq] at h1; omega
    simp only [h2, Nat.zero_le, Nat.le_refl, strEq_dec, go_sem, ne_eq, not_false_eq_true, reduceIte, Nat.reduceMul, Nat.reduceAdd, Nat.reduceSub, Nat.reduceEqDiff, Nat.reduceLeDiff]
    simp only [begV, h1, Bool.true_and]
  · simp only [begV, h1, Bool.false_and]
theorem c_liteP (s f : List UInt8) : Comp tabx told 29 [.s s, .s f] (.b (begV s f)) := comp_of tells_noX (fn := af29) rfl (Nat.le_of_ble_eq_true rfl) fun gl => w_liteP s f gl
theorem o_liteP : ∀ a v, F_Begins a = some v → Comp tabx told 29 a v := fun a v e => by
  unfold F_Begins at e
  split at e <;> cases e
  exact c_liteP _ _
theorem o_Begins : ∀ a v, F_Begins a = some v → Comp tabx told 17 a v := fun a v e => by
  unfold F_Begins at e
  split at e <;> cases e
  exact c_Begins _ _

theorem U18 {xf : FuncId → List V → Option V} {kz : Nat → List Nat} {k : List Fr} {st : St} {Q : AEx → St → Prop} : M xf kz (.code B18) k st Q = M xf kz (.code (.seq (.reg [⟨some 4, .mov (.k (.b false)), none⟩])
  (.seq (.reg [⟨some 5, .mov (.t 0), none⟩,
     ⟨some 6, .mov (.t 1), none⟩,
     ⟨some 7, .call true 29 [(.t 5), (.t 6)], none⟩,
     ⟨some 4, .mov (.t 7), none⟩])
  .ret))) k st Q := rfl
def kz18 (_ : Nat) : List Nat := []
theorem w_HasPrefix (s f : List UInt8) (gl : Nat → List V) : M (xs [(29, F_Begins)]) (kz18) (.code B18) [] (St.init gl 4 [.s s, .s f] {}) (Fin [.tmp 4] (.b (begV s f))) := by
  rw [U18]
  simp only [F_Begins1, go_sem, ne_eq, not_false_eq_true, reduceIte, Nat.reduceMul, Nat.reduceAdd, Nat.reduceSub, Nat.reduceEqDiff, Nat.reduceLeDiff]
theorem o_HasPrefix : ∀ a v, F_Begins a = some v → Comp tabx told 18 a v := fun a v e => by
  unfold F_Begins at e
  split at e <;> cases e
  exact comp_of (tells_cons o_liteP tells_nil) (fn := af18) rfl (Nat.le_of_ble_eq_true rfl) fun gl => w_HasPrefix _ _ gl

def X_begins := xs [(11, F_awake), (17, F_Begins), (18, F_Begins)]
theorem t_TextBegins : Tells tabx told X_begins := tells_cons o_awake (tells_cons o_Begins (tells_cons o_HasPrefix tells_nil))
theorem U6 {xf : FuncId → List V → Option V} {kz : Nat → List Nat} {k : List Fr} {st : St} {Q : AEx → St → Prop} : M xf kz (.code B6) k st Q = M xf kz (.code (.seq (.reg [⟨some 4, .mov (.k (.b false)), none⟩])
  (.seq (.reg [⟨some 5, .mov (.t 0), none⟩,
     ⟨some 6, .mov (.t 1), none⟩,
     ⟨some 7, .call true 17 [(.t 5), (.t 6)], none⟩,
     ⟨some 8, .mov (.t 0), none⟩,
     ⟨some 9, .mov (.t 1), none⟩,
     ⟨some 10, .call true 18 [(.t 8), (.t 9)], none⟩,
     ⟨some 11, .eq false .bool (.t 7) (.t 10), none⟩,
     ⟨some 12, .mov (.t 11), none⟩,
     ⟨some 13, .mov (.t 1), some (12, true)⟩,
     ⟨some 14, .mov (.t 0), some (12, true)⟩,
     ⟨some 15, .bin .add (.t 13) (.t 14), some (12, true)⟩,
     ⟨some 16, .mov (.t 1), some (12, true)⟩,
     ⟨some 17, .call true 17 [(.t 15), (.t 16)], some (12, true)⟩,
     ⟨some 18, .pick (.t 12) (.t 17) (.k (.b false)), none⟩,
     ⟨some 19, .mov (.t 18), none⟩,
     ⟨some 20, .call true 11 [], some (19, true)⟩,
     ⟨some 21, .pick (.t 19) (.t 20) (.k (.b false)), none⟩,
     ⟨some 4, .mov (.t 21), none⟩])
  .ret))) k st Q := rfl
def kz6 (_ : Nat) : List Nat := []
theorem w_TextBegins (s : List UInt8) (hs : s.length ≤ reachBytes) (f : List UInt8) (hf : f.length ≤ reachBytes) (gl : Nat → List V) : M X_begins (kz6) (.code B6) [] (St.init gl 5 [.s s, .s f] {}) (Fin [.tmp 4] (.b true)) := by
  rw [U6]
  have h1 : f.length + s.length ≤ 4611686018427387904 := by have := reachBytes_lt; omega
  have h2 : begV (f ++ s) f = true := by simp [begV]; omega
  have h3 : (true != false) = true := rfl
  simp only [X_begins, h3, F_Begins1, F_awake1, h1, h2, ne_eq, not_false_eq_true, beq_self_eq_true, bne_self_eq_false, go_sem, ne_eq, not_false_eq_true, reduceIte, Nat.reduceMul, Nat.reduceAdd, Nat.reduceSub, Nat.reduceEqDiff, Nat.reduceLeDiff]
end Go.Proofs.Ytkibkodlbjhjfaa
