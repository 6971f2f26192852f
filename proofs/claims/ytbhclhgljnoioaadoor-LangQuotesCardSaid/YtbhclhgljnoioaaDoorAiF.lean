/- The abstract interpreter: operations on values. -/
import Derived.Test.YtbhclhgljnoioaaDoorAiE
import Derived.Laws.Strings
namespace Ai
open Go

/-- A value that may stand anywhere. -/
def V.plain : V → Bool
  | .l _ _ => false
  | .it => false
  | _ => true

theorem plain_l {v : V} (h : v.plain = true) : ∀ r o, v ≠ .l r o := by intro r o e; subst e; simp [V.plain] at h
theorem plain_it {v : V} (h : v.plain = true) : v ≠ .it := by intro e; subst e; simp [V.plain] at h
theorem val_plain (v : V) : v.val.plain = true := by cases v <;> rfl

theorem strEq_iff : ∀ (x y : List UInt8), strEq x y = decide (x = y)
  | [], [] => by simp [strEq]
  | [], _ :: _ => by simp [strEq]
  | _ :: _, [] => by simp [strEq]
  | a :: x, b :: y => by
    simp only [strEq]
    have hab : Nat.beq a.toNat b.toNat = decide (a = b) := by
      rw [Bool.eq_iff_iff, decide_eq_true_iff]
      exact ⟨fun h => UInt8.toNat_inj.1 (Nat.eq_of_beq_eq_true h), fun h => by subst h; exact Nat.beq_refl _⟩
    rw [hab, strEq_iff x y]
    by_cases h1 : a = b <;> by_cases h2 : x = y <;> simp [h1, h2]

theorem beq_list (x y : List UInt8) : (x == y) = strEq x y := by
  rw [strEq_iff, Bool.eq_iff_iff]
  simp

section
variable {P : Program} {G : Gh} {W : World}

theorem run_intOp {op : BinOp} {k : IntKind} {a b : Int} {v : V} (h : binI op k a b = some v) (t : TypeId) :
    ∃ c, (binOp op t (.int k a) (.int k b)).run P W = .ok c W ∧ VR G W v c ∧ v.plain = true := by
  cases op <;> simp only [binI, Option.some.injEq, reduceCtorEq] at h <;>
    first
    | (subst h; exact ⟨_, by simp only [binOp, ne_eq, not_true_eq_false, if_false, Op.intArith, Op.intBits, Op.intCmp, wr_eq]; rfl, by first | exact .i _ _ | exact .b _, rfl⟩)
    | (split at h
       · cases h
       · rename_i hb
         simp only [Option.some.injEq] at h
         subst h
         exact ⟨_, by simp only [binOp, ne_eq, not_true_eq_false, if_false, Op.intDiv, hb, wr_eq]; rfl, .i _ _, rfl⟩)

theorem run_shift {left : Bool} {k k' : IntKind} {a b : Int} {v : V} (h : shf left k a b = some v) (t : TypeId) :
    ∃ c, (binOp (if left then .shl else .shr) t (.int k a) (.int k' b)).run P W = .ok c W ∧ VR G W v c ∧ v.plain = true := by
  unfold shf at h
  split at h
  · cases h
  · rename_i hb
    cases left <;> simp only [cond_true, cond_false, Option.some.injEq] at h <;> subst h
    · refine ⟨.int k (a.fdiv (2 ^ (min b.toNat k.bits))), ?_, .i _ _, rfl⟩
      show (Op.shift .shr k a k' b).run P W = _
      unfold Op.shift; rw [if_neg hb]; rfl
    · refine ⟨.int k (wr k (a * 2 ^ (min b.toNat k.bits))), ?_, .i _ _, rfl⟩
      show (Op.shift .shl k a k' b).run P W = _
      unfold Op.shift; rw [if_neg hb, ← wr_eq]; rfl

theorem run_strOp {op : BinOp} {x y : ByteArray} {v : V} (h : binS op x.data.toList y.data.toList = some v) (t : TypeId) :
    ∃ c, (binOp op t (.string x) (.string y)).run P W = .ok c W ∧ VR G W v c ∧ v.plain = true := by
  cases op <;> simp only [binS, Option.some.injEq, reduceCtorEq] at h
  case add =>
    cases hle : Nat.ble (x.data.toList.length + y.data.toList.length) 4611686018427387904 with
    | false => rw [hle] at h; cases h
    | true =>
      rw [hle] at h
      simp only [cond_true, Option.some.injEq] at h
      subst h
      have h1 := Nat.le_of_ble_eq_true hle
      have h2 : ¬ (((x.size + y.size : Nat) : Int) > IntKind.i64.max) := by
        have e1 : x.size = x.data.toList.length := (Array.length_toList (xs := x.data)).symm
        have e2 : y.size = y.data.toList.length := (Array.length_toList (xs := y.data)).symm
        have e3 : IntKind.i64.max = 9223372036854775807 := by decide
        rw [e1, e2, e3]; omega
      exact ⟨.string (x ++ y), by simp only [binOp, Op.stringOp, h2, if_false]; rfl, .s _ _ (by simp), rfl⟩
  all_goals
    subst h
    refine ⟨_, by simp only [binOp, Op.stringOp, ByteArray.toList_eq, beq_list]; rfl, .b _, rfl⟩

theorem bin_sound {op : BinOp} {a b v : V} {ca cb : Value} (h : bin op a b = some v) (ha : VR G W a ca) (hb : VR G W b cb) (t : TypeId) :
    ∃ c, (binOp op t ca cb).run P W = .ok c W ∧ VR G W v c ∧ v.plain = true := by
  unfold bin at h
  split at h
  · rename_i k a k' b
    cases ha; cases hb
    split at h
    · exact run_shift (left := true) h t
    · exact run_shift (left := false) h t
    · split at h
      · rename_i hk; subst hk; exact run_intOp h t
      · cases h
  · rename_i x y
    cases ha with | s _ s1 h1 => cases hb with | s _ s2 h2 =>
    subst h1; subst h2
    exact run_strOp h t
  · cases h

/-- What stands ahead of a comparison of two numbers or two strings. -/
theorem eqGuard_bin {op op' : BinOp} {a b v : V} {ca cb : Value} (h : bin op a b = some v) (ha : VR G W a ca) (hb : VR G W b cb) (t : TypeId) (x y : Operand) :
    (eqGuard op' t x y ca cb).run P W = .ok () W := by
  unfold bin at h
  split at h
  · cases ha; cases hb
    cases op' <;> rfl
  · cases ha; cases hb
    cases op' <;> rfl
  · cases h

theorem un_sound {op : UnOp} {a v : V} {ca : Value} (h : un op a = some v) (ha : VR G W a ca) :
    ∃ c, (Op.unary op ca).run P W = .ok c W ∧ VR G W v c ∧ v.plain = true := by
  unfold un at h
  split at h
  · cases ha
    split at h
    · cases h; exact ⟨_, rfl, .b _, rfl⟩
    · cases h
  · cases ha
    split at h
    · cases h; exact ⟨_, by rw [← wr_eq]; rfl, .i _ _, rfl⟩
    · cases h; exact ⟨_, by rw [← wr_eq]; rfl, .i _ _, rfl⟩
    · cases h
  · cases h

end
end Ai
