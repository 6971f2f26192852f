/- The abstract interpreter: each operation that is no call of a function is what the model does, all of them. -/
import Derived.Test.YtbhclhgljnoioaaDoorAiW
namespace Ai
open Go

section
variable {P : Program} {K : Known} {kl : List (Nat × List Nat)} {G : Gh} {W : World} {st : St} {A : Act}

theorem run_eq {neg : Bool} {t : TypeId} {et : ET} {x y : Operand} {a b : V} {r : Bool} {ca cb : Value} (hk : eqOk P t et x y = true) (h : eqV et a b = some r) (ha : VR G W a ca) (hb : VR G W b cb) :
    (do eqGuard (if neg then .neq else .eql) t x y ca cb; binOp (if neg then .neq else .eql) t ca cb : Sem Value).run P W = .ok (.bool (r != neg)) W := by
  simp only [eqOk, Bool.and_eq_true] at hk
  obtain ⟨k1, k2⟩ := hk
  have heq := eq_sound 100 10000 t et a b r ca cb k1 (by omega) h ha hb
  have hequal : (Op.equal t ca cb).run P W = .ok r W := heq
  -- what stands ahead
  have hg : ∀ op : BinOp, (eqGuard op t x y ca cb).run P W = .ok () W := by
    intro op
    cases et with
    | bool =>
      cases a <;> cases b <;> simp only [eqV, reduceCtorEq] at h
      cases ha; cases hb; cases op <;> rfl
    | int => simp at k2
    | str => simp at k2
    | ptr =>
      obtain ⟨p1, p2, rfl, rfl⟩ := eqP_ptr (by simpa [eqV] using h) ha hb
      cases op <;> rfl
    | iface =>
      have hcc : isConstO x = true ∨ isConstO y = true := by simpa using k2
      cases a <;> cases b <;> simp only [eqV, reduceCtorEq] at h
      all_goals (cases ha; cases hb)
      · cases op <;> rfl
      · cases op <;> rfl
      · have : ∀ z : Operand, isConstO z = true → ∃ v, z = .const v := fun z hz => by cases z <;> first | exact ⟨_, rfl⟩ | (simp [isConstO] at hz)
        rcases hcc with hz | hz <;> obtain ⟨v, rfl⟩ := this _ hz
        · cases op <;> simp [eqGuard]
        · cases op <;> (cases x <;> simp [eqGuard])
    | struct fs =>
      have hgt : P.eqGuardType P.depth t = false := by simpa using k2
      cases a <;> cases b <;> simp only [eqV, reduceCtorEq] at h
      cases ha; cases hb
      exact run_eqGuard_agg W op t x y _ _ hgt
  -- the comparison
  have hbin : ∀ n : Bool, (binOp (if n then .neq else .eql) t ca cb).run P W = .ok (.bool (r != n)) W := by
    intro n
    have e1 : n = false → (binOp .eql t ca cb) = (do pure (.bool (← Op.equal t ca cb))) ∧ True := by
      intro _
      cases et with
      | bool => cases a <;> cases b <;> simp only [eqV, reduceCtorEq] at h; cases ha; cases hb; exact ⟨rfl, trivial⟩
      | int => simp at k2
      | str => simp at k2
      | ptr => obtain ⟨p1, p2, rfl, rfl⟩ := eqP_ptr (by simpa [eqV] using h) ha hb; exact ⟨rfl, trivial⟩
      | iface => cases a <;> cases b <;> first | (simp [eqV] at h; done) | (cases ha; cases hb; exact ⟨rfl, trivial⟩)
      | struct fs => cases a <;> cases b <;> first | (simp [eqV] at h; done) | (cases ha; cases hb; exact ⟨rfl, trivial⟩)
    have e2 : n = true → (binOp .neq t ca cb) = (do pure (.bool (!(← Op.equal t ca cb)))) ∧ True := by
      intro _
      cases et with
      | bool => cases a <;> cases b <;> simp only [eqV, reduceCtorEq] at h; cases ha; cases hb; exact ⟨rfl, trivial⟩
      | int => simp at k2
      | str => simp at k2
      | ptr => obtain ⟨p1, p2, rfl, rfl⟩ := eqP_ptr (by simpa [eqV] using h) ha hb; exact ⟨rfl, trivial⟩
      | iface => cases a <;> cases b <;> first | (simp [eqV] at h; done) | (cases ha; cases hb; exact ⟨rfl, trivial⟩)
      | struct fs => cases a <;> cases b <;> first | (simp [eqV] at h; done) | (cases ha; cases hb; exact ⟨rfl, trivial⟩)
    cases n with
    | false =>
      simp only [Bool.false_eq_true, if_false]
      rw [(e1 rfl).1]
      simp [hequal]
    | true =>
      simp only [if_true]
      rw [(e2 rfl).1]
      simp [hequal]
  rw [Sem.run_bind, hg]
  exact hbin neg

end
end Ai
