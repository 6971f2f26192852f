/- A strings.Builder in the shared memory. -/
import Derived.Test.YtbhclhgljnoioaaDoorAiHz
import Derived.Test.YtbhclhgljnoioaaDoorAiTy
namespace Ai
open Go

/-- The builder at id holds these bytes. tB, tU: the numbers of its type and of uint8. -/
def BInv (tB tU : TypeId) (h : H) (id : Nat) (bs : List UInt8) : Prop :=
  (bs = [] ∧ al h.objs id = some (.cells tB [.nilp, .sl [] 0 .nil])) ∨
  ∃ t, al h.objs id = some (.cells tB [.p id 0, .sl (bs.map byteV) bs.length (.own t)]) ∧ al h.tips t = some (bs.length, tU) ∧ t < h.nt

/-- Bytes are written behind. -/
def bwr (tU : TypeId) (id : Nat) (ys : List V) (h : H) : Option H :=
  match al h.objs id with
  | some (.cells ty [_, .sl _ _ .nil]) => some ⟨h.next, alSet h.objs id (.cells ty [.p id 0, .sl ys ys.length (.own h.nt)]), h.nt + 1, (h.nt, (ys.length, tU)) :: h.tips⟩
  | some (.cells ty [_, .sl xs n (.own t)]) => some ⟨h.next, alSet h.objs id (.cells ty [.p id 0, .sl (xs ++ ys) (n + ys.length) (.own t)]), h.nt, alSet h.tips t (n + ys.length, tU)⟩
  | _ => none

theorem bwr_inv {tB tU : TypeId} {h : H} {id : Nat} {bs : List UInt8} (hi : BInv tB tU h id bs) (ys : List UInt8) : ∃ h', bwr tU id (ys.map byteV) h = some h' ∧ BInv tB tU h' id (bs ++ ys) ∧ h'.next = h.next := by
  rcases hi with ⟨rfl, ho⟩ | ⟨t, ho, ht, hn⟩
  · have e : bwr tU id (ys.map byteV) h = some ⟨h.next, alSet h.objs id (.cells tB [.p id 0, .sl (ys.map byteV) (ys.map byteV).length (.own h.nt)]), h.nt + 1, (h.nt, ((ys.map byteV).length, tU)) :: h.tips⟩ := by
      unfold bwr; rw [ho]
    refine ⟨_, e, .inr ⟨h.nt, ?_, ?_, Nat.lt_succ_self _⟩, rfl⟩
    · show al (alSet h.objs id _) id = _
      rw [al_alSet, List.length_map]; rfl
    · simp [al]
  · have e : bwr tU id (ys.map byteV) h = some ⟨h.next, alSet h.objs id (.cells tB [.p id 0, .sl (bs.map byteV ++ ys.map byteV) (bs.length + (ys.map byteV).length) (.own t)]), h.nt, alSet h.tips t (bs.length + (ys.map byteV).length, tU)⟩ := by
      unfold bwr; rw [ho]
    refine ⟨_, e, .inr ⟨t, ?_, ?_, hn⟩, rfl⟩
    · show al (alSet h.objs id _) id = _
      rw [al_alSet, List.map_append, List.length_append, List.length_map]
    · show al (alSet h.tips t _) t = _
      rw [al_alSet, List.length_append, List.length_map]

/-- A token is made that nobody uses. -/
def mvn (ty : TypeId) (h : H) : H := ⟨h.next, h.objs, h.nt + 1, (h.nt, (0, ty)) :: h.tips⟩
theorem mvn_inv {tB tU ty : TypeId} {h : H} {id : Nat} {bs : List UInt8} (hi : BInv tB tU h id bs) : BInv tB tU (mvn ty h) id bs := by
  rcases hi with ⟨rfl, ho⟩ | ⟨t, ho, ht, hn⟩
  · exact .inl ⟨rfl, ho⟩
  · refine .inr ⟨t, ho, ?_, Nat.lt_succ_of_lt hn⟩
    show al ((h.nt, (0, ty)) :: h.tips) t = _
    simp only [al, nat_beq]
    rw [decide_eq_false (by omega)]
    exact ht
theorem noH (_ : Nat) : True := trivial
end Ai
