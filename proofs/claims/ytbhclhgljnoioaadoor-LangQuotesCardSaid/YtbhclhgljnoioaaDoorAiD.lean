/- The abstract interpreter: temporaries, operands. -/
import Derived.Test.YtbhclhgljnoioaaDoorAiC
namespace Ai
open Go

theorem T.get_set (t : T) : ∀ (d : Nat) (v : V) (i : Nat), (i ≠ d → (t.set d v).get i = t.get i) ∧ ((t.set d v).get d = v ∨ (t.set d v).get d = .any) := by
  induction t with
  | leaf => intro d v i; exact ⟨fun _ => rfl, .inr rfl⟩
  | node l x r ihl ihr =>
    intro d v i
    simp only [T.set]
    cases hd : Nat.beq d 0 with
    | true =>
      have hd' : d = 0 := Nat.eq_of_beq_eq_true hd
      subst hd'
      refine ⟨fun hi => ?_, .inl rfl⟩
      have : Nat.beq i 0 = false := by
        cases h : Nat.beq i 0 with
        | false => rfl
        | true => exact absurd (Nat.eq_of_beq_eq_true h) hi
      simp only [cond_true, T.get, this, cond_false]
    | false =>
      have hd0 : d ≠ 0 := fun h => by subst h; simp [Nat.beq] at hd
      cases hm : Nat.beq (d % 2) 1 with
      | true =>
        have hm' := Nat.eq_of_beq_eq_true hm
        simp only [cond_true, cond_false, T.get, hd, hm]
        refine ⟨fun hi => ?_, (ihl ((d - 1) / 2) v 0).2⟩
        cases h0 : Nat.beq i 0 with
        | true => rfl
        | false =>
          have hi0 : i ≠ 0 := fun h => by subst h; simp [Nat.beq] at h0
          cases h1 : Nat.beq (i % 2) 1 with
          | true =>
            have h1' := Nat.eq_of_beq_eq_true h1
            exact (ihl ((d - 1) / 2) v ((i - 1) / 2)).1 (by omega)
          | false => rfl
      | false =>
        have hm' : d % 2 ≠ 1 := fun h => by rw [h] at hm; simp at hm
        simp only [cond_false, T.get, hd, hm]
        refine ⟨fun hi => ?_, (ihr ((d - 1) / 2) v 0).2⟩
        cases h0 : Nat.beq i 0 with
        | true => rfl
        | false =>
          have hi0 : i ≠ 0 := fun h => by subst h; simp [Nat.beq] at h0
          cases h1 : Nat.beq (i % 2) 1 with
          | true => rfl
          | false =>
            have h1' : i % 2 ≠ 1 := fun h => by rw [h] at h1; simp at h1
            exact (ihr ((d - 1) / 2) v ((i - 1) / 2)).1 (by omega)

theorem T.get_set_ne (t : T) {d : Nat} (v : V) {i : Nat} (h : i ≠ d) : (t.set d v).get i = t.get i := (T.get_set t d v i).1 h
theorem T.get_set_eq (t : T) (d : Nat) (v : V) : (t.set d v).get d = v ∨ (t.set d v).get d = .any := (T.get_set t d v 0).2

theorem T.get_kill (t : T) (ks : List Nat) (i : Nat) : (i ∉ ks → (t.kill ks).get i = t.get i) ∧ (i ∈ ks → (t.kill ks).get i = .any) := by
  induction ks generalizing t with
  | nil => exact ⟨fun _ => rfl, fun h => by cases h⟩
  | cons k r ih =>
    simp only [T.kill]
    obtain ⟨h1, h2⟩ := ih (t.set k .any)
    refine ⟨fun h => ?_, fun h => ?_⟩
    · rw [h1 (fun h' => h (.tail _ h'))]
      exact T.get_set_ne _ _ (fun e => h (by rw [e]; exact .head _))
    · by_cases hr : i ∈ r
      · exact h2 hr
      · rw [h1 hr]
        have : i = k := by
          cases h with
          | head => rfl
          | tail _ h => exact absurd h hr
        subst this
        rcases T.get_set_eq t i .any with h | h <;> exact h

theorem al_set {α : Type} (l : List (Nat × α)) (k : Nat) (x : α) : ∀ j, al (alSet l k x) j = if j = k then some x else al l j := by
  induction l with
  | nil =>
    intro j
    simp only [alSet, al]
    by_cases h : j = k
    · subst h; simp
    · rw [if_neg h]
      have : Nat.beq k j = false := by
        cases hb : Nat.beq k j with
        | false => rfl
        | true => exact absurd (Nat.eq_of_beq_eq_true hb).symm h
      rw [this]; rfl
  | cons a r ih =>
    intro j
    obtain ⟨a, v⟩ := a
    simp only [alSet]
    cases hb : Nat.beq a k with
    | true =>
      have := Nat.eq_of_beq_eq_true hb
      subst this
      simp only [cond_true, al]
      by_cases h : j = a
      · subst h; simp
      · rw [if_neg h]
        have : Nat.beq a j = false := by
          cases hb : Nat.beq a j with
          | false => rfl
          | true => exact absurd (Nat.eq_of_beq_eq_true hb).symm h
        rw [this]; rfl
    | false =>
      have hak : a ≠ k := fun h => by subst h; simp at hb
      simp only [cond_false, al]
      cases hj : Nat.beq a j with
      | true =>
        have := Nat.eq_of_beq_eq_true hj
        subst this
        simp only [cond_true]
        rw [if_neg hak]
      | false =>
        simp only [cond_false]
        exact ih j

theorem val_l {v : V} {d o : Nat} : v.val ≠ .l d o := by cases v <;> simp [V.val]
theorem val_it {v : V} : v.val ≠ .it := by cases v <;> simp [V.val]

theorem VR.val {G : Gh} {W : World} {v : V} {c : Value} (h : VR G W v c) : VR G W v.val c := by
  cases v <;> first | exact h | exact .any c

section
variable {P : Program} {kl : List (Nat × List Nat)} {G : Gh} {W : World} {st : St} {A : Act}

theorem StRel.raw (h : StRel P kl G W st A) {i : Nat} (hi : i < A.tmps.size) : VR G W (st.raw (.t i)) (A.eval (.tmp i)) := h.T i hi

/-- A value is put into a temporary. -/
theorem StRel.put (h : StRel P kl G W st A) {v : V} {c : Value} (hv : VR G W v c) (d : Nat)
    (hl : ∀ r o, v = .l r o → c = .pointer (some ⟨G.lb r, o, none⟩) ∧ ∃ ks, al kl r = some ks ∧ d ∈ ks)
    (hi : v = .it → c = .pointer (some ⟨G.ib d, 0, none⟩)) : StRel P kl G W (st.put (some d) v) (A.put (some d) c) := by
  have hsz : (A.put (some d) c).tmps.size = A.tmps.size := by simp [Act.put]
  have hne : ∀ i, i ≠ d → (A.put (some d) c).tmps.getD i undef = A.tmps.getD i undef := fun i hid => by
    simp only [Act.put, Array.getD_eq_getD_getElem?]
    rw [Array.getElem?_setIfInBounds_ne (by omega)]
  have heq : d < A.tmps.size → (A.put (some d) c).tmps.getD d undef = c := fun hd => by
    simp [Act.put, Array.getD_eq_getD_getElem?, hd]
  have hT : ∀ i, i ≠ d → (st.put (some d) v).T.get i = st.T.get i := fun i hid => T.get_set_ne _ _ hid
  have hTd : (st.put (some d) v).T.get d = v ∨ (st.put (some d) v).T.get d = .any := T.get_set_eq _ _ _
  refine ⟨fun i hi' => ?_, fun i r o hi' he => ?_, fun i hi' he => ?_, h.loc, h.its, h.mem, h.gl⟩
  · rw [hsz] at hi'
    by_cases hid : i = d
    · subst hid
      rw [heq hi']
      rcases hTd with e1 | e1 <;> rw [e1]
      · exact hv
      · exact .any c
    · rw [hT i hid, hne i hid]; exact h.T i hi'
  · rw [hsz] at hi'
    by_cases hid : i = d
    · subst hid
      rw [heq hi']
      rcases hTd with h1 | h1 <;> rw [h1] at he
      · exact hl r o he
      · cases he
    · rw [hT i hid] at he
      rw [hne i hid]; exact h.L i r o hi' he
  · rw [hsz] at hi'
    by_cases hid : i = d
    · subst hid
      rw [heq hi']
      rcases hTd with h1 | h1 <;> rw [h1] at he
      · exact hi he
      · cases he
    · rw [hT i hid] at he
      rw [hne i hid]; exact h.I i hi' he

/-- A plain value is put into a temporary, or nowhere. -/
theorem StRel.put' (h : StRel P kl G W st A) {v : V} {c : Value} (hv : VR G W v c) (dst : Option Nat) (hl : ∀ r o, v ≠ .l r o) (hi : v ≠ .it) :
    StRel P kl G W (st.put dst v) (A.put dst c) := by
  cases dst with
  | none => exact h
  | some d => exact h.put hv d (fun r o e => absurd e (hl r o)) (fun e => absurd e hi)

end

/-! ### Constants, operands -/
mutual
def cOk : V → Value → Bool
  | .b x, .bool y => x == y
  | .i k n, .int k' m => decide (k = k') && decide (n = m)
  | .s l, .string s => decide (l = s.data.toList)
  | .sl [] 0 .nil, .slice none 0 0 => true
  | .nilp, .pointer none => true
  | .m none, .map none => true
  | .nilf, .nilFunc => true
  | .nili, .nilIface => true
  | .agg xs, .agg cs => csOk xs cs.toList
  | .tup xs, .tuple cs => csOk xs cs.toList
  | .any, _ => true
  | _, _ => false
def csOk : List V → List Value → Bool
  | [], [] => true
  | v :: r, c :: s => cOk v c && csOk r s
  | _, _ => false
end

theorem list_rel {R : V → Value → Prop} {xs : List V} {cs : List Value} (_h1 : xs.length = cs.length) (h2 : ∀ j, j < xs.length → R (xs.getD j .any) (cs.getD j undef)) {v : V} {c : Value} (h : R v c) :
    ∀ j, j < (v :: xs).length → R ((v :: xs).getD j .any) ((c :: cs).getD j undef) := by
  intro j hj
  cases j with
  | zero => exact h
  | succ j => exact h2 j (by simpa using hj)

mutual
theorem cOk_sound (G : Gh) (W : World) : ∀ (v : V) (c : Value), cOk v c = true → VR G W v c
  | .any, c, _ => .any c
  | .b x, .bool y, h => by simp only [cOk, beq_iff_eq] at h; subst h; exact .b x
  | .i k n, .int k' m, h => by simp only [cOk, Bool.and_eq_true, decide_eq_true_eq] at h; obtain ⟨rfl, rfl⟩ := h; exact .i k n
  | .s l, .string s, h => by simp only [cOk, decide_eq_true_eq] at h; exact .s l s h.symm
  | .sl [] 0 .nil, .slice none 0 0, _ => .sl [] 0 .nil none 0 0 0 (fun _ => undef) (Nat.le_refl _) (fun h => absurd rfl h) (fun j hj => by cases hj) (fun j hj => by cases hj) (fun j hj => by cases hj) ⟨rfl, rfl⟩
  | .nilp, .pointer none, _ => .nilp
  | .m none, .map none, _ => .m0
  | .nilf, .nilFunc, _ => .nilf
  | .nili, .nilIface, _ => .nili
  | .agg xs, .agg cs, h => by
    obtain ⟨h1, h2⟩ := csOk_sound G W xs cs.toList (by simpa [cOk] using h)
    exact .agg xs cs (by simpa using h1) (fun j hj => by simpa using h2 j hj)
  | .tup xs, .tuple cs, h => by
    obtain ⟨h1, h2⟩ := csOk_sound G W xs cs.toList (by simpa [cOk] using h)
    exact .tup xs cs (by simpa using h1) (fun j hj => by simpa using h2 j hj)
theorem csOk_sound (G : Gh) (W : World) : ∀ (xs : List V) (cs : List Value), csOk xs cs = true → xs.length = cs.length ∧ ∀ j, j < xs.length → VR G W (xs.getD j .any) (cs.getD j undef)
  | [], [], _ => ⟨rfl, fun j hj => by cases hj⟩
  | v :: r, c :: s, h => by
    simp only [csOk, Bool.and_eq_true] at h
    have h1 := cOk_sound G W v c h.1
    obtain ⟨h2, h3⟩ := csOk_sound G W r s h.2
    exact ⟨by simp [h2], list_rel h2 h3 h1⟩
end

def opdOk (n : Nat) : Operand → Opd → Bool
  | .tmp t, .t i => Nat.beq t i && Nat.blt i n
  | .const v, .k u => cOk u v
  | .func f, .f g => Nat.beq f g
  | .global g, .g j => Nat.beq g j
  | _, _ => false

section
variable {P : Program} {kl : List (Nat × List Nat)} {G : Gh} {W : World} {st : St} {A : Act}

theorem opd_raw (h : StRel P kl G W st A) {x : Operand} {ax : Opd} (ho : opdOk A.tmps.size x ax = true) : VR G W (st.raw ax) (A.eval x) := by
  cases x <;> cases ax <;> simp only [opdOk, Bool.and_eq_true, Bool.false_eq_true] at ho
  · obtain ⟨h1, h2⟩ := ho
    have := Nat.eq_of_beq_eq_true h1
    subst this
    exact h.T _ (by simp [Nat.blt] at h2; omega)
  · exact cOk_sound G W _ _ ho
  · have := Nat.eq_of_beq_eq_true ho
    subst this
    exact (h.gl _).2
  · have := Nat.eq_of_beq_eq_true ho
    subst this
    exact .fn _ [] [] #[] #[] rfl (fun j hj => by cases hj) rfl (fun j hj => by cases hj)

theorem opd_ev (h : StRel P kl G W st A) {x : Operand} {ax : Opd} (ho : opdOk A.tmps.size x ax = true) : VR G W (st.ev ax) (A.eval x) := (opd_raw h ho).val

/-- What a pointer to a frame's own variable is. -/
theorem opd_l (h : StRel P kl G W st A) {x : Operand} {ax : Opd} (ho : opdOk A.tmps.size x ax = true) {d o : Nat} (he : st.raw ax = .l d o) :
    A.eval x = .pointer (some ⟨G.lb d, o, none⟩) ∧ ∃ i, x = .tmp i ∧ ax = .t i ∧ ∃ ks, al kl d = some ks ∧ i ∈ ks := by
  cases x <;> cases ax <;> simp only [opdOk, Bool.and_eq_true, Bool.false_eq_true] at ho
  · obtain ⟨h1, h2⟩ := ho
    have := Nat.eq_of_beq_eq_true h1
    subst this
    obtain ⟨h3, h4⟩ := h.L _ d o (by simp [Nat.blt] at h2; omega) he
    exact ⟨h3, _, rfl, rfl, h4⟩
  · simp only [St.raw] at he
    subst he
    simp [cOk] at ho
  · simp only [St.raw] at he; cases he
  · simp only [St.raw] at he; cases he

end
end Ai
