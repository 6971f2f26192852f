/- The abstract interpreter: comparisons, slices of text, conversions. -/
import Derived.Test.YtopbdgdfnmlldaaGreatDoorAi01
import Derived.ChangeKeysEq
namespace Ai
open Go

/-- The fields, by what is asked of each one's type. -/
def fieldsBy (P : Program) (rec : TypeId → ET → Bool) : List Field → List (Nat × Nat × Bool × ET) → Bool
  | [], [] => true
  | fd :: r, fs =>
    bif fd.name == "_" then fieldsBy P rec r fs else
    match fs with
    | (off, n, agg, t) :: fs' => Nat.beq off fd.offset && decide (szOf P fd.type = some n) && decide (aggOf P fd.type = some agg) && (agg || Nat.beq n 1) && rec fd.type t && fieldsBy P rec r fs'
    | [] => false
  | [], _ :: _ => false

/-- An array's elements, by what is asked of each one's type. -/
def itemsBy (P : Program) (rec : TypeId → ET → Bool) (e : TypeId) : Nat → List (Nat × Nat × Bool × ET) → Bool
  | _, [] => true
  | i, (off, n, agg, t) :: r => Nat.beq off (i * P.cellsOf e) && decide (szOf P e = some n) && decide (aggOf P e = some agg) && (agg || Nat.beq n 1) && rec e t && itemsBy P rec e (i + 1) r

def etOk (P : Program) : Nat → TypeId → ET → Bool
  | 0, _, _ => false
  | f + 1, t, et => match et with
    | .bool => (match P.underlying t with | some .bool => true | _ => false)
    | .int => (match P.underlying t with | some (.int _) => true | _ => false)
    | .str => (match P.underlying t with | some .string => true | _ => false)
    | .ptr => (match P.underlying t with | some (.pointer e) => (match szOf P e with | some (_ + 1) => true | _ => false) | _ => false)
    | .iface => (match P.underlying t with | some (.interface _) => true | _ => false)
    | .slnil => (match P.underlying t with | some (.slice _) => true | _ => false)
    | .struct fs => (match P.underlying t with
      | some (.struct fields) => !P.stoodInHeld t && fieldsBy P (etOk P f) fields.toList fs
      | some (.array n e) => Nat.beq fs.length n && (P.info? e).isSome && itemsBy P (etOk P f) e 0 fs
      | _ => false)

def fieldsOk (P : Program) (f : Nat) (l : List Field) (fs : List (Nat × Nat × Bool × ET)) : Bool := fieldsBy P (etOk P f) l fs

theorem fieldsOk_cons (P : Program) (f : Nat) (fd : Field) (r : List Field) (fs : List (Nat × Nat × Bool × ET)) : fieldsOk P f (fd :: r) fs =
    (bif fd.name == "_" then fieldsOk P f r fs else
    match fs with
    | (off, n, agg, t) :: fs' => Nat.beq off fd.offset && decide (szOf P fd.type = some n) && decide (aggOf P fd.type = some agg) && (agg || Nat.beq n 1) && etOk P f fd.type t && fieldsOk P f r fs'
    | [] => false) := by
  cases fs <;> rfl

section
variable {P : Program} {G : Gh} {W : World}

theorem ip_ptr {xs : List V} {q : Nat} {c : Value} (hx : xs.isEmpty = false) (h : VR G W (.ip xs q) c) : ∃ p, c = .pointer (some p) := by
  cases h with | ip _ _ p b o cs ha _ _ _ =>
  exact ⟨_, by rw [ha (by intro e; subst e; simp at hx)]⟩

theorem eq_ptr {t e : TypeId} {z : Nat} (hu : P.underlying t = some (.pointer e)) (hz : szOf P e = some z) (hz0 : z ≠ 0) (d : Nat) {a b : V} {r : Bool} {ca cb : Value}
    (he : eqP a b = some r) (ha : VR G W a ca) (hb : VR G W b cb) : (Op.equalIn (d + 1) t ca cb).run P W = .ok r W := by
  unfold eqP at he
  split at he
  · cases ha; cases hb; cases he; simp [Op.equalIn, run_underlying' hu]
  · cases ha; cases hb; cases he; simp [Op.equalIn, run_underlying' hu]
  · cases ha; cases hb; cases he; simp [Op.equalIn, run_underlying' hu]
  · rename_i xs q
    cases hx : xs.isEmpty with
    | true => rw [hx] at he; cases he
    | false =>
      rw [hx] at he
      simp only [cond_false, Option.some.injEq] at he
      subst he
      obtain ⟨p, rfl⟩ := ip_ptr hx hb
      cases ha
      simp [Op.equalIn, run_underlying' hu]
  · rename_i xs q
    cases hx : xs.isEmpty with
    | true => rw [hx] at he; cases he
    | false =>
      rw [hx] at he
      simp only [cond_false, Option.some.injEq] at he
      subst he
      obtain ⟨p, rfl⟩ := ip_ptr hx ha
      cases hb
      simp [Op.equalIn, run_underlying' hu]
  · rename_i i o j u
    cases hij : Nat.beq i j with
    | false => rw [hij] at he; cases he
    | true =>
      rw [hij] at he
      simp only [cond_true, Option.some.injEq] at he
      have := Nat.eq_of_beq_eq_true hij
      subst this
      cases ha with | p _ _ b1 h1 => cases hb with | p _ _ b2 h2 =>
      rw [h1] at h2
      cases h2
      subst he
      have hou : (decide ((⟨b1, o, none⟩ : Addr) = ⟨b1, u, none⟩)) = Nat.beq o u := by
        rw [Bool.eq_iff_iff, decide_eq_true_iff]
        exact ⟨fun h => by cases h; exact Nat.beq_refl _, fun h => by rw [Nat.eq_of_beq_eq_true h]⟩
      have hbeq : ((⟨b1, o, none⟩ : Addr) == ⟨b1, u, none⟩) = Nat.beq o u := by rw [← hou]; rfl
      simp only [Op.equalIn, Sem.run_bind, run_underlying' hu, Result.andThen_ok, run_sizeOf' hz]
      simp [hz0, sameAddr, hbeq]
  · cases he

/-- Two pointers are pointers. -/
theorem eqP_ptr {a b : V} {r : Bool} {ca cb : Value} (he : eqP a b = some r) (ha : VR G W a ca) (hb : VR G W b cb) : ∃ p q, ca = .pointer p ∧ cb = .pointer q := by
  unfold eqP at he
  split at he <;> first | (cases ha; cases hb; exact ⟨_, _, rfl, rfl⟩) | cases he

theorem nilSl_true {v : V} {c : Value} (h : nilSl v = some true) (hv : VR G W v c) : ∃ n k, c = .slice none n k := by
  unfold nilSl at h
  split at h <;> first | cases h | skip
  cases hv with | sl _ _ _ a cap b o cs hn ha hi hc hv ht =>
  obtain ⟨rfl, _⟩ := ht
  exact ⟨_, _, rfl⟩
theorem nilSl_false {v : V} {c : Value} (h : nilSl v = some false) (hv : VR G W v c) : ∃ a n k, c = .slice (some a) n k := by
  unfold nilSl at h
  split at h <;> first | cases h | skip
  · cases hv with | sl _ _ _ a cap b o cs hn ha hi hc hv ht =>
    exact ⟨_, _, _, by rw [ha (by simp)]⟩
  · cases hv with | hs _ _ _ _ b cap a h1 h2 h3 h4 h5 =>
    obtain ⟨o', rfl⟩ := h4
    exact ⟨_, _, _, rfl⟩
/-- Two slices of which one is nil. -/
theorem eq_slnil {a b : V} {r : Bool} {ca cb : Value} (h : eqV .slnil a b = some r) (ha : VR G W a ca) (hb : VR G W b cb) :
    ∃ p n k q m j, ca = .slice p n k ∧ cb = .slice q m j ∧ (p = none ∧ r = q.isNone ∨ (∃ p', p = some p') ∧ q = none ∧ r = false) := by
  simp only [eqV] at h
  split at h
  · rename_i y h1 h2
    cases h
    obtain ⟨n, k, rfl⟩ := nilSl_true h1 ha
    cases r with
    | true => obtain ⟨m, j, rfl⟩ := nilSl_true h2 hb; exact ⟨_, _, _, _, _, _, rfl, rfl, .inl ⟨rfl, rfl⟩⟩
    | false => obtain ⟨q, m, j, rfl⟩ := nilSl_false h2 hb; exact ⟨_, _, _, _, _, _, rfl, rfl, .inl ⟨rfl, rfl⟩⟩
  · rename_i h1 h2
    cases h
    obtain ⟨p, n, k, rfl⟩ := nilSl_false h1 ha
    obtain ⟨m, j, rfl⟩ := nilSl_true h2 hb
    exact ⟨_, _, _, _, _, _, rfl, rfl, .inr ⟨⟨_, rfl⟩, rfl, rfl⟩⟩
  · cases h

theorem eqI_sound {f d : Nat} {e : TypeId} (hrec : ∀ (et : ET) (a b : V) (r : Bool) (ca cb : Value), etOk P f e et = true → eqV et a b = some r → VR G W a ca → VR G W b cb → (Op.equalIn d e ca cb).run P W = .ok r W) :
    ∀ (fs : List (Nat × Nat × Bool × ET)) (i : Nat) (xs ys : List V) (r : Bool) (a b : Array Value), itemsBy P (etOk P f) e i fs = true → eqF fs xs ys = some r → VRs G W xs a → VRs G W ys b →
      (Go.Op.eqItems d e (P.cellsOf e) a b (List.range' i fs.length)).run P W = .ok r W
  | [], i, xs, ys, r, a, b, _, he, _, _ => by
    simp only [eqF, Option.some.injEq] at he
    subst he
    simp [Go.Op.eqItems]
  | (off, n, agg, t) :: fs', i, xs, ys, r, a, b, h, he, ha, hb => by
    simp only [itemsBy, Bool.and_eq_true, decide_eq_true_eq, Bool.or_eq_true] at h
    obtain ⟨⟨⟨⟨⟨h1, h2⟩, h3⟩, h4⟩, h5⟩, h6⟩ := h
    have ho := Nat.eq_of_beq_eq_true h1
    subst ho
    unfold eqF at he
    have hag : agg = false → n = 1 := fun e => by
      rcases h4 with h4 | h4
      · rw [e] at h4; cases h4
      · exact Nat.eq_of_beq_eq_true h4
    simp only [List.length_cons, List.range'_succ, Go.Op.eqItems]
    split at he
    · rename_i u v hu hv
      obtain ⟨c1, e1, r1, _⟩ := part_sound h3 h2 hag hu ha
      obtain ⟨c2, e2, r2, _⟩ := part_sound h3 h2 hag hv hb
      split at he
      · rename_i heq
        have := hrec t u v true c1 c2 h5 heq r1 r2
        simp only [Sem.run_bind, e1, e2, this, Result.andThen_ok, Bool.not_true, Bool.false_eq_true, if_false]
        exact eqI_sound hrec fs' (i + 1) xs ys r a b h6 he ha hb
      · rename_i heq
        cases he
        have := hrec t u v false c1 c2 h5 heq r1 r2
        simp only [Sem.run_bind, e1, e2, this, Result.andThen_ok, Bool.not_false, if_true, Sem.run_pure]
      · cases he
    · cases he

set_option maxHeartbeats 1000000
mutual
theorem eq_sound : ∀ (f d : Nat) (t : TypeId) (et : ET) (a b : V) (r : Bool) (ca cb : Value), etOk P f t et = true → f ≤ d → eqV et a b = some r → VR G W a ca → VR G W b cb →
    (Op.equalIn d t ca cb).run P W = .ok r W
  | 0, _, _, _, _, _, _, _, _, h, _, _, _, _ => by simp [etOk] at h
  | f + 1, 0, _, _, _, _, _, _, _, _, hd, _, _, _ => by omega
  | f + 1, d + 1, t, .bool, a, b, r, ca, cb, h, hd, he, ha, hb => by
    simp only [etOk] at h
    split at h
    · rename_i hu
      cases a <;> cases b <;> simp only [eqV, Option.some.injEq, reduceCtorEq] at he
      cases ha; cases hb
      subst he
      simp [Op.equalIn, run_underlying' hu]
    · cases h
  | f + 1, d + 1, t, .int, a, b, r, ca, cb, h, hd, he, ha, hb => by
    simp only [etOk] at h
    split at h
    · rename_i hu
      cases a <;> cases b <;> simp only [eqV, reduceCtorEq] at he
      cases ha; cases hb
      split at he
      · rename_i hk; subst hk
        simp only [Option.some.injEq] at he
        subst he
        simp [Op.equalIn, run_underlying' hu]; rfl
      · cases he
    · cases h
  | f + 1, d + 1, t, .str, a, b, r, ca, cb, h, hd, he, ha, hb => by
    simp only [etOk] at h
    split at h
    · rename_i hu
      cases a <;> cases b <;> simp only [eqV, Option.some.injEq, reduceCtorEq] at he
      cases ha with | s _ s1 h1 => cases hb with | s _ s2 h2 =>
      subst he; subst h1; subst h2
      rw [← beq_list, ← ByteArray.toList_eq, ← ByteArray.toList_eq, ← beq_toListBytes]
      simp [Op.equalIn, run_underlying' hu]
    · cases h
  | f + 1, d + 1, t, .ptr, a, b, r, ca, cb, h, hd, he, ha, hb => by
    simp only [etOk] at h
    split at h
    · rename_i e hu
      cases hz : szOf P e with
      | none => rw [hz] at h; cases h
      | some z =>
      rw [hz] at h
      have hz0 : z ≠ 0 := by intro h0; subst h0; cases h
      exact eq_ptr hu hz hz0 d (by simpa [eqV] using he) ha hb
    · cases h
  | f + 1, d + 1, t, .iface, a, b, r, ca, cb, h, hd, he, ha, hb => by
    simp only [etOk] at h
    split at h
    · rename_i hu
      cases a <;> cases b <;> simp only [eqV, Option.some.injEq, reduceCtorEq] at he
      all_goals (cases ha; cases hb; subst he; simp [Op.equalIn, run_underlying' hu])
    · cases h
  | f + 1, d + 1, t, .slnil, a, b, r, ca, cb, h, hd, he, ha, hb => by
    simp only [etOk] at h
    split at h
    · rename_i hu
      obtain ⟨p, n, k, q, m, j, rfl, rfl, hh⟩ := eq_slnil he ha hb
      rcases hh with ⟨rfl, rfl⟩ | ⟨⟨p', rfl⟩, rfl, rfl⟩
      · simp [Op.equalIn, run_underlying' hu]
      · simp [Op.equalIn, run_underlying' hu]
    · cases h
  | f + 1, d + 1, t, .struct fs, a, b, r, ca, cb, h, hd, he, ha, hb => by
    simp only [etOk] at h
    split at h
    · rename_i fields hu
      simp only [Bool.and_eq_true, Bool.not_eq_true'] at h
      cases a <;> cases b <;> simp only [eqV, reduceCtorEq] at he
      cases ha with | agg _ a1 h1 h2 => cases hb with | agg _ a2 h3 h4 =>
      have hfo : P.fieldsOf t = fields := by simp [Program.fieldsOf, hu]
      rw [run_equalIn_struct W d t a1 a2 (by rw [hfo]; exact hu) h.1, hfo]
      exact eqF_sound f d fields.toList fs _ _ r a1 a2 h.2 (by omega) he ⟨h1, h2⟩ ⟨h3, h4⟩
    · rename_i n e hu
      simp only [Bool.and_eq_true] at h
      obtain ⟨⟨k1, k2⟩, k3⟩ := h
      have hn := Nat.eq_of_beq_eq_true k1
      cases a <;> cases b <;> simp only [eqV, reduceCtorEq] at he
      cases ha with | agg _ a1 h1 h2 => cases hb with | agg _ a2 h3 h4 =>
      obtain ⟨i, hi⟩ := Option.isSome_iff_exists.1 k2
      rw [Go.run_equalIn_array (w := W) d a1 a2 hu hi, List.range_eq_range', ← hn]
      exact eqI_sound (f := f) (fun et a b r ca cb h he ha hb => eq_sound f d e et a b r ca cb h (by omega) he ha hb) fs 0 _ _ r a1 a2 k3 he ⟨h1, h2⟩ ⟨h3, h4⟩
    · cases h
theorem eqF_sound : ∀ (f d : Nat) (fds : List Field) (fs : List (Nat × Nat × Bool × ET)) (xs ys : List V) (r : Bool) (a b : Array Value), fieldsOk P f fds fs = true → f ≤ d → eqF fs xs ys = some r →
    VRs G W xs a → VRs G W ys b → (Op.eqFields d a b fds).run P W = .ok r W
  | f, d, [], [], xs, ys, r, a, b, _, _, he, _, _ => by
    simp only [eqF, Option.some.injEq] at he
    subst he
    simp [Op.eqFields]
  | f, d, [], _ :: _, _, _, _, _, _, h, _, _, _, _ => by simp [fieldsOk, fieldsBy] at h
  | f, d, fd :: fds, fs, xs, ys, r, a, b, h, hd, he, ha, hb => by
    rw [fieldsOk_cons] at h
    cases hn : (fd.name == "_") with
    | true =>
      rw [hn] at h
      simp only [cond_true] at h
      have hn' : fd.name = "_" := by simpa using hn
      simp only [Op.eqFields, hn', ne_eq, not_true_eq_false, if_false]
      exact eqF_sound f d fds fs xs ys r a b h hd he ha hb
    | false =>
      rw [hn] at h
      simp only [cond_false] at h
      have hn' : fd.name ≠ "_" := by simpa using hn
      cases fs with
      | nil => cases h
      | cons x fs' =>
        obtain ⟨off, n, agg, t⟩ := x
        simp only [Bool.and_eq_true, decide_eq_true_eq, Bool.or_eq_true] at h
        obtain ⟨⟨⟨⟨⟨h1, h2⟩, h3⟩, h4⟩, h5⟩, h6⟩ := h
        have ho := Nat.eq_of_beq_eq_true h1
        subst ho
        unfold eqF at he
        have hag : agg = false → n = 1 := fun e => by
          rcases h4 with h4 | h4
          · rw [e] at h4; cases h4
          · exact Nat.eq_of_beq_eq_true h4
        split at he
        · rename_i u v hu hv
          obtain ⟨c1, e1, r1, _⟩ := part_sound h3 h2 hag hu ha
          obtain ⟨c2, e2, r2, _⟩ := part_sound h3 h2 hag hv hb
          split at he
          · rename_i heq
            have := eq_sound f d fd.type t u v true c1 c2 h5 hd heq r1 r2
            simp only [Op.eqFields, hn', ne_eq, not_false_eq_true, if_true, Sem.run_bind, e1, e2, this, Result.andThen_ok, Bool.not_true, Bool.false_eq_true, if_false]
            exact eqF_sound f d fds fs' xs ys r a b h6 hd he ha hb
          · rename_i heq
            cases he
            have := eq_sound f d fd.type t u v false c1 c2 h5 hd heq r1 r2
            simp only [Op.eqFields, hn', ne_eq, not_false_eq_true, if_true, Sem.run_bind, e1, e2, this, Result.andThen_ok, Bool.not_false, Sem.run_pure]
          · cases he
        · cases he
end

end
end Ai
