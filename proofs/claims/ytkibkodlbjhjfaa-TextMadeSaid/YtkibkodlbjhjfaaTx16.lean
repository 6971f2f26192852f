/- A value made of fields: what is under each name. -/
import Derived.Test.YtkibkodlbjhjfaaTx15
import Derived.SizedLaws
set_option linter.unusedSimpArgs false
set_option linter.unusedVariables false
namespace Go.Proofs.Ytkibkodlbjhjfaa
open Ai
theorem decF_cont (b0 b1 b2 b3 : Nat) (c1 c2 c3 : Bool) : (1 < (decF b0 b1 b2 b3 c1 c2 c3).2 → c1 = true) ∧ (2 < (decF b0 b1 b2 b3 c1 c2 c3).2 → c2 = true) ∧ (3 < (decF b0 b1 b2 b3 c1 c2 c3).2 → c3 = true) ∧ (decF b0 b1 b2 b3 c1 c2 c3).2 ≤ 4 := by
  unfold decF
  cases c1 <;> cases c2 <;> cases c3 <;> simp only [Bool.and_true, Bool.and_false, Bool.false_eq_true, if_false] <;> (repeat' split) <;> simp
theorem dec_cont (l : List UInt8) (k : Nat) (h1 : 1 ≤ k) (h : k < (dec l).2) : contB l k = true := by
  have h4 := decF_cont (l.getD 0 0).toNat (l.getD 1 0).toNat (l.getD 2 0).toNat (l.getD 3 0).toNat (contB l 1) (contB l 2) (contB l 3)
  rw [← dec_F] at h4
  obtain ⟨a, b, c, d⟩ := h4
  match k, h1 with
  | 1, _ => exact a h
  | 2, _ => exact b h
  | 3, _ => exact c h
  | k + 4, _ => omega
/-- No rune goes over a byte of ASCII. -/
theorem dec_stop (a : UInt8) (r : List UInt8) (c : UInt8) (hc : c.toNat < 128) (y : List UInt8) : dec (a :: r ++ c :: y) = dec (a :: r) := by
  have h : (dec (a :: r ++ c :: y)).2 ≤ (a :: r).length := by
    refine Nat.le_of_not_lt fun hlt => ?_
    have := dec_cont _ _ (by simp) hlt
    simp only [contB, Bool.and_eq_true, beq_iff_eq] at this
    have h2 := this.2
    have h3 : (a :: r ++ c :: y).getD (a :: r).length 0 = c := by simp
    rw [h3] at h2
    omega
  exact (dec_prefix (a :: r) (c :: y) (by simp) h).symm
theorem prt_stop (c : UInt8) (hc : c.toNat < 128) (y x : List UInt8) : ∀ acc, c ∉ x → prt c.toNat acc (x ++ c :: y) = (acc ++ x) :: prt c.toNat [] y := by
  induction x using rune_ind with
  | h0 =>
    intro acc _
    rw [List.nil_append, prt_cons, dec_ascii hc, if_pos rfl]
    simp
  | h1 a r ih =>
    intro acc hn
    have hle := dec_le a r
    have hd := dec_stop a r c hc y
    rw [List.cons_append] at hd
    rw [List.cons_append, prt_cons, hd]
    have hne : ¬ (((dec (a :: r)).1 : Nat) : Int) = (c.toNat : Int) := by
      intro h
      obtain ⟨h1, h2⟩ := dec_low (a := a) (r := r) (by omega)
      rw [h2] at h
      exact hn (by rw [show c = a from UInt8.toNat_inj.1 (by simp only at h; omega)]; simp)
    rw [if_neg hne]
    have e1 : (a :: (r ++ c :: y)).drop (dec (a :: r)).2 = (a :: r).drop (dec (a :: r)).2 ++ c :: y := by
      rw [← List.cons_append, List.drop_append_of_le_length hle]
    have e2 : (a :: (r ++ c :: y)).take (dec (a :: r)).2 = (a :: r).take (dec (a :: r)).2 := by
      rw [← List.cons_append, List.take_append_of_le_length hle]
    rw [e1, e2, ih _ (fun h => hn (List.mem_of_mem_drop h)), List.append_assoc, List.take_append_drop]
theorem prt_whole (c : UInt8) (hc : c.toNat < 128) (x : List UInt8) : ∀ acc, c ∉ x → prt c.toNat acc x = [acc ++ x] := by
  induction x using rune_ind with
  | h0 => intro acc _; rw [prt_nil]; simp
  | h1 a r ih =>
    intro acc hn
    rw [prt_cons]
    have hne : ¬ (((dec (a :: r)).1 : Nat) : Int) = (c.toNat : Int) := by
      intro h
      obtain ⟨h1, h2⟩ := dec_low (a := a) (r := r) (by omega)
      rw [h2] at h
      exact hn (by rw [show c = a from UInt8.toNat_inj.1 (by simp only at h; omega)]; simp)
    rw [if_neg hne, ih _ (fun h => hn (List.mem_of_mem_drop h)), List.append_assoc, List.take_append_drop]
theorem joinT_cons (sep y : List UInt8) (r : List (List UInt8)) : Lib.joinTail sep (y :: r) = sep ++ (y ++ Lib.joinTail sep r) := by simp [Lib.joinTail]
/-- Parts of a text that was joined. -/
theorem prt_join (c : UInt8) (hc : c.toNat < 128) : ∀ (ps : List (List UInt8)), ps ≠ [] → (∀ p ∈ ps, c ∉ p) → prt c.toNat [] (Lib.join ps [c]) = ps := by
  intro ps
  induction ps with
  | nil => intro h; exact absurd rfl h
  | cons p r ih =>
    intro _ hp
    cases r with
    | nil => rw [Lib.join_one, prt_whole c hc p [] (hp p (by simp))]; simp
    | cons q s =>
      have := ih (by simp) (fun x hx => hp x (by simp [hx]))
      rw [Lib.join_cons] at this ⊢
      rw [joinT_cons, List.singleton_append, prt_stop c hc _ p [] (hp p (by simp)), this]
      simp
def low (n : List UInt8) : Prop := n ≠ [] ∧ n.length ≤ 8 ∧ ∀ b ∈ n, 97 ≤ b.toNat ∧ b.toNat ≤ 122
theorem low_bytes (l : List UInt8) : (rns l).all letter = true → (rns l).length = l.length ∧ ∀ b ∈ l, 97 ≤ b.toNat ∧ b.toNat ≤ 122 := by
  induction l using rune_ind with
  | h0 => intro _; simp [rns_nil]
  | h1 a r ih =>
    intro h
    rw [rns_cons, List.all_cons, Bool.and_eq_true] at h
    have h1 := h.1
    simp only [letter, Bool.and_eq_true, decide_eq_true_eq] at h1
    obtain ⟨h2, h3⟩ := dec_low (a := a) (r := r) (by omega)
    rw [h3] at h h1 ih
    simp only [List.drop_succ_cons, List.drop_zero] at ih h
    obtain ⟨g1, g2⟩ := ih h.2
    rw [rns_cons, h3]
    simp only [List.drop_succ_cons, List.drop_zero, List.length_cons, g1, true_and]
    intro b hb
    rcases List.mem_cons.1 hb with rfl | hb
    · simp only at h1; omega
    · exact g2 b hb
theorem low_of {l : List UInt8} (h : allV letter 1 8 l = true) : low l := by
  simp only [allV, Bool.and_eq_true, decide_eq_true_eq] at h
  obtain ⟨h1, h2, h3⟩ := h
  obtain ⟨h4, h5⟩ := low_bytes l h3
  exact ⟨fun e => by subst e; simp [rns_nil] at h1, by omega, h5⟩
theorem fld1_low (name v : List UInt8) : ∀ (n acc : List UInt8), (∀ b ∈ n, 97 ≤ b.toNat ∧ b.toNat ≤ 122) → fld1 name acc (n ++ 58 :: v) = if acc ++ n = name then some v else none := by
  intro n
  induction n with
  | nil => intro acc _; rw [List.nil_append, fld1_cons, dec_ascii (by decide), if_pos (by decide)]; simp
  | cons a r ih =>
    intro acc h
    have ha := h a (by simp)
    rw [List.cons_append, fld1_cons, dec_ascii (by omega), if_neg (by simp only; omega)]
    simp only [List.take_succ_cons, List.take_zero, List.drop_succ_cons, List.drop_zero]
    rw [ih _ (fun b hb => h b (by simp [hb])), List.append_assoc]
    rfl
theorem fld1_none (name : List UInt8) : fld1 name [] [] = none := fld1_nil _ _
def mkp (e : List UInt8 × List UInt8) : List UInt8 := e.1 ++ [58] ++ e.2
theorem mk_eq (e : List UInt8 × List UInt8) : mkp e = e.1 ++ 58 :: e.2 := by simp [mkp]
theorem fldV_mk (name : List UInt8) : ∀ (es : List (List UInt8 × List UInt8)), (∀ e ∈ es, low e.1) → fldV name (es.map mkp) = (es.find? fun e => decide (e.1 = name)).map (·.2) := by
  intro es
  induction es with
  | nil => intro _; rfl
  | cons e r ih =>
    intro h
    simp only [List.map_cons, fldV, mk_eq]
    rw [fld1_low name e.2 e.1 [] (h e (by simp)).2.2, List.nil_append, List.find?_cons]
    by_cases hn : e.1 = name
    · simp [hn]
    · simp only [hn, if_false, decide_false]
      exact ih (fun x hx => h x (by simp [hx]))
theorem mk_free {e : List UInt8 × List UInt8} (h1 : low e.1) (h2 : (32 : UInt8) ∉ e.2) : (32 : UInt8) ∉ mkp e := by
  rw [mk_eq]
  intro h
  rcases List.mem_append.1 h with h | h
  · have := (h1.2.2 _ h).1
    exact absurd this (by decide)
  · rcases List.mem_cons.1 h with h | h
    · exact absurd h (by decide)
    · exact h2 h
/-- What lies under a name. -/
def under (es : List (List UInt8 × List UInt8)) (q : List UInt8) : Option (List UInt8) := (es.find? fun e => decide (e.1 = q)).map (·.2)
theorem field_all (es : List (List UInt8 × List UInt8)) (h1 : ∀ e ∈ es, low e.1) (h2 : ∀ e ∈ es, (32 : UInt8) ∉ e.2) (q : List UInt8) : fldV q (prt 32 [] (Lib.join (es.map mkp) [32])) = under es q := by
  by_cases he : es = []
  · subst he
    rw [List.map_nil, Lib.join_nil, prt_nil]
    simp [fldV, fld1_nil, under]
  · rw [show prt 32 [] (Lib.join (es.map mkp) [32]) = es.map mkp from prt_join 32 (by decide) _ (by simpa using he) (fun p hp => by
      obtain ⟨e, h3, rfl⟩ := List.mem_map.1 hp
      exact mk_free (h1 e h3) (h2 e h3))]
    exact fldV_mk q es h1
theorem prt_all_len (es : List (List UInt8 × List UInt8)) (h1 : ∀ e ∈ es, low e.1) (h2 : ∀ e ∈ es, (32 : UInt8) ∉ e.2) : (prt 32 [] (Lib.join (es.map mkp) [32])).length ≤ es.length + 1 := by
  by_cases he : es = []
  · subst he
    rw [List.map_nil, Lib.join_nil, prt_nil]
    simp
  · rw [show prt 32 [] (Lib.join (es.map mkp) [32]) = es.map mkp from prt_join 32 (by decide) _ (by simpa using he) (fun p hp => by
      obtain ⟨e, h3, rfl⟩ := List.mem_map.1 hp
      exact mk_free (h1 e h3) (h2 e h3))]
    simp
theorem under_none (es : List (List UInt8 × List UInt8)) (q : List UInt8) : under es q = none ↔ q ∉ es.map (·.1) := by
  simp only [under, Option.map_eq_none_iff, List.find?_eq_none, decide_eq_true_eq, List.mem_map, not_exists, not_and]
theorem under_at (es : List (List UInt8 × List UInt8)) (hd : (es.map (·.1)).Nodup) (j : Nat) (hj : j < es.length) : under es es[j].1 = some es[j].2 := by
  induction es generalizing j with
  | nil => simp at hj
  | cons e r ih =>
    rw [List.map_cons, List.nodup_cons] at hd
    cases j with
    | zero => simp [under]
    | succ j =>
      have hj' : j < r.length := by simpa using hj
      have := ih hd.2 j hj'
      have hne : ¬ e.1 = r[j].1 := fun h => hd.1 (by rw [h]; exact List.mem_map.2 ⟨r[j], List.getElem_mem hj', rfl⟩)
      simp only [under, List.getElem_cons_succ, List.find?_cons, hne, decide_false] at this ⊢
      exact this
/-! ### The map -/
def es (ns : List (List UInt8)) : List (V × V) := ns.map fun n => (V.s n, V.b true)
theorem mfind_es (q : List UInt8) : ∀ (ns : List (List UInt8)) (i : Nat), (q ∈ ns → ∃ j, mfind .str (.s q) (es ns) i = some (some (j, .b true))) ∧ (q ∉ ns → mfind .str (.s q) (es ns) i = some none) := by
  intro ns
  induction ns with
  | nil => intro i; exact ⟨fun h => (by cases h), fun _ => rfl⟩
  | cons n r ih =>
    intro i
    have e : mfind .str (.s q) (es (n :: r)) i = match keyEq .str (.s q) (.s n) with | some true => some (some (i, V.b true)) | some false => mfind .str (.s q) (es r) (i + 1) | none => none := rfl
    rw [e]
    simp only [keyEq, strEq_iff]
    by_cases h : q = n
    · simp [h]
    · simp only [h, decide_false, List.mem_cons, false_or]
      exact ih (i + 1)
end Go.Proofs.Ytkibkodlbjhjfaa
