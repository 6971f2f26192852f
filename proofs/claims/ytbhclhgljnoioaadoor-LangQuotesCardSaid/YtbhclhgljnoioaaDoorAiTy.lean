/- Texts: a rune is read off its own bytes. -/
import Derived.Test.YtbhclhgljnoioaaDoorAiTx
namespace Ai
open Go
def decF (b0 b1 b2 b3 : Nat) (c1 c2 c3 : Bool) : Nat × Nat :=
  if b0 < 0x80 then (b0, 1)
  else if b0 / 32 == 6 && c1 then
    let c := (b0 % 32) * 64 + b1 % 64
    if c ≥ 0x80 then (c, 2) else (Utf8.runeError, 1)
  else if b0 / 16 == 14 && c1 && c2 then
    let c := (b0 % 16) * 4096 + (b1 % 64) * 64 + b2 % 64
    if c ≥ 0x800 && Utf8.valid c then (c, 3) else (Utf8.runeError, 1)
  else if b0 / 8 == 30 && c1 && c2 && c3 then
    let c := (b0 % 8) * 262144 + (b1 % 64) * 4096 + (b2 % 64) * 64 + b3 % 64
    if c ≥ 0x10000 && Utf8.valid c then (c, 4) else (Utf8.runeError, 1)
  else (Utf8.runeError, 1)
def contB (l : List UInt8) (k : Nat) : Bool := decide (k < l.length) && (l.getD k 0).toNat / 64 == 2
theorem dec_F (l : List UInt8) : dec l = decF (l.getD 0 0).toNat (l.getD 1 0).toNat (l.getD 2 0).toNat (l.getD 3 0).toNat (contB l 1) (contB l 2) (contB l 3) := rfl
theorem decF3 (b0 b1 b2 b3 b3' : Nat) (c1 c2 q : Bool) (h : (decF b0 b1 b2 b3 c1 c2 q).2 ≤ 3) : decF b0 b1 b2 b3' c1 c2 false = decF b0 b1 b2 b3 c1 c2 q := by
  cases q with
  | false => simp [decF]
  | true =>
    revert h
    unfold decF
    simp only [Bool.and_false, Bool.and_true]
    by_cases h1 : b0 < 128
    · simp only [h1, if_true, implies_true]
    · simp only [h1, if_false]
      cases e1 : (b0 / 32 == 6 && c1) with
      | true => simp
      | false =>
        cases e2 : (b0 / 16 == 14 && c1 && c2) with
        | true => simp
        | false =>
          cases e3 : (b0 / 8 == 30 && c1 && c2) with
          | false => simp
          | true =>
            simp only [Bool.false_eq_true, if_false, if_true]
            split
            · intro h; simp at h
            · intro h; rfl
theorem decF2 (b0 b1 b2 b3 b2' b3' : Nat) (c1 q q3 : Bool) (h : (decF b0 b1 b2 b3 c1 q q3).2 ≤ 2) : decF b0 b1 b2' b3' c1 false false = decF b0 b1 b2 b3 c1 q q3 := by
  cases q with
  | false => simp [decF]
  | true =>
    revert h
    unfold decF
    simp only [Bool.and_false, Bool.and_true]
    by_cases h1 : b0 < 128
    · simp only [h1, if_true, implies_true]
    · simp only [h1, if_false]
      cases e1 : (b0 / 32 == 6 && c1) with
      | true => simp
      | false =>
        simp only [Bool.false_eq_true, if_false]
        split
        · split
          · intro h; simp at h
          · intro h; rfl
        · split
          · split
            · intro h; simp at h
            · intro h; rfl
          · intro h; rfl
theorem decF1 (b0 b1 b2 b3 b1' b2' b3' : Nat) (q q2 q3 : Bool) (h : (decF b0 b1 b2 b3 q q2 q3).2 ≤ 1) : decF b0 b1' b2' b3' false false false = decF b0 b1 b2 b3 q q2 q3 := by
  revert h
  unfold decF
  simp only [Bool.and_false, Bool.false_eq_true, if_false]
  by_cases h1 : b0 < 128
  · simp only [h1, if_true, implies_true]
  · simp only [h1, if_false]
    split
    · split
      · intro h; simp at h
      · intro h; rfl
    · split
      · split
        · intro h; simp at h
        · intro h; rfl
      · split
        · split
          · intro h; simp at h
          · intro h; rfl
        · intro h; rfl
theorem dec_prefix (x y : List UInt8) (hx : x ≠ []) (h : (dec (x ++ y)).2 ≤ x.length) : dec x = dec (x ++ y) := by
  rw [dec_F] at h
  rw [dec_F, dec_F]
  match x, hx, h with
  | [a], _, h => exact decF1 _ _ _ _ _ _ _ _ _ _ h
  | [a, b], _, h =>
    have e : contB ([a, b] ++ y) 1 = contB [a, b] 1 := by simp [contB]
    rw [e] at h ⊢
    exact decF2 _ _ _ _ _ _ _ _ _ h
  | [a, b, c], _, h =>
    have e : contB ([a, b, c] ++ y) 1 = contB [a, b, c] 1 := by simp [contB]
    have e2 : contB ([a, b, c] ++ y) 2 = contB [a, b, c] 2 := by simp [contB]
    rw [e, e2] at h ⊢
    exact decF3 _ _ _ _ _ _ _ _ h
  | a :: b :: c :: d :: r, _, h => simp [contB]

/-- How many bytes stand ahead of the first rune of the kind. -/
def fst (by' : Int) (l : List UInt8) : Nat :=
  match l with
  | [] => 0
  | a :: r => if ((dec (a :: r)).1 : Int) = by' then 0 else (dec (a :: r)).2 + fst by' ((a :: r).drop (dec (a :: r)).2)
termination_by l.length
decreasing_by exact dec_nil_free a r
theorem fst_nil (by' : Int) : fst by' [] = 0 := by rw [fst]
theorem fst_cons (by' : Int) (a : UInt8) (r : List UInt8) : fst by' (a :: r) = if ((dec (a :: r)).1 : Int) = by' then 0 else (dec (a :: r)).2 + fst by' ((a :: r).drop (dec (a :: r)).2) := by rw [fst]
/-- The runes of what stands ahead. -/
theorem rns_take (by' : Int) (l : List UInt8) : ∀ c ∈ rns (l.take (fst by' l)), ((c : Nat) : Int) ≠ by' := by
  induction l using rune_ind with
  | h0 => intro c hc; simp [fst_nil, rns_nil] at hc
  | h1 a r ih =>
    intro c hc
    rw [fst_cons] at hc
    split at hc
    · simp [rns_nil] at hc
    · rename_i hn
      have hw := dec_pos (a :: r)
      have hw2 := dec_le a r
      have hx : (a :: r).take ((dec (a :: r)).2 + fst by' ((a :: r).drop (dec (a :: r)).2)) = (a :: r).take (dec (a :: r)).2 ++ ((a :: r).drop (dec (a :: r)).2).take (fst by' ((a :: r).drop (dec (a :: r)).2)) := by rw [List.take_add]
      have hne : (a :: r).take ((dec (a :: r)).2 + fst by' ((a :: r).drop (dec (a :: r)).2)) ≠ [] := by
        intro e
        have := congrArg List.length e
        simp only [List.length_take, List.length_nil, List.length_cons] at this hw2
        omega
      have hp := dec_prefix ((a :: r).take ((dec (a :: r)).2 + fst by' ((a :: r).drop (dec (a :: r)).2))) ((a :: r).drop ((dec (a :: r)).2 + fst by' ((a :: r).drop (dec (a :: r)).2))) hne (by
        rw [List.take_append_drop, List.length_take]; omega)
      rw [List.take_append_drop] at hp
      generalize hq : (a :: r).take ((dec (a :: r)).2 + fst by' ((a :: r).drop (dec (a :: r)).2)) = q at *
      cases q with
      | nil => exact absurd rfl hne
      | cons b s =>
        rw [rns_cons, hp] at hc
        rcases List.mem_cons.1 hc with rfl | hc
        · exact hn
        · rw [hx, List.drop_append_of_le_length (by rw [List.length_take]; omega)] at hc
          rw [List.drop_eq_nil_of_le (by rw [List.length_take]; omega), List.nil_append] at hc
          exact ih c hc
theorem prt_fst (by' : Int) (l : List UInt8) : ∀ acc, ∃ rest, prt by' acc l = (acc ++ l.take (fst by' l)) :: rest ∧ (rest = [] ∨ ∃ l', l'.length < l.length ∧ rest = prt by' [] l') := by
  induction l using rune_ind with
  | h0 => intro acc; exact ⟨[], by simp [prt_nil], .inl rfl⟩
  | h1 a r ih =>
    intro acc
    have hn := dec_nil_free a r
    rw [prt_cons, fst_cons]
    split
    · exact ⟨_, by simp, .inr ⟨_, hn, rfl⟩⟩
    · obtain ⟨rest, h1, h2⟩ := ih (acc ++ (a :: r).take (dec (a :: r)).2)
      refine ⟨rest, ?_, ?_⟩
      · rw [h1, List.take_add, List.append_assoc]
      · rcases h2 with h2 | ⟨l', h3, h4⟩
        · exact .inl h2
        · exact .inr ⟨l', by omega, h4⟩
theorem prt_free (by' : Int) : ∀ (n : Nat) (l : List UInt8), l.length ≤ n → ∀ p ∈ prt by' [] l, ∀ c ∈ rns p, ((c : Nat) : Int) ≠ by'
  | n, l, hl, p, hp, c, hc => by
    obtain ⟨rest, h1, h2⟩ := prt_fst by' l []
    rw [h1] at hp
    rcases List.mem_cons.1 hp with rfl | hp
    · rw [List.nil_append] at hc; exact rns_take by' l c hc
    · rcases h2 with rfl | ⟨l', h3, rfl⟩
      · cases hp
      · match n, hl with
        | 0, hl => omega
        | n + 1, hl => exact prt_free by' n l' (by omega) p hp c hc
theorem prt_count (by' : Int) (l : List UInt8) : ∀ acc, (prt by' acc l).length = 1 + (rns l).countP fun c : Nat => decide ((c : Int) = by') := by
  induction l using rune_ind with
  | h0 => intro acc; simp [prt_nil, rns_nil]
  | h1 a r ih =>
    intro acc
    rw [prt_cons, rns_cons, List.countP_cons]
    split
    · rename_i h; rw [List.length_cons, ih]; simp [h]; omega
    · rename_i h; rw [ih]; simp [h]
end Ai
