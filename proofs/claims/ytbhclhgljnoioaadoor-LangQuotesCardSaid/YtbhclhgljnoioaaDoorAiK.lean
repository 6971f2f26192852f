/- The abstract interpreter: text, conversions, slices, comparisons of whole values. -/
import Derived.Test.YtbhclhgljnoioaaDoorAiJ
import Derived.Laws.BytesString
import Derived.Laws.BytesArg
import Derived.Laws.RangeString
import Derived.Lib.ConvBytes
namespace Ai
open Go

theorem dec_eq (s : ByteArray) (pos : Nat) : Utf8.decode s pos = dec (s.data.toList.drop pos) := by
  have h1 : ∀ k, (s.get! (pos + k)).toNat = ((s.data.toList.drop pos).getD k 0).toNat := by
    intro k
    congr 1
    show s.data[pos + k]! = _
    rw [List.getD_eq_getElem?_getD, List.getElem?_drop, Array.getElem?_toList, getElem!_def]
    split <;> rename_i h <;> rw [h] <;> rfl
  have h2 : ∀ k, decide (pos + k < s.size) = decide (k < (s.data.toList.drop pos).length) := by
    intro k
    rw [Bool.eq_iff_iff, decide_eq_true_iff, decide_eq_true_iff]
    simp only [List.length_drop, Array.length_toList]
    show pos + k < s.data.size ↔ _
    omega
  simp only [Utf8.decode, dec, h1, h2]

/-- A scalar as the model has it. -/
def conc : V → Value
  | .i k n => .int k n
  | _ => undef

theorem conc_vr {G : Gh} {W : World} (k : IntKind) (n : Int) : VR G W (.i k n) (conc (.i k n)) := .i k n

theorem runesFrom_eq (s : ByteArray) : ∀ (f i : Nat) (acc : Array Value), Conv.runesFrom s f i acc = acc ++ ((runesL f (s.data.toList.drop i)).map conc).toArray
  | 0, i, acc => by simp [Conv.runesFrom, runesL]
  | f + 1, i, acc => by
    simp only [Conv.runesFrom, runesL]
    by_cases h : i < s.size
    · rw [if_pos h]
      have hd : s.data.toList.drop i ≠ [] := by
        intro e
        have := congrArg List.length e
        simp only [List.length_drop, Array.length_toList, List.length_nil] at this
        have h' : i < s.data.size := h
        omega
      rw [runesFrom_eq s f]
      cases hl : s.data.toList.drop i with
      | nil => exact absurd hl hd
      | cons a r =>
        simp only [List.map_cons]
        rw [dec_eq, hl]
        have : s.data.toList.drop (i + (dec (a :: r)).2) = (a :: r).drop (dec (a :: r)).2 := by rw [← hl, List.drop_drop]
        rw [this]
        simp [conc]
    · rw [if_neg h]
      have hd : s.data.toList.drop i = [] := by
        apply List.drop_eq_nil_of_le
        simp only [Array.length_toList]
        have h' : ¬ i < s.data.size := h
        omega
      rw [hd]
      simp

theorem runesL_i : ∀ (f : Nat) (l : List UInt8) (v : V), v ∈ runesL f l → ∃ n, v = .i .i32 n
  | 0, l, v, h => by cases h
  | f + 1, l, v, h => by
    simp only [runesL] at h
    cases l with
    | nil => cases h
    | cons a r =>
      simp only at h
      cases h with
      | head => exact ⟨_, rfl⟩
      | tail _ h => exact runesL_i f _ v h

theorem bytesOf?_spec : ∀ {xs : List V} {l : List UInt8}, bytesOf? xs = some l → ∃ ns : List Int, xs = ns.map (V.i .u8) ∧ l = ns.map fun n => UInt8.ofNat n.toNat
  | [], l, h => by simp only [bytesOf?, Option.some.injEq] at h; exact ⟨[], rfl, h.symm⟩
  | v :: r, l, h => by
    unfold bytesOf? at h
    split at h
    · rename_i heq; cases heq
    · rename_i n r' heq
      cases heq
      cases hr : bytesOf? r with
      | none => rw [hr] at h; cases h
      | some l' =>
        rw [hr] at h
        simp only [Option.map_some, Option.some.injEq] at h
        obtain ⟨ns, e1, e2⟩ := bytesOf?_spec hr
        exact ⟨n :: ns, by rw [e1]; rfl, by rw [← h, e2]; rfl⟩
    · cases h

theorem runesOf?_spec : ∀ {xs : List V} {l : List UInt8}, runesOf? xs = some l → ∃ ns : List Int, xs = ns.map (V.i .i32) ∧ l = ns.flatMap fun n => (Utf8.encode n).data.toList
  | [], l, h => by simp only [runesOf?, Option.some.injEq] at h; exact ⟨[], rfl, h.symm⟩
  | v :: r, l, h => by
    unfold runesOf? at h
    split at h
    · rename_i heq; cases heq
    · rename_i n r' heq
      cases heq
      cases hr : runesOf? r with
      | none => rw [hr] at h; cases h
      | some l' =>
        rw [hr] at h
        simp only [Option.map_some, Option.some.injEq] at h
        obtain ⟨ns, e1, e2⟩ := runesOf?_spec hr
        exact ⟨n :: ns, by rw [e1]; rfl, by rw [← h, e2]; simp⟩
    · cases h

section
variable {P : Program} {kl : List (Nat × List Nat)} {G : Gh} {W : World} {st : St} {A : Act}

/-- What a slice holds, as a value: its cells are there to be read. -/
theorem row_sound (hs : StRel P kl G W st A) {sz : Nat} {v : V} {c : Value} {xs : List V} {n : Nat} (h : st.row sz v = some (xs, n)) (hv : VR G W v c) (hz : 0 < sz) :
    xs.length = n * sz ∧
    ((∃ s : ByteArray, c = .string s ∧ sz = 1 ∧ n = s.size ∧ xs = s.data.toList.map byteV) ∨
     ∃ (a : Option Addr) (cap b o : Nat) (cs : Nat → Value), c = .slice a n cap ∧ n ≤ cap ∧ (xs ≠ [] → a = some ⟨b, o, none⟩) ∧ (∀ j, j < xs.length → W.cell? ⟨b, o + j, none⟩ = some (cs j)) ∧
       ∀ j, j < xs.length → VR G W (xs.getD j .any) (cs j)) := by
  unfold St.row at h
  split at h
  · rename_i ys m tk
    cases hb : Nat.beq ys.length (m * sz) with
    | false => rw [hb] at h; cases h
    | true =>
      rw [hb] at h
      simp only [cond_true, Option.some.injEq, Prod.mk.injEq] at h
      obtain ⟨rfl, rfl⟩ := h
      cases hv with | sl _ _ _ a cap b o cs hn ha hi hc hv ht =>
      exact ⟨Nat.eq_of_beq_eq_true hb, .inr ⟨a, cap, b, o, cs, rfl, hn, ha, hc, hv⟩⟩
  · rename_i id off m sz'
    cases hb : Nat.beq sz sz' with
    | false => rw [hb] at h; cases h
    | true =>
      rw [hb] at h
      simp only [cond_true] at h
      split at h
      · rename_i ty cs hl
        cases hsub : sub? cs off (m * sz) with
        | none => rw [hsub] at h; cases h
        | some ys =>
          rw [hsub] at h
          simp only [Option.map_some, Option.some.injEq, Prod.mk.injEq] at h
          obtain ⟨rfl, rfl⟩ := h
          obtain ⟨h1, h2, h3, h4⟩ := sub?_spec hsub
          cases hv with | hs _ _ _ _ b cap a hb' hn ha =>
          obtain ⟨b', e1, e2, hc⟩ := hs.mem.objs id _ hl
          rw [e1] at hb'; cases hb'
          obtain ⟨c, g1, g2, g3⟩ := CellsRel.ex hc
          refine ⟨h1, .inr ⟨_, cap, b, off, fun j => c.getD (off + j) undef, rfl, hn, fun hne => ha (Nat.pos_of_ne_zero (fun h0 => hne (by subst h0; simpa using h1))), fun j hj => ?_, fun j hj => ?_⟩⟩
          · have := h4 (by omega)
            exact cell_getD g1 (by omega)
          · have := h4 (by omega)
            rw [h3 j (by omega)]
            exact g3 (off + j) (by omega)
      · cases h
  · rename_i l
    cases hb : Nat.beq sz 1 with
    | false => rw [hb] at h; cases h
    | true =>
      rw [hb] at h
      have := Nat.eq_of_beq_eq_true hb
      subst this
      simp only [cond_true, Option.some.injEq, Prod.mk.injEq] at h
      obtain ⟨rfl, rfl⟩ := h
      cases hv with | s _ s hl =>
      subst hl
      exact ⟨by simp, .inl ⟨s, rfl, rfl, Array.length_toList, rfl⟩⟩
  · cases h

/-- A slice's cells are read. -/
theorem firstCells_sound (hs : StRel P kl G W st A) {sz : Nat} {v : V} {c : Value} {xs : List V} {n : Nat} (h : st.row sz v = some (xs, n)) (hv : VR G W v c) (hz : 0 < sz) :
    ∃ a : Array Value, (Builtin.firstCells sz n c).run P W = .ok a W ∧ VRs G W xs a ∧ (Builtin.lenOf c).run P W = .ok n W := by
  obtain ⟨hl, hh⟩ := row_sound hs h hv hz
  rcases hh with ⟨s, rfl, rfl, rfl, rfl⟩ | ⟨a, cap, b, o, cs, rfl, hn, ha, hc, hr⟩
  · refine ⟨s.data.map fun b => .int .u8 b.toNat, ?_, ⟨by simp, fun j hj => ?_⟩, rfl⟩
    · simp only [Builtin.firstCells]
      have : (s.extract 0 s.size) = s := by simp
      rw [this]; rfl
    · simp only [List.length_map, Array.length_toList] at hj
      have e1 : s.data[j]? = some s.data[j] := Array.getElem?_eq_getElem hj
      simp only [List.getD_eq_getElem?_getD, Array.getD_eq_getD_getElem?, List.getElem?_map, Array.getElem?_map, Array.getElem?_toList, e1, Option.map_some, Option.getD_some]
      exact .i _ _
  · by_cases hx : xs = []
    · subst hx
      have hn0 : n = 0 := by
        rcases Nat.eq_zero_or_pos n with h | h
        · exact h
        · have := Nat.mul_pos h hz; simp at hl; omega
      subst hn0
      refine ⟨#[], ?_, ⟨rfl, fun j hj => by cases hj⟩, rfl⟩
      cases a with
      | none => rfl
      | some a => simp only [Builtin.firstCells, Nat.zero_mul]; rfl
    · rw [ha hx]
      refine ⟨(stretch cs 0 (n * sz)).toArray, ?_, ⟨by simp [stretch_length, hl], fun j hj => ?_⟩, rfl⟩
      · simp only [Builtin.firstCells]
        exact run_loadCells' b o (n * sz) cs (fun j hj => hc j (by omega))
      · have e : (stretch cs 0 (n * sz)).toArray.getD j undef = cs j := by
          have := stretch_getD cs (n * sz) 0 j (by omega)
          simp only [Nat.zero_add] at this
          rw [← this]
          simp [Array.getD_eq_getD_getElem?, List.getD_eq_getElem?_getD]
        rw [e]; exact hr j hj

end
end Ai
