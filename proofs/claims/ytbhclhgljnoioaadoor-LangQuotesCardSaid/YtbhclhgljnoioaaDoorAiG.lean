/- The abstract interpreter: operations on rows of values. -/
import Derived.Test.YtbhclhgljnoioaaDoorAiF
import Derived.Laws.StructEq
namespace Ai
open Go

theorem getD_append_lt {α : Type} (x y : List α) (d : α) {j : Nat} (h : j < x.length) : (x ++ y).getD j d = x.getD j d := by
  simp [List.getD_eq_getElem?_getD, List.getElem?_append_left h]

theorem getD_append_ge {α : Type} (x y : List α) (d : α) {j : Nat} (h : x.length ≤ j) : (x ++ y).getD j d = y.getD (j - x.length) d := by
  simp [List.getD_eq_getElem?_getD, List.getElem?_append_right h]

theorem getD_drop {α : Type} (x : List α) (d : α) (o j : Nat) : (x.drop o).getD j d = x.getD (o + j) d := by
  simp [List.getD_eq_getElem?_getD]

theorem getD_take {α : Type} (x : List α) (d : α) {n j : Nat} (h : j < n) : (x.take n).getD j d = x.getD j d := by
  simp [List.getD_eq_getElem?_getD, h]

theorem sub?_spec {xs r : List V} {o n : Nat} (h : sub? xs o n = some r) :
    r.length = n ∧ r = (xs.drop o).take n ∧ (∀ j, j < n → r.getD j .any = xs.getD (o + j) .any) ∧ (0 < n → o + n ≤ xs.length) := by
  unfold sub? at h
  simp only at h
  cases hb : Nat.beq ((xs.drop o).take n).length n with
  | false => rw [hb] at h; cases h
  | true =>
    rw [hb] at h
    simp only [cond_true, Option.some.injEq] at h
    have hl := Nat.eq_of_beq_eq_true hb
    subst h
    refine ⟨hl, rfl, fun j hj => ?_, fun hn => ?_⟩
    · rw [getD_take _ _ hj, getD_drop]
    · simp only [List.length_take, List.length_drop] at hl; omega

theorem splice_length {cs xs : List V} {o : Nat} (h : o + xs.length ≤ cs.length) : (splice cs o xs).length = cs.length := by
  simp only [splice, List.length_append, List.length_take, List.length_drop]; omega

theorem splice_getD {cs xs : List V} {o : Nat} (h : o + xs.length ≤ cs.length) (j : Nat) :
    (splice cs o xs).getD j .any = if o ≤ j ∧ j < o + xs.length then xs.getD (j - o) .any else cs.getD j .any := by
  unfold splice
  have hl : (cs.take o).length = o := by simp; omega
  by_cases h1 : j < o
  · rw [if_neg (by omega), List.append_assoc, getD_append_lt _ _ _ (by omega), getD_take _ _ h1]
  · rw [List.append_assoc, getD_append_ge _ _ _ (by omega), hl]
    by_cases h2 : j < o + xs.length
    · rw [if_pos ⟨by omega, h2⟩, getD_append_lt _ _ _ (by omega)]
    · rw [if_neg (by omega), getD_append_ge _ _ _ (by omega), getD_drop]
      congr 1; omega

section
variable {P : Program} {G : Gh} {W : World}

theorem VRs.agg {x : List V} {a : Array Value} (h : VRs G W x a) : VR G W (.agg x) (.agg a) := .agg x a h.1 h.2
theorem VRs.tup {x : List V} {a : Array Value} (h : VRs G W x a) : VR G W (.tup x) (.tuple a) := .tup x a h.1 h.2

theorem VRs.extract {x r : List V} {a : Array Value} {o n : Nat} (h : VRs G W x a) (hs : sub? x o n = some r) : VRs G W r (a.extract o (o + n)) := by
  obtain ⟨h1, h2, h3, h4⟩ := sub?_spec hs
  obtain ⟨g1, g2⟩ := h
  rcases Nat.eq_zero_or_pos n with hn | hn
  · subst hn
    refine ⟨by simp [h1]; omega, fun j hj => by omega⟩
  · have h5 := h4 hn
    refine ⟨by simp [h1]; omega, fun j hj => ?_⟩
    rw [h1] at hj
    rw [h3 j hj]
    have := g2 (o + j) (by omega)
    have e : (a.extract o (o + n)).getD j undef = a.getD (o + j) undef := by
      simp only [Array.getD_eq_getD_getElem?]
      rw [Array.getElem?_extract_of_lt (by omega)]
      simp [show o + j < a.size by omega]
    rw [e]; exact this

theorem part_sound {t : TypeId} {agg : Bool} {n off : Nat} {xs : List V} {a : Array Value} {v : V} (ht : aggOf P t = some agg) (hn : szOf P t = some n) (h1 : agg = false → n = 1)
    (h : part? xs off n agg = some v) (hr : VRs G W xs a) : ∃ c, (part t a off).run P W = .ok c W ∧ VR G W v c ∧ v.plain = true := by
  unfold part? at h
  split at h
  · rename_i r hs
    cases agg with
    | true =>
      simp only [cond_true, Option.some.injEq] at h
      subst h
      exact ⟨.agg (a.extract off (off + n)), by simp [part, run_isAgg' ht, run_sizeOf' hn], (hr.extract hs).agg, rfl⟩
    | false =>
      simp only [cond_false] at h
      split at h
      · rename_i u
        simp only [Option.some.injEq] at h
        subst h
        obtain ⟨g1, _, g3, g4⟩ := sub?_spec hs
        have hn1 := h1 rfl
        subst hn1
        have g5 := g4 (by omega)
        have g6 := g3 0 (by omega)
        simp only [List.getD_cons_zero, Nat.add_zero] at g6
        have hlt : off < a.size := by have := hr.1; omega
        have hv := hr.2 off (by omega)
        rw [← g6] at hv
        refine ⟨a.getD off undef, ?_, hv.val, val_plain u⟩
        simp [part, run_isAgg' ht, Array.getD_eq_getD_getElem?, hlt]
      · cases h
  · cases h

/-- A value's cells. -/
theorem cells_sound {v : V} {xs : List V} {c : Value} (h : v.cells? = some xs) (hv : VR G W v c) : VRs G W xs c.cells := by
  have one : v.one = true → VRs G W [v] c.cells := by
    intro ho
    have hc : c.cells = #[c] := by
      cases hv <;> first | rfl | (simp [V.one] at ho)
    rw [hc]
    refine ⟨rfl, fun j hj => ?_⟩
    have : j = 0 := by simpa using hj
    subst this
    simpa using hv
  unfold V.cells? at h
  split at h
  · rename_i cs
    simp only [Option.some.injEq] at h; subst h
    cases hv with | agg _ a h1 h2 => exact ⟨h1, h2⟩
  · cases ho : v.one with
    | false => rw [ho] at h; cases h
    | true =>
      rw [ho] at h
      simp only [cond_true, Option.some.injEq] at h
      subst h
      exact one ho

theorem one_sound {v : V} {c : Value} (h : v.one = true) (hv : VR G W v c) : one? c = true := by
  cases hv <;> first | rfl | (simp [V.one] at h)

theorem allOne_sound {xs : List V} (h : allOne xs = true) : ∀ v ∈ xs, v.one = true := by
  induction xs with
  | nil => intro v hv; cases hv
  | cons x r ih =>
    simp only [allOne] at h
    cases ho : x.one with
    | false => rw [ho] at h; cases h
    | true =>
      rw [ho] at h
      intro v hv
      cases hv with
      | head => exact ho
      | tail _ hv => exact ih h v hv

theorem getD_mem {xs : List V} {j : Nat} (h : j < xs.length) : xs.getD j .any ∈ xs := by
  simp [List.getD_eq_getElem?_getD, h]

theorem VRs.allOne {xs : List V} {a : Array Value} (h : VRs G W xs a) (ho : allOne xs = true) : ∀ c ∈ a.toList, one? c = true := by
  intro c hc
  obtain ⟨j, hj, rfl⟩ := List.getElem_of_mem hc
  have hj' : j < a.size := by simpa using hj
  have h1 := h.2 j (by rw [h.1]; exact hj')
  have h2 := one_sound (allOne_sound ho _ (getD_mem (by rw [h.1]; exact hj'))) h1
  simpa [Array.getD_eq_getD_getElem?, hj'] using h2

/-! ### Composite values -/
theorem foldl_set (cs : Array Value) (off : Nat) : ∀ (vs : List Value) (i : Nat), off + i + vs.length ≤ cs.size →
    ((vs.zipIdx i).foldl (fun (cs : Array Value) (x : Value × Nat) => cs.setIfInBounds (off + x.2) x.1) cs) = setAll cs (off + i) vs := by
  intro vs
  induction vs generalizing cs with
  | nil => intro i _; rfl
  | cons v r ih =>
    intro i h
    simp only [List.length_cons] at h
    simp only [List.zipIdx_cons, List.foldl_cons, setAll]
    rw [ih _ (i + 1) (by simp; omega)]
    rfl

theorem VRs.splice {cs xs : List V} {a c : Array Value} {o : Nat} (h : VRs G W cs a) (hx : VRs G W xs c) (ho : o + xs.length ≤ cs.length) :
    VRs G W (splice cs o xs) (setAll a o c.toList) := by
  have hl : c.toList.length = xs.length := by rw [hx.1]; simp
  refine ⟨by rw [splice_length ho, setAll_size]; exact h.1, fun j hj => ?_⟩
  rw [splice_length ho] at hj
  rw [splice_getD ho, setAll_getD _ _ _ _ (by rw [hl, ← h.1]; exact ho), hl]
  split
  · rename_i hb
    have := hx.2 (j - o) (by omega)
    have e : c.toList.getD (j - o) undef = c.getD (j - o) undef := by
      simp [List.getD_eq_getElem?_getD, Array.getD_eq_getD_getElem?]
    rw [e]; exact this
  · exact h.2 j hj

/-- The parts of a composite literal, as the model has them and as we have. -/
inductive PartsRel (G : Gh) (W : World) (place : Nat → Option (Nat × Nat)) : List (Nat × Nat × V) → List (Nat × Value) → Prop
  | nil : PartsRel G W place [] []
  | cons {off n i : Nat} {v : V} {c : Value} {ps : List (Nat × Nat × V)} {qs : List (Nat × Value)} (hp : place i = some (off, n)) (hv : VR G W v c) (hr : PartsRel G W place ps qs) :
      PartsRel G W place ((off, n, v) :: ps) ((i, c) :: qs)

theorem fill_sound {place : Nat → Option (Nat × Nat)} {ps : List (Nat × Nat × V)} {qs : List (Nat × Value)} (hp : PartsRel G W place ps qs) :
    ∀ {cs r : List V} {a : Array Value}, fill cs ps = some r → VRs G W cs a → ∃ b, Instr.fill place a qs = some b ∧ VRs G W r b ∧ r.length = cs.length := by
  induction hp with
  | nil =>
    intro cs r a h hr
    simp only [fill, Option.some.injEq] at h
    subst h
    exact ⟨a, rfl, hr, rfl⟩
  | @cons off n i v c ps qs hpl hv _ ih =>
    intro cs r a h hr
    unfold fill at h
    split at h
    · rename_i vs hvs
      cases hb : (Nat.beq vs.length n && Nat.ble (off + n) cs.length) with
      | false => rw [hb] at h; cases h
      | true =>
        rw [hb] at h
        simp only [cond_true] at h
        simp only [Bool.and_eq_true] at hb
        have h1 := Nat.eq_of_beq_eq_true hb.1
        have h2 := Nat.le_of_ble_eq_true hb.2
        have hc := cells_sound hvs hv
        have hsz : c.cells.size = n := by rw [← hc.1]; exact h1
        have hle : off + vs.length ≤ cs.length := by omega
        obtain ⟨b, e1, e2, e3⟩ := ih h (hr.splice hc hle)
        refine ⟨b, ?_, e2, by rw [e3, splice_length hle]⟩
        unfold Instr.fill
        simp only [hpl]
        rw [if_neg (by simp only [hsz, ne_eq, not_true_eq_false, decide_false, Bool.false_or, decide_eq_true_eq]; have := hr.1; omega)]
        rw [← e1]
        congr 1
        have := foldl_set a off c.cells.toList 0 (by have := hr.1; simp; omega)
        rw [← Array.toList_zipIdx] at this
        rw [← Array.foldl_toList]
        simpa using this
    · cases h

end
end Ai
