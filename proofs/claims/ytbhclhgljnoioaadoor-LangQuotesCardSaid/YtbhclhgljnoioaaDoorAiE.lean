/- The abstract interpreter: how the model's own small programs run. -/
import Derived.Test.YtbhclhgljnoioaaDoorAiD
namespace Ai
open Go

def aggOf (P : Program) (t : TypeId) : Option Bool :=
  match P.underlying t with
  | some (.struct _) => some true
  | some (.array _ _) => some true
  | some _ => some false
  | none => none

def szOf (P : Program) (t : TypeId) : Option Nat := (P.info? t).map (·.size)

section
variable {P : Program} {W : World}

theorem run_underlying' {t : TypeId} {d : TypeDesc} (h : P.underlying t = some d) : (underlying t).run P W = .ok d W := by
  simp [underlying, program, Sem.run, h]

theorem run_typeInfo' {t : TypeId} {i : TypeInfo} (h : P.info? t = some i) : (typeInfo t).run P W = .ok i W := by
  simp [typeInfo, program, Sem.run, h]

theorem run_sizeOf' {t : TypeId} {n : Nat} (h : szOf P t = some n) : (Go.sizeOf t).run P W = .ok n W := by
  unfold szOf at h
  cases hi : P.info? t with
  | none => simp [hi] at h
  | some i => simp [hi] at h; simp [Go.sizeOf, run_typeInfo' hi, h]

theorem run_isAgg' {t : TypeId} {g : Bool} (h : aggOf P t = some g) : (isAgg t).run P W = .ok g W := by
  unfold aggOf at h
  cases hu : P.underlying t with
  | none => simp [hu] at h
  | some d =>
    simp only [isAgg, Sem.run_bind, run_underlying' hu, Result.andThen_ok]
    rw [hu] at h
    cases d <;> simp at h <;> subst h <;> rfl

theorem add_mk (b o j : Nat) : (⟨b, o, none⟩ : Addr).add j = ⟨b, o + j, none⟩ := by
  unfold Addr.add
  split
  · rename_i h; subst h; rfl
  · rfl

theorem run_load' {a : Addr} {v : Value} (h : W.cell? a = some v) : (load a).run P W = .ok v W := by
  simp [load, Sem.run, h]

/-- A stretch of values out of a function. -/
def stretch (cs : Nat → Value) : (from_ n : Nat) → List Value
  | _, 0 => []
  | i, n + 1 => cs i :: stretch cs (i + 1) n

theorem stretch_length (cs : Nat → Value) : ∀ n i, (stretch cs i n).length = n
  | 0, _ => rfl
  | n + 1, i => by simp [stretch, stretch_length cs n]

theorem stretch_getD (cs : Nat → Value) : ∀ n i j, j < n → (stretch cs i n).getD j undef = cs (i + j)
  | 0, _, _, h => by omega
  | n + 1, i, 0, _ => by simp [stretch]
  | n + 1, i, j + 1, h => by
    have := stretch_getD cs n (i + 1) j (by omega)
    simp only [stretch, List.getD_cons_succ]
    rw [this]; congr 1; omega

theorem run_loadCellsFrom (b o : Nat) (cs : Nat → Value) : ∀ (n i : Nat) (acc : Array Value), (∀ j, j < n → W.cell? ⟨b, o + (i + j), none⟩ = some (cs (i + j))) →
    (loadCellsFrom ⟨b, o, none⟩ i n acc).run P W = .ok (acc ++ (stretch cs i n).toArray) W
  | 0, i, acc, _ => by simp [loadCellsFrom, stretch]
  | n + 1, i, acc, h => by
    have h0 := h 0 (by omega)
    simp only [Nat.add_zero] at h0
    simp only [loadCellsFrom, Sem.run_bind, add_mk, run_load' h0, Result.andThen_ok]
    rw [run_loadCellsFrom b o cs n (i + 1) _ (fun j hj => by have := h (j + 1) (by omega); rw [show i + 1 + j = i + (j + 1) from by omega]; exact this)]
    simp [stretch]

theorem run_loadCells' (b o n : Nat) (cs : Nat → Value) (h : ∀ j, j < n → W.cell? ⟨b, o + j, none⟩ = some (cs j)) :
    (loadCells ⟨b, o, none⟩ n).run P W = .ok (stretch cs 0 n).toArray W := by
  have := run_loadCellsFrom (P := P) (W := W) b o cs n 0 #[] (fun j hj => by simpa using h j hj)
  simpa [loadCells] using this

/-- A variable of n cells is read. -/
theorem run_loadVar' {t : TypeId} {g : Bool} {n b o : Nat} (hg : aggOf P t = some g) (hn : szOf P t = some n) (h1 : g = false → n = 1) (cs : Nat → Value)
    (h : ∀ j, j < n → W.cell? ⟨b, o + j, none⟩ = some (cs j)) :
    (loadVar t ⟨b, o, none⟩).run P W = .ok (if g then .agg (stretch cs 0 n).toArray else cs 0) W := by
  simp only [loadVar, Sem.run_bind, run_isAgg' hg, Result.andThen_ok]
  cases g with
  | true => simp [run_sizeOf' hn, run_loadCells' b o n cs h]
  | false =>
    have h0 := h 0 (by rw [h1 rfl]; omega)
    simp only [Nat.add_zero] at h0
    simp [run_load' h0]

/-! ### Stores -/
def setAll (c : Array Value) : Nat → List Value → Array Value
  | _, [] => c
  | o, v :: r => setAll (c.setIfInBounds o v) (o + 1) r

theorem setAll_size (c : Array Value) (o : Nat) (vs : List Value) : (setAll c o vs).size = c.size := by
  induction vs generalizing c o with
  | nil => rfl
  | cons v r ih => simp [setAll, ih]

theorem setAll_getD (vs : List Value) : ∀ (c : Array Value) (o j : Nat), o + vs.length ≤ c.size →
    (setAll c o vs).getD j undef = if o ≤ j ∧ j < o + vs.length then vs.getD (j - o) undef else c.getD j undef := by
  induction vs with
  | nil => intro c o j _; rw [if_neg (by simp)]; rfl
  | cons v r ih =>
    intro c o j h
    simp only [List.length_cons] at h
    simp only [setAll]
    rw [ih _ _ _ (by simp; omega)]
    by_cases h1 : o + 1 ≤ j ∧ j < o + 1 + r.length
    · rw [if_pos h1, if_pos ⟨by omega, by simp; omega⟩]
      obtain ⟨k, rfl⟩ : ∃ k, j = o + 1 + k := ⟨j - (o + 1), by omega⟩
      rw [show o + 1 + k - o = k + 1 from by omega, show o + 1 + k - (o + 1) = k from by omega]
      simp
    · rw [if_neg h1]
      by_cases h2 : j = o
      · subst h2
        rw [if_pos ⟨Nat.le_refl _, by simp⟩]
        simp [Array.getD_eq_getD_getElem?, show j < c.size by omega]
      · rw [if_neg (by simp; omega)]
        simp only [Array.getD_eq_getD_getElem?]
        rw [Array.getElem?_setIfInBounds_ne (by omega)]

/-- The world with a block's row in another's place. -/
def World.row (W : World) (b : Nat) (c : Array Value) (e : TypeId) (fz : Nat × Nat) : World := { W with heap := W.heap.setIfInBounds b (.cells c e fz) }

theorem row_heap {b : Nat} {c : Array Value} {e : TypeId} {fz : Nat × Nat} (hb : b < W.heap.size) : (World.row W b c e fz).heap[b]? = some (.cells c e fz) := by
  simp [World.row, hb]

theorem row_other {b k : Nat} {c : Array Value} {e : TypeId} {fz : Nat × Nat} (h : k ≠ b) : (World.row W b c e fz).heap[k]? = W.heap[k]? := by
  simp [World.row, Ne.symm h]

theorem row_size {b : Nat} {c : Array Value} {e : TypeId} {fz : Nat × Nat} : (World.row W b c e fz).heap.size = W.heap.size := by simp [World.row]

theorem cell_of {b o : Nat} {c : Array Value} {e : TypeId} {fz : Nat × Nat} (h : W.heap[b]? = some (.cells c e fz)) : W.cell? ⟨b, o, none⟩ = c[o]? := by
  simp [World.cell?, h]

theorem cell_getD {b o : Nat} {c : Array Value} {e : TypeId} {fz : Nat × Nat} (h : W.heap[b]? = some (.cells c e fz)) (ho : o < c.size) : W.cell? ⟨b, o, none⟩ = some (c.getD o undef) := by
  rw [cell_of h]; simp [Array.getD_eq_getD_getElem?, ho]

theorem setCell_row {b o : Nat} {c : Array Value} {e : TypeId} {fz : Nat × Nat} (h : W.heap[b]? = some (.cells c e fz)) (v : Value) :
    W.setCell ⟨b, o, none⟩ v = World.row W b (c.setIfInBounds o v) e fz := by
  have hb : b < W.heap.size := (Array.getElem?_eq_some_iff.1 h).1
  have hx : W.heap[b] = .cells c e fz := (Array.getElem?_eq_some_iff.1 h).2
  simp only [World.setCell, World.row]
  congr 1
  apply Array.ext_getElem?
  intro k
  rw [Array.getElem?_modify, Array.getElem?_setIfInBounds]
  by_cases hk : b = k
  · subst hk; simp [hb, hx]
  · simp [hk]

theorem row_row {b : Nat} {c c' : Array Value} {e e' : TypeId} {fz fz' : Nat × Nat} : World.row (World.row W b c e fz) b c' e' fz' = World.row W b c' e' fz' := by
  simp [World.row]

/-- Is it the value of one cell? -/
def one? : Value → Bool
  | .agg _ => false
  | .tuple _ => false
  | _ => true

theorem run_store' {b o : Nat} {c : Array Value} {e : TypeId} {fz : Nat × Nat} (h : W.heap[b]? = some (.cells c e fz)) (ho : o < c.size) (hf : ¬ (fz.1 ≤ o ∧ o < fz.2)) {v : Value} (hv : one? v = true) :
    (store ⟨b, o, none⟩ v).run P W = .ok () (World.row W b (c.setIfInBounds o v) e fz) := by
  have hc := cell_getD h ho
  have hfz : W.frozen? ⟨b, o, none⟩ = false := by
    simp only [World.frozen?, h]
    simpa using fun h1 => Nat.le_of_not_lt (fun h2 => hf ⟨h1, h2⟩)
  rw [← setCell_row h]
  cases v <;> simp [one?] at hv <;> simp [store, Sem.run, hc, hfz]

theorem run_storeCells' {b : Nat} {e : TypeId} {fz : Nat × Nat} (o : Nat) : ∀ (vs : List Value) (i : Nat) (W : World) (c : Array Value), W.heap[b]? = some (.cells c e fz) → o + i + vs.length ≤ c.size →
    (∀ j, o + i ≤ j → j < o + i + vs.length → ¬ (fz.1 ≤ j ∧ j < fz.2)) → (∀ v ∈ vs, one? v = true) →
    (storeCells ⟨b, o, none⟩ vs i).run P W = .ok () (World.row W b (setAll c (o + i) vs) e fz)
  | [], i, W, c, h, _, _, _ => by
    have hb : b < W.heap.size := (Array.getElem?_eq_some_iff.1 h).1
    have : World.row W b c e fz = W := by
      have hx : W.heap[b] = .cells c e fz := (Array.getElem?_eq_some_iff.1 h).2
      have h2 : W.heap.setIfInBounds b W.heap[b] = W.heap := by
        apply Array.ext_getElem?
        intro k
        rw [Array.getElem?_setIfInBounds]
        by_cases hk : b = k
        · subst hk; simp [hb]
        · simp [hk]
      simp only [World.row]
      rw [← hx, h2]
    simp [storeCells, setAll, this]
  | v :: r, i, W, c, h, hl, hf, hv => by
    simp only [List.length_cons] at hl hf
    have hb : b < W.heap.size := (Array.getElem?_eq_some_iff.1 h).1
    simp only [storeCells, Sem.run_bind, add_mk]
    rw [run_store' h (by omega) (hf _ (Nat.le_refl _) (by omega)) (hv v (.head _)), Result.andThen_ok]
    rw [run_storeCells' o r (i + 1) _ (c.setIfInBounds (o + i) v) (row_heap hb) (by simp; omega) (fun j h1 h2 => hf j (by omega) (by omega)) (fun u hu => hv u (.tail _ hu))]
    rw [row_row]
    rfl

end
end Ai
