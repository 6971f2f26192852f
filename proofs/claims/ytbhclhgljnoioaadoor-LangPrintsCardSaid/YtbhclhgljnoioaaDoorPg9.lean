/- Filters, as a law is handed them; 'LangPrints'. -/
import Derived.Test.YtbhclhgljnoioaaDoorPg8
set_option linter.unusedSimpArgs false
set_option linter.unusedVariables false
namespace Go.Proofs.YtbhclhgljnoioaaDoor
open Ai
/-- A type that is Filter's shape. -/
structure FilT (P : Program) (F I T S : TypeId) : Prop where
  f : ∃ fs : Array Field, P.underlying F = some (.struct fs) ∧ fs.toList.map Field.type = [I, T, T, S]
  i : P.underlying I = some (.int .i64)
  t : P.underlying T = some .string
  s : P.underlying S = some (.slice F)
section
variable {P : Program} {F I T S : TypeId}
theorem shape_i (h : FilT P F I T S) {x : List V} (hs : Shape P I x) : ∃ k : Int, x = [.i .i64 k] := by
  have hi := h.i
  cases hs with
  | i _ k n hu _ => rw [hi] at hu; cases hu; exact ⟨n, rfl⟩
  | b _ _ hu => rw [hi] at hu; cases hu
  | s _ _ hu _ => rw [hi] at hu; cases hu
  | sl _ _ _ _ hu _ _ => rw [hi] at hu; cases hu
  | st _ _ _ hu _ => rw [hi] at hu; cases hu
theorem shape_t (h : FilT P F I T S) {x : List V} (hs : Shape P T x) : ∃ l : List UInt8, x = [.s l] := by
  have hi := h.t
  cases hs with
  | s _ l hu _ => exact ⟨l, rfl⟩
  | b _ _ hu => rw [hi] at hu; cases hu
  | i _ _ _ hu _ => rw [hi] at hu; cases hu
  | sl _ _ _ _ hu _ _ => rw [hi] at hu; cases hu
  | st _ _ _ hu _ => rw [hi] at hu; cases hu
theorem fields4 {fs : List Field} {x : List V} {a b c d : TypeId} (hf : Fields P fs x) (hm : fs.map Field.type = [a, b, c, d]) : ∃ xa xb xc xd, x = xa ++ (xb ++ (xc ++ (xd ++ []))) ∧ Shape P a xa ∧ Shape P b xb ∧ Shape P c xc ∧ Shape P d xd := by
  cases hf with
  | nil => cases hm
  | cons f r xa ya h1 hr =>
    cases hr with
    | nil => cases hm
    | cons f2 r2 xb yb h2 hr2 =>
      cases hr2 with
      | nil => cases hm
      | cons f3 r3 xc yc h3 hr3 =>
        cases hr3 with
        | nil => cases hm
        | cons f4 r4 xd yd h4 hr4 =>
          simp only [List.map_cons, List.cons.injEq, List.map_eq_nil_iff] at hm
          obtain ⟨rfl, rfl, rfl, rfl, rfl⟩ := hm
          cases hr4
          exact ⟨xa, xb, xc, xd, rfl, h1, h2, h3, h4⟩
mutual
def vsz : V → Nat
  | .sl xs _ _ => 1 + vszL xs
  | _ => 1
def vszL : List V → Nat
  | [] => 0
  | v :: r => vsz v + vszL r
end
theorem vszL_app (a b : List V) : vszL (a ++ b) = vszL a + vszL b := by
  induction a with
  | nil => simp only [List.nil_append, vszL, Nat.zero_add]
  | cons x r ih => simp only [List.cons_append, vszL, ih, Nat.add_assoc]
theorem shape_fil (h : FilT P F I T S) : ∀ (n : Nat), (∀ x : List V, vszL x ≤ n → Shape P F x → ∃ f, FilR f x) ∧ (∀ (ys : List V) (m : Nat), vszL ys ≤ n → Shapes P F ys m → ∃ l, KidsR l ys ∧ m = l.length) := by
  intro n
  have kids : ∀ (k : Nat), (∀ x : List V, vszL x ≤ k → Shape P F x → ∃ f, FilR f x) → ∀ (m : Nat) (ys : List V), vszL ys ≤ k → Shapes P F ys m → ∃ l, KidsR l ys ∧ m = l.length := by
    intro k hk m
    induction m with
    | zero =>
      intro ys _ hs
      cases hs
      exact ⟨[], .nil, rfl⟩
    | succ m ih =>
      intro ys hv hs
      cases hs with | cons _ x ys' _ h1 h2 =>
      rw [vszL_app] at hv
      obtain ⟨f, hf⟩ := hk x (by omega) h1
      obtain ⟨l, hl, rfl⟩ := ih ys' (by omega) h2
      exact ⟨f :: l, .cons f l x ys' hf hl, rfl⟩
  induction n with
  | zero =>
    have one : ∀ x : List V, vszL x ≤ 0 → Shape P F x → ∃ f, FilR f x := by
      intro x hv hs
      obtain ⟨fs, h1, h2⟩ := h.f
      cases hs with
      | st _ fs' _ hu hf =>
        rw [h1] at hu; cases hu
        obtain ⟨xa, xb, xc, xd, rfl, s1, s2, s3, s4⟩ := fields4 hf h2
        obtain ⟨k, rfl⟩ := shape_i h s1
        simp only [List.cons_append, vszL, vsz] at hv
        omega
      | b _ _ hu => rw [h1] at hu; cases hu
      | i _ _ _ hu _ => rw [h1] at hu; cases hu
      | s _ _ hu _ => rw [h1] at hu; cases hu
      | sl _ _ _ _ hu _ _ => rw [h1] at hu; cases hu
    exact ⟨one, fun ys m hv hs => kids 0 one m ys hv hs⟩
  | succ n ih =>
    have one : ∀ x : List V, vszL x ≤ n + 1 → Shape P F x → ∃ f, FilR f x := by
      intro x hv hs
      obtain ⟨fs, h1, h2⟩ := h.f
      cases hs with
      | st _ fs' _ hu hf =>
        rw [h1] at hu; cases hu
        obtain ⟨xa, xb, xc, xd, rfl, s1, s2, s3, s4⟩ := fields4 hf h2
        obtain ⟨k, rfl⟩ := shape_i h s1
        obtain ⟨nm, rfl⟩ := shape_t h s2
        obtain ⟨tx, rfl⟩ := shape_t h s3
        have hS := h.s
        cases s4 with
        | sl _ e ys m hu hn hs' =>
          rw [hS] at hu; cases hu
          simp only [List.cons_append, List.nil_append, List.append_nil, vszL, vsz] at hv ⊢
          obtain ⟨l, hl, rfl⟩ := ih.2 ys m (by omega) hs'
          exact ⟨.mk k nm tx l, .mk k nm tx l ys _ .no rfl hl⟩
        | b _ _ hu => rw [hS] at hu; cases hu
        | i _ _ _ hu _ => rw [hS] at hu; cases hu
        | s _ _ hu _ => rw [hS] at hu; cases hu
        | st _ _ _ hu _ => rw [hS] at hu; cases hu
      | b _ _ hu => rw [h1] at hu; cases hu
      | i _ _ _ hu _ => rw [h1] at hu; cases hu
      | s _ _ hu _ => rw [h1] at hu; cases hu
      | sl _ _ _ _ hu _ _ => rw [h1] at hu; cases hu
    exact ⟨one, fun ys m hv hs => kids (n + 1) one m ys hv hs⟩
theorem arg_fil (h : FilT P F I T S) {x : V} (hx : ArgV P F x) : ∃ (f : Fil) (c : List V), x = .agg c ∧ FilR f c := by
  rcases hx with ⟨fs, xs, hu, rfl, hs⟩ | ⟨hn, _⟩
  · obtain ⟨f, hf⟩ := (shape_fil h (vszL xs)).1 xs (Nat.le_refl _) hs
    exact ⟨f, xs, rfl, hf⟩
  · obtain ⟨fs, h1, _⟩ := h.f
    exact absurd h1 (hn fs)
end
theorem filT : FilT Tryd.prog 27 3 9 25 := ⟨⟨_, Tryd.underlying27, by kernel_rfl⟩, Tryd.underlying3, Tryd.underlying9, Tryd.underlying25⟩
theorem w_LangPrints (x0 : V) (y0 : ArgV Tryd.prog 27 x0) (gl : Nat → List V) : M X_prints (kz4) (.code B4) [] (St.init gl 6 (stripL [x0]) {}) (Fin [.tmp 2] (.b true)) := by
  obtain ⟨f, c, rfl, hf⟩ := arg_fil filT y0
  exact w_prints f (stripL c) (FilR.strip f c hf) gl
end Go.Proofs.YtbhclhgljnoioaaDoor
