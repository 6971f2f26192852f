/- Slices of texts, as a law is handed them. -/
import Derived.Test.YtkibkodlbjhjfaaTx17
import Derived.Test.YtkibkodlbjhjfaaAi11
set_option linter.unusedSimpArgs false
set_option linter.unusedVariables false
namespace Go.Proofs.Ytkibkodlbjhjfaa
open Ai
theorem shapes_strs {P : Program} {e : TypeId} (he : P.underlying e = some .string) : ∀ {ys : List V} {n : Nat}, Shapes P e ys n → ∃ ss : List (List UInt8), ys = ss.map V.s ∧ n = ss.length ∧ ∀ s ∈ ss, s.length ≤ reachBytes
  | _, _, .nil _ => ⟨[], rfl, rfl, fun s h => by cases h⟩
  | _, _, .cons _ x ys n h hs => by
    obtain ⟨ss, rfl, rfl, h3⟩ := shapes_strs he hs
    cases h with
    | s _ l hu hl => exact ⟨l :: ss, rfl, rfl, fun s hm => by rcases List.mem_cons.1 hm with rfl | hm; exact hl; exact h3 s hm⟩
    | b _ _ hu => rw [he] at hu; cases hu
    | i _ _ _ hu _ => rw [he] at hu; cases hu
    | sl _ _ _ _ hu _ _ => rw [he] at hu; cases hu
    | st _ _ _ hu _ => rw [he] at hu; cases hu
theorem arg_strs {P : Program} {t e : TypeId} (ht : P.underlying t = some (.slice e)) (he : P.underlying e = some .string) {x : V} (h : ArgV P t x) : ∃ ss : List (List UInt8), x = .sl (ss.map V.s) ss.length .no ∧ ∀ s ∈ ss, s.length ≤ reachBytes := by
  rcases h with ⟨fs, xs, hu, _, _⟩ | ⟨_, h⟩
  · rw [ht] at hu; cases hu
  · cases h with
    | sl _ e' ys n hu hn hs =>
      rw [ht] at hu
      cases hu
      obtain ⟨ss, rfl, rfl, h3⟩ := shapes_strs he hs
      exact ⟨ss, rfl, h3⟩
    | b _ _ hu => rw [ht] at hu; cases hu
    | i _ _ _ hu _ => rw [ht] at hu; cases hu
    | s _ _ hu _ => rw [ht] at hu; cases hu
    | st _ fs _ hu _ => rw [ht] at hu; cases hu
theorem w_TextMade (x0 : V) (y0 : ArgV Try.prog 30 x0) (x1 : V) (y1 : ArgV Try.prog 30 x1) (q : List UInt8) (gl : Nat → List V) : M X_made (kz10) (.code B10) [] (St.init gl 8 (stripL [x0, x1, .s q]) {}) (Fin [.tmp 6] (.b true)) := by
  obtain ⟨ns, rfl, hn⟩ := arg_strs (e := 9) (by kernel_rfl) (by kernel_rfl) y0
  obtain ⟨vs, rfl, hv⟩ := arg_strs (e := 9) (by kernel_rfl) (by kernel_rfl) y1
  have e : stripL [V.sl (ns.map V.s) ns.length .no, V.sl (vs.map V.s) vs.length .no, .s q] = [V.sl (ns.map V.s) ns.length .no, V.sl (vs.map V.s) vs.length .no, .s q] := by
    have : ∀ l : List (List UInt8), stripL (l.map V.s) = l.map V.s := fun l => by
      induction l with
      | nil => rfl
      | cons a r ih => simp only [List.map_cons, stripL, V.strip, ih]
    simp only [stripL, V.strip, this, Tk.cp]
  rw [e]
  exact w_Made ns hn vs hv q gl
end Go.Proofs.Ytkibkodlbjhjfaa
