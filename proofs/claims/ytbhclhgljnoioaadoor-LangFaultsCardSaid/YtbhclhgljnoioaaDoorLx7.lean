/- lang: LangMeant. -/
import Derived.Test.YtbhclhgljnoioaaDoorLx6
set_option linter.unusedSimpArgs false
set_option linter.unusedVariables false
namespace Go.Proofs.YtbhclhgljnoioaaDoor
open Ai
theorem tok_drop (pre post : List Tok) : ((pre ++ post).flatMap Tok.cells).drop (pre.length * 3) = post.flatMap Tok.cells := by
  rw [List.flatMap_append, ← toks_len pre, List.drop_left]
theorem lx_len : ∀ (n : Nat) (l : List UInt8) (k : Nat) (m : List Tok), l.length ≤ n → lx l k = .ok m → m.length ≤ l.length := by
  intro n
  induction n with
  | zero =>
    intro l k m hn h
    obtain rfl : l = [] := List.length_eq_zero_iff.1 (by omega)
    rw [lx_nil] at h; cases h; exact Nat.le_refl _
  | succ n ih =>
    intro l k m hn h
    cases l with
    | nil => rw [lx_nil] at h; cases h; exact Nat.le_refl _
    | cons a r =>
      simp only [List.length_cons] at hn ⊢
      rw [lx_cons] at h
      split at h
      · have := ih r _ _ (by omega) h; omega
      · split at h
        · cases hq : qscan r [] 1 with
          | none => rw [hq] at h; cases h
          | some p =>
            obtain ⟨x, j⟩ := p
            rw [hq] at h
            obtain ⟨m', e1, rfl⟩ := Lx.cons_ok h
            have := ih _ _ _ (by rw [List.length_drop]; omega) e1
            rw [List.length_drop] at this
            simp only [List.length_cons]; omega
        · split at h
          · obtain ⟨m', e1, rfl⟩ := Lx.cons_ok h
            have := ih _ _ _ (by rw [List.length_drop]; omega) e1
            rw [List.length_drop] at this
            simp only [List.length_cons]; omega
          · split at h
            · obtain ⟨m', e1, rfl⟩ := Lx.cons_ok h
              have := ih _ _ _ (by rw [List.length_drop]; omega) e1
              rw [List.length_drop] at this
              simp only [List.length_cons]; omega
            · split at h
              · obtain ⟨m', e1, rfl⟩ := Lx.cons_ok h
                have := ih _ _ _ (by rw [List.length_drop]; omega) e1
                rw [List.length_drop] at this
                simp only [List.length_cons]; omega
              · split at h
                · obtain ⟨m', e1, rfl⟩ := Lx.cons_ok h
                  have := ih _ _ _ (by omega) e1
                  simp only [List.length_cons]; omega
                · cases h
theorem Lx.cons_bad {t : Tok} {x : Lx} {a e : Nat} (h : x.cons t = .bad a e) : x = .bad a e := by
  cases x with
  | ok l => cases h
  | bad b f => exact h
/-- Where a text is no tokens: within it, and why. -/
theorem lx_bad : ∀ (n : Nat) (l : List UInt8) (k a e : Nat), l.length ≤ n → lx l k = .bad a e → (e = 190 ∨ e = 191) ∧ k ≤ a ∧ a < k + l.length := by
  intro n
  induction n with
  | zero =>
    intro l k a e hn h
    obtain rfl : l = [] := List.length_eq_zero_iff.1 (by omega)
    rw [lx_nil] at h; cases h
  | succ n ih =>
    intro l k b e hn h
    cases l with
    | nil => rw [lx_nil] at h; cases h
    | cons a r =>
      simp only [List.length_cons] at hn ⊢
      rw [lx_cons] at h
      have wl := wh_le letB r
      have wd := wh_le digB r
      split at h
      · have := ih r _ _ _ (by omega) h; omega
      · split at h
        · cases hq : qscan r [] 1 with
          | none => rw [hq] at h; cases h; omega
          | some p =>
            obtain ⟨x, j⟩ := p
            rw [hq] at h
            obtain ⟨m1, m2⟩ := qscan_k r.length r [] 1 (Nat.le_refl _) x j hq
            have := ih _ _ _ _ (by rw [List.length_drop]; omega) (Lx.cons_bad h)
            rw [List.length_drop] at this
            omega
        · split at h
          · have := ih _ _ _ _ (by rw [List.length_drop]; omega) (Lx.cons_bad h)
            rw [List.length_drop] at this
            omega
          · split at h
            · have := ih _ _ _ _ (by rw [List.length_drop]; omega) (Lx.cons_bad h)
              rw [List.length_drop] at this
              omega
            · split at h
              · have := ih _ _ _ _ (by rw [List.length_drop]; omega) (Lx.cons_bad h)
                rw [List.length_drop] at this
                omega
              · split at h
                · have := ih _ _ _ _ (by omega) (Lx.cons_bad h)
                  omega
                · cases h; omega
end Go.Proofs.YtbhclhgljnoioaaDoor
