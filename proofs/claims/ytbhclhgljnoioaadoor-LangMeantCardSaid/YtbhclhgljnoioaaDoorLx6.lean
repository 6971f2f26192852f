/- lang: the lexer at texts in quotes, and at texts put together. -/
import Derived.Test.YtbhclhgljnoioaaDoorLx5
import Derived.Test.YtbhclhgljnoioaaDoorAi10
import Derived.Lib.MapLaws
set_option linter.unusedSimpArgs false
set_option linter.unusedVariables false
namespace Go.Proofs.YtbhclhgljnoioaaDoor
open Ai
theorem t8 {n : Nat} (h : n < 256) : (UInt8.ofNat n).toNat = n := by rw [UInt8.toNat_ofNat']; omega
theorem dec_enc {c : Nat} (h : oks c) (t : List UInt8) : dec (enc c ++ t) = (c, (enc c).length) := by
  have hc : c < 55296 ∨ (57343 < c ∧ c ≤ 1114111) := h
  unfold enc
  by_cases k1 : c < 128
  · rw [if_pos k1]
    have := dec_ascii (a := UInt8.ofNat c) (by rw [t8 (by omega)]; omega) t
    rw [t8 (by omega)] at this
    exact this
  · rw [if_neg k1]
    by_cases k2 : c < 2048
    · rw [if_pos k2, dec_F]
      simp only [List.cons_append, List.nil_append, List.getD_cons_zero, List.getD_cons_succ, contB, List.length_cons, List.length_nil]
      rw [t8 (show 192 + c / 64 < 256 by omega), t8 (show 128 + c % 64 < 256 by omega)]
      unfold decF
      rw [if_neg (by omega)]
      have e1 : (192 + c / 64) / 32 = 6 := by omega
      have e2 : (128 + c % 64) / 64 = 2 := by omega
      have e3 : (192 + c / 64) % 32 * 64 + (128 + c % 64) % 64 = c := by omega
      have e4 : decide (1 < t.length + 1 + 1) = true := decide_eq_true (by omega)
      simp only [e1, e2, e3, e4, beq_self_eq_true, Bool.and_self, if_true]
      rw [if_pos (by omega)]
    · rw [if_neg k2]
      by_cases k3 : c < 65536
      · rw [if_pos k3, dec_F]
        simp only [List.cons_append, List.nil_append, List.getD_cons_zero, List.getD_cons_succ, contB, List.length_cons, List.length_nil]
        rw [t8 (show 224 + c / 4096 < 256 by omega), t8 (show 128 + c / 64 % 64 < 256 by omega), t8 (show 128 + c % 64 < 256 by omega)]
        unfold decF
        rw [if_neg (by omega)]
        have e0 : ((224 + c / 4096) / 32 == 6) = false := by simp; omega
        have e1 : (224 + c / 4096) / 16 = 14 := by omega
        have e2 : (128 + c / 64 % 64) / 64 = 2 := by omega
        have e2' : (128 + c % 64) / 64 = 2 := by omega
        have e3 : (224 + c / 4096) % 16 * 4096 + (128 + c / 64 % 64) % 64 * 64 + (128 + c % 64) % 64 = c := by omega
        have e4 : decide (1 < t.length + 1 + 1 + 1) = true := decide_eq_true (by omega)
        have e5 : decide (2 < t.length + 1 + 1 + 1) = true := decide_eq_true (by omega)
        have e6 : Utf8.valid c = true := by simp [Utf8.valid]; omega
        have e7 : decide (c ≥ 2048) = true := decide_eq_true (by omega)
        simp only [e0, e1, e2, e2', e3, e4, e5, e6, e7, beq_self_eq_true, Bool.and_self, Bool.false_and, Bool.false_eq_true, if_false, if_true]
      · rw [if_neg k3, dec_F]
        simp only [List.cons_append, List.nil_append, List.getD_cons_zero, List.getD_cons_succ, contB, List.length_cons, List.length_nil]
        rw [t8 (show 240 + c / 262144 < 256 by omega), t8 (show 128 + c / 4096 % 64 < 256 by omega), t8 (show 128 + c / 64 % 64 < 256 by omega), t8 (show 128 + c % 64 < 256 by omega)]
        unfold decF
        rw [if_neg (by omega)]
        have e0 : ((240 + c / 262144) / 32 == 6) = false := by simp; omega
        have e0' : ((240 + c / 262144) / 16 == 14) = false := by simp; omega
        have e1 : (240 + c / 262144) / 8 = 30 := by omega
        have e2 : (128 + c / 4096 % 64) / 64 = 2 := by omega
        have e2' : (128 + c / 64 % 64) / 64 = 2 := by omega
        have e2'' : (128 + c % 64) / 64 = 2 := by omega
        have e3 : (240 + c / 262144) % 8 * 262144 + (128 + c / 4096 % 64) % 64 * 4096 + (128 + c / 64 % 64) % 64 * 64 + (128 + c % 64) % 64 = c := by omega
        have e4 : decide (1 < t.length + 1 + 1 + 1 + 1) = true := decide_eq_true (by omega)
        have e5 : decide (2 < t.length + 1 + 1 + 1 + 1) = true := decide_eq_true (by omega)
        have e5' : decide (3 < t.length + 1 + 1 + 1 + 1) = true := decide_eq_true (by omega)
        have e6 : Utf8.valid c = true := by simp [Utf8.valid]; omega
        have e7 : decide (c ≥ 65536) = true := decide_eq_true (by omega)
        simp only [e0, e0', e1, e2, e2', e2'', e3, e4, e5, e5', e6, e7, beq_self_eq_true, Bool.and_self, Bool.false_and, Bool.false_eq_true, if_false, if_true]
theorem enc_dec {a : UInt8} {r : List UInt8} (h : ¬ ((dec (a :: r)).1 = 65533 ∧ (dec (a :: r)).2 = 1)) : enc (dec (a :: r)).1 = (a :: r).take (dec (a :: r)).2 := by
  have e := Lib.encode_decode (a :: r) (by simp) (by rw [decodeL_dec]; exact h)
  rw [decodeL_dec] at e
  rw [← e]
  have ho : (dec (a :: r)).1 < 55296 ∨ (57343 < (dec (a :: r)).1 ∧ (dec (a :: r)).1 ≤ 1114111) := dec_oks (a :: r)
  generalize (dec (a :: r)).1 = c at ho
  have b8 : ∀ z : Int, (z.toNat).toUInt8 = UInt8.ofNat z.toNat := fun z => rfl
  have n8 : ∀ (z : Int) (n : Nat), z = (n : Int) → (z.toNat).toUInt8 = UInt8.ofNat n := fun z n hz => by rw [b8, hz]; rfl
  unfold enc
  by_cases k1 : c < 128
  · rw [if_pos k1]
    unfold Lib.encodeRune Lib.encodeRuneZ
    rw [if_pos (by omega)]
    simp only [List.map_cons, List.map_nil]
    rw [n8 _ c (by omega)]
  · rw [if_neg k1]
    by_cases k2 : c < 2048
    · rw [if_pos k2]
      unfold Lib.encodeRune Lib.encodeRuneZ
      rw [if_neg (by omega), if_pos (by omega)]
      simp only [List.map_cons, List.map_nil]
      rw [n8 _ (192 + c / 64) (by omega), n8 _ (128 + c % 64) (by omega)]
    · rw [if_neg k2]
      by_cases k3 : c < 65536
      · rw [if_pos k3]
        unfold Lib.encodeRune Lib.encodeRuneZ
        rw [if_neg (by omega), if_neg (by omega), if_pos (by omega)]
        simp only [List.map_cons, List.map_nil]
        rw [n8 _ (224 + c / 4096) (by omega), n8 _ (128 + c / 64 % 64) (by omega), n8 _ (128 + c % 64) (by omega)]
      · rw [if_neg k3]
        unfold Lib.encodeRune Lib.encodeRuneZ
        rw [if_neg (by omega), if_neg (by omega), if_neg (by omega), if_pos (by omega)]
        simp only [List.map_cons, List.map_nil]
        rw [n8 _ (240 + c / 262144) (by omega), n8 _ (128 + c / 4096 % 64) (by omega), n8 _ (128 + c / 64 % 64) (by omega), n8 _ (128 + c % 64) (by omega)]
/-- A text's runes, written again. -/
def txt (l : List UInt8) : List UInt8 := (rns l).flatMap enc
theorem txt_valid (l : List UInt8) : Lib.validD l = true → txt l = l := by
  induction l using rune_ind with
  | h0 => intro _; simp [txt, rns_nil]
  | h1 a r ih =>
    intro h
    rw [Lib.validD_step _ (by simp), decodeL_dec] at h
    by_cases hb : (dec (a :: r)).1 = 65533 ∧ (dec (a :: r)).2 = 1
    · rw [if_pos hb] at h; cases h
    · rw [if_neg hb] at h
      have := ih h
      unfold txt at this ⊢
      rw [rns_cons, List.flatMap_cons, this, enc_dec hb, List.take_append_drop]
/-! ### A text in quotes -/
theorem index_at : ∀ (p t : List UInt8), (125 : UInt8) ∉ p → Lib.indexByte (p ++ 125 :: t) 125 = p.length := by
  intro p
  induction p with
  | nil => intro t _; simp [Lib.indexByte]
  | cons a r ih =>
    intro t h
    simp only [List.mem_cons, not_or] at h
    have := ih t h.2
    rw [List.cons_append, Lib.indexByte]
    have hne : (a == 125) = false := by simpa using fun e : a = 125 => h.1 e.symm
    simp only [hne, Bool.false_eq_true, if_false, this]
    simp
set_option maxRecDepth 100000 in
theorem hexs_ctl : ∀ c ∈ ctl, hexN 0 (hexs c) = some c ∧ (125 : UInt8) ∉ hexs c ∧ okB c = true := by decide
theorem hexV_hexs {c : Nat} (h : c ∈ ctl) (t : List UInt8) : hexV (123 :: (hexs c ++ 125 :: t)) = (c, (hexs c).length + 2) := by
  obtain ⟨h1, h2, h3⟩ := hexs_ctl c h
  have hl := hexs_len c
  have hi : Lib.indexByte (123 :: (hexs c ++ 125 :: t)) 125 = ((hexs c).length + 1 : Nat) := by
    have := index_at (123 :: hexs c) t (by simp only [List.mem_cons, not_or]; exact ⟨by decide, h2⟩)
    simpa using this
  unfold hexV
  rw [hi, if_neg (by simp; omega)]
  have e : ((123 :: (hexs c ++ 125 :: t)).drop 1).take ((((hexs c).length + 1 : Nat) : Int).toNat - 1) = hexs c := by
    rw [Int.toNat_natCast, Nat.add_sub_cancel]
    simp
  rw [e, h1]
  simp [h3]
theorem qscan_quote : ∀ (cs : List Nat), (∀ c ∈ cs, oks c) → ∀ (t out : List UInt8) (k : Nat), qscan (cs.flatMap qt ++ 34 :: t) out k = some (out ++ cs.flatMap enc, k + (cs.flatMap qt).length + 1) := by
  intro cs
  induction cs with
  | nil =>
    intro _ t out k
    simp only [List.flatMap_nil, List.nil_append, List.append_nil, List.length_nil, Nat.add_zero]
    exact qscan_end (by rw [dec_ascii (by decide)]; rfl)
  | cons c cs ih =>
    intro hcs t out k
    have ho := hcs c (by simp)
    have ho' : c < 55296 ∨ (57343 < c ∧ c ≤ 1114111) := ho
    have ih := ih (fun x hx => hcs x (by simp [hx])) t
    rw [List.flatMap_cons, List.flatMap_cons, List.append_assoc, List.length_append]
    generalize cs.flatMap qt ++ 34 :: t = rest at ih ⊢
    by_cases q : c = 34 ∨ c = 92
    · have hq : qt c = [92, UInt8.ofNat c] := by rcases q with q | q <;> rw [q] <;> decide
      have he : enc c = [UInt8.ofNat c] := by rcases q with q | q <;> rw [q] <;> decide
      rw [hq, he]
      simp only [List.cons_append, List.nil_append]
      rw [qscan_esc, if_pos (by rcases q with q | q <;> rw [q] <;> decide)]
      rw [ih]
      simp only [List.append_assoc, List.cons_append, List.nil_append, List.length_cons, List.length_nil, Option.some.injEq, Prod.mk.injEq, true_and]
      omega
    · by_cases q3 : c < 32 ∨ c = 127 ∨ c = 65533
      · have hq : qt c = 92 :: 117 :: 123 :: (hexs c ++ [125]) := by unfold qt; rw [if_neg q, if_pos q3]; simp
        have hv := hexV_hexs (mem_ctl.2 q3) rest
        rw [hq]
        simp only [List.cons_append, List.append_assoc, List.nil_append]
        rw [qscan_esc, if_neg (by decide), if_pos rfl, hv, if_neg (by simp)]
        have hd : (123 :: (hexs c ++ 125 :: rest)).drop ((hexs c).length + 2) = rest := by
          rw [List.drop_succ_cons, ← List.drop_drop, List.drop_left]; rfl
        rw [hd, ih]
        simp only [List.append_assoc, List.length_cons, List.length_append, List.length_nil, Option.some.injEq, Prod.mk.injEq, true_and]
        omega
      · have hq : qt c = enc c := by unfold qt; rw [if_neg q, if_neg q3]
        rw [hq]
        have hd := dec_enc ho rest
        have hel := enc_len c
        have hdr : (enc c ++ rest).drop (enc c).length = rest := List.drop_left
        obtain ⟨a, r, e⟩ : ∃ a r, enc c ++ rest = a :: r := by
          cases he : enc c with
          | nil => rw [he] at hel; simp at hel
          | cons a r => exact ⟨a, r ++ rest, rfl⟩
        rw [e] at hd hdr ⊢
        have h1 : (dec (a :: r)).1 = c := by rw [hd]
        have h2 : (dec (a :: r)).2 = (enc c).length := by rw [hd]
        rw [qscan_rune (by rw [h1]; omega) (by rw [h1]; omega) (by rw [h1]; omega), h1, h2, hdr, ih]
        simp only [List.append_assoc, Option.some.injEq, Prod.mk.injEq, true_and]
        omega
theorem rns_oks (l : List UInt8) : ∀ c ∈ rns l, oks c := by
  induction l using rune_ind with
  | h0 => intro c h; rw [rns_nil] at h; cases h
  | h1 a r ih =>
    intro c h
    rw [rns_cons, List.mem_cons] at h
    rcases h with rfl | h
    · exact dec_oks _
    · exact ih c h
/-- A text in quotes is one token. -/
theorem lx_quote (l : List UInt8) (k : Nat) : lx (quoteV l) k = .ok [⟨2, txt l, k⟩] := by
  unfold quoteV
  rw [lx_cons, if_neg (by decide), if_pos rfl]
  have := qscan_quote (rns l) (rns_oks l) [] [] 1
  rw [this]
  dsimp only
  have e : ((rns l).flatMap qt ++ [34]).drop (1 + ((rns l).flatMap qt).length + 1 - 1) = [] := List.drop_eq_nil_of_le (by simp only [List.length_append, List.length_cons, List.length_nil]; omega)
  rw [e, lx_nil, List.nil_append]
  rfl
/-! ### Texts put together -/
theorem wh_sp {p : Nat → Bool} (h : p 32 = false) (t : List UInt8) : ∀ r : List UInt8, wh p (r ++ 32 :: t) = wh p r := by
  intro r
  induction r with
  | nil => simp [wh, h]
  | cons a r ih => simp only [List.cons_append, wh, ih]
theorem headDig_sp (t r : List UInt8) : headDig (r ++ 32 :: t) = headDig r := by cases r <;> rfl
theorem dec_sp (a : UInt8) (r t : List UInt8) : dec (a :: (r ++ 32 :: t)) = dec (a :: r) := by
  have a2 := a.toNat_lt
  rw [dec_F, dec_F]
  match r with
  | [] => simp [contB, decF]
  | [b] => simp [contB, decF]
  | [b, c] => simp [contB, decF]
  | b :: c :: d :: r => simp [contB, decF]
theorem index_sp (c : UInt8) (u : List UInt8) : ∀ s : List UInt8, 0 ≤ Lib.indexByte s c → Lib.indexByte (s ++ u) c = Lib.indexByte s c := by
  intro s
  induction s with
  | nil => intro h; simp [Lib.indexByte] at h
  | cons a r ih =>
    intro h
    rw [List.cons_append, Lib.indexByte]
    rw [Lib.indexByte] at h ⊢
    split
    · rfl
    · rename_i hne
      rw [if_neg hne] at h
      by_cases hr : (Lib.indexByte r c == -1) = true
      · rw [if_pos hr] at h; omega
      · have hm : c ∈ r := by
          apply Decidable.byContradiction
          intro hm
          exact hr (by rw [(index_miss r c).2 hm]; rfl)
        have h0 := index_neg r c
        rw [decide_eq_true hm] at h0
        rw [ih (of_decide_eq_true h0)]
theorem hexV_app {s : List UInt8} (h : (hexV s).2 ≠ 0) (u : List UInt8) : hexV (s ++ u) = hexV s := by
  unfold hexV at h ⊢
  by_cases hc : s.length < 3 ∨ s.head? ≠ some 123 ∨ Lib.indexByte s 125 < 2 ∨ 7 < Lib.indexByte s 125
  · rw [if_pos hc] at h; exact absurd rfl h
  · have i3 : Lib.indexByte s 125 < s.length := index_lt s 125 (by omega)
    have e := index_sp 125 u s (by omega)
    have hh : (s ++ u).head? = s.head? := by cases s with | nil => simp at hc | cons a r => rfl
    have ht : ((s ++ u).drop 1).take ((Lib.indexByte s 125).toNat - 1) = (s.drop 1).take ((Lib.indexByte s 125).toNat - 1) := by
      rw [List.drop_append_of_le_length (by omega), List.take_append_of_le_length (by rw [List.length_drop]; omega)]
    rw [e, hh, ht, if_neg (fun h => hc (h.imp (fun h => by rw [List.length_append] at h; omega) id)), if_neg hc]
theorem qscan_sp (u : List UInt8) : ∀ (n : Nat) (l out : List UInt8) (k : Nat) (p : List UInt8 × Nat), l.length ≤ n → qscan l out k = some p → qscan (l ++ 32 :: u) out k = some p := by
  intro n
  induction n with
  | zero =>
    intro l out k p hn h
    obtain rfl : l = [] := List.length_eq_zero_iff.1 (by omega)
    rw [qscan_nil] at h; cases h
  | succ n ih =>
    intro l out k p hn h
    cases l with
    | nil => rw [qscan_nil] at h; cases h
    | cons a r =>
      simp only [List.length_cons] at hn
      have hd := dec_sp a r u
      have hle := dec_le a r
      rw [List.cons_append]
      by_cases c1 : (dec (a :: r)).1 = 34
      · rw [qscan_end c1] at h; rw [qscan_end (by rw [hd]; exact c1)]; exact h
      · by_cases c2 : (dec (a :: r)).1 = 65533 ∧ (dec (a :: r)).2 = 1
        · rw [qscan_bad c2.1 c2.2] at h; cases h
        · by_cases c3 : (dec (a :: r)).1 = 92
          · have ha := dec_92 c3
            subst ha
            cases r with
            | nil => rw [qscan_esc0] at h; cases h
            | cons b t =>
              simp only [List.length_cons] at hn
              rw [List.cons_append, qscan_esc]
              rw [qscan_esc] at h
              split at h
              · rename_i hb; rw [if_pos hb]; exact ih t _ _ p (by omega) h
              · rename_i hb
                rw [if_neg hb]
                split at h
                · rename_i h7
                  rw [if_pos h7]
                  split at h
                  · cases h
                  · rename_i k4
                    obtain ⟨v1, v2, v3⟩ := hexV_ok t k4
                    rw [hexV_app k4, if_neg k4, List.drop_append_of_le_length v2]
                    exact ih (t.drop (hexV t).2) _ _ p (by rw [List.length_drop]; omega) h
                · cases h
          · rw [qscan_rune c1 c2 c3] at h
            rw [qscan_rune (by rw [hd]; exact c1) (by rw [hd]; exact c2) (by rw [hd]; exact c3), hd, ← List.cons_append, List.drop_append_of_le_length hle]
            have := dec_nil_free a r
            exact ih _ _ _ p (by simp only [List.length_cons] at this; omega) h
def Lx.app (m : List Tok) : Lx → Lx
  | .ok l => .ok (m ++ l)
  | x => x
theorem Lx.cons_ok {t : Tok} {x : Lx} {m : List Tok} (h : x.cons t = .ok m) : ∃ m', x = .ok m' ∧ m = t :: m' := by
  cases x with
  | ok l => simp only [Lx.cons, Lx.ok.injEq] at h; exact ⟨l, rfl, h.symm⟩
  | bad a e => cases h
theorem Lx.cons_app (t : Tok) (m : List Tok) (x : Lx) : (x.app m).cons t = x.app (t :: m) := by cases x <;> rfl
theorem lx_sp (u : List UInt8) : ∀ (n : Nat) (l : List UInt8) (k : Nat) (m : List Tok), l.length ≤ n → lx l k = .ok m → lx (l ++ 32 :: u) k = (lx u (k + l.length + 1)).app m := by
  intro n
  induction n with
  | zero =>
    intro l k m hn h
    obtain rfl : l = [] := List.length_eq_zero_iff.1 (by omega)
    rw [lx_nil] at h; cases h
    rw [List.nil_append, lx_cons, if_pos rfl]
    simp only [List.length_nil, Nat.add_zero]
    cases lx u (k + 1) <;> rfl
  | succ n ih =>
    intro l k m hn h
    cases l with
    | nil =>
      rw [lx_nil] at h; cases h
      rw [List.nil_append, lx_cons, if_pos rfl]
      simp only [List.length_nil, Nat.add_zero]
      cases lx u (k + 1) <;> rfl
    | cons a r =>
      simp only [List.length_cons] at hn ⊢
      rw [lx_cons] at h
      rw [List.cons_append, lx_cons, wh_sp (by decide), wh_sp (by decide), headDig_sp]
      by_cases c1 : a = 32
      · rw [if_pos c1] at h ⊢
        rw [ih r (k + 1) m (by omega) h]
        congr 2; omega
      · rw [if_neg c1] at h ⊢
        by_cases c2 : a = 34
        · rw [if_pos c2] at h ⊢
          cases hq : qscan r [] 1 with
          | none => rw [hq] at h; cases h
          | some p =>
            obtain ⟨x, j⟩ := p
            rw [hq] at h
            dsimp only at h
            obtain ⟨m', e1, rfl⟩ := Lx.cons_ok h
            obtain ⟨m1, m2⟩ := qscan_k r.length r [] 1 (Nat.le_refl _) x j hq
            rw [qscan_sp u r.length r [] 1 _ (Nat.le_refl _) hq]
            dsimp only
            rw [List.drop_append_of_le_length (by omega), ih _ _ m' (by rw [List.length_drop]; omega) e1, Lx.cons_app, List.length_drop]
            congr 2; omega
        · rw [if_neg c2] at h ⊢
          have wl := wh_le letB r
          have wd := wh_le digB r
          by_cases c3 : letB a.toNat = true
          · rw [if_pos c3] at h ⊢
            obtain ⟨m', e1, rfl⟩ := Lx.cons_ok h
            rw [List.drop_append_of_le_length (by omega), List.take_append_of_le_length (by omega), ih _ _ m' (by rw [List.length_drop]; omega) e1, Lx.cons_app, List.length_drop]
            congr 2; omega
          · rw [if_neg c3] at h ⊢
            by_cases c4 : digB a.toNat = true
            · rw [if_pos c4] at h ⊢
              obtain ⟨m', e1, rfl⟩ := Lx.cons_ok h
              rw [List.drop_append_of_le_length (by omega), List.take_append_of_le_length (by omega), ih _ _ m' (by rw [List.length_drop]; omega) e1, Lx.cons_app, List.length_drop]
              congr 2; omega
            · rw [if_neg c4] at h ⊢
              by_cases c5 : a = 45 ∧ headDig r = true
              · rw [if_pos c5] at h ⊢
                obtain ⟨m', e1, rfl⟩ := Lx.cons_ok h
                rw [List.drop_append_of_le_length (by omega), List.take_append_of_le_length (by omega), ih _ _ m' (by rw [List.length_drop]; omega) e1, Lx.cons_app, List.length_drop]
                congr 2; omega
              · rw [if_neg c5] at h ⊢
                by_cases c6 : sgnB a.toNat = true
                · rw [if_pos c6] at h ⊢
                  obtain ⟨m', e1, rfl⟩ := Lx.cons_ok h
                  rw [ih _ _ m' (by omega) e1, Lx.cons_app]
                  congr 2; omega
                · rw [if_neg c6] at h; cases h
end Go.Proofs.YtbhclhgljnoioaaDoor
