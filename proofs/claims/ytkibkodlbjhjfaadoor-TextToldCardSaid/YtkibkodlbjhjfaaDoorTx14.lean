/- A number told, and read again: the law. -/
import Derived.Test.YtkibkodlbjhjfaaDoorTx9t
set_option linter.unusedSimpArgs false
set_option linter.unusedVariables false
namespace Go.Proofs.YtkibkodlbjhjfaaDoor
open Ai
def dig (c : UInt8) : Bool := decide (48 ≤ c.toNat) && decide (c.toNat ≤ 57)
def dv (n : Nat) (l : List UInt8) : Nat := l.foldl (fun n c => 10 * n + (c.toNat - 48)) n
theorem dv_nil (n : Nat) : dv n [] = n := rfl
theorem dv_cons (n : Nat) (a : UInt8) (r : List UInt8) : dv n (a :: r) = dv (10 * n + (a.toNat - 48)) r := by simp only [dv, List.foldl_cons]
theorem dv_ge (l : List UInt8) : ∀ n, n ≤ dv n l := by
  induction l with
  | nil => intro n; exact Nat.le_refl _
  | cons a r ih => intro n; rw [dv_cons]; have := ih (10 * n + (a.toNat - 48)); omega
theorem dig_dec {a : UInt8} (h : dig a = true) (r : List UInt8) : dec (a :: r) = (a.toNat, 1) := dec_ascii (by simp only [dig, Bool.and_eq_true, decide_eq_true_eq] at h; omega) r
theorem badC_false {k n c : Nat} : badC k n c = false ↔ 48 ≤ c ∧ c ≤ 57 ∧ (k = 0 ∨ n ≠ 0) ∧ k ≤ 18 := by
  simp only [badC, Bool.or_eq_false_iff, Bool.and_eq_false_iff, decide_eq_false_iff_not]
  omega
theorem scan_big (l : List UInt8) : ∀ (k n : Nat), 0 < n → k ≤ 19 → scan k n l = if l.all dig = true ∧ k + l.length ≤ 19 then some (k + l.length, dv n l) else none := by
  induction l using rune_ind with
  | h0 => intro k n hn hk; rw [scan_nil]; simp [dv_nil, hk]
  | h1 a r ih =>
    intro k n hn hk
    rw [scan_cons]
    cases hb : badC k n (dec (a :: r)).1 with
    | true =>
      rw [if_pos rfl, if_neg]
      rintro ⟨h1, h2⟩
      rw [List.all_cons, Bool.and_eq_true] at h1
      have hd := dig_dec h1.1 r
      have h3 := h1.1
      simp only [dig, Bool.and_eq_true, decide_eq_true_eq] at h3
      have : badC k n (dec (a :: r)).1 = false := badC_false.2 (by rw [hd]; simp only [List.length_cons] at h2; omega)
      rw [hb] at this
      cases this
    | false =>
      obtain ⟨h1, h2, h3, h4⟩ := badC_false.1 hb
      obtain ⟨h5, h6⟩ := dec_low (a := a) (r := r) (by omega)
      rw [h6] at ih h1 h2 ⊢
      simp only [List.drop_succ_cons, List.drop_zero] at ih h1 h2 ⊢
      have hdig : dig a = true := by simp only [dig, Bool.and_eq_true, decide_eq_true_eq]; omega
      rw [if_neg (by simp), ih (k + 1) _ (by omega) (by omega), dv_cons, List.all_cons, hdig, Bool.true_and, List.length_cons]
      rw [show k + 1 + r.length = k + (r.length + 1) from by omega]
theorem scan_zero (k : Nat) (a : UInt8) (r : List UInt8) : scan (k + 1) 0 (a :: r) = none := by
  rw [scan_cons, if_pos]
  cases h : badC (k + 1) 0 (dec (a :: r)).1 with
  | true => rfl
  | false => have := badC_false.1 h; omega
theorem scan_all (d : List UInt8) : scan 0 0 d = if d.all dig = true ∧ d.length ≤ 19 ∧ ¬ (1 < d.length ∧ d.head? = some 48) then some (d.length, dv 0 d) else none := by
  cases d with
  | nil => rw [scan_nil]; simp [dv_nil]
  | cons a r =>
    rw [scan_cons]
    cases hb : badC 0 0 (dec (a :: r)).1 with
    | true =>
      rw [if_pos rfl, if_neg]
      rintro ⟨h1, h2⟩
      rw [List.all_cons, Bool.and_eq_true] at h1
      have hd := dig_dec h1.1 r
      have h3 := h1.1
      simp only [dig, Bool.and_eq_true, decide_eq_true_eq] at h3
      have : badC 0 0 (dec (a :: r)).1 = false := badC_false.2 (by rw [hd]; simp only [List.length_cons] at h2; omega)
      rw [hb] at this
      cases this
    | false =>
      obtain ⟨h1, h2, h3, h4⟩ := badC_false.1 hb
      obtain ⟨h5, h6⟩ := dec_low (a := a) (r := r) (by omega)
      rw [h6] at h1 h2 ⊢
      simp only [List.drop_succ_cons, List.drop_zero] at h1 h2 ⊢
      have hdig : dig a = true := by simp only [dig, Bool.and_eq_true, decide_eq_true_eq]; omega
      rw [if_neg (by simp), List.all_cons, hdig, Bool.true_and, dv_cons]
      by_cases h0 : a.toNat = 48
      · have ha : a = 48 := UInt8.toNat_inj.1 h0
        cases r with
        | nil => rw [h0, scan_nil]; simp [dv_nil]
        | cons b t =>
          rw [h0, scan_zero, if_neg]
          rintro ⟨_, _, h⟩
          exact h ⟨by simp, by simp [ha]⟩
      · have ha : ¬ a = 48 := fun e => h0 (by rw [e]; rfl)
        rw [scan_big _ _ _ (by omega) (by omega), List.length_cons, show 0 + 1 + r.length = r.length + 1 from by omega]
        have : (r.all dig = true ∧ r.length + 1 ≤ 19) ↔ (r.all dig = true ∧ r.length + 1 ≤ 19 ∧ ¬ (1 < r.length + 1 ∧ (a :: r).head? = some 48)) := by
          rw [show ((a :: r).head? = some 48) = False from by simp [ha]]
          simp
        by_cases hx : r.all dig = true ∧ r.length + 1 ≤ 19
        · rw [if_pos hx, if_pos (this.1 hx)]
        · rw [if_neg hx, if_neg (fun e => hx (this.2 e))]
theorem dv_pos (d : List UInt8) (hd : d.all dig = true) (h1 : d ≠ []) (h2 : ¬ (1 < d.length ∧ d.head? = some 48)) : dv 0 d = 0 ↔ d = [48] := by
  constructor
  · intro h
    cases d with
    | nil => exact absurd rfl h1
    | cons a r =>
      rw [dv_cons] at h
      have := dv_ge r (10 * 0 + (a.toNat - 48))
      rw [List.all_cons, Bool.and_eq_true] at hd
      have h3 := hd.1
      simp only [dig, Bool.and_eq_true, decide_eq_true_eq] at h3
      have ha : a = 48 := UInt8.toNat_inj.1 (by show a.toNat = 48; omega)
      subst ha
      cases r with
      | nil => rfl
      | cons b t => exact absurd ⟨by simp, rfl⟩ h2
  · rintro rfl; rfl
theorem dv_snoc (d : List UInt8) (a : UInt8) : ∀ n, dv n (d ++ [a]) = 10 * dv n d + (a.toNat - 48) := by
  intro n
  simp only [dv, List.foldl_append, List.foldl_cons, List.foldl_nil]
theorem of48 (c : Nat) (h : c < 10) : (UInt8.ofNat (48 + c)).toNat = 48 + c := by
  rw [UInt8.toNat_ofNat']; omega
/-- What is told of a number. -/
structure Dec (u : Nat) (d : List UInt8) : Prop where
  dig : d.all dig = true
  val : dv 0 d = u
  ne : d ≠ []
  lead : ¬ (1 < d.length ∧ d.head? = some 48)
theorem dec_of (u : Nat) : Dec u (Lib.decDigits u) := by
  induction u using Nat.strongRecOn with
  | _ u ih =>
    rw [Lib.decDigits]
    by_cases h : u < 10
    · rw [dif_pos h]
      refine ⟨?_, ?_, by simp, by simp⟩
      · simp only [List.all_cons, List.all_nil, Bool.and_true, dig, of48 u h, Bool.and_eq_true, decide_eq_true_eq]; omega
      · rw [dv_cons, dv_nil, of48 u h]; omega
    · rw [dif_neg h]
      obtain ⟨h1, h2, h3, h4⟩ := ih (u / 10) (by omega)
      have hm : u % 10 < 10 := Nat.mod_lt _ (by omega)
      refine ⟨?_, ?_, by simp, ?_⟩
      · rw [List.all_append, h1]
        simp only [List.all_cons, List.all_nil, Bool.and_true, dig, of48 _ hm, Bool.and_eq_true, decide_eq_true_eq, Bool.true_and]; omega
      · rw [dv_snoc, h2, of48 _ hm]; omega
      · rintro ⟨_, h5⟩
        have h6 : (Lib.decDigits (u / 10)).head? = some 48 := by
          cases hd : Lib.decDigits (u / 10) with
          | nil => exact absurd hd h3
          | cons x t => rw [hd] at h5; simpa using h5
        by_cases hl : 1 < (Lib.decDigits (u / 10)).length
        · exact h4 ⟨hl, h6⟩
        · cases hd : Lib.decDigits (u / 10) with
          | nil => exact h3 hd
          | cons x t =>
            rw [hd] at h6 hl h2
            simp only [List.head?_cons, Option.some.injEq] at h6
            subst h6
            cases t with
            | nil => rw [dv_cons, dv_nil] at h2; simp at h2; omega
            | cons y t => simp at hl
theorem of_dec (d : List UInt8) : d.all dig = true → d ≠ [] → ¬ (1 < d.length ∧ d.head? = some 48) → Lib.decDigits (dv 0 d) = d := by
  induction hn : d.length generalizing d with
  | zero => intro _ h; exact absurd (List.length_eq_zero_iff.1 hn) h
  | succ n ih =>
    intro h1 h2 h3
    obtain ⟨e, a, rfl⟩ : ∃ e a, d = e ++ [a] := ⟨d.dropLast, d.getLast h2, (List.dropLast_concat_getLast h2).symm⟩
    rw [List.all_append, Bool.and_eq_true] at h1
    obtain ⟨g1, g2⟩ := h1
    have ha : dig a = true := by simpa using g2
    have ha' := ha
    simp only [dig, Bool.and_eq_true, decide_eq_true_eq] at ha'
    have hb : UInt8.ofNat (48 + (a.toNat - 48)) = a := by
      apply UInt8.toNat_inj.1
      rw [of48 _ (by omega)]; omega
    rw [dv_snoc]
    by_cases he : e = []
    · subst he
      rw [dv_nil, Lib.decDigits, dif_pos (by omega)]
      simp only [Nat.mul_zero, Nat.zero_add, hb, List.nil_append]
    · have hlen : e.length = n := by simpa using hn
      have hhead : e.head? ≠ some 48 := fun h => h3 ⟨by have := List.length_pos_iff.2 he; simp; omega, by
        cases e with
        | nil => exact absurd rfl he
        | cons x t => simpa using h⟩
      have hp : dv 0 e ≠ 0 := fun h => by
        have := (dv_pos e g1 he (fun h => hhead h.2)).1 h
        rw [this] at hhead
        exact hhead rfl
      rw [Lib.decDigits, dif_neg (by omega), show (10 * dv 0 e + (a.toNat - 48)) / 10 = dv 0 e from by omega, show (10 * dv 0 e + (a.toNat - 48)) % 10 = a.toNat - 48 from by omega, ih e hlen g1 he (fun h => hhead h.2), hb]
theorem nd_le (u : Nat) (h : u < 10000000000000000000) : (Lib.decDigits u).length ≤ 19 := by
  have hk : ∀ k u, u < 10 ^ (k + 1) → (Lib.decDigits u).length ≤ k + 1 := by
    intro k
    induction k with
    | zero => intro u hu; rw [Lib.decDigits, dif_pos (by omega)]; simp
    | succ k ih =>
      intro u hu
      rw [Lib.decDigits]
      split
      · simp
      · have := ih (u / 10) (by rw [Nat.pow_succ] at hu; omega)
        simp; omega
  exact hk 18 u h
theorem scan_dec (u : Nat) (h : u < 10000000000000000000) : scan 0 0 (Lib.decDigits u) = some ((Lib.decDigits u).length, u) := by
  obtain ⟨h1, h2, h3, h4⟩ := dec_of u
  rw [scan_all, if_pos ⟨h1, nd_le u h, h4⟩, h2]
theorem num_itoa (n : Int) (h0 : -9223372036854775808 ≤ n) (h1 : n ≤ 9223372036854775807) : numT (Lib.itoa n) = numE n 0 := by
  unfold numT Lib.itoa
  by_cases hn : n < 0
  · rw [if_pos hn]
    have hd := dec_of n.natAbs
    have e1 : negOf (45 :: Lib.decDigits n.natAbs) = true := by
      simp only [negOf, Bool.and_eq_true, Bool.not_eq_true', List.isEmpty_eq_false_iff]
      exact ⟨by decide, hd.ne⟩
    have e2 : digsOf (45 :: Lib.decDigits n.natAbs) = Lib.decDigits n.natAbs := by rw [digsOf, if_pos e1]; rfl
    rw [e1, e2, scan_dec _ (by omega)]
    have hl : (Lib.decDigits n.natAbs).length ≠ 0 := fun h => hd.ne (List.length_eq_zero_iff.1 h)
    simp only [numEnd]
    rw [if_neg (by omega), if_pos ⟨trivial, by omega⟩]
    congr 1; omega
  · rw [if_neg hn]
    have hd := dec_of n.toNat
    have e1 : negOf (Lib.decDigits n.toNat) = false := by
      cases hx : Lib.decDigits n.toNat with
      | nil => rfl
      | cons a r =>
        have := hd.dig
        rw [hx, List.all_cons, Bool.and_eq_true] at this
        have := this.1
        simp only [dig, Bool.and_eq_true, decide_eq_true_eq] at this
        simp only [negOf, Bool.and_eq_false_iff, decide_eq_false_iff_not]
        left; omega
    have e2 : digsOf (Lib.decDigits n.toNat) = Lib.decDigits n.toNat := by rw [digsOf, e1]; rfl
    rw [e1, e2, scan_dec _ (by omega)]
    have hl : (Lib.decDigits n.toNat).length ≠ 0 := fun h => hd.ne (List.length_eq_zero_iff.1 h)
    simp only [numEnd]
    rw [if_neg (by simp [hl]), if_neg (by simp), if_neg (by omega)]
    congr 1; omega
theorem num_back (s : List UInt8) : ∃ v f, numT s = numE v f ∧ ((f ≠ 0 ∧ v = 0) ∨ (f = 0 ∧ -9223372036854775808 ≤ v ∧ v ≤ 9223372036854775807 ∧ Lib.itoa v = s)) := by
  unfold numT
  rw [scan_all]
  split
  · rename_i h
    obtain ⟨h1, h2, h3⟩ := h
    simp only [numEnd]
    split
    · exact ⟨0, 23, rfl, .inl ⟨by decide, rfl⟩⟩
    · rename_i hk
      have hne : digsOf s ≠ [] := fun e => hk (.inl (by rw [e]; rfl))
      have hback := of_dec _ h1 hne h3
      split
      · rename_i hn
        refine ⟨_, 0, rfl, .inr ⟨rfl, by omega, by omega, ?_⟩⟩
        have hz : dv 0 (digsOf s) ≠ 0 := fun e => hk (.inr ⟨hn.1, e⟩)
        rw [Lib.itoa, if_pos (by omega), show (-((dv 0 (digsOf s) : Nat) : Int)).natAbs = dv 0 (digsOf s) from by omega, hback]
        have hneg := hn.1
        rw [digsOf, if_pos hneg]
        cases s with
        | nil => cases hneg
        | cons a r =>
          simp only [negOf, Bool.and_eq_true, decide_eq_true_eq] at hneg
          have : a = 45 := UInt8.toNat_inj.1 hneg.1
          subst this
          rfl
      · rename_i hn
        split
        · exact ⟨0, 5, rfl, .inl ⟨by decide, rfl⟩⟩
        · rename_i hv
          refine ⟨_, 0, rfl, .inr ⟨rfl, by omega, by omega, ?_⟩⟩
          have hneg : negOf s = false := by
            cases h : negOf s with
            | false => rfl
            | true => exact absurd ⟨h, by omega⟩ hn
          rw [Lib.itoa, if_neg (by omega), Int.toNat_natCast, hback, digsOf, hneg]
          rfl
  · exact ⟨0, 23, rfl, .inl ⟨by decide, rfl⟩⟩
theorem itoa_len (n : Int) (h0 : -9223372036854775808 ≤ n) (h1 : n ≤ 9223372036854775807) : (Lib.itoa n).length ≤ 16384 := by
  unfold Lib.itoa
  have a := nd_le n.natAbs (by omega)
  have b := nd_le n.toNat (by omega)
  split
  · simp; omega
  · omega

/-! ### The law -/
def F_Fmt : List V → Option V := fnFmt
theorem F_Fmt1 (n : Int) (h0 : -9223372036854775808 ≤ n) (h1 : n ≤ 9223372036854775807) : F_Fmt [.i .i64 n, .i .i64 10] = some (.s (Lib.itoa n)) := if_pos ⟨h0, h1, rfl⟩
theorem o_Fmt : ∀ a v, F_Fmt a = some v → Comp tabx told 13 a v := fun a v e => comp_prim (by show xf _ a = some v; exact e)
theorem U5 {xf : FuncId → List V → Option V} {kz : Nat → List Nat} {k : List Fr} {st : St} {Q : AEx → St → Prop} : M xf kz (.code B5) k st Q = M xf kz (.code (.seq (.reg [⟨some 4, .mov (.k (.b false)), none⟩])
  (.seq (.seq (.reg [⟨some 9, .mov (.t 1), none⟩,
      ⟨some 10, .len .str (.t 9), none⟩,
      ⟨some 11, .bin .gtr (.t 10) (.k (.i .i64 16384)), none⟩])
   (.cond (.t 11)
    (.seq (.reg [⟨some 12, .call true 6 [], none⟩,
       ⟨some 4, .mov (.t 12), none⟩])
    .ret)
    .skip))
  (.seq (.reg [⟨some 14, .mov (.t 0), none⟩,
     ⟨some 15, .call true 13 [(.t 14), (.k (.i .i64 10))], none⟩,
     ⟨some 16, .call true 12 [(.t 15)], none⟩,
     ⟨some 13, .mov (.t 16), none⟩,
     ⟨some 17, .ext (.t 13) 0, none⟩,
     ⟨some 18, .ext (.t 13) 1, none⟩,
     ⟨some 5, .mov (.t 17), none⟩,
     ⟨some 6, .mov (.t 18), none⟩])
  (.seq (.reg [⟨some 20, .mov (.t 1), none⟩,
     ⟨some 21, .call true 12 [(.t 20)], none⟩,
     ⟨some 19, .mov (.t 21), none⟩,
     ⟨some 22, .ext (.t 19) 0, none⟩,
     ⟨some 23, .ext (.t 19) 1, none⟩,
     ⟨some 7, .mov (.t 22), none⟩,
     ⟨some 8, .mov (.t 23), none⟩])
  (.seq (.reg [⟨some 24, .mov (.t 5), none⟩,
     ⟨some 25, .mov (.t 0), none⟩,
     ⟨some 26, .bin .eql (.t 24) (.t 25), none⟩,
     ⟨some 27, .mov (.t 26), none⟩,
     ⟨some 28, .mov (.t 6), some (27, true)⟩,
     ⟨some 29, .bin .eql (.t 28) (.k (.i .i64 0)), some (27, true)⟩,
     ⟨some 30, .pick (.t 27) (.t 29) (.k (.b false)), none⟩,
     ⟨some 31, .mov (.t 30), none⟩,
     ⟨some 32, .mov (.t 8), some (31, true)⟩,
     ⟨some 33, .bin .neq (.t 32) (.k (.i .i64 0)), some (31, true)⟩,
     ⟨some 34, .mov (.t 33), some (31, true)⟩,
     ⟨some 35, .mov (.t 7), some (34, true)⟩,
     ⟨some 36, .bin .eql (.t 35) (.k (.i .i64 0)), some (34, true)⟩,
     ⟨some 37, .pick (.t 34) (.t 36) (.k (.b false)), some (31, true)⟩,
     ⟨some 38, .mov (.t 37), some (31, true)⟩,
     ⟨some 39, .mov (.t 8), some (38, false)⟩,
     ⟨some 40, .bin .eql (.t 39) (.k (.i .i64 0)), some (38, false)⟩,
     ⟨some 41, .mov (.t 40), some (38, false)⟩,
     ⟨some 42, .mov (.t 7), some (41, true)⟩,
     ⟨some 43, .call true 13 [(.t 42), (.k (.i .i64 10))], some (41, true)⟩,
     ⟨some 44, .mov (.t 1), some (41, true)⟩,
     ⟨some 45, .bin .eql (.t 43) (.t 44), some (41, true)⟩,
     ⟨some 46, .pick (.t 41) (.t 45) (.k (.b false)), some (38, false)⟩,
     ⟨some 47, .pick (.t 38) (.k (.b true)) (.t 46), some (31, true)⟩,
     ⟨some 48, .pick (.t 31) (.t 47) (.k (.b false)), none⟩,
     ⟨some 49, .mov (.t 48), none⟩,
     ⟨some 50, .call true 6 [], some (49, true)⟩,
     ⟨some 51, .pick (.t 49) (.t 50) (.k (.b false)), none⟩,
     ⟨some 4, .mov (.t 51), none⟩])
  .ret)))))) k st Q := rfl
def kz5 (_ : Nat) : List Nat := []
def X_told : FuncId → List V → Option V := xs [(6, F_awake), (13, F_Fmt), (12, F_Number)]
theorem t_TextTold : Tells tabx told X_told := tells_cons o_awake (tells_cons o_Fmt (tells_cons o_Number tells_nil))
theorem xa : X_told 6 [] = some (.b true) := rfl
theorem xm (n : Int) (h0 : -9223372036854775808 ≤ n) (h1 : n ≤ 9223372036854775807) : X_told 13 [.i .i64 n, .i .i64 10] = some (.s (Lib.itoa n)) := F_Fmt1 n h0 h1
theorem xn (s : List UInt8) (hs : s.length ≤ 16384) : X_told 12 [.s s] = some (numT s) := F_Number1 s hs
theorem w_TextTold (n : Int) (yn : (Lit.int .i64 n).wf = true) (s : List UInt8) (ys : s.length ≤ reachBytes) (gl : Nat → List V) : M (X_told) (kz5) (.code B5) [] (St.init gl 6 [.i .i64 n, .s s] {}) (Fin [.tmp 4] (.b true)) := by
  have hn : -9223372036854775808 ≤ n ∧ n ≤ 9223372036854775807 := by simpa [Lit.wf, IntKind.min, IntKind.max, IntKind.bits, IntKind.signed] using yn
  rw [U5]
  simp only [go_sem, ne_eq, not_false_eq_true, reduceIte, Nat.reduceMul, Nat.reduceAdd, Nat.reduceSub, Nat.reduceEqDiff, Nat.reduceLeDiff, Nat.reduceLT, List.take_succ_cons, List.take_zero, List.drop_succ_cons, List.cons_append]
  cases hl : decide ((16384 : Int) < (s.length : Int)) with
  | true => simp only [hl, xa, go_sem, ne_eq, not_false_eq_true, reduceIte, Nat.reduceMul, Nat.reduceAdd, Nat.reduceSub, Nat.reduceEqDiff, Nat.reduceLeDiff, Nat.reduceLT, List.take_succ_cons, List.take_zero, List.drop_succ_cons, List.cons_append]
  | false =>
    have hs : s.length ≤ 16384 := by simp only [decide_eq_false_iff_not] at hl; omega
    obtain ⟨v, f, e1, h⟩ := num_back s
    simp only [hl, xm n hn.1 hn.2, xn (Lib.itoa n) (itoa_len n hn.1 hn.2), num_itoa n hn.1 hn.2, xn s hs, e1, numE, go_sem, ne_eq, not_false_eq_true, reduceIte, Nat.reduceMul, Nat.reduceAdd, Nat.reduceSub, Nat.reduceEqDiff, Nat.reduceLeDiff, Nat.reduceLT, List.take_succ_cons, List.take_zero, List.drop_succ_cons, List.cons_append]
    rcases h with ⟨h1, rfl⟩ | ⟨rfl, h2, h3, h4⟩
    · have : decide (f = 0) = false := decide_eq_false h1
      simp only [this, xa, decide_true, go_sem, ne_eq, not_false_eq_true, reduceIte, Nat.reduceMul, Nat.reduceAdd, Nat.reduceSub, Nat.reduceEqDiff, Nat.reduceLeDiff, Nat.reduceLT, List.take_succ_cons, List.take_zero, List.drop_succ_cons, List.cons_append]
    · simp only [xm v h2 h3, h4, xa, decide_true, strEq_self, go_sem, ne_eq, not_false_eq_true, reduceIte, Nat.reduceMul, Nat.reduceAdd, Nat.reduceSub, Nat.reduceEqDiff, Nat.reduceLeDiff, Nat.reduceLT, List.take_succ_cons, List.take_zero, List.drop_succ_cons, List.cons_append]
end Go.Proofs.YtkibkodlbjhjfaaDoor
