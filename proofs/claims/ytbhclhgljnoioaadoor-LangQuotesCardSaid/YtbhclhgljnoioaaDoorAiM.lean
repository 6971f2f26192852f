/- The abstract interpreter: slices of slices, places in them, append, copy, make. -/
import Derived.Test.YtbhclhgljnoioaaDoorAiL
import Derived.Laws.Append
namespace Ai
open Go

theorem natOf_sound {G : Gh} {W : World} {v : V} {c : Value} {n : Nat} (h : natOf v = some n) (hv : VR G W v c) : ∃ k, c = .int k (n : Int) := by
  unfold natOf at h
  split at h
  · rename_i k m
    split at h
    · rename_i hm
      cases hv
      simp only [Option.some.injEq] at h
      refine ⟨k, ?_⟩
      rw [← h, Int.toNat_of_nonneg hm]
    · cases h
  · cases h

/-- Optional bounds, ours and the model's. -/
inductive OR (G : Gh) (W : World) : Option V → Option Value → Prop
  | none : OR G W none none
  | some {v : V} {c : Value} (h : VR G W v c) : OR G W (some v) (some c)

section
variable {P : Program} {kl : List (Nat × List Nat)} {G : Gh} {W : World} {st : St} {A : Act}

theorem run_sliceBound {k : IntKind} {n y : Nat} (h : n ≤ y) (code : BoundsCode) : (Instr.sliceBound (.int k (n : Int)) y code).run P W = .ok n W := by
  have : (0 : Int) ≤ (n : Int) ∧ (n : Int) ≤ (y : Int) := ⟨by omega, by omega⟩
  simp [Instr.sliceBound, asIntOf, this]

theorem bnds_sound {n len cap : Nat} {lo hi mx : Option V} {clo chi cmx : Option Value} {l h : Nat} {m : Option Nat} (hb : bnds n lo hi mx = some (l, h, m)) (hlo : OR G W lo clo) (hhi : OR G W hi chi) (hmx : OR G W mx cmx)
    (hlen : n ≤ len) (hcap : len ≤ cap) (he : hi = none → n = len) (isS : Bool) (hm : mx ≠ none → hi ≠ none) :
    (Instr.sliceBounds isS len cap clo chi cmx).run P W = .ok (l, h, m.getD cap) W ∧ l ≤ h ∧ h ≤ m.getD n ∧ m.getD n ≤ n ∧ (m = none ↔ mx = none) := by
  unfold bnds at hb
  split at hb
  · cases hb
  · rename_i m' hm'
    split at hb
    · rename_i h' l' hh' hl'
      cases hc : (Nat.ble l' h' && Nat.ble h' m' && Nat.ble m' n) with
      | false => rw [hc] at hb; cases hb
      | true =>
        rw [hc] at hb
        simp only [cond_true, Option.some.injEq, Prod.mk.injEq] at hb
        obtain ⟨rfl, rfl, rfl⟩ := hb
        simp only [Bool.and_eq_true] at hc
        obtain ⟨⟨c1, c2⟩, c3⟩ := hc
        have c1 := Nat.le_of_ble_eq_true c1
        have c2 := Nat.le_of_ble_eq_true c2
        have c3 := Nat.le_of_ble_eq_true c3
        cases hmx with
        | none =>
          simp only [natOr, Option.some.injEq] at hm'
          subst hm'
          refine ⟨?_, c1, by simpa using c2, by simp, by simp⟩
          cases hhi with
          | none =>
            simp only [natOr, Option.some.injEq] at hh'
            subst hh'
            have hnl := he rfl
            cases hlo with
            | none =>
              simp only [natOr, Option.some.injEq] at hl'
              subst hl'
              simp [Instr.sliceBounds, hnl]
            | some hv =>
              obtain ⟨k, rfl⟩ := natOf_sound hl' hv
              simp only [Instr.sliceBounds, Sem.run_bind, Sem.run_pure, Result.andThen_ok]
              rw [run_sliceBound (by omega)]
              simp [hnl]
          | some hv =>
            obtain ⟨k, rfl⟩ := natOf_sound hh' hv
            cases hlo with
            | none =>
              simp only [natOr, Option.some.injEq] at hl'
              subst hl'
              simp only [Instr.sliceBounds, Sem.run_bind, Sem.run_pure, Result.andThen_ok]
              rw [run_sliceBound (by omega)]
              simp
            | some hv2 =>
              obtain ⟨k2, rfl⟩ := natOf_sound hl' hv2
              simp only [Instr.sliceBounds, Sem.run_bind, Sem.run_pure, Result.andThen_ok]
              rw [run_sliceBound (by omega)]
              simp only [Result.andThen_ok]
              rw [run_sliceBound (by omega)]
              simp
        | some hvm =>
          obtain ⟨km, rfl⟩ := natOf_sound hm' hvm
          refine ⟨?_, c1, by simpa using c2, by simpa using c3, by simp⟩
          cases hhi with
          | none => exact absurd rfl (hm (by simp))
          | some hv =>
            obtain ⟨k, rfl⟩ := natOf_sound hh' hv
            cases hlo with
            | none =>
              simp only [natOr, Option.some.injEq] at hl'
              subst hl'
              simp only [Instr.sliceBounds, Sem.run_bind, Sem.run_pure, Result.andThen_ok]
              rw [run_sliceBound (by omega)]
              simp only [Result.andThen_ok]
              rw [run_sliceBound (by omega)]
              simp
            | some hv2 =>
              obtain ⟨k2, rfl⟩ := natOf_sound hl' hv2
              simp only [Instr.sliceBounds, Sem.run_bind, Sem.run_pure]
              rw [run_sliceBound (by omega)]
              simp only [Result.andThen_ok]
              rw [run_sliceBound (by omega)]
              simp only [Result.andThen_ok]
              rw [run_sliceBound (by omega)]
              simp
    · cases hb

def skOk (P : Program) (t : TypeId) : SK → Bool
  | .str => isStr P t
  | .slice sz => match P.underlying t with
    | some (.slice e) => decide (szOf P e = some sz) && Nat.blt 0 sz
    | _ => false
  | .arr n sz => match P.underlying t with
    | some (.array m e) => Nat.beq m n && decide (szOf P e = some sz) && Nat.blt 0 sz && Nat.blt 0 n
    | _ => false

theorem blt_lt {a b : Nat} (h : Nat.blt a b = true) : a < b := by simp [Nat.blt] at h; omega

theorem drop_take_getD (xs : List V) (a n j : Nat) (h : j < n) : ((xs.drop a).take n).getD j .any = xs.getD (a + j) .any := by
  rw [getD_take _ _ h, getD_drop]

theorem drop_take_len {xs : List V} {a n : Nat} (h : a + n ≤ xs.length) : ((xs.drop a).take n).length = n := by
  simp only [List.length_take, List.length_drop]; omega

theorem TkOK.slc {a : Option Addr} {n cap : Nat} {tk : Tk} (h : TkOK G a n cap tk) {lo hi : Nat} {mx : Option Nat} (h1 : lo ≤ hi) (h2 : hi ≤ mx.getD n) (h3 : mx.getD n ≤ n) (hc : n ≤ cap) (a' : Option Addr) (ha : lo = 0 → hi = n → mx = none → a' = a) :
    TkOK G a' (hi - lo) (mx.getD cap - lo) (slcTk lo hi n mx tk) := by
  unfold slcTk
  cases mx with
  | some m =>
    simp only [Option.getD_some] at h2 h3 ⊢
    cases hb : Nat.beq m hi with
    | true => have := Nat.eq_of_beq_eq_true hb; subst this; exact rfl
    | false => trivial
  | none =>
    simp only [Option.getD_none] at h2 h3 ⊢
    cases hb : Nat.beq hi n with
    | false => trivial
    | true =>
      have := Nat.eq_of_beq_eq_true hb; subst this
      cases hb2 : Nat.beq lo 0 with
      | true =>
        have := Nat.eq_of_beq_eq_true hb2; subst this
        simp only [cond_true]
        rw [ha rfl rfl rfl]
        exact h
      | false =>
        simp only [cond_true, cond_false]
        cases tk with
        | full => simp only [TkOK] at h ⊢; omega
        | nil => trivial
        | no => trivial
        | own t => trivial

theorem slc_sound (hs : StRel P kl G W st A) {t : TypeId} {sk : SK} {x v : V} {cx : Value} {lo hi mx : Option V} {clo chi cmx : Option Value} (hk : skOk P t sk = true) (h : slcV sk x lo hi mx = some v)
    (hx : VR G W x cx) (hlo : OR G W lo clo) (hhi : OR G W hi chi) (hmx : OR G W mx cmx) (hm : mx ≠ none → hi ≠ none) :
    Post P kl G W st A v ((Instr.sliceAt t cx clo chi cmx).run P W) ∧ v.plain = true := by
  unfold slcV at h
  split at h
  · -- a string
    have hu := isStr_spec (by simpa [skOk] using hk)
    split at h
    · rename_i l hmn a b m hb
      simp only [Option.some.injEq] at h
      subst h
      cases hmx
      generalize hcx : cx = c at hx
      cases hx with | s _ s hl =>
      subst hl
      have hlen : s.data.toList.length = s.size := Array.length_toList
      rw [hlen] at hb
      obtain ⟨e1, e2, e3, _, e5⟩ := bnds_sound (P := P) hb hlo hhi .none (Nat.le_refl _) (Nat.le_refl _) (fun _ => rfl) false (fun h => absurd rfl h)
      refine ⟨Post.here hs (c := .string (s.extract a b)) ?_ (.s _ _ ?_), rfl⟩
      · simp only [Instr.sliceAt, Sem.run_bind, run_underlying' hu, Result.andThen_ok, Instr.slice]
        simp [e1]
      · rw [ByteArray.data_extract, Array.toList_extract, List.extract_eq_take_drop]
    · cases h
  · -- a slice
    rename_i sz xs n tk
    split at h
    · rename_i a b m hb
      cases hbl : Nat.beq xs.length (n * sz) with
      | false => rw [hbl] at h; cases h
      | true =>
        rw [hbl] at h
        simp only [cond_true, Option.some.injEq] at h
        subst h
        have hlen := Nat.eq_of_beq_eq_true hbl
        cases hx with | sl _ _ _ ad cap bl of cs hn ha hi' hc hv ht =>
        simp only [skOk] at hk
        split at hk
        · rename_i e hu
          simp only [Bool.and_eq_true, decide_eq_true_eq] at hk
          have hz := blt_lt hk.2
          obtain ⟨e1, e2, e3, e4, e5⟩ := bnds_sound (P := P) hb hlo hhi hmx (Nat.le_refl _) hn (fun _ => rfl) true hm
          have hle : a * sz + (b - a) * sz ≤ n * sz := by rw [← Nat.add_mul]; exact Nat.mul_le_mul_right _ (by omega)
          refine ⟨Post.here hs (c := .slice (if m.getD cap = a then ad else ad.map (·.add (a * sz))) (b - a) (m.getD cap - a)) ?_ ?_, rfl⟩
          · simp only [Instr.sliceAt, Sem.run_bind, run_underlying' hu, Result.andThen_ok, Instr.slice]
            simp [e1, run_sizeOf' hk.1]
          · have hl2 : ((xs.drop (a * sz)).take ((b - a) * sz)).length = (b - a) * sz := drop_take_len (by rw [hlen]; exact hle)
            refine .sl _ _ _ _ _ bl (of + a * sz) (fun j => cs (a * sz + j)) ?_ (fun hne => ?_) (fun j hj => ?_) (fun j hj => ?_) (fun j hj => ?_) ?_
            · cases m with
              | none => simp only [Option.getD_none] at *; omega
              | some m => simp only [Option.getD_some] at *; omega
            · have hpos : 0 < (b - a) * sz := by
                rw [← hl2]
                exact List.length_pos_iff.2 hne
              have hba : a < b := by
                rcases Nat.lt_or_ge a b with h | h
                · exact h
                · rw [Nat.sub_eq_zero_of_le h, Nat.zero_mul] at hpos; omega
              have hne' : ¬ (m.getD cap = a) := by
                cases m with
                | none => simp only [Option.getD_none] at *; omega
                | some m => simp only [Option.getD_some] at *; omega
              rw [if_neg hne', ha (by intro e; rw [e] at hlen; simp only [List.length_nil] at hlen; omega)]
              simp [add_mk]
            · rw [hl2] at hj
              rw [Nat.add_assoc]
              exact hi' _ (by omega)
            · rw [hl2] at hj
              rw [Nat.add_assoc]
              exact hc _ (by omega)
            · rw [hl2] at hj
              rw [drop_take_getD _ _ _ _ hj]
              exact hv _ (by omega)
            · refine ht.slc e2 e3 e4 hn _ (fun h1 h2 h3 => ?_)
              subst h1; subst h3
              simp only [Option.getD_none, Nat.zero_mul]
              split
              · rfl
              · cases ad with
                | none => rfl
                | some q => simp [Addr.add]
        · cases hk
    · cases h
  · -- a slice of the shared memory
    rename_i sz id off n sz'
    split at h
    · rename_i a b hb
      cases hbl : Nat.beq sz sz' with
      | false => rw [hbl] at h; cases h
      | true =>
        rw [hbl] at h
        simp only [cond_true, Option.some.injEq] at h
        subst h
        cases hx with | hs _ _ _ _ bl cap ad hob hn ha =>
        simp only [skOk] at hk
        split at hk
        · rename_i e hu
          simp only [Bool.and_eq_true, decide_eq_true_eq] at hk
          obtain ⟨e1, e2, e3, e4, e5⟩ := bnds_sound (P := P) hb hlo hhi hmx (Nat.le_refl _) hn (fun _ => rfl) true hm
          simp only [Option.getD_none] at *
          refine ⟨Post.here hs (c := .slice (if cap = a then ad else ad.map (·.add (a * sz))) (b - a) (cap - a)) ?_ ?_, rfl⟩
          · simp only [Instr.sliceAt, Sem.run_bind, run_underlying' hu, Result.andThen_ok, Instr.slice]
            simp [e1, run_sizeOf' hk.1]
          · refine .hs id _ _ _ bl _ _ hob (by omega) (fun hpos => ?_)
            rw [if_neg (by omega), ha (by omega)]
            simp [add_mk]
        · cases hk
    · cases h
  · -- an array of the shared memory
    rename_i n sz id off
    split at h
    · rename_i a b hb
      simp only [Option.some.injEq] at h
      subst h
      cases hx with | p _ _ bl hob =>
      simp only [skOk] at hk
      split at hk
      · rename_i m e hu
        simp only [Bool.and_eq_true, decide_eq_true_eq] at hk
        have := Nat.eq_of_beq_eq_true hk.1.1.1
        subst this
        obtain ⟨e1, e2, e3, e4, e5⟩ := bnds_sound (P := P) hb hlo hhi hmx (Nat.le_refl _) (Nat.le_refl _) (fun _ => rfl) false hm
        simp only [Option.getD_none] at e1 e3 e4
        refine ⟨Post.here hs (c := .slice (some (if m = a then ⟨bl, off, none⟩ else ⟨bl, off + a * sz, none⟩)) (b - a) (m - a)) ?_ ?_, rfl⟩
        · simp only [Instr.sliceAt, Sem.run_bind, run_underlying' hu, Result.andThen_ok]
          simp [e1, run_sizeOf' hk.1.1.2, add_mk, Instr.sureAddr]
        · refine .hs id _ _ _ bl _ _ hob (by omega) (fun hpos => ?_)
          rw [if_neg (by omega)]
      · cases hk
    · cases h
  · -- an array that is never written again
    rename_i n sz xs o
    split at h
    · rename_i x1 x2 a b ys hb hsub
      simp only [Option.some.injEq] at h
      subst h
      obtain ⟨g1, g2, g3, g4⟩ := sub?_spec hsub
      cases hx with | ip _ _ p bl of cs ha hi' hc hv =>
      simp only [skOk] at hk
      split at hk
      · rename_i m e hu
        simp only [Bool.and_eq_true, decide_eq_true_eq] at hk
        have := Nat.eq_of_beq_eq_true hk.1.1.1
        subst this
        have hz := blt_lt hk.1.2
        have hm0 := blt_lt hk.2
        obtain ⟨e1, e2, e3, e4, e5⟩ := bnds_sound (P := P) hb hlo hhi hmx (Nat.le_refl _) (Nat.le_refl _) (fun _ => rfl) false hm
        simp only [Option.getD_none] at e1 e3 e4
        have hle : a * sz + (b - a) * sz ≤ m * sz := by rw [← Nat.add_mul]; exact Nat.mul_le_mul_right _ (by omega)
        have hl2 : ((ys.drop (a * sz)).take ((b - a) * sz)).length = (b - a) * sz := drop_take_len (by rw [g1]; exact hle)
        · have hpos : 0 < m * sz := Nat.mul_pos hm0 hz
          have h4 := g4 hpos
          have hp := ha (by intro e; subst e; simp at h4; omega)
          subst hp
          refine ⟨Post.here hs (c := .slice (some (if m = a then ⟨bl, of + o, none⟩ else ⟨bl, of + o + a * sz, none⟩)) (b - a) (m - a)) ?_ ?_, rfl⟩
          · simp only [Instr.sliceAt, Sem.run_bind, run_underlying' hu, Result.andThen_ok]
            simp [e1, run_sizeOf' hk.1.1.2, add_mk, Instr.sureAddr]
          · refine .sl _ _ _ _ _ bl (of + (o + a * sz)) (fun j => cs (o + (a * sz + j))) (by omega) (fun hne => ?_) (fun j hj => ?_) (fun j hj => ?_) (fun j hj => ?_) trivial
            · have hpos : 0 < (b - a) * sz := by
                rw [← hl2]
                exact List.length_pos_iff.2 hne
              have hba : a < b := by
                rcases Nat.lt_or_ge a b with h | h
                · exact h
                · rw [Nat.sub_eq_zero_of_le h, Nat.zero_mul] at hpos; omega
              rw [if_neg (by omega)]
              simp only [Option.some.injEq, Addr.mk.injEq, and_true, true_and]; omega
            · rw [hl2] at hj
              rw [show of + (o + a * sz) + j = of + (o + (a * sz + j)) from by omega]
              exact hi' _ (by omega)
            · rw [hl2] at hj
              rw [show of + (o + a * sz) + j = of + (o + (a * sz + j)) from by omega]
              exact hc _ (by omega)
            · rw [hl2] at hj
              rw [drop_take_getD _ _ _ _ hj, g3 _ (by omega)]
              exact hv _ (by omega)
      · cases hk
    · cases h
  · cases h

end
end Ai
