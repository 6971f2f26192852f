/- Whether a question can be asked, told; questions, as a law is handed them. -/
import Derived.Test.YtpcjhfchpelonaaGreatDoorQg2
import Derived.Test.YtpcjhfchpelonaaGreatDoorMemo
import Derived.Test.YtpcjhfchpelonaaGreatDoorAi12
import Derived.Test.YtpcjhfchpelonaaGreatDoorLx3
set_option linter.unusedSimpArgs false
set_option linter.unusedVariables false
namespace Go.Proofs.YtpcjhfchpelonaaGreatDoor
open Ai
theorem wgh_lt {f : Fil} {d w : Nat} (h : (wgh f d w).1 = true) : w + 1 ≤ 8192 := by
 cases f with | mk k nm tx kids =>
 rw [wgh] at h
 split at h
 · cases h
 · omega
def R_qchk (a : List V) (v : V) : Prop := ∀ (k : Int) (of_ : List UInt8) (f : Fil) (c : List V) (by_ : List UInt8) (dn : Bool) (sk fi : Int), a = [.agg (qC k of_ c by_ dn sk fi)] → FilR f c → v = .i .i64 (qchk k of_ f by_ dn sk fi)
theorem R_qchk_ok {k : Int} {of_ : List UInt8} {f : Fil} {c : List V} {by_ : List UInt8} {dn : Bool} {sk fi : Int} (hf : FilR f c) : R_qchk [.agg (qC k of_ c by_ dn sk fi)] (.i .i64 (qchk k of_ f by_ dn sk fi)) := by
 intro k' of' f' c' by' dn' sk' fi' e1 hf'
 simp only [List.cons.injEq, V.agg.injEq, and_true] at e1
 obtain ⟨rfl, rfl, rfl, rfl, rfl, rfl, rfl, rfl⟩ := qC_inj hf hf' e1
 rfl
noncomputable def F_qcheck : List V → Option V := pickP 8 R_qchk
noncomputable def F_rqcheck : List V → Option V := pickP 9 R_qchk
theorem o_qcheck : ∀ a v, F_qcheck a = some v → Comp tabx told 8 a v := pickP_tells
theorem o_rqcheck : ∀ a v, F_rqcheck a = some v → Comp tabx told 9 a v := pickP_tells
section
variable (k : Int) (of_ : List UInt8) (f : Fil) (c : List V) (by_ : List UInt8) (dn : Bool) (sk fi : Int)
theorem qcheck_eq (hf : FilR f c) : F_qcheck [.agg (qC k of_ c by_ dn sk fi)] = some (.i .i64 (qchk k of_ f by_ dn sk fi)) := by
 have hc : Comp tabx told 8 [.agg (qC k of_ c by_ dn sk fi)] (.i .i64 (qchk k of_ f by_ dn sk fi)) := by
  refine comp_of (kz := kz8) t_qc (fn := af8) rfl (Nat.le_of_ble_eq_true rfl) fun gl => ?_
  rw [qC_strip]
  exact w_qc k of_ f (stripL c) by_ dn sk fi (FilR.strip f c hf) gl
 obtain ⟨v, e1, r⟩ := pickP_spec (R := R_qchk) hc (R_qchk_ok hf)
 rw [r k of_ f c by_ dn sk fi rfl hf] at e1
 exact e1
theorem rqcheck_eq (hf : FilR f c) (hok : okL f) (ho : of_.length ≤ 16384) (hbl : by_.length ≤ 16384) : F_rqcheck [.agg (qC k of_ c by_ dn sk fi)] = some (.i .i64 (qchk k of_ f by_ dn sk fi)) := by
 have hc : Comp tabx told 9 [.agg (qC k of_ c by_ dn sk fi)] (.i .i64 (qchk k of_ f by_ dn sk fi)) := by
  refine comp_of (kz := kz9) t_rqc (fn := af9) rfl (Nat.le_of_ble_eq_true rfl) fun gl => ?_
  rw [qC_strip]
  exact w_rqc k of_ f (stripL c) by_ dn sk fi (FilR.strip f c hf) hok ho hbl gl
 obtain ⟨v, e1, r⟩ := pickP_spec (R := R_qchk) hc (R_qchk_ok hf)
 rw [r k of_ f c by_ dn sk fi rfl hf] at e1
 exact e1
end
/-! ### Questions, as a law is handed them -/
structure FilT (P : Program) (F I T S : TypeId) : Prop where
 f : ∃ fs : Array Field, P.underlying F = some (.struct fs) ∧ fs.toList.map Field.type = [I, T, T, S]
 i : P.underlying I = some (.int .i64)
 t : P.underlying T = some .string
 s : P.underlying S = some (.slice F)
section
variable {P : Program} {F I T S : TypeId}
theorem shape_i (h : FilT P F I T S) {x : List V} (hs : Shape P I x) : ∃ k : Int, x = [.i .i64 k] := by
 have hi := h.i
 cases hs with
 | i _ k n hu _ => rw [hi] at hu; cases hu; exact ⟨n, rfl⟩
 | b _ _ hu => rw [hi] at hu; cases hu
 | s _ _ hu _ => rw [hi] at hu; cases hu
 | sl _ _ _ _ hu _ _ => rw [hi] at hu; cases hu
 | st _ _ _ hu _ => rw [hi] at hu; cases hu
theorem shape_t (h : FilT P F I T S) {x : List V} (hs : Shape P T x) : ∃ l : List UInt8, x = [.s l] := by
 have hi := h.t
 cases hs with
 | s _ l hu _ => exact ⟨l, rfl⟩
 | b _ _ hu => rw [hi] at hu; cases hu
 | i _ _ _ hu _ => rw [hi] at hu; cases hu
 | sl _ _ _ _ hu _ _ => rw [hi] at hu; cases hu
 | st _ _ _ hu _ => rw [hi] at hu; cases hu
theorem fields4 {fs : List Field} {x : List V} {a b c d : TypeId} (hf : Fields P fs x) (hm : fs.map Field.type = [a, b, c, d]) : ∃ xa xb xc xd, x = xa ++ (xb ++ (xc ++ (xd ++ []))) ∧ Shape P a xa ∧ Shape P b xb ∧ Shape P c xc ∧ Shape P d xd := by
 cases hf with
 | nil => cases hm
 | cons f r xa ya h1 hr =>
   cases hr with
   | nil => cases hm
   | cons f2 r2 xb yb h2 hr2 =>
     cases hr2 with
     | nil => cases hm
     | cons f3 r3 xc yc h3 hr3 =>
       cases hr3 with
       | nil => cases hm
       | cons f4 r4 xd yd h4 hr4 =>
         simp only [List.map_cons, List.cons.injEq, List.map_eq_nil_iff] at hm
         obtain ⟨rfl, rfl, rfl, rfl, rfl⟩ := hm
         cases hr4
         exact ⟨xa, xb, xc, xd, rfl, h1, h2, h3, h4⟩
mutual
def vsz : V → Nat
 | .sl xs _ _ => 1 + vszL xs
 | _ => 1
def vszL : List V → Nat
 | [] => 0
 | v :: r => vsz v + vszL r
end
theorem vszL_app (a b : List V) : vszL (a ++ b) = vszL a + vszL b := by
 induction a with
 | nil => simp only [List.nil_append, vszL, Nat.zero_add]
 | cons x r ih => simp only [List.cons_append, vszL, ih, Nat.add_assoc]
theorem shape_fil (h : FilT P F I T S) : ∀ (n : Nat), (∀ x : List V, vszL x ≤ n → Shape P F x → ∃ f, FilR f x) ∧ (∀ (ys : List V) (m : Nat), vszL ys ≤ n → Shapes P F ys m → ∃ l, KidsR l ys ∧ m = l.length) := by
 intro n
 have kids : ∀ (k : Nat), (∀ x : List V, vszL x ≤ k → Shape P F x → ∃ f, FilR f x) → ∀ (m : Nat) (ys : List V), vszL ys ≤ k → Shapes P F ys m → ∃ l, KidsR l ys ∧ m = l.length := by
  intro k hk m
  induction m with
  | zero =>
    intro ys _ hs
    cases hs
    exact ⟨[], .nil, rfl⟩
  | succ m ih =>
    intro ys hv hs
    cases hs with | cons _ x ys' _ h1 h2 =>
    rw [vszL_app] at hv
    obtain ⟨f, hf⟩ := hk x (by omega) h1
    obtain ⟨l, hl, rfl⟩ := ih ys' (by omega) h2
    exact ⟨f :: l, .cons f l x ys' hf hl, rfl⟩
 induction n with
 | zero =>
   have one : ∀ x : List V, vszL x ≤ 0 → Shape P F x → ∃ f, FilR f x := by
    intro x hv hs
    obtain ⟨fs, h1, h2⟩ := h.f
    cases hs with
    | st _ fs' _ hu hf =>
      rw [h1] at hu; cases hu
      obtain ⟨xa, xb, xc, xd, rfl, s1, s2, s3, s4⟩ := fields4 hf h2
      obtain ⟨k, rfl⟩ := shape_i h s1
      simp only [List.cons_append, vszL, vsz] at hv
      omega
    | b _ _ hu => rw [h1] at hu; cases hu
    | i _ _ _ hu _ => rw [h1] at hu; cases hu
    | s _ _ hu _ => rw [h1] at hu; cases hu
    | sl _ _ _ _ hu _ _ => rw [h1] at hu; cases hu
   exact ⟨one, fun ys m hv hs => kids 0 one m ys hv hs⟩
 | succ n ih =>
   have one : ∀ x : List V, vszL x ≤ n + 1 → Shape P F x → ∃ f, FilR f x := by
    intro x hv hs
    obtain ⟨fs, h1, h2⟩ := h.f
    cases hs with
    | st _ fs' _ hu hf =>
      rw [h1] at hu; cases hu
      obtain ⟨xa, xb, xc, xd, rfl, s1, s2, s3, s4⟩ := fields4 hf h2
      obtain ⟨k, rfl⟩ := shape_i h s1
      obtain ⟨nm, rfl⟩ := shape_t h s2
      obtain ⟨tx, rfl⟩ := shape_t h s3
      have hS := h.s
      cases s4 with
      | sl _ e ys m hu hn hs' =>
        rw [hS] at hu; cases hu
        simp only [List.cons_append, List.nil_append, List.append_nil, vszL, vsz] at hv ⊢
        obtain ⟨l, hl, rfl⟩ := ih.2 ys m (by omega) hs'
        exact ⟨.mk k nm tx l, .mk k nm tx l ys _ .no rfl hl⟩
      | b _ _ hu => rw [hS] at hu; cases hu
      | i _ _ _ hu _ => rw [hS] at hu; cases hu
      | s _ _ hu _ => rw [hS] at hu; cases hu
      | st _ _ _ hu _ => rw [hS] at hu; cases hu
    | b _ _ hu => rw [h1] at hu; cases hu
    | i _ _ _ hu _ => rw [h1] at hu; cases hu
    | s _ _ hu _ => rw [h1] at hu; cases hu
    | sl _ _ _ _ hu _ _ => rw [h1] at hu; cases hu
   exact ⟨one, fun ys m hv hs => kids (n + 1) one m ys hv hs⟩
theorem shape_b {B : TypeId} (hB : P.underlying B = some .bool) {x : List V} (hs : Shape P B x) : ∃ b : Bool, x = [.b b] := by
 cases hs with
 | b _ b hu => exact ⟨b, rfl⟩
 | s _ _ hu _ => rw [hB] at hu; cases hu
 | i _ _ _ hu _ => rw [hB] at hu; cases hu
 | sl _ _ _ _ hu _ _ => rw [hB] at hu; cases hu
 | st _ _ _ hu _ => rw [hB] at hu; cases hu
theorem fields_cons {fs : List Field} {x : List V} {a : TypeId} {r : List TypeId} (hf : Fields P fs x) (hm : fs.map Field.type = a :: r) : ∃ fs' xa ya, x = xa ++ ya ∧ Shape P a xa ∧ Fields P fs' ya ∧ fs'.map Field.type = r := by
 cases hf with
 | nil => cases hm
 | cons g r' xa ya h1 hr =>
   simp only [List.map_cons, List.cons.injEq] at hm
   obtain ⟨rfl, rfl⟩ := hm
   exact ⟨r', xa, ya, rfl, h1, hr, rfl⟩
theorem fields_nil {fs : List Field} {x : List V} (hf : Fields P fs x) (hm : fs.map Field.type = []) : x = [] := by
 cases hf with
 | nil => rfl
 | cons g r' xa ya h1 hr => cases hm
theorem arg_q (h : FilT P F I T S) {Q B : TypeId} (hB : P.underlying B = some .bool) (hQ : ∃ fs : Array Field, P.underlying Q = some (.struct fs) ∧ fs.toList.map Field.type = [I, T, F, T, B, I, I]) {x : V} (hx : ArgV P Q x) :
  ∃ (k : Int) (of_ : List UInt8) (f : Fil) (c : List V) (by_ : List UInt8) (dn : Bool) (sk fi : Int), x = .agg (qC k of_ c by_ dn sk fi) ∧ FilR f c := by
 obtain ⟨fs0, h1, h2⟩ := hQ
 rcases hx with ⟨fs, xs, hu, rfl, hs⟩ | ⟨hn, _⟩
 · cases hs with
   | st _ fs' _ hu' hf =>
     rw [h1] at hu'; cases hu'
     obtain ⟨g1, x1, r1, rfl, s1, hf, m1⟩ := fields_cons hf h2
     obtain ⟨g2, x2, r2, rfl, s2, hf, m2⟩ := fields_cons hf m1
     obtain ⟨g3, x3, r3, rfl, s3, hf, m3⟩ := fields_cons hf m2
     obtain ⟨g4, x4, r4, rfl, s4, hf, m4⟩ := fields_cons hf m3
     obtain ⟨g5, x5, r5, rfl, s5, hf, m5⟩ := fields_cons hf m4
     obtain ⟨g6, x6, r6, rfl, s6, hf, m6⟩ := fields_cons hf m5
     obtain ⟨g7, x7, r7, rfl, s7, hf, m7⟩ := fields_cons hf m6
     obtain rfl := fields_nil hf m7
     obtain ⟨k, rfl⟩ := shape_i h s1
     obtain ⟨of_, rfl⟩ := shape_t h s2
     obtain ⟨f, hff⟩ := (shape_fil h (vszL x3)).1 x3 (Nat.le_refl _) s3
     obtain ⟨by_, rfl⟩ := shape_t h s4
     obtain ⟨dn, rfl⟩ := shape_b hB s5
     obtain ⟨sk, rfl⟩ := shape_i h s6
     obtain ⟨fi, rfl⟩ := shape_i h s7
     exact ⟨k, of_, f, x3, by_, dn, sk, fi, rfl, hff⟩
   | b _ _ hu' => rw [h1] at hu'; cases hu'
   | i _ _ _ hu' _ => rw [h1] at hu'; cases hu'
   | s _ _ hu' _ => rw [h1] at hu'; cases hu'
   | sl _ _ _ _ hu' _ _ => rw [h1] at hu'; cases hu'
 · exact absurd h1 (hn fs0)
end
theorem filT : FilT Tryz.prog 24 3 9 22 := ⟨⟨_, Tryz.underlying24, by kernel_rfl⟩, Tryz.underlying3, Tryz.underlying9, Tryz.underlying22⟩
end Go.Proofs.YtpcjhfchpelonaaGreatDoor
set_option linter.unusedSimpArgs false
set_option linter.unusedVariables false
namespace Go.Proofs.YtpcjhfchpelonaaGreatDoor
open Ai Go.Shelf
abbrev TK := Nat × List UInt8
def Tok.kt (t : Tok) : TK := (t.kind, t.text)
def stopB (t : List UInt8) : Prop := ∀ c r, t = c :: r → letB c.toNat = false
theorem stop_cons {c : UInt8} {r : List UInt8} (h : letB c.toNat = false) : stopB (c :: r) := fun c' r' e => by cases e; exact h
def LxF (s : List UInt8) (l : List TK) : Prop := ∀ (t : List UInt8) (k : Nat) (m : List Tok), lx t (k + s.length) = .ok m → ∃ m', lx (s ++ t) k = .ok (m' ++ m) ∧ m'.map Tok.kt = l
def LxS (s : List UInt8) (l : List TK) : Prop := ∀ (t : List UInt8) (k : Nat) (m : List Tok), stopB t → lx t (k + s.length) = .ok m → ∃ m', lx (s ++ t) k = .ok (m' ++ m) ∧ m'.map Tok.kt = l
section
variable {s s' : List UInt8} {l l' : List TK}
theorem LxF.st (h : LxF s l) : LxS s l := fun t k m _ hm => h t k m hm
theorem LxF.app (h : LxF s l) (g : LxF s' l') : LxF (s ++ s') (l ++ l') := by
 intro t k m hm
 rw [List.length_append, ← Nat.add_assoc] at hm
 obtain ⟨m1, e1, q1⟩ := g t (k + s.length) m hm
 obtain ⟨m2, e2, q2⟩ := h (s' ++ t) k (m1 ++ m) e1
 exact ⟨m2 ++ m1, by rw [List.append_assoc, e2, List.append_assoc], by rw [List.map_append, q1, q2]⟩
theorem LxF.appS (h : LxF s l) (g : LxS s' l') : LxS (s ++ s') (l ++ l') := by
 intro t k m ht hm
 rw [List.length_append, ← Nat.add_assoc] at hm
 obtain ⟨m1, e1, q1⟩ := g t (k + s.length) m ht hm
 obtain ⟨m2, e2, q2⟩ := h (s' ++ t) k (m1 ++ m) e1
 exact ⟨m2 ++ m1, by rw [List.append_assoc, e2, List.append_assoc], by rw [List.map_append, q1, q2]⟩
theorem LxS.app (h : LxS s l) (g : LxF s' l') (hs : ∀ t, stopB (s' ++ t)) : LxF (s ++ s') (l ++ l') := by
 intro t k m hm
 rw [List.length_append, ← Nat.add_assoc] at hm
 obtain ⟨m1, e1, q1⟩ := g t (k + s.length) m hm
 obtain ⟨m2, e2, q2⟩ := h (s' ++ t) k (m1 ++ m) (hs t) e1
 exact ⟨m2 ++ m1, by rw [List.append_assoc, e2, List.append_assoc], by rw [List.map_append, q1, q2]⟩
end
theorem lx_sp1 : LxF [32] [] := by
 intro t k m hm
 refine ⟨[], ?_, rfl⟩
 rw [List.singleton_append, lx_cons, if_pos rfl]
 exact hm
theorem lx_sgn (c : UInt8) (h : sgnB c.toNat = true) : LxF [c] [(4, [c])] := by
 intro t k m hm
 have h1 : c.toNat = 40 ∨ c.toNat = 41 ∨ c.toNat = 61 ∨ c.toNat = 94 ∨ c.toNat = 60 ∨ c.toNat = 62 ∨ c.toNat = 44 := by
  simp only [sgnB, Bool.or_eq_true, beq_iff_eq] at h; exact h
 have ne : ∀ d : UInt8, c = d → c.toNat = d.toNat := fun d e => by rw [e]
 have hl : letB c.toNat = false := by simp only [letB, Bool.and_eq_false_iff, decide_eq_false_iff_not]; omega
 have hd : digB c.toNat = false := by simp only [digB, Bool.and_eq_false_iff, decide_eq_false_iff_not]; omega
 refine ⟨[⟨4, [c], k⟩], ?_, rfl⟩
 rw [List.singleton_append, lx_cons, if_neg (fun e => by have := ne _ e; rw [show (32 : UInt8).toNat = 32 from rfl] at this; omega), if_neg (fun e => by have := ne _ e; rw [show (34 : UInt8).toNat = 34 from rfl] at this; omega),
  if_neg (by rw [hl]; decide), if_neg (by rw [hd]; decide), if_neg (fun e => by have := ne _ e.1; rw [show (45 : UInt8).toNat = 45 from rfl] at this; omega), if_pos h]
 have hm : lx t (k + 1) = .ok m := hm
 rw [hm]; rfl
theorem wh_all {p : Nat → Bool} {t : List UInt8} (ht : ∀ c r, t = c :: r → p c.toNat = false) : ∀ r : List UInt8, (r.all fun c => p c.toNat) = true → wh p (r ++ t) = r.length := by
 intro r
 induction r with
 | nil =>
   intro _
   cases t with
   | nil => rfl
   | cons c u => rw [List.nil_append, wh, ht c u rfl]; rfl
 | cons a r ih =>
   intro h
   rw [List.all_cons, Bool.and_eq_true] at h
   rw [List.cons_append, wh, h.1, cond_true, ih h.2, List.length_cons]
theorem lx_word (w : List UInt8) (hne : w ≠ []) (ha : (w.all fun c => letB c.toNat) = true) : LxS w [(1, w)] := by
 intro t k m ht hm
 cases w with
 | nil => exact absurd rfl hne
 | cons a r =>
   rw [List.all_cons, Bool.and_eq_true] at ha
   have hr := wh_all ht r ha.2
   have hl := ha.1
   simp only [letB, Bool.and_eq_true, decide_eq_true_eq] at hl
   have ne : ∀ d : UInt8, a = d → a.toNat = d.toNat := fun d e => by rw [e]
   refine ⟨[⟨1, a :: r, k⟩], ?_, rfl⟩
   rw [List.cons_append, lx_cons, if_neg (fun e => by have := ne _ e; rw [show (32 : UInt8).toNat = 32 from rfl] at this; omega), if_neg (fun e => by have := ne _ e; rw [show (34 : UInt8).toNat = 34 from rfl] at this; omega), if_pos ha.1, hr,
    List.drop_left, List.take_left]
   rw [List.length_cons, show k + (r.length + 1) = k + 1 + r.length by omega] at hm
   rw [hm]; rfl
theorem lx_quo (l : List UInt8) : LxF (quoteV l) [(2, txt l)] := by
 intro t k m hm
 refine ⟨[⟨2, txt l, k⟩], ?_, rfl⟩
 unfold quoteV at hm ⊢
 have e : 34 :: ((rns l).flatMap qt ++ [34]) ++ t = 34 :: ((rns l).flatMap qt ++ 34 :: t) := by simp
 have hq := qscan_quote (rns l) (rns_oks l) t [] 1
 rw [e, lx_cons, if_neg (by decide), if_pos rfl, hq]
 dsimp only
 have e2 : ((rns l).flatMap qt ++ 34 :: t).drop (1 + ((rns l).flatMap qt).length + 1 - 1) = t := by
  rw [show 1 + ((rns l).flatMap qt).length + 1 - 1 = ((rns l).flatMap qt).length + 1 by omega, ← List.drop_drop, List.drop_left]; rfl
 rw [e2]
 simp only [List.length_cons, List.length_append, List.length_nil] at hm
 rw [show k + (1 + ((rns l).flatMap qt).length + 1) = k + (((rns l).flatMap qt).length + (0 + 1) + 1) by omega, hm, List.nil_append]
 rfl
theorem txt_plain (l : List UInt8) : (rns l).all plain = true → txt l = l := by
 induction l using rune_ind with
 | h0 => intro _; simp [txt, rns_nil]
 | h1 a r ih =>
   intro h
   rw [rns_cons, List.all_cons, Bool.and_eq_true] at h
   have hb : ¬ ((dec (a :: r)).1 = 65533 ∧ (dec (a :: r)).2 = 1) := by
    intro hh
    have := h.1
    rw [hh.1] at this
    exact absurd this (by decide)
   have := ih h.2
   unfold txt at this ⊢
   rw [rns_cons, List.flatMap_cons, this, enc_dec hb, List.take_append_drop]
theorem val_txt {l : List UInt8} (h : valB l = true) : txt l = l := by
 unfold valB allV at h
 simp only [Bool.and_eq_true] at h
 exact txt_plain l h.2.2
theorem key_txt {l : List UInt8} (h : keyB l = true) : txt l = l := by
 unfold keyB allV at h
 simp only [Bool.and_eq_true] at h
 exact txt_plain l h.2.2
theorem nam_word {l : List UInt8} (h : namB l = true) : LxS l [(1, l)] := by
 have h' : nameV l = true := by rw [← name_eq]; exact h
 unfold nameV at h'
 simp only [Bool.and_eq_true, decide_eq_true_eq] at h'
 refine lx_word l (fun e => by rw [e] at h'; simp at h') ?_
 refine List.all_eq_true.2 fun c hc => ?_
 have := List.all_eq_true.1 h'.2.2 c hc
 unfold az at this
 simp only [Bool.and_eq_true, decide_eq_true_eq] at this
 simp only [letB, Bool.and_eq_true, decide_eq_true_eq]
 omega
/-! ### The tokens of a filter -/
def tjoin : List (List TK) → TK → List TK
 | [], _ => []
 | x :: r, s => x ++ r.flatMap fun y => s :: y
def wAnd : List UInt8 := [97, 110, 100]
def wOr : List UInt8 := [111, 114]
mutual
def tkF : Fil → List TK
 | .mk k nm tx kids =>
   if k = 0 then [(1, [97, 108, 108])] else if k = 1 then [(1, [107, 101, 121]), (4, [94]), (2, tx)] else if k = 2 then [(1, nm), (4, [61]), (2, tx)] else if k = 3 then [(1, [112, 117, 116])] else
   if k = 4 then (1, [110, 111, 116]) :: (tkW kids 3).headD [] else
   if 1 < kids.length then tjoin (tkW kids (if k = 5 then 3 else 2)) (if k = 5 then (1, wAnd) else (1, wOr)) else
   (if k = 5 then (1, [101, 97, 99, 104]) else (1, [97, 110, 121])) :: (4, [40]) :: (tjoin (tkL kids) (4, [44]) ++ [(4, [41])])
def tkW : List Fil → Nat → List (List TK)
 | [], _ => []
 | f :: r, b => (if bindF f < b then (4, [40]) :: (tkF f ++ [(4, [41])]) else tkF f) :: tkW r b
def tkL : List Fil → List (List TK)
 | [] => []
 | f :: r => tkF f :: tkL r
end
def tkWi (f : Fil) (b : Nat) : List TK := if bindF f < b then (4, [40]) :: (tkF f ++ [(4, [41])]) else tkF f
theorem tkW_one (f : Fil) (b : Nat) : tkW [f] b = [tkWi f b] := by rw [tkW, tkW]; rfl
theorem tkW_cons (f : Fil) (r : List Fil) (b : Nat) : tkW (f :: r) b = tkWi f b :: tkW r b := by rw [tkW]; rfl
theorem tellW_cons (f : Fil) (r : List Fil) (b : Nat) : tellW (f :: r) b = withinF f b :: tellW r b := by rw [tellW]; rfl
theorem within_lx {f : Fil} {b : Nat} (h : LxS (tellF f) (tkF f)) : LxS (withinF f b) (tkWi f b) := by
 unfold withinF tkWi
 split
 · have h1 := h.app (lx_sgn 41 (by decide)) (fun t => stop_cons (by decide))
   have h2 := (lx_sgn 40 (by decide)).app h1
   have e : [40] ++ tellF f ++ [41] = [40] ++ (tellF f ++ [41]) := List.append_assoc _ _ _
   rw [e]
   exact h2.st
 · exact h
theorem join_lx {kids : List Fil} (h : ∀ f ∈ kids, LxS (tellF f) (tkF f)) (b : Nat) {sep : List UInt8} {x : TK} (hs : LxF sep [x]) (hst : ∀ t, stopB (sep ++ t)) (hne : kids ≠ []) : LxS (Lib.join (tellW kids b) sep) (tjoin (tkW kids b) x) := by
 induction kids with
 | nil => exact absurd rfl hne
 | cons f r ih =>
   have h1 := within_lx (b := b) (h f (by simp))
   cases r with
   | nil =>
     rw [tellW_one, tkW_one, Lib.join_one, tjoin, List.flatMap_nil, List.append_nil]
     exact h1
   | cons g r =>
     have h2 := ih (fun f hf => h f (by simp [hf])) (by simp)
     rw [tellW_cons, tkW_cons]
     have e1 : Lib.join (withinF f b :: tellW (g :: r) b) sep = withinF f b ++ sep ++ Lib.join (tellW (g :: r) b) sep := by
      rw [tellW_cons]; simp [Lib.join, List.intercalate]
     have e2 : tjoin (tkWi f b :: tkW (g :: r) b) x = tkWi f b ++ [x] ++ tjoin (tkW (g :: r) b) x := by
      rw [tkW_cons]; simp [tjoin]
     rw [e1, e2]
     exact (h1.app hs hst).appS h2
theorem sp_word (w : List UInt8) (hne : w ≠ []) (ha : (w.all fun c => letB c.toNat) = true) : LxF ([32] ++ w ++ [32]) [(1, w)] := by
 have h1 := lx_sp1.appS (lx_word w hne ha)
 have h2 := h1.app lx_sp1 (fun t => stop_cons (by decide))
 simpa using h2
theorem word_sp (w : List UInt8) (hne : w ≠ []) (ha : (w.all fun c => letB c.toNat) = true) : LxF (w ++ [32]) [(1, w)] := by
 have h2 := (lx_word w hne ha).app lx_sp1 (fun t => stop_cons (by decide))
 simpa using h2
theorem tell_lx : ∀ (n : Nat) (f : Fil) (d : Nat), cnt f ≤ n → Fine f d → LxS (tellF f) (tkF f) := by
 intro n
 induction n with
 | zero => intro f d h; cases f; rw [cnt] at h; omega
 | succ n ih =>
   intro f d hn hfi
   cases f with | mk k nm tx kids =>
   rw [cnt] at hn
   have hm := hfi.may.1
   have hkids : ∀ g ∈ kids, LxS (tellF g) (tkF g) := by
    intro g hg
    obtain ⟨pre, post, e⟩ := List.append_of_mem hg
    have hc : cnts kids = cnts pre + (cnt g + cnts post) := by rw [e, cnts_app, cnts]
    exact ih g (d + 1) (by omega) (hfi.kid pre g post e)
   obtain ⟨q1, q2, q3⟩ := may_kind hm
   rw [tellF, tkF]
   by_cases k0 : k = 0
   · rw [if_pos k0, if_pos k0]; exact lx_word _ (by simp) (by decide)
   · rw [if_neg k0, if_neg k0]
     by_cases k1 : k = 1
     · rw [if_pos k1, if_pos k1]
       have hk : keyB tx = true := by
        unfold mayB at hm
        rw [if_neg (by omega), if_pos k1] at hm
        simp only [Bool.and_eq_true] at hm
        exact hm.2.2
       have h1 := (word_sp [107, 101, 121] (by simp) (by decide)).app ((lx_sgn 94 (by decide)).app lx_sp1)
       have h2 := h1.app (lx_quo tx)
       rw [key_txt hk] at h2
       exact h2.st
     · rw [if_neg k1, if_neg k1]
       by_cases k2 : k = 2
       · rw [if_pos k2, if_pos k2]
         have hk : namB nm = true ∧ valB tx = true := by
          unfold mayB at hm
          rw [if_neg (by omega), if_neg k1, if_pos k2] at hm
          simp only [Bool.and_eq_true] at hm
          exact hm.2
         have h1 := (nam_word hk.1).app (lx_sp1.app ((lx_sgn 61 (by decide)).app lx_sp1)) (fun t => stop_cons (by decide))
         have h2 := h1.app (lx_quo tx)
         rw [val_txt hk.2] at h2
         exact h2.st
       · rw [if_neg k2, if_neg k2]
         by_cases k3 : k = 3
         · rw [if_pos k3, if_pos k3]; exact lx_word _ (by simp) (by decide)
         · rw [if_neg k3, if_neg k3]
           by_cases k4 : k = 4
           · rw [if_pos k4, if_pos k4]
             obtain ⟨g, rfl⟩ : ∃ g, kids = [g] := by
              match kids, q3 k4 with
              | [g], _ => exact ⟨g, rfl⟩
             rw [tellW_one, tkW_one]
             exact (word_sp [110, 111, 116] (by simp) (by decide)).appS (within_lx (hkids g (by simp)))
           · rw [if_neg k4, if_neg k4]
             by_cases hl : 1 < kids.length
             · rw [if_pos hl, if_pos hl]
               by_cases k5 : k = 5
               · simp only [if_pos k5]
                 exact join_lx hkids 3 (sp_word [97, 110, 100] (by simp) (by decide)) (fun t => stop_cons (by decide)) (by intro e; rw [e] at hl; simp at hl)
               · simp only [if_neg k5]
                 exact join_lx hkids 2 (sp_word [111, 114] (by simp) (by decide)) (fun t => stop_cons (by decide)) (by intro e; rw [e] at hl; simp at hl)
             · rw [if_neg hl, if_neg hl]
               have hin : LxS (Lib.join (tellL kids) [44, 32]) (tjoin (tkL kids) (4, [44])) := by
                match kids, hkids, hl with
                | [], _, _ =>
                  rw [tellL, tkL, Lib.join_nil, tjoin]
                  intro t k m _ h; exact ⟨[], h, rfl⟩
                | [g], hk, _ =>
                  rw [tellL, tellL, tkL, tkL, Lib.join_one, tjoin, List.flatMap_nil, List.append_nil]
                  exact hk g (by simp)
                | _ :: _ :: _, _, h => exact absurd (by simp) h
               have h2 := hin.app (lx_sgn 41 (by decide)) (fun t => stop_cons (by decide))
               by_cases k5 : k = 5
               · simp only [if_pos k5]
                 have h1 := (lx_word [101, 97, 99, 104] (by simp) (by decide)).app (lx_sgn 40 (by decide)) (fun t => stop_cons (by decide))
                 have h3 := h1.app h2
                 rw [← List.append_assoc] at h3
                 exact h3.st
               · simp only [if_neg k5]
                 have h1 := (lx_word [97, 110, 121] (by simp) (by decide)).app (lx_sgn 40 (by decide)) (fun t => stop_cons (by decide))
                 have h3 := h1.app h2
                 rw [← List.append_assoc] at h3
                 exact h3.st
def At (ts : List Tok) (a : Nat) (l : List TK) : Prop := ∀ i x, l[i]? = some x → ∃ t, ts[a + i]? = some t ∧ t.kt = x
section
variable {ts : List Tok} {e : Nat}
theorem At.tail {a : Nat} {x : TK} {l : List TK} (h : At ts a (x :: l)) : At ts (a + 1) l := fun i y hy => by
 obtain ⟨t, h1, h2⟩ := h (i + 1) y (by simpa using hy)
 exact ⟨t, by rw [← h1]; congr 1; omega, h2⟩
theorem At.left {a : Nat} {l m : List TK} (h : At ts a (l ++ m)) : At ts a l := fun i y hy => by
 have hi := (List.getElem?_eq_some_iff.1 hy).1
 exact h i y (by rw [List.getElem?_append_left hi]; exact hy)
theorem At.right {a : Nat} {l m : List TK} (h : At ts a (l ++ m)) : At ts (a + l.length) m := fun i y hy => by
 obtain ⟨t, h1, h2⟩ := h (l.length + i) y (by rw [List.getElem?_append_right (by omega)]; simpa using hy)
 exact ⟨t, by rw [← h1]; congr 1; omega, h2⟩
theorem At.tok {a : Nat} {x : TK} {l : List TK} (h : At ts a (x :: l)) (e : Nat) : (tokAt ts e a).kind = x.1 ∧ (tokAt ts e a).text = x.2 := by
 obtain ⟨t, h1, h2⟩ := h 0 x rfl
 unfold tokAt
 rw [Nat.add_zero] at h1
 rw [h1, Option.getD_some, ← h2]
 exact ⟨rfl, rfl⟩
theorem At.isT {a : Nat} {x : TK} {l : List TK} (h : At ts a (x :: l)) (e : Nat) (w : List UInt8) : isT ts e a w = (decide (x.1 = 4) && decide (x.2 = w)) := by
 unfold Go.Proofs.YtpcjhfchpelonaaGreatDoor.isT
 rw [(h.tok e).1, (h.tok e).2, strEq_dec]
theorem At.isW {a : Nat} {x : TK} {l : List TK} (h : At ts a (x :: l)) (e : Nat) (w : List UInt8) : isW ts e a w = (decide (x.1 = 1) && decide (x.2 = w)) := by
 unfold Go.Proofs.YtpcjhfchpelonaaGreatDoor.isW
 rw [(h.tok e).1, (h.tok e).2, strEq_dec]
def Pr (ts : List Tok) (e : Nat) (q : PQ) (a : Nat) (r : PR) : Prop := ∃ n, P ts e n q a = some r
theorem P_suc (n : Nat) (q : PQ) (a : Nat) : P ts e (n + 1) q a = pstep ts e (P ts e n) q a := rfl
theorem Pr.parse3 {deep a : Nat} {r : PR} (hd : deep ≤ 40) (h : Pr ts e (.unary deep) a r) : Pr ts e (.parse 3 deep) a r := by
 obtain ⟨n, h⟩ := h
 refine ⟨n + 1, ?_⟩
 rw [P_suc]
 simp only [pstep]
 rw [if_neg (by omega), if_pos (by decide)]
 exact h
theorem Pr.lift {b deep a : Nat} {r : PR} (hb : b ≤ 2) (hd : deep ≤ 40) (h : Pr ts e (.parse (b + 1) deep) a r) (hw : isW ts e r.2.2 (wordOf b) = false) : Pr ts e (.parse b deep) a r := by
 obtain ⟨n, h⟩ := h
 refine ⟨n + 1, ?_⟩
 rw [P_suc]
 simp only [pstep]
 rw [if_neg (by omega), if_neg (by omega), h, Option.bind_some, if_pos (.inr hw)]
theorem Pr.many {b deep a a1 : Nat} {f : Fil} {r : PR} (hb : b ≤ 2) (hd : deep ≤ 40) (h : Pr ts e (.parse (b + 1) deep) a (f, 0, a1)) (hw : isW ts e a1 (wordOf b) = true) (k : Pr ts e (.more b deep [f]) a1 r) : Pr ts e (.parse b deep) a r := by
 obtain ⟨n, h⟩ := h
 obtain ⟨m, k⟩ := k
 refine ⟨max n m + 1, ?_⟩
 rw [P_suc]
 simp only [pstep]
 rw [if_neg (by omega), if_neg (by omega), P_mono (Nat.le_max_left n m) h, Option.bind_some, if_neg (by simp [hw])]
 exact P_mono (Nat.le_max_right n m) k
theorem Pr.moreEnd {b deep a : Nat} {acc : List Fil} (hw : isW ts e a (wordOf b) = false) : Pr ts e (.more b deep acc) a (.mk (kindOf b) [] [] acc, 0, a) := by
 refine ⟨1, ?_⟩
 rw [P_suc]
 simp only [pstep]
 rw [if_pos hw]
theorem Pr.moreNext {b deep a a1 : Nat} {acc : List Fil} {f : Fil} {r : PR} (hw : isW ts e a (wordOf b) = true) (h : Pr ts e (.parse (b + 1) deep) (a + 1) (f, 0, a1)) (k : Pr ts e (.more b deep (acc ++ [f])) a1 r) : Pr ts e (.more b deep acc) a r := by
 obtain ⟨n, h⟩ := h
 obtain ⟨m, k⟩ := k
 refine ⟨max n m + 1, ?_⟩
 rw [P_suc]
 simp only [pstep]
 rw [if_neg (by simp [hw]), P_mono (Nat.le_max_left n m) h, Option.bind_some, if_neg (by simp)]
 exact P_mono (Nat.le_max_right n m) k
theorem Pr.word {deep a a1 : Nat} {f : Fil} (hk : (tokAt ts e a).kind = 1) (hn : isT ts e (a + 1) [61] = false) (h : Pr ts e (.word deep) a (f, 0, a1)) : Pr ts e (.unary deep) a (f, 0, a1) := by
 obtain ⟨n, h⟩ := h
 refine ⟨n + 1, ?_⟩
 have h1 : isF ts e a = false := by unfold isF; rw [hn, Bool.and_false]
 have h2 : isT ts e a [40] = false := by unfold isT; rw [hk]; rfl
 rw [P_suc]
 simp only [pstep]
 rw [if_neg (by simp [h1]), if_neg (by simp [h2]), if_neg (by simp [hk]), h, Option.bind_some, if_neg (by simp)]
theorem Pr.paren {deep a a1 : Nat} {f : Fil} (h0 : isF ts e a = false) (h1 : isT ts e a [40] = true) (h : Pr ts e (.parse 1 (deep + 1)) (a + 1) (f, 0, a1)) (h2 : isT ts e a1 [41] = true) : Pr ts e (.unary deep) a (f, 0, a1 + 1) := by
 obtain ⟨n, h⟩ := h
 refine ⟨n + 1, ?_⟩
 rw [P_suc]
 simp only [pstep]
 rw [if_neg (by simp [h0]), if_pos h1, h, Option.bind_some, if_neg (by simp), if_pos h2]
def Stp (ts : List Tok) (e a b : Nat) : Prop := isT ts e a [61] = false ∧ ∀ c, b ≤ c → c ≤ 2 → isW ts e a (wordOf c) = false
theorem Stp.le {a b c : Nat} (h : Stp ts e a b) (hc : b ≤ c) : Stp ts e a c := ⟨h.1, fun x h1 h2 => h.2 x (by omega) h2⟩
theorem stp_close {a b : Nat} {l : List TK} (h : At ts a ((4, [41]) :: l)) : Stp ts e a b := ⟨by rw [h.isT e]; rfl, fun c _ _ => by rw [h.isW e]; rfl⟩
theorem stp_word {a b : Nat} {l : List TK} (hb : b = 1 ∨ b = 2) (h : At ts a ((1, wordOf b) :: l)) : Stp ts e a (b + 1) := ⟨by rw [h.isT e]; rfl, fun c h1 h2 => by
 rw [h.isW e]
 have : b = 1 ∧ c = 2 := by omega
 obtain ⟨rfl, rfl⟩ := this
 rfl⟩
theorem Pr.down {b c deep a : Nat} {r : PR} (hd : deep ≤ 40) (h : Pr ts e (.parse c deep) a r) (h1 : 1 ≤ b) (h2 : b ≤ c) (h3 : c ≤ 3) (hs : Stp ts e r.2.2 b) : Pr ts e (.parse b deep) a r := by
 obtain ⟨k, rfl⟩ : ∃ k, c = b + k := ⟨c - b, by omega⟩
 clear h2
 induction k generalizing b with
 | zero => exact h
 | succ k ih =>
   have := ih (b := b + 1) (by omega) (hs.le (by omega)) (by rw [show b + 1 + k = b + (k + 1) by omega]; exact h) (by omega)
   exact this.lift (by omega) hd (hs.2 b (Nat.le_refl _) (by omega))
structure Back (ts : List Tok) (e : Nat) (f : Fil) (d : Nat) : Prop where
 pu : bindF f = 3 → ∀ a deep, At ts a (tkF f) → isT ts e (a + (tkF f).length) [61] = false → deep ≤ 2 * d → Pr ts e (.unary deep) a (f, 0, a + (tkF f).length)
 pt : ∀ a deep b, At ts a (tkF f) → Stp ts e (a + (tkF f).length) b → 1 ≤ b → b ≤ bindF f → deep ≤ 2 * d → Pr ts e (.parse b deep) a (f, 0, a + (tkF f).length)
theorem bindF_ge (f : Fil) : 1 ≤ bindF f := by
 cases f with | mk k nm tx kids =>
 unfold bindF
 repeat' split
 all_goals omega
theorem Back.wu {f : Fil} {d : Nat} (h : Back ts e f d) {a deep : Nat} (ha : At ts a (tkWi f 3)) (hs : isT ts e (a + (tkWi f 3).length) [61] = false) (hd : deep + 1 ≤ 2 * d) : Pr ts e (.unary deep) a (f, 0, a + (tkWi f 3).length) := by
 unfold tkWi at ha hs ⊢
 by_cases hb : bindF f < 3
 · rw [if_pos hb] at ha hs ⊢
   have h1 := ha.tail
   have h2 := h1.right
   have := h.pt (a + 1) (deep + 1) 1 h1.left (stp_close h2) (Nat.le_refl _) (bindF_ge f) hd
   have := Pr.paren (by unfold isF; rw [(ha.tok e).1]; rfl) (by rw [ha.isT e]; rfl) this (by rw [h2.isT e]; rfl)
   rw [List.length_cons, List.length_append, List.length_cons, List.length_nil, show a + ((tkF f).length + (0 + 1) + 1) = a + 1 + (tkF f).length + 1 by omega]
   exact this
 · rw [if_neg hb] at ha hs ⊢
   have := bindF_le f
   exact h.pu (by omega) a deep ha hs (by omega)
theorem Back.wi {f : Fil} {d : Nat} (h : Back ts e f d) {a deep b : Nat} (ha : At ts a (tkWi f b)) (hs : Stp ts e (a + (tkWi f b).length) b) (h1 : 1 ≤ b) (h3 : b ≤ 3) (hd : deep + 1 ≤ 2 * d) (h40 : deep ≤ 40) : Pr ts e (.parse b deep) a (f, 0, a + (tkWi f b).length) := by
 unfold tkWi at ha hs ⊢
 by_cases hb : bindF f < b
 · rw [if_pos hb] at ha hs ⊢
   have e3 : tkWi f 3 = (4, [40]) :: (tkF f ++ [(4, [41])]) := by unfold tkWi; rw [if_pos (by omega)]
   have := h.wu (a := a) (deep := deep) (by rw [e3]; exact ha) (by rw [e3]; exact hs.1) hd
   rw [e3] at this
   exact (this.parse3 h40).down h40 h1 h3 (Nat.le_refl _) hs
 · rw [if_neg hb] at ha hs ⊢
   exact h.pt a deep b ha hs h1 (by omega) (by omega)
theorem more_all {b deep d : Nat} (hb : b = 1 ∨ b = 2) (hd : deep + 1 ≤ 2 * d) (h40 : deep ≤ 40) : ∀ (post acc : List Fil) (a : Nat), (∀ g ∈ post, Back ts e g d) → At ts a ((tkW post (b + 1)).flatMap fun y => (1, wordOf b) :: y) → Stp ts e (a + ((tkW post (b + 1)).flatMap fun y => (1, wordOf b) :: y).length) b →
  Pr ts e (.more b deep acc) a (.mk (kindOf b) [] [] (acc ++ post), 0, a + ((tkW post (b + 1)).flatMap fun y => (1, wordOf b) :: y).length) := by
 intro post
 induction post with
 | nil =>
   intro acc a _ _ hs
   rw [tkW, List.flatMap_nil, List.length_nil, Nat.add_zero] at hs ⊢
   rw [List.append_nil]
   exact Pr.moreEnd (hs.2 b (Nat.le_refl _) (by omega))
 | cons g r ih =>
   intro acc a hB ha hs
   rw [tkW_cons, List.flatMap_cons] at ha hs ⊢
   have h1 := ha.left
   have h2 := ha.right
   rw [List.length_append, List.length_cons] at hs ⊢
   rw [List.length_cons] at h2
   have hw : isW ts e a (wordOf b) = true := by rw [h1.isW e]; simp
   have hst : Stp ts e (a + 1 + (tkWi g (b + 1)).length) (b + 1) := by
    cases r with
    | nil =>
      rw [tkW, List.flatMap_nil, List.length_nil, Nat.add_zero, show a + ((tkWi g (b + 1)).length + 1) = a + 1 + (tkWi g (b + 1)).length by omega] at hs
      exact hs.le (by omega)
    | cons g2 r2 =>
      rw [tkW_cons, List.flatMap_cons, List.cons_append] at h2
      rw [show a + 1 + (tkWi g (b + 1)).length = a + ((tkWi g (b + 1)).length + 1) by omega]
      exact stp_word hb h2
   have hp := (hB g (by simp)).wi (deep := deep) h1.tail hst (by omega) (by omega) hd h40
   rw [show a + 1 + (tkWi g (b + 1)).length = a + ((tkWi g (b + 1)).length + 1) by omega] at hp
   have := ih (acc ++ [g]) (a + ((tkWi g (b + 1)).length + 1)) (fun x hx => hB x (by simp [hx])) h2 (by rw [Nat.add_assoc]; exact hs)
   rw [List.append_assoc, Nat.add_assoc] at this
   exact Pr.moreNext hw hp this
theorem kids_back {kids : List Fil} {b deep d : Nat} (hb : b = 1 ∨ b = 2) (hd : deep + 1 ≤ 2 * d) (h40 : deep ≤ 40) (hk : 1 < kids.length) (hB : ∀ g ∈ kids, Back ts e g d) {a : Nat} (ha : At ts a (tjoin (tkW kids (b + 1)) (1, wordOf b))) (hs : Stp ts e (a + (tjoin (tkW kids (b + 1)) (1, wordOf b)).length) b) :
  Pr ts e (.parse b deep) a (.mk (kindOf b) [] [] kids, 0, a + (tjoin (tkW kids (b + 1)) (1, wordOf b)).length) := by
 match kids, hk with
 | g :: g2 :: r, _ =>
   rw [tkW_cons, tjoin] at ha hs ⊢
   have h1 := ha.left
   have h2 := ha.right
   rw [List.length_append, ← Nat.add_assoc] at hs ⊢
   have h3 := h2
   rw [tkW_cons, List.flatMap_cons, List.cons_append] at h3
   have hp := (hB g (by simp)).wi (deep := deep) h1 (stp_word hb h3) (by omega) (by omega) hd h40
   have hm := more_all hb hd h40 (g2 :: r) [g] _ (fun x hx => hB x (by simp [hx])) h2 hs
   exact Pr.many (by omega) h40 hp (by rw [h3.isW e]; simp) hm
 | [], h => simp at h
 | [_], h => simp at h
end
theorem may_cases {k : Int} {nm tx : List UInt8} {n : Nat} (h : mayB k nm tx n = true) :
  (k = 0 ∧ nm = [] ∧ tx = [] ∧ n = 0) ∨ (k = 1 ∧ nm = [] ∧ n = 0) ∨ (k = 2 ∧ n = 0) ∨ (k = 3 ∧ nm = [] ∧ tx = [] ∧ n = 0) ∨ (k = 4 ∧ nm = [] ∧ tx = [] ∧ n = 1) ∨ ((k = 5 ∨ k = 6) ∧ nm = [] ∧ tx = []) := by
 unfold mayB at h
 split at h
 · rename_i hk
   simp only [Bool.and_eq_true, decide_eq_true_eq] at h
   rcases hk with hk | hk
   · exact .inl ⟨hk, h.2.1, h.2.2, h.1⟩
   · exact .inr (.inr (.inr (.inl ⟨hk, h.2.1, h.2.2, h.1⟩)))
 · split at h
   · rename_i hk
     simp only [Bool.and_eq_true, decide_eq_true_eq] at h
     exact .inr (.inl ⟨hk, h.2.1, h.1⟩)
   · split at h
     · rename_i hk
       simp only [Bool.and_eq_true, decide_eq_true_eq] at h
       exact .inr (.inr (.inl ⟨hk, h.1⟩))
     · split at h
       · rename_i hk
         simp only [Bool.and_eq_true, decide_eq_true_eq] at h
         exact .inr (.inr (.inr (.inr (.inl ⟨hk, h.1, h.2.1, h.2.2⟩))))
       · split at h
         · rename_i hk
           simp only [Bool.and_eq_true, decide_eq_true_eq] at h
           exact .inr (.inr (.inr (.inr (.inr ⟨hk, h.1, h.2⟩))))
         · cases h
section
variable {ts : List Tok} {e : Nat}
theorem isF_of {a : Nat} {x y : TK} {l : List TK} (h : At ts a (x :: y :: l)) : isF ts e a = (decide (x.1 = 1) && (decide (y.1 = 4) && decide (y.2 = [61]))) := by
 unfold isF
 rw [(h.tok e).1, h.tail.isT e]
theorem tkF_head {f : Fil} {d : Nat} (h : Fine f d) : ∃ x l, tkF f = x :: l ∧ (x.1 = 1 ∨ x = (4, [40])) := by
 induction hn : cnt f using Nat.strongRecOn generalizing f d with
 | ind n ih =>
   cases f with | mk k nm tx kids =>
   rw [cnt] at hn
   rw [tkF]
   repeat' split
   all_goals first
    | exact ⟨_, _, rfl, .inl rfl⟩
    | skip
   all_goals
    match kids, ‹1 < kids.length›, hn, h with
    | g :: g2 :: r, _, hn, h =>
      rw [tkW_cons, tjoin]
      rw [cnts] at hn
      obtain ⟨x, l, e1, e2⟩ := ih (cnt g) (by omega) (h.kid [] g (g2 :: r) rfl) rfl
      unfold tkWi
      split
      · exact ⟨_, _, rfl, .inr rfl⟩
      · exact ⟨x, _, by rw [e1]; rfl, e2⟩
theorem back_all : ∀ (n : Nat) (f : Fil) (d : Nat), cnt f ≤ n → Fine f d → Back ts e f d := by
 intro n
 induction n with
 | zero => intro f d h; cases f; rw [cnt] at h; omega
 | succ n ih =>
   intro f d hn hfi
   cases f with | mk k nm tx kids =>
   rw [cnt] at hn
   have hm := hfi.may.1
   have hd6 := hfi.may.2.1
   have hkids : ∀ g ∈ kids, Back ts e g (d + 1) := by
    intro g hg
    obtain ⟨pre, post, e1⟩ := List.append_of_mem hg
    have hc : cnts kids = cnts pre + (cnt g + cnts post) := by rw [e1, cnts_app, cnts]
    exact ih g (d + 1) (by omega) (hfi.kid pre g post e1)
   have hpu : bindF (.mk k nm tx kids) = 3 → ∀ a deep, At ts a (tkF (.mk k nm tx kids)) → isT ts e (a + (tkF (.mk k nm tx kids)).length) [61] = false → deep ≤ 2 * d → Pr ts e (.unary deep) a (.mk k nm tx kids, 0, a + (tkF (.mk k nm tx kids)).length) := by
    intro hb a deep ha hs hdp
    rcases may_cases hm with ⟨rfl, rfl, rfl, hl⟩ | ⟨rfl, rfl, hl⟩ | ⟨rfl, hl⟩ | ⟨rfl, rfl, rfl, hl⟩ | ⟨rfl, rfl, rfl, hl⟩ | ⟨hk, rfl, rfl⟩
    · obtain rfl := List.eq_nil_of_length_eq_zero hl
      have et : tkF (.mk 0 [] [] []) = [(1, [97, 108, 108])] := by rw [tkF, if_pos rfl]
      rw [et] at ha hs ⊢
      refine Pr.word (ha.tok e).1 hs ⟨1, ?_⟩
      rw [P_suc]
      simp only [pstep]
      rw [if_pos (ha.tok e).2]
      rfl
    · obtain rfl := List.eq_nil_of_length_eq_zero hl
      have et : tkF (.mk 1 [] tx []) = [(1, [107, 101, 121]), (4, [94]), (2, tx)] := by rw [tkF, if_neg (by decide), if_pos rfl]
      rw [et] at ha hs ⊢
      refine Pr.word (ha.tok e).1 (by rw [ha.tail.isT e]; rfl) ⟨1, ?_⟩
      rw [P_suc]
      simp only [pstep]
      rw [(ha.tok e).2]
      rw [if_neg (by decide), if_neg (by decide), if_neg (by decide), if_pos rfl, if_pos (by rw [ha.tail.isT e]; rfl), if_pos (ha.tail.tail.tok e).1, (ha.tail.tail.tok e).2]
      rfl
    · obtain rfl := List.eq_nil_of_length_eq_zero hl
      have et : tkF (.mk 2 nm tx []) = [(1, nm), (4, [61]), (2, tx)] := by rw [tkF, if_neg (by decide), if_neg (by decide), if_pos rfl]
      rw [et] at ha hs ⊢
      refine ⟨1, ?_⟩
      rw [P_suc]
      simp only [pstep]
      rw [if_pos (by rw [isF_of ha]; rfl), if_pos (ha.tail.tail.tok e).1, (ha.tok e).2, (ha.tail.tail.tok e).2]
      rfl
    · obtain rfl := List.eq_nil_of_length_eq_zero hl
      have et : tkF (.mk 3 [] [] []) = [(1, [112, 117, 116])] := by rw [tkF, if_neg (by decide), if_neg (by decide), if_neg (by decide), if_pos rfl]
      rw [et] at ha hs ⊢
      refine Pr.word (ha.tok e).1 hs ⟨1, ?_⟩
      rw [P_suc]
      simp only [pstep]
      rw [(ha.tok e).2]
      rw [if_neg (by decide), if_pos rfl]
      rfl
    · obtain ⟨g, rfl⟩ : ∃ g, kids = [g] := by
       match kids, hl with
       | [g], _ => exact ⟨g, rfl⟩
      have et : tkF (.mk 4 [] [] [g]) = (1, [110, 111, 116]) :: tkWi g 3 := by rw [tkF, if_neg (by decide), if_neg (by decide), if_neg (by decide), if_neg (by decide), if_pos rfl, tkW_one, List.headD_cons]
      rw [et] at ha hs ⊢
      rw [List.length_cons] at hs ⊢
      have hfg := hfi.kid [] g [] rfl
      have hnx : isT ts e (a + 1) [61] = false := by
       obtain ⟨x, l, e1, e2⟩ := tkF_head hfg
       have h1 := ha.tail
       unfold tkWi at h1
       split at h1
       · rw [h1.isT e]; rfl
       · rw [e1] at h1
         rw [h1.isT e]
         rcases e2 with e2 | e2
         · rw [e2]; rfl
         · rw [e2]; rfl
      have hu := (hkids g (by simp)).wu (deep := deep + 1) ha.tail (by rw [show a + 1 + (tkWi g 3).length = a + ((tkWi g 3).length + 1) by omega]; exact hs) (by omega)
      obtain ⟨m, hu⟩ := hu
      refine Pr.word (ha.tok e).1 hnx ⟨m + 2, ?_⟩
      rw [P_suc]
      simp only [pstep]
      rw [(ha.tok e).2]
      rw [if_neg (by decide), if_neg (by decide), if_pos rfl]
      have hnest : P ts e (m + 1) (.nested deep) (a + 1) = some (g, 0, a + 1 + (tkWi g 3).length) := by
       rw [P_suc]
       simp only [pstep]
       rw [if_neg (by omega)]
       exact hu
      rw [hnest, Option.bind_some, show a + ((tkWi g 3).length + 1) = a + 1 + (tkWi g 3).length by omega]
    · have hl : ¬ 1 < kids.length := by
       intro hl
       have : bindF (.mk k [] [] kids) < 3 := by
        show bindV k kids.length < 3
        rw [bind3 (by omega)]; omega
       omega
      have et : tkF (.mk k [] [] kids) = (1, if k = 5 then [101, 97, 99, 104] else [97, 110, 121]) :: (4, [40]) :: (tjoin (tkL kids) (4, [44]) ++ [(4, [41])]) := by
       rw [tkF, if_neg (by omega), if_neg (by omega), if_neg (by omega), if_neg (by omega), if_neg (by omega), if_neg hl]
       split <;> rfl
      rw [et] at ha hs ⊢
      have hlist : Pr ts e (.list k deep) (a + 1) (.mk k [] [] kids, 0, a + 3 + (tjoin (tkL kids) (4, [44])).length) := by
       have h1 := ha.tail
       have h2 := h1.tail
       have t1 : isT ts e (a + 1) [40] = true := by rw [h1.isT e]; rfl
       match kids, hl, hkids, h2 with
       | [], _, _, h2 =>
         rw [tkL, tjoin] at h2 ⊢
         have t2 : isT ts e (a + 1 + 1) [41] = true := by rw [h2.isT e]; rfl
         refine ⟨1, ?_⟩
         rw [P_suc]
         simp only [pstep]
         rw [if_neg (by simp [t1]), if_pos t2]
         rfl
       | [g], _, hkids, h2 =>
         have ej : tjoin (tkL [g]) (4, [44]) = tkF g := by rw [tkL, tkL, tjoin, List.flatMap_nil, List.append_nil]
         rw [ej] at h2 ⊢
         have h3 := h2.right
         have t2 : isT ts e (a + 1 + 1) [41] = false := by
          obtain ⟨x, l, e1, e2⟩ := tkF_head (hfi.kid [] g [] rfl)
          have h4 := h2.left
          rw [e1] at h4
          rw [h4.isT e]
          rcases e2 with e2 | e2
          · rw [e2]; rfl
          · rw [e2]; rfl
         have hg := (hkids g (by simp)).pt (a + 1 + 1) (deep + 1) 1 h2.left (stp_close h3) (Nat.le_refl _) (bindF_ge g) (by omega)
         obtain ⟨m, hg⟩ := hg
         refine ⟨m + 2, ?_⟩
         rw [P_suc]
         simp only [pstep]
         rw [if_neg (by simp [t1]), if_neg (by simp [t2]), P_suc]
         simp only [pstep]
         rw [hg, Option.bind_some, if_neg (by simp), if_pos (by rw [h3.isT e]; rfl), List.nil_append, show a + 1 + 1 + (tkF g).length + 1 = a + 3 + (tkF g).length by omega]
       | _ :: _ :: _, h, _, _ => exact absurd (by simp) h
      have hlen : a + ((1, if k = 5 then [101, 97, 99, 104] else [97, 110, 121]) :: (4, [40]) :: (tjoin (tkL kids) (4, [44]) ++ [(4, [41])]) : List TK).length = a + 3 + (tjoin (tkL kids) (4, [44])).length := by
       simp only [List.length_cons, List.length_append, List.length_nil]; omega
      rw [hlen]
      obtain ⟨m, hlist⟩ := hlist
      refine Pr.word (ha.tok e).1 (by rw [ha.tail.isT e]; rfl) ⟨m + 1, ?_⟩
      rw [P_suc]
      simp only [pstep]
      rw [(ha.tok e).2]
      rcases hk with rfl | rfl
      · rw [if_pos rfl, if_neg (by decide), if_neg (by decide), if_neg (by decide), if_neg (by decide), if_neg (by decide), if_pos rfl]
        exact hlist
      · rw [if_neg (by decide), if_neg (by decide), if_neg (by decide), if_neg (by decide), if_pos (by decide)]
        exact hlist
   refine ⟨hpu, ?_⟩
   intro a deep b ha hs h1 hb hdp
   have h40 : deep ≤ 40 := by omega
   by_cases h3 : bindF (.mk k nm tx kids) = 3
   · exact ((hpu h3 a deep ha hs.1 hdp).parse3 h40).down h40 h1 (by omega) (Nat.le_refl _) hs
   · have hbv : bindF (.mk k nm tx kids) = bindV k kids.length := rfl
     have hlt : 4 < k ∧ 1 < kids.length := by
      have := may_kind hm
      have h4 := bindF_le (.mk k nm tx kids)
      exact (bind3 (by omega)).1 (by omega)
     rcases may_cases hm with ⟨rfl, _⟩ | ⟨rfl, _⟩ | ⟨rfl, _⟩ | ⟨rfl, _⟩ | ⟨rfl, _⟩ | ⟨hk, rfl, rfl⟩
     · omega
     · omega
     · omega
     · omega
     · omega
     · rcases hk with rfl | rfl
       · have et : tkF (.mk 5 [] [] kids) = tjoin (tkW kids (2 + 1)) (1, wordOf 2) := by
          rw [tkF, if_neg (by decide), if_neg (by decide), if_neg (by decide), if_neg (by decide), if_neg (by decide), if_pos hlt.2]; rfl
         have hb2 : bindF (.mk 5 [] [] kids) = 2 := by rw [hbv]; unfold bindV; rw [if_neg (by omega), if_pos ⟨rfl, hlt.2⟩]
         rw [et] at ha hs ⊢
         have := kids_back (b := 2) (.inr rfl) (d := d + 1) (deep := deep) (by omega) h40 hlt.2 hkids ha (hs.le (by omega))
         exact this.down h40 h1 (by omega) (by decide) hs
       · have et : tkF (.mk 6 [] [] kids) = tjoin (tkW kids (1 + 1)) (1, wordOf 1) := by
          rw [tkF, if_neg (by decide), if_neg (by decide), if_neg (by decide), if_neg (by decide), if_neg (by decide), if_pos hlt.2]; rfl
         have hb1 : bindF (.mk 6 [] [] kids) = 1 := by rw [hbv]; unfold bindV; rw [if_pos ⟨rfl, hlt.2⟩]
         rw [et] at ha hs ⊢
         have := kids_back (b := 1) (.inl rfl) (d := d + 1) (deep := deep) (by omega) h40 hlt.2 hkids ha (hs.le (by omega))
         exact this.down h40 h1 (by omega) (by decide) hs
end
end Go.Proofs.YtpcjhfchpelonaaGreatDoor
set_option linter.unusedSimpArgs false
set_option linter.unusedVariables false
namespace Go.Proofs.YtpcjhfchpelonaaGreatDoor
open Nat (reduceMul reduceAdd reduceSub reduceEqDiff reduceLeDiff reduceLT)
open Ai Go.Shelf
/-! ### A filter that may be has short texts -/
theorem dec_n4 (l : List UInt8) : (dec l).2 ≤ 4 := by
 unfold dec
 simp only
 repeat' split
 all_goals simp
theorem rns_len4 (l : List UInt8) : l.length ≤ 4 * (rns l).length := by
 induction l using rune_ind with
 | h0 => simp
 | h1 a r ih =>
   have h1 : (rns (a :: r)).length = (rns ((a :: r).drop (dec (a :: r)).2)).length + 1 := by rw [rns_cons, List.length_cons]
   rw [List.length_drop] at ih
   have := dec_n4 (a :: r)
   omega
theorem may_short {k : Int} {nm tx : List UInt8} {n : Nat} (h : mayB k nm tx n = true) : nm.length ≤ 192 ∧ tx.length ≤ 192 := by
 have hv : ∀ l, allV plain 0 48 l = true → l.length ≤ 192 := fun l h => by
  have := rns_len4 l
  unfold allV at h
  simp only [Bool.and_eq_true, decide_eq_true_eq] at h
  omega
 have hk : ∀ l, allV plain 1 24 l = true → l.length ≤ 192 := fun l h => by
  have := rns_len4 l
  unfold allV at h
  simp only [Bool.and_eq_true, decide_eq_true_eq] at h
  omega
 have hn : ∀ l, allV letter 1 8 l = true → l.length ≤ 192 := fun l h => by
  have := rns_len4 l
  unfold allV at h
  simp only [Bool.and_eq_true, decide_eq_true_eq] at h
  omega
 unfold mayB at h
 split at h
 · simp only [Bool.and_eq_true, decide_eq_true_eq] at h
   rw [h.2.1, h.2.2]; exact ⟨Nat.zero_le _, Nat.zero_le _⟩
 · split at h
   · simp only [Bool.and_eq_true, decide_eq_true_eq] at h
     rw [h.2.1]; exact ⟨Nat.zero_le _, hk _ h.2.2⟩
   · split at h
     · simp only [Bool.and_eq_true, decide_eq_true_eq] at h
       exact ⟨hn _ h.2.1, hv _ h.2.2⟩
     · split at h
       · simp only [Bool.and_eq_true, decide_eq_true_eq] at h
         rw [h.1, h.2.1]; exact ⟨Nat.zero_le _, Nat.zero_le _⟩
       · split at h
         · simp only [Bool.and_eq_true, decide_eq_true_eq] at h
           rw [h.1, h.2]; exact ⟨Nat.zero_le _, Nat.zero_le _⟩
         · cases h
mutual
theorem bld_ok : ∀ (f : Fil) (d w : Nat), (bld f d w).1 = 0 → okL f ∧ (tellF f).length + 100 ≤ 2300 * cnt f
 | .mk k nm tx kids, d, w, h => by
   rw [bld] at h
   split at h
   · cases h
   · split at h
     · cases h
     · rename_i h1 h2
       obtain ⟨s1, s2⟩ := may_short (by simpa using h2 : mayB k nm tx kids.length = true)
       obtain ⟨k1, k2, k3⟩ := blds_ok kids _ _ h
       have hq := quoteV_len tx
       refine ⟨by rw [okL]; exact ⟨by omega, by omega, k1⟩, ?_⟩
       rw [tellF, cnt]
       split
       · simp only [List.length_cons, List.length_nil]; omega
       · split
         · simp only [List.length_append, List.length_cons, List.length_nil]; omega
         · split
           · simp only [List.length_append, List.length_cons, List.length_nil]; omega
           · split
             · simp only [List.length_cons, List.length_nil]; omega
             · split
               · have := k2 3
                 cases hk : tellW kids 3 with
                 | nil => simp only [List.headD_nil, List.length_append, List.length_cons, List.length_nil]; omega
                 | cons x r =>
                   rw [hk, lsum] at this
                   simp only [List.headD_cons, List.length_append, List.length_cons, List.length_nil]; omega
               · split
                 · have hb := k2 (if k = 5 then 3 else 2)
                   have := join_le (tellW kids (if k = 5 then 3 else 2)) (if k = 5 then [32, 97, 110, 100, 32] else [32, 111, 114, 32]) 5 (by split <;> simp)
                   omega
                 · have := join_le (tellL kids) [44, 32] 5 (by simp)
                   have hc : (if k = 5 then [101, 97, 99, 104, 40] else [97, 110, 121, 40] : List UInt8).length ≤ 5 := by split <;> simp
                   simp only [List.length_append, List.length_cons, List.length_nil]; omega
theorem blds_ok : ∀ (l : List Fil) (d w : Nat), (blds l d w).1 = 0 → okLs l ∧ (∀ b, lsum (tellW l b) 5 ≤ 2300 * cnts l) ∧ lsum (tellL l) 5 ≤ 2300 * cnts l
 | [], d, w, _ => by
   refine ⟨by rw [okLs]; trivial, fun b => by rw [tellW]; exact Nat.zero_le _, by rw [tellL]; exact Nat.zero_le _⟩
 | f :: r, d, w, h => by
   rw [blds] at h
   split at h
   · rename_i h0
     obtain ⟨a1, a2⟩ := bld_ok f d w h0
     obtain ⟨b1, b2, b3⟩ := blds_ok r d _ h
     refine ⟨by rw [okLs]; exact ⟨a1, b1⟩, fun b => ?_, ?_⟩
     · have := b2 b
       rw [tellW, lsum, cnts]
       split
       · simp only [List.length_append, List.length_cons, List.length_nil]; omega
       · omega
     · rw [tellL, lsum, cnts]; omega
   · rename_i h0; exact absurd h h0
end
theorem chk_ok {f : Fil} (h : chk f = 0) : okL f := (bld_ok f 1 0 h).1
theorem chk_len {f : Fil} (h : chk f = 0) : (tellF f).length ≤ 55200 := by
 have h1 := (bld_ok f 1 0 h).2
 have h2 := bld_cnt f 1 0 (by decide) h
 have h3 := (bld_le f 1 0 (by decide)).2 h
 omega
/-! ### Same -/
def R_same (a : List V) (v : V) : Prop := ∀ (f : Fil) (c c' : List V), a = [.agg c, .agg c'] → FilR f c → FilR f c' → v = .b true
noncomputable def F_same : List V → Option V := pickP 45 R_same
theorem o_same : ∀ a v, F_same a = some v → Comp tabx told 45 a v := pickP_tells
def S_same (D : Nat) : Prop := ∀ (f : Fil) (c c' : List V) (d w : Nat), FilR f c → FilR f c' → w ≤ 24 → (bld f d w).1 = 0 → 8 ≤ d + D → Comp tabx told 45 [.agg c, .agg c'] (.b true)
theorem call_same {D : Nat} (S : S_same D) {f : Fil} {c c' : List V} {d w : Nat} (h1 : FilR f c) (h2 : FilR f c') (h3 : w ≤ 24) (h4 : (bld f d w).1 = 0) (h5 : 8 ≤ d + D) : F_same [.agg c, .agg c'] = some (.b true) := by
 obtain ⟨v, e1, r⟩ := pickP_spec (R := R_same) (S f c c' d w h1 h2 h3 h4 h5) (fun _ _ _ _ _ _ => rfl)
 rw [r f c c' rfl h1 h2] at e1
 exact e1
noncomputable def X_same := xs [(45, F_same)]
theorem t_same : Tells tabx told X_same := tells_cons o_same tells_nil
def K45_1 : List Fr := [.blk 0,
 .seq (Sr [Ox 4 (.b true)]
 .ret)]
theorem U45_1 : type_of% (@M_open _ _ L45_1.eq_1) := @M_open _ _ L45_1.eq_1
theorem U45 : type_of% (@M_open _ _ B45.eq_1) := @M_open _ _ B45.eq_1
def kz45 (_ : Nat) : List Nat := [0, 1, 4, 5, 6, 7, 8, 9, 10, 11, 12, 13, 14, 15, 16, 17, 18, 19, 20, 21, 22, 23, 24, 25, 26, 27, 28, 29, 30, 31, 32, 33, 34, 35, 38, 39, 40, 41, 42, 43, 44, 45, 46, 47, 48, 49, 50, 51, 52]
section
variable {D : Nat}
set_option maxRecDepth 100000 in
theorem w_same (S : S_same D) (k : Int) (nm tx : List UInt8) (kids : List Fil) (ys zs : List V) (tk0 tk1 : Tk) (hy : KidsR kids ys) (hz : KidsR kids zs) (d w : Nat) (hw : w ≤ 24) (hb : (blds kids d w).1 = 0) (hD : 8 ≤ d + D) (hk : kids.length ≤ 24) (gl : Nat → List V) : ∀ (post pre : List Fil), kids = pre ++ post →
  M X_same (kz45) (.code L45_1) (.loop L45_1 :: K45_1) ⟨gl, (.node (.node (.node E3 (.l 3 0) E3) .any (.node E3 .any (.node (.node (.node .leaf (.i .i64 (pre.length : Nat)) .leaf) .any E1) .any E2))) .any (.node (.node E3 .any (.node (.node (.node .leaf (.i .i64 (kids.length : Nat)) .leaf) .any E1) .any E2)) (.l 2 0) E4)), [], [(2, [.i .i64 k, .s nm, .s tx, .sl ys kids.length tk0]), (3, [.i .i64 k, .s nm, .s tx, .sl zs kids.length tk1])], {}⟩
   (Fin [.tmp 4] (.b true)) := by
 intro post
 induction post with
 | nil =>
   intro pre hk1
   have hl : kids.length = pre.length := by rw [hk1]; simp
   have e1 : decide ((pre.length : Int) < (kids.length : Int)) = false := decide_eq_false (by omega)
   rw [U45_1]
   simp only [e1, K45_1, go_sem, reduceIte, reduceMul, reduceAdd, reduceSub, reduceEqDiff, reduceLeDiff, reduceLT]
 | cons f post ih =>
   intro pre hk1
   have hl : kids.length = pre.length + post.length + 1 := by rw [hk1]; simp; omega
   have e1 : decide ((pre.length : Int) < (kids.length : Int)) = true := decide_eq_true (by omega)
   have g1 : pre.length < kids.length := by omega
   have hyl := hy.len
   have hzl := hz.len
   have g2 : (pre.length + 1) * 4 ≤ kids.length * 4 := by omega
   obtain ⟨c, hc, ht⟩ := hy.split pre f post hk1
   obtain ⟨c', hc', ht'⟩ := hz.split pre f post hk1
   obtain ⟨w', q1, q2⟩ := blds_mem kids d w hw hb pre f post hk1
   have y4 : X_same 45 [.agg c, .agg c'] = some (.b true) := call_same S hc hc' q1 q2 hD
   have w2 : wr .i64 ((pre.length : Int) + 1) = ((pre.length + 1 : Nat) : Int) := by rw [wr64] <;> omega
   rw [U45_1]
   have := ih (pre ++ [f]) (by rw [hk1]; simp)
   cases hc with | mk k1 nm1 tx1 kids1 xs1 n1 tk1 hn1 hx1 =>
   cases hc' with | mk _ _ _ _ xs2 n2 tk2 hn2 hx2 =>
   simp only [e1, g1, hyl, hzl, g2, rd_ip, ht, ht', y4, w2, Int.cast_ofNat_Int, go_sem, reduceIte, reduceMul, reduceAdd, reduceSub, reduceEqDiff, reduceLeDiff, reduceLT]
   rw [M_loop]
   simp only [kz45, K45_1, List.length_append, List.length_cons, List.length_nil, Nat.zero_add, go_sem, reduceIte, reduceMul, reduceAdd, reduceSub, reduceEqDiff, reduceLeDiff, reduceLT] at this ⊢
   exact this
set_option maxRecDepth 100000 in
theorem s_same (S : S_same D) : S_same (D + 1) := by
 intro f c c' d w hf hf' hw hb hD
 have hs := FilR.strip f c hf
 have hs' := FilR.strip f c' hf'
 refine comp_of (kz := kz45) t_same (fn := af45) rfl (Nat.le_of_ble_eq_true rfl) fun gl => ?_
 show M _ _ (.code B45) _ (St.init gl 6 [.agg (stripL c), .agg (stripL c')] _) (Fin [.tmp 4] _)
 rw [U45]
 generalize stripL c = c2 at hs
 generalize stripL c' = c3 at hs'
 clear hf hf' c c'
 cases hs with | mk k nm tx kids xs n tk hn hx =>
 cases hs' with | mk _ _ _ _ xs' n' tk' hn' hx' =>
 subst hn hn'
 rw [bld] at hb
 split at hb
 · cases hb
 · split at hb
   · cases hb
   · have hc := blds_cnt kids (d + 1) (w + 1) (by omega) hb
     have hl := (blds_le kids (d + 1) (w + 1) (by omega)).2 hb
     have key := w_same S k nm tx kids xs xs' tk tk' hx hx' (d + 1) (w + 1) (by omega) hb (by omega) (by omega) gl kids [] rfl
     simp only [strEq_self, go_sem, reduceIte, reduceMul, reduceAdd, reduceSub, reduceEqDiff, reduceLeDiff, reduceLT]
     rw [M_loop]
     simp only [kz45, K45_1, List.length_cons, List.length_nil, Int.cast_ofNat_Int, Int.natCast_zero, go_sem, reduceIte, reduceMul, reduceAdd, reduceSub, reduceEqDiff, reduceLeDiff, reduceLT] at key ⊢
     exact key
theorem s_same_all : ∀ D, S_same D
 | 0 => fun f c c' d w _ _ hw hb h => by
   cases f with | mk k nm tx kids =>
   rw [bld] at hb
   split at hb
   · cases hb
   · omega
 | D + 1 => s_same (s_same_all D)
end
end Go.Proofs.YtpcjhfchpelonaaGreatDoor
set_option linter.unusedSimpArgs false
set_option linter.unusedVariables false
namespace Go.Proofs.YtpcjhfchpelonaaGreatDoor
open Nat (reduceMul reduceAdd reduceSub reduceEqDiff reduceLeDiff reduceLT)
open Ai Go
def F_rdg (m : Nat) (a : List V) : Option V := match a with
 | [.i .i64 k] => if 0 ≤ k ∧ k < m ∧ k ≤ 4611686018427387904 then some (.s (Lib.decDigits k.toNat)) else none
 | _ => none
def X_rdg (m : Nat) := xs [(42, F_rdg m)]
theorem F_rdg1 (m n : Nat) (h1 : n < m) (h2 : n ≤ 4611686018427387904) : F_rdg m [.i .i64 (n : Nat)] = some (.s (Lib.decDigits n)) := by
 have e : F_rdg m [.i .i64 (n : Nat)] = if 0 ≤ (n : Int) ∧ (n : Int) < m ∧ (n : Int) ≤ 4611686018427387904 then some (.s (Lib.decDigits (n : Int).toNat)) else none := rfl
 rw [e, if_pos ⟨by omega, by omega, by omega⟩, Int.toNat_natCast]
theorem U42 : type_of% (@M_open _ _ B42.eq_1) := @M_open _ _ B42.eq_1
def kz42 (_ : Nat) : List Nat := []
theorem rdg_piece (r : Nat) (h : r < 10) : (([48, 49, 50, 51, 52, 53, 54, 55, 56, 57] : List UInt8).drop r).take (r + 1 - r) = [UInt8.ofNat (48 + r)] := by
 have : r = 0 ∨ r = 1 ∨ r = 2 ∨ r = 3 ∨ r = 4 ∨ r = 5 ∨ r = 6 ∨ r = 7 ∨ r = 8 ∨ r = 9 := by omega
 rcases this with rfl | rfl | rfl | rfl | rfl | rfl | rfl | rfl | rfl | rfl <;> rfl
theorem rdec_len (n : Nat) (h : n ≤ 4611686018427387904) : (Lib.decDigits n).length ≤ 4611686018427387904 := by
 rw [Lib.decDigits_length]
 have : ∀ m : Nat, Lib.nDigits m ≤ m + 1 := by
  intro m
  induction m using Nat.strongRecOn with
  | _ m ih =>
    rw [Lib.nDigits]
    split
    · omega
    · have := ih (m / 10) (by omega); omega
 have h1 := this (n / 10)
 rw [Lib.nDigits]
 split <;> omega
set_option maxRecDepth 100000 in
theorem w_rdg (m n : Nat) (hn : n ≤ m) (h2 : n ≤ 4611686018427387904) (gl : Nat → List V) : M (X_rdg m) (kz42) (.code B42) [] (St.init gl 5 [.i .i64 (n : Nat)] {}) (Fin [.tmp 2] (.s (Lib.decDigits n))) := by
 rw [U42]
 have r1 : (n : Int).tmod 10 = ((n % 10 : Nat) : Int) := by rw [Int.tmod_eq_emod_of_nonneg (by omega)]; omega
 have r2 : wr .i64 (((n % 10 : Nat) : Int) + 1) = ((n % 10 + 1 : Nat) : Int) := by rw [wr64] <;> omega
 have r3 : wr .i64 ((n : Int).tdiv 10) = ((n / 10 : Nat) : Int) := by
  rw [Int.tdiv_eq_ediv_of_nonneg (by omega)]
  rw [wr64] <;> omega
 have hd : (10 : Int) = 0 ↔ False := by decide
 have g1 : n % 10 ≤ n % 10 + 1 := by omega
 have g2 : n % 10 + 1 ≤ 10 := by omega
 have hp := rdg_piece (n % 10) (by omega)
 by_cases c : 9 < n
 · have e1 : decide ((9 : Int) < (n : Int)) = true := decide_eq_true (by omega)
   have y1 : X_rdg m 42 [.i .i64 ((n / 10 : Nat) : Int)] = some (.s (Lib.decDigits (n / 10))) := F_rdg1 m (n / 10) (by omega) (by omega)
   have hl := rdec_len (n / 10) (by omega)
   rw [Lib.decDigits, dif_neg (by omega)]
   have h3 : (Lib.decDigits (n / 10)).length + 1 ≤ 4611686018427387904 := by
    have := rdec_len n h2
    rw [Lib.decDigits, dif_neg (by omega), List.length_append] at this
    exact this
   simp only [r1, r2, r3, hd, g1, g2, hp, e1, y1, h3, List.length_cons, List.length_nil, go_sem, reduceIte, reduceMul, reduceAdd, reduceSub, reduceEqDiff, reduceLeDiff, reduceLT]
 · have e1 : decide ((9 : Int) < (n : Int)) = false := decide_eq_false (by omega)
   rw [Lib.decDigits, dif_pos (by omega)]
   have hm : n % 10 = n := Nat.mod_eq_of_lt (by omega)
   rw [hm] at hp r1 r2 g1 g2
   simp only [r1, r2, r3, hd, g1, g2, hp, e1, List.length_cons, List.length_nil, go_sem, reduceIte, reduceMul, reduceAdd, reduceSub, reduceEqDiff, reduceLeDiff, reduceLT]
theorem t_rdg : ∀ m : Nat, Tells tabx told (X_rdg m)
 | 0 => tells_cons (fun a v e => by
    unfold F_rdg at e
    split at e
    · split at e
      · rename_i h; omega
      · cases e
    · cases e) tells_nil
 | m + 1 => tells_cons (fun a v e => by
    have ih := t_rdg m
    unfold F_rdg at e
    split at e
    · split at e
      · rename_i k h
        cases e
        obtain ⟨n, rfl⟩ : ∃ n : Nat, k = (n : Int) := ⟨k.toNat, by omega⟩
        exact comp_of ih (fn := af42) rfl (Nat.le_of_ble_eq_true rfl) fun gl => w_rdg m n (by omega) (by omega) gl
      · cases e
    · cases e) tells_nil
def kwQ (k : Nat) : List UInt8 := match k with | 0 => [107, 101, 121, 115] | 1 => [99, 111, 117, 110, 116] | 2 => [115, 117, 109] | 3 => [108, 101, 97, 115, 116] | _ => [116, 111, 112]
def partsQ (k : Nat) (of_ fT : List UInt8) (b2 : Bool) (by_ : List UInt8) (dn : Bool) (sk fi : Int) : List (List UInt8) :=
 kwQ k :: ((bif decide (of_ = []) then [] else [of_]) ++ ((bif b2 then [] else [[119, 104, 101, 114, 101, 32] ++ fT]) ++ ((bif decide (by_ = []) then [] else [[98, 121, 32] ++ by_]) ++ ((bif dn then [[100, 111, 119, 110]] else []) ++
  ((bif decide (0 < sk) then [[115, 107, 105, 112, 32] ++ Lib.itoa sk] else []) ++ (bif decide (0 < fi) then [[102, 105, 114, 115, 116, 32] ++ Lib.itoa fi] else []))))))
def textQ (k : Nat) (of_ fT : List UInt8) (b2 : Bool) (by_ : List UInt8) (dn : Bool) (sk fi : Int) : List UInt8 := Lib.join (partsQ k of_ fT b2 by_ dn sk fi) [32]
theorem kw_piece (k : Nat) (h : k ≤ 4) : (([.s [107, 101, 121, 115], .s [99, 111, 117, 110, 116], .s [115, 117, 109], .s [108, 101, 97, 115, 116], .s [116, 111, 112]] : List V).drop k).take 1 = [.s (kwQ k)] := by
 have : k = 0 ∨ k = 1 ∨ k = 2 ∨ k = 3 ∨ k = 4 := by omega
 rcases this with rfl | rfl | rfl | rfl | rfl <;> rfl
theorem o_itoa : ∀ a v, fnItoa a = some v → Comp tabx told 38 a v := fun a v e => comp_prim (show xf 38 a = some v from e)
theorem fnItoa1 (n : Int) (h0 : -9223372036854775808 ≤ n) (h1 : n ≤ 9223372036854775807) : fnItoa [.i .i64 n] = some (.s (Lib.itoa n)) := if_pos ⟨h0, h1⟩
noncomputable def X_qpr := xs [(8, F_qcheck), (37, F_print), (38, fnItoa)]
theorem t_qpr : Tells tabx told X_qpr := tells_cons o_qcheck (tells_cons o_print (tells_cons o_itoa tells_nil))
def Y_qpr := ys [(39, H_Join)]
theorem u_qpr : Hp.TellsI tabx told Y_qpr := itells_cons i_Join itells_nil
theorem k_words (xf : FuncId → List V → Option V) (xh : FuncId → List V → H → Option (V × H)) (st : St) (d : Nat) (ty : TypeId) : Hp.stepK xf xh st d (.bslice false ty 1 5 [.s []] [(0, .k (.s [107, 101, 121, 115])), (1, .k (.s [99, 111, 117, 110, 116])), (2, .k (.s [115, 117, 109])), (3, .k (.s [108, 101, 97, 115, 116])), (4, .k (.s [116, 111, 112]))]) = some (.sl [.s [107, 101, 121, 115], .s [99, 111, 117, 110, 116], .s [115, 117, 109], .s [108, 101, 97, 115, 116], .s [116, 111, 112]] 5 .full, st) := rfl
theorem UH18 : type_of% (@Hp_open _ _ B18.eq_1) := @Hp_open _ _ B18.eq_1
def kz18 (_ : Nat) : List Nat := []
set_option maxRecDepth 100000 in
set_option maxHeartbeats 4000000 in
theorem w_qpr (k : Nat) (hk : k ≤ 4) (of_ : List UInt8) (f : Fil) (c : List V) (by_ : List UInt8) (dn : Bool) (sk fi : Int) (hf : FilR f c) (hok : okL f) (h0 : 0 ≤ sk) (h1 : sk ≤ 1099511627776) (h2 : 0 ≤ fi) (h3 : fi ≤ 1099511627776) (he : qchk k of_ f by_ dn sk fi = 0)
  (b2 : Bool) (hb2 : ∀ k1 nm tx kids, f = .mk k1 nm tx kids → decide (k1 = 0) = b2)
  (hl : (textQ k of_ (printV f) b2 by_ dn sk fi).length ≤ 140737488355328) (hl2 : (printV f).length ≤ 100000000) (hl3 : by_.length ≤ 100000000) (gl : Nat → List V) :
  Hp.M X_qpr Y_qpr (kz18) (.code B18) [] (St.init gl 7 [.agg (qC k of_ c by_ dn sk fi)] {}) (Fin [.tmp 2, .tmp 3] (.tup [.s (textQ k of_ (printV f) b2 by_ dn sk fi), .i .i64 0])) := by
 rw [UH18]
 have y2 : X_qpr 8 [.agg (qC k of_ c by_ dn sk fi)] = some (.i .i64 0) := by
  have := qcheck_eq k of_ f c by_ dn sk fi hf
  rw [he] at this
  exact this
 have y3 : X_qpr 37 [.agg c] = some (.tup [.s (printV f), .i .i64 (chk f : Nat)]) := print_eq f c hf hok
 have y4 : X_qpr 38 [.i .i64 sk] = some (.s (Lib.itoa sk)) := fnItoa1 sk (by omega) (by omega)
 have y5 : X_qpr 38 [.i .i64 fi] = some (.s (Lib.itoa fi)) := fnItoa1 fi (by omega) (by omega)
 have g1 : 6 + (printV f).length ≤ 4611686018427387904 := by omega
 have g2 : 3 + by_.length ≤ 4611686018427387904 := by omega
 have g3 : ∀ n : Int, 0 ≤ n → n ≤ 1099511627776 → (Lib.itoa n).length ≤ 100000000000000 := fun n a b => by
  have := rdec_len n.toNat (by omega)
  unfold Lib.itoa
  rw [if_neg (by omega), Lib.decDigits_length]
  have hd : ∀ m : Nat, Lib.nDigits m ≤ m + 1 := by
   intro m
   induction m using Nat.strongRecOn with
   | _ m ih =>
     rw [Lib.nDigits]
     split
     · omega
     · have := ih (m / 10) (by omega); omega
  have := hd n.toNat
  omega
 have g4 : 5 + (Lib.itoa sk).length ≤ 4611686018427387904 := by have := g3 sk h0 h1; omega
 have g5 : 6 + (Lib.itoa fi).length ≤ 4611686018427387904 := by have := g3 fi h2 h3; omega
 have hp := kw_piece k hk
 have gk : k + 1 ≤ 5 := by omega
 have gk2 : k < 5 := by omega
 have e0 : decide ((0 : Int) = 0) = true := rfl
 have eO := strEq_dec of_ []
 have eB := strEq_dec by_ []
 have yj : ∀ l : List (List UInt8), l.length ≤ 1000 → (Lib.join l [32]).length ≤ 140737488355328 → ∀ (tk : Tk) (h : H), Y_qpr 39 [.sl (l.map V.s) l.length tk, .s [32]] h = some (.s (Lib.join l [32]), h) := fun l a b tk h => H_JoinS [32] h rfl a b
 have yJ := fun tk h => yj (partsQ k of_ (printV f) b2 by_ dn sk fi) (by unfold partsQ; cases decide (of_ = []) <;> cases b2 <;> cases decide (by_ = []) <;> cases dn <;> cases decide (0 < sk) <;> cases decide (0 < fi) <;> simp) hl tk h
 unfold textQ
 have most4 : (4 : Nat) ≤ most := by unfold most; omega
 cases hf with | mk k1 nm tx kids xs n tk hn hx =>
 have hb := hb2 k1 nm tx kids rfl
 simp only [qC, List.cons_append, List.nil_append] at y2
 generalize printV (.mk k1 nm tx kids) = fT at *
 simp only [qC, y2, e0, k_words, hp, gk, gk2, rd_ip, Nat.mul_one, splice, List.length_cons, List.length_nil, go_sem, reduceIte, reduceMul, reduceAdd, reduceSub, reduceEqDiff, reduceLeDiff, reduceLT]
 have m2 : 2 ≤ most := by unfold most; omega
 have m3 : 3 ≤ most := by unfold most; omega
 have m4 : 4 ≤ most := by unfold most; omega
 have m5 : 5 ≤ most := by unfold most; omega
 have m6 : 6 ≤ most := by unfold most; omega
 have m7 : 7 ≤ most := by unfold most; omega
 cases hO : decide (of_ = []) <;> rw [hO] at eO <;> simp only [eO, m2, m3, m4, m5, m6, m7, allOne, splice, List.length_cons, List.length_nil, go_sem, reduceIte, reduceMul, reduceAdd, reduceSub, reduceEqDiff, reduceLeDiff, reduceLT]
 all_goals cases b2 <;> simp only [hb, y3, g1, m2, m3, m4, m5, m6, m7, allOne, splice, List.length_cons, List.length_nil, List.length_append, List.nil_append, go_sem, reduceIte, reduceMul, reduceAdd, reduceSub, reduceEqDiff, reduceLeDiff, reduceLT]
 all_goals cases hB : decide (by_ = []) <;> rw [hB] at eB <;> simp only [eB, g2, m2, m3, m4, m5, m6, m7, allOne, splice, List.length_cons, List.length_nil, List.length_append, List.nil_append, go_sem, reduceIte, reduceMul, reduceAdd, reduceSub, reduceEqDiff, reduceLeDiff, reduceLT]
 all_goals cases dn <;> simp only [m2, m3, m4, m5, m6, m7, allOne, splice, List.length_cons, List.length_nil, List.length_append, List.nil_append, go_sem, reduceIte, reduceMul, reduceAdd, reduceSub, reduceEqDiff, reduceLeDiff, reduceLT]
 all_goals cases hS : decide (0 < sk) <;> simp only [hS, y4, g4, m2, m3, m4, m5, m6, m7, allOne, splice, List.length_cons, List.length_nil, List.length_append, List.nil_append, go_sem, reduceIte, reduceMul, reduceAdd, reduceSub, reduceEqDiff, reduceLeDiff, reduceLT]
 all_goals cases hF : decide (0 < fi) <;> simp only [hF, y5, g5, m2, m3, m4, m5, m6, m7, allOne, splice, List.length_cons, List.length_nil, List.length_append, List.nil_append, go_sem, reduceIte, reduceMul, reduceAdd, reduceSub, reduceEqDiff, reduceLeDiff, reduceLT]
 all_goals simp only [partsQ, hO, hB, hS, hF, cond_true, cond_false, List.nil_append, List.cons_append, List.append_nil, List.map_cons, List.map_nil, List.length_cons, List.length_nil, Nat.zero_add, Nat.reduceAdd] at yJ ⊢
 all_goals simp only [yJ, List.nil_append, List.cons_append, go_sem, reduceIte, reduceMul, reduceAdd, reduceSub, reduceEqDiff, reduceLeDiff, reduceLT]
theorem bif_le {α : Type} {a b : Nat} {x y : α} (h : a ≤ b) : (bif decide (a ≤ b) then x else y) = x := by rw [decide_eq_true h]; rfl
theorem kwQ_len (k : Nat) : (kwQ k).length ≤ 5 := by unfold kwQ; split <;> decide
def F_words (a : List V) : Option V := match a with
 | [] => some (.sl [.s [107, 101, 121, 115], .s [99, 111, 117, 110, 116], .s [115, 117, 109], .s [108, 101, 97, 115, 116], .s [116, 111, 112]] 5 .full)
 | _ => none
theorem o_words : ∀ a v, F_words a = some v → Comp tabx told 40 a v := fun a v e => by
 unfold F_words at e
 split at e
 · cases e
   exact comp_runF told_xf 50 fun gl _ => by kernel_rfl
 · cases e
noncomputable def X_rpr := xs [(9, F_rqcheck), (40, F_words), (41, F_rprint), (42, F_rdg 1099511627777)]
theorem o_rdg : ∀ a v, F_rdg 1099511627777 a = some v → Comp tabx told 42 a v := fun a v e => by
 unfold F_rdg at e
 split at e
 · split at e
   · rename_i k h
     cases e
     obtain ⟨n, rfl⟩ : ∃ n : Nat, k = (n : Int) := ⟨k.toNat, by omega⟩
     exact comp_of (t_rdg n) (fn := af42) rfl (Nat.le_of_ble_eq_true rfl) fun gl => w_rdg n n (Nat.le_refl _) (by omega) gl
   · cases e
 · cases e
theorem t_rpr : Tells tabx told X_rpr := tells_cons o_rqcheck (tells_cons o_words (tells_cons o_rprint (tells_cons o_rdg tells_nil)))
theorem F_rdgI (n : Int) (h0 : 0 ≤ n) (h1 : n ≤ 1099511627776) : F_rdg 1099511627777 [.i .i64 n] = some (.s (Lib.itoa n)) := by
 obtain ⟨m, rfl⟩ : ∃ m : Nat, n = (m : Int) := ⟨n.toNat, by omega⟩
 rw [F_rdg1 _ m (by omega) (by omega), Lib.itoa, if_neg (by omega), Int.toNat_natCast]
theorem U19 : type_of% (@M_open _ _ B19.eq_1) := @M_open _ _ B19.eq_1
def kz19 (_ : Nat) : List Nat := []
set_option maxRecDepth 100000 in
set_option maxHeartbeats 4000000 in
theorem w_rpr (k : Nat) (hk : k ≤ 4) (of_ : List UInt8) (f : Fil) (c : List V) (by_ : List UInt8) (dn : Bool) (sk fi : Int) (hf : FilR f c) (hok : okL f) (h0 : 0 ≤ sk) (h1 : sk ≤ 1099511627776) (h2 : 0 ≤ fi) (h3 : fi ≤ 1099511627776) (he : qchk k of_ f by_ dn sk fi = 0)
  (b2 : Bool) (hb2 : ∀ k1 nm tx kids, f = .mk k1 nm tx kids → decide (k1 = 0) = b2)
  (hl1 : of_.length ≤ 16384) (hl2 : (printV f).length ≤ 100000000) (hl3 : by_.length ≤ 16384) (hi1 : (Lib.itoa sk).length ≤ 100000000000000) (hi2 : (Lib.itoa fi).length ≤ 100000000000000) (gl : Nat → List V) :
  M X_rpr (kz19) (.code B19) [] (St.init gl 7 [.agg (qC k of_ c by_ dn sk fi)] {}) (Fin [.tmp 2, .tmp 3] (.tup [.s (textQ k of_ (printV f) b2 by_ dn sk fi), .i .i64 0])) := by
 rw [U19]
 have y2 : X_rpr 9 [.agg (qC k of_ c by_ dn sk fi)] = some (.i .i64 0) := by
  have := rqcheck_eq k of_ f c by_ dn sk fi hf hok hl1 hl3
  rw [he] at this
  exact this
 have y3 : X_rpr 41 [.agg c] = some (.tup [.s (printV f), .i .i64 (chk f : Nat)]) := rprint_eq f c hf hok
 have y4 : X_rpr 42 [.i .i64 sk] = some (.s (Lib.itoa sk)) := F_rdgI sk h0 h1
 have y5 : X_rpr 42 [.i .i64 fi] = some (.s (Lib.itoa fi)) := F_rdgI fi h2 h3
 have yw : X_rpr 40 [] = some (.sl [.s [107, 101, 121, 115], .s [99, 111, 117, 110, 116], .s [115, 117, 109], .s [108, 101, 97, 115, 116], .s [116, 111, 112]] 5 .full) := rfl
 have hp := kw_piece k hk
 have hkl := kwQ_len k
 have gk : k + 1 ≤ 5 := by omega
 have gk2 : k < 5 := by omega
 have e0 : decide ((0 : Int) = 0) = true := rfl
 have eO := strEq_dec of_ []
 have eB := strEq_dec by_ []
 unfold textQ
 cases hf with | mk k1 nm tx kids xs n tk hn hx =>
 have hb := hb2 k1 nm tx kids rfl
 simp only [qC, List.cons_append, List.nil_append] at y2
 generalize printV (.mk k1 nm tx kids) = fT at *
 simp only [qC, y2, yw, e0, hp, gk, gk2, rd_ip, Nat.mul_one, splice, List.length_cons, List.length_nil, go_sem, reduceIte, reduceMul, reduceAdd, reduceSub, reduceEqDiff, reduceLeDiff, reduceLT]
 cases hO : decide (of_ = []) <;> rw [hO] at eO <;> simp (disch := omega) only [bif_le, eO, splice, List.length_cons, List.length_nil, List.length_append, go_sem, reduceIte, reduceMul, reduceAdd, reduceSub, reduceEqDiff, reduceLeDiff, reduceLT]
 all_goals cases b2 <;> simp (disch := omega) only [bif_le, hb, y3, splice, List.length_cons, List.length_nil, List.length_append, go_sem, reduceIte, reduceMul, reduceAdd, reduceSub, reduceEqDiff, reduceLeDiff, reduceLT]
 all_goals cases hB : decide (by_ = []) <;> rw [hB] at eB <;> simp (disch := omega) only [bif_le, eB, splice, List.length_cons, List.length_nil, List.length_append, go_sem, reduceIte, reduceMul, reduceAdd, reduceSub, reduceEqDiff, reduceLeDiff, reduceLT]
 all_goals cases dn <;> simp (disch := omega) only [bif_le, splice, List.length_cons, List.length_nil, List.length_append, go_sem, reduceIte, reduceMul, reduceAdd, reduceSub, reduceEqDiff, reduceLeDiff, reduceLT]
 all_goals cases hS : decide (0 < sk) <;> simp (disch := omega) only [bif_le, hS, y4, splice, List.length_cons, List.length_nil, List.length_append, go_sem, reduceIte, reduceMul, reduceAdd, reduceSub, reduceEqDiff, reduceLeDiff, reduceLT]
 all_goals cases hF : decide (0 < fi) <;> simp (disch := omega) only [bif_le, hF, y5, splice, List.length_cons, List.length_nil, List.length_append, go_sem, reduceIte, reduceMul, reduceAdd, reduceSub, reduceEqDiff, reduceLeDiff, reduceLT]
 all_goals simp only [partsQ, hO, hB, hS, hF, cond_true, cond_false, List.nil_append, List.cons_append, List.append_nil, List.append_assoc, Lib.join, List.intercalate, List.intersperse, List.flatten_cons, List.flatten_nil]
theorem qchk_all {k : Int} {of_ : List UInt8} {f : Fil} {by_ : List UInt8} {dn : Bool} {sk fi : Int} (h : qchk k of_ f by_ dn sk fi = 0) :
  chk f = 0 ∧ nmQ by_ = true ∧ nmQ of_ = true ∧ (dn && decide (by_ = [])) = false ∧ 0 ≤ sk ∧ sk ≤ 1099511627776 ∧ 0 ≤ fi ∧ fi ≤ 1099511627776 ∧ 0 ≤ k ∧ k ≤ 4 ∧ decide (2 ≤ k) = !decide (of_ = []) := by
 unfold qchk at h
 split at h
 · rename_i h1
   refine ⟨h1, ?_⟩
   unfold qcode qok at h
   cases hc : (nmQ by_ && (nmQ of_ && (!(dn && decide (by_ = [])) && (!decide (sk < 0) && (!decide (1099511627776 < sk) && (!decide (fi < 0) && (!decide (1099511627776 < fi) && (!decide (k < 0) && (!decide (4 < k) && (decide (2 ≤ k) == !decide (of_ = []))))))))))) with
   | false => rw [hc] at h; exact absurd h (by decide)
   | true =>
     rw [Bool.and_eq_true, Bool.and_eq_true, Bool.and_eq_true, Bool.and_eq_true, Bool.and_eq_true, Bool.and_eq_true, Bool.and_eq_true, Bool.and_eq_true, Bool.and_eq_true] at hc
     obtain ⟨a1, a2, a3, a4, a5, a6, a7, a8, a9, a10⟩ := hc
     simp only [Bool.not_eq_true', decide_eq_false_iff_not] at a3 a4 a5 a6 a7 a8 a9
     exact ⟨a1, a2, a3, by omega, by omega, by omega, by omega, by omega, by omega, eq_of_beq a10⟩
 · rename_i h1; exact absurd (by omega) h1
theorem nmQ_len {l : List UInt8} (h : nmQ l = true) : l.length ≤ 192 := by
 unfold nmQ at h
 rw [Bool.or_eq_true, decide_eq_true_eq] at h
 rcases h with rfl | h
 · exact Nat.zero_le _
 · have := rns_len4 l
   unfold namB allV at h
   simp only [Bool.and_eq_true, decide_eq_true_eq] at h
   omega
theorem itoa_short (n : Int) (a : 0 ≤ n) (b : n ≤ 1099511627776) : (Lib.itoa n).length ≤ 1099511627777 := by
 unfold Lib.itoa
 rw [if_neg (by omega), Lib.decDigits_length]
 have hd : ∀ m : Nat, Lib.nDigits m ≤ m + 1 := by
  intro m
  induction m using Nat.strongRecOn with
  | _ m ih =>
    rw [Lib.nDigits]
    split
    · omega
    · have := ih (m / 10) (by omega); omega
 have := hd n.toNat
 omega
def fk0 : Fil → Bool
 | .mk k _ _ _ => decide (k = 0)
def prQ (k : Int) (of_ : List UInt8) (f : Fil) (by_ : List UInt8) (dn : Bool) (sk fi : Int) : List UInt8 := if qchk k of_ f by_ dn sk fi = 0 then textQ k.toNat of_ (printV f) (fk0 f) by_ dn sk fi else []
theorem textQ_len (k : Nat) (of_ fT : List UInt8) (b2 : Bool) (by_ : List UInt8) (dn : Bool) (sk fi : Int) (h1 : of_.length ≤ 1000000000) (h2 : fT.length ≤ 1000000000) (h3 : by_.length ≤ 1000000000) (h4 : (Lib.itoa sk).length ≤ 1099511627777) (h5 : (Lib.itoa fi).length ≤ 1099511627777) : (textQ k of_ fT b2 by_ dn sk fi).length ≤ 140737488355328 := by
 have hk := kwQ_len k
 unfold textQ partsQ
 cases decide (of_ = []) <;> cases b2 <;> cases decide (by_ = []) <;> cases dn <;> cases decide (0 < sk) <;> cases decide (0 < fi) <;>
  simp only [cond_true, cond_false, List.nil_append, List.cons_append, List.append_nil, Lib.join, List.intercalate, List.intersperse, List.flatten_cons, List.flatten_nil, List.length_append, List.length_cons, List.length_nil] <;> omega
/-! ### Told -/
def R_qprint (a : List V) (v : V) : Prop := ∀ (k : Int) (of_ : List UInt8) (f : Fil) (c : List V) (by_ : List UInt8) (dn : Bool) (sk fi : Int), a = [.agg (qC k of_ c by_ dn sk fi)] → FilR f c → v = .tup [.s (prQ k of_ f by_ dn sk fi), .i .i64 (qchk k of_ f by_ dn sk fi)]
theorem R_qprint_ok {k : Int} {of_ : List UInt8} {f : Fil} {c : List V} {by_ : List UInt8} {dn : Bool} {sk fi : Int} (hf : FilR f c) : R_qprint [.agg (qC k of_ c by_ dn sk fi)] (.tup [.s (prQ k of_ f by_ dn sk fi), .i .i64 (qchk k of_ f by_ dn sk fi)]) := by
 intro k' of' f' c' by' dn' sk' fi' e1 hf'
 simp only [List.cons.injEq, V.agg.injEq, and_true] at e1
 obtain ⟨rfl, rfl, rfl, rfl, rfl, rfl, rfl, rfl⟩ := qC_inj hf hf' e1
 rfl
noncomputable def F_qprint : List V → Option V := pickP 18 R_qprint
noncomputable def F_rqprint : List V → Option V := pickP 19 R_qprint
theorem o_qprint : ∀ a v, F_qprint a = some v → Comp tabx told 18 a v := pickP_tells
theorem o_rqprint : ∀ a v, F_rqprint a = some v → Comp tabx told 19 a v := pickP_tells
section
variable (k : Int) (of_ : List UInt8) (f : Fil) (c : List V) (by_ : List UInt8) (dn : Bool) (sk fi : Int)
theorem qprint_eq (hf : FilR f c) (hok : okL f) : F_qprint [.agg (qC k of_ c by_ dn sk fi)] = some (.tup [.s (prQ k of_ f by_ dn sk fi), .i .i64 (qchk k of_ f by_ dn sk fi)]) := by
 have hc : Comp tabx told 18 [.agg (qC k of_ c by_ dn sk fi)] (.tup [.s (prQ k of_ f by_ dn sk fi), .i .i64 (qchk k of_ f by_ dn sk fi)]) := by
  refine Hp.comp_of (xf := X_qpr) (xh := Y_qpr) (kz := kz18) t_qpr u_qpr (fn := af18) rfl (Nat.le_of_ble_eq_true rfl) fun gl => ?_
  rw [qC_strip]
  have hs := FilR.strip f c hf
  generalize stripL c = c2 at hs
  show Hp.M _ _ _ (.code B18) _ (St.init gl 7 _ _) (Fin [.tmp 2, .tmp 3] _)
  unfold prQ
  by_cases he : qchk k of_ f by_ dn sk fi = 0
  · rw [if_pos he, he]
    obtain ⟨a1, a2, a3, a4, a5, a6, a7, a8, a9, a10, a11⟩ := qchk_all he
    obtain ⟨m, rfl⟩ : ∃ m : Nat, k = (m : Int) := ⟨k.toNat, by omega⟩
    rw [Int.toNat_natCast]
    have hl := printV_len hok
    have hb := nmQ_len a2
    have ho := nmQ_len a3
    exact w_qpr m (by omega) of_ f c2 by_ dn sk fi hs hok a5 a6 a7 a8 he (fk0 f) (fun k1 nm tx kids e => by rw [e]; rfl) (textQ_len _ _ _ _ _ _ _ _ (by omega) (by omega) (by omega) (itoa_short sk a5 a6) (itoa_short fi a7 a8)) (by omega) (by omega) gl
  · rw [if_neg he]
    have y2 : X_qpr 8 [.agg (qC k of_ c2 by_ dn sk fi)] = some (.i .i64 (qchk k of_ f by_ dn sk fi)) := qcheck_eq k of_ f c2 by_ dn sk fi hs
    have e0 : decide (qchk k of_ f by_ dn sk fi = 0) = false := decide_eq_false he
    generalize qchk k of_ f by_ dn sk fi = e at *
    rw [UH18]
    cases hs with | mk k1 nm tx kids xs n tk hn hx =>
    simp only [qC, List.cons_append, List.nil_append] at y2
    simp only [qC, y2, e0, splice, go_sem, reduceIte, reduceMul, reduceAdd, reduceSub, reduceEqDiff, reduceLeDiff, reduceLT]
 obtain ⟨v, e1, r⟩ := pickP_spec (R := R_qprint) hc (R_qprint_ok hf)
 rw [r k of_ f c by_ dn sk fi rfl hf] at e1
 exact e1
theorem rqprint_eq (hf : FilR f c) (hok : okL f) (ho : of_.length ≤ 16384) (hbl : by_.length ≤ 16384) : F_rqprint [.agg (qC k of_ c by_ dn sk fi)] = some (.tup [.s (prQ k of_ f by_ dn sk fi), .i .i64 (qchk k of_ f by_ dn sk fi)]) := by
 have hc : Comp tabx told 19 [.agg (qC k of_ c by_ dn sk fi)] (.tup [.s (prQ k of_ f by_ dn sk fi), .i .i64 (qchk k of_ f by_ dn sk fi)]) := by
  refine comp_of (kz := kz19) t_rpr (fn := af19) rfl (Nat.le_of_ble_eq_true rfl) fun gl => ?_
  rw [qC_strip]
  have hs := FilR.strip f c hf
  generalize stripL c = c2 at hs
  show M _ _ (.code B19) _ (St.init gl 7 _ _) (Fin [.tmp 2, .tmp 3] _)
  unfold prQ
  by_cases he : qchk k of_ f by_ dn sk fi = 0
  · rw [if_pos he, he]
    obtain ⟨a1, a2, a3, a4, a5, a6, a7, a8, a9, a10, a11⟩ := qchk_all he
    obtain ⟨m, rfl⟩ : ∃ m : Nat, k = (m : Int) := ⟨k.toNat, by omega⟩
    rw [Int.toNat_natCast]
    have hl := printV_len hok
    have h4 := itoa_short sk a5 a6
    have h5 := itoa_short fi a7 a8
    exact w_rpr m (by omega) of_ f c2 by_ dn sk fi hs hok a5 a6 a7 a8 he (fk0 f) (fun k1 nm tx kids e => by rw [e]; rfl) ho (by omega) hbl (by omega) (by omega) gl
  · rw [if_neg he]
    have y2 : X_rpr 9 [.agg (qC k of_ c2 by_ dn sk fi)] = some (.i .i64 (qchk k of_ f by_ dn sk fi)) := rqcheck_eq k of_ f c2 by_ dn sk fi hs hok ho hbl
    have e0 : decide (qchk k of_ f by_ dn sk fi = 0) = false := decide_eq_false he
    generalize qchk k of_ f by_ dn sk fi = e at *
    rw [U19]
    cases hs with | mk k1 nm tx kids xs n tk hn hx =>
    simp only [qC, List.cons_append, List.nil_append] at y2
    simp only [qC, y2, e0, splice, go_sem, reduceIte, reduceMul, reduceAdd, reduceSub, reduceEqDiff, reduceLeDiff, reduceLT]
 obtain ⟨v, e1, r⟩ := pickP_spec (R := R_qprint) hc (R_qprint_ok hf)
 rw [r k of_ f c by_ dn sk fi rfl hf] at e1
 exact e1
end
def idxW (w : List UInt8) : List (List UInt8) → Nat → Int
 | [], _ => -1
 | x :: r, i => if w = x then (i : Nat) else idxW w r (i + 1)
def K108_1 : List Fr := [.blk 0,
 .seq (Sr [On 4 (-1)]
 .ret)]
theorem U108_1 : type_of% (@M_open _ _ L108_1.eq_1) := @M_open _ _ L108_1.eq_1
theorem U108 : type_of% (@M_open _ _ B108.eq_1) := @M_open _ _ B108.eq_1
def kz108 (_ : Nat) : List Nat := [2, 3, 4, 5, 6, 9, 10, 11, 12, 13, 14, 15, 16, 17, 18]
theorem word_at (pre : List (List UInt8)) (x : List UInt8) (post : List (List UInt8)) : (((pre ++ x :: post).map V.s).drop pre.length).take 1 = [V.s x] := by
 rw [List.map_append, List.drop_append_of_le_length (by simp), show pre.length = (pre.map V.s).length from by simp, List.drop_length]
 rfl
set_option maxRecDepth 100000 in
theorem w_index (w : List UInt8) (ps : List (List UInt8)) (tk : Tk) (hp : ps.length ≤ 1000) (gl : Nat → List V) : ∀ (post pre : List (List UInt8)), ps = pre ++ post →
  M noX (kz108) (.code L108_1) (.loop L108_1 :: K108_1) ⟨gl, (.node (.node (.node (.node E1 (.i .i64 (ps.length : Nat)) E1) .any E2) (.s w) E3) (.sl (ps.map V.s) ps.length tk) (.node (.node (.node E1 (.i .i64 (pre.length : Nat)) E1) .any E2) .any E3)), [], [], {}⟩
   (Fin [.tmp 4] (.i .i64 (idxW w post pre.length))) := by
 intro post
 induction post with
 | nil =>
   intro pre hk
   have hl : ps.length = pre.length := by rw [hk]; simp
   have e1 : decide ((pre.length : Int) < (ps.length : Int)) = false := decide_eq_false (by omega)
   rw [U108_1]
   simp only [e1, K108_1, idxW, go_sem, reduceIte, reduceMul, reduceAdd, reduceSub, reduceEqDiff, reduceLeDiff, reduceLT]
 | cons x post ih =>
   intro pre hk
   have hl : ps.length = pre.length + post.length + 1 := by rw [hk]; simp; omega
   have e1 : decide ((pre.length : Int) < (ps.length : Int)) = true := decide_eq_true (by omega)
   have g1 : pre.length < ps.length := by omega
   have g2 : pre.length + 1 ≤ ps.length := by omega
   have ht := word_at pre x post
   rw [← hk] at ht
   have w2 : wr .i64 ((pre.length : Int) + 1) = ((pre.length + 1 : Nat) : Int) := by rw [wr64] <;> omega
   have eW := strEq_dec w x
   rw [U108_1, idxW]
   by_cases hw : w = x
   · rw [decide_eq_true hw] at eW
     rw [if_pos hw]
     simp only [e1, g1, g2, rd_ip, ht, eW, List.length_map, Nat.mul_one, splice, K108_1, go_sem, reduceIte, reduceMul, reduceAdd, reduceSub, reduceEqDiff, reduceLeDiff, reduceLT]
   · rw [decide_eq_false hw] at eW
     rw [if_neg hw]
     have := ih (pre ++ [x]) (by rw [hk]; simp)
     simp only [e1, g1, g2, rd_ip, ht, eW, w2, List.length_map, Nat.mul_one, splice, go_sem, reduceIte, reduceMul, reduceAdd, reduceSub, reduceEqDiff, reduceLeDiff, reduceLT]
     rw [M_loop]
     simp only [kz108, K108_1, List.length_append, List.length_cons, List.length_nil, Nat.zero_add, go_sem, reduceIte, reduceMul, reduceAdd, reduceSub, reduceEqDiff, reduceLeDiff, reduceLT] at this ⊢
     exact this
def kwsQ : List (List UInt8) := [[107, 101, 121, 115], [99, 111, 117, 110, 116], [115, 117, 109], [108, 101, 97, 115, 116], [116, 111, 112]]
def kindV (w : List UInt8) : Int := idxW w kwsQ 0
def R_idx (a : List V) (v : V) : Prop := ∀ (w : List UInt8) (tk : Tk), a = [.sl (kwsQ.map V.s) 5 tk, .s w] → v = .i .i64 (kindV w)
noncomputable def F_idx : List V → Option V := pickP 108 R_idx
theorem idx_eq (w : List UInt8) (tk : Tk) : F_idx [.sl (kwsQ.map V.s) 5 tk, .s w] = some (.i .i64 (kindV w)) := by
 have hc : Comp tabx told 108 [.sl (kwsQ.map V.s) 5 tk, .s w] (.i .i64 (kindV w)) := by
  refine comp_of (xf := noX) (kz := kz108) tells_noX (fn := af108) rfl (Nat.le_of_ble_eq_true rfl) fun gl => ?_
  rw [show stripL [V.sl (kwsQ.map V.s) 5 tk, .s w] = [.sl (kwsQ.map V.s) 5 tk.cp, .s w] from rfl]
  show M _ _ (.code B108) _ (St.init gl 5 _ _) (Fin [.tmp 4] _)
  rw [U108]
  have := w_index w kwsQ tk.cp (by decide) gl kwsQ [] rfl
  generalize hk : kwsQ.map V.s = ks at *
  have h5 : kwsQ.length = 5 := rfl
  rw [h5] at this
  simp only [go_sem, reduceIte, reduceMul, reduceAdd, reduceSub, reduceEqDiff, reduceLeDiff, reduceLT]
  rw [M_loop]
  simp only [kz108, K108_1, List.length_nil, Int.cast_ofNat_Int, go_sem, reduceIte, reduceMul, reduceAdd, reduceSub, reduceEqDiff, reduceLeDiff, reduceLT] at this ⊢
  exact this
 obtain ⟨v, e1, r⟩ := pickP_spec (R := R_idx) hc (by
  intro w' tk' e
  simp only [List.cons.injEq, V.sl.injEq, V.s.injEq, and_true, true_and] at e
  rw [e.2])
 rw [r w tk rfl] at e1
 exact e1
noncomputable def X_kinds := xs [(108, F_idx)]
theorem t_kinds : Tells tabx told X_kinds := tells_cons pickP_tells tells_nil
theorem U77 : type_of% (@M_open _ _ B77.eq_1) := @M_open _ _ B77.eq_1
def kz77 (_ : Nat) : List Nat := []
theorem w_kinds (w : List UInt8) (gl : Nat → List V) : M X_kinds (kz77) (.code B77) [] (St.init gl 3 [.s w] {}) (Fin [.tmp 2] (.i .i64 (kindV w))) := by
 rw [U77]
 have y1 : ∀ tk, X_kinds 108 [.sl [.s [107, 101, 121, 115], .s [99, 111, 117, 110, 116], .s [115, 117, 109], .s [108, 101, 97, 115, 116], .s [116, 111, 112]] 5 tk, .s w] = some (.i .i64 (kindV w)) := fun tk => idx_eq w tk
 have kw : ∀ (st : St) (d : Nat) (ty : TypeId), stepK X_kinds st d (.bslice false ty 1 5 [.s []] [(0, .k (.s [107, 101, 121, 115])), (1, .k (.s [99, 111, 117, 110, 116])), (2, .k (.s [115, 117, 109])), (3, .k (.s [108, 101, 97, 115, 116])), (4, .k (.s [116, 111, 112]))]) = some (.sl [.s [107, 101, 121, 115], .s [99, 111, 117, 110, 116], .s [115, 117, 109], .s [108, 101, 97, 115, 116], .s [116, 111, 112]] 5 .full, st) := fun _ _ _ => rfl
 simp only [kw, y1, go_sem, reduceIte, reduceMul, reduceAdd, reduceSub, reduceEqDiff, reduceLeDiff, reduceLT]
def F_kinds (a : List V) : Option V := match a with
 | [.s w] => some (.i .i64 (kindV w))
 | _ => none
theorem o_kinds : ∀ a v, F_kinds a = some v → Comp tabx told 77 a v := fun a v e => by
 unfold F_kinds at e
 split at e
 · cases e; exact comp_of t_kinds (fn := af77) rfl (Nat.le_of_ble_eq_true rfl) fun gl => w_kinds _ gl
 · cases e
theorem kind_kw (k : Nat) (h : k ≤ 4) : kindV (kwQ k) = (k : Nat) := by
 have : k = 0 ∨ k = 1 ∨ k = 2 ∨ k = 3 ∨ k = 4 := by omega
 rcases this with rfl | rfl | rfl | rfl | rfl <;> decide
end Go.Proofs.YtpcjhfchpelonaaGreatDoor
