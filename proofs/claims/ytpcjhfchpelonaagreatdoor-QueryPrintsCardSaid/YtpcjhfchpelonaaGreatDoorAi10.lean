/- Texts as lists of bytes, rune by rune. Texts: a rune is read off its own bytes. -/
import Derived.Test.YtpcjhfchpelonaaGreatDoorAi09
import Derived.Test.YtpcjhfchpelonaaGreatDoorAi08
namespace Ai
open Go

theorem dec_pos (l : List UInt8) : 1 ≤ (dec l).2 := by
 unfold dec
 simp only
 repeat' split
 all_goals simp

theorem dec_le (a : UInt8) (r : List UInt8) : (dec (a :: r)).2 ≤ (a :: r).length := by
 unfold dec
 simp only [Bool.and_eq_true, decide_eq_true_eq]
 repeat' split
 all_goals first | (simp only [List.length_cons]; omega) | skip
 all_goals simp_all
 all_goals omega

theorem dec_nil_free (a : UInt8) (r : List UInt8) : ((a :: r).drop (dec (a :: r)).2).length < (a :: r).length := by
 have := dec_pos (a :: r)
 simp only [List.length_drop, List.length_cons]
 omega

def rw2 : List UInt8 → List (Nat × Nat)
 | [] => []
 | a :: r => dec (a :: r) :: rw2 ((a :: r).drop (dec (a :: r)).2)
termination_by l => l.length
decreasing_by exact dec_nil_free a r

def rns (l : List UInt8) : List Nat := (rw2 l).map (·.1)

theorem rw2_nil : rw2 [] = [] := by rw [rw2]
theorem rw2_cons (a : UInt8) (r : List UInt8) : rw2 (a :: r) = dec (a :: r) :: rw2 ((a :: r).drop (dec (a :: r)).2) := by rw [rw2]
theorem rns_nil : rns [] = [] := by rw [rns, rw2_nil]; rfl
theorem rns_cons (a : UInt8) (r : List UInt8) : rns (a :: r) = (dec (a :: r)).1 :: rns ((a :: r).drop (dec (a :: r)).2) := by rw [rns, rw2_cons]; rfl

theorem rune_ind {p : List UInt8 → Prop} (h0 : p []) (h1 : ∀ a r, p ((a :: r).drop (dec (a :: r)).2) → p (a :: r)) : ∀ l, p l := by
 intro l
 induction hn : l.length using Nat.strongRecOn generalizing l with
 | _ n ih =>
   cases l with
   | nil => exact h0
   | cons a r => exact h1 a r (ih _ (by rw [← hn]; exact dec_nil_free a r) _ rfl)

theorem rns_le (l : List UInt8) : (rns l).length ≤ l.length := by
 induction l using rune_ind with
 | h0 => simp [rns_nil]
 | h1 a r ih =>
   have := dec_nil_free a r
   rw [rns_cons, List.length_cons]
   omega

def rv (c : Nat) : V := .i .i32 c

theorem wr64 {n : Int} (h1 : -9223372036854775808 ≤ n) (h2 : n < 9223372036854775808) : wr .i64 n = n := by
 simp only [wr, lo]
 split <;> omega
theorem wr32 {n : Int} (h1 : -2147483648 ≤ n) (h2 : n < 2147483648) : wr .i32 n = n := by
 simp only [wr, lo]
 split <;> omega
theorem wru64 {n : Int} (h1 : 0 ≤ n) (h2 : n < 18446744073709551616) : wr .u64 n = n := by
 simp only [wr]
 omega

@[go_sem] theorem natOf_cast (k : IntKind) (n : Nat) : natOf (.i k (n : Int)) = some n := by simp [natOf]
@[go_sem] theorem natOf_lit (k : IntKind) (n : Nat) : natOf (.i k (no_index (@OfNat.ofNat Int n _))) = some (@OfNat.ofNat Nat n _) := natOf_cast k n
@[go_sem] theorem rd_ip1 (st : St) (xs : List V) (o : Nat) : st.rd (.ip xs o) 1 = (xs[o]?).map fun v => [v] := by
 show sub? xs o 1 = _
 unfold sub?
 cases h : xs[o]? with
 | none =>
   rw [List.getElem?_eq_none_iff] at h
   rw [List.drop_eq_nil_of_le h]
   rfl
 | some v =>
   obtain ⟨h1, h2⟩ := List.getElem?_eq_some_iff.1 h
   rw [List.drop_eq_getElem_cons h1, h2]
   rfl
attribute [go_sem] Nat.mul_one Nat.add_zero Nat.zero_add Nat.sub_zero List.drop_zero

theorem strsOf_map (l : List (List UInt8)) : strsOf (l.map V.s) = some l := by
 induction l with
 | nil => rfl
 | cons a r ih => simp [strsOf, ih]
theorem strEq_self (x : List UInt8) : strEq x x = true := by
 induction x with
 | nil => rfl
 | cons a r ih => simp [strEq, ih]
theorem strEq_dec (x y : List UInt8) : strEq x y = decide (x = y) := by
 induction x generalizing y with
 | nil => cases y <;> simp [strEq]
 | cons a r ih =>
   cases y with
   | nil => simp [strEq]
   | cons b s =>
     simp only [strEq, nat_beq]
     by_cases h : a.toNat = b.toNat
     · have : a = b := UInt8.toNat_inj.1 h
       subst this
       simp [ih]
     · have : ¬ a = b := fun e => h (by rw [e])
       simp [h, this]
theorem frz_rvs (h : H) (f : Nat) (l : List Nat) : (l.map rv).map (frz h (f + 1)) = l.map rv := by simp [Function.comp_def, frz_i, rv]
attribute [go_sem] byteV
@[go_sem] theorem bne_tf : (true != false) = true := rfl
@[go_sem] theorem bne_tt : (true != true) = false := rfl
@[go_sem] theorem bne_ff : (false != false) = false := rfl
@[go_sem] theorem bne_ft : (false != true) = true := rfl
theorem dec_ascii {a : UInt8} (h : a.toNat < 128) (r : List UInt8) : dec (a :: r) = (a.toNat, 1) := by
 unfold dec
 simp [h]
theorem dec_low {a : UInt8} {r : List UInt8} (h : (dec (a :: r)).1 < 128) : a.toNat < 128 ∧ dec (a :: r) = (a.toNat, 1) := by
 by_cases ha : a.toNat < 128
 · exact ⟨ha, dec_ascii ha r⟩
 · exfalso
   revert h
   unfold dec
   simp only [List.getD_cons_zero, ha, if_false]
   repeat' split
   all_goals simp only [Utf8.runeError]
   all_goals simp_all
   all_goals omega

/-! ### Parts of a text -/
theorem drop_len {s l : List UInt8} {pos : Nat} (h : s.drop pos = l) (hp : pos ≤ s.length) : s.length = pos + l.length := by rw [← h, List.length_drop]; omega

@[go_sem] theorem al_alSet {α : Type} (l : List (Nat × α)) (k : Nat) (x : α) : al (alSet l k x) k = some x := by rw [al_set, if_pos rfl]
@[go_sem] theorem alSet_alSet {α : Type} (l : List (Nat × α)) (k : Nat) (x y : α) : alSet (alSet l k x) k y = alSet l k y := by
 induction l with
 | nil => simp [alSet]
 | cons p r ih =>
   obtain ⟨j, z⟩ := p
   simp only [alSet, nat_beq]
   by_cases h : j = k
   · simp [h, alSet]
   · simp [h, alSet, ih, nat_beq]
@[go_sem] theorem al_lset_same {α : Type} (l : List (Nat × α)) (k : Nat) (x : α) : al (lset l k x) k = some x := by rw [al_lset, if_pos rfl]
@[go_sem] theorem lset_lset {α : Type} (l : List (Nat × α)) (k : Nat) (x y : α) : lset (lset l k x) k y = lset l k y := by
 induction l with
 | nil => simp [lset]
 | cons p r ih =>
   obtain ⟨j, z⟩ := p
   simp only [lset, nbeq, nble]
   by_cases h : j = k
   · simp [h, lset]
   · by_cases h2 : j ≤ k
     · simp [h, h2, lset, ih, nbeq, nble]
     · simp [h, h2, lset]
/-! ### What is told of calls, function by function -/
def xs : List (FuncId × (List V → Option V)) → FuncId → List V → Option V
 | [], _, _ => none
 | (g, F) :: r, h, a => bif Nat.beq h g then F a else xs r h a

section
variable {tab : FuncId → Option AFunc} {pr : Prims}
@[go_sem] theorem xs_hit (g : FuncId) (F : List V → Option V) (r : List (FuncId × (List V → Option V))) (a : List V) : xs ((g, F) :: r) g a = F a := by simp [xs]
@[go_sem] theorem xs_miss (g h : FuncId) (F : List V → Option V) (r : List (FuncId × (List V → Option V))) (a : List V) (hn : h ≠ g) : xs ((g, F) :: r) h a = xs r h a := by
 have : Nat.beq h g = false := by cases hb : Nat.beq h g with | true => exact absurd (Nat.eq_of_beq_eq_true hb) hn | false => rfl
 simp only [xs, this, cond_false]
theorem tells_nil : Tells tab pr (xs []) := fun _ _ _ h => by cases h
theorem tells_cons {g : FuncId} {F : List V → Option V} {r : List (FuncId × (List V → Option V))} (h : ∀ a v, F a = some v → Comp tab pr g a v) (t : Tells tab pr (xs r)) : Tells tab pr (xs ((g, F) :: r)) := by
 intro g' a v e
 unfold xs at e
 cases hb : Nat.beq g' g with
 | true =>
   rw [hb] at e
   have := Nat.eq_of_beq_eq_true hb
   subst this
   exact h _ _ e
 | false =>
   rw [hb] at e
   exact t _ _ _ e
end

section
variable {P : Program} {K : Known} {tab : FuncId → Option AFunc} {pr : Prims} {xf : FuncId → List V → Option V} {kz : Nat → List Nat}
end

end Ai

namespace Ai
open Go
def decF (b0 b1 b2 b3 : Nat) (c1 c2 c3 : Bool) : Nat × Nat :=
 if b0 < 0x80 then (b0, 1)
 else if b0 / 32 == 6 && c1 then
  let c := (b0 % 32) * 64 + b1 % 64
  if c ≥ 0x80 then (c, 2) else (Utf8.runeError, 1)
 else if b0 / 16 == 14 && c1 && c2 then
  let c := (b0 % 16) * 4096 + (b1 % 64) * 64 + b2 % 64
  if c ≥ 0x800 && Utf8.valid c then (c, 3) else (Utf8.runeError, 1)
 else if b0 / 8 == 30 && c1 && c2 && c3 then
  let c := (b0 % 8) * 262144 + (b1 % 64) * 4096 + (b2 % 64) * 64 + b3 % 64
  if c ≥ 0x10000 && Utf8.valid c then (c, 4) else (Utf8.runeError, 1)
 else (Utf8.runeError, 1)
def contB (l : List UInt8) (k : Nat) : Bool := decide (k < l.length) && (l.getD k 0).toNat / 64 == 2
theorem dec_F (l : List UInt8) : dec l = decF (l.getD 0 0).toNat (l.getD 1 0).toNat (l.getD 2 0).toNat (l.getD 3 0).toNat (contB l 1) (contB l 2) (contB l 3) := rfl
end Ai
