/- Texts as lists of bytes, rune by rune. Texts: a rune is read off its own bytes. -/
import Derived.Test.YtopbdgdfnmlldaaGreatDoorAi10
import Derived.Test.YtopbdgdfnmlldaaGreatDoorAi09
namespace Ai
open Go

theorem dec_pos (l : List UInt8) : 1 ≤ (dec l).2 := by
  unfold dec
  simp only
  repeat' split
  all_goals simp

theorem dec_le (a : UInt8) (r : List UInt8) : (dec (a :: r)).2 ≤ (a :: r).length := by
  unfold dec
  simp only [Bool.and_eq_true, decide_eq_true_eq]
  repeat' split
  all_goals first | (simp only [List.length_cons]; omega) | skip
  all_goals simp_all
  all_goals omega

theorem dec_nil_free (a : UInt8) (r : List UInt8) : ((a :: r).drop (dec (a :: r)).2).length < (a :: r).length := by
  have := dec_pos (a :: r)
  simp only [List.length_drop, List.length_cons]
  omega

/-- The runes of a text, with how many bytes each has. -/
def rw2 : List UInt8 → List (Nat × Nat)
  | [] => []
  | a :: r => dec (a :: r) :: rw2 ((a :: r).drop (dec (a :: r)).2)
termination_by l => l.length
decreasing_by exact dec_nil_free a r

def rns (l : List UInt8) : List Nat := (rw2 l).map (·.1)

theorem rw2_nil : rw2 [] = [] := by rw [rw2]
theorem rw2_cons (a : UInt8) (r : List UInt8) : rw2 (a :: r) = dec (a :: r) :: rw2 ((a :: r).drop (dec (a :: r)).2) := by rw [rw2]
theorem rns_nil : rns [] = [] := by rw [rns, rw2_nil]; rfl
theorem rns_cons (a : UInt8) (r : List UInt8) : rns (a :: r) = (dec (a :: r)).1 :: rns ((a :: r).drop (dec (a :: r)).2) := by rw [rns, rw2_cons]; rfl

/-- By the runes of a text. -/
theorem rune_ind {p : List UInt8 → Prop} (h0 : p []) (h1 : ∀ a r, p ((a :: r).drop (dec (a :: r)).2) → p (a :: r)) : ∀ l, p l := by
  intro l
  induction hn : l.length using Nat.strongRecOn generalizing l with
  | _ n ih =>
    cases l with
    | nil => exact h0
    | cons a r => exact h1 a r (ih _ (by rw [← hn]; exact dec_nil_free a r) _ rfl)

theorem rns_le (l : List UInt8) : (rns l).length ≤ l.length := by
  induction l using rune_ind with
  | h0 => simp [rns_nil]
  | h1 a r ih =>
    have := dec_nil_free a r
    rw [rns_cons, List.length_cons]
    omega

def rv (c : Nat) : V := .i .i32 c

theorem wr64 {n : Int} (h1 : -9223372036854775808 ≤ n) (h2 : n < 9223372036854775808) : wr .i64 n = n := by
  simp only [wr, lo]
  split <;> omega
theorem wr32 {n : Int} (h1 : -2147483648 ≤ n) (h2 : n < 2147483648) : wr .i32 n = n := by
  simp only [wr, lo]
  split <;> omega
theorem wru64 {n : Int} (h1 : 0 ≤ n) (h2 : n < 18446744073709551616) : wr .u64 n = n := by
  simp only [wr]
  omega

@[go_sem] theorem natOf_cast (k : IntKind) (n : Nat) : natOf (.i k (n : Int)) = some n := by simp [natOf]
@[go_sem] theorem natOf_lit (k : IntKind) (n : Nat) : natOf (.i k (no_index (@OfNat.ofNat Int n _))) = some (@OfNat.ofNat Nat n _) := natOf_cast k n
@[go_sem] theorem rd_ip1 (st : St) (xs : List V) (o : Nat) : st.rd (.ip xs o) 1 = (xs[o]?).map fun v => [v] := by
  show sub? xs o 1 = _
  unfold sub?
  cases h : xs[o]? with
  | none =>
    rw [List.getElem?_eq_none_iff] at h
    rw [List.drop_eq_nil_of_le h]
    rfl
  | some v =>
    obtain ⟨h1, h2⟩ := List.getElem?_eq_some_iff.1 h
    rw [List.drop_eq_getElem_cons h1, h2]
    rfl
attribute [go_sem] Nat.mul_one Nat.add_zero Nat.zero_add Nat.sub_zero List.drop_zero

theorem strsOf_map (l : List (List UInt8)) : strsOf (l.map V.s) = some l := by
  induction l with
  | nil => rfl
  | cons a r ih => simp [strsOf, ih]
theorem strEq_self (x : List UInt8) : strEq x x = true := by
  induction x with
  | nil => rfl
  | cons a r ih => simp [strEq, ih]
theorem strEq_dec (x y : List UInt8) : strEq x y = decide (x = y) := by
  induction x generalizing y with
  | nil => cases y <;> simp [strEq]
  | cons a r ih =>
    cases y with
    | nil => simp [strEq]
    | cons b s =>
      simp only [strEq, nat_beq]
      by_cases h : a.toNat = b.toNat
      · have : a = b := UInt8.toNat_inj.1 h
        subst this
        simp [ih]
      · have : ¬ a = b := fun e => h (by rw [e])
        simp [h, this]
theorem frz_strs (h : H) (f : Nat) (l : List (List UInt8)) : (l.map V.s).map (frz h (f + 1)) = l.map V.s := by simp [Function.comp_def, frz_s]
theorem frz_ints (h : H) (f : Nat) (k : IntKind) (l : List Int) : (l.map (V.i k)).map (frz h (f + 1)) = l.map (V.i k) := by simp [Function.comp_def, frz_i]
theorem frz_rvs (h : H) (f : Nat) (l : List Nat) : (l.map rv).map (frz h (f + 1)) = l.map rv := by simp [Function.comp_def, frz_i, rv]
theorem getE (l : List (List UInt8)) (j : Nat) : (l.map V.s)[j]? = (l[j]?).map V.s := by simp

attribute [go_sem] byteV
@[go_sem] theorem bne_tf : (true != false) = true := rfl
@[go_sem] theorem bne_tt : (true != true) = false := rfl
@[go_sem] theorem bne_ff : (false != false) = false := rfl
@[go_sem] theorem bne_ft : (false != true) = true := rfl
theorem dec_ascii {a : UInt8} (h : a.toNat < 128) (r : List UInt8) : dec (a :: r) = (a.toNat, 1) := by
  unfold dec
  simp [h]
theorem dec_low {a : UInt8} {r : List UInt8} (h : (dec (a :: r)).1 < 128) : a.toNat < 128 ∧ dec (a :: r) = (a.toNat, 1) := by
  by_cases ha : a.toNat < 128
  · exact ⟨ha, dec_ascii ha r⟩
  · exfalso
    revert h
    unfold dec
    simp only [List.getD_cons_zero, ha, if_false]
    repeat' split
    all_goals simp only [Utf8.runeError]
    all_goals simp_all
    all_goals omega

/-! ### Parts of a text -/
def prt (by' : Int) (acc : List UInt8) (l : List UInt8) : List (List UInt8) :=
  match l with
  | [] => [acc]
  | a :: r => if ((dec (a :: r)).1 : Int) = by' then acc :: prt by' [] ((a :: r).drop (dec (a :: r)).2) else prt by' (acc ++ (a :: r).take (dec (a :: r)).2) ((a :: r).drop (dec (a :: r)).2)
termination_by l.length
decreasing_by all_goals exact dec_nil_free a r
theorem prt_nil (by' : Int) (acc : List UInt8) : prt by' acc [] = [acc] := by rw [prt]
theorem prt_cons (by' : Int) (acc : List UInt8) (a : UInt8) (r : List UInt8) : prt by' acc (a :: r) = if ((dec (a :: r)).1 : Int) = by' then acc :: prt by' [] ((a :: r).drop (dec (a :: r)).2) else prt by' (acc ++ (a :: r).take (dec (a :: r)).2) ((a :: r).drop (dec (a :: r)).2) := by rw [prt]
theorem prt_len (by' : Int) (l : List UInt8) : ∀ acc, (prt by' acc l).length ≤ l.length + 1 := by
  induction l using rune_ind with
  | h0 => intro acc; simp [prt_nil]
  | h1 a r ih =>
    intro acc
    have := dec_nil_free a r
    rw [prt_cons]
    split
    · have := ih []; simp only [List.length_cons] at *; omega
    · have := ih (acc ++ (a :: r).take (dec (a :: r)).2); simp only [List.length_cons] at *; omega
theorem drop_more {α : Type} {s l : List α} {pos : Nat} (h : s.drop pos = l) (w : Nat) : s.drop (pos + w) = l.drop w := by rw [← h, List.drop_drop]
theorem take_more {s l : List UInt8} {f pos : Nat} (h : s.drop pos = l) (hf : f ≤ pos) (w : Nat) : (s.drop f).take (pos + w - f) = (s.drop f).take (pos - f) ++ l.take w := by
  rw [show pos + w - f = (pos - f) + w from by omega, List.take_add, List.drop_drop, show f + (pos - f) = pos from by omega, h]
theorem drop_len {s l : List UInt8} {pos : Nat} (h : s.drop pos = l) (hp : pos ≤ s.length) : s.length = pos + l.length := by rw [← h, List.length_drop]; omega

def posl (pos : Nat) (l : List UInt8) : List Nat :=
  match l with
  | [] => []
  | a :: r => pos :: posl (pos + (dec (a :: r)).2) ((a :: r).drop (dec (a :: r)).2)
termination_by l.length
decreasing_by exact dec_nil_free a r
theorem posl_nil (pos : Nat) : posl pos [] = [] := by rw [posl]
theorem posl_cons (pos : Nat) (a : UInt8) (r : List UInt8) : posl pos (a :: r) = pos :: posl (pos + (dec (a :: r)).2) ((a :: r).drop (dec (a :: r)).2) := by rw [posl]
theorem posl_len (l : List UInt8) : ∀ pos, (posl pos l).length ≤ l.length := by
  induction l using rune_ind with
  | h0 => intro pos; simp [posl_nil]
  | h1 a r ih =>
    intro pos
    have := dec_nil_free a r
    have := ih (pos + (dec (a :: r)).2)
    rw [posl_cons]
    simp only [List.length_cons] at *
    omega
def iv (n : Nat) : V := .i .i64 n

@[go_sem] theorem al_alSet {α : Type} (l : List (Nat × α)) (k : Nat) (x : α) : al (alSet l k x) k = some x := by rw [al_set, if_pos rfl]
@[go_sem] theorem alSet_alSet {α : Type} (l : List (Nat × α)) (k : Nat) (x y : α) : alSet (alSet l k x) k y = alSet l k y := by
  induction l with
  | nil => simp [alSet]
  | cons p r ih =>
    obtain ⟨j, z⟩ := p
    simp only [alSet, nat_beq]
    by_cases h : j = k
    · simp [h, alSet]
    · simp [h, alSet, ih, nat_beq]
@[go_sem] theorem al_lset_same {α : Type} (l : List (Nat × α)) (k : Nat) (x : α) : al (lset l k x) k = some x := by rw [al_lset, if_pos rfl]
@[go_sem] theorem lset_lset {α : Type} (l : List (Nat × α)) (k : Nat) (x y : α) : lset (lset l k x) k y = lset l k y := by
  induction l with
  | nil => simp [lset]
  | cons p r ih =>
    obtain ⟨j, z⟩ := p
    simp only [lset, nbeq, nble]
    by_cases h : j = k
    · simp [h, lset]
    · by_cases h2 : j ≤ k
      · simp [h, h2, lset, ih, nbeq, nble]
      · simp [h, h2, lset]
theorem prt_ne (by' : Int) (l : List UInt8) : ∀ acc, 1 ≤ (prt by' acc l).length := by
  induction l using rune_ind with
  | h0 => intro acc; simp [prt_nil]
  | h1 a r ih =>
    intro acc
    rw [prt_cons]
    split
    · simp
    · exact ih _
theorem prt_part (by' : Int) (l : List UInt8) : ∀ acc, ∀ p ∈ prt by' acc l, p.length ≤ acc.length + l.length := by
  induction l using rune_ind with
  | h0 => intro acc p hp; simp only [prt_nil, List.mem_singleton] at hp; subst hp; simp
  | h1 a r ih =>
    intro acc p hp
    have hw := dec_le a r
    have hn := dec_nil_free a r
    rw [prt_cons] at hp
    split at hp
    · rcases List.mem_cons.1 hp with rfl | hp
      · omega
      · have := ih [] p hp
        simp only [List.length_nil] at this
        omega
    · have := ih _ p hp
      simp only [List.length_append, List.length_take, List.length_drop] at this
      omega

/-! ### What is told of calls, function by function -/
def xs : List (FuncId × (List V → Option V)) → FuncId → List V → Option V
  | [], _, _ => none
  | (g, F) :: r, h, a => bif Nat.beq h g then F a else xs r h a

section
variable {tab : FuncId → Option AFunc} {pr : Prims}
@[go_sem] theorem xs_hit (g : FuncId) (F : List V → Option V) (r : List (FuncId × (List V → Option V))) (a : List V) : xs ((g, F) :: r) g a = F a := by simp [xs]
@[go_sem] theorem xs_miss (g h : FuncId) (F : List V → Option V) (r : List (FuncId × (List V → Option V))) (a : List V) (hn : h ≠ g) : xs ((g, F) :: r) h a = xs r h a := by
  have : Nat.beq h g = false := by cases hb : Nat.beq h g with | true => exact absurd (Nat.eq_of_beq_eq_true hb) hn | false => rfl
  simp only [xs, this, cond_false]
theorem tells_nil : Tells tab pr (xs []) := fun _ _ _ h => by cases h
theorem tells_cons {g : FuncId} {F : List V → Option V} {r : List (FuncId × (List V → Option V))} (h : ∀ a v, F a = some v → Comp tab pr g a v) (t : Tells tab pr (xs r)) : Tells tab pr (xs ((g, F) :: r)) := by
  intro g' a v e
  unfold xs at e
  cases hb : Nat.beq g' g with
  | true =>
    rw [hb] at e
    have := Nat.eq_of_beq_eq_true hb
    subst this
    exact h _ _ e
  | false =>
    rw [hb] at e
    exact t _ _ _ e
end

section
variable {P : Program} {K : Known} {tab : FuncId → Option AFunc} {pr : Prims} {xf : FuncId → List V → Option V} {kz : Nat → List Nat}
/-- A law's function, found true by the machine: it returns true, and writes nothing that was there. -/
theorem true_of_M (hg : Good P K tab pr) (hx : Tells tab pr xf) {g : FuncId} {fn : AFunc} {args : List V} (ht : tab g = some fn) (hn : args.length ≤ fn.n)
    {gl : Nat → List V} (hok : pr.ok gl) (h : M xf kz (.code fn.body) [] (St.init gl fn.depth (stripL args) {}) (Fin fn.res (.b true))) {W : World} {cs : Array Value} (hv : VRs (Gh.start W) W args cs)
    (hgl : ∀ g, Row1 (Gh.start W) W g (gl g)) :
    Calls P g cs W fun e W' => e = .returned (.bool true) ∧ RowKit.Below W.heap.size W W' := by
  obtain ⟨f, ex, st', e, he, hl⟩ := h
  obtain ⟨ex1, st1, f1, _, _, hr, hev⟩ := runK_ev hx f f (Nat.le_refl _) _ _ _ _ _ hok e
  simp only at hev
  have : ex1 = ex ∧ st1 = st' := by
    match f1, hr with
    | 0, hr => simp [runK] at hr
    | f1 + 1, hr => simp only [runK, Option.some.injEq, Prod.mk.injEq] at hr; exact hr
  obtain ⟨rfl, rfl⟩ := this
  have hl' : leave fn true {} st1 = some (.b true, {}) := by
    unfold leave
    cases hv : resV st1 fn.res with
    | none => rw [hv] at hl; cases hl
    | some vs =>
      rw [hv] at hl
      simp only [Option.map_some, Option.some.injEq] at hl
      simp only [cond_true, hl]
  refine (calls_of_ev hg ht hn hev he hl' hv hgl).mono fun e W' he => ?_
  cases e with
  | panicked _ => exact he.elim
  | outgrown => exact he.elim
  | returned c =>
    obtain ⟨k, G', hvr⟩ := he
    cases hvr
    exact ⟨rfl, k.below⟩
end

end Ai

namespace Ai
open Go
def decF (b0 b1 b2 b3 : Nat) (c1 c2 c3 : Bool) : Nat × Nat :=
  if b0 < 0x80 then (b0, 1)
  else if b0 / 32 == 6 && c1 then
    let c := (b0 % 32) * 64 + b1 % 64
    if c ≥ 0x80 then (c, 2) else (Utf8.runeError, 1)
  else if b0 / 16 == 14 && c1 && c2 then
    let c := (b0 % 16) * 4096 + (b1 % 64) * 64 + b2 % 64
    if c ≥ 0x800 && Utf8.valid c then (c, 3) else (Utf8.runeError, 1)
  else if b0 / 8 == 30 && c1 && c2 && c3 then
    let c := (b0 % 8) * 262144 + (b1 % 64) * 4096 + (b2 % 64) * 64 + b3 % 64
    if c ≥ 0x10000 && Utf8.valid c then (c, 4) else (Utf8.runeError, 1)
  else (Utf8.runeError, 1)
def contB (l : List UInt8) (k : Nat) : Bool := decide (k < l.length) && (l.getD k 0).toNat / 64 == 2
theorem dec_F (l : List UInt8) : dec l = decF (l.getD 0 0).toNat (l.getD 1 0).toNat (l.getD 2 0).toNat (l.getD 3 0).toNat (contB l 1) (contB l 2) (contB l 3) := rfl
theorem decF3 (b0 b1 b2 b3 b3' : Nat) (c1 c2 q : Bool) (h : (decF b0 b1 b2 b3 c1 c2 q).2 ≤ 3) : decF b0 b1 b2 b3' c1 c2 false = decF b0 b1 b2 b3 c1 c2 q := by
  cases q with
  | false => simp [decF]
  | true =>
    revert h
    unfold decF
    simp only [Bool.and_false, Bool.and_true]
    by_cases h1 : b0 < 128
    · simp only [h1, if_true, implies_true]
    · simp only [h1, if_false]
      cases e1 : (b0 / 32 == 6 && c1) with
      | true => simp
      | false =>
        cases e2 : (b0 / 16 == 14 && c1 && c2) with
        | true => simp
        | false =>
          cases e3 : (b0 / 8 == 30 && c1 && c2) with
          | false => simp
          | true =>
            simp only [Bool.false_eq_true, if_false, if_true]
            split
            · intro h; simp at h
            · intro h; rfl
theorem decF2 (b0 b1 b2 b3 b2' b3' : Nat) (c1 q q3 : Bool) (h : (decF b0 b1 b2 b3 c1 q q3).2 ≤ 2) : decF b0 b1 b2' b3' c1 false false = decF b0 b1 b2 b3 c1 q q3 := by
  cases q with
  | false => simp [decF]
  | true =>
    revert h
    unfold decF
    simp only [Bool.and_false, Bool.and_true]
    by_cases h1 : b0 < 128
    · simp only [h1, if_true, implies_true]
    · simp only [h1, if_false]
      cases e1 : (b0 / 32 == 6 && c1) with
      | true => simp
      | false =>
        simp only [Bool.false_eq_true, if_false]
        split
        · split
          · intro h; simp at h
          · intro h; rfl
        · split
          · split
            · intro h; simp at h
            · intro h; rfl
          · intro h; rfl
theorem decF1 (b0 b1 b2 b3 b1' b2' b3' : Nat) (q q2 q3 : Bool) (h : (decF b0 b1 b2 b3 q q2 q3).2 ≤ 1) : decF b0 b1' b2' b3' false false false = decF b0 b1 b2 b3 q q2 q3 := by
  revert h
  unfold decF
  simp only [Bool.and_false, Bool.false_eq_true, if_false]
  by_cases h1 : b0 < 128
  · simp only [h1, if_true, implies_true]
  · simp only [h1, if_false]
    split
    · split
      · intro h; simp at h
      · intro h; rfl
    · split
      · split
        · intro h; simp at h
        · intro h; rfl
      · split
        · split
          · intro h; simp at h
          · intro h; rfl
        · intro h; rfl
theorem dec_prefix (x y : List UInt8) (hx : x ≠ []) (h : (dec (x ++ y)).2 ≤ x.length) : dec x = dec (x ++ y) := by
  rw [dec_F] at h
  rw [dec_F, dec_F]
  match x, hx, h with
  | [a], _, h => exact decF1 _ _ _ _ _ _ _ _ _ _ h
  | [a, b], _, h =>
    have e : contB ([a, b] ++ y) 1 = contB [a, b] 1 := by simp [contB]
    rw [e] at h ⊢
    exact decF2 _ _ _ _ _ _ _ _ _ h
  | [a, b, c], _, h =>
    have e : contB ([a, b, c] ++ y) 1 = contB [a, b, c] 1 := by simp [contB]
    have e2 : contB ([a, b, c] ++ y) 2 = contB [a, b, c] 2 := by simp [contB]
    rw [e, e2] at h ⊢
    exact decF3 _ _ _ _ _ _ _ _ h
  | a :: b :: c :: d :: r, _, h => simp [contB]

/-- How many bytes stand ahead of the first rune of the kind. -/
def fst (by' : Int) (l : List UInt8) : Nat :=
  match l with
  | [] => 0
  | a :: r => if ((dec (a :: r)).1 : Int) = by' then 0 else (dec (a :: r)).2 + fst by' ((a :: r).drop (dec (a :: r)).2)
termination_by l.length
decreasing_by exact dec_nil_free a r
theorem fst_nil (by' : Int) : fst by' [] = 0 := by rw [fst]
theorem fst_cons (by' : Int) (a : UInt8) (r : List UInt8) : fst by' (a :: r) = if ((dec (a :: r)).1 : Int) = by' then 0 else (dec (a :: r)).2 + fst by' ((a :: r).drop (dec (a :: r)).2) := by rw [fst]
/-- The runes of what stands ahead. -/
theorem rns_take (by' : Int) (l : List UInt8) : ∀ c ∈ rns (l.take (fst by' l)), ((c : Nat) : Int) ≠ by' := by
  induction l using rune_ind with
  | h0 => intro c hc; simp [fst_nil, rns_nil] at hc
  | h1 a r ih =>
    intro c hc
    rw [fst_cons] at hc
    split at hc
    · simp [rns_nil] at hc
    · rename_i hn
      have hw := dec_pos (a :: r)
      have hw2 := dec_le a r
      have hx : (a :: r).take ((dec (a :: r)).2 + fst by' ((a :: r).drop (dec (a :: r)).2)) = (a :: r).take (dec (a :: r)).2 ++ ((a :: r).drop (dec (a :: r)).2).take (fst by' ((a :: r).drop (dec (a :: r)).2)) := by rw [List.take_add]
      have hne : (a :: r).take ((dec (a :: r)).2 + fst by' ((a :: r).drop (dec (a :: r)).2)) ≠ [] := by
        intro e
        have := congrArg List.length e
        simp only [List.length_take, List.length_nil, List.length_cons] at this hw2
        omega
      have hp := dec_prefix ((a :: r).take ((dec (a :: r)).2 + fst by' ((a :: r).drop (dec (a :: r)).2))) ((a :: r).drop ((dec (a :: r)).2 + fst by' ((a :: r).drop (dec (a :: r)).2))) hne (by
        rw [List.take_append_drop, List.length_take]; omega)
      rw [List.take_append_drop] at hp
      generalize hq : (a :: r).take ((dec (a :: r)).2 + fst by' ((a :: r).drop (dec (a :: r)).2)) = q at *
      cases q with
      | nil => exact absurd rfl hne
      | cons b s =>
        rw [rns_cons, hp] at hc
        rcases List.mem_cons.1 hc with rfl | hc
        · exact hn
        · rw [hx, List.drop_append_of_le_length (by rw [List.length_take]; omega)] at hc
          rw [List.drop_eq_nil_of_le (by rw [List.length_take]; omega), List.nil_append] at hc
          exact ih c hc
theorem prt_fst (by' : Int) (l : List UInt8) : ∀ acc, ∃ rest, prt by' acc l = (acc ++ l.take (fst by' l)) :: rest ∧ (rest = [] ∨ ∃ l', l'.length < l.length ∧ rest = prt by' [] l') := by
  induction l using rune_ind with
  | h0 => intro acc; exact ⟨[], by simp [prt_nil], .inl rfl⟩
  | h1 a r ih =>
    intro acc
    have hn := dec_nil_free a r
    rw [prt_cons, fst_cons]
    split
    · exact ⟨_, by simp, .inr ⟨_, hn, rfl⟩⟩
    · obtain ⟨rest, h1, h2⟩ := ih (acc ++ (a :: r).take (dec (a :: r)).2)
      refine ⟨rest, ?_, ?_⟩
      · rw [h1, List.take_add, List.append_assoc]
      · rcases h2 with h2 | ⟨l', h3, h4⟩
        · exact .inl h2
        · exact .inr ⟨l', by omega, h4⟩
theorem prt_free (by' : Int) : ∀ (n : Nat) (l : List UInt8), l.length ≤ n → ∀ p ∈ prt by' [] l, ∀ c ∈ rns p, ((c : Nat) : Int) ≠ by'
  | n, l, hl, p, hp, c, hc => by
    obtain ⟨rest, h1, h2⟩ := prt_fst by' l []
    rw [h1] at hp
    rcases List.mem_cons.1 hp with rfl | hp
    · rw [List.nil_append] at hc; exact rns_take by' l c hc
    · rcases h2 with rfl | ⟨l', h3, rfl⟩
      · cases hp
      · match n, hl with
        | 0, hl => omega
        | n + 1, hl => exact prt_free by' n l' (by omega) p hp c hc
theorem prt_count (by' : Int) (l : List UInt8) : ∀ acc, (prt by' acc l).length = 1 + (rns l).countP fun c : Nat => decide ((c : Int) = by') := by
  induction l using rune_ind with
  | h0 => intro acc; simp [prt_nil, rns_nil]
  | h1 a r ih =>
    intro acc
    rw [prt_cons, rns_cons, List.countP_cons]
    split
    · rename_i h; rw [List.length_cons, ih]; simp [h]; omega
    · rename_i h; rw [ih]; simp [h]
end Ai
