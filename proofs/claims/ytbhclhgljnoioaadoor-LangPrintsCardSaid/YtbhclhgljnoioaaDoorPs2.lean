/- lang: what is parsed, as a function of the tokens. -/
import Derived.Test.YtbhclhgljnoioaaDoorPs1
set_option linter.unusedSimpArgs false
set_option linter.unusedVariables false
namespace Go.Proofs.YtbhclhgljnoioaaDoor
open Ai
inductive Fil where
  | mk (k : Int) (name text : List UInt8) (kids : List Fil)
def fil0 : Fil := .mk 0 [] [] []
inductive PQ where
  | parse (by_ deep : Nat)
  | more (by_ deep : Nat) (acc : List Fil)
  | unary (deep : Nat)
  | word (deep : Nat)
  | nested (deep : Nat)
  | list (k : Int) (deep : Nat)
  | items (k : Int) (deep : Nat) (acc : List Fil)
abbrev PR := Fil × Nat × Nat
def wordOf (by_ : Nat) : List UInt8 := if by_ = 2 then [97, 110, 100] else [111, 114]
def kindOf (by_ : Nat) : Int := if by_ = 2 then 5 else 6
/-- One step of the parser; 'rec': what is below. -/
def pstep (ts : List Tok) (e : Nat) (rec : PQ → Nat → Option PR) : PQ → Nat → Option PR
  | .parse by_ deep, a =>
    if 40 < deep then some (fil0, 51, a) else
    if 2 < by_ then rec (.unary deep) a else
    (rec (.parse (by_ + 1) deep) a).bind fun r =>
      if r.2.1 ≠ 0 ∨ isW ts e r.2.2 (wordOf by_) = false then some r else rec (.more by_ deep [r.1]) r.2.2
  | .more by_ deep acc, a =>
    if isW ts e a (wordOf by_) = false then some (.mk (kindOf by_) [] [] acc, 0, a) else
    (rec (.parse (by_ + 1) deep) (a + 1)).bind fun r =>
      if r.2.1 ≠ 0 then some r else rec (.more by_ deep (acc ++ [r.1])) r.2.2
  | .unary deep, a =>
    if isF ts e a = true then
      (if (tokAt ts e (a + 2)).kind = 2 then some (.mk 2 (tokAt ts e a).text (tokAt ts e (a + 2)).text [], 0, a + 3) else some (fil0, 192, a + 2))
    else if isT ts e a [40] = true then
      (rec (.parse 1 (deep + 1)) (a + 1)).bind fun r =>
        if r.2.1 ≠ 0 then some (fil0, r.2.1, r.2.2) else
        if isT ts e r.2.2 [41] = true then some (r.1, 0, r.2.2 + 1) else some (fil0, 192, r.2.2)
    else if (tokAt ts e a).kind ≠ 1 then some (fil0, 192, a) else
    (rec (.word deep) a).bind fun r => if r.2.1 ≠ 0 then some (fil0, r.2.1, r.2.2) else some r
  | .word deep, a =>
    if (tokAt ts e a).text = [97, 108, 108] then some (fil0, 0, a + 1) else
    if (tokAt ts e a).text = [112, 117, 116] then some (.mk 3 [] [] [], 0, a + 1) else
    if (tokAt ts e a).text = [110, 111, 116] then (rec (.nested deep) (a + 1)).bind fun r => some (.mk 4 [] [] [r.1], r.2.1, r.2.2) else
    if (tokAt ts e a).text = [107, 101, 121] then
      (if isT ts e (a + 1) [94] = true then
        (if (tokAt ts e (a + 2)).kind = 2 then some (.mk 1 [] (tokAt ts e (a + 2)).text [], 0, a + 3) else some (.mk 1 [] [] [], 192, a + 2))
       else some (fil0, 192, a + 1)) else
    if (tokAt ts e a).text = [97, 110, 121] then rec (.list 6 deep) (a + 1) else
    if (tokAt ts e a).text = [101, 97, 99, 104] then rec (.list 5 deep) (a + 1) else
    some (fil0, 192, a)
  | .nested deep, a => if 40 ≤ deep then some (fil0, 51, a) else rec (.unary (deep + 1)) a
  | .list k deep, a =>
    if isT ts e a [40] = false then some (.mk k [] [] [], 192, a) else
    if isT ts e (a + 1) [41] = true then some (.mk k [] [] [], 0, a + 2) else
    rec (.items k deep []) (a + 1)
  | .items k deep acc, a =>
    (rec (.parse 1 (deep + 1)) a).bind fun r =>
      if r.2.1 ≠ 0 then some (.mk k [] [] acc, r.2.1, r.2.2) else
      if isT ts e r.2.2 [41] = true then some (.mk k [] [] (acc ++ [r.1]), 0, r.2.2 + 1) else
      if isT ts e r.2.2 [44] = true then rec (.items k deep (acc ++ [r.1])) (r.2.2 + 1) else
      some (.mk k [] [] (acc ++ [r.1]), 192, r.2.2)
def P (ts : List Tok) (e : Nat) : Nat → PQ → Nat → Option PR
  | 0 => fun _ _ => none
  | n + 1 => pstep ts e (P ts e n)
/-! ### Filters as values -/
mutual
inductive FilR : Fil → List V → Prop
  | mk (k : Int) (name text : List UInt8) (kids : List Fil) (xs : List V) (n : Nat) (tk : Tk) (hn : n = kids.length) (h : KidsR kids xs) : FilR (.mk k name text kids) [.i .i64 k, .s name, .s text, .sl xs n tk]
inductive KidsR : List Fil → List V → Prop
  | nil : KidsR [] []
  | cons (f : Fil) (r : List Fil) (c xs : List V) (h1 : FilR f c) (h2 : KidsR r xs) : KidsR (f :: r) (c ++ xs)
end
theorem FilR.len {f : Fil} {c : List V} (h : FilR f c) : c.length = 4 := by cases h; rfl
theorem KidsR.len {l : List Fil} {xs : List V} (h : KidsR l xs) : xs.length = l.length * 4 := by
  induction l generalizing xs with
  | nil => cases h; rfl
  | cons f r ih =>
    cases h with | cons _ _ c xs h1 h2 =>
    rw [List.length_append, h1.len, ih h2, List.length_cons]; omega
theorem KidsR.app {l : List Fil} {xs : List V} (h : KidsR l xs) {f : Fil} {c : List V} (hf : FilR f c) : KidsR (l ++ [f]) (xs ++ c) := by
  induction l generalizing xs with
  | nil => cases h; have := KidsR.cons f [] c [] hf .nil; rw [List.append_nil] at this; exact this
  | cons g r ih =>
    cases h with | cons _ _ c' xs h1 h2 =>
    rw [List.append_assoc]
    exact .cons g (r ++ [f]) c' _ h1 (ih h2)
theorem KidsR.one {f : Fil} {c : List V} (hf : FilR f c) : KidsR [f] c := by have := KidsR.cons f [] c [] hf .nil; rwa [List.append_nil] at this
/-- The shared memory behind a call of the parser: only the place has changed, and tokens are new. -/
structure Hop (h h' : H) (id : Nat) : Prop where
  next : h'.next = h.next
  nt : h.nt ≤ h'.nt
  tips : ∀ t, t < h.nt → al h'.tips t = al h.tips t
  objs : ∀ j, j ≠ id → al h'.objs j = al h.objs j
theorem Hop.trans {h h1 h2 : H} {id : Nat} (a : Hop h h1 id) (b : Hop h1 h2 id) : Hop h h2 id :=
  ⟨b.next.trans a.next, Nat.le_trans a.nt b.nt, fun t ht => (b.tips t (Nat.lt_of_lt_of_le ht a.nt)).trans (a.tips t ht), fun j hj => (b.objs j hj).trans (a.objs j hj)⟩
theorem Hop.set (h : H) (id : Nat) (ts : List Tok) (e a : Nat) : Hop h (setAt h id ts e a) id :=
  ⟨rfl, Nat.le_refl _, fun _ _ => rfl, fun j hj => by show al (alSet _ _ _) _ = _; rw [al_set, if_neg (fun h => hj h)]⟩
end Go.Proofs.YtbhclhgljnoioaaDoor
