/- lang: what is parsed, as a function of the tokens. -/
import Derived.Test.YtpcjhfchpelonaaGreatDoorPs1
set_option linter.unusedSimpArgs false
set_option linter.unusedVariables false
namespace Go.Proofs.YtpcjhfchpelonaaGreatDoor
open Ai
inductive Fil where
 | mk (k : Int) (name text : List UInt8) (kids : List Fil)
def fil0 : Fil := .mk 0 [] [] []
inductive PQ where
 | parse (by_ deep : Nat)
 | more (by_ deep : Nat) (acc : List Fil)
 | unary (deep : Nat)
 | word (deep : Nat)
 | nested (deep : Nat)
 | list (k : Int) (deep : Nat)
 | items (k : Int) (deep : Nat) (acc : List Fil)
abbrev PR := Fil × Nat × Nat
def wordOf (by_ : Nat) : List UInt8 := if by_ = 2 then [97, 110, 100] else [111, 114]
def kindOf (by_ : Nat) : Int := if by_ = 2 then 5 else 6
def pstep (ts : List Tok) (e : Nat) (rec : PQ → Nat → Option PR) : PQ → Nat → Option PR
 | .parse by_ deep, a =>
   if 40 < deep then some (fil0, 51, a) else
   if 2 < by_ then rec (.unary deep) a else
   (rec (.parse (by_ + 1) deep) a).bind fun r =>
     if r.2.1 ≠ 0 ∨ isW ts e r.2.2 (wordOf by_) = false then some r else rec (.more by_ deep [r.1]) r.2.2
 | .more by_ deep acc, a =>
   if isW ts e a (wordOf by_) = false then some (.mk (kindOf by_) [] [] acc, 0, a) else
   (rec (.parse (by_ + 1) deep) (a + 1)).bind fun r =>
     if r.2.1 ≠ 0 then some r else rec (.more by_ deep (acc ++ [r.1])) r.2.2
 | .unary deep, a =>
   if isF ts e a = true then
    (if (tokAt ts e (a + 2)).kind = 2 then some (.mk 2 (tokAt ts e a).text (tokAt ts e (a + 2)).text [], 0, a + 3) else some (fil0, 192, a + 2))
   else if isT ts e a [40] = true then
    (rec (.parse 1 (deep + 1)) (a + 1)).bind fun r =>
      if r.2.1 ≠ 0 then some (fil0, r.2.1, r.2.2) else
      if isT ts e r.2.2 [41] = true then some (r.1, 0, r.2.2 + 1) else some (fil0, 192, r.2.2)
   else if (tokAt ts e a).kind ≠ 1 then some (fil0, 192, a) else
   (rec (.word deep) a).bind fun r => if r.2.1 ≠ 0 then some (fil0, r.2.1, r.2.2) else some r
 | .word deep, a =>
   if (tokAt ts e a).text = [97, 108, 108] then some (fil0, 0, a + 1) else
   if (tokAt ts e a).text = [112, 117, 116] then some (.mk 3 [] [] [], 0, a + 1) else
   if (tokAt ts e a).text = [110, 111, 116] then (rec (.nested deep) (a + 1)).bind fun r => some (.mk 4 [] [] [r.1], r.2.1, r.2.2) else
   if (tokAt ts e a).text = [107, 101, 121] then
    (if isT ts e (a + 1) [94] = true then
      (if (tokAt ts e (a + 2)).kind = 2 then some (.mk 1 [] (tokAt ts e (a + 2)).text [], 0, a + 3) else some (.mk 1 [] [] [], 192, a + 2))
     else some (fil0, 192, a + 1)) else
   if (tokAt ts e a).text = [97, 110, 121] then rec (.list 6 deep) (a + 1) else
   if (tokAt ts e a).text = [101, 97, 99, 104] then rec (.list 5 deep) (a + 1) else
   some (fil0, 192, a)
 | .nested deep, a => if 40 ≤ deep then some (fil0, 51, a) else rec (.unary (deep + 1)) a
 | .list k deep, a =>
   if isT ts e a [40] = false then some (.mk k [] [] [], 192, a) else
   if isT ts e (a + 1) [41] = true then some (.mk k [] [] [], 0, a + 2) else
   rec (.items k deep []) (a + 1)
 | .items k deep acc, a =>
   (rec (.parse 1 (deep + 1)) a).bind fun r =>
     if r.2.1 ≠ 0 then some (.mk k [] [] acc, r.2.1, r.2.2) else
     if isT ts e r.2.2 [41] = true then some (.mk k [] [] (acc ++ [r.1]), 0, r.2.2 + 1) else
     if isT ts e r.2.2 [44] = true then rec (.items k deep (acc ++ [r.1])) (r.2.2 + 1) else
     some (.mk k [] [] (acc ++ [r.1]), 192, r.2.2)
def P (ts : List Tok) (e : Nat) : Nat → PQ → Nat → Option PR
 | 0 => fun _ _ => none
 | n + 1 => pstep ts e (P ts e n)
theorem bind_mono {α β : Type} {x y : Option α} {f g : α → Option β} (h : ∀ r, x = some r → y = some r) (hf : ∀ a r, f a = some r → g a = some r) : ∀ r, x.bind f = some r → y.bind g = some r := by
 intro r hr
 cases hx : x with
 | none => rw [hx] at hr; cases hr
 | some a => rw [hx] at hr; rw [h a hx]; exact hf a r hr
theorem pstep_mono {ts : List Tok} {e : Nat} {f g : PQ → Nat → Option PR} (h : ∀ q a r, f q a = some r → g q a = some r) : ∀ q a r, pstep ts e f q a = some r → pstep ts e g q a = some r := by
 intro q a r
 cases q with
 | parse by_ deep =>
   simp only [pstep]
   repeat' split
   · exact id
   · exact h _ _ _
   · refine bind_mono (h _ _) (fun b r => ?_) r
     split
     · exact id
     · exact h _ _ _
 | more by_ deep acc =>
   simp only [pstep]
   split
   · exact id
   · refine bind_mono (h _ _) (fun b r => ?_) r
     split
     · exact id
     · exact h _ _ _
 | unary deep =>
   simp only [pstep]
   split
   · exact id
   · split
     · exact bind_mono (h _ _) (fun b r => id) r
     · split
       · exact id
       · exact bind_mono (h _ _) (fun b r => id) r
 | word deep =>
   simp only [pstep]
   split
   · exact id
   · split
     · exact id
     · split
       · exact bind_mono (h _ _) (fun b r => id) r
       · split
         · exact id
         · split
           · exact h _ _ _
           · split
             · exact h _ _ _
             · exact id
 | nested deep =>
   simp only [pstep]
   split
   · exact id
   · exact h _ _ _
 | list k deep =>
   simp only [pstep]
   split
   · exact id
   · split
     · exact id
     · exact h _ _ _
 | items k deep acc =>
   simp only [pstep]
   refine bind_mono (h _ _) (fun b r => ?_) r
   split
   · exact id
   · split
     · exact id
     · split
       · exact h _ _ _
       · exact id
theorem P_succ {ts : List Tok} {e : Nat} : ∀ (n : Nat) (q : PQ) (a : Nat) (r : PR), P ts e n q a = some r → P ts e (n + 1) q a = some r := by
 intro n
 induction n with
 | zero => intro q a r h; cases h
 | succ n ih => intro q a r h; exact pstep_mono ih q a r h
theorem P_mono {ts : List Tok} {e : Nat} {n m : Nat} (hm : n ≤ m) {q : PQ} {a : Nat} {r : PR} (h : P ts e n q a = some r) : P ts e m q a = some r := by
 induction hm with
 | refl => exact h
 | step _ ih => exact P_succ _ _ _ _ ih
def PQ.rank : PQ → Nat
 | .parse by_ _ => 8 - by_
 | .more .. => 0
 | .unary _ => 4
 | .word _ => 3
 | .nested _ => 5
 | .list .. => 0
 | .items .. => 9
theorem isF_lt {ts : List Tok} {e a : Nat} (h : isF ts e a = true) : a + 1 < ts.length := by
 unfold isF at h
 rw [Bool.and_eq_true] at h
 exact isT_lt h.2
theorem kind_lt {ts : List Tok} {e a : Nat} (h : (tokAt ts e a).kind = 2) : a < ts.length := tokAt_lt (e := e) (by omega)
theorem kind_lt1 {ts : List Tok} {e a : Nat} (h : (tokAt ts e a).kind = 1) : a < ts.length := tokAt_lt (e := e) (by omega)
theorem P_total (ts : List Tok) (e : Nat) : ∀ (n : Nat) (q : PQ) (a : Nat), a ≤ ts.length → (match q with | .word _ => a < ts.length | .parse b _ => 1 ≤ b ∧ b ≤ 3 | .more b _ _ => 1 ≤ b ∧ b ≤ 2 | _ => True) → 20 * (ts.length - a) + q.rank < n →
  ∃ r, P ts e n q a = some r ∧ a ≤ r.2.2 ∧ r.2.2 ≤ ts.length := by
 intro n
 induction n with
 | zero => intro q a _ _ h; omega
 | succ n ih =>
   intro q a ha hq hn
   show ∃ r, pstep ts e (P ts e n) q a = some r ∧ _
   cases q with
   | parse by_ deep =>
     simp only [PQ.rank] at hn hq
     simp only [pstep]
     split
     · exact ⟨_, rfl, Nat.le_refl _, ha⟩
     · split
       · exact ih (.unary deep) a ha trivial (by simp only [PQ.rank]; omega)
       · obtain ⟨r, e1, h1, h2⟩ := ih (.parse (by_ + 1) deep) a ha (by simp only; omega) (by simp only [PQ.rank]; omega)
         rw [e1, Option.bind_some]
         split
         · exact ⟨r, rfl, h1, h2⟩
         · obtain ⟨r', e2, h3, h4⟩ := ih (.more by_ deep [r.1]) r.2.2 h2 (by simp only; omega) (by simp only [PQ.rank]; omega)
           exact ⟨r', e2, by omega, h4⟩
   | more by_ deep acc =>
     simp only [PQ.rank] at hn hq
     simp only [pstep]
     split
     · exact ⟨_, rfl, Nat.le_refl _, ha⟩
     · rename_i hw
       have hl := isW_lt (by simpa using hw : isW ts e a (wordOf by_) = true)
       obtain ⟨r, e1, h1, h2⟩ := ih (.parse (by_ + 1) deep) (a + 1) (by omega) (by simp only; omega) (by simp only [PQ.rank]; omega)
       rw [e1, Option.bind_some]
       split
       · exact ⟨r, rfl, by omega, h2⟩
       · obtain ⟨r', e2, h3, h4⟩ := ih (.more by_ deep (acc ++ [r.1])) r.2.2 h2 (by simp only; omega) (by simp only [PQ.rank]; omega)
         exact ⟨r', e2, by omega, h4⟩
   | unary deep =>
     simp only [PQ.rank] at hn
     simp only [pstep]
     split
     · rename_i hf
       have hl := isF_lt hf
       split
       · rename_i hk
         have := kind_lt hk
         exact ⟨_, rfl, by simp only; omega, by simp only; omega⟩
       · exact ⟨_, rfl, by simp only; omega, by simp only; omega⟩
     · split
       · rename_i ht
         have hl := isT_lt ht
         obtain ⟨r, e1, h1, h2⟩ := ih (.parse 1 (deep + 1)) (a + 1) (by omega) (by simp only; omega) (by simp only [PQ.rank]; omega)
         rw [e1, Option.bind_some]
         split
         · exact ⟨_, rfl, by simp only; omega, h2⟩
         · split
           · rename_i ht2
             have := isT_lt ht2
             exact ⟨_, rfl, by simp only; omega, by simp only; omega⟩
           · exact ⟨_, rfl, by simp only; omega, by simp only; omega⟩
       · split
         · exact ⟨_, rfl, Nat.le_refl _, ha⟩
         · rename_i hk
           have hl := kind_lt1 (Decidable.not_not.1 hk)
           obtain ⟨r, e1, h1, h2⟩ := ih (.word deep) a ha hl (by simp only [PQ.rank]; omega)
           rw [e1, Option.bind_some]
           split
           · exact ⟨_, rfl, h1, h2⟩
           · exact ⟨_, rfl, h1, h2⟩
   | word deep =>
     simp only [PQ.rank] at hn hq
     simp only [pstep]
     split
     · exact ⟨_, rfl, by simp only; omega, by simp only; omega⟩
     · split
       · exact ⟨_, rfl, by simp only; omega, by simp only; omega⟩
       · split
         · obtain ⟨r, e1, h1, h2⟩ := ih (.nested deep) (a + 1) (by omega) trivial (by simp only [PQ.rank]; omega)
           rw [e1, Option.bind_some]
           exact ⟨_, rfl, by simp only; omega, h2⟩
         · split
           · split
             · rename_i ht
               have := isT_lt ht
               split
               · rename_i hk
                 have := kind_lt hk
                 exact ⟨_, rfl, by simp only; omega, by simp only; omega⟩
               · exact ⟨_, rfl, by simp only; omega, by simp only; omega⟩
             · exact ⟨_, rfl, by simp only; omega, by simp only; omega⟩
           · split
             · obtain ⟨r, e1, h1, h2⟩ := ih (.list 6 deep) (a + 1) (by omega) trivial (by simp only [PQ.rank]; omega)
               exact ⟨r, e1, by omega, h2⟩
             · split
               · obtain ⟨r, e1, h1, h2⟩ := ih (.list 5 deep) (a + 1) (by omega) trivial (by simp only [PQ.rank]; omega)
                 exact ⟨r, e1, by omega, h2⟩
               · exact ⟨_, rfl, Nat.le_refl _, ha⟩
   | nested deep =>
     simp only [PQ.rank] at hn
     simp only [pstep]
     split
     · exact ⟨_, rfl, Nat.le_refl _, ha⟩
     · exact ih (.unary (deep + 1)) a ha trivial (by simp only [PQ.rank]; omega)
   | list k deep =>
     simp only [PQ.rank] at hn
     simp only [pstep]
     split
     · exact ⟨_, rfl, Nat.le_refl _, ha⟩
     · rename_i ht
       have hl := isT_lt (by simpa using ht : isT ts e a [40] = true)
       split
       · rename_i ht2
         have := isT_lt ht2
         exact ⟨_, rfl, by simp only; omega, by simp only; omega⟩
       · obtain ⟨r, e1, h1, h2⟩ := ih (.items k deep []) (a + 1) (by omega) trivial (by simp only [PQ.rank]; omega)
         exact ⟨r, e1, by omega, h2⟩
   | items k deep acc =>
     simp only [PQ.rank] at hn
     simp only [pstep]
     obtain ⟨r, e1, h1, h2⟩ := ih (.parse 1 (deep + 1)) a ha (by simp only; omega) (by simp only [PQ.rank]; omega)
     rw [e1, Option.bind_some]
     split
     · exact ⟨_, rfl, h1, h2⟩
     · split
       · rename_i ht
         have := isT_lt ht
         exact ⟨_, rfl, by simp only; omega, by simp only; omega⟩
       · split
         · rename_i ht
           have := isT_lt ht
           obtain ⟨r', e2, h3, h4⟩ := ih (.items k deep (acc ++ [r.1])) (r.2.2 + 1) (by omega) trivial (by simp only [PQ.rank]; omega)
           exact ⟨r', e2, by omega, h4⟩
         · exact ⟨_, rfl, h1, h2⟩
/-! ### Filters as values -/
mutual
inductive FilR : Fil → List V → Prop
 | mk (k : Int) (name text : List UInt8) (kids : List Fil) (xs : List V) (n : Nat) (tk : Tk) (hn : n = kids.length) (h : KidsR kids xs) : FilR (.mk k name text kids) [.i .i64 k, .s name, .s text, .sl xs n tk]
inductive KidsR : List Fil → List V → Prop
 | nil : KidsR [] []
 | cons (f : Fil) (r : List Fil) (c xs : List V) (h1 : FilR f c) (h2 : KidsR r xs) : KidsR (f :: r) (c ++ xs)
end
theorem FilR.len {f : Fil} {c : List V} (h : FilR f c) : c.length = 4 := by cases h; rfl
theorem KidsR.len {l : List Fil} {xs : List V} (h : KidsR l xs) : xs.length = l.length * 4 := by
 induction l generalizing xs with
 | nil => cases h; rfl
 | cons f r ih =>
   cases h with | cons _ _ c xs h1 h2 =>
   rw [List.length_append, h1.len, ih h2, List.length_cons]; omega
theorem KidsR.app {l : List Fil} {xs : List V} (h : KidsR l xs) {f : Fil} {c : List V} (hf : FilR f c) : KidsR (l ++ [f]) (xs ++ c) := by
 induction l generalizing xs with
 | nil => cases h; have := KidsR.cons f [] c [] hf .nil; rw [List.append_nil] at this; exact this
 | cons g r ih =>
   cases h with | cons _ _ c' xs h1 h2 =>
   rw [List.append_assoc]
   exact .cons g (r ++ [f]) c' _ h1 (ih h2)
theorem KidsR.one {f : Fil} {c : List V} (hf : FilR f c) : KidsR [f] c := by have := KidsR.cons f [] c [] hf .nil; rwa [List.append_nil] at this
theorem fil0R : FilR fil0 [.i .i64 0, .s [], .s [], .sl [] 0 .nil] := .mk _ _ _ _ _ _ _ rfl .nil
structure Hop (h h' : H) (id : Nat) : Prop where
 next : h'.next = h.next
 nt : h.nt ≤ h'.nt
 tips : ∀ t, t < h.nt → al h'.tips t = al h.tips t
 objs : ∀ j, j ≠ id → al h'.objs j = al h.objs j
theorem Hop.refl (h : H) (id : Nat) : Hop h h id := ⟨rfl, Nat.le_refl _, fun _ _ => rfl, fun _ _ => rfl⟩
theorem Hop.trans {h h1 h2 : H} {id : Nat} (a : Hop h h1 id) (b : Hop h1 h2 id) : Hop h h2 id :=
 ⟨b.next.trans a.next, Nat.le_trans a.nt b.nt, fun t ht => (b.tips t (Nat.lt_of_lt_of_le ht a.nt)).trans (a.tips t ht), fun j hj => (b.objs j hj).trans (a.objs j hj)⟩
theorem Hop.set (h : H) (id : Nat) (ts : List Tok) (e a : Nat) : Hop h (setAt h id ts e a) id :=
 ⟨rfl, Nat.le_refl _, fun _ _ => rfl, fun j hj => by show al (alSet _ _ _) _ = _; rw [al_set, if_neg (fun h => hj h)]⟩
end Go.Proofs.YtpcjhfchpelonaaGreatDoor
set_option linter.unusedSimpArgs false
set_option linter.unusedVariables false
namespace Go.Proofs.YtpcjhfchpelonaaGreatDoor
open Nat (reduceMul reduceAdd reduceSub reduceEqDiff reduceLeDiff reduceLT)
open Ai
theorem P_le {ts : List Tok} {e n : Nat} {q : PQ} {a : Nat} {r : PR} (ha : a ≤ ts.length) (hq : match q with | .word _ => a < ts.length | .parse b _ => 1 ≤ b ∧ b ≤ 3 | .more b _ _ => 1 ≤ b ∧ b ≤ 2 | _ => True) (h : P ts e n q a = some r) : a ≤ r.2.2 ∧ r.2.2 ≤ ts.length := by
 obtain ⟨r', h1, h2, h3⟩ := P_total ts e (20 * (ts.length - a) + q.rank + 1 + n) q a ha hq (by omega)
 have := P_mono (show n ≤ 20 * (ts.length - a) + q.rank + 1 + n by omega) h
 rw [this] at h1
 cases h1
 exact ⟨h2, h3⟩
section
variable (ts : List Tok) (e id N : Nat)
def Res (h : H) (v : V) (h' : H) (r : PR) : Prop := ∃ c, v = .tup [.agg c, .i .i64 (r.2.1 : Nat)] ∧ FilR r.1 c ∧ Hop h h' id ∧ SO h' id ts e r.2.2
def R_parse (a : List V) (h : H) (v : V) (h' : H) : Prop := ∀ (b d at_ : Nat) (r : PR), a = [.p id 0, .i .i64 (b : Nat), .i .i64 (d : Nat)] → SO h id ts e at_ → P ts e N (.parse b d) at_ = some r → Res ts e id h v h' r
def R_one (q : Nat → PQ) (a : List V) (h : H) (v : V) (h' : H) : Prop := ∀ (d at_ : Nat) (r : PR), a = [.p id 0, .i .i64 (d : Nat)] → SO h id ts e at_ → P ts e N (q d) at_ = some r → Res ts e id h v h' r
def R_list (a : List V) (h : H) (v : V) (h' : H) : Prop := ∀ (k : Int) (d at_ : Nat) (r : PR), a = [.p id 0, .i .i64 k, .i .i64 (d : Nat)] → SO h id ts e at_ → P ts e N (.list k d) at_ = some r → Res ts e id h v h' r
noncomputable def YN := ys [(76, pick 76 (R_peek ts e id)), (78, pick 78 (R_take ts e id)), (80, pick 80 (R_is ts e id)), (138, pick 138 (R_joins ts e id)), (162, pick 162 (R_field ts e id)), (163, pick 163 (R_text ts e id)),
 (109, pick 109 (R_parse ts e id N)), (137, pick 137 (R_one ts e id N .unary)), (164, pick 164 (R_one ts e id N .word)), (178, pick 178 (R_one ts e id N .nested)), (179, pick 179 (R_list ts e id N))]
theorem t_YN : Hp.TellsI tabx told (YN ts e id N) := itells_cons pick_tells (itells_cons pick_tells (itells_cons pick_tells (itells_cons pick_tells (itells_cons pick_tells (itells_cons pick_tells (itells_cons pick_tells (itells_cons pick_tells (itells_cons pick_tells (itells_cons pick_tells (itells_cons pick_tells itells_nil))))))))))
variable {ts e id N}
theorem y_peek {h : H} {a : Nat} (ho : SO h id ts e a) : YN ts e id N 76 [.p id 0] h = some (.agg [.i .i64 (tokAt ts e a).kind, .s (tokAt ts e a).text, .i .i64 (tokAt ts e a).at_], h) := peek_eq ts e id ho
theorem y_take {h : H} {a : Nat} (ho : SO h id ts e a) (hl : a < ts.length) : YN ts e id N 78 [.p id 0] h = some (.agg [.i .i64 (tokAt ts e a).kind, .s (tokAt ts e a).text, .i .i64 (tokAt ts e a).at_], setAt h id ts e (a + 1)) := take_eq ts e id ho hl
theorem y_is {h : H} {a : Nat} (ho : SO h id ts e a) (tx : List UInt8) : YN ts e id N 80 [.p id 0, .i .i64 4, .s tx] h = some (.b (isT ts e a tx), bif isT ts e a tx then setAt h id ts e (a + 1) else h) := is_eq ts e id ho tx
theorem y_joins {h : H} {a : Nat} (ho : SO h id ts e a) (tx : List UInt8) : YN ts e id N 138 [.p id 0, .s tx] h = some (.b (isW ts e a tx), h) := joins_eq ts e id ho tx
theorem y_field {h : H} {a : Nat} (ho : SO h id ts e a) : YN ts e id N 162 [.p id 0] h = some (.b (isF ts e a), h) := field_eq ts e id ho
theorem y_text {h : H} {a : Nat} (ho : SO h id ts e a) : YN ts e id N 163 [.p id 0] h = some (textV ts e a, if (tokAt ts e a).kind = 2 then setAt h id ts e (a + 1) else h) := text_eq ts e id ho
def S_parse (ts : List Tok) (e id N : Nat) : Prop := ∀ (b d at_ : Nat) (r : PR) (h : H), 1 ≤ b → b ≤ 3 → d ≤ 41 → SO h id ts e at_ → P ts e N (.parse b d) at_ = some r →
 ∃ v h', Hp.CompI tabx told 109 [.p id 0, .i .i64 (b : Nat), .i .i64 (d : Nat)] h v h' ∧ Res ts e id h v h' r
def S_one (ts : List Tok) (e id N : Nat) (g : FuncId) (q : Nat → PQ) (pre : Nat → Prop) : Prop := ∀ (d at_ : Nat) (r : PR) (h : H), d ≤ 40 → pre at_ → SO h id ts e at_ → P ts e N (q d) at_ = some r →
 ∃ v h', Hp.CompI tabx told g [.p id 0, .i .i64 (d : Nat)] h v h' ∧ Res ts e id h v h' r
def S_list (ts : List Tok) (e id N : Nat) : Prop := ∀ (k : Int) (d at_ : Nat) (r : PR) (h : H), d ≤ 40 → SO h id ts e at_ → P ts e N (.list k d) at_ = some r →
 ∃ v h', Hp.CompI tabx told 179 [.p id 0, .i .i64 k, .i .i64 (d : Nat)] h v h' ∧ Res ts e id h v h' r
theorem call_parse (S : S_parse ts e id N) {b d a : Nat} {r : PR} {h : H} (h1 : 1 ≤ b) (h2 : b ≤ 3) (h3 : d ≤ 41) (ho : SO h id ts e a) (hp : P ts e N (.parse b d) a = some r) :
  ∃ c h', YN ts e id N 109 [.p id 0, .i .i64 (b : Nat), .i .i64 (d : Nat)] h = some (.tup [.agg c, .i .i64 (r.2.1 : Nat)], h') ∧ FilR r.1 c ∧ Hop h h' id ∧ SO h' id ts e r.2.2 := by
 obtain ⟨v, h', hc, hr⟩ := S b d a r h h1 h2 h3 ho hp
 obtain ⟨v, h', e1, r1⟩ := pick_spec (R := R_parse ts e id N) hc (by
  intro b' d' at' r' e1 ho' hp'
  simp only [List.cons.injEq, V.i.injEq, true_and, and_true] at e1
  obtain ⟨e1, e2⟩ := e1
  have e1 : b = b' := by omega
  have e2 : d = d' := by omega
  subst e1 e2
  rw [← ho.uniq ho', hp] at hp'
  cases hp'
  exact hr)
 obtain ⟨c, rfl, q1, q2, q3⟩ := r1 b d a r rfl ho hp
 exact ⟨c, h', e1, q1, q2, q3⟩
theorem call_one {g : FuncId} {q : Nat → PQ} {pre : Nat → Prop} (S : S_one ts e id N g q pre) {d a : Nat} {r : PR} {h : H} (h3 : d ≤ 40) (hpre : pre a) (ho : SO h id ts e a) (hp : P ts e N (q d) a = some r) :
  ∃ c h', pick g (R_one ts e id N q) [.p id 0, .i .i64 (d : Nat)] h = some (.tup [.agg c, .i .i64 (r.2.1 : Nat)], h') ∧ FilR r.1 c ∧ Hop h h' id ∧ SO h' id ts e r.2.2 := by
 obtain ⟨v, h', hc, hr⟩ := S d a r h h3 hpre ho hp
 obtain ⟨v, h', e1, r1⟩ := pick_spec (R := R_one ts e id N q) hc (by
  intro d' at' r' e1 ho' hp'
  simp only [List.cons.injEq, V.i.injEq, true_and, and_true] at e1
  have e2 : d = d' := by omega
  subst e2
  rw [← ho.uniq ho', hp] at hp'
  cases hp'
  exact hr)
 obtain ⟨c, rfl, q1, q2, q3⟩ := r1 d a r rfl ho hp
 exact ⟨c, h', e1, q1, q2, q3⟩
theorem call_list (S : S_list ts e id N) {k : Int} {d a : Nat} {r : PR} {h : H} (h3 : d ≤ 40) (ho : SO h id ts e a) (hp : P ts e N (.list k d) a = some r) :
  ∃ c h', YN ts e id N 179 [.p id 0, .i .i64 k, .i .i64 (d : Nat)] h = some (.tup [.agg c, .i .i64 (r.2.1 : Nat)], h') ∧ FilR r.1 c ∧ Hop h h' id ∧ SO h' id ts e r.2.2 := by
 obtain ⟨v, h', hc, hr⟩ := S k d a r h h3 ho hp
 obtain ⟨v, h', e1, r1⟩ := pick_spec (R := R_list ts e id N) hc (by
  intro k' d' at' r' e1 ho' hp'
  simp only [List.cons.injEq, V.i.injEq, true_and, and_true] at e1
  obtain ⟨e1, e2⟩ := e1
  have e2 : d = d' := by omega
  subst e1 e2
  rw [← ho.uniq ho', hp] at hp'
  cases hp'
  exact hr)
 obtain ⟨c, rfl, q1, q2, q3⟩ := r1 k d a r rfl ho hp
 exact ⟨c, h', e1, q1, q2, q3⟩
theorem UH178 : type_of% (@Hp_open _ _ B178.eq_1) := @Hp_open _ _ B178.eq_1
def kz178 (_ : Nat) : List Nat := []
theorem s_nested (hu : S_one ts e id N 137 .unary (fun _ => True)) : S_one ts e id (N + 1) 178 .nested (fun _ => True) := by
 intro d a r h hd _ ho hp
 replace hp : pstep ts e (P ts e N) (.nested d) a = some r := hp
 simp only [pstep] at hp
 refine compI_ex (xf := noX) (kz := kz178) (fn := af178) tells_noX (t_YN ts e id N) rfl (Nat.le_of_ble_eq_true rfl) ?_
 show Hp.M _ _ _ (.code B178) _ (St.init gl0 4 _ _) (fun ex st => ∃ v h', Hp.FinI [.cell 4 true 4, .tmp 5] v h' ex st ∧ _)
 rw [UH178]
 by_cases hk : 40 ≤ d
 · rw [if_pos hk] at hp
   cases hp
   have e1 : decide ((40 : Int) ≤ (d : Int)) = true := decide_eq_true (by omega)
   simp only [e1, go_sem, reduceIte, reduceMul, reduceAdd, reduceSub, reduceEqDiff, reduceLeDiff, reduceLT]
   exact ⟨_, _, ⟨rfl, rfl⟩, _, rfl, fil0R, Hop.refl _ _, ho⟩
 · rw [if_neg hk] at hp
   have e1 : decide ((40 : Int) ≤ (d : Int)) = false := decide_eq_false (by omega)
   have w1 : wr .i64 ((d : Int) + 1) = ((d + 1 : Nat) : Int) := by rw [wr64] <;> omega
   obtain ⟨c, h', e2, q1, q2, q3⟩ := call_one hu (by omega) trivial ho hp
   replace e2 : YN ts e id N 137 _ _ = _ := e2
   obtain ⟨f, er, a'⟩ := r
   replace q1 : FilR f c := q1
   cases q1 with | mk k nm tx kids xs n tk hn hx =>
   simp only [e1, w1, e2, go_sem, reduceIte, reduceMul, reduceAdd, reduceSub, reduceEqDiff, reduceLeDiff, reduceLT]
   exact ⟨_, _, ⟨rfl, rfl⟩, _, rfl, .mk k nm tx kids xs n tk hn hx, q2, q3⟩
end
theorem SO.objs {h h' : H} {id : Nat} {ts : List Tok} {e a : Nat} (ho : SO h id ts e a) (hh : h'.objs = h.objs) : SO h' id ts e a := by unfold SO; rw [hh]; exact ho
def TkG (h0 h : H) (m : Nat) (tk : Tk) : Prop := tk = .nil ∨ tk = .full ∨ ∃ t, tk = .own t ∧ h0.nt ≤ t ∧ t < h.nt ∧ al h.tips t = some (m, 24)
theorem TkG.hop {h0 h h' : H} {m id : Nat} {tk : Tk} (g : TkG h0 h m tk) (hp : Hop h h' id) : TkG h0 h' m tk := by
 rcases g with g | g | ⟨t, g1, g2, g3, g4⟩
 · exact .inl g
 · exact .inr (.inl g)
 · exact .inr (.inr ⟨t, g1, g2, Nat.lt_of_lt_of_le g3 hp.nt, (hp.tips t g3).trans g4⟩)
theorem app_tk {h0 : H} {nx : Nat} {obs : List (Nat × Ai.Obj)} {nt : Nat} {tips : List (Nat × (Nat × TypeId))} {m id : Nat} {tk : Tk} (g : TkG h0 ⟨nx, obs, nt, tips⟩ m tk) {xs c : List V} (hx : xs.length = m * 4) (hc : c.length = 4) (h1 : allOne c = true) (hm : m + 1 ≤ most) (hp : Hop h0 ⟨nx, obs, nt, tips⟩ id) :
  ∃ tk' nt' tips', (∀ gl T its loc, St.app ⟨gl, T, its, loc, ⟨nx, obs, nt, tips⟩⟩ 24 4 (.sl xs m tk) (.sl c 1 .full) = some (.sl (xs ++ c) (m + 1) tk', ⟨gl, T, its, loc, ⟨nx, obs, nt', tips'⟩⟩)) ∧ TkG h0 ⟨nx, obs, nt', tips'⟩ (m + 1) tk' ∧ Hop h0 ⟨nx, obs, nt', tips'⟩ id := by
 rcases g with rfl | rfl | ⟨t, rfl, g2, g3, g4⟩
 · refine ⟨.own nt, nt + 1, (nt, (m + 1, 24)) :: tips, fun gl T its loc => ?_, .inr (.inr ⟨nt, rfl, hp.nt, Nat.lt_succ_self _, ?_⟩), ⟨hp.next, Nat.le_succ_of_le hp.nt, fun t ht => ?_, hp.objs⟩⟩
   · simp only [hx, hc, h1, hm, go_sem, reduceIte, reduceMul, reduceAdd, reduceSub, reduceEqDiff, reduceLeDiff, reduceLT]
   · simp only [al, go_sem, reduceIte, reduceMul, reduceAdd, reduceSub, reduceEqDiff, reduceLeDiff, reduceLT]
   · have := hp.tips t ht
     have hne : Nat.beq nt t = false := by
      cases hb : Nat.beq nt t with
      | true => have h1 := Nat.eq_of_beq_eq_true hb; have := hp.nt; simp only at this; omega
      | false => rfl
     show al ((nt, _) :: tips) t = _
     simp only [al, hne, cond_false]; exact this
 · refine ⟨.own nt, nt + 1, (nt, (m + 1, 24)) :: tips, fun gl T its loc => ?_, .inr (.inr ⟨nt, rfl, hp.nt, Nat.lt_succ_self _, ?_⟩), ⟨hp.next, Nat.le_succ_of_le hp.nt, fun t ht => ?_, hp.objs⟩⟩
   · simp only [hx, hc, h1, hm, go_sem, reduceIte, reduceMul, reduceAdd, reduceSub, reduceEqDiff, reduceLeDiff, reduceLT]
   · simp only [al, go_sem, reduceIte, reduceMul, reduceAdd, reduceSub, reduceEqDiff, reduceLeDiff, reduceLT]
   · have := hp.tips t ht
     have hne : Nat.beq nt t = false := by
      cases hb : Nat.beq nt t with
      | true => have h1 := Nat.eq_of_beq_eq_true hb; have := hp.nt; simp only at this; omega
      | false => rfl
     show al ((nt, _) :: tips) t = _
     simp only [al, hne, cond_false]; exact this
 · refine ⟨.own t, nt, alSet tips t (m + 1, 24), fun gl T its loc => ?_, .inr (.inr ⟨t, rfl, g2, g3, ?_⟩), ⟨hp.next, hp.nt, fun t' ht => ?_, hp.objs⟩⟩
   · simp only at g4
     simp only [hx, hc, h1, hm, g4, go_sem, reduceIte, reduceMul, reduceAdd, reduceSub, reduceEqDiff, reduceLeDiff, reduceLT]
   · simp only [go_sem, reduceIte, reduceMul, reduceAdd, reduceSub, reduceEqDiff, reduceLeDiff, reduceLT]
   · show al (alSet _ _ _) _ = _
     rw [al_set, if_neg (by omega)]
     exact hp.tips t' ht
section
variable {ts : List Tok} {e id N : Nat}
theorem UH137 : type_of% (@Hp_open _ _ B137.eq_1) := @Hp_open _ _ B137.eq_1
def kz137 (_ : Nat) : List Nat := []
theorem s_unary (hps : S_parse ts e id N) (hw : S_one ts e id N 164 .word (fun a => (tokAt ts e a).kind = 1)) : S_one ts e id (N + 1) 137 .unary (fun _ => True) := by
 intro d a r h hd _ ho hp
 replace hp : pstep ts e (P ts e N) (.unary d) a = some r := hp
 simp only [pstep] at hp
 refine compI_ex (xf := noX) (kz := kz137) (fn := af137) tells_noX (t_YN ts e id N) rfl (Nat.le_of_ble_eq_true rfl) ?_
 show Hp.M _ _ _ (.code B137) _ (St.init gl0 6 _ _) (fun ex st => ∃ v h', Hp.FinI [.cell 4 true 4, .tmp 5] v h' ex st ∧ _)
 rw [UH137]
 have y1 := y_peek (N := N) ho
 have y2 := y_field (N := N) ho
 cases hF : isF ts e a with
 | true =>
   rw [hF] at y2
   rw [if_pos hF] at hp
   have hl := isF_lt hF
   have y3 := y_take (N := N) ho (by omega)
   have ho1 := ho.set (b := a + 1) (by omega)
   have y4 := y_take (N := N) ho1 (by omega)
   have ho2 := ho1.set (b := a + 1 + 1) (by omega)
   have y5 := y_text (N := N) ho2
   have hop : Hop h (setAt (setAt h id ts e (a + 1)) id ts e (a + 1 + 1)) id := (Hop.set h id ts e _).trans (Hop.set _ id ts e _)
   by_cases hk : (tokAt ts e (a + 2)).kind = 2
   · rw [if_pos hk] at hp
     cases hp
     have hl2 := kind_lt hk
     have hk' : (tokAt ts e (a + 1 + 1)).kind = 2 := hk
     rw [textV, if_pos hk', if_pos hk'] at y5
     simp only [y1, y2, y3, y4, y5, go_sem, reduceIte, reduceMul, reduceAdd, reduceSub, reduceEqDiff, reduceLeDiff, reduceLT]
     exact ⟨_, _, ⟨rfl, rfl⟩, _, rfl, .mk _ _ _ _ _ _ _ rfl .nil, hop.trans (Hop.set _ id ts e _), ho2.set (b := a + 1 + 1 + 1) (by omega)⟩
   · rw [if_neg hk] at hp
     cases hp
     have hk' : ¬ (tokAt ts e (a + 1 + 1)).kind = 2 := hk
     have f1 : decide ((192 : Int) = 0) = false := by decide
     rw [textV, if_neg hk', if_neg hk'] at y5
     simp only [y1, y2, y3, y4, y5, f1, go_sem, reduceIte, reduceMul, reduceAdd, reduceSub, reduceEqDiff, reduceLeDiff, reduceLT]
     exact ⟨_, _, ⟨rfl, rfl⟩, _, rfl, fil0R, hop, ho2⟩
 | false =>
   rw [hF] at y2
   rw [if_neg (by rw [hF]; decide)] at hp
   have y3 := y_is (N := N) ho [40]
   cases hT : isT ts e a [40] with
   | true =>
     rw [hT, cond_true] at y3
     rw [if_pos hT] at hp
     have hl := isT_lt hT
     have ho1 := ho.set (b := a + 1) (by omega)
     cases hp1 : P ts e N (.parse 1 (d + 1)) (a + 1) with
     | none => rw [hp1] at hp; cases hp
     | some r1 =>
       rw [hp1, Option.bind_some] at hp
       obtain ⟨c, h', y4, q1, q2, q3⟩ := call_parse hps (Nat.le_refl _) (by omega) (by omega) ho1 hp1
       obtain ⟨f1, er, a1⟩ := r1
       simp only at hp q3 y4 q1
       have w1 : wr .i64 ((d : Int) + 1) = ((d + 1 : Nat) : Int) := by rw [wr64] <;> omega
       cases q1 with | mk k nm tx kids xs n tk hn hx =>
       simp only [Int.cast_ofNat_Int] at y4
       by_cases he : er = 0
       · subst he
         rw [if_neg (by simp)] at hp
         have y5 := y_is (N := N) q3 [41]
         cases hT2 : isT ts e a1 [41] with
         | true =>
           rw [if_pos hT2] at hp
           cases hp
           rw [hT2, cond_true] at y5
           have hl2 := isT_lt hT2
           simp only [y1, y2, y3, w1, y4, y5, Int.cast_ofNat_Int, go_sem, reduceIte, reduceMul, reduceAdd, reduceSub, reduceEqDiff, reduceLeDiff, reduceLT]
           exact ⟨_, _, ⟨rfl, rfl⟩, _, rfl, .mk k nm tx kids xs n tk hn hx, ((Hop.set h id ts e _).trans q2).trans (Hop.set _ id ts e _), q3.set (b := a1 + 1) (by omega)⟩
         | false =>
           rw [if_neg (by rw [hT2]; decide)] at hp
           cases hp
           rw [hT2, cond_false] at y5
           have f1 : decide ((192 : Int) = 0) = false := by decide
           simp only [y1, y2, y3, w1, y4, y5, f1, Int.cast_ofNat_Int, go_sem, reduceIte, reduceMul, reduceAdd, reduceSub, reduceEqDiff, reduceLeDiff, reduceLT]
           exact ⟨_, _, ⟨rfl, rfl⟩, _, rfl, fil0R, (Hop.set h id ts e _).trans q2, q3⟩
       · rw [if_pos he] at hp
         cases hp
         have f1 : decide ((er : Int) = 0) = false := decide_eq_false (by omega)
         simp only [y1, y2, y3, w1, y4, f1, Int.cast_ofNat_Int, go_sem, reduceIte, reduceMul, reduceAdd, reduceSub, reduceEqDiff, reduceLeDiff, reduceLT]
         exact ⟨_, _, ⟨rfl, rfl⟩, _, rfl, fil0R, (Hop.set h id ts e _).trans q2, q3⟩
   | false =>
     rw [hT, cond_false] at y3
     rw [if_neg (by rw [hT]; decide)] at hp
     have k1 := kd (tokAt ts e a).kind 1
     simp only [Int.cast_ofNat_Int] at k1
     by_cases hk : (tokAt ts e a).kind = 1
     · have k2 : decide ((tokAt ts e a).kind = 1) = true := decide_eq_true hk
       rw [if_neg (Decidable.not_not.2 hk)] at hp
       cases hp1 : P ts e N (.word d) a with
       | none => rw [hp1] at hp; cases hp
       | some r1 =>
         rw [hp1, Option.bind_some] at hp
         obtain ⟨c, h', y4, q1, q2, q3⟩ := call_one hw hd hk ho hp1
         replace y4 : YN ts e id N 164 _ _ = _ := y4
         obtain ⟨f1, er, a1⟩ := r1
         simp only at hp q3 y4 q1
         cases q1 with | mk k nm tx kids xs n tk hn hx =>
         by_cases he : er = 0
         · subst he
           rw [if_neg (by simp)] at hp
           cases hp
           simp only [y1, y2, y3, k1, k2, y4, Int.cast_ofNat_Int, go_sem, reduceIte, reduceMul, reduceAdd, reduceSub, reduceEqDiff, reduceLeDiff, reduceLT]
           exact ⟨_, _, ⟨rfl, rfl⟩, _, rfl, .mk k nm tx kids xs n tk hn hx, q2, q3⟩
         · rw [if_pos he] at hp
           cases hp
           have f1 : decide ((er : Int) = 0) = false := decide_eq_false (by omega)
           simp only [y1, y2, y3, k1, k2, y4, f1, Int.cast_ofNat_Int, go_sem, reduceIte, reduceMul, reduceAdd, reduceSub, reduceEqDiff, reduceLeDiff, reduceLT]
           exact ⟨_, _, ⟨rfl, rfl⟩, _, rfl, fil0R, q2, q3⟩
     · have k2 : decide ((tokAt ts e a).kind = 1) = false := decide_eq_false hk
       rw [if_pos hk] at hp
       cases hp
       have f1 : decide ((192 : Int) = 0) = false := by decide
       simp only [y1, y2, y3, k1, k2, f1, go_sem, reduceIte, reduceMul, reduceAdd, reduceSub, reduceEqDiff, reduceLeDiff, reduceLT]
       exact ⟨_, _, ⟨rfl, rfl⟩, _, rfl, fil0R, Hop.refl _ _, ho⟩
end
section
variable {ts : List Tok} {e id N : Nat}
theorem UH164 : type_of% (@Hp_open _ _ B164.eq_1) := @Hp_open _ _ B164.eq_1
def kz164 (_ : Nat) : List Nat := []
theorem s_word (hn : S_one ts e id N 178 .nested (fun _ => True)) (hli : S_list ts e id N) : S_one ts e id (N + 1) 164 .word (fun a => (tokAt ts e a).kind = 1) := by
 intro d a r h hd hk ho hp
 replace hp : pstep ts e (P ts e N) (.word d) a = some r := hp
 simp only [pstep] at hp
 have hl := kind_lt1 hk
 refine compI_ex (xf := noX) (kz := kz164) (fn := af164) tells_noX (t_YN ts e id N) rfl (Nat.le_of_ble_eq_true rfl) ?_
 show Hp.M _ _ _ (.code B164) _ (St.init gl0 7 _ _) (fun ex st => ∃ v h', Hp.FinI [.cell 4 true 4, .tmp 5] v h' ex st ∧ _)
 rw [UH164]
 have y1 := y_peek (N := N) ho
 have y2 := y_take (N := N) ho hl
 have ho1 := ho.set (b := a + 1) (by omega)
 have hop := Hop.set h id ts e (a + 1)
 have s1 := strEq_dec (tokAt ts e a).text [97, 108, 108]
 have s2 := strEq_dec (tokAt ts e a).text [112, 117, 116]
 have s3 := strEq_dec (tokAt ts e a).text [110, 111, 116]
 have s4 := strEq_dec (tokAt ts e a).text [107, 101, 121]
 have s5 := strEq_dec (tokAt ts e a).text [97, 110, 121]
 have s6 := strEq_dec (tokAt ts e a).text [101, 97, 99, 104]
 by_cases c1 : (tokAt ts e a).text = [97, 108, 108]
 · rw [decide_eq_true c1] at s1
   rw [if_pos c1] at hp
   cases hp
   simp only [y1, y2, s1, go_sem, reduceIte, reduceMul, reduceAdd, reduceSub, reduceEqDiff, reduceLeDiff, reduceLT]
   exact ⟨_, _, ⟨rfl, rfl⟩, _, rfl, fil0R, hop, ho1⟩
 · rw [decide_eq_false c1] at s1
   rw [if_neg c1] at hp
   by_cases c2 : (tokAt ts e a).text = [112, 117, 116]
   · rw [decide_eq_true c2] at s2
     rw [if_pos c2] at hp
     cases hp
     simp only [y1, y2, s1, s2, go_sem, reduceIte, reduceMul, reduceAdd, reduceSub, reduceEqDiff, reduceLeDiff, reduceLT]
     exact ⟨_, _, ⟨rfl, rfl⟩, _, rfl, .mk _ _ _ _ _ _ _ rfl .nil, hop, ho1⟩
   · rw [decide_eq_false c2] at s2
     rw [if_neg c2] at hp
     by_cases c3 : (tokAt ts e a).text = [110, 111, 116]
     · rw [decide_eq_true c3] at s3
       rw [if_pos c3] at hp
       cases hp1 : P ts e N (.nested d) (a + 1) with
       | none => rw [hp1] at hp; cases hp
       | some r1 =>
         rw [hp1, Option.bind_some] at hp
         cases hp
         obtain ⟨c, h', y4, q1, q2, q3⟩ := call_one hn hd trivial ho1 hp1
         replace y4 : YN ts e id N 178 _ _ = _ := y4
         obtain ⟨f1, er, a1⟩ := r1
         simp only at q3 y4 q1
         have q1' := q1
         cases q1 with | mk k nm tx kids xs n tk hn hx =>
         simp only [y1, y2, s1, s2, s3, y4, go_sem, reduceIte, reduceMul, reduceAdd, reduceSub, reduceEqDiff, reduceLeDiff, reduceLT]
         exact ⟨_, _, ⟨rfl, rfl⟩, _, rfl, .mk _ _ _ _ _ _ _ rfl (KidsR.one q1'), hop.trans q2, q3⟩
     · rw [decide_eq_false c3] at s3
       rw [if_neg c3] at hp
       by_cases c4 : (tokAt ts e a).text = [107, 101, 121]
       · rw [decide_eq_true c4] at s4
         rw [if_pos c4] at hp
         have y3 := y_is (N := N) ho1 [94]
         cases hT : isT ts e (a + 1) [94] with
         | true =>
           rw [hT, cond_true] at y3
           rw [if_pos hT] at hp
           have hl2 := isT_lt hT
           have ho2 := ho1.set (b := a + 1 + 1) (by omega)
           have y5 := y_text (N := N) ho2
           have hop2 := hop.trans (Hop.set (setAt h id ts e (a + 1)) id ts e (a + 1 + 1))
           by_cases hk2 : (tokAt ts e (a + 2)).kind = 2
           · have hk' : (tokAt ts e (a + 1 + 1)).kind = 2 := hk2
             have hl3 := kind_lt hk2
             rw [textV, if_pos hk', if_pos hk'] at y5
             rw [if_pos hk2] at hp
             cases hp
             simp only [y1, y2, s1, s2, s3, s4, y3, y5, go_sem, reduceIte, reduceMul, reduceAdd, reduceSub, reduceEqDiff, reduceLeDiff, reduceLT]
             exact ⟨_, _, ⟨rfl, rfl⟩, _, rfl, .mk _ _ _ _ _ _ _ rfl .nil, hop2.trans (Hop.set _ id ts e _), ho2.set (b := a + 1 + 1 + 1) (by omega)⟩
           · have hk' : ¬ (tokAt ts e (a + 1 + 1)).kind = 2 := hk2
             rw [textV, if_neg hk', if_neg hk'] at y5
             rw [if_neg hk2] at hp
             cases hp
             simp only [y1, y2, s1, s2, s3, s4, y3, y5, go_sem, reduceIte, reduceMul, reduceAdd, reduceSub, reduceEqDiff, reduceLeDiff, reduceLT]
             exact ⟨_, _, ⟨rfl, rfl⟩, _, rfl, .mk _ _ _ _ _ _ _ rfl .nil, hop2, ho2⟩
         | false =>
           rw [hT, cond_false] at y3
           rw [if_neg (by rw [hT]; decide)] at hp
           cases hp
           simp only [y1, y2, s1, s2, s3, s4, y3, go_sem, reduceIte, reduceMul, reduceAdd, reduceSub, reduceEqDiff, reduceLeDiff, reduceLT]
           exact ⟨_, _, ⟨rfl, rfl⟩, _, rfl, fil0R, hop, ho1⟩
       · rw [decide_eq_false c4] at s4
         rw [if_neg c4] at hp
         by_cases c5 : (tokAt ts e a).text = [97, 110, 121]
         · rw [decide_eq_true c5] at s5
           rw [if_pos c5] at hp
           obtain ⟨c, h', y4, q1, q2, q3⟩ := call_list hli hd ho1 hp
           obtain ⟨f1, er, a1⟩ := r
           simp only at q3 y4 q1
           cases q1 with | mk k nm tx kids xs n tk hn hx =>
           simp only [y1, y2, s1, s2, s3, s4, s5, y4, go_sem, reduceIte, reduceMul, reduceAdd, reduceSub, reduceEqDiff, reduceLeDiff, reduceLT]
           exact ⟨_, _, ⟨rfl, rfl⟩, _, rfl, .mk _ _ _ _ _ _ _ hn hx, hop.trans q2, q3⟩
         · rw [decide_eq_false c5] at s5
           rw [if_neg c5] at hp
           by_cases c6 : (tokAt ts e a).text = [101, 97, 99, 104]
           · rw [decide_eq_true c6] at s6
             rw [if_pos c6] at hp
             obtain ⟨c, h', y4, q1, q2, q3⟩ := call_list hli hd ho1 hp
             obtain ⟨f1, er, a1⟩ := r
             simp only at q3 y4 q1
             cases q1 with | mk k nm tx kids xs n tk hn hx =>
             simp only [y1, y2, s1, s2, s3, s4, s5, s6, y4, go_sem, reduceIte, reduceMul, reduceAdd, reduceSub, reduceEqDiff, reduceLeDiff, reduceLT]
             exact ⟨_, _, ⟨rfl, rfl⟩, _, rfl, .mk _ _ _ _ _ _ _ hn hx, hop.trans q2, q3⟩
           · rw [decide_eq_false c6] at s6
             rw [if_neg c6] at hp
             cases hp
             simp only [y1, y2, s1, s2, s3, s4, s5, s6, go_sem, reduceIte, reduceMul, reduceAdd, reduceSub, reduceEqDiff, reduceLeDiff, reduceLT]
             exact ⟨_, _, ⟨rfl, rfl⟩, _, rfl, fil0R, Hop.refl _ _, ho⟩
def K179_1 : List Fr := [.blk 0]
theorem UH179_1 : type_of% (@Hp_open _ _ L179_1.eq_1) := @Hp_open _ _ L179_1.eq_1
theorem UH179 : type_of% (@Hp_open _ _ B179.eq_1) := @Hp_open _ _ B179.eq_1
def kz179 (_ : Nat) : List Nat := [1, 3, 4, 5, 7, 9, 10, 11, 12, 13, 14, 15, 16, 17, 18, 19, 20, 21, 22, 23, 24, 25, 26, 27, 28, 29, 30, 31, 32, 33, 34, 35, 36, 37, 38, 39, 40, 41, 42, 43]
theorem w_items (hps : S_parse ts e id N) (k : Int) (d : Nat) (hd : d ≤ 40) (h0 : H) : ∀ (n : Nat) (acc : List Fil) (xs : List V) (m : Nat) (tk : Tk) (a : Nat) (h : H) (l9 : List (Nat × List V)) (r : PR), n ≤ N → P ts e n (.items k d acc) a = some r → SO h id ts e a → Hop h0 h id → KidsR acc xs → m = acc.length → TkG h0 h m tk → m ≤ a →
  Hp.M noX (YN ts e id N) (kz179) (.code L179_1) (.loop L179_1 :: K179_1) ⟨gl0, (.node E5 (.p id 0) (.node (.node (.node E2 (.l 8 0) E2) .any E3) (.i .i64 (d : Nat)) (.node E3 (.l 6 0) E3))), [], (6, [.i .i64 0, .s [], .s [], .sl [] 0 .nil]) :: (8, [.i .i64 k, .s [], .s [], .sl xs m tk]) :: l9, h⟩
   (fun ex st => ∃ v h', Hp.FinI [.cell 6 true 4, .tmp 7] v h' ex st ∧ Res ts e id h0 v h' r) := by
 intro n
 induction n with
 | zero => intro acc xs m tk a h l9 r _ hp; cases hp
 | succ n ih =>
   intro acc xs m tk a h l9 r hn hp ho hop hkd hm htk hma
   replace hp : pstep ts e (P ts e n) (.items k d acc) a = some r := hp
   simp only [pstep] at hp
   rw [UH179_1]
   cases hp1 : P ts e n (.parse 1 (d + 1)) a with
   | none => rw [hp1] at hp; cases hp
   | some r1 =>
     rw [hp1, Option.bind_some] at hp
     have hle := P_le ho.2.1 (by simp only; omega) hp1
     obtain ⟨c, h', y4, q1, q2, q3⟩ := call_parse hps (Nat.le_refl _) (by omega) (by omega) ho (P_mono (by omega) hp1)
     obtain ⟨f1, er, a1⟩ := r1
     simp only at hp q3 y4 q1 hle
     have w1 : wr .i64 ((d : Int) + 1) = ((d + 1 : Nat) : Int) := by rw [wr64] <;> omega
     have q1' := q1
     cases q1 with | mk k1 nm tx kids xs1 n1 tk1 hn1 hx1 =>
     simp only [Int.cast_ofNat_Int] at y4
     by_cases he : er = 0
     · subst he
       rw [if_neg (by simp)] at hp
       have hml : m + 1 ≤ most := by have := ho.2.2.1; have := ho.2.1; unfold most; omega
       obtain ⟨nx, obs, nt, tips⟩ := h'
       have hxl := hkd.len
       rw [← hm] at hxl
       obtain ⟨tk', nt', tips', hap, g1, g2⟩ := app_tk (htk.hop q2) hxl (c := [.i .i64 k1, .s nm, .s tx, .sl xs1 n1 tk1]) rfl rfl hml (hop.trans q2)
       have ho2 : SO ⟨nx, obs, nt', tips'⟩ id ts e a1 := q3.objs rfl
       have hkd2 := hkd.app q1'
       have y5 := y_is (N := N) ho2 [41]
       cases hT : isT ts e a1 [41] with
       | true =>
         rw [if_pos hT] at hp
         cases hp
         rw [hT, cond_true] at y5
         have hl2 := isT_lt hT
         simp only [w1, y4, hap, y5, splice, Int.cast_ofNat_Int, K179_1, go_sem, reduceIte, reduceMul, reduceAdd, reduceSub, reduceEqDiff, reduceLeDiff, reduceLT]
         exact ⟨_, _, ⟨rfl, rfl⟩, _, rfl, .mk _ _ _ _ _ _ _ (by rw [hm]; simp) hkd2, g2.trans (Hop.set _ id ts e _), ho2.set (b := a1 + 1) (by omega)⟩
       | false =>
         rw [if_neg (by rw [hT]; decide)] at hp
         rw [hT, cond_false] at y5
         have y6 := y_is (N := N) ho2 [44]
         cases hT2 : isT ts e a1 [44] with
         | true =>
           rw [if_pos hT2] at hp
           rw [hT2, cond_true] at y6
           have hl2 := isT_lt hT2
           have := fun l9 => ih _ (xs ++ [.i .i64 k1, .s nm, .s tx, .sl xs1 n1 tk1]) (m + 1) tk' (a1 + 1) (setAt ⟨nx, obs, nt', tips'⟩ id ts e (a1 + 1)) l9 r (by omega) hp (ho2.set (b := a1 + 1) (by omega)) (g2.trans (Hop.set _ id ts e _)) hkd2 (by rw [hm]; simp) (g1.hop (Hop.set _ id ts e _)) (by omega)
           simp only [w1, y4, hap, y5, y6, splice, Int.cast_ofNat_Int, K179_1, go_sem, reduceIte, reduceMul, reduceAdd, reduceSub, reduceEqDiff, reduceLeDiff, reduceLT]
           rw [Hp.M_loop]
           simp only [kz179, K179_1, List.length_cons, List.length_nil, go_sem, reduceIte, reduceMul, reduceAdd, reduceSub, reduceEqDiff, reduceLeDiff, reduceLT] at this ⊢
           exact this _
         | false =>
           rw [if_neg (by rw [hT2]; decide)] at hp
           cases hp
           rw [hT2, cond_false] at y6
           simp only [w1, y4, hap, y5, y6, splice, Int.cast_ofNat_Int, K179_1, go_sem, reduceIte, reduceMul, reduceAdd, reduceSub, reduceEqDiff, reduceLeDiff, reduceLT]
           exact ⟨_, _, ⟨rfl, rfl⟩, _, rfl, .mk _ _ _ _ _ _ _ (by rw [hm]; simp) hkd2, g2, ho2⟩
     · rw [if_pos he] at hp
       cases hp
       have f1 : decide ((er : Int) = 0) = false := decide_eq_false (by omega)
       simp only [w1, y4, f1, K179_1, go_sem, reduceIte, reduceMul, reduceAdd, reduceSub, reduceEqDiff, reduceLeDiff, reduceLT]
       exact ⟨_, _, ⟨rfl, rfl⟩, _, rfl, .mk _ _ _ _ _ _ _ hm hkd, hop.trans q2, q3⟩
theorem s_list (hps : S_parse ts e id N) : S_list ts e id (N + 1) := by
 intro k d a r h hd ho hp
 replace hp : pstep ts e (P ts e N) (.list k d) a = some r := hp
 simp only [pstep] at hp
 refine compI_ex (xf := noX) (kz := kz179) (fn := af179) tells_noX (t_YN ts e id N) rfl (Nat.le_of_ble_eq_true rfl) ?_
 show Hp.M _ _ _ (.code B179) _ (St.init gl0 6 _ _) (fun ex st => ∃ v h', Hp.FinI [.cell 6 true 4, .tmp 7] v h' ex st ∧ _)
 rw [UH179]
 have y3 := y_is (N := N) ho [40]
 cases hT : isT ts e a [40] with
 | false =>
   rw [hT, cond_false] at y3
   rw [if_pos hT] at hp
   cases hp
   simp only [y3, go_sem, reduceIte, reduceMul, reduceAdd, reduceSub, reduceEqDiff, reduceLeDiff, reduceLT]
   exact ⟨_, _, ⟨rfl, rfl⟩, _, rfl, .mk _ _ _ _ _ _ _ rfl .nil, Hop.refl _ _, ho⟩
 | true =>
   rw [hT, cond_true] at y3
   rw [if_neg (by rw [hT]; decide)] at hp
   have hl := isT_lt hT
   have ho1 := ho.set (b := a + 1) (by omega)
   have hop := Hop.set h id ts e (a + 1)
   have y4 := y_is (N := N) ho1 [41]
   cases hT2 : isT ts e (a + 1) [41] with
   | true =>
     rw [hT2, cond_true] at y4
     rw [if_pos hT2] at hp
     cases hp
     have hl2 := isT_lt hT2
     simp only [y3, y4, go_sem, reduceIte, reduceMul, reduceAdd, reduceSub, reduceEqDiff, reduceLeDiff, reduceLT]
     exact ⟨_, _, ⟨rfl, rfl⟩, _, rfl, .mk _ _ _ _ _ _ _ rfl .nil, hop.trans (Hop.set _ id ts e _), ho1.set (b := a + 1 + 1) (by omega)⟩
   | false =>
     rw [hT2, cond_false] at y4
     rw [if_neg (by rw [hT2]; decide)] at hp
     have := w_items hps k d hd h N [] [] 0 .nil (a + 1) (setAt h id ts e (a + 1)) [] r (Nat.le_refl _) hp ho1 hop .nil rfl (.inl rfl) (Nat.zero_le _)
     simp only [y3, y4, go_sem, reduceIte, reduceMul, reduceAdd, reduceSub, reduceEqDiff, reduceLeDiff, reduceLT]
     rw [Hp.M_loop]
     simp only [kz179, K179_1, List.length_cons, List.length_nil, go_sem, reduceIte, reduceMul, reduceAdd, reduceSub, reduceEqDiff, reduceLeDiff, reduceLT] at this ⊢
     exact this
end
section
variable {ts : List Tok} {e id N : Nat}
def K109_1 : List Fr := [.blk 0,
 .seq (Sr [Oa 70 4 12, O5 4 6 70, On 7 0]
 .ret)]
theorem UH109_1 : type_of% (@Hp_open _ _ L109_1.eq_1) := @Hp_open _ _ L109_1.eq_1
theorem UH109 : type_of% (@Hp_open _ _ B109.eq_1) := @Hp_open _ _ B109.eq_1
def kz109 (_ : Nat) : List Nat := [3, 4, 5, 7, 9, 11, 13, 14, 15, 16, 17, 18, 19, 20, 21, 22, 23, 24, 25, 26, 27, 28, 29, 30, 31, 32, 33, 34, 35, 36, 37, 38, 39, 40, 41, 42, 43, 44, 45, 46, 47, 48, 49, 50, 51, 52, 53, 54, 55, 56, 57, 58, 59, 60, 61, 62, 63, 64, 65, 66, 67, 68, 69, 70]
theorem w_more (hps : S_parse ts e id N) (b d : Nat) (hb : 1 ≤ b ∧ b ≤ 2) (hd : d ≤ 41) (h0 : H) : ∀ (n : Nat) (acc : List Fil) (xs : List V) (m : Nat) (tk : Tk) (a : Nat) (h : H) (c10 : List V) (r : PR), c10.length = 4 → n ≤ N → P ts e n (.more b d acc) a = some r → SO h id ts e a → Hop h0 h id → KidsR acc xs → m = acc.length → TkG h0 h m tk → m ≤ a + 1 →
  Hp.M noX (YN ts e id N) (kz109) (.code L109_1) (.loop L109_1 :: K109_1) ⟨gl0, (.node (.node E5 (.i .i64 (b : Nat)) E5) (.p id 0) (.node (.node (.node E3 (.s (wordOf b)) E3) .any (.node E3 (.l 12 0) E3)) (.i .i64 (d : Nat)) (.node (.node E3 (.l 10 0) E3) (.l 6 0) E4))), [], [(6, [.i .i64 0, .s [], .s [], .sl [] 0 .nil]), (10, c10), (12, [.i .i64 (kindOf b), .s [], .s [], .sl xs m tk])], h⟩
   (fun ex st => ∃ v h', Hp.FinI [.cell 6 true 4, .tmp 7] v h' ex st ∧ Res ts e id h0 v h' r) := by
 intro n
 induction n with
 | zero => intro acc xs m tk a h c10 r _ _ hp; cases hp
 | succ n ih =>
   intro acc xs m tk a h c10 r hc10 hn hp ho hop hkd hm htk hma
   replace hp : pstep ts e (P ts e n) (.more b d acc) a = some r := hp
   simp only [pstep] at hp
   rw [UH109_1]
   have y3 := y_joins (N := N) ho (wordOf b)
   cases hW : isW ts e a (wordOf b) with
   | false =>
     rw [if_pos hW] at hp
     cases hp
     rw [hW] at y3
     simp only [y3, K109_1, Int.cast_ofNat_Int, go_sem, reduceIte, reduceMul, reduceAdd, reduceSub, reduceEqDiff, reduceLeDiff, reduceLT]
     exact ⟨_, _, ⟨rfl, rfl⟩, _, rfl, .mk _ _ _ _ _ _ _ hm hkd, hop, ho⟩
   | true =>
     rw [hW] at y3
     rw [if_neg (by rw [hW]; decide)] at hp
     have hl := isW_lt hW
     have y1 := y_take (N := N) ho hl
     have ho1 := ho.set (b := a + 1) (by omega)
     cases hp1 : P ts e n (.parse (b + 1) d) (a + 1) with
     | none => rw [hp1] at hp; cases hp
     | some r1 =>
       rw [hp1, Option.bind_some] at hp
       have hle := P_le ho1.2.1 (by simp only; omega) hp1
       obtain ⟨c, h', y4, q1, q2, q3⟩ := call_parse hps (by omega) (by omega) hd ho1 (P_mono (by omega) hp1)
       obtain ⟨f1, er, a1⟩ := r1
       simp only at hp q3 y4 q1 hle
       have w1 : wr .i64 ((b : Int) + 1) = ((b + 1 : Nat) : Int) := by rw [wr64] <;> omega
       have q1' := q1
       cases q1 with | mk k1 nm tx kids xs1 n1 tk1 hn1 hx1 =>
       obtain ⟨v0, v1, v2, v3, rfl⟩ : ∃ v0 v1 v2 v3, c10 = [v0, v1, v2, v3] := by
        match c10, hc10 with
        | [v0, v1, v2, v3], _ => exact ⟨_, _, _, _, rfl⟩
       by_cases he : er = 0
       · subst he
         rw [if_neg (by simp)] at hp
         have hml : m + 1 ≤ most := by have := ho.2.2.1; have := ho.2.1; unfold most; omega
         obtain ⟨nx, obs, nt, tips⟩ := h'
         have hxl := hkd.len
         rw [← hm] at hxl
         have hop2 := hop.trans ((Hop.set h id ts e (a + 1)).trans q2)
         obtain ⟨tk', nt', tips', hap, g1, g2⟩ := app_tk (htk.hop ((Hop.set h id ts e (a + 1)).trans q2)) hxl (c := [.i .i64 k1, .s nm, .s tx, .sl xs1 n1 tk1]) rfl rfl hml hop2
         have ho2 : SO ⟨nx, obs, nt', tips'⟩ id ts e a1 := q3.objs rfl
         have hkd2 := hkd.app q1'
         have := ih _ (xs ++ [.i .i64 k1, .s nm, .s tx, .sl xs1 n1 tk1]) (m + 1) tk' a1 ⟨nx, obs, nt', tips'⟩ [.i .i64 k1, .s nm, .s tx, .sl xs1 n1 tk1] r rfl (by omega) hp ho2 g2 hkd2 (by rw [hm]; simp) g1 (by omega)
         simp only [y3, y1, w1, y4, hap, splice, Int.cast_ofNat_Int, go_sem, reduceIte, reduceMul, reduceAdd, reduceSub, reduceEqDiff, reduceLeDiff, reduceLT]
         rw [Hp.M_loop]
         simp only [kz109, K109_1, List.length_cons, List.length_nil, go_sem, reduceIte, reduceMul, reduceAdd, reduceSub, reduceEqDiff, reduceLeDiff, reduceLT] at this ⊢
         exact this
       · rw [if_pos he] at hp
         cases hp
         have f1 : decide ((er : Int) = 0) = false := decide_eq_false (by omega)
         simp only [y3, y1, w1, y4, f1, splice, K109_1, go_sem, reduceIte, reduceMul, reduceAdd, reduceSub, reduceEqDiff, reduceLeDiff, reduceLT]
         exact ⟨_, _, ⟨rfl, rfl⟩, _, rfl, q1', hop.trans ((Hop.set h id ts e (a + 1)).trans q2), q3⟩
theorem s_parse (hps : S_parse ts e id N) (hu : S_one ts e id N 137 .unary (fun _ => True)) : S_parse ts e id (N + 1) := by
 intro b d a r h hb1 hb2 hd ho hp
 replace hp : pstep ts e (P ts e N) (.parse b d) a = some r := hp
 simp only [pstep] at hp
 refine compI_ex (xf := noX) (kz := kz109) (fn := af109) tells_noX (t_YN ts e id N) rfl (Nat.le_of_ble_eq_true rfl) ?_
 show Hp.M _ _ _ (.code B109) _ (St.init gl0 7 _ _) (fun ex st => ∃ v h', Hp.FinI [.cell 6 true 4, .tmp 7] v h' ex st ∧ _)
 rw [UH109]
 by_cases hd2 : 40 < d
 · rw [if_pos hd2] at hp
   cases hp
   have e1 : decide ((40 : Int) < (d : Int)) = true := decide_eq_true (by omega)
   simp only [e1, Int.cast_ofNat_Int, go_sem, reduceIte, reduceMul, reduceAdd, reduceSub, reduceEqDiff, reduceLeDiff, reduceLT]
   exact ⟨_, _, ⟨rfl, rfl⟩, _, rfl, fil0R, Hop.refl _ _, ho⟩
 · rw [if_neg hd2] at hp
   have e1 : decide ((40 : Int) < (d : Int)) = false := decide_eq_false (by omega)
   by_cases hb3 : 2 < b
   · rw [if_pos hb3] at hp
     have e2 : decide ((2 : Int) < (b : Int)) = true := decide_eq_true (by omega)
     obtain ⟨c, h', y4, q1, q2, q3⟩ := call_one hu (by omega) trivial ho hp
     replace y4 : YN ts e id N 137 _ _ = _ := y4
     obtain ⟨f1, er, a1⟩ := r
     simp only at q3 y4 q1
     have q1' := q1
     cases q1 with | mk k nm tx kids xs n tk hn hx =>
     simp only [e1, e2, y4, go_sem, reduceIte, reduceMul, reduceAdd, reduceSub, reduceEqDiff, reduceLeDiff, reduceLT]
     exact ⟨_, _, ⟨rfl, rfl⟩, _, rfl, q1', q2, q3⟩
   · rw [if_neg hb3] at hp
     have e2 : decide ((2 : Int) < (b : Int)) = false := decide_eq_false (by omega)
     have w1 : wr .i64 ((b : Int) + 1) = ((b + 1 : Nat) : Int) := by rw [wr64] <;> omega
     cases hp1 : P ts e N (.parse (b + 1) d) a with
     | none => rw [hp1] at hp; cases hp
     | some r1 =>
       rw [hp1, Option.bind_some] at hp
       obtain ⟨c, h', y4, q1, q2, q3⟩ := call_parse hps (by omega) (by omega) hd ho hp1
       obtain ⟨f1, er, a1⟩ := r1
       simp only at hp q3 y4 q1
       have q1' := q1
       cases q1 with | mk k1 nm tx kids xs1 n1 tk1 hn1 hx1 =>
       have y3 := y_joins (N := N) q3 (wordOf b)
       by_cases he : er = 0
       · subst he
         cases hW : isW ts e a1 (wordOf b) with
         | false =>
           rw [if_pos (.inr hW)] at hp
           cases hp
           rw [hW] at y3
           rcases (by omega : b = 1 ∨ b = 2) with rfl | rfl
           · replace y3 : YN ts e id N 138 [.p id 0, .s [111, 114]] h' = _ := y3
             simp only [Nat.reduceAdd, Int.cast_ofNat_Int] at e2 w1 y4
             have e3 : decide ((1 : Int) = 2) = false := by decide
             simp only [e1, e2, e3, w1, y4, y3, Int.cast_ofNat_Int, go_sem, reduceIte, reduceMul, reduceAdd, reduceSub, reduceEqDiff, reduceLeDiff, reduceLT]
             exact ⟨_, _, ⟨rfl, rfl⟩, _, rfl, q1', q2, q3⟩
           · replace y3 : YN ts e id N 138 [.p id 0, .s [97, 110, 100]] h' = _ := y3
             simp only [Nat.reduceAdd, Int.cast_ofNat_Int] at e2 w1 y4
             simp only [e1, e2, w1, y4, y3, Int.cast_ofNat_Int, go_sem, reduceIte, reduceMul, reduceAdd, reduceSub, reduceEqDiff, reduceLeDiff, reduceLT]
             exact ⟨_, _, ⟨rfl, rfl⟩, _, rfl, q1', q2, q3⟩
         | true =>
           rw [if_neg (by rw [hW]; simp)] at hp
           rw [hW] at y3
           have := w_more hps b d (by omega) hd h N _ [.i .i64 k1, .s nm, .s tx, .sl xs1 n1 tk1] 1 .full a1 h' [.i .i64 k1, .s nm, .s tx, .sl xs1 n1 tk1] r rfl (Nat.le_refl _) hp q3 q2 (KidsR.one q1') rfl (.inr (.inl rfl)) (by omega)
           rcases (by omega : b = 1 ∨ b = 2) with rfl | rfl
           · replace y3 : YN ts e id N 138 [.p id 0, .s [111, 114]] h' = _ := y3
             simp only [Nat.reduceAdd, Int.cast_ofNat_Int] at e2 w1 y4
             have e3 : decide ((1 : Int) = 2) = false := by decide
             rw [show wordOf 1 = [111, 114] from rfl, show kindOf 1 = 6 from rfl] at this
             simp only [e1, e2, e3, w1, y4, y3, Int.cast_ofNat_Int, go_sem, reduceIte, reduceMul, reduceAdd, reduceSub, reduceEqDiff, reduceLeDiff, reduceLT]
             rw [Hp.M_loop]
             simp only [kz109, K109_1, List.length_cons, List.length_nil, Int.cast_ofNat_Int, go_sem, reduceIte, reduceMul, reduceAdd, reduceSub, reduceEqDiff, reduceLeDiff, reduceLT] at this ⊢
             exact this
           · replace y3 : YN ts e id N 138 [.p id 0, .s [97, 110, 100]] h' = _ := y3
             simp only [Nat.reduceAdd, Int.cast_ofNat_Int] at e2 w1 y4
             rw [show wordOf 2 = [97, 110, 100] from rfl, show kindOf 2 = 5 from rfl] at this
             simp only [e1, e2, w1, y4, y3, Int.cast_ofNat_Int, go_sem, reduceIte, reduceMul, reduceAdd, reduceSub, reduceEqDiff, reduceLeDiff, reduceLT]
             rw [Hp.M_loop]
             simp only [kz109, K109_1, List.length_cons, List.length_nil, Int.cast_ofNat_Int, go_sem, reduceIte, reduceMul, reduceAdd, reduceSub, reduceEqDiff, reduceLeDiff, reduceLT] at this ⊢
             exact this
       · rw [if_pos (.inl he)] at hp
         cases hp
         have f1 : decide ((er : Int) = 0) = false := decide_eq_false (by omega)
         rcases (by omega : b = 1 ∨ b = 2) with rfl | rfl
         · simp only [Nat.reduceAdd, Int.cast_ofNat_Int] at e2 w1 y4
           have e3 : decide ((1 : Int) = 2) = false := by decide
           simp only [e1, e2, e3, w1, y4, f1, Int.cast_ofNat_Int, go_sem, reduceIte, reduceMul, reduceAdd, reduceSub, reduceEqDiff, reduceLeDiff, reduceLT]
           exact ⟨_, _, ⟨rfl, rfl⟩, _, rfl, q1', q2, q3⟩
         · simp only [Nat.reduceAdd, Int.cast_ofNat_Int] at e2 w1 y4
           simp only [e1, e2, w1, y4, f1, Int.cast_ofNat_Int, go_sem, reduceIte, reduceMul, reduceAdd, reduceSub, reduceEqDiff, reduceLeDiff, reduceLT]
           exact ⟨_, _, ⟨rfl, rfl⟩, _, rfl, q1', q2, q3⟩
end
theorem s_all (ts : List Tok) (e id : Nat) : ∀ N, S_parse ts e id N ∧ S_one ts e id N 137 .unary (fun _ => True) ∧ S_one ts e id N 164 .word (fun a => (tokAt ts e a).kind = 1) ∧ S_one ts e id N 178 .nested (fun _ => True) ∧ S_list ts e id N := by
 intro N
 induction N with
 | zero => exact ⟨fun _ _ _ _ _ _ _ _ _ h => (by cases h), fun _ _ _ _ _ _ _ h => (by cases h), fun _ _ _ _ _ _ _ h => (by cases h), fun _ _ _ _ _ _ _ h => (by cases h), fun _ _ _ _ _ _ _ h => (by cases h)⟩
 | succ N ih => exact ⟨s_parse ih.1 ih.2.1, s_unary ih.1 ih.2.2.1, s_word ih.2.2.2.1 ih.2.2.2.2, s_nested ih.2.1, s_list ih.1⟩

def plain (n : Nat) : Bool := decide ((32 : Int) ≤ n) && (!decide ((n : Int) = 127) && !decide ((n : Int) = 65533))
def letter (n : Nat) : Bool := decide ((97 : Int) ≤ n) && decide ((n : Int) ≤ 122)

theorem U139 : type_of% (@M_open _ _ B139.eq_1) := @M_open _ _ B139.eq_1
def kz139 (_ : Nat) : List Nat := []
theorem w_plain (n : Nat) (gl : Nat → List V) : M noX (kz139) (.code B139) [] (St.init gl 4 [.i .i32 n] {}) (Fin [.tmp 2] (.b (plain n))) := by
 rw [U139]
 simp only [go_sem, reduceIte, reduceMul, reduceAdd, reduceSub, reduceEqDiff, reduceLeDiff, reduceLT]
 refine G_split _ _ _ _ _ ?_ ?_ <;> intro h1 <;> simp only [h1, go_sem, reduceIte, reduceMul, reduceAdd, reduceSub, reduceEqDiff, reduceLeDiff, reduceLT]
 · refine G_split _ _ _ _ _ ?_ ?_ <;> intro h2 <;> simp only [h2, go_sem, reduceIte, reduceMul, reduceAdd, reduceSub, reduceEqDiff, reduceLeDiff, reduceLT]
   · simp only [plain, h1, h2, Bool.true_and]
   · simp only [plain, h1, h2, Bool.true_and, Bool.false_and]
 · simp only [plain, h1, Bool.false_and]

theorem U48 : type_of% (@M_open _ _ B48.eq_1) := @M_open _ _ B48.eq_1
def kz48 (_ : Nat) : List Nat := []
theorem w_tletter (n : Nat) (gl : Nat → List V) : M noX (kz48) (.code B48) [] (St.init gl 4 [.i .i32 n] {}) (Fin [.tmp 2] (.b (letter n))) := by
 rw [U48]
 simp only [go_sem, reduceIte, reduceMul, reduceAdd, reduceSub, reduceEqDiff, reduceLeDiff, reduceLT]
 refine G_split _ _ _ _ _ ?_ ?_ <;> intro h1 <;> simp only [h1, go_sem, reduceIte, reduceMul, reduceAdd, reduceSub, reduceEqDiff, reduceLeDiff, reduceLT]
 · simp only [letter, h1, Bool.true_and]
 · simp only [letter, h1, Bool.false_and]

def K47_1 : List Fr := [.blk 0,
 .seq (Sr [Om 28 9, Om 29 1, Ob 30 .geq 28 29, Om 8 30]
 .ret)]
theorem U47_1 : type_of% (@M_open _ _ L47_1.eq_1) := @M_open _ _ L47_1.eq_1
theorem U47 : type_of% (@M_open _ _ B47.eq_1) := @M_open _ _ B47.eq_1
def kz47 (_ : Nat) : List Nat := [0, 4, 5, 6, 7, 8, 10, 11, 12, 14, 15, 16, 17, 18, 19, 20, 21, 22, 23, 24, 25, 26, 27, 28, 29, 30]
def allV (p : Nat → Bool) (lo hi : Nat) (l : List UInt8) : Bool := decide (lo ≤ (rns l).length) && (decide ((rns l).length ≤ hi) && (rns l).all p)
def allX (f : FuncId) (p : Nat → Bool) (g : FuncId) (a : List V) : Option V := bif Nat.beq g f then (match a with | [.i .i32 (Int.ofNat n)] => some (.b (p n)) | _ => none) else none
theorem allX_eq (f : FuncId) (p : Nat → Bool) (n : Nat) : allX f p f [.i .i32 n] = some (.b (p n)) := by unfold allX; simp only [nat_beq, decide_true, cond_true]

def allQ (p : Nat → Bool) (lo hi n : Nat) (l : List UInt8) : Bool := decide (lo ≤ n + (rns l).length) && (decide (n + (rns l).length ≤ hi) && (rns l).all p)
theorem w_all_loop (f : FuncId) (p : Nat → Bool) (lo hi : Nat) (hh : hi < 4611686018427387904) (gl : Nat → List V) : ∀ (l : List UInt8) (n pos : Nat), n ≤ hi →
  M (allX f p) (kz47) (.code L47_1) (.loop L47_1 :: K47_1) ⟨gl, (.node (.node (.node E2 (.fn f [] []) E2) (.i .i64 lo) (.node (.node E1 (.i .i64 n) E1) .any (.node E1 (.it) E1))) .any (.node E3 (.i .i64 hi) E3)), [(13, (l, pos))], [], {}⟩ (Fin [.tmp 8] (.b (allQ p lo hi n l))) := by
 intro l
 induction l using rune_ind with
 | h0 =>
   intro n pos hn
   rw [U47_1]
   simp only [K47_1, go_sem, reduceIte, reduceMul, reduceAdd, reduceSub, reduceEqDiff, reduceLeDiff, reduceLT]
   simp [allQ, rns_nil, hn]
 | h1 a r ih =>
   intro n pos hn
   have e : wr .i64 ((n : Int) + 1) = ((n + 1 : Nat) : Int) := by rw [wr64] <;> omega
   rw [U47_1]
   simp only [e, go_sem, reduceIte, reduceMul, reduceAdd, reduceSub, reduceEqDiff, reduceLeDiff, reduceLT]
   refine G_split _ _ _ _ _ ?_ ?_ <;> intro h1 <;> simp only [h1, allX_eq, go_sem, reduceIte, reduceMul, reduceAdd, reduceSub, reduceEqDiff, reduceLeDiff, reduceLT]
   · simp only [K47_1, go_sem, reduceIte, reduceMul, reduceAdd, reduceSub, reduceEqDiff, reduceLeDiff, reduceLT]
     simp only [decide_eq_true_eq] at h1
     simp only [allQ, rns_cons, List.length_cons]
     rw [decide_eq_false (p := n + _ ≤ hi) (by omega)]
     simp
   · refine B_split _ _ _ ?_ ?_ <;> intro h2 <;> simp only [h2, go_sem, reduceIte, reduceMul, reduceAdd, reduceSub, reduceEqDiff, reduceLeDiff, reduceLT]
     · simp only [K47_1, go_sem, reduceIte, reduceMul, reduceAdd, reduceSub, reduceEqDiff, reduceLeDiff, reduceLT]
       simp only [Bool.not_eq_true'] at h2
       simp [allQ, rns_cons, h2]
     · rw [M_loop]
       simp only [kz47, go_sem, reduceIte, reduceMul, reduceAdd, reduceSub, reduceEqDiff, reduceLeDiff, reduceLT]
       simp only [Bool.not_eq_false'] at h2
       simp only [decide_eq_false_iff_not] at h1
       rw [show allQ p lo hi n (a :: r) = allQ p lo hi (n + 1) ((a :: r).drop (dec (a :: r)).2) from by
        simp only [allQ, rns_cons, List.length_cons, List.all_cons, h2, Bool.true_and]
        simp only [Nat.add_assoc, Nat.add_comm 1]]
       exact ih (n + 1) _ (by omega)
theorem w_all (f : FuncId) (p : Nat → Bool) (lo hi : Nat) (hh : hi < 4611686018427387904) (l : List UInt8) (gl : Nat → List V) :
  M (allX f p) (kz47) (.code B47) [] (St.init gl 5 [.s l, .i .i64 lo, .i .i64 hi, .fn f [] []] {}) (Fin [.tmp 8] (.b (allV p lo hi l))) := by
 rw [U47]
 simp only [go_sem, reduceIte, reduceMul, reduceAdd, reduceSub, reduceEqDiff, reduceLeDiff, reduceLT]
 rw [M_loop]
 simp only [kz47, go_sem, reduceIte, reduceMul, reduceAdd, reduceSub, reduceEqDiff, reduceLeDiff, reduceLT]
 rw [show allV p lo hi l = allQ p lo hi 0 l from by simp [allV, allQ]]
 exact w_all_loop f p lo hi hh gl l 0 0 (by omega)

theorem c_plain (n : Nat) : Comp tabx told 139 [.i .i32 n] (.b (plain n)) := comp_of tells_noX (fn := af139) rfl (Nat.le_of_ble_eq_true rfl) fun gl => w_plain n gl
theorem c_letter (n : Nat) : Comp tabx told 48 [.i .i32 n] (.b (letter n)) := comp_of tells_noX (fn := af48) rfl (Nat.le_of_ble_eq_true rfl) fun gl => w_tletter n gl
theorem tells_all {f : FuncId} {p : Nat → Bool} (h : ∀ n : Nat, Comp tabx told f [.i .i32 n] (.b (p n))) : Tells tabx told (allX f p) := by
 intro g a v e
 unfold allX at e
 cases hb : Nat.beq g f with
 | false => rw [hb] at e; cases e
 | true =>
   rw [hb] at e
   have := Nat.eq_of_beq_eq_true hb
   subst this
   simp only [cond_true] at e
   split at e
   · rename_i n
     cases e
     exact h n
   · cases e
theorem c_all {f : FuncId} {p : Nat → Bool} (h : ∀ n : Nat, Comp tabx told f [.i .i32 n] (.b (p n))) (lo hi : Nat) (hh : hi < 4611686018427387904) (l : List UInt8) :
  Comp tabx told 47 [.s l, .i .i64 lo, .i .i64 hi, .fn f [] []] (.b (allV p lo hi l)) := comp_of (tells_all h) (fn := af47) rfl (Nat.le_of_ble_eq_true rfl) fun gl => w_all f p lo hi hh l gl

/-! ### text.Key, Value, Name -/
def F_all (a : List V) : Option V := match a with
 | [.s l, .i .i64 1, .i .i64 24, .fn 139 [] []] => some (.b (allV plain 1 24 l))
 | [.s l, .i .i64 0, .i .i64 48, .fn 139 [] []] => some (.b (allV plain 0 48 l))
 | [.s l, .i .i64 1, .i .i64 8, .fn 48 [] []] => some (.b (allV letter 1 8 l))
 | _ => none
theorem F_all1 (l : List UInt8) : F_all [.s l, .i .i64 1, .i .i64 24, .fn 139 [] []] = some (.b (allV plain 1 24 l)) := rfl
theorem F_all2 (l : List UInt8) : F_all [.s l, .i .i64 0, .i .i64 48, .fn 139 [] []] = some (.b (allV plain 0 48 l)) := rfl
theorem F_all3 (l : List UInt8) : F_all [.s l, .i .i64 1, .i .i64 8, .fn 48 [] []] = some (.b (allV letter 1 8 l)) := rfl
def X_all := xs [(47, F_all)]
theorem t_all : Tells tabx told X_all := tells_cons (fun a v e => by
 unfold F_all at e
 split at e
 · cases e; exact c_all c_plain 1 24 (by decide) _
 · cases e; exact c_all c_plain 0 48 (by decide) _
 · cases e; exact c_all c_letter 1 8 (by decide) _
 · cases e) tells_nil
def errV (b : Bool) (n : Int) : Int := bif b then 0 else n

theorem U111 : type_of% (@M_open _ _ B111.eq_1) := @M_open _ _ B111.eq_1
def kz111 (_ : Nat) : List Nat := []
theorem w_Key (l : List UInt8) (gl : Nat → List V) : M X_all (kz111) (.code B111) [] (St.init gl 3 [.s l] {}) (Fin [.tmp 2] (.i .i64 (errV (allV plain 1 24 l) 20))) := by
 rw [U111]
 simp only [X_all, F_all1, go_sem, reduceIte, reduceMul, reduceAdd, reduceSub, reduceEqDiff, reduceLeDiff, reduceLT]
 refine B_split _ _ _ ?_ ?_ <;> intro h <;> simp only [h, go_sem, reduceIte, reduceMul, reduceAdd, reduceSub, reduceEqDiff, reduceLeDiff, reduceLT]
 · simp only [Bool.not_eq_true'] at h
   simp [errV, h]
 · simp only [Bool.not_eq_false'] at h
   simp [errV, h]
theorem c_Key (l : List UInt8) : Comp tabx told 111 [.s l] (.i .i64 (errV (allV plain 1 24 l) 20)) := comp_of t_all (fn := af111) rfl (Nat.le_of_ble_eq_true rfl) fun gl => w_Key l gl

theorem U112 : type_of% (@M_open _ _ B112.eq_1) := @M_open _ _ B112.eq_1
def kz112 (_ : Nat) : List Nat := []
theorem w_Value (l : List UInt8) (gl : Nat → List V) : M X_all (kz112) (.code B112) [] (St.init gl 3 [.s l] {}) (Fin [.tmp 2] (.i .i64 (errV (allV plain 0 48 l) 21))) := by
 rw [U112]
 simp only [X_all, F_all2, go_sem, reduceIte, reduceMul, reduceAdd, reduceSub, reduceEqDiff, reduceLeDiff, reduceLT]
 refine B_split _ _ _ ?_ ?_ <;> intro h <;> simp only [h, go_sem, reduceIte, reduceMul, reduceAdd, reduceSub, reduceEqDiff, reduceLeDiff, reduceLT]
 · simp only [Bool.not_eq_true'] at h
   simp [errV, h]
 · simp only [Bool.not_eq_false'] at h
   simp [errV, h]
theorem c_Value (l : List UInt8) : Comp tabx told 112 [.s l] (.i .i64 (errV (allV plain 0 48 l) 21)) := comp_of t_all (fn := af112) rfl (Nat.le_of_ble_eq_true rfl) fun gl => w_Value l gl

theorem U25 : type_of% (@M_open _ _ B25.eq_1) := @M_open _ _ B25.eq_1
def kz25 (_ : Nat) : List Nat := []
theorem w_Name (l : List UInt8) (gl : Nat → List V) : M X_all (kz25) (.code B25) [] (St.init gl 3 [.s l] {}) (Fin [.tmp 2] (.i .i64 (errV (allV letter 1 8 l) 22))) := by
 rw [U25]
 simp only [X_all, F_all3, go_sem, reduceIte, reduceMul, reduceAdd, reduceSub, reduceEqDiff, reduceLeDiff, reduceLT]
 refine B_split _ _ _ ?_ ?_ <;> intro h <;> simp only [h, go_sem, reduceIte, reduceMul, reduceAdd, reduceSub, reduceEqDiff, reduceLeDiff, reduceLT]
 · simp only [Bool.not_eq_true'] at h
   simp [errV, h]
 · simp only [Bool.not_eq_false'] at h
   simp [errV, h]
theorem c_Name (l : List UInt8) : Comp tabx told 25 [.s l] (.i .i64 (errV (allV letter 1 8 l) 22)) := comp_of t_all (fn := af25) rfl (Nat.le_of_ble_eq_true rfl) fun gl => w_Name l gl

theorem U166 : type_of% (@M_open _ _ B166.eq_1) := @M_open _ _ B166.eq_1
def kz166 (_ : Nat) : List Nat := []
theorem w_rplain (n : Nat) (gl : Nat → List V) : M noX (kz166) (.code B166) [] (St.init gl 4 [.i .i32 n] {}) (Fin [.tmp 2] (.b (plain n))) := by
 rw [U166]
 have e : decide ((31 : Int) < n) = decide ((32 : Int) ≤ n) := decide_eq_decide.2 (by omega)
 simp only [e, go_sem, reduceIte, reduceMul, reduceAdd, reduceSub, reduceEqDiff, reduceLeDiff, reduceLT]
 refine G_split _ _ _ _ _ ?_ ?_ <;> intro h1 <;> simp only [h1, go_sem, reduceIte, reduceMul, reduceAdd, reduceSub, reduceEqDiff, reduceLeDiff, reduceLT]
 · refine G_split _ _ _ _ _ ?_ ?_ <;> intro h2 <;> simp only [h2, go_sem, reduceIte, reduceMul, reduceAdd, reduceSub, reduceEqDiff, reduceLeDiff, reduceLT]
   · simp only [plain, h1, h2, Bool.true_and]
   · simp only [plain, h1, h2, Bool.true_and, Bool.false_and]
 · simp only [plain, h1, Bool.false_and]
theorem c_rplain (n : Nat) : Comp tabx told 166 [.i .i32 n] (.b (plain n)) := comp_of tells_noX (fn := af166) rfl (Nat.le_of_ble_eq_true rfl) fun gl => w_rplain n gl

def K165_1 : List Fr := [.blk 0,
 .seq (Sr [Om 15 3, Om 2 15]
 .ret)]
theorem U165_1 : type_of% (@M_open _ _ L165_1.eq_1) := @M_open _ _ L165_1.eq_1
theorem U165 : type_of% (@M_open _ _ B165.eq_1) := @M_open _ _ B165.eq_1
def kz165 (_ : Nat) : List Nat := [0, 1, 2, 4, 5, 6, 8, 9, 10, 11, 12, 13, 14, 15]
theorem w_Runes_loop (gl : Nat → List V) : ∀ (l : List UInt8) (xs : List Nat) (pos : Nat), xs.length + l.length ≤ 16384 →
    M noX (kz165) (.code L165_1) (.loop L165_1 :: K165_1) ⟨gl, (.node (.node (.node (.node (.node .leaf .any .leaf) (.it) (.node .leaf .any .leaf)) (.sl (xs.map rv) xs.length (.own 1)) (.node (.node .leaf .any .leaf) .any (.node .leaf .any .leaf))) .any (.node (.node (.node .leaf .any .leaf) .any (.node .leaf .any .leaf)) .any (.node (.node .leaf .any .leaf) .any (.node .leaf .any .leaf)))) .any (.node (.node (.node (.node .leaf .any .leaf) .any (.node .leaf .any .leaf)) .any (.node (.node .leaf .any .leaf) .any (.node .leaf .any .leaf))) .any (.node (.node (.node .leaf .any .leaf) .any (.node .leaf .any .leaf)) .any (.node (.node .leaf .any .leaf) .any (.node .leaf .any .leaf))))), [(7, (l, pos))], [], ⟨0, [], 2, [(1, (xs.length, 21)), (0, (0, 21))]⟩⟩
      (Fin [.tmp 2] (.sl ((xs ++ rns l).map rv) (xs ++ rns l).length .no)) := by
  intro l
  induction l using rune_ind with
  | h0 =>
    intro xs pos hn
    rw [U165_1]
    simp only [K165_1, go_sem, reduceIte, reduceMul, reduceAdd, reduceSub, reduceEqDiff, reduceLeDiff, reduceLT]
    rw [frz_rvs]
    simp [rns_nil]
  | h1 a r ih =>
    intro xs pos hn
    rw [U165_1]
    have e1 : (xs.map rv).length = xs.length := List.length_map ..
    have e2 : xs.length + 1 ≤ most := by unfold most; have : (a :: r).length ≥ 1 := by simp
                                         omega
    simp only [e1, e2, go_sem, reduceIte, reduceMul, reduceAdd, reduceSub, reduceEqDiff, reduceLeDiff, reduceLT]
    rw [M_loop]
    simp only [kz165, go_sem, reduceIte, reduceMul, reduceAdd, reduceSub, reduceEqDiff, reduceLeDiff, reduceLT]
    have := ih (xs ++ [(dec (a :: r)).1]) (pos + (dec (a :: r)).2) (by
      have := dec_nil_free a r
      simp only [List.length_append, List.length_cons, List.length_nil] at hn ⊢
      simp only [List.length_cons] at this
      omega)
    rw [rns_cons]
    simpa [rv] using this
theorem w_Runes (l : List UInt8) (hl : l.length ≤ 16384) (gl : Nat → List V) : M noX (kz165) (.code B165) [] (St.init gl 5 [.s l] {}) (Fin [.tmp 2] (.sl ((rns l).map rv) (rns l).length .no)) := by
 rw [U165]
 simp only [go_sem, reduceIte, reduceMul, reduceAdd, reduceSub, reduceEqDiff, reduceLeDiff, reduceLT]
 rw [M_loop]
 simp only [kz165, go_sem, reduceIte, reduceMul, reduceAdd, reduceSub, reduceEqDiff, reduceLeDiff, reduceLT]
 exact w_Runes_loop gl l [] 0 (by simpa using hl)
theorem c_Runes (l : List UInt8) (hl : l.length ≤ 16384) : Comp tabx told 165 [.s l] (.sl ((rns l).map rv) (rns l).length .no) := comp_of tells_noX (fn := af165) rfl (Nat.le_of_ble_eq_true rfl) fun gl => w_Runes l hl gl

def F_Runes (a : List V) : Option V := match a with
 | [.s l] => if l.length ≤ 16384 then some (.sl ((rns l).map rv) (rns l).length .no) else none
 | _ => none
theorem F_Runes1 (l : List UInt8) (h : l.length ≤ 16384) : F_Runes [.s l] = some (.sl ((rns l).map rv) (rns l).length .no) := by simp [F_Runes, h]
theorem o_Runes : ∀ a v, F_Runes a = some v → Comp tabx told 165 a v := fun a v e => by
 unfold F_Runes at e
 split at e
 · split at e
   · rename_i h; cases e; exact c_Runes _ h
   · cases e
 · cases e
def F_rplain (a : List V) : Option V := match a with
 | [.i .i32 (Int.ofNat n)] => some (.b (plain n))
 | _ => none
theorem F_rplain1 (n : Nat) : F_rplain [.i .i32 (n : Int)] = some (.b (plain n)) := rfl
theorem o_rplain : ∀ a v, F_rplain a = some v → Comp tabx told 166 a v := fun a v e => by
 unfold F_rplain at e
 split at e
 · cases e; exact c_rplain _
 · cases e
def X_many := xs [(165, F_Runes), (166, F_rplain)]
theorem t_many : Tells tabx told X_many := tells_cons o_Runes (tells_cons o_rplain tells_nil)

def K140_1 : List Fr := [.blk 0,
 .seq (Sr [Om 35 8, Om 6 35]
 .ret)]
theorem U140_1 : type_of% (@M_open _ _ L140_1.eq_1) := @M_open _ _ L140_1.eq_1
theorem U140 : type_of% (@M_open _ _ B140.eq_1) := @M_open _ _ B140.eq_1
def kz140 (_ : Nat) : List Nat := [0, 1, 2, 3, 4, 5, 6, 7, 9, 10, 11, 12, 13, 14, 15, 16, 17, 18, 19, 20, 21, 22, 26, 27, 28, 29, 30, 31, 32, 33, 34, 35]
theorem w_many_loop (rs : List Nat) (hr : rs.length ≤ 16384) (gl : Nat → List V) : ∀ (k i : Nat) (acc : Bool), i + k = rs.length → ∀ its h,
  M X_many (kz140) (.code L140_1) (.loop L140_1 :: K140_1) ⟨gl, (.node (.node (.node (.node E2 .any (.node E1 (.sl (rs.map rv) rs.length .no) E1)) .any E3) .any (.node (.node E2 .any (.node E1 (.i .i64 i) E1)) .any E3)) .any (.node (.node (.node E2 (.b acc) (.node E1 (.i .i64 rs.length) E1)) .any E3) .any E4)), its, [], h⟩
   (Fin [.tmp 6] (.b (acc && (rs.drop i).all plain))) := by
 intro k
 induction k with
 | zero =>
   intro i acc hi its h
   rw [U140_1]
   have e1 : decide ((i : Int) < rs.length) = false := by simp; omega
   simp only [e1, K140_1, go_sem, reduceIte, reduceMul, reduceAdd, reduceSub, reduceEqDiff, reduceLeDiff, reduceLT]
   rw [List.drop_eq_nil_of_le (by omega)]
   simp
 | succ k ih =>
   intro i acc hi its h
   rw [U140_1]
   have hlt : i < rs.length := by omega
   have e1 : decide ((i : Int) < rs.length) = true := by simp; omega
   have e2 : i + 1 ≤ (rs.map rv).length := by simp; omega
   have e3 : (rs.map rv)[i]? = some (.i .i32 ((rs[i] : Nat) : Int)) := by simp [rv, hlt]
   have e4 : wr .i64 ((i : Int) + 1) = ((i + 1 : Nat) : Int) := by rw [wr64] <;> omega
   cases acc with
   | true =>
     simp only [e1, e2, e3, e4, hlt, X_many, F_rplain1, go_sem, reduceIte, reduceMul, reduceAdd, reduceSub, reduceEqDiff, reduceLeDiff, reduceLT]
     rw [M_loop]
     simp only [kz140, e4, go_sem, reduceIte, reduceMul, reduceAdd, reduceSub, reduceEqDiff, reduceLeDiff, reduceLT]
     rw [show (rs.drop i).all plain = (plain rs[i] && (rs.drop (i + 1)).all plain) from by rw [List.drop_eq_getElem_cons hlt, List.all_cons]]
     exact ih (i + 1) _ (by omega) _ _
   | false =>
     simp only [e1, e2, e3, e4, hlt, go_sem, reduceIte, reduceMul, reduceAdd, reduceSub, reduceEqDiff, reduceLeDiff, reduceLT]
     rw [M_loop]
     simp only [kz140, e4, go_sem, reduceIte, reduceMul, reduceAdd, reduceSub, reduceEqDiff, reduceLeDiff, reduceLT]
     exact ih (i + 1) _ (by omega) _ _
theorem w_many (l : List UInt8) (lo hi : Nat) (hl : l.length ≤ 16384) (gl : Nat → List V) : M X_many (kz140) (.code B140) [] (St.init gl 6 [.s l, .i .i64 lo, .i .i64 hi] {}) (Fin [.tmp 6] (.b (allV plain lo hi l))) := by
 rw [U140]
 have hr : (rns l).length ≤ 16384 := Nat.le_trans (rns_le l) hl
 simp only [X_many, F_Runes1 l hl, go_sem, reduceIte, reduceMul, reduceAdd, reduceSub, reduceEqDiff, reduceLeDiff, reduceLT]
 have e : allV plain lo hi l = (decide (((lo : Nat) : Int) ≤ (rns l).length) && (decide ((((rns l).length : Nat) : Int) ≤ hi) && (rns l).all plain)) := by simp [allV]
 refine G_split _ _ _ _ _ ?_ ?_ <;> intro h1 <;> simp only [h1, go_sem, reduceIte, reduceMul, reduceAdd, reduceSub, reduceEqDiff, reduceLeDiff, reduceLT]
 · rw [M_loop]
   simp only [kz140, go_sem, reduceIte, reduceMul, reduceAdd, reduceSub, reduceEqDiff, reduceLeDiff, reduceLT]
   have := w_many_loop (rns l) hr gl (rns l).length 0 (decide (((rns l).length : Int) ≤ hi)) (by omega) [] {}
   rw [e, h1, Bool.true_and]
   exact this
 · rw [M_loop]
   simp only [kz140, go_sem, reduceIte, reduceMul, reduceAdd, reduceSub, reduceEqDiff, reduceLeDiff, reduceLT]
   have := w_many_loop (rns l) hr gl (rns l).length 0 false (by omega) [] {}
   rw [e, h1]
   exact this
theorem c_many (l : List UInt8) (lo hi : Nat) (hl : l.length ≤ 16384) : Comp tabx told 140 [.s l, .i .i64 lo, .i .i64 hi] (.b (allV plain lo hi l)) := comp_of t_many (fn := af140) rfl (Nat.le_of_ble_eq_true rfl) fun gl => w_many l lo hi hl gl
def F_many (a : List V) : Option V := match a with
 | [.s l, .i .i64 (Int.ofNat lo), .i .i64 (Int.ofNat hi)] => if l.length ≤ 16384 then some (.b (allV plain lo hi l)) else none
 | _ => none
theorem F_many1 (l : List UInt8) (h : l.length ≤ 16384) : F_many [.s l, .i .i64 1, .i .i64 24] = some (.b (allV plain 1 24 l)) := if_pos h
theorem F_many2 (l : List UInt8) (h : l.length ≤ 16384) : F_many [.s l, .i .i64 0, .i .i64 48] = some (.b (allV plain 0 48 l)) := if_pos h
theorem o_many : ∀ a v, F_many a = some v → Comp tabx told 140 a v := fun a v e => by
 unfold F_many at e
 split at e
 · split at e
   · rename_i h; cases e; exact c_many _ _ _ h
   · cases e
 · cases e
def X_rkey := xs [(140, F_many)]
theorem t_rkey : Tells tabx told X_rkey := tells_cons o_many tells_nil

theorem U113 : type_of% (@M_open _ _ B113.eq_1) := @M_open _ _ B113.eq_1
def kz113 (_ : Nat) : List Nat := []
theorem w_rKey (l : List UInt8) (hl : l.length ≤ 16384) (gl : Nat → List V) : M X_rkey (kz113) (.code B113) [] (St.init gl 3 [.s l] {}) (Fin [.tmp 2] (.i .i64 (errV (allV plain 1 24 l) 20))) := by
 rw [U113]
 simp only [X_rkey, F_many1 l hl, go_sem, reduceIte, reduceMul, reduceAdd, reduceSub, reduceEqDiff, reduceLeDiff, reduceLT]
 refine B_split _ _ _ ?_ ?_ <;> intro h <;> simp only [h, go_sem, reduceIte, reduceMul, reduceAdd, reduceSub, reduceEqDiff, reduceLeDiff, reduceLT]
 · simp only [Bool.not_eq_true'] at h
   simp [errV, h]
 · simp only [Bool.not_eq_false'] at h
   simp [errV, h]
theorem c_rKey (l : List UInt8) (hl : l.length ≤ 16384) : Comp tabx told 113 [.s l] (.i .i64 (errV (allV plain 1 24 l) 20)) := comp_of t_rkey (fn := af113) rfl (Nat.le_of_ble_eq_true rfl) fun gl => w_rKey l hl gl

theorem U114 : type_of% (@M_open _ _ B114.eq_1) := @M_open _ _ B114.eq_1
def kz114 (_ : Nat) : List Nat := []
theorem w_rValue (l : List UInt8) (hl : l.length ≤ 16384) (gl : Nat → List V) : M X_rkey (kz114) (.code B114) [] (St.init gl 3 [.s l] {}) (Fin [.tmp 2] (.i .i64 (errV (allV plain 0 48 l) 21))) := by
 rw [U114]
 simp only [X_rkey, F_many2 l hl, go_sem, reduceIte, reduceMul, reduceAdd, reduceSub, reduceEqDiff, reduceLeDiff, reduceLT]
 refine B_split _ _ _ ?_ ?_ <;> intro h <;> simp only [h, go_sem, reduceIte, reduceMul, reduceAdd, reduceSub, reduceEqDiff, reduceLeDiff, reduceLT]
 · simp only [Bool.not_eq_true'] at h
   simp [errV, h]
 · simp only [Bool.not_eq_false'] at h
   simp [errV, h]
theorem c_rValue (l : List UInt8) (hl : l.length ≤ 16384) : Comp tabx told 114 [.s l] (.i .i64 (errV (allV plain 0 48 l) 21)) := comp_of t_rkey (fn := af114) rfl (Nat.le_of_ble_eq_true rfl) fun gl => w_rValue l hl gl

/-! ### The document's Name: byte by byte -/
def az (c : UInt8) : Bool := decide ((97 : Int) ≤ (c.toNat : Int)) && decide ((c.toNat : Int) ≤ 122)
def nameV (l : List UInt8) : Bool := decide (1 ≤ l.length) && (decide (l.length ≤ 8) && l.all az)

def K50_1 : List Fr := [.blk 0,
 .seq (.seq (Sr [Om 32 3, Ou 33 32]
 (.cond (.t 33)
 (Sr [On 2 22]
 .ret)
 .skip))
 (Sr [On 2 0]
 .ret))]
theorem U50_1 : type_of% (@M_open _ _ L50_1.eq_1) := @M_open _ _ L50_1.eq_1
theorem U50 : type_of% (@M_open _ _ B50.eq_1) := @M_open _ _ B50.eq_1
def kz50 (_ : Nat) : List Nat := [1, 2, 4, 5, 6, 7, 8, 9, 10, 11, 12, 13, 16, 17, 18, 19, 20, 21, 22, 23, 24, 25, 26, 27, 28, 29, 30, 31, 32, 33]
theorem w_rName_loop (l : List UInt8) (hl : l.length ≤ 16384) (gl : Nat → List V) : ∀ (k i : Nat) (acc : Bool), i + k = l.length → ∀ its h,
  M noX (kz50) (.code L50_1) (.loop L50_1 :: K50_1) ⟨gl, (.node (.node (.node (.node (.node E1 (.i .i64 i) E1) .any E2) (.b acc) E3) .any E4) (.s l) (.node E4 .any (.node E3 .any (.node E2 (.i .i64 l.length) E2)))), its, [], h⟩
   (Fin [.tmp 2] (.i .i64 (errV (acc && (l.drop i).all az) 22))) := by
 intro k
 induction k with
 | zero =>
   intro i acc hi its h
   rw [U50_1]
   have e1 : decide ((i : Int) < l.length) = false := by simp; omega
   simp only [e1, K50_1, go_sem, reduceIte, reduceMul, reduceAdd, reduceSub, reduceEqDiff, reduceLeDiff, reduceLT]
   rw [List.drop_eq_nil_of_le (by omega)]
   cases acc <;> simp only [go_sem, reduceIte, reduceMul, reduceAdd, reduceSub, reduceEqDiff, reduceLeDiff, reduceLT] <;> simp [errV]
 | succ k ih =>
   intro i acc hi its h
   rw [U50_1]
   have hlt : i < l.length := by omega
   have e1 : decide ((i : Int) < l.length) = true := by simp; omega
   have e3 : l[i]? = some l[i] := by simp [hlt]
   have e4 : wr .i64 ((i : Int) + 1) = ((i + 1 : Nat) : Int) := by rw [wr64] <;> omega
   have key : (l.drop i).all az = (az l[i] && (l.drop (i + 1)).all az) := by rw [List.drop_eq_getElem_cons hlt, List.all_cons]
   cases acc with
   | true =>
     simp only [e1, e3, e4, hlt, go_sem, reduceIte, reduceMul, reduceAdd, reduceSub, reduceEqDiff, reduceLeDiff, reduceLT]
     rw [key]
     refine G_split _ _ _ _ _ ?_ ?_ <;> intro h1 <;> simp only [h1, e3, e4, az, go_sem, reduceIte, reduceMul, reduceAdd, reduceSub, reduceEqDiff, reduceLeDiff, reduceLT]
     · rw [M_loop]
       simp only [kz50, e4, go_sem, reduceIte, reduceMul, reduceAdd, reduceSub, reduceEqDiff, reduceLeDiff, reduceLT]
       have := ih (i + 1) (decide (((l[i]).toNat : Int) ≤ 122)) (by omega) its h
       exact this
     · rw [M_loop]
       simp only [kz50, e4, go_sem, reduceIte, reduceMul, reduceAdd, reduceSub, reduceEqDiff, reduceLeDiff, reduceLT]
       exact ih (i + 1) false (by omega) its h
   | false =>
     simp only [e1, e3, e4, hlt, go_sem, reduceIte, reduceMul, reduceAdd, reduceSub, reduceEqDiff, reduceLeDiff, reduceLT]
     rw [M_loop]
     simp only [kz50, e4, go_sem, reduceIte, reduceMul, reduceAdd, reduceSub, reduceEqDiff, reduceLeDiff, reduceLT]
     exact ih (i + 1) _ (by omega) _ _
theorem w_rName (l : List UInt8) (hl : l.length ≤ 16384) (gl : Nat → List V) : M noX (kz50) (.code B50) [] (St.init gl 6 [.s l] {}) (Fin [.tmp 2] (.i .i64 (errV (nameV l) 22))) := by
 rw [U50]
 simp only [go_sem, reduceIte, reduceMul, reduceAdd, reduceSub, reduceEqDiff, reduceLeDiff, reduceLT]
 have e1 : decide ((1 : Int) ≤ (l.length : Int)) = decide (1 ≤ l.length) := decide_eq_decide.2 (by omega)
 have e2 : decide ((l.length : Int) ≤ 8) = decide (l.length ≤ 8) := decide_eq_decide.2 (by omega)
 refine G_split _ _ _ _ _ ?_ ?_ <;> intro h1 <;> simp only [h1, go_sem, reduceIte, reduceMul, reduceAdd, reduceSub, reduceEqDiff, reduceLeDiff, reduceLT]
 · rw [M_loop]
   simp only [kz50, e2, go_sem, reduceIte, reduceMul, reduceAdd, reduceSub, reduceEqDiff, reduceLeDiff, reduceLT]
   rw [e1] at h1
   have := w_rName_loop l hl gl l.length 0 (decide (l.length ≤ 8)) (by omega) [] {}
   rw [nameV, h1, Bool.true_and]
   exact this
 · rw [M_loop]
   simp only [kz50, go_sem, reduceIte, reduceMul, reduceAdd, reduceSub, reduceEqDiff, reduceLeDiff, reduceLT]
   rw [e1] at h1
   have := w_rName_loop l hl gl l.length 0 false (by omega) [] {}
   rw [nameV, h1, Bool.false_and]
   exact this
theorem c_rName (l : List UInt8) (hl : l.length ≤ 16384) : Comp tabx told 50 [.s l] (.i .i64 (errV (nameV l) 22)) := comp_of tells_noX (fn := af50) rfl (Nat.le_of_ble_eq_true rfl) fun gl => w_rName l hl gl

theorem letters_az (l : List UInt8) : (rns l).all letter = l.all az ∧ ((rns l).all letter = true → (rns l).length = l.length) := by
 induction l using rune_ind with
 | h0 => simp [rns_nil]
 | h1 a r ih =>
   by_cases h : letter (dec (a :: r)).1 = true
   · have h' := h
     simp only [letter, Bool.and_eq_true, decide_eq_true_eq] at h'
     obtain ⟨h1, h2⟩ := dec_low (a := a) (r := r) (by omega)
     rw [h2] at ih h h'
     simp only [List.drop_succ_cons, List.drop_zero] at ih
     rw [rns_cons, h2]
     simp only [List.drop_succ_cons, List.drop_zero, List.all_cons, List.length_cons]
     refine ⟨?_, fun e => ?_⟩
     · rw [ih.1]; rfl
     · simp only [Bool.and_eq_true] at e
       rw [ih.2 e.2]
   · have h0 : letter (dec (a :: r)).1 = false := by simpa using h
     have : az a = false := by
      cases ha : az a with
      | false => rfl
      | true =>
        exfalso
        simp only [az, Bool.and_eq_true, decide_eq_true_eq] at ha
        rw [dec_ascii (by omega)] at h0
        simp only [letter, Bool.and_eq_false_iff, decide_eq_false_iff_not] at h0
        omega
     rw [rns_cons]
     simp [h0, this]
theorem name_eq (l : List UInt8) : allV letter 1 8 l = nameV l := by
 obtain ⟨h1, h2⟩ := letters_az l
 unfold allV nameV
 rw [← h1]
 cases h : (rns l).all letter with
 | false => simp
 | true => rw [h2 h]

/-! ### The law -/
def F_Key (a : List V) : Option V := match a with
 | [.s l] => some (.i .i64 (errV (allV plain 1 24 l) 20))
 | _ => none
def F_Value (a : List V) : Option V := match a with
 | [.s l] => some (.i .i64 (errV (allV plain 0 48 l) 21))
 | _ => none
def F_Name (a : List V) : Option V := match a with
 | [.s l] => some (.i .i64 (errV (allV letter 1 8 l) 22))
 | _ => none
def F_rKey (a : List V) : Option V := match a with
 | [.s l] => if l.length ≤ 16384 then some (.i .i64 (errV (allV plain 1 24 l) 20)) else none
 | _ => none
def F_rValue (a : List V) : Option V := match a with
 | [.s l] => if l.length ≤ 16384 then some (.i .i64 (errV (allV plain 0 48 l) 21)) else none
 | _ => none
def F_rName (a : List V) : Option V := match a with
 | [.s l] => if l.length ≤ 16384 then some (.i .i64 (errV (nameV l) 22)) else none
 | _ => none
theorem F_rKey1 (l : List UInt8) (h : l.length ≤ 16384) : F_rKey [.s l] = some (.i .i64 (errV (allV plain 1 24 l) 20)) := if_pos h
theorem F_rValue1 (l : List UInt8) (h : l.length ≤ 16384) : F_rValue [.s l] = some (.i .i64 (errV (allV plain 0 48 l) 21)) := if_pos h
theorem F_rName1 (l : List UInt8) (h : l.length ≤ 16384) : F_rName [.s l] = some (.i .i64 (errV (nameV l) 22)) := if_pos h
theorem o_Key : ∀ a v, F_Key a = some v → Comp tabx told 111 a v := fun a v e => by
 unfold F_Key at e
 split at e <;> cases e
 exact c_Key _
theorem o_Value : ∀ a v, F_Value a = some v → Comp tabx told 112 a v := fun a v e => by
 unfold F_Value at e
 split at e <;> cases e
 exact c_Value _
theorem o_Name : ∀ a v, F_Name a = some v → Comp tabx told 25 a v := fun a v e => by
 unfold F_Name at e
 split at e <;> cases e
 exact c_Name _
theorem o_rKey : ∀ a v, F_rKey a = some v → Comp tabx told 113 a v := fun a v e => by
 unfold F_rKey at e
 split at e
 · split at e
   · rename_i h; cases e; exact c_rKey _ h
   · cases e
 · cases e
theorem o_rValue : ∀ a v, F_rValue a = some v → Comp tabx told 114 a v := fun a v e => by
 unfold F_rValue at e
 split at e
 · split at e
   · rename_i h; cases e; exact c_rValue _ h
   · cases e
 · cases e
theorem o_rName : ∀ a v, F_rName a = some v → Comp tabx told 50 a v := fun a v e => by
 unfold F_rName at e
 split at e
 · split at e
   · rename_i h; cases e; exact c_rName _ h
   · cases e
 · cases e
mutual
theorem FilR.uniq : ∀ (f g : Fil) (c : List V), FilR f c → FilR g c → f = g
 | .mk k nm tx kids, g, c, h1, h2 => by
   cases h1 with | mk _ _ _ _ xs n tk hn hx =>
   cases h2 with | mk _ _ _ kids' _ _ _ hn' hx' =>
   rw [KidsR.uniq kids kids' xs hx hx']
theorem KidsR.uniq : ∀ (l m : List Fil) (xs : List V), KidsR l xs → KidsR m xs → l = m
 | [], m, xs, h1, h2 => by
   have e := h2.len
   cases h1
   cases m with
   | nil => rfl
   | cons g r => simp only [List.length_nil, List.length_cons] at e; omega
 | f :: r, m, xs, h1, h2 => by
   cases h1 with | cons _ _ c ys h3 h4 =>
   generalize he : c ++ ys = zs at h2
   cases h2 with
   | nil => have := h3.len; have := congrArg List.length he; simp only [List.length_append, List.length_nil] at this; omega
   | cons g r' c' ys' h5 h6 =>
     have hc : c = c' ∧ ys = ys' := List.append_inj he (by rw [h3.len, h5.len])
     obtain ⟨rfl, rfl⟩ := hc
     rw [FilR.uniq f g c h3 h5, KidsR.uniq r r' ys h4 h6]
end
def keyB (l : List UInt8) : Bool := allV plain 1 24 l
def valB (l : List UInt8) : Bool := allV plain 0 48 l
def namB (l : List UInt8) : Bool := allV letter 1 8 l
def mayB (k : Int) (nm tx : List UInt8) (n : Nat) : Bool :=
 if k = 0 ∨ k = 3 then decide (n = 0) && (decide (nm = []) && decide (tx = []))
 else if k = 1 then decide (n = 0) && (decide (nm = []) && keyB tx)
 else if k = 2 then decide (n = 0) && (namB nm && valB tx)
 else if k = 4 then decide (nm = []) && (decide (tx = []) && decide (n = 1))
 else if k = 5 ∨ k = 6 then decide (nm = []) && decide (tx = [])
 else false
mutual
def bld : Fil → Nat → Nat → Nat × Nat
 | .mk k nm tx kids, d, w => if 6 < d ∨ 24 < w + 1 then (51, w + 1) else if mayB k nm tx kids.length = false then (50, w + 1) else blds kids (d + 1) (w + 1)
def blds : List Fil → Nat → Nat → Nat × Nat
 | [], _, w => (0, w)
 | f :: r, d, w => if (bld f d w).1 = 0 then blds r d (bld f d w).2 else bld f d w
end
mutual
theorem bld_le : ∀ (f : Fil) (d w : Nat), w ≤ 24 → w ≤ (bld f d w).2 ∧ ((bld f d w).1 = 0 → (bld f d w).2 ≤ 24)
 | .mk k nm tx kids, d, w, h => by
   rw [bld]
   split
   · exact ⟨by simp only; omega, fun h => by simp only at h; omega⟩
   · split
     · exact ⟨by simp only; omega, fun h => by simp only at h; omega⟩
     · have := blds_le kids (d + 1) (w + 1) (by omega)
       exact ⟨by omega, this.2⟩
theorem blds_le : ∀ (l : List Fil) (d w : Nat), w ≤ 24 → w ≤ (blds l d w).2 ∧ ((blds l d w).1 = 0 → (blds l d w).2 ≤ 24)
 | [], d, w, h => by rw [blds]; exact ⟨Nat.le_refl _, fun _ => h⟩
 | f :: r, d, w, h => by
   rw [blds]
   have h1 := bld_le f d w h
   split
   · rename_i h0
     have h2 := blds_le r d (bld f d w).2 (h1.2 h0)
     exact ⟨by omega, h2.2⟩
   · exact h1
end
/-! ### The walk -/
def WB (h : H) (id w : Nat) : Prop := al h.objs id = some (.cells 3 [.i .i64 (w : Nat)])
def setW (h : H) (id w : Nat) : H := ⟨h.next, alSet h.objs id (.cells 3 [.i .i64 (w : Nat)]), h.nt, h.tips⟩
theorem WB.set (h : H) (id w : Nat) : WB (setW h id w) id w := al_alSet _ _ _
theorem WB.uniq {h : H} {id w w' : Nat} (h1 : WB h id w) (h2 : WB h id w') : w = w' := by
 have := h1.symm.trans h2
 simp only [Option.some.injEq, Ai.Obj.cells.injEq, List.cons.injEq, V.i.injEq, true_and, and_true] at this
 omega
theorem Hop.setW (h : H) (id w : Nat) : Hop h (setW h id w) id :=
 ⟨rfl, Nat.le_refl _, fun _ _ => rfl, fun j hj => by show al (alSet _ _ _) _ = _; rw [al_set, if_neg (fun h => hj h)]⟩
def isQ (t : Nat) : Bool := [181, 183, 185, 186, 190, 192, 193].contains t
def ResB (id : Nat) (h : H) (v : V) (h' : H) (q : Nat × Nat) : Prop := ∃ x, v = .tup [x, .i .i64 (q.1 : Nat)] ∧ ((q.1 = 0 ∧ ∃ t y, x = .ifc t y ∧ isQ t = true) ∨ (q.1 ≠ 0 ∧ x = .nili)) ∧ Hop h h' id ∧ WB h' id q.2
def R_build (id : Nat) (a : List V) (h : H) (v : V) (h' : H) : Prop := ∀ (f : Fil) (c : List V) (d w : Nat), a = [.agg c, .i .i64 (d : Nat), .p id 0] → FilR f c → WB h id w → ResB id h v h' (bld f d w)
def S_build (id D : Nat) : Prop := ∀ (f : Fil) (c : List V) (d w : Nat) (h : H), FilR f c → WB h id w → w ≤ 24 → 8 ≤ d + D → d ≤ 7 →
 ∃ v h', Hp.CompI tabx told 83 [.agg c, .i .i64 (d : Nat), .p id 0] h v h' ∧ ResB id h v h' (bld f d w)
noncomputable def Y_build (id : Nat) := ys [(83, pick 83 (R_build id))]
theorem t_build (id : Nat) : Hp.TellsI tabx told (Y_build id) := itells_cons pick_tells itells_nil
def X_build := xs [(111, F_Key), (112, F_Value), (25, F_Name)]
theorem x_build : Tells tabx told X_build := tells_cons o_Key (tells_cons o_Value (tells_cons o_Name tells_nil))
theorem call_build {id D : Nat} (S : S_build id D) {f : Fil} {c : List V} {d w : Nat} {h : H} (hf : FilR f c) (hw : WB h id w) (h1 : w ≤ 24) (h2 : 8 ≤ d + D) (h3 : d ≤ 7) :
  ∃ x h', Y_build id 83 [.agg c, .i .i64 (d : Nat), .p id 0] h = some (.tup [x, .i .i64 ((bld f d w).1 : Nat)], h') ∧ (((bld f d w).1 = 0 ∧ ∃ t y, x = .ifc t y ∧ isQ t = true) ∨ ((bld f d w).1 ≠ 0 ∧ x = .nili)) ∧ Hop h h' id ∧ WB h' id (bld f d w).2 := by
 obtain ⟨v, h', hc, hr⟩ := S f c d w h hf hw h1 h2 h3
 obtain ⟨v, h', e1, r1⟩ := pick_spec (R := R_build id) hc (by
  intro f' c' d' w' e1 hf' hw'
  simp only [List.cons.injEq, V.i.injEq, V.agg.injEq, true_and, and_true] at e1
  obtain ⟨e1, e2⟩ := e1
  have e2 : d = d' := by omega
  subst e1 e2
  rw [← FilR.uniq f f' c hf hf', ← hw.uniq hw']
  exact hr)
 obtain ⟨x, rfl, q1, q2, q3⟩ := r1 f c d w rfl hf hw
 exact ⟨x, h', e1, q1, q2, q3⟩
/-! Rows that are being built, of any type. -/
def TkH (h0 h : H) (ty m : Nat) (tk : Tk) : Prop := ∃ t, tk = .own t ∧ h0.nt ≤ t ∧ t < h.nt ∧ al h.tips t = some (m, ty)
theorem TkH.hop {h0 h h' : H} {ty m id : Nat} {tk : Tk} (g : TkH h0 h ty m tk) (hp : Hop h h' id) : TkH h0 h' ty m tk := by
 obtain ⟨t, g1, g2, g3, g4⟩ := g
 exact ⟨t, g1, g2, Nat.lt_of_lt_of_le g3 hp.nt, (hp.tips t g3).trans g4⟩
theorem app_tkH {h0 : H} {nx : Nat} {obs : List (Nat × Ai.Obj)} {nt : Nat} {tips : List (Nat × (Nat × TypeId))} {ty sz m id : Nat} {tk : Tk} (g : TkH h0 ⟨nx, obs, nt, tips⟩ ty m tk) {xs c : List V} (hx : xs.length = m * sz) (hc : c.length = 1 * sz) (h1 : allOne c = true) (hm : m + 1 ≤ most) (hp : Hop h0 ⟨nx, obs, nt, tips⟩ id) :
  ∃ tips', (∀ gl T its loc, St.app ⟨gl, T, its, loc, ⟨nx, obs, nt, tips⟩⟩ ty sz (.sl xs m tk) (.sl c 1 .full) = some (.sl (xs ++ c) (m + 1) tk, ⟨gl, T, its, loc, ⟨nx, obs, nt, tips'⟩⟩)) ∧ TkH h0 ⟨nx, obs, nt, tips'⟩ ty (m + 1) tk ∧ Hop h0 ⟨nx, obs, nt, tips'⟩ id := by
 obtain ⟨t, rfl, g2, g3, g4⟩ := g
 refine ⟨alSet tips t (m + 1, ty), fun gl T its loc => ?_, ⟨t, rfl, g2, g3, ?_⟩, ⟨hp.next, hp.nt, fun t' ht => ?_, hp.objs⟩⟩
 · simp only at g4
   simp only [hx, hc, h1, hm, g4, go_sem, reduceIte, reduceMul, reduceAdd, reduceSub, reduceEqDiff, reduceLeDiff, reduceLT]
 · simp only [go_sem, reduceIte, reduceMul, reduceAdd, reduceSub, reduceEqDiff, reduceLeDiff, reduceLT]
 · show al (alSet _ _ _) _ = _
   rw [al_set, if_neg (by omega)]
   exact hp.tips t' ht
theorem KidsR.split {l : List Fil} {xs : List V} (h : KidsR l xs) : ∀ (pre : List Fil) (f : Fil) (post : List Fil), l = pre ++ f :: post → ∃ c, FilR f c ∧ (xs.drop (pre.length * 4)).take 4 = c := by
 intro pre
 induction pre generalizing l xs with
 | nil =>
   intro f post e
   subst e
   cases h with | cons _ _ c ys h1 h2 =>
   refine ⟨c, h1, ?_⟩
   have := h1.len
   simp only [List.length_nil, Nat.zero_mul, List.drop_zero]
   rw [← this, List.take_left]
 | cons g pre ih =>
   intro f post e
   subst e
   cases h with | cons _ _ c ys h1 h2 =>
   obtain ⟨c', h3, h4⟩ := ih h2 f post rfl
   refine ⟨c', h3, ?_⟩
   have := h1.len
   rw [List.length_cons, show (pre.length + 1) * 4 = c.length + pre.length * 4 from by omega, ← List.drop_drop, List.drop_left, h4]
def K83_1 : List Fr := [.blk 1,
 .seq (.seq (Sr [Of 177 0 3, Ol 178 1 177]
 (.blk 3 (Sr [Oz 180 .eql 178 4, Om 179 180]
 (.cond (.t 179)
 (Sr [Om 181 9, Oq 182 (.iaddr (.slice 1) (.t 181) (.k (.i .i64 0))), Ol 183 1 182, Oq 184 (.build [.nili] [(0, 1, (.t 183))]), Oq 185 (.mkif 190 (.t 184)), Om 6 185, On 7 0]
 .ret)
 (Sr [Oz 187 .eql 178 5, Om 186 187]
 (.cond (.t 186)
 (Sr [Om 188 9, Oq 189 (.build [(.sl [] 0 .nil)] [(0, 1, (.t 188))]), Oq 190 (.mkif 192 (.t 189)), Om 6 190, On 7 0]
 .ret)
 .skip))))))
 (Sr [Om 191 9, Oq 192 (.build [(.sl [] 0 .nil)] [(0, 1, (.t 191))]), Oq 193 (.mkif 193 (.t 192)), Om 6 193, On 7 0]
 .ret))]
theorem UH83_1 : type_of% (@Hp_open _ _ L83_1.eq_1) := @Hp_open _ _ L83_1.eq_1
theorem UH83 : type_of% (@Hp_open _ _ B83.eq_1) := @Hp_open _ _ B83.eq_1
def kz83 (_ : Nat) : List Nat := [0, 4, 5, 6, 7, 8, 10, 11, 12, 13, 14, 15, 16, 17, 18, 19, 20, 21, 22, 23, 24, 25, 26, 27, 28, 29, 30, 31, 32, 33, 34, 35, 36, 37, 38, 39, 40, 41, 42, 43, 44, 45, 46, 47, 48, 49, 50, 51, 52, 53, 54, 55, 56, 57, 58, 59, 60, 61, 62, 63, 64, 65, 66, 67, 68, 69, 70, 71, 72, 73, 74, 75, 76, 77, 78, 79, 80, 81, 82, 83, 84, 85, 86, 87, 88, 89, 90, 91, 92, 93, 94, 95, 96, 97, 98, 99, 100, 101, 102, 103, 104, 105, 106, 107, 108, 109, 110, 111, 112, 113, 114, 115, 116, 117, 118, 119, 120, 121, 122, 123, 124, 125, 126, 127, 128, 129, 130, 131, 132, 133, 134, 135, 136, 137, 138, 139, 140, 141, 142, 143, 144, 145, 146, 147, 148, 152, 153, 154, 155, 156, 157, 158, 159, 160, 161, 162, 163, 164, 165, 166, 167, 168, 169, 170, 171, 172, 173, 174, 175, 176, 177, 178, 179, 180, 181, 182, 183, 184, 185, 186, 187, 188, 189, 190, 191, 192, 193]
theorem isQ_c {t : Nat} (h : isQ t = true) : ([181, 183, 185, 186, 190, 192, 193] : List Nat).contains t = true := h
end Go.Proofs.YtpcjhfchpelonaaGreatDoor
