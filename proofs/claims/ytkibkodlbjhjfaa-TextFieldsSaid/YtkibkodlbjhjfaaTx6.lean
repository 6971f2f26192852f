/- What a value has under a name; the law. -/
import Derived.Test.YtkibkodlbjhjfaaTx5
set_option linter.unusedSimpArgs false
set_option linter.unusedVariables false
namespace Go.Proofs.Ytkibkodlbjhjfaa
open Ai
def fld1 (name acc l : List UInt8) : Option (List UInt8) :=
  match l with
  | [] => none
  | a :: r => if ((dec (a :: r)).1 : Int) = 58 then (if acc = name then some r else none) else fld1 name (acc ++ (a :: r).take (dec (a :: r)).2) ((a :: r).drop (dec (a :: r)).2)
termination_by l.length
decreasing_by exact dec_nil_free a r
theorem fld1_nil (name acc : List UInt8) : fld1 name acc [] = none := by rw [fld1]
theorem fld1_cons (name acc : List UInt8) (a : UInt8) (r : List UInt8) : fld1 name acc (a :: r) = if ((dec (a :: r)).1 : Int) = 58 then (if acc = name then some r else none) else fld1 name (acc ++ (a :: r).take (dec (a :: r)).2) ((a :: r).drop (dec (a :: r)).2) := by rw [fld1]
def fldV (name : List UInt8) : List (List UInt8) → Option (List UInt8)
  | [] => none
  | p :: r => match fld1 name [] p with
    | some x => some x
    | none => fldV name r
def res (o : Option (List UInt8)) : V := match o with
  | some r => .tup [.s r, .b true]
  | none => .tup [.s [], .b false]
def X_field := xs [(16, F_Parts)]
theorem t_field : Tells tabx told X_field := tells_cons o_Parts tells_nil

def K12_2 : List Fr := [.blk 2,
  .blk 1,
  .seq (.reg [⟨some 34, .bin .add (.t 13) (.k (.i .i64 1)), none⟩,
      ⟨some 13, .mov (.t 34), none⟩]),
  .loop L12_1,
  .blk 0,
  .seq (.seq (.reg [⟨some 4, .mov (.k (.s [])), none⟩,
       ⟨some 5, .mov (.k (.b false)), none⟩])
    .ret)]
theorem U12_2 {xf : FuncId → List V → Option V} {kz : Nat → List Nat} {k : List Fr} {st : St} {Q : AEx → St → Prop} : M xf kz (.code L12_2) k st Q = M xf kz (.code (.seq (.reg [⟨some 19, .next 18, none⟩,
     ⟨some 20, .ext (.t 19) 0, none⟩])
  (.seq (.cond (.t 20)
    .skip
    (.exit 2))
  (.blk 3 (.seq (.reg [⟨some 21, .ext (.t 19) 1, none⟩,
      ⟨some 22, .ext (.t 19) 2, none⟩,
      ⟨some 8, .mov (.t 21), none⟩,
      ⟨some 9, .mov (.t 22), none⟩])
   (.seq (.reg [⟨some 23, .mov (.t 9), none⟩,
      ⟨some 24, .bin .eql (.t 23) (.k (.i .i32 58)), none⟩])
   (.cond (.t 24)
    (.seq (.seq (.reg [⟨some 25, .mov (.t 7), none⟩,
        ⟨some 26, .mov (.t 8), none⟩,
        ⟨some 27, .slc .str (.t 25) none (some (.t 26)) none, none⟩,
        ⟨some 28, .mov (.t 1), none⟩,
        ⟨some 29, .bin .eql (.t 27) (.t 28), none⟩])
     (.cond (.t 29)
      (.seq (.reg [⟨some 30, .mov (.t 7), none⟩,
         ⟨some 31, .mov (.t 8), none⟩,
         ⟨some 32, .bin .add (.t 31) (.k (.i .i64 1)), none⟩,
         ⟨some 33, .slc .str (.t 30) (some (.t 32)) none none, none⟩,
         ⟨some 4, .mov (.t 33), none⟩,
         ⟨some 5, .mov (.k (.b true)), none⟩])
      .ret)
      .skip))
    (.exit 2))
    .skip))))))) k st Q := rfl
def K12_1 : List Fr := [.blk 0,
  .seq (.seq (.reg [⟨some 4, .mov (.k (.s [])), none⟩,
       ⟨some 5, .mov (.k (.b false)), none⟩])
    .ret)]
theorem U12_1 {xf : FuncId → List V → Option V} {kz : Nat → List Nat} {k : List Fr} {st : St} {Q : AEx → St → Prop} : M xf kz (.code L12_1) k st Q = M xf kz (.code (.seq (.reg [⟨some 14, .bin .lss (.t 13) (.t 12), none⟩])
  (.seq (.cond (.t 14)
    .skip
    (.exit 0))
  (.seq (.blk 1 (.seq (.reg [⟨some 15, .iaddr (.slice 1) (.t 11) (.t 13), none⟩,
       ⟨some 16, .load false 1 (.t 15), none⟩,
       ⟨some 7, .mov (.t 16), none⟩])
    (.seq (.reg [⟨some 17, .mov (.t 7), none⟩,
       ⟨some 18, .range (.t 17), none⟩])
    (.blk 2 (.loop L12_2)))))
  (.reg [⟨some 34, .bin .add (.t 13) (.k (.i .i64 1)), none⟩,
    ⟨some 13, .mov (.t 34), none⟩]))))) k st Q := rfl
theorem U12 {xf : FuncId → List V → Option V} {kz : Nat → List Nat} {k : List Fr} {st : St} {Q : AEx → St → Prop} : M xf kz (.code B12) k st Q = M xf kz (.code (.seq (.reg [⟨some 4, .mov (.k (.s [])), none⟩,
     ⟨some 5, .mov (.k (.b false)), none⟩])
  (.seq (.seq (.reg [⟨some 10, .mov (.t 0), none⟩,
      ⟨some 11, .call true 16 [(.t 10), (.k (.i .i32 32))], none⟩,
      ⟨some 12, .len .slice (.t 11), none⟩,
      ⟨some 13, .mov (.k (.i .i64 0)), none⟩])
   (.blk 0 (.loop L12_1)))
  (.seq (.reg [⟨some 4, .mov (.k (.s [])), none⟩,
     ⟨some 5, .mov (.k (.b false)), none⟩])
  .ret)))) k st Q := rfl
def kz12 (n : Nat) : List Nat := if n = 2 then [0, 2, 3, 4, 5, 6, 7, 8, 9, 10, 14, 15, 16, 17, 18, 19, 20, 21, 22, 23, 24, 25, 26, 27, 28, 29, 30, 31, 32, 33, 34] else if n = 6 then [0, 2, 3, 4, 5, 6, 8, 9, 10, 14, 15, 16, 17, 19, 20, 21, 22, 23, 24, 25, 26, 27, 28, 29, 30, 31, 32, 33, 34] else []
theorem w_Field_in (name p : List UInt8) (hp0 : p.length ≤ 16384) (ps : List (List UInt8)) (i : Nat) (rest : List (List UInt8)) (h : H) (gl : Nat → List V)
    (hcont : ∀ its, M X_field (kz12) (.code L12_1) (.loop L12_1 :: K12_1) ⟨gl, (.node (.node (.node (.node (.node (.node .leaf .any .leaf) .any (.node .leaf .any .leaf)) .any (.node (.node .leaf .any .leaf) .any (.node .leaf .any .leaf))) .any (.node (.node (.node .leaf .any .leaf) .any (.node .leaf .any .leaf)) (.sl (ps.map V.s) ps.length .no) (.node (.node .leaf .any .leaf) .any (.node .leaf .any .leaf)))) (.s name) (.node (.node (.node (.node .leaf .any .leaf) .any (.node .leaf .any .leaf)) .any (.node (.node .leaf .any .leaf) .any (.node .leaf .any .leaf))) .any (.node (.node (.node .leaf .any .leaf) .any (.node .leaf .any .leaf)) (.i .i64 ((i + 1 : Nat) : Int)) (.node (.node .leaf .any .leaf) .any (.node .leaf .any .leaf))))) .any (.node (.node (.node (.node (.node .leaf .any .leaf) .any (.node .leaf .any .leaf)) .any (.node (.node .leaf .any .leaf) .any (.node .leaf .any .leaf))) .any (.node (.node (.node .leaf .any .leaf) .any (.node .leaf .any .leaf)) (.i .i64 ps.length) (.node (.node .leaf .any .leaf) .any (.node .leaf .any .leaf)))) .any (.node (.node (.node (.node .leaf .any .leaf) .any (.node .leaf .any .leaf)) .any (.node (.node .leaf .any .leaf) .any (.node .leaf .any .leaf))) .any (.node (.node (.node .leaf .any .leaf) .any (.node .leaf .any .leaf)) .any (.node (.node .leaf .any .leaf) .any (.node .leaf .any .leaf)))))), its, [], h⟩ (Fin [.tmp 4, .tmp 5] (res (fldV name rest))))
    (hi : wr .i64 ((i : Int) + 1) = ((i + 1 : Nat) : Int)) :
    ∀ (l : List UInt8) (pos : Nat) its, p.drop pos = l → pos ≤ p.length →
    M X_field (kz12) (.code L12_2) (.loop L12_2 :: K12_2) ⟨gl, (.node (.node (.node (.node (.node (.node .leaf .any .leaf) .any (.node .leaf .any .leaf)) (.s p) (.node (.node .leaf .any .leaf) .any (.node .leaf .any .leaf))) .any (.node (.node (.node .leaf .any .leaf) .any (.node .leaf .any .leaf)) (.sl (ps.map V.s) ps.length .no) (.node (.node .leaf .any .leaf) .any (.node .leaf .any .leaf)))) (.s name) (.node (.node (.node (.node .leaf .any .leaf) .any (.node .leaf .any .leaf)) .any (.node (.node .leaf .any .leaf) .any (.node .leaf .any .leaf))) .any (.node (.node (.node .leaf .any .leaf) .any (.node .leaf .any .leaf)) (.i .i64 i) (.node (.node .leaf .any .leaf) .any (.node .leaf .any .leaf))))) .any (.node (.node (.node (.node (.node .leaf .any .leaf) .any (.node .leaf .any .leaf)) .any (.node (.node .leaf .any .leaf) .any (.node .leaf .any .leaf))) .any (.node (.node (.node .leaf .any .leaf) .any (.node .leaf .any .leaf)) (.i .i64 ps.length) (.node (.node .leaf .any .leaf) .any (.node .leaf .any .leaf)))) .any (.node (.node (.node (.node .leaf .any .leaf) (.it) (.node .leaf .any .leaf)) .any (.node (.node .leaf .any .leaf) .any (.node .leaf .any .leaf))) .any (.node (.node (.node .leaf .any .leaf) .any (.node .leaf .any .leaf)) .any (.node (.node .leaf .any .leaf) .any (.node .leaf .any .leaf)))))), alSet its 18 (l, pos), [], h⟩
      (Fin [.tmp 4, .tmp 5] (res (match fld1 name (p.take pos) l with | some x => some x | none => fldV name rest))) := by
  intro l
  induction l using rune_ind with
  | h0 =>
    intro pos its hd hp
    rw [U12_2]
    simp only [K12_2, hi, go_sem, ne_eq, not_false_eq_true, reduceIte, Nat.reduceMul, Nat.reduceAdd, Nat.reduceSub, Nat.reduceEqDiff, Nat.reduceLeDiff]
    rw [M_loop]
    rw [fld1_nil]
    have := hcont (alSet its 18 ([], pos))
    simp only [kz12, K12_1, List.length_cons, List.length_nil, go_sem, ne_eq, not_false_eq_true, reduceIte, Nat.reduceMul, Nat.reduceAdd, Nat.reduceSub, Nat.reduceEqDiff, Nat.reduceLeDiff] at this ⊢
    exact this
  | h1 a r ih =>
    intro pos its hd hp
    have hlen := drop_len hd hp
    have hw := dec_pos (a :: r)
    have hw2 := dec_le a r
    have hd' := drop_more hd (dec (a :: r)).2
    have hp' : pos + (dec (a :: r)).2 ≤ p.length := by omega
    rw [U12_2]
    by_cases hc : ((dec (a :: r)).1 : Int) = 58
    · have e3 : decide (((dec (a :: r)).1 : Int) = 58) = true := by simpa using hc
      have hp2 : pos + 1 ≤ p.length := by omega
      have e4 : wr .i64 ((pos : Int) + 1) = ((pos + 1 : Nat) : Int) := by rw [wr64] <;> omega
      by_cases hn : p.take pos = name
      · simp only [e3, e4, hp, hp2, hn, strEq_self, Nat.zero_le, Nat.le_refl, List.take_length, go_sem, ne_eq, not_false_eq_true, reduceIte, Nat.reduceMul, Nat.reduceAdd, Nat.reduceSub, Nat.reduceEqDiff, Nat.reduceLeDiff]
        simp only [K12_2, go_sem, ne_eq, not_false_eq_true, reduceIte, Nat.reduceMul, Nat.reduceAdd, Nat.reduceSub, Nat.reduceEqDiff, Nat.reduceLeDiff]
        rw [fld1_cons, if_pos hc, if_pos rfl]
        have := drop_more hd 1
        simp only [List.drop_succ_cons, List.drop_zero] at this
        have hlr : p.length - (pos + 1) = r.length := by simp only [List.length_cons] at hlen; omega
        simp only [res, this, hlr, List.take_length]
      · have e5 : strEq (p.take pos) name = false := by rw [strEq_iff]; simpa using hn
        simp only [e3, e4, e5, hp, Nat.zero_le, Nat.le_refl, go_sem, ne_eq, not_false_eq_true, reduceIte, Nat.reduceMul, Nat.reduceAdd, Nat.reduceSub, Nat.reduceEqDiff, Nat.reduceLeDiff]
        simp only [K12_2, hi, go_sem, ne_eq, not_false_eq_true, reduceIte, Nat.reduceMul, Nat.reduceAdd, Nat.reduceSub, Nat.reduceEqDiff, Nat.reduceLeDiff]
        rw [M_loop]
        rw [fld1_cons, if_pos hc, if_neg hn]
        have := hcont (alSet its 18 ((a :: r).drop (dec (a :: r)).2, pos + (dec (a :: r)).2))
        simp only [kz12, K12_1, List.length_cons, List.length_nil, go_sem, ne_eq, not_false_eq_true, reduceIte, Nat.reduceMul, Nat.reduceAdd, Nat.reduceSub, Nat.reduceEqDiff, Nat.reduceLeDiff] at this ⊢
        exact this
    · have e3 : decide (((dec (a :: r)).1 : Int) = 58) = false := by simpa using hc
      simp only [e3, go_sem, ne_eq, not_false_eq_true, reduceIte, Nat.reduceMul, Nat.reduceAdd, Nat.reduceSub, Nat.reduceEqDiff, Nat.reduceLeDiff]
      rw [M_loop]
      rw [fld1_cons, if_neg hc]
      have := ih (pos + (dec (a :: r)).2) its hd' hp'
      rw [show p.take (pos + (dec (a :: r)).2) = p.take pos ++ (a :: r).take (dec (a :: r)).2 from by have := take_more hd (Nat.zero_le pos) (dec (a :: r)).2; simpa using this] at this
      simp only [kz12, K12_2, List.length_cons, List.length_nil, go_sem, ne_eq, not_false_eq_true, reduceIte, Nat.reduceMul, Nat.reduceAdd, Nat.reduceSub, Nat.reduceEqDiff, Nat.reduceLeDiff] at this ⊢
      exact this
theorem w_Field_loop (name : List UInt8) (ps : List (List UInt8)) (hps : ∀ p ∈ ps, p.length ≤ 16384) (hl : ps.length ≤ 16385) (h : H) (gl : Nat → List V) : ∀ (k i : Nat) its, i + k = ps.length →
    M X_field (kz12) (.code L12_1) (.loop L12_1 :: K12_1) ⟨gl, (.node (.node (.node (.node (.node (.node .leaf .any .leaf) .any (.node .leaf .any .leaf)) .any (.node (.node .leaf .any .leaf) .any (.node .leaf .any .leaf))) .any (.node (.node (.node .leaf .any .leaf) .any (.node .leaf .any .leaf)) (.sl (ps.map V.s) ps.length .no) (.node (.node .leaf .any .leaf) .any (.node .leaf .any .leaf)))) (.s name) (.node (.node (.node (.node .leaf .any .leaf) .any (.node .leaf .any .leaf)) .any (.node (.node .leaf .any .leaf) .any (.node .leaf .any .leaf))) .any (.node (.node (.node .leaf .any .leaf) .any (.node .leaf .any .leaf)) (.i .i64 i) (.node (.node .leaf .any .leaf) .any (.node .leaf .any .leaf))))) .any (.node (.node (.node (.node (.node .leaf .any .leaf) .any (.node .leaf .any .leaf)) .any (.node (.node .leaf .any .leaf) .any (.node .leaf .any .leaf))) .any (.node (.node (.node .leaf .any .leaf) .any (.node .leaf .any .leaf)) (.i .i64 ps.length) (.node (.node .leaf .any .leaf) .any (.node .leaf .any .leaf)))) .any (.node (.node (.node (.node .leaf .any .leaf) .any (.node .leaf .any .leaf)) .any (.node (.node .leaf .any .leaf) .any (.node .leaf .any .leaf))) .any (.node (.node (.node .leaf .any .leaf) .any (.node .leaf .any .leaf)) .any (.node (.node .leaf .any .leaf) .any (.node .leaf .any .leaf)))))), its, [], h⟩ (Fin [.tmp 4, .tmp 5] (res (fldV name (ps.drop i)))) := by
  intro k
  induction k with
  | zero =>
    intro i its hi
    rw [U12_1]
    have e1 : decide ((i : Int) < ps.length) = false := by simp; omega
    simp only [e1, K12_1, go_sem, ne_eq, not_false_eq_true, reduceIte, Nat.reduceMul, Nat.reduceAdd, Nat.reduceSub, Nat.reduceEqDiff, Nat.reduceLeDiff]
    rw [List.drop_eq_nil_of_le (by omega)]
    simp only [fldV, res]
  | succ k ih =>
    intro i its hi
    rw [U12_1]
    have hlt : i < ps.length := by omega
    have e1 : decide ((i : Int) < ps.length) = true := by simp; omega
    have e2 : i + 1 ≤ (ps.map V.s).length := by simp; omega
    have e3 : (ps.map V.s)[i]? = some (.s ps[i]) := by simp [hlt]
    have e4 : wr .i64 ((i : Int) + 1) = ((i + 1 : Nat) : Int) := by rw [wr64] <;> omega
    simp only [e1, e2, e3, hlt, go_sem, ne_eq, not_false_eq_true, reduceIte, Nat.reduceMul, Nat.reduceAdd, Nat.reduceSub, Nat.reduceEqDiff, Nat.reduceLeDiff]
    rw [M_loop]
    rw [List.drop_eq_getElem_cons hlt]
    have := w_Field_in name ps[i] (hps _ (List.getElem_mem hlt)) ps i (ps.drop (i + 1)) h gl (fun its => ih (i + 1) its (by omega)) e4 ps[i] 0 its rfl (Nat.zero_le _)
    simp only [kz12, K12_1, K12_2, List.length_cons, List.length_nil, List.take_zero, go_sem, ne_eq, not_false_eq_true, reduceIte, Nat.reduceMul, Nat.reduceAdd, Nat.reduceSub, Nat.reduceEqDiff, Nat.reduceLeDiff] at this ⊢
    exact this
theorem w_Field (v name : List UInt8) (hv : v.length ≤ 16384) (gl : Nat → List V) : M X_field (kz12) (.code B12) [] (St.init gl 6 [.s v, .s name] {}) (Fin [.tmp 4, .tmp 5] (res (fldV name (prt 32 [] v)))) := by
  rw [U12]
  simp only [X_field, F_Parts1 v hv, go_sem, ne_eq, not_false_eq_true, reduceIte, Nat.reduceMul, Nat.reduceAdd, Nat.reduceSub, Nat.reduceEqDiff, Nat.reduceLeDiff]
  rw [M_loop]
  have := w_Field_loop name (prt 32 [] v) (fun p hp => by have := prt_part 32 v [] p hp; simp only [List.length_nil] at this; omega) (by have := prt_len 32 v []; omega) {} gl (prt 32 [] v).length 0 [] (by omega)
  simp only [kz12, K12_1, List.length_cons, List.length_nil, List.drop_zero, go_sem, ne_eq, not_false_eq_true, reduceIte, Nat.reduceMul, Nat.reduceAdd, Nat.reduceSub, Nat.reduceEqDiff, Nat.reduceLeDiff] at this ⊢
  exact this
def F_Field (a : List V) : Option V := match a with
  | [.s v, .s name] => if v.length ≤ 16384 then some (res (fldV name (prt 32 [] v))) else none
  | _ => none
theorem F_Field1 (v name : List UInt8) (hv : v.length ≤ 16384) : F_Field [.s v, .s name] = some (res (fldV name (prt 32 [] v))) := if_pos hv
theorem o_Field : ∀ a v, F_Field a = some v → Comp tabx told 12 a v := fun a v e => by
  unfold F_Field at e
  split at e
  · split at e
    · rename_i h; cases e; exact comp_of t_field (fn := af12) rfl (Nat.le_of_ble_eq_true rfl) fun gl => w_Field _ _ h gl
    · cases e
  · cases e

/-! ### The document's way -/
def X_rfield := xs [(20, F_Parts)]
theorem t_rfield : Tells tabx told X_rfield := tells_cons o_rParts tells_nil
def hit (name p : List UInt8) : Bool := decide (1 < (prt 58 [] p).length) && decide ((prt 58 [] p)[0]? = some name)
theorem fld1_prt (name p : List UInt8) : ∀ (l : List UInt8) (pos : Nat), p.drop pos = l → pos ≤ p.length →
    fld1 name (p.take pos) l = if 1 < (prt 58 (p.take pos) l).length ∧ (prt 58 (p.take pos) l)[0]? = some name then some (p.drop (name.length + 1)) else none := by
  intro l
  induction l using rune_ind with
  | h0 =>
    intro pos hd hp
    rw [fld1_nil, prt_nil]
    simp
  | h1 a r ih =>
    intro pos hd hp
    have hlen := drop_len hd hp
    have hw2 := dec_le a r
    by_cases hc : ((dec (a :: r)).1 : Int) = 58
    · rw [fld1_cons, if_pos hc, prt_cons, if_pos hc]
      have h1 := prt_ne 58 ((a :: r).drop (dec (a :: r)).2) []
      by_cases hn : p.take pos = name
      · rw [if_pos hn, if_pos ⟨by simp only [List.length_cons]; omega, by simp [hn]⟩]
        have hl : name.length = pos := by rw [← hn, List.length_take]; omega
        have := drop_more hd 1
        rw [hl, this]
        rfl
      · rw [if_neg hn, if_neg (fun e => hn (by simpa using e.2))]
    · rw [fld1_cons, if_neg hc, prt_cons, if_neg hc]
      have := ih (pos + (dec (a :: r)).2) (drop_more hd _) (by omega)
      rw [show p.take (pos + (dec (a :: r)).2) = p.take pos ++ (a :: r).take (dec (a :: r)).2 from by have := take_more hd (Nat.zero_le pos) (dec (a :: r)).2; simpa using this] at this
      exact this
theorem fld1_hit (name p : List UInt8) : fld1 name [] p = if hit name p = true then some (p.drop (name.length + 1)) else none := by
  have := fld1_prt name p p 0 rfl (Nat.zero_le _)
  by_cases hx : 1 < (prt 58 [] p).length ∧ (prt 58 [] p)[0]? = some name
  · rw [if_pos (show hit name p = true by simpa [hit] using hx)]; exact this.trans (if_pos hx)
  · rw [if_neg (show ¬ hit name p = true by simpa [hit] using hx)]; exact this.trans (if_neg hx)
theorem hit_len {name p : List UInt8} (h : hit name p = true) : name.length + 1 ≤ p.length := by
  have key : ∀ (l : List UInt8) (pos : Nat), p.drop pos = l → pos ≤ p.length → 1 < (prt 58 (p.take pos) l).length → (prt 58 (p.take pos) l)[0]? = some name → name.length + 1 ≤ p.length := by
    intro l
    induction l using rune_ind with
    | h0 => intro pos hd hp h1 h2; rw [prt_nil] at h1; simp at h1
    | h1 a r ih =>
      intro pos hd hp h1 h2
      have hlen := drop_len hd hp
      have hw2 := dec_le a r
      rw [prt_cons] at h1 h2
      split at h1
      · rename_i hc
        rw [if_pos hc] at h2
        simp only [List.getElem?_cons_zero, Option.some.injEq] at h2
        have : name.length = pos := by rw [← h2, List.length_take]; omega
        simp only [List.length_cons] at hlen
        omega
      · rename_i hc
        rw [if_neg hc] at h2
        have e : p.take (pos + (dec (a :: r)).2) = p.take pos ++ (a :: r).take (dec (a :: r)).2 := by have := take_more hd (Nat.zero_le pos) (dec (a :: r)).2; simpa using this
        rw [← e] at h1 h2
        exact ih (pos + (dec (a :: r)).2) (drop_more hd _) (by omega) h1 h2
  simp only [hit, Bool.and_eq_true, decide_eq_true_eq] at h
  have := key p 0 rfl (Nat.zero_le _)
  simp only [List.take_zero] at this
  exact this h.1 h.2

def K13_1 : List Fr := [.blk 0,
  .seq (.seq (.reg [⟨some 4, .mov (.k (.s [])), none⟩,
       ⟨some 5, .mov (.k (.b false)), none⟩])
    .ret)]
theorem U13_1 {xf : FuncId → List V → Option V} {kz : Nat → List Nat} {k : List Fr} {st : St} {Q : AEx → St → Prop} : M xf kz (.code L13_1) k st Q = M xf kz (.code (.seq (.reg [⟨some 13, .bin .lss (.t 12) (.t 11), none⟩])
  (.seq (.cond (.t 13)
    .skip
    (.exit 0))
  (.seq (.blk 1 (.seq (.reg [⟨some 14, .iaddr (.slice 1) (.t 10) (.t 12), none⟩,
       ⟨some 15, .load false 1 (.t 14), none⟩,
       ⟨some 7, .mov (.t 15), none⟩])
    (.seq (.reg [⟨some 16, .mov (.t 7), none⟩,
       ⟨some 17, .call true 20 [(.t 16), (.k (.i .i32 58))], none⟩,
       ⟨some 8, .mov (.t 17), none⟩])
    (.seq (.reg [⟨some 18, .mov (.t 8), none⟩,
       ⟨some 19, .len .slice (.t 18), none⟩,
       ⟨some 20, .bin .gtr (.t 19) (.k (.i .i64 1)), none⟩,
       ⟨some 21, .mov (.t 20), none⟩,
       ⟨some 22, .mov (.t 8), some (21, true)⟩,
       ⟨some 23, .iaddr (.slice 1) (.t 22) (.k (.i .i64 0)), some (21, true)⟩,
       ⟨some 24, .load false 1 (.t 23), some (21, true)⟩,
       ⟨some 25, .mov (.t 1), some (21, true)⟩,
       ⟨some 26, .bin .eql (.t 24) (.t 25), some (21, true)⟩,
       ⟨some 27, .pick (.t 21) (.t 26) (.k (.b false)), none⟩])
    (.cond (.t 27)
     (.seq (.reg [⟨some 28, .mov (.t 7), none⟩,
        ⟨some 29, .mov (.t 1), none⟩,
        ⟨some 30, .len .str (.t 29), none⟩,
        ⟨some 31, .bin .add (.t 30) (.k (.i .i64 1)), none⟩,
        ⟨some 32, .slc .str (.t 28) (some (.t 31)) none none, none⟩,
        ⟨some 4, .mov (.t 32), none⟩,
        ⟨some 5, .mov (.k (.b true)), none⟩])
     .ret)
     .skip)))))
  (.reg [⟨some 33, .bin .add (.t 12) (.k (.i .i64 1)), none⟩,
    ⟨some 12, .mov (.t 33), none⟩]))))) k st Q := rfl
theorem U13 {xf : FuncId → List V → Option V} {kz : Nat → List Nat} {k : List Fr} {st : St} {Q : AEx → St → Prop} : M xf kz (.code B13) k st Q = M xf kz (.code (.seq (.reg [⟨some 4, .mov (.k (.s [])), none⟩,
     ⟨some 5, .mov (.k (.b false)), none⟩])
  (.seq (.seq (.reg [⟨some 9, .mov (.t 0), none⟩,
      ⟨some 10, .call true 20 [(.t 9), (.k (.i .i32 32))], none⟩,
      ⟨some 11, .len .slice (.t 10), none⟩,
      ⟨some 12, .mov (.k (.i .i64 0)), none⟩])
   (.blk 0 (.loop L13_1)))
  (.seq (.reg [⟨some 4, .mov (.k (.s [])), none⟩,
     ⟨some 5, .mov (.k (.b false)), none⟩])
  .ret)))) k st Q := rfl
def kz13 (_ : Nat) : List Nat := [0, 2, 3, 4, 5, 6, 7, 8, 9, 13, 14, 15, 16, 17, 18, 19, 20, 21, 22, 23, 24, 25, 26, 27, 28, 29, 30, 31, 32, 33]
theorem w_rField_loop (name : List UInt8) (hnm : name.length ≤ 16384) (ps : List (List UInt8)) (hps : ∀ p ∈ ps, p.length ≤ 16384) (hl : ps.length ≤ 16385) (h : H) (gl : Nat → List V) : ∀ (k i : Nat) its, i + k = ps.length →
    M X_rfield (kz13) (.code L13_1) (.loop L13_1 :: K13_1) ⟨gl, (.node (.node (.node (.node (.node (.node .leaf .any .leaf) .any (.node .leaf .any .leaf)) .any (.node (.node .leaf .any .leaf) .any (.node .leaf .any .leaf))) .any (.node (.node (.node .leaf .any .leaf) .any (.node .leaf .any .leaf)) (.i .i64 ps.length) (.node (.node .leaf .any .leaf) .any (.node .leaf .any .leaf)))) (.s name) (.node (.node (.node (.node .leaf .any .leaf) .any (.node .leaf .any .leaf)) .any (.node (.node .leaf .any .leaf) .any (.node .leaf .any .leaf))) .any (.node (.node (.node .leaf .any .leaf) .any (.node .leaf .any .leaf)) .any (.node (.node .leaf .any .leaf) .any (.node .leaf .any .leaf))))) .any (.node (.node (.node (.node (.node .leaf .any .leaf) .any (.node .leaf .any .leaf)) .any (.node (.node .leaf .any .leaf) .any (.node .leaf .any .leaf))) .any (.node (.node (.node .leaf .any .leaf) .any (.node .leaf .any .leaf)) (.i .i64 i) (.node (.node .leaf .any .leaf) .any (.node .leaf .any .leaf)))) .any (.node (.node (.node (.node .leaf .any .leaf) .any (.node .leaf .any .leaf)) (.sl (ps.map V.s) ps.length .no) (.node (.node .leaf .any .leaf) .any (.node .leaf .any .leaf))) .any (.node (.node (.node .leaf .any .leaf) .any (.node .leaf .any .leaf)) .any (.node (.node .leaf .any .leaf) .any (.node .leaf .any .leaf)))))), its, [], h⟩ (Fin [.tmp 4, .tmp 5] (res (fldV name (ps.drop i)))) := by
  intro k
  induction k with
  | zero =>
    intro i its hi
    rw [U13_1]
    have e1 : decide ((i : Int) < ps.length) = false := by simp; omega
    simp only [e1, K13_1, go_sem, ne_eq, not_false_eq_true, reduceIte, Nat.reduceMul, Nat.reduceAdd, Nat.reduceSub, Nat.reduceEqDiff, Nat.reduceLeDiff]
    rw [List.drop_eq_nil_of_le (by omega)]
    simp only [fldV, res]
  | succ k ih =>
    intro i its hi
    rw [U13_1]
    have hlt : i < ps.length := by omega
    have e1 : decide ((i : Int) < ps.length) = true := by simp; omega
    have e2 : i + 1 ≤ (ps.map V.s).length := by simp; omega
    have e3 : (ps.map V.s)[i]? = some (.s ps[i]) := by simp [hlt]
    have e4 : wr .i64 ((i : Int) + 1) = ((i + 1 : Nat) : Int) := by rw [wr64] <;> omega
    have hp : ps[i].length ≤ 16384 := hps _ (List.getElem_mem hlt)
    have hf := fld1_hit name ps[i]
    simp only [e1, e2, e3, hlt, X_rfield, F_Parts1 _ hp, go_sem, ne_eq, not_false_eq_true, reduceIte, Nat.reduceMul, Nat.reduceAdd, Nat.reduceSub, Nat.reduceEqDiff, Nat.reduceLeDiff]
    have hn1 := prt_ne 58 ps[i] []
    obtain ⟨q, qs, hq⟩ : ∃ q qs, prt 58 [] ps[i] = q :: qs := by
      cases hq : prt 58 [] ps[i] with
      | nil => rw [hq] at hn1; simp at hn1
      | cons q qs => exact ⟨q, qs, rfl⟩
    rw [List.drop_eq_getElem_cons hlt]
    have e6 : decide ((1 : Int) < ((qs.length + 1 : Nat) : Int)) = decide (1 < qs.length + 1) := decide_eq_decide.2 (by omega)
    have e7 : 0 < qs.length + 1 := by omega
    have e8 : 1 ≤ (qs.map V.s).length + 1 := by omega
    have e9 : (V.s q :: qs.map V.s)[0]? = some (.s q) := rfl
    have hhit : hit name ps[i] = (decide (1 < qs.length + 1) && decide (q = name)) := by simp [hit, hq]
    simp only [hq, e6, go_sem, ne_eq, not_false_eq_true, reduceIte, Nat.reduceMul, Nat.reduceAdd, Nat.reduceSub, Nat.reduceEqDiff, Nat.reduceLeDiff]
    cases hx : decide (1 < qs.length + 1) with
    | false =>
      rw [hx, Bool.false_and] at hhit
      simp only [e4, go_sem, ne_eq, not_false_eq_true, reduceIte, Nat.reduceMul, Nat.reduceAdd, Nat.reduceSub, Nat.reduceEqDiff, Nat.reduceLeDiff]
      rw [M_loop]
      have := ih (i + 1) its (by omega)
      rw [fldV, hf, hhit]
      simp only [kz13, X_rfield, e4, Bool.false_eq_true, go_sem, ne_eq, not_false_eq_true, reduceIte, Nat.reduceMul, Nat.reduceAdd, Nat.reduceSub, Nat.reduceEqDiff, Nat.reduceLeDiff] at this ⊢
      exact this
    | true =>
      rw [hx, Bool.true_and] at hhit
      simp only [e4, e7, e8, e9, strEq_iff, go_sem, ne_eq, not_false_eq_true, reduceIte, Nat.reduceMul, Nat.reduceAdd, Nat.reduceSub, Nat.reduceEqDiff, Nat.reduceLeDiff]
      cases hy : decide (q = name) with
      | false =>
        rw [hy] at hhit
        simp only [e4, go_sem, ne_eq, not_false_eq_true, reduceIte, Nat.reduceMul, Nat.reduceAdd, Nat.reduceSub, Nat.reduceEqDiff, Nat.reduceLeDiff]
        rw [M_loop]
        have := ih (i + 1) its (by omega)
        rw [fldV, hf, hhit]
        simp only [kz13, X_rfield, e4, Bool.false_eq_true, go_sem, ne_eq, not_false_eq_true, reduceIte, Nat.reduceMul, Nat.reduceAdd, Nat.reduceSub, Nat.reduceEqDiff, Nat.reduceLeDiff] at this ⊢
        exact this
      | true =>
        rw [hy] at hhit
        have hle := hit_len hhit
        have e10 : wr .i64 ((name.length : Int) + 1) = ((name.length + 1 : Nat) : Int) := by rw [wr64] <;> omega
        rw [fldV, hf, hhit]
        simp only [e10, hle, K13_1, Nat.le_refl, go_sem, ne_eq, not_false_eq_true, reduceIte, Nat.reduceMul, Nat.reduceAdd, Nat.reduceSub, Nat.reduceEqDiff, Nat.reduceLeDiff]
        simp only [res]
        rw [List.take_of_length_le (by simp)]
theorem w_rField (v name : List UInt8) (hv : v.length ≤ 16384) (hnm : name.length ≤ 16384) (gl : Nat → List V) : M X_rfield (kz13) (.code B13) [] (St.init gl 6 [.s v, .s name] {}) (Fin [.tmp 4, .tmp 5] (res (fldV name (prt 32 [] v)))) := by
  rw [U13]
  simp only [X_rfield, F_Parts1 v hv, go_sem, ne_eq, not_false_eq_true, reduceIte, Nat.reduceMul, Nat.reduceAdd, Nat.reduceSub, Nat.reduceEqDiff, Nat.reduceLeDiff]
  rw [M_loop]
  have := w_rField_loop name hnm (prt 32 [] v) (fun p hp => by have := prt_part 32 v [] p hp; simp only [List.length_nil] at this; omega) (by have := prt_len 32 v []; omega) {} gl (prt 32 [] v).length 0 [] (by omega)
  simp only [kz13, K13_1, List.length_cons, List.length_nil, List.drop_zero, go_sem, ne_eq, not_false_eq_true, reduceIte, Nat.reduceMul, Nat.reduceAdd, Nat.reduceSub, Nat.reduceEqDiff, Nat.reduceLeDiff] at this ⊢
  exact this
def F_rField (a : List V) : Option V := match a with
  | [.s v, .s name] => if v.length ≤ 16384 ∧ name.length ≤ 16384 then some (res (fldV name (prt 32 [] v))) else none
  | _ => none
theorem F_rField1 (v name : List UInt8) (hv : v.length ≤ 16384) (hn : name.length ≤ 16384) : F_rField [.s v, .s name] = some (res (fldV name (prt 32 [] v))) := if_pos ⟨hv, hn⟩
theorem o_rField : ∀ a v, F_rField a = some v → Comp tabx told 13 a v := fun a v e => by
  unfold F_rField at e
  split at e
  · split at e
    · rename_i h; cases e; exact comp_of t_rfield (fn := af13) rfl (Nat.le_of_ble_eq_true rfl) fun gl => w_rField _ _ h.1 h.2 gl
    · cases e
  · cases e

def X_fields := xs [(11, F_awake), (12, F_Field), (13, F_rField)]
theorem t_TextFields : Tells tabx told X_fields := tells_cons o_awake (tells_cons o_Field (tells_cons o_rField tells_nil))
theorem U3 {xf : FuncId → List V → Option V} {kz : Nat → List Nat} {k : List Fr} {st : St} {Q : AEx → St → Prop} : M xf kz (.code B3) k st Q = M xf kz (.code (.seq (.reg [⟨some 4, .mov (.k (.b false)), none⟩])
  (.seq (.seq (.reg [⟨some 9, .mov (.t 0), none⟩,
      ⟨some 10, .len .str (.t 9), none⟩,
      ⟨some 11, .bin .gtr (.t 10) (.k (.i .i64 16384)), none⟩,
      ⟨some 12, .mov (.t 11), none⟩,
      ⟨some 13, .mov (.t 1), some (12, false)⟩,
      ⟨some 14, .len .str (.t 13), some (12, false)⟩,
      ⟨some 15, .bin .gtr (.t 14) (.k (.i .i64 16384)), some (12, false)⟩,
      ⟨some 16, .pick (.t 12) (.k (.b true)) (.t 15), none⟩])
   (.cond (.t 16)
    (.seq (.reg [⟨some 17, .call true 11 [], none⟩,
       ⟨some 4, .mov (.t 17), none⟩])
    .ret)
    .skip))
  (.seq (.reg [⟨some 19, .mov (.t 0), none⟩,
     ⟨some 20, .mov (.t 1), none⟩,
     ⟨some 21, .call true 12 [(.t 19), (.t 20)], none⟩,
     ⟨some 18, .mov (.t 21), none⟩,
     ⟨some 22, .ext (.t 18) 0, none⟩,
     ⟨some 23, .ext (.t 18) 1, none⟩,
     ⟨some 5, .mov (.t 22), none⟩,
     ⟨some 6, .mov (.t 23), none⟩])
  (.seq (.reg [⟨some 25, .mov (.t 0), none⟩,
     ⟨some 26, .mov (.t 1), none⟩,
     ⟨some 27, .call true 13 [(.t 25), (.t 26)], none⟩,
     ⟨some 24, .mov (.t 27), none⟩,
     ⟨some 28, .ext (.t 24) 0, none⟩,
     ⟨some 29, .ext (.t 24) 1, none⟩,
     ⟨some 7, .mov (.t 28), none⟩,
     ⟨some 8, .mov (.t 29), none⟩])
  (.seq (.reg [⟨some 30, .mov (.t 5), none⟩,
     ⟨some 31, .mov (.t 7), none⟩,
     ⟨some 32, .bin .eql (.t 30) (.t 31), none⟩,
     ⟨some 33, .mov (.t 32), none⟩,
     ⟨some 34, .mov (.t 6), some (33, true)⟩,
     ⟨some 35, .mov (.t 8), some (33, true)⟩,
     ⟨some 36, .eq false .bool (.t 34) (.t 35), some (33, true)⟩,
     ⟨some 37, .pick (.t 33) (.t 36) (.k (.b false)), none⟩,
     ⟨some 38, .mov (.t 37), none⟩,
     ⟨some 39, .call true 11 [], some (38, true)⟩,
     ⟨some 40, .pick (.t 38) (.t 39) (.k (.b false)), none⟩,
     ⟨some 4, .mov (.t 40), none⟩])
  .ret)))))) k st Q := rfl
def kz3 (_ : Nat) : List Nat := []
theorem w_TextFields (v name : List UInt8) (gl : Nat → List V) : M X_fields (kz3) (.code B3) [] (St.init gl 6 [.s v, .s name] {}) (Fin [.tmp 4] (.b true)) := by
  rw [U3]
  simp only [go_sem, ne_eq, not_false_eq_true, reduceIte, Nat.reduceMul, Nat.reduceAdd, Nat.reduceSub, Nat.reduceEqDiff, Nat.reduceLeDiff]
  refine G_split _ _ _ _ _ ?_ ?_ <;> intro h1 <;> simp only [h1, X_fields, F_awake1, go_sem, ne_eq, not_false_eq_true, reduceIte, Nat.reduceMul, Nat.reduceAdd, Nat.reduceSub, Nat.reduceEqDiff, Nat.reduceLeDiff]
  refine B_split _ _ _ ?_ ?_ <;> intro h2 <;> simp only [h2, F_awake1, go_sem, ne_eq, not_false_eq_true, reduceIte, Nat.reduceMul, Nat.reduceAdd, Nat.reduceSub, Nat.reduceEqDiff, Nat.reduceLeDiff]
  have hv : v.length ≤ 16384 := by simp only [decide_eq_false_iff_not] at h1; omega
  have hn : name.length ≤ 16384 := by simp only [decide_eq_false_iff_not] at h2; omega
  have e : (true != false) = true := rfl
  cases hf : fldV name (prt 32 [] v) with
  | none => simp only [F_Field1 v name hv, F_rField1 v name hv hn, F_awake1, hf, res, strEq_self, e, beq_self_eq_true, go_sem, ne_eq, not_false_eq_true, reduceIte, Nat.reduceMul, Nat.reduceAdd, Nat.reduceSub, Nat.reduceEqDiff, Nat.reduceLeDiff]
  | some x => simp only [F_Field1 v name hv, F_rField1 v name hv hn, F_awake1, hf, res, strEq_self, e, beq_self_eq_true, go_sem, ne_eq, not_false_eq_true, reduceIte, Nat.reduceMul, Nat.reduceAdd, Nat.reduceSub, Nat.reduceEqDiff, Nat.reduceLeDiff]
end Go.Proofs.Ytkibkodlbjhjfaa
