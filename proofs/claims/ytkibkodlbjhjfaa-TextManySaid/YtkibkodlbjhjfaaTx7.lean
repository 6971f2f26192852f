/- A text has one part more than runes of the kind; the law. -/
import Derived.Test.YtkibkodlbjhjfaaTx4
import Derived.Test.YtkibkodlbjhjfaaAiTy
set_option linter.unusedSimpArgs false
set_option linter.unusedVariables false
namespace Go.Proofs.Ytkibkodlbjhjfaa
open Ai
def X_many2 := xs [(11, F_awake), (16, F_Parts)]
theorem t_TextMany : Tells tabx told X_many2 := tells_cons o_awake (tells_cons o_Parts tells_nil)
def K5_3 : List Fr := [.blk 4,
  .blk 3,
  .seq (.reg [⟨some 44, .bin .add (.t 32) (.k (.i .i64 1)), none⟩,
      ⟨some 32, .mov (.t 44), none⟩]),
  .loop L5_2,
  .blk 2,
  .seq (.seq (.reg [⟨some 45, .mov (.t 5), none⟩,
       ⟨some 46, .len .slice (.t 45), none⟩,
       ⟨some 47, .mov (.t 6), none⟩,
       ⟨some 48, .bin .eql (.t 46) (.t 47), none⟩,
       ⟨some 49, .mov (.t 48), none⟩,
       ⟨some 50, .call true 11 [], some (49, true)⟩,
       ⟨some 51, .pick (.t 49) (.t 50) (.k (.b false)), none⟩,
       ⟨some 4, .mov (.t 51), none⟩])
    .ret)]
theorem U5_3 {xf : FuncId → List V → Option V} {kz : Nat → List Nat} {k : List Fr} {st : St} {Q : AEx → St → Prop} : M xf kz (.code L5_3) k st Q = M xf kz (.code (.seq (.reg [⟨some 38, .next 37, none⟩,
     ⟨some 39, .ext (.t 38) 0, none⟩])
  (.seq (.cond (.t 39)
    .skip
    (.exit 4))
  (.blk 5 (.seq (.reg [⟨some 40, .ext (.t 38) 2, none⟩,
      ⟨some 12, .mov (.t 40), none⟩])
   (.seq (.reg [⟨some 41, .mov (.t 12), none⟩,
      ⟨some 42, .mov (.t 1), none⟩,
      ⟨some 43, .bin .eql (.t 41) (.t 42), none⟩])
   (.cond (.t 43)
    (.seq (.reg [⟨some 4, .mov (.k (.b false)), none⟩])
    .ret)
    .skip))))))) k st Q := rfl
def K5_2 : List Fr := [.blk 2,
  .seq (.seq (.reg [⟨some 45, .mov (.t 5), none⟩,
       ⟨some 46, .len .slice (.t 45), none⟩,
       ⟨some 47, .mov (.t 6), none⟩,
       ⟨some 48, .bin .eql (.t 46) (.t 47), none⟩,
       ⟨some 49, .mov (.t 48), none⟩,
       ⟨some 50, .call true 11 [], some (49, true)⟩,
       ⟨some 51, .pick (.t 49) (.t 50) (.k (.b false)), none⟩,
       ⟨some 4, .mov (.t 51), none⟩])
    .ret)]
theorem U5_2 {xf : FuncId → List V → Option V} {kz : Nat → List Nat} {k : List Fr} {st : St} {Q : AEx → St → Prop} : M xf kz (.code L5_2) k st Q = M xf kz (.code (.seq (.reg [⟨some 33, .bin .lss (.t 32) (.t 31), none⟩])
  (.seq (.cond (.t 33)
    .skip
    (.exit 2))
  (.seq (.blk 3 (.seq (.reg [⟨some 34, .iaddr (.slice 1) (.t 30) (.t 32), none⟩,
       ⟨some 35, .load false 1 (.t 34), none⟩,
       ⟨some 10, .mov (.t 35), none⟩])
    (.seq (.reg [⟨some 36, .mov (.t 10), none⟩,
       ⟨some 37, .range (.t 36), none⟩])
    (.blk 4 (.loop L5_3)))))
  (.reg [⟨some 44, .bin .add (.t 32) (.k (.i .i64 1)), none⟩,
    ⟨some 32, .mov (.t 44), none⟩]))))) k st Q := rfl
def K5_1 : List Fr := [.blk 0,
  .seq (.seq (.seq (.reg [⟨some 30, .mov (.t 5), none⟩,
        ⟨some 31, .len .slice (.t 30), none⟩,
        ⟨some 32, .mov (.k (.i .i64 0)), none⟩])
     (.blk 2 (.loop L5_2)))
    (.seq (.reg [⟨some 45, .mov (.t 5), none⟩,
       ⟨some 46, .len .slice (.t 45), none⟩,
       ⟨some 47, .mov (.t 6), none⟩,
       ⟨some 48, .bin .eql (.t 46) (.t 47), none⟩,
       ⟨some 49, .mov (.t 48), none⟩,
       ⟨some 50, .call true 11 [], some (49, true)⟩,
       ⟨some 51, .pick (.t 49) (.t 50) (.k (.b false)), none⟩,
       ⟨some 4, .mov (.t 51), none⟩])
    .ret))]
theorem U5_1 {xf : FuncId → List V → Option V} {kz : Nat → List Nat} {k : List Fr} {st : St} {Q : AEx → St → Prop} : M xf kz (.code L5_1) k st Q = M xf kz (.code (.seq (.reg [⟨some 22, .next 21, none⟩,
     ⟨some 23, .ext (.t 22) 0, none⟩])
  (.seq (.cond (.t 23)
    .skip
    (.exit 0))
  (.blk 1 (.seq (.reg [⟨some 24, .ext (.t 22) 2, none⟩,
      ⟨some 8, .mov (.t 24), none⟩])
   (.seq (.reg [⟨some 25, .mov (.t 8), none⟩,
      ⟨some 26, .mov (.t 1), none⟩,
      ⟨some 27, .bin .eql (.t 25) (.t 26), none⟩])
   (.cond (.t 27)
    (.reg [⟨some 28, .mov (.t 6), none⟩,
      ⟨some 29, .bin .add (.t 28) (.k (.i .i64 1)), none⟩,
      ⟨some 6, .mov (.t 29), none⟩])
    .skip))))))) k st Q := rfl
theorem U5 {xf : FuncId → List V → Option V} {kz : Nat → List Nat} {k : List Fr} {st : St} {Q : AEx → St → Prop} : M xf kz (.code B5) k st Q = M xf kz (.code (.seq (.reg [⟨some 4, .mov (.k (.b false)), none⟩])
  (.seq (.seq (.reg [⟨some 13, .mov (.t 0), none⟩,
      ⟨some 14, .len .str (.t 13), none⟩,
      ⟨some 15, .bin .gtr (.t 14) (.k (.i .i64 16384)), none⟩])
   (.cond (.t 15)
    (.seq (.reg [⟨some 16, .call true 11 [], none⟩,
       ⟨some 4, .mov (.t 16), none⟩])
    .ret)
    .skip))
  (.seq (.reg [⟨some 17, .mov (.t 0), none⟩,
     ⟨some 18, .mov (.t 1), none⟩,
     ⟨some 19, .call true 16 [(.t 17), (.t 18)], none⟩,
     ⟨some 5, .mov (.t 19), none⟩])
  (.seq (.reg [⟨some 6, .mov (.k (.i .i64 1)), none⟩])
  (.seq (.seq (.reg [⟨some 20, .mov (.t 0), none⟩,
      ⟨some 21, .range (.t 20), none⟩])
   (.blk 0 (.loop L5_1)))
  (.seq (.seq (.reg [⟨some 30, .mov (.t 5), none⟩,
      ⟨some 31, .len .slice (.t 30), none⟩,
      ⟨some 32, .mov (.k (.i .i64 0)), none⟩])
   (.blk 2 (.loop L5_2)))
  (.seq (.reg [⟨some 45, .mov (.t 5), none⟩,
     ⟨some 46, .len .slice (.t 45), none⟩,
     ⟨some 47, .mov (.t 6), none⟩,
     ⟨some 48, .bin .eql (.t 46) (.t 47), none⟩,
     ⟨some 49, .mov (.t 48), none⟩,
     ⟨some 50, .call true 11 [], some (49, true)⟩,
     ⟨some 51, .pick (.t 49) (.t 50) (.k (.b false)), none⟩,
     ⟨some 4, .mov (.t 51), none⟩])
  .ret)))))))) k st Q := rfl
def kz5 (n : Nat) : List Nat := if n = 2 then [0, 2, 3, 4, 7, 8, 9, 10, 11, 12, 13, 14, 15, 16, 17, 18, 19, 20, 22, 23, 24, 25, 26, 27, 28, 29, 33, 34, 35, 36, 37, 38, 39, 40, 41, 42, 43, 44, 45, 46, 47, 48, 49, 50, 51] else if n = 6 then [0, 2, 3, 4, 7, 8, 9, 10, 11, 12, 13, 14, 15, 16, 17, 18, 19, 20, 21, 22, 23, 24, 25, 26, 27, 28, 29, 33, 34, 35, 36, 38, 39, 40, 41, 42, 43, 44, 45, 46, 47, 48, 49, 50, 51] else []
theorem w_Many3 (by' : Int) (p : List UInt8) (ps : List (List UInt8)) (i n : Nat) (h : H) (gl : Nat → List V) (hi : wr .i64 ((i : Int) + 1) = ((i + 1 : Nat) : Int))
    (hcont : ∀ its, M X_many2 (kz5) (.code L5_2) (.loop L5_2 :: K5_2) ⟨gl, (.node (.node (.node (.node (.node (.node .leaf (.i .i64 ps.length) .leaf) .any (.node .leaf .any .leaf)) .any (.node (.node .leaf .any .leaf) .any (.node .leaf .any .leaf))) .any (.node (.node (.node .leaf .any .leaf) .any (.node .leaf .any .leaf)) .any (.node (.node .leaf .any .leaf) .any (.node .leaf .any .leaf)))) (.i .i32 by') (.node (.node (.node (.node .leaf .any .leaf) .any (.node .leaf .any .leaf)) .any (.node (.node .leaf .any .leaf) .any (.node .leaf .any .leaf))) (.sl (ps.map V.s) ps.length .no) (.node (.node (.node .leaf .any .leaf) .any (.node .leaf .any .leaf)) .any (.node (.node .leaf .any .leaf) .any (.node .leaf .any .leaf))))) .any (.node (.node (.node (.node (.node .leaf (.i .i64 ((i + 1 : Nat) : Int)) .leaf) .any (.node .leaf .any .leaf)) .any (.node (.node .leaf .any .leaf) .any (.node .leaf .any .leaf))) .any (.node (.node (.node .leaf .any .leaf) .any (.node .leaf .any .leaf)) .any (.node (.node .leaf .any .leaf) .any (.node .leaf .any .leaf)))) .any (.node (.node (.node (.node .leaf .any .leaf) .any (.node .leaf .any .leaf)) .any (.node (.node .leaf .any .leaf) .any (.node .leaf .any .leaf))) (.i .i64 n) (.node (.node (.node .leaf .any .leaf) .any (.node .leaf .any .leaf)) .any (.node (.node .leaf .any .leaf) (.sl (ps.map V.s) ps.length .no) (.node .leaf .any .leaf)))))), its, [], h⟩ (Fin [.tmp 4] (.b true))) :
    ∀ (l : List UInt8) (pos : Nat) its, (∀ c ∈ rns l, ((c : Nat) : Int) ≠ by') →
    M X_many2 (kz5) (.code L5_3) (.loop L5_3 :: K5_3) ⟨gl, (.node (.node (.node (.node (.node (.node .leaf (.i .i64 ps.length) .leaf) .any (.node .leaf .any .leaf)) .any (.node (.node .leaf .any .leaf) .any (.node .leaf .any .leaf))) .any (.node (.node (.node .leaf .any .leaf) .any (.node .leaf .any .leaf)) .any (.node (.node .leaf .any .leaf) .any (.node .leaf .any .leaf)))) (.i .i32 by') (.node (.node (.node (.node .leaf .any .leaf) .any (.node .leaf .any .leaf)) .any (.node (.node .leaf .any .leaf) .any (.node .leaf .any .leaf))) (.sl (ps.map V.s) ps.length .no) (.node (.node (.node .leaf (.it) .leaf) .any (.node .leaf .any .leaf)) .any (.node (.node .leaf .any .leaf) .any (.node .leaf .any .leaf))))) .any (.node (.node (.node (.node (.node .leaf (.i .i64 i) .leaf) .any (.node .leaf .any .leaf)) .any (.node (.node .leaf .any .leaf) .any (.node .leaf .any .leaf))) .any (.node (.node (.node .leaf .any .leaf) .any (.node .leaf .any .leaf)) .any (.node (.node .leaf .any .leaf) .any (.node .leaf .any .leaf)))) .any (.node (.node (.node (.node .leaf .any .leaf) .any (.node .leaf .any .leaf)) .any (.node (.node .leaf .any .leaf) .any (.node .leaf .any .leaf))) (.i .i64 n) (.node (.node (.node .leaf .any .leaf) .any (.node .leaf .any .leaf)) .any (.node (.node .leaf .any .leaf) (.sl (ps.map V.s) ps.length .no) (.node .leaf .any .leaf)))))), alSet its 37 (l, pos), [], h⟩ (Fin [.tmp 4] (.b true)) := by
  intro l
  induction l using rune_ind with
  | h0 =>
    intro pos its hc
    rw [U5_3]
    simp only [K5_3, hi, go_sem, ne_eq, not_false_eq_true, reduceIte, Nat.reduceMul, Nat.reduceAdd, Nat.reduceSub, Nat.reduceEqDiff, Nat.reduceLeDiff]
    rw [M_loop]
    have := hcont (alSet its 37 ([], pos))
    simp only [kz5, K5_2, List.length_cons, List.length_nil, go_sem, ne_eq, not_false_eq_true, reduceIte, Nat.reduceMul, Nat.reduceAdd, Nat.reduceSub, Nat.reduceEqDiff, Nat.reduceLeDiff] at this ⊢
    exact this
  | h1 a r ih =>
    intro pos its hc
    rw [U5_3]
    rw [rns_cons] at hc
    have e3 : decide (((dec (a :: r)).1 : Int) = by') = false := by simpa using hc _ (List.mem_cons_self ..)
    simp only [e3, go_sem, ne_eq, not_false_eq_true, reduceIte, Nat.reduceMul, Nat.reduceAdd, Nat.reduceSub, Nat.reduceEqDiff, Nat.reduceLeDiff]
    rw [M_loop]
    have := ih (pos + (dec (a :: r)).2) its (fun c h => hc c (List.mem_cons_of_mem _ h))
    simp only [kz5, K5_3, List.length_cons, List.length_nil, go_sem, ne_eq, not_false_eq_true, reduceIte, Nat.reduceMul, Nat.reduceAdd, Nat.reduceSub, Nat.reduceEqDiff, Nat.reduceLeDiff] at this ⊢
    exact this
theorem w_Many2 (by' : Int) (ps : List (List UInt8)) (hl : ps.length ≤ 16385) (hf : ∀ p ∈ ps, ∀ c ∈ rns p, ((c : Nat) : Int) ≠ by') (h : H) (gl : Nat → List V) : ∀ (k i : Nat) its (x21 : V), i + k = ps.length →
    M X_many2 (kz5) (.code L5_2) (.loop L5_2 :: K5_2) ⟨gl, (.node (.node (.node (.node (.node (.node .leaf (.i .i64 ps.length) .leaf) .any (.node .leaf .any .leaf)) .any (.node (.node .leaf .any .leaf) .any (.node .leaf .any .leaf))) .any (.node (.node (.node .leaf .any .leaf) .any (.node .leaf .any .leaf)) .any (.node (.node .leaf .any .leaf) .any (.node .leaf .any .leaf)))) (.i .i32 by') (.node (.node (.node (.node .leaf .any .leaf) .any (.node .leaf .any .leaf)) .any (.node (.node .leaf .any .leaf) .any (.node .leaf .any .leaf))) (.sl (ps.map V.s) ps.length .no) (.node (.node (.node .leaf .any .leaf) (x21) (.node .leaf .any .leaf)) .any (.node (.node .leaf .any .leaf) .any (.node .leaf .any .leaf))))) .any (.node (.node (.node (.node (.node .leaf (.i .i64 i) .leaf) .any (.node .leaf .any .leaf)) .any (.node (.node .leaf .any .leaf) .any (.node .leaf .any .leaf))) .any (.node (.node (.node .leaf .any .leaf) .any (.node .leaf .any .leaf)) .any (.node (.node .leaf .any .leaf) .any (.node .leaf .any .leaf)))) .any (.node (.node (.node (.node .leaf .any .leaf) .any (.node .leaf .any .leaf)) .any (.node (.node .leaf .any .leaf) .any (.node .leaf .any .leaf))) (.i .i64 ps.length) (.node (.node (.node .leaf .any .leaf) .any (.node .leaf .any .leaf)) .any (.node (.node .leaf .any .leaf) (.sl (ps.map V.s) ps.length .no) (.node .leaf .any .leaf)))))), its, [], h⟩ (Fin [.tmp 4] (.b true)) := by
  intro k
  induction k with
  | zero =>
    intro i its x21 hi
    rw [U5_2]
    have e1 : decide ((i : Int) < ps.length) = false := by simp; omega
    simp only [e1, K5_2, X_many2, F_awake1, go_sem, ne_eq, not_false_eq_true, reduceIte, Nat.reduceMul, Nat.reduceAdd, Nat.reduceSub, Nat.reduceEqDiff, Nat.reduceLeDiff]
  | succ k ih =>
    intro i its x21 hi
    rw [U5_2]
    have hlt : i < ps.length := by omega
    have e1 : decide ((i : Int) < ps.length) = true := by simp; omega
    have e2 : i + 1 ≤ (ps.map V.s).length := by simp; omega
    have e3 : (ps.map V.s)[i]? = some (.s ps[i]) := by simp [hlt]
    have e4 : wr .i64 ((i : Int) + 1) = ((i + 1 : Nat) : Int) := by rw [wr64] <;> omega
    simp only [e1, e2, e3, hlt, go_sem, ne_eq, not_false_eq_true, reduceIte, Nat.reduceMul, Nat.reduceAdd, Nat.reduceSub, Nat.reduceEqDiff, Nat.reduceLeDiff]
    rw [M_loop]
    have := w_Many3 by' ps[i] ps i ps.length h gl e4 (fun its => ih (i + 1) its .any (by omega)) ps[i] 0 its (hf _ (List.getElem_mem hlt))
    simp only [kz5, K5_2, K5_3, List.length_cons, List.length_nil, go_sem, ne_eq, not_false_eq_true, reduceIte, Nat.reduceMul, Nat.reduceAdd, Nat.reduceSub, Nat.reduceEqDiff, Nat.reduceLeDiff] at this ⊢
    exact this
theorem w_Many1 (by' : Int) (ps : List (List UInt8)) (hl : ps.length ≤ 16385) (hf : ∀ p ∈ ps, ∀ c ∈ rns p, ((c : Nat) : Int) ≠ by') (gl : Nat → List V) : ∀ (l : List UInt8) (n pos : Nat), n + l.length ≤ 16385 → ps.length = n + (rns l).countP (fun c : Nat => decide ((c : Int) = by')) →
    M X_many2 (kz5) (.code L5_1) (.loop L5_1 :: K5_1) ⟨gl, (.node (.node (.node (.node (.node (.node .leaf .any .leaf) .any (.node .leaf .any .leaf)) .any (.node (.node .leaf .any .leaf) .any (.node .leaf .any .leaf))) .any (.node (.node (.node .leaf .any .leaf) .any (.node .leaf .any .leaf)) .any (.node (.node .leaf .any .leaf) .any (.node .leaf .any .leaf)))) (.i .i32 by') (.node (.node (.node (.node .leaf .any .leaf) .any (.node .leaf .any .leaf)) .any (.node (.node .leaf .any .leaf) .any (.node .leaf .any .leaf))) (.sl (ps.map V.s) ps.length .no) (.node (.node (.node .leaf .any .leaf) (.it) (.node .leaf .any .leaf)) .any (.node (.node .leaf .any .leaf) .any (.node .leaf .any .leaf))))) .any (.node (.node (.node (.node (.node .leaf .any .leaf) .any (.node .leaf .any .leaf)) .any (.node (.node .leaf .any .leaf) .any (.node .leaf .any .leaf))) .any (.node (.node (.node .leaf .any .leaf) .any (.node .leaf .any .leaf)) .any (.node (.node .leaf .any .leaf) .any (.node .leaf .any .leaf)))) .any (.node (.node (.node (.node .leaf .any .leaf) .any (.node .leaf .any .leaf)) .any (.node (.node .leaf .any .leaf) .any (.node .leaf .any .leaf))) (.i .i64 n) (.node (.node (.node .leaf .any .leaf) .any (.node .leaf .any .leaf)) .any (.node (.node .leaf .any .leaf) .any (.node .leaf .any .leaf)))))), [(21, (l, pos))], [], {}⟩ (Fin [.tmp 4] (.b true)) := by
  intro l
  induction l using rune_ind with
  | h0 =>
    intro n pos hn hc
    rw [U5_1]
    simp only [K5_1, go_sem, ne_eq, not_false_eq_true, reduceIte, Nat.reduceMul, Nat.reduceAdd, Nat.reduceSub, Nat.reduceEqDiff, Nat.reduceLeDiff]
    rw [M_loop]
    simp only [rns_nil, List.countP_nil, Nat.add_zero] at hc
    have := w_Many2 by' ps hl hf {} gl ps.length 0 [(21, ([], pos))] .it (by omega)
    rw [← hc]
    simp only [kz5, K5_2, List.length_cons, List.length_nil, go_sem, ne_eq, not_false_eq_true, reduceIte, Nat.reduceMul, Nat.reduceAdd, Nat.reduceSub, Nat.reduceEqDiff, Nat.reduceLeDiff] at this ⊢
    exact this
  | h1 a r ih =>
    intro n pos hn hc
    have hlt := dec_nil_free a r
    rw [U5_1]
    rw [rns_cons, List.countP_cons] at hc
    have e4 : wr .i64 ((n : Int) + 1) = ((n + 1 : Nat) : Int) := by rw [wr64] <;> omega
    cases e3 : decide (((dec (a :: r)).1 : Int) = by') with
    | true =>
      simp only [e3, e4, go_sem, ne_eq, not_false_eq_true, reduceIte, Nat.reduceMul, Nat.reduceAdd, Nat.reduceSub, Nat.reduceEqDiff, Nat.reduceLeDiff]
      rw [M_loop]
      have := ih (n + 1) (pos + (dec (a :: r)).2) (by omega) (by rw [hc, e3]; simp; omega)
      simp only [kz5, K5_1, List.length_cons, List.length_nil, go_sem, ne_eq, not_false_eq_true, reduceIte, Nat.reduceMul, Nat.reduceAdd, Nat.reduceSub, Nat.reduceEqDiff, Nat.reduceLeDiff] at this ⊢
      exact this
    | false =>
      simp only [e3, go_sem, ne_eq, not_false_eq_true, reduceIte, Nat.reduceMul, Nat.reduceAdd, Nat.reduceSub, Nat.reduceEqDiff, Nat.reduceLeDiff]
      rw [M_loop]
      have := ih n (pos + (dec (a :: r)).2) (by omega) (by rw [hc, e3]; simp)
      simp only [kz5, K5_1, List.length_cons, List.length_nil, go_sem, ne_eq, not_false_eq_true, reduceIte, Nat.reduceMul, Nat.reduceAdd, Nat.reduceSub, Nat.reduceEqDiff, Nat.reduceLeDiff] at this ⊢
      exact this
theorem w_TextMany (s : List UInt8) (by' : Int) (gl : Nat → List V) : M X_many2 (kz5) (.code B5) [] (St.init gl 6 [.s s, .i .i32 by'] {}) (Fin [.tmp 4] (.b true)) := by
  rw [U5]
  simp only [go_sem, ne_eq, not_false_eq_true, reduceIte, Nat.reduceMul, Nat.reduceAdd, Nat.reduceSub, Nat.reduceEqDiff, Nat.reduceLeDiff]
  refine B_split _ _ _ ?_ ?_ <;> intro h <;> simp only [h, X_many2, F_awake1, go_sem, ne_eq, not_false_eq_true, reduceIte, Nat.reduceMul, Nat.reduceAdd, Nat.reduceSub, Nat.reduceEqDiff, Nat.reduceLeDiff]
  have hl : s.length ≤ 16384 := by simp only [decide_eq_false_iff_not] at h; omega
  simp only [F_Parts1 s hl, go_sem, ne_eq, not_false_eq_true, reduceIte, Nat.reduceMul, Nat.reduceAdd, Nat.reduceSub, Nat.reduceEqDiff, Nat.reduceLeDiff]
  rw [M_loop]
  have := w_Many1 by' (prt by' [] s) (by have := prt_len by' s []; omega) (prt_free by' s.length s (Nat.le_refl _)) gl s 1 0 (by omega) (prt_count by' s [])
  simp only [kz5, K5_1, List.length_cons, List.length_nil, X_many2, go_sem, ne_eq, not_false_eq_true, reduceIte, Nat.reduceMul, Nat.reduceAdd, Nat.reduceSub, Nat.reduceEqDiff, Nat.reduceLeDiff] at this ⊢
  exact this
end Go.Proofs.Ytkibkodlbjhjfaa
