/- The abstract interpreter: a region whose order is drawn. -/
import Derived.Test.YtbhclhgljnoioaaDoorAiCh
namespace Ai
open Go

theorem put_gl (st : St) (d : Option Nat) (v : V) : (st.put d v).gl = st.gl := by cases d <;> rfl
theorem put_its (st : St) (d : Option Nat) (v : V) : (st.put d v).its = st.its := by cases d <;> rfl
theorem put_loc (st : St) (d : Option Nat) (v : V) : (st.put d v).loc = st.loc := by cases d <;> rfl
theorem put_h (st : St) (d : Option Nat) (v : V) : (st.put d v).h = st.h := by cases d <;> rfl

theorem St.ext' {a b : St} (h1 : a.gl = b.gl) (h2 : a.T = b.T) (h3 : a.its = b.its) (h4 : a.loc = b.loc) (h5 : a.h = b.h) : a = b := by
  cases a; cases b; simp_all

theorem put_T (st : St) (d : Option Nat) (v : V) : (st.put d v).T = match d with | some d => st.T.set d v | none => st.T := by cases d <;> rfl

theorem apart_reads {a b : AOper} (h : apartT a b = true) {i : Nat} (hi : i ∈ b.reads) : a.dst ≠ some i := by
  intro e
  unfold apartT at h
  rw [e] at h
  simp only [Bool.and_eq_true, Bool.not_eq_true', List.contains_eq_mem, decide_eq_false_iff_not] at h
  exact h.1 hi

theorem apart_dst {a b : AOper} (h : apartT a b = true) : ∀ i j, a.dst = some i → b.dst = some j → i ≠ j := by
  intro i j e1 e2 e
  unfold apartT at h
  rw [e1, e2] at h
  simp only [Bool.and_eq_true, Bool.not_eq_true'] at h
  subst e
  simp at h

theorem commute {P : Program} {a b : AOper} {st st1 st2 : St} (hi : indep a b = true) (ha : One P a st st1) (hb : One P b st1 st2) : ∃ s1, One P b st s1 ∧ One P a s1 st2 := by
  simp only [indep, Bool.and_eq_true, Bool.not_eq_true', Bool.or_eq_true] at hi
  obtain ⟨⟨⟨⟨⟨h1, h2⟩, h3⟩, h4⟩, h5⟩, h6⟩ := hi
  have ca : a.op.cls ≠ 0 := fun e => by rw [e] at h3; simp at h3
  have cb : b.op.cls ≠ 0 := fun e => by rw [e] at h4; simp at h4
  have h5 : a.op.cls ≤ 2 ∨ b.op.cls = 1 := h5.imp Nat.le_of_ble_eq_true Nat.eq_of_beq_eq_true
  have h6 : b.op.cls ≤ 2 ∨ a.op.cls = 1 := h6.imp Nat.le_of_ble_eq_true Nat.eq_of_beq_eq_true
  obtain ⟨va, ma, ea, fa, ga⟩ := ha.frame ca
  obtain ⟨vb, mb, eb, fb, gb⟩ := hb.frame cb
  subst ea
  obtain ⟨m', o1, k1, k2⟩ := gb st ⟨fun i hi => by rw [put_get (apart_reads h1 hi)]; rfl, by rw [put_gl]; rfl, fun hne => by
    rw [put_loc, put_h]
    have := fa (by omega)
    exact ⟨this.1.symm, this.2.symm⟩⟩
  obtain ⟨m'', o2, k3, k4⟩ := ga _ (show Alike a st ((st.memOf m').put b.dst vb) from ⟨fun i hi => by rw [put_get (apart_reads h2 hi)]; rfl, by rw [put_gl]; rfl, fun hne => by
    rw [put_loc, put_h]
    exact k1 (by omega)⟩)
  refine ⟨_, o1, ?_⟩
  have e : (((st.memOf m').put b.dst vb).memOf m'').put a.dst va = st2 := by
    rw [eb]
    have hmem : m''.loc = mb.loc ∧ m''.h = mb.h := by
      by_cases c3 : a.op.cls = 3
      · have := k4 c3
        have hb3 : b.op.cls ≠ 3 := by omega
        have h := fb hb3
        rw [put_loc, put_h] at h
        exact ⟨this.1.trans h.1.symm, this.2.trans h.2.symm⟩
      · have := k3 c3
        rw [put_loc, put_h] at this
        by_cases d3 : b.op.cls = 3
        · have h := k2 d3
          exact ⟨this.1.trans h.1, this.2.trans h.2⟩
        · have h := fb d3
          rw [put_loc, put_h] at h
          have hm := k1 d3
          have hm2 := fa c3
          exact ⟨this.1.trans (hm.1.trans (hm2.1.symm.trans h.1.symm)), this.2.trans (hm.2.trans (hm2.2.symm.trans h.2.symm))⟩
    have hT := congrArg St.T (put_comm st va vb (apart_dst h1))
    refine St.ext' ?_ ?_ ?_ ?_ ?_
    · simp only [put_gl, St.memOf]
    · simp only [put_T, St.memOf] at hT ⊢
      exact hT.symm
    · simp only [put_its, St.memOf]
    · simp only [put_loc, St.memOf]; exact hmem.1
    · simp only [put_h, St.memOf]; exact hmem.2
  rw [← e]
  exact o2

/-- One of them goes ahead of those with which it may change places. -/
theorem ahead {P : Program} {b : AOper} : ∀ (pre : List AOper) {post : List AOper} {st st' : St}, (∀ a ∈ pre, indep a b = true) → Chain P (pre ++ b :: post) st st' → ∃ s1, One P b st s1 ∧ Chain P (pre ++ post) s1 st'
  | [], post, st, st', _, h => by
    cases h with | cons h k => exact ⟨_, h, k⟩
  | a :: pre, post, st, st', hi, h => by
    cases h with | cons h k =>
    obtain ⟨s1, o1, c1⟩ := ahead pre (fun x hx => hi x (List.mem_cons_of_mem _ hx)) k
    obtain ⟨s2, o2, o3⟩ := commute (hi a (by simp)) h o1
    exact ⟨s2, o2, .cons o3 c1⟩

/-! ### The check -/
def directs (o : Oper) : List Nat := (o.after.toList.filter (Region.binds .any)).map (·.on)

/-- Of each operation: what stands ahead of it, whatever is drawn. -/
def closure (ops : List Oper) : List (List Nat) → List (List Nat)
  | acc => match ops with
    | [] => acc
    | o :: r => closure r (acc ++ [directs o ++ (directs o).flatMap fun j => acc.getD j []])

def pairsOk (clo : List (List Nat)) (l : List AOper) : Nat → Bool
  | 0 => true
  | i + 1 => pairsOk clo l i && ((List.range i).all fun j => (clo.getD i []).contains j || (match l[j]?, l[i]? with | some a, some b => indep a b | _, _ => false))

def backOk : Nat → List Oper → Bool
  | _, [] => true
  | i, o :: r => ((directs o).all fun j => Nat.blt j i) && backOk (i + 1) r

def drawOk (ops : List Oper) (l : List AOper) : Bool := backOk 0 ops && pairsOk (closure ops []) l ops.length

theorem backOk_spec : ∀ (ops : List Oper) (k : Nat), backOk k ops = true → ∀ i o, ops[i]? = some o → ∀ j ∈ directs o, j < k + i
  | [], _, _, i, o, h, _, _ => by simp at h
  | p :: r, k, h, i, o, ho, j, hj => by
    simp only [backOk, Bool.and_eq_true, List.all_eq_true] at h
    cases i with
    | zero =>
      simp only [List.getElem?_cons_zero, Option.some.injEq] at ho
      subst ho
      have := h.1 j hj
      simp [Nat.blt] at this; omega
    | succ i =>
      have := backOk_spec r (k + 1) h.2 i o (by simpa using ho) j hj
      omega

/-- What is listed is shut: with each operation stands all that it waits for. -/
def Shut (ops : List Oper) (listed : Array Bool) : Prop := ∀ i o, ops[i]? = some o → listed.getD i true = true → ∀ j ∈ directs o, listed.getD j false = true

theorem closure_spec (all : List Oper) (listed : Array Bool) (hs : Shut all listed) : ∀ (ops pre : List Oper) (acc : List (List Nat)), all = pre ++ ops → acc.length = pre.length →
    (∀ i o, pre[i]? = some o → (∀ j ∈ directs o, listed.getD j false = true) → ∀ k ∈ acc.getD i [], listed.getD k false = true) →
    backOk pre.length ops = true →
    ∀ i o, all[i]? = some o → (∀ j ∈ directs o, listed.getD j false = true) → ∀ k ∈ (closure ops acc).getD i [], listed.getD k false = true
  | [], pre, acc, he, hl, hp, _, i, o, ho, hj, k, hk => by
    simp only [closure] at hk
    exact hp i o (by rw [he, List.append_nil] at ho; exact ho) hj k hk
  | p :: r, pre, acc, he, hl, hp, hb, i, o, ho, hj, k, hk => by
    unfold closure at hk
    simp only [backOk, Bool.and_eq_true, List.all_eq_true] at hb
    refine closure_spec all listed hs r (pre ++ [p]) _ (by rw [he]; simp) (by simp [hl]) ?_ (by simpa using hb.2) i o ho hj k hk
    intro i2 o2 ho2 hj2 k2 hk2
    rcases Nat.lt_or_ge i2 pre.length with hlt | hge
    · rw [List.getElem?_append_left hlt] at ho2
      refine hp i2 o2 ho2 hj2 k2 ?_
      rw [List.getD_eq_getElem?_getD, List.getElem?_append_left (by omega), ← List.getD_eq_getElem?_getD] at hk2
      exact hk2
    · have hi2 : i2 = pre.length := by
        rw [List.getElem?_append_right hge] at ho2
        have := (List.getElem?_eq_some_iff.1 ho2).1
        simp at this; omega
      subst hi2
      rw [List.getElem?_append_right (Nat.le_refl _)] at ho2
      simp only [Nat.sub_self, List.getElem?_cons_zero, Option.some.injEq] at ho2
      subst ho2
      rw [List.getD_eq_getElem?_getD, List.getElem?_append_right (by omega)] at hk2
      simp only [hl, Nat.sub_self, List.getElem?_cons_zero, Option.getD_some, List.mem_append, List.mem_flatMap] at hk2
      rcases hk2 with hk2 | ⟨j, hj', hk2⟩
      · exact hj2 k2 hk2
      · have hlt := hb.1 j hj'
        have hlt : j < pre.length := by simp [Nat.blt] at hlt; omega
        have hlj := hj2 j hj'
        obtain ⟨oj, hoj⟩ : ∃ oj, pre[j]? = some oj := ⟨_, List.getElem?_eq_getElem hlt⟩
        refine hp j oj hoj (fun q hq => ?_) k2 hk2
        refine hs j oj (by rw [he, List.getElem?_append_left hlt]; exact hoj) ?_ q hq
        rw [Array.getD_eq_getD_getElem?] at hlj ⊢
        cases hg : listed[j]? with
        | none => rfl
        | some b => rw [hg] at hlj; exact hlj

theorem pairsOk_spec {clo : List (List Nat)} {l : List AOper} : ∀ (n : Nat), pairsOk clo l n = true → ∀ i j, i < n → j < i → j ∈ clo.getD i [] ∨ ∃ a b, l[j]? = some a ∧ l[i]? = some b ∧ indep a b = true
  | 0, _, i, j, h, _ => by omega
  | n + 1, h, i, j, hi, hj => by
    simp only [pairsOk, Bool.and_eq_true, List.all_eq_true, List.mem_range, Bool.or_eq_true] at h
    rcases Nat.lt_or_ge i n with hlt | hge
    · exact pairsOk_spec n h.1 i j hlt hj
    · have : i = n := by omega
      subst this
      rcases h.2 j hj with h | h
      · exact .inl (by simpa using h)
      · right
        split at h
        · rename_i a b e1 e2
          exact ⟨a, b, e1, e2, h⟩
        · cases h

end Ai
