/- The abstract interpreter: what an operation reads: it does the same wherever that is the same. -/
import Derived.Test.YtbhclhgljnoioaaDoorAiD
namespace Ai
open Go

def AOp.opds : AOp → List Opd
  | .mov x => [x]
  | .pick c a b => [c, a, b]
  | .build _ ps => ps.map (·.2.2)
  | .bslice _ _ _ _ _ ps => ps.map (·.2)
  | .load _ _ a => [a]
  | .store _ a x => [a, x]
  | .nilck x => [x]
  | .bin _ x y => [x, y]
  | .eq _ _ x y => [x, y]
  | .un _ x => [x]
  | .conv _ x => [x]
  | .mkif _ x => [x]
  | .mkfn _ a b => a ++ b
  | .slc _ x lo hi mx => x :: (lo.toList ++ hi.toList ++ mx.toList)
  | .faddr _ x => [x]
  | .fld _ _ _ x => [x]
  | .iaddr _ x i => [x, i]
  | .idx _ x i => [x, i]
  | .len _ x => [x]
  | .cap x => [x]
  | .ext x _ => [x]
  | .minmax _ x y => [x, y]
  | .noesc _ x => [x]
  | .sdata x => [x]
  | .tas _ _ _ _ _ x => [x]
  | .call _ _ args => args
  | .callv _ x args => x :: args
  | _ => []

def CK.reads : CK → Bool
  | .toStr | .fromRunes | .uns | .toPtr _ _ => true
  | _ => false

/-- 0: in its place; 1: reads no memory; 2: reads memory; 3: stores. -/
def AOp.cls : AOp → Nat
  | .mov _ | .pick _ _ _ | .build _ _ | .bslice false _ _ _ _ _ | .nilck _ | .bin _ _ _ | .eq _ _ _ _ | .un _ _ | .mkif _ _ | .mkfn _ _ _ | .slc _ _ _ _ _ | .faddr _ _ | .fld _ _ _ _
  | .iaddr _ _ _ | .idx _ _ _ | .cap _ | .ext _ _ | .minmax _ _ _ | .noesc _ _ | .sdata _ | .tas _ _ _ _ _ _ | .call true _ _ | .callv true _ _ => 1
  | .len .map _ => 2
  | .len _ _ => 1
  | .conv c _ => bif c.reads then 2 else 1
  | .load _ _ _ => 2
  | .store _ _ _ => 3
  | _ => 0

/-- Our state, with another's memory. -/
def St.memOf (st m : St) : St := { st with loc := m.loc, h := m.h }

theorem memOf_self (st : St) : st.memOf st = st := rfl

theorem evL_congr {st st' : St} : ∀ {xs : List Opd}, (∀ x ∈ xs, st'.raw x = st.raw x) → evL st' xs = evL st xs
  | [], _ => rfl
  | x :: r, h => by
    simp only [evL, St.ev, h x (by simp)]
    rw [evL_congr fun y hy => h y (by simp [hy])]

theorem evP_congr {st st' : St} : ∀ {ps : List (Nat × Nat × Opd)}, (∀ x ∈ ps.map (·.2.2), st'.raw x = st.raw x) → evP st' ps = evP st ps
  | [], _ => rfl
  | (a, b, x) :: r, h => by
    simp only [evP, St.ev, h x (by simp)]
    rw [evP_congr fun y hy => h y (by simp only [List.map_cons, List.mem_cons]; exact .inr hy)]

theorem evB_congr {st st' : St} {sz : Nat} : ∀ {ps : List (Nat × Opd)}, (∀ x ∈ ps.map (·.2), st'.raw x = st.raw x) → evB st' sz ps = evB st sz ps
  | [], _ => rfl
  | (a, x) :: r, h => by
    simp only [evB, St.ev, h x (by simp)]
    rw [evB_congr fun y hy => h y (by simp only [List.map_cons, List.mem_cons]; exact .inr hy)]

theorem evO_congr {st st' : St} {x : Option Opd} (h : ∀ y ∈ x.toList, st'.raw y = st.raw y) : evO st' x = evO st x := by
  cases x with
  | none => rfl
  | some y => simp only [evO, St.ev, h y (by simp)]

theorem bif_same {b : Bool} {x v : V} {st st' st1 : St} (h : (bif b then some (x, st) else none) = some (v, st1)) : st1 = st ∧ (bif b then some (x, st') else none) = some (v, st') := by
  cases b with
  | false => cases h
  | true =>
    simp only [cond_true, Option.some.injEq, Prod.mk.injEq] at h ⊢
    obtain ⟨rfl, rfl⟩ := h
    exact ⟨rfl, rfl, trivial⟩

/-- An operation that writes nothing. -/
theorem step_same {st st' st1 : St} {d d' : Nat} {op : AOp} {v : V} (hc : op.cls = 1 ∨ op.cls = 2) (ha : ∀ x ∈ op.opds, st'.raw x = st.raw x) (hm : op.cls = 2 → st'.loc = st.loc ∧ st'.h = st.h) (h : step st d op = some (v, st1)) :
    st1 = st ∧ step st' d' op = some (v, st') := by
  cases op with
  | mov x =>
    have e := ha x (by simp [AOp.opds])
    simp only [step, e] at h ⊢
    generalize st.raw x = u at h ⊢
    cases u <;> simp_all
  | pick c a b =>
    have e1 := ha c (by simp [AOp.opds]); have e2 := ha a (by simp [AOp.opds]); have e3 := ha b (by simp [AOp.opds])
    simp only [step, St.ev, e1, e2, e3] at h ⊢
    split at h
    · simp only [Option.some.injEq, Prod.mk.injEq] at h
      obtain ⟨rfl, rfl⟩ := h
      (first | exact ⟨rfl, rfl⟩ | exact ⟨rfl, trivial⟩ | simp)
    · cases h
  | build z ps =>
    have e := evP_congr (fun x hx => ha x (by simpa [AOp.opds] using hx))
    simp only [step, e] at h ⊢
    split at h
    · simp only [Option.some.injEq, Prod.mk.injEq] at h
      obtain ⟨rfl, rfl⟩ := h
      (first | exact ⟨rfl, rfl⟩ | exact ⟨rfl, trivial⟩ | simp)
    · cases h
  | bslice mt ty sz len z ps =>
    cases mt with
    | true => simp [AOp.cls] at hc
    | false =>
      have e := evB_congr (sz := sz) (fun x hx => ha x (by simpa [AOp.opds] using hx))
      simp only [step, e, cond_false] at h ⊢
      split at h
      · simp only [Option.some.injEq, Prod.mk.injEq] at h
        obtain ⟨rfl, rfl⟩ := h
        (first | exact ⟨rfl, rfl⟩ | exact ⟨rfl, trivial⟩ | simp)
      · cases h
  | load agg n a =>
    have e := ha a (by simp [AOp.opds])
    obtain ⟨m1, m2⟩ := hm rfl
    have er : st'.rd (st.raw a) n = st.rd (st.raw a) n := by unfold St.rd; rw [m1, m2]
    simp only [step, e, er] at h ⊢
    split at h
    · cases agg with
      | true =>
        simp only [cond_true, Option.some.injEq, Prod.mk.injEq] at h ⊢
        obtain ⟨rfl, rfl⟩ := h
        (first | exact ⟨rfl, rfl, rfl⟩ | exact ⟨rfl, rfl⟩ | exact ⟨rfl, trivial⟩ | simp)
      | false =>
        simp only [cond_false] at h ⊢
        split at h
        · simp only [Option.some.injEq, Prod.mk.injEq] at h ⊢
          obtain ⟨rfl, rfl⟩ := h
          (first | exact ⟨rfl, rfl, rfl⟩ | exact ⟨rfl, rfl⟩ | exact ⟨rfl, trivial⟩ | simp)
        · cases h
    · cases h
  | nilck x =>
    have e := ha x (by simp [AOp.opds])
    simp only [step, e] at h ⊢
    split at h <;> first | (cases h; done) | (simp only [Option.some.injEq, Prod.mk.injEq] at h; obtain ⟨rfl, rfl⟩ := h; (first | exact ⟨rfl, rfl⟩ | exact ⟨rfl, trivial⟩ | simp))
  | bin op x y =>
    have e1 := ha x (by simp [AOp.opds]); have e2 := ha y (by simp [AOp.opds])
    simp only [step, St.ev, e1, e2] at h ⊢
    cases hb : bin op (st.raw x).val (st.raw y).val with
    | none => rw [hb] at h; cases h
    | some r => rw [hb] at h; simp only [Option.map_some, Option.some.injEq, Prod.mk.injEq] at h ⊢; obtain ⟨rfl, rfl⟩ := h; (first | exact ⟨rfl, rfl, rfl⟩ | exact ⟨rfl, rfl⟩ | exact ⟨rfl, trivial⟩ | simp)
  | eq neg t x y =>
    have e1 := ha x (by simp [AOp.opds]); have e2 := ha y (by simp [AOp.opds])
    simp only [step, St.ev, e1, e2] at h ⊢
    cases hb : eqV t (st.raw x).val (st.raw y).val with
    | none => rw [hb] at h; cases h
    | some r => rw [hb] at h; simp only [Option.map_some, Option.some.injEq, Prod.mk.injEq] at h ⊢; obtain ⟨rfl, rfl⟩ := h; (first | exact ⟨rfl, rfl, rfl⟩ | exact ⟨rfl, rfl⟩ | exact ⟨rfl, trivial⟩ | simp)
  | un op x =>
    have e1 := ha x (by simp [AOp.opds])
    simp only [step, St.ev, e1] at h ⊢
    cases hb : un op (st.raw x).val with
    | none => rw [hb] at h; cases h
    | some r => rw [hb] at h; simp only [Option.map_some, Option.some.injEq, Prod.mk.injEq] at h ⊢; obtain ⟨rfl, rfl⟩ := h; (first | exact ⟨rfl, rfl, rfl⟩ | exact ⟨rfl, rfl⟩ | exact ⟨rfl, trivial⟩ | simp)
  | conv c x =>
    have e1 := ha x (by simp [AOp.opds])
    have er : ∀ v, convV st' c v = convV st c v := by
      intro v
      cases hr : c.reads with
      | false => cases c <;> cases v <;> first | rfl | cases hr
      | true =>
        obtain ⟨m1, m2⟩ := hm (by simp [AOp.cls, hr])
        have er : ∀ n u, st'.row n u = st.row n u := by intro n u; unfold St.row; rw [m2]
        unfold convV; simp only [er, m2]
    simp only [step, St.ev, e1, er] at h ⊢
    cases hb : convV st c (st.raw x).val with
    | none => rw [hb] at h; cases h
    | some r => rw [hb] at h; simp only [Option.map_some, Option.some.injEq, Prod.mk.injEq] at h ⊢; obtain ⟨rfl, rfl⟩ := h; (first | exact ⟨rfl, rfl, rfl⟩ | exact ⟨rfl, rfl⟩ | exact ⟨rfl, trivial⟩ | simp)
  | mkif t x =>
    have e1 := ha x (by simp [AOp.opds])
    simp only [step, St.ev, e1, Option.some.injEq, Prod.mk.injEq] at h ⊢
    obtain ⟨rfl, rfl⟩ := h; (first | exact ⟨rfl, rfl, rfl⟩ | exact ⟨rfl, rfl⟩ | exact ⟨rfl, trivial⟩ | simp)
  | mkfn f a b =>
    have e1 := evL_congr (xs := a) (fun x hx => ha x (by simp [AOp.opds, hx])); have e2 := evL_congr (xs := b) (fun x hx => ha x (by simp [AOp.opds, hx]))
    simp only [step, e1, e2, Option.some.injEq, Prod.mk.injEq] at h ⊢
    obtain ⟨rfl, rfl⟩ := h; (first | exact ⟨rfl, rfl, rfl⟩ | exact ⟨rfl, rfl⟩ | exact ⟨rfl, trivial⟩ | simp)
  | slc k x lo hi mx =>
    have e1 := ha x (by simp [AOp.opds])
    have e2 := evO_congr (x := lo) (fun y hy => ha y (by simp only [AOp.opds, List.mem_cons, List.mem_append]; exact .inr (.inl (.inl hy))))
    have e3 := evO_congr (x := hi) (fun y hy => ha y (by simp only [AOp.opds, List.mem_cons, List.mem_append]; exact .inr (.inl (.inr hy))))
    have e4 := evO_congr (x := mx) (fun y hy => ha y (by simp only [AOp.opds, List.mem_cons, List.mem_append]; exact .inr (.inr hy)))
    simp only [step, St.ev, e1, e2, e3, e4] at h ⊢
    cases hb : slcV k (st.raw x).val (evO st lo) (evO st hi) (evO st mx) with
    | none => rw [hb] at h; cases h
    | some r => rw [hb] at h; simp only [Option.map_some, Option.some.injEq, Prod.mk.injEq] at h ⊢; obtain ⟨rfl, rfl⟩ := h; (first | exact ⟨rfl, rfl, rfl⟩ | exact ⟨rfl, rfl⟩ | exact ⟨rfl, trivial⟩ | simp)
  | faddr off x =>
    have e := ha x (by simp [AOp.opds])
    simp only [step, e] at h ⊢
    split at h <;> first | (cases h; done) | (simp only [Option.some.injEq, Prod.mk.injEq] at h; obtain ⟨rfl, rfl⟩ := h; (first | exact ⟨rfl, rfl⟩ | exact ⟨rfl, trivial⟩ | simp))
  | fld agg off n x =>
    have e := ha x (by simp [AOp.opds])
    simp only [step, St.ev, e] at h ⊢
    split at h
    · rename_i cs _
      cases hb : part? cs off n agg with
      | none => rw [hb] at h; cases h
      | some r => rw [hb] at h; simp only [Option.map_some, Option.some.injEq, Prod.mk.injEq] at h ⊢; obtain ⟨rfl, rfl⟩ := h; (first | exact ⟨rfl, rfl, rfl⟩ | exact ⟨rfl, rfl⟩ | exact ⟨rfl, trivial⟩ | simp)
    · cases h
  | iaddr k x i =>
    have e1 := ha x (by simp [AOp.opds]); have e2 := ha i (by simp [AOp.opds])
    simp only [step, St.ev, e1, e2] at h ⊢
    split at h <;> first | (cases h; done) | skip
    all_goals exact bif_same h
  | idx k x i =>
    have e1 := ha x (by simp [AOp.opds]); have e2 := ha i (by simp [AOp.opds])
    simp only [step, St.ev, e1, e2] at h ⊢
    cases hb : idxV k (st.raw x).val (st.raw i).val with
    | none => rw [hb] at h; cases h
    | some r => rw [hb] at h; simp only [Option.map_some, Option.some.injEq, Prod.mk.injEq] at h ⊢; obtain ⟨rfl, rfl⟩ := h; (first | exact ⟨rfl, rfl, rfl⟩ | exact ⟨rfl, rfl⟩ | exact ⟨rfl, trivial⟩ | simp)
  | len k x =>
    have e := ha x (by simp [AOp.opds])
    have hk : k = .map → st'.h = st.h := fun hk => (hm (by subst hk; rfl)).2
    simp only [step, St.ev, e] at h ⊢
    split at h <;> first | (cases h; done) | (simp only [Option.some.injEq, Prod.mk.injEq] at h; obtain ⟨rfl, rfl⟩ := h; (first | exact ⟨rfl, rfl⟩ | exact ⟨rfl, trivial⟩ | simp)) | skip
    rw [hk rfl]
    split at h <;> first | (cases h; done) | (simp only [Option.some.injEq, Prod.mk.injEq] at h; obtain ⟨rfl, rfl⟩ := h; (first | exact ⟨rfl, rfl⟩ | exact ⟨rfl, trivial⟩ | simp))
  | cap x =>
    have e := ha x (by simp [AOp.opds])
    simp only [step, St.ev, e] at h ⊢
    split at h <;> first | (cases h; done) | (simp only [Option.some.injEq, Prod.mk.injEq] at h; obtain ⟨rfl, rfl⟩ := h; (first | exact ⟨rfl, rfl⟩ | exact ⟨rfl, trivial⟩ | simp))
  | ext x i =>
    have e := ha x (by simp [AOp.opds])
    simp only [step, St.ev, e] at h ⊢
    split at h
    · rename_i vs _
      cases hb : vs[i]? with
      | none => rw [hb] at h; cases h
      | some r => rw [hb] at h; simp only [Option.map_some, Option.some.injEq, Prod.mk.injEq] at h ⊢; obtain ⟨rfl, rfl⟩ := h; (first | exact ⟨rfl, rfl, rfl⟩ | exact ⟨rfl, rfl⟩ | exact ⟨rfl, trivial⟩ | simp)
    · cases h
  | minmax mx x y =>
    have e1 := ha x (by simp [AOp.opds]); have e2 := ha y (by simp [AOp.opds])
    simp only [step, St.ev, e1, e2] at h ⊢
    split at h <;> first | (cases h; done) | (simp only [Option.some.injEq, Prod.mk.injEq] at h; obtain ⟨rfl, rfl⟩ := h; (first | exact ⟨rfl, rfl⟩ | exact ⟨rfl, trivial⟩ | simp))
  | noesc f x =>
    have e := ha x (by simp [AOp.opds])
    simp only [step, St.ev, e] at h ⊢
    split at h <;> first | (cases h; done) | (simp only [Option.some.injEq, Prod.mk.injEq] at h; obtain ⟨rfl, rfl⟩ := h; (first | exact ⟨rfl, rfl⟩ | exact ⟨rfl, trivial⟩ | simp))
  | sdata x =>
    have e := ha x (by simp [AOp.opds])
    simp only [step, St.ev, e] at h ⊢
    split at h
    · simp only [Option.some.injEq, Prod.mk.injEq] at h; obtain ⟨rfl, rfl⟩ := h; (first | exact ⟨rfl, rfl⟩ | exact ⟨rfl, trivial⟩ | simp)
    · rename_i y ys n tk _
      cases hb : Nat.beq n 0 with
      | true => rw [hb] at h; cases h
      | false => rw [hb] at h; simp only [cond_false, Option.some.injEq, Prod.mk.injEq] at h; obtain ⟨rfl, rfl⟩ := h; (first | exact ⟨rfl, rfl⟩ | exact ⟨rfl, trivial⟩ | simp)
    · cases h
  | tas conc oks bads z ok x =>
    have e1 := ha x (by simp [AOp.opds])
    simp only [step, St.ev, e1] at h ⊢
    cases hb : tasV conc oks bads z ok (st.raw x).val with
    | none => rw [hb] at h; cases h
    | some r => rw [hb] at h; simp only [Option.map_some, Option.some.injEq, Prod.mk.injEq] at h ⊢; obtain ⟨rfl, rfl⟩ := h; (first | exact ⟨rfl, rfl, rfl⟩ | exact ⟨rfl, rfl⟩ | exact ⟨rfl, trivial⟩ | simp)
  | call p f args => simp [step] at h
  | callv p x args => simp [step] at h
  | _ => simp [AOp.cls] at hc

/-- A store. -/
theorem step_store {st st' st1 : St} {d d' n : Nat} {a x : Opd} {v : V} (e1 : st'.raw a = st.raw a) (e2 : st'.raw x = st.raw x) (m1 : st'.loc = st.loc) (m2 : st'.h = st.h) (h : step st d (.store n a x) = some (v, st1)) :
    st1 = st.memOf st1 ∧ step st' d' (.store n a x) = some (v, st'.memOf st1) := by
  simp only [step, St.ev, e1, e2] at h ⊢
  split at h
  · rename_i cs _
    cases hb : (Nat.beq cs.length n && allOne cs) with
    | false => rw [hb] at h; cases h
    | true =>
      rw [hb] at h
      simp only [cond_true] at h ⊢
      cases hw : st.wrt (st.raw a) cs with
      | none => rw [hw] at h; cases h
      | some w =>
        rw [hw] at h
        simp only [Option.map_some, Option.some.injEq, Prod.mk.injEq] at h
        obtain ⟨rfl, rfl⟩ := h
        have key : w = st.memOf w ∧ st'.wrt (st.raw a) cs = some (st'.memOf w) := by
          unfold St.wrt at hw ⊢
          rw [m1, m2]
          split at hw
          · rename_i d o _
            cases hal : al st.loc d with
            | none => rw [hal] at hw; cases hw
            | some c =>
              rw [hal] at hw
              simp only at hw ⊢
              cases hb : Nat.ble (o + cs.length) c.length with
              | false => rw [hb] at hw; cases hw
              | true =>
                rw [hb] at hw
                simp only [cond_true, Option.some.injEq] at hw ⊢
                subst hw
                exact ⟨rfl, by simp [St.memOf]⟩
          · rename_i id o _
            split at hw
            · rename_i ty c hal
              cases hb : Nat.ble (o + cs.length) c.length with
              | false => rw [hb] at hw; cases hw
              | true =>
                rw [hb] at hw
                simp only [cond_true, Option.some.injEq] at hw ⊢
                subst hw
                exact ⟨rfl, by simp [St.memOf]⟩
            · cases hw
          · cases hw
        rw [key.2]
        exact ⟨key.1, rfl⟩
  · cases h

/-! ### Temporaries -/
theorem T.set_comm (t : T) : ∀ (i j : Nat) (v w : V), i ≠ j → (t.set i v).set j w = (t.set j w).set i v := by
  induction t with
  | leaf => intros; rfl
  | node l u r ihl ihr =>
    intro i j v w hij
    simp only [T.set]
    cases hi : Nat.beq i 0 with
    | true =>
      have hi0 := Nat.eq_of_beq_eq_true hi
      subst hi0
      have hj : Nat.beq j 0 = false := by cases hb : Nat.beq j 0 with | false => rfl | true => exact absurd (Nat.eq_of_beq_eq_true hb).symm hij
      simp only [cond_true, cond_false, hj, T.set]
      cases Nat.beq (j % 2) 1 <;> simp [T.set]
    | false =>
      cases hj : Nat.beq j 0 with
      | true =>
        simp only [cond_true, cond_false, T.set]
        cases Nat.beq (i % 2) 1 <;> simp only [cond_true, cond_false, T.set, hi, hj]
      | false =>
        have ni : i ≠ 0 := fun e => by subst e; simp at hi
        have nj : j ≠ 0 := fun e => by subst e; simp at hj
        simp only [cond_false]
        cases hi2 : Nat.beq (i % 2) 1 with
        | true =>
          cases hj2 : Nat.beq (j % 2) 1 with
          | true =>
            have a1 := Nat.eq_of_beq_eq_true hi2
            have a2 := Nat.eq_of_beq_eq_true hj2
            simp only [cond_true, T.set, hi, hj, hi2, hj2, cond_false]
            rw [ihl _ _ _ _ (by omega)]
          | false => simp only [cond_true, cond_false, T.set, hi, hj, hi2, hj2]
        | false =>
          cases hj2 : Nat.beq (j % 2) 1 with
          | true => simp only [cond_true, cond_false, T.set, hi, hj, hi2, hj2]
          | false =>
            have a1 : i % 2 ≠ 1 := fun e => by rw [e] at hi2; cases hi2
            have a2 : j % 2 ≠ 1 := fun e => by rw [e] at hj2; cases hj2
            simp only [cond_false, T.set, hi, hj, hi2, hj2]
            rw [ihr _ _ _ _ (by omega)]

theorem put_comm (st : St) {a b : Option Nat} (v w : V) (h : ∀ i j, a = some i → b = some j → i ≠ j) : (st.put a v).put b w = (st.put b w).put a v := by
  cases a with
  | none => rfl
  | some i =>
    cases b with
    | none => rfl
    | some j => simp only [St.put]; rw [T.set_comm _ _ _ _ _ (h i j rfl rfl)]

theorem put_get {st : St} {a : Option Nat} {v : V} {i : Nat} (h : a ≠ some i) : (st.put a v).T.get i = st.T.get i := by
  cases a with
  | none => rfl
  | some j => exact T.get_set_ne _ _ (fun e => h (by rw [e]))

theorem callee_of_step {st : St} {d : Nat} {op : AOp} {r : V × St} (h : step st d op = some r) (st' : St) : callee st' op = none := by
  unfold callee
  split
  · simp [step] at h
  · simp [step] at h
  · rfl

end Ai
