/- The abstract interpreter, for proofs with variables in them: a machine with a stack, one rule for each of its steps. -/
import Derived.Test.YtbhclhgljnoioaaDoorAiZd
namespace Ai
open Go

inductive Fr where
  | seq (b : AC)
  | blk (id : Nat)
  | loop (c : AC)

inductive Tsk where
  | ops (l : List AOper)
  | code (c : AC)
  | ex (e : AEx)

section
variable (xf : FuncId → List V → Option V)

/-- One operation, a pure call too. -/
def stepK (st : St) (d : Nat) (o : AOp) : Option (V × St) :=
  match o with
  | .call true g args => (xf g (evL st args)).map (·, st)
  | .callv true x args => (match st.ev x with
    | .fn f first cap => (xf f (first ++ evL st args ++ cap)).map (·, st)
    | _ => none)
  | .call false _ _ => none
  | .callv false _ _ => none
  | o => step st d o

variable (kz : Nat → List Nat)

/-- Runs by steps; at each beginning of a loop's round the temporaries that kz names are forgotten. -/
def runK : Nat → Tsk → List Fr → St → Option (AEx × St)
  | 0, _, _, _ => none
  | f + 1, .ops l, k, st => match l with
    | [] => runK f (.ex .norm) k st
    | o :: r => match wanted st o with
      | none => none
      | some false => runK f (.ops r) k (st.put o.dst (.tup []))
      | some true => match stepK xf st (o.dst.getD 0) o.op with
        | some (v, st') => runK f (.ops r) k (st'.put o.dst v)
        | none => none
  | f + 1, .code c, k, st => match c with
    | .skip => runK f (.ex .norm) k st
    | .ret => runK f (.ex .ret) k st
    | .exit i => runK f (.ex (.exit i)) k st
    | .reg l => runK f (.ops l) k st
    | .seq a b => runK f (.code a) (.seq b :: k) st
    | .cond c a b => match st.ev c with
      | .b x => bif x then runK f (.code a) k st else runK f (.code b) k st
      | _ => none
    | .blk id c => runK f (.code c) (.blk id :: k) st
    | .loop c => runK f (.code c) (.loop c :: k) { st with T := st.T.kill (kz k.length) }
    | .refuse => none
  | f + 1, .ex e, k, st => match k with
    | [] => some (e, st)
    | .seq b :: k => match e with
      | .norm => runK f (.code b) k st
      | e => runK f (.ex e) k st
    | .blk id :: k => match e with
      | .exit j => bif Nat.beq j id then runK f (.ex .norm) k st else runK f (.ex (.exit j)) k st
      | e => runK f (.ex e) k st
    | .loop c :: k => match e with
      | .norm => runK f (.code (.loop c)) k st
      | e => runK f (.ex e) k st

def M (t : Tsk) (k : List Fr) (st : St) (Q : AEx → St → Prop) : Prop := ∃ f ex st', runK xf kz f t k st = some (ex, st') ∧ Q ex st'

/-- Behind an operation. -/
def C (d : Option Nat) (r : List AOper) (k : List Fr) (Q : AEx → St → Prop) : Option (V × St) → Prop
  | some (v, st') => M xf kz (.ops r) k (st'.put d v) Q
  | none => False

/-- Behind a guard. -/
def G (d : Option Nat) (op : AOp) (r : List AOper) (k : List Fr) (st : St) (Q : AEx → St → Prop) (w : Bool) : V → Prop
  | .b x => bif x == w then M xf kz (.ops (⟨d, op, none⟩ :: r)) k st Q else M xf kz (.ops r) k (st.put d (.tup [])) Q
  | .tup [] => M xf kz (.ops r) k (st.put d (.tup [])) Q
  | _ => False

/-- Behind a test. -/
def B (a b : AC) (k : List Fr) (st : St) (Q : AEx → St → Prop) : V → Prop
  | .b x => bif x then M xf kz (.code a) k st Q else M xf kz (.code b) k st Q
  | _ => False

def X (j id : Nat) (k : List Fr) (st : St) (Q : AEx → St → Prop) : Prop := bif Nat.beq j id then M xf kz (.ex .norm) k st Q else M xf kz (.ex (.exit j)) k st Q
end

section
variable {xf : FuncId → List V → Option V} {kz : Nat → List Nat}

theorem M_step {t t' : Tsk} {k k' : List Fr} {st st' : St} {Q : AEx → St → Prop} (h : ∀ f, runK xf kz (f + 1) t k st = runK xf kz f t' k' st') : M xf kz t k st Q = M xf kz t' k' st' Q := by
  apply propext
  constructor
  · rintro ⟨f, ex, s, e, q⟩
    cases f with
    | zero => simp [runK] at e
    | succ f => exact ⟨f, ex, s, by rw [← h]; exact e, q⟩
  · rintro ⟨f, ex, s, e, q⟩
    exact ⟨f + 1, ex, s, by rw [h]; exact e, q⟩

theorem M_stuck {t : Tsk} {k : List Fr} {st : St} {Q : AEx → St → Prop} (h : ∀ f, runK xf kz (f + 1) t k st = none) : M xf kz t k st Q = False := by
  apply propext
  refine ⟨?_, False.elim⟩
  rintro ⟨f, ex, s, e, q⟩
  cases f with
  | zero => simp [runK] at e
  | succ f => rw [h] at e; cases e

variable {k : List Fr} {st : St} {Q : AEx → St → Prop}

theorem M_nil : M xf kz (.ops []) k st Q = M xf kz (.ex .norm) k st Q := M_step fun _ => rfl
theorem M_op (d : Option Nat) (op : AOp) (r : List AOper) : M xf kz (.ops (⟨d, op, none⟩ :: r)) k st Q = C xf kz d r k Q (stepK xf st (d.getD 0) op) := by
  cases h : stepK xf st (d.getD 0) op with
  | none => exact M_stuck fun f => by simp only [runK, wanted, h]
  | some p => obtain ⟨v, st'⟩ := p; exact M_step fun f => by simp only [runK, wanted, h]
theorem C_some (d : Option Nat) (r : List AOper) (v : V) (st' : St) : C xf kz d r k Q (some (v, st')) = M xf kz (.ops r) k (st'.put d v) Q := rfl
theorem M_opg (d : Option Nat) (op : AOp) (t : Nat) (w : Bool) (r : List AOper) : M xf kz (.ops (⟨d, op, some (t, w)⟩ :: r)) k st Q = G xf kz d op r k st Q w (st.T.get t) := by
  cases h : st.T.get t with
  | b x =>
    cases hx : x == w with
    | true =>
      simp only [G, hx, cond_true]
      rw [M_op]
      cases h' : stepK xf st (d.getD 0) op with
      | none => exact M_stuck fun f => by simp only [runK, wanted, h, h', hx]
      | some p => obtain ⟨v, st'⟩ := p; exact M_step fun f => by simp only [runK, wanted, h, h', hx]
    | false =>
      simp only [G, hx, cond_false]
      exact M_step fun f => by simp only [runK, wanted, h, hx]
  | tup vs =>
    cases vs with
    | nil => exact M_step fun f => by simp only [runK, wanted, h]
    | cons a r => exact M_stuck fun f => by simp only [runK, wanted, h]
  | _ => exact M_stuck fun f => by simp only [runK, wanted, h]
theorem G_b (d : Option Nat) (op : AOp) (r : List AOper) (w x : Bool) : G xf kz d op r k st Q w (.b x) = bif x == w then M xf kz (.ops (⟨d, op, none⟩ :: r)) k st Q else M xf kz (.ops r) k (st.put d (.tup [])) Q := rfl
theorem M_skip : M xf kz (.code .skip) k st Q = M xf kz (.ex .norm) k st Q := M_step fun _ => rfl
theorem M_ret : M xf kz (.code .ret) k st Q = M xf kz (.ex .ret) k st Q := M_step fun _ => rfl
theorem M_exit (i : Nat) : M xf kz (.code (.exit i)) k st Q = M xf kz (.ex (.exit i)) k st Q := M_step fun _ => rfl
theorem M_reg (l : List AOper) : M xf kz (.code (.reg l)) k st Q = M xf kz (.ops l) k st Q := M_step fun _ => rfl
theorem M_seq (a b : AC) : M xf kz (.code (.seq a b)) k st Q = M xf kz (.code a) (.seq b :: k) st Q := M_step fun _ => rfl
theorem M_blk (id : Nat) (c : AC) : M xf kz (.code (.blk id c)) k st Q = M xf kz (.code c) (.blk id :: k) st Q := M_step fun _ => rfl
theorem M_loop (c : AC) : M xf kz (.code (.loop c)) k st Q = M xf kz (.code c) (.loop c :: k) { st with T := st.T.kill (kz k.length) } Q := M_step fun _ => rfl
theorem M_cond (c : Opd) (a b : AC) : M xf kz (.code (.cond c a b)) k st Q = B xf kz a b k st Q (st.ev c) := by
  cases h : st.ev c with
  | b x =>
    cases x with
    | true => exact M_step fun f => by simp only [runK, h, cond_true]
    | false => exact M_step fun f => by simp only [runK, h, cond_false]
  | _ => exact M_stuck fun f => by simp only [runK, h]
theorem B_true (a b : AC) : B xf kz a b k st Q (.b true) = M xf kz (.code a) k st Q := rfl
theorem B_false (a b : AC) : B xf kz a b k st Q (.b false) = M xf kz (.code b) k st Q := rfl
theorem B_split (a b : AC) (x : Bool) (h1 : x = true → B xf kz a b k st Q (.b true)) (h2 : x = false → B xf kz a b k st Q (.b false)) : B xf kz a b k st Q (.b x) := by
  cases x with
  | true => exact h1 rfl
  | false => exact h2 rfl
theorem M_done (e : AEx) : M xf kz (.ex e) [] st Q = Q e st := by
  apply propext
  constructor
  · rintro ⟨f, ex, s, e, q⟩
    cases f with
    | zero => simp [runK] at e
    | succ f =>
      simp only [runK, Option.some.injEq, Prod.mk.injEq] at e
      obtain ⟨rfl, rfl⟩ := e
      exact q
  · intro q
    exact ⟨1, e, st, rfl, q⟩
theorem M_ns (b : AC) : M xf kz (.ex .norm) (.seq b :: k) st Q = M xf kz (.code b) k st Q := M_step fun _ => rfl
theorem M_rs (b : AC) : M xf kz (.ex .ret) (.seq b :: k) st Q = M xf kz (.ex .ret) k st Q := M_step fun _ => rfl
theorem M_es (j : Nat) (b : AC) : M xf kz (.ex (.exit j)) (.seq b :: k) st Q = M xf kz (.ex (.exit j)) k st Q := M_step fun _ => rfl
theorem M_nb (id : Nat) : M xf kz (.ex .norm) (.blk id :: k) st Q = M xf kz (.ex .norm) k st Q := M_step fun _ => rfl
theorem M_rb (id : Nat) : M xf kz (.ex .ret) (.blk id :: k) st Q = M xf kz (.ex .ret) k st Q := M_step fun _ => rfl
theorem M_eb (j id : Nat) : M xf kz (.ex (.exit j)) (.blk id :: k) st Q = X xf kz j id k st Q := by
  unfold X
  cases h : Nat.beq j id with
  | true => exact M_step fun f => by simp only [runK, h, cond_true]
  | false => exact M_step fun f => by simp only [runK, h, cond_false]
theorem M_nl (c : AC) : M xf kz (.ex .norm) (.loop c :: k) st Q = M xf kz (.code (.loop c)) k st Q := M_step fun _ => rfl
theorem M_rl (c : AC) : M xf kz (.ex .ret) (.loop c :: k) st Q = M xf kz (.ex .ret) k st Q := M_step fun _ => rfl
theorem M_el (j : Nat) (c : AC) : M xf kz (.ex (.exit j)) (.loop c :: k) st Q = M xf kz (.ex (.exit j)) k st Q := M_step fun _ => rfl
theorem X_eq (j : Nat) : X xf kz j j k st Q = M xf kz (.ex .norm) k st Q := by simp [X]
theorem X_ne (j id : Nat) (h : j ≠ id) : X xf kz j id k st Q = M xf kz (.ex (.exit j)) k st Q := by
  unfold X
  rw [show Nat.beq j id = false from by cases hb : Nat.beq j id with | true => exact absurd (Nat.eq_of_beq_eq_true hb) h | false => rfl]; rfl

/-! ### It is what the relation says -/
variable {tab : FuncId → Option AFunc} {pr : Prims}

/-- A pure call with these arguments comes to this value. -/
def Comp (tab : FuncId → Option AFunc) (pr : Prims) (g : FuncId) (args : List V) (v : V) : Prop := ∀ h gl, pr.ok gl → Ev tab pr (.fn true g args h gl) (.val v h)

def Tells (tab : FuncId → Option AFunc) (pr : Prims) (xf : FuncId → List V → Option V) : Prop := ∀ g args v, xf g args = some v → Comp tab pr g args v

theorem stepK_gl {st st' : St} {d : Nat} {op : AOp} {v : V} (h : stepK xf st d op = some (v, st')) : st'.gl = st.gl := by
  unfold stepK at h
  split at h
  · rw [map_st (f := id) h]
  · split at h
    · rw [map_st (f := id) h]
    · cases h
  · cases h
  · cases h
  · exact step_gl h

def Tsk.at (st : St) : Tsk → Option J
  | .ops l => some (.ops l st)
  | .code c => some (.code c st)
  | .ex _ => none

theorem runK_ev (hx : Tells tab pr xf) : ∀ (n f : Nat) (_ : f ≤ n) (t : Tsk) (k : List Fr) (st : St) (ex : AEx) (st' : St), pr.ok st.gl → runK xf kz f t k st = some (ex, st') →
    ∃ ex1 st1 f1, pr.ok st1.gl ∧ f1 < f + (match t with | .ex _ => 1 | _ => 0) ∧ runK xf kz f1 (.ex ex1) k st1 = some (ex, st') ∧ (match t with | .ops l => Ev tab pr (.ops l st) (.fin ex1 st1) ∧ ex1 = .norm | .code c => Ev tab pr (.code c st) (.fin ex1 st1) | .ex e => ex1 = e ∧ st1 = st)
  | _, 0, _, _, _, _, _, _, _, h => by simp [runK] at h
  | 0, f + 1, hf, _, _, _, _, _, _, _ => by omega
  | n + 1, f + 1, hf, .ops l, k, st, ex, st', hok, h => by
    cases l with
    | nil =>
      simp only [runK] at h
      exact ⟨.norm, st, f, hok, by simp, h, .nil st, rfl⟩
    | cons o r =>
      simp only [runK] at h
      split at h
      · cases h
      · rename_i hw
        obtain ⟨ex1, st1, f1, hg1, hl, hr, he, hn⟩ := runK_ev hx n f (by omega) (.ops r) k _ ex st' (by rw [put_gl]; exact hok) h
        exact ⟨ex1, st1, f1, hg1, by simp only at hl ⊢; omega, hr, .pass hw he, hn⟩
      · rename_i hw
        split at h
        · rename_i v st2 hs
          obtain ⟨ex1, st1, f1, hg1, hl, hr, he, hn⟩ := runK_ev hx n f (by omega) (.ops r) k _ ex st' (by rw [put_gl, stepK_gl hs]; exact hok) h
          refine ⟨ex1, st1, f1, hg1, by simp only at hl ⊢; omega, hr, ?_, hn⟩
          unfold stepK at hs
          split at hs
          · rename_i g args ho
            cases hv : xf g (evL st args) with
            | none => rw [hv] at hs; cases hs
            | some w =>
              rw [hv] at hs
              simp only [Option.map_some, Option.some.injEq, Prod.mk.injEq] at hs
              obtain ⟨rfl, rfl⟩ := hs
              exact .call (p := true) (g := g) (args := evL st args) hw (by rw [ho]; rfl) (hx _ _ _ hv st.h st.gl hok) he
          · rename_i x args ho
            split at hs
            · rename_i g first cap hx'
              cases hv : xf g (first ++ evL st args ++ cap) with
              | none => rw [hv] at hs; cases hs
              | some w =>
                rw [hv] at hs
                simp only [Option.map_some, Option.some.injEq, Prod.mk.injEq] at hs
                obtain ⟨rfl, rfl⟩ := hs
                exact .call (p := true) (g := g) (args := first ++ evL st args ++ cap) hw (by rw [ho]; simp only [callee, hx']) (hx _ _ _ hv st.h st.gl hok) he
            · cases hs
          · cases hs
          · cases hs
          · rename_i h1 h2 h3 h4
            have hc : callee st o.op = none := by
              unfold callee
              split
              · rename_i p f args ho
                cases p with
                | true => exact absurd ho (h1 _ _)
                | false => exact absurd ho (h3 _ _)
              · rename_i p x args ho
                cases p with
                | true => exact absurd ho (h2 _ _)
                | false => exact absurd ho (h4 _ _)
              · rfl
            exact .step hw hc hs he
        · cases h
  | n + 1, f + 1, hf, .code c, k, st, ex, st', hok, h => by
    cases c with
    | skip => exact ⟨.norm, st, f, hok, by simp, h, .skip st⟩
    | ret => exact ⟨.ret, st, f, hok, by simp, h, .ret st⟩
    | exit i => exact ⟨.exit i, st, f, hok, by simp, h, .exit i st⟩
    | reg l =>
      simp only [runK] at h
      obtain ⟨ex1, st1, f1, hg1, hl, hr, he, hn⟩ := runK_ev hx n f (by omega) (.ops l) k _ ex st' hok h
      subst hn
      exact ⟨_, st1, f1, hg1, by simp only at hl ⊢; omega, hr, .reg he⟩
    | seq a b =>
      simp only [runK] at h
      obtain ⟨ex1, st1, f1, hg1, hl, hr, he⟩ := runK_ev hx n f (by omega) (.code a) _ _ ex st' hok h
      simp only at hl he
      match f1, hl, hr with
      | 0, _, hr => simp [runK] at hr
      | f1 + 1, hl, hr =>
        simp only [runK] at hr
        split at hr
        · obtain ⟨ex2, st2, f2, hg2, hl2, hr2, he2⟩ := runK_ev hx n f1 (by omega) (.code b) k _ ex st' hg1 hr
          simp only at hl2 he2
          exact ⟨ex2, st2, f2, hg2, by simp only; omega, hr2, .seq he he2⟩
        · rename_i hne
          exact ⟨ex1, st1, f1, hg1, by simp only; omega, hr, .seq' he hne⟩
    | cond c a b =>
      simp only [runK] at h
      split at h
      · rename_i x hc
        cases x with
        | true =>
          obtain ⟨ex1, st1, f1, hg1, hl, hr, he⟩ := runK_ev hx n f (by omega) (.code a) _ _ ex st' hok h
          exact ⟨ex1, st1, f1, hg1, by simp only at hl ⊢; omega, hr, .cond hc he⟩
        | false =>
          obtain ⟨ex1, st1, f1, hg1, hl, hr, he⟩ := runK_ev hx n f (by omega) (.code b) _ _ ex st' hok h
          exact ⟨ex1, st1, f1, hg1, by simp only at hl ⊢; omega, hr, .cond hc he⟩
      · cases h
    | blk id c =>
      simp only [runK] at h
      obtain ⟨ex1, st1, f1, hg1, hl, hr, he⟩ := runK_ev hx n f (by omega) (.code c) _ _ ex st' (by exact hok) h
      simp only at hl he
      cases f1 with
      | zero => simp [runK] at hr
      | succ f1 =>
        cases ex1 with
        | exit j =>
          simp only [runK] at hr
          cases hj : Nat.beq j id with
          | true =>
            rw [hj] at hr
            have := Nat.eq_of_beq_eq_true hj
            subst this
            exact ⟨.norm, st1, f1, hg1, by simp only; omega, hr, .blk he⟩
          | false =>
            rw [hj] at hr
            refine ⟨.exit j, st1, f1, hg1, by simp only; omega, hr, .blk' he fun e => ?_⟩
            cases e
            simp at hj
        | norm => exact ⟨.norm, st1, f1, hg1, by simp only; omega, hr, .blk' he (by simp)⟩
        | ret => exact ⟨.ret, st1, f1, hg1, by simp only; omega, hr, .blk' he (by simp)⟩
    | loop c =>
      simp only [runK] at h
      obtain ⟨ex1, st1, f1, hg1, hl, hr, he⟩ := runK_ev hx n f (by omega) (.code c) _ _ ex st' (by exact hok) h
      simp only at hl he
      match f1, hl, hr with
      | 0, _, hr => simp [runK] at hr
      | f1 + 1, hl, hr =>
        simp only [runK] at hr
        split at hr
        · obtain ⟨ex2, st2, f2, hg2, hl2, hr2, he2⟩ := runK_ev hx n f1 (by omega) (.code (.loop c)) k _ ex st' hg1 hr
          simp only at hl2 he2
          exact ⟨ex2, st2, f2, hg2, by simp only; omega, hr2, .kill _ (.loop he he2)⟩
        · rename_i hne
          exact ⟨ex1, st1, f1, hg1, by simp only; omega, hr, .kill _ (.loop' he hne)⟩
    | refuse => simp [runK] at h
  | n + 1, f + 1, hf, .ex e, k, st, ex, st', hok, h => ⟨e, st, f + 1, hok, by simp, h, rfl, rfl⟩

/-- What a function hands back. -/
def Fin (res : List ARes) (v : V) (ex : AEx) (st : St) : Prop := ex.ends = true ∧ (resV st res).map (fun vs => frz st.h 100 (oneOf vs)) = some v

theorem comp_of (hx : Tells tab pr xf) {g : FuncId} {fn : AFunc} {args : List V} {v : V} (ht : tab g = some fn) (hn : args.length ≤ fn.n)
    (h : ∀ gl, M xf kz (.code fn.body) [] (St.init gl fn.depth (stripL args) {}) (Fin fn.res v)) : Comp tab pr g args v := by
  intro hh gl hok
  obtain ⟨f, ex, st', e, he, hl⟩ := h gl
  obtain ⟨ex1, st1, f1, _, _, hr, hev⟩ := runK_ev hx f f (Nat.le_refl _) _ _ _ _ _ hok e
  simp only at hev
  have : ex1 = ex ∧ st1 = st' := by
    match f1, hr with
    | 0, hr => simp [runK] at hr
    | f1 + 1, hr => simp only [runK, Option.some.injEq, Prod.mk.injEq] at hr; exact hr
  obtain ⟨rfl, rfl⟩ := this
  have hl' : leave fn true hh st1 = some (v, hh) := by
    unfold leave
    cases hv : resV st1 fn.res with
    | none => rw [hv] at hl; cases hl
    | some vs =>
      rw [hv] at hl
      simp only [Option.map_some, Option.some.injEq] at hl
      simp only [cond_true, hl]
  exact .fn ht hn hev he hl'

theorem comp_runF {xp : FuncId → List V → Option V} (hx : ∀ g args v, xp g args = some v → pr.rel g args v) {g : FuncId} {args : List V} {v : V} (f : Nat) (h : ∀ gl, pr.ok gl → runF gl tab xp f g args = some v) : Comp tab pr g args v :=
  fun hh gl hok => runF_ev hx hok (h gl hok) hh

theorem comp_prim {g : FuncId} {args : List V} {v : V} (h : pr.rel g args v) : Comp tab pr g args v := fun _ _ hok => .prim hok h

/-- One piece of a run, and the rest. -/
theorem M_cut {t : Tsk} {k k' : List Fr} {st : St} {R Q : AEx → St → Prop} (h : M xf (fun n => kz (n + k'.length)) t k st R) (hk : ∀ ex st', R ex st' → M xf kz (.ex ex) k' st' Q) : M xf kz t (k ++ k') st Q := by
  obtain ⟨f, ex, st', e, r⟩ := h
  have key : ∀ (f : Nat) (t : Tsk) (k : List Fr) (st : St), runK xf (fun n => kz (n + k'.length)) f t k st = some (ex, st') → M xf kz t (k ++ k') st Q := by
    intro f
    induction f with
    | zero => intro t k st e; simp [runK] at e
    | succ f ih =>
      intro t k st e
      match t, e with
      | .ops l, e =>
        cases l with
        | nil => rw [M_nil]; exact ih _ _ _ e
        | cons o r =>
          obtain ⟨d, op, g⟩ := o
          simp only [runK] at e
          split at e
          · cases e
          · rename_i hw
            have := ih _ _ _ e
            obtain ⟨f2, ex2, s2, e2, q2⟩ := this
            exact ⟨f2 + 1, ex2, s2, by simp only [runK, hw]; exact e2, q2⟩
          · rename_i hw
            split at e
            · rename_i v st2 hs
              obtain ⟨f2, ex2, s2, e2, q2⟩ := ih _ _ _ e
              exact ⟨f2 + 1, ex2, s2, by simp only [runK, hw, hs]; exact e2, q2⟩
            · cases e
      | .code c, e =>
        cases c with
        | skip => rw [M_skip]; exact ih _ _ _ e
        | ret => rw [M_ret]; exact ih _ _ _ e
        | exit i => rw [M_exit]; exact ih _ _ _ e
        | reg l => rw [M_reg]; exact ih _ _ _ e
        | seq a b => rw [M_seq]; exact ih _ _ _ e
        | cond c a b =>
          simp only [runK] at e
          rw [M_cond]
          split at e
          · rename_i x hc
            rw [hc]
            cases x with
            | true => exact ih _ _ _ e
            | false => exact ih _ _ _ e
          · cases e
        | blk id c => rw [M_blk]; exact ih _ _ _ e
        | loop c => rw [M_loop, List.length_append]; exact ih _ _ _ e
        | refuse => simp [runK] at e
      | .ex x, e =>
        cases k with
        | nil =>
          simp only [runK, Option.some.injEq, Prod.mk.injEq] at e
          obtain ⟨rfl, rfl⟩ := e
          exact hk _ _ r
        | cons fr k =>
          cases fr with
          | seq b =>
            simp only [List.cons_append]
            cases x with
            | norm => rw [M_ns]; exact ih _ _ _ e
            | ret => rw [M_rs]; exact ih _ _ _ e
            | exit j => rw [M_es]; exact ih _ _ _ e
          | blk id =>
            simp only [List.cons_append]
            cases x with
            | norm => rw [M_nb]; exact ih _ _ _ e
            | ret => rw [M_rb]; exact ih _ _ _ e
            | exit j =>
              rw [M_eb]
              unfold X
              simp only [runK] at e
              cases hj : Nat.beq j id with
              | true => rw [hj] at e; exact ih _ _ _ e
              | false => rw [hj] at e; exact ih _ _ _ e
          | loop c =>
            simp only [List.cons_append]
            cases x with
            | norm => rw [M_nl]; exact ih _ _ _ e
            | ret => rw [M_rl]; exact ih _ _ _ e
            | exit j => rw [M_el]; exact ih _ _ _ e
  exact key f t k st e

theorem M_mono {t : Tsk} {k : List Fr} {st : St} {R Q : AEx → St → Prop} (h : M xf kz t k st R) (hq : ∀ ex st', R ex st' → Q ex st') : M xf kz t k st Q := by
  obtain ⟨f, ex, st', e, r⟩ := h
  exact ⟨f, ex, st', e, hq _ _ r⟩
end
end Ai
