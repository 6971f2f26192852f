/- The abstract interpreter, for proofs with variables in them: a machine with a stack, one rule for each of its steps. The abstract interpreter, for proofs with variables in them: what simp is told. Printed by mksz.py. Short names for code that is often printed. -/
import Derived.Test.YtopbdgdfnmlldaaGreatDoorAi09
import Derived.Attr
namespace Ai
open Go

inductive Fr where
  | seq (b : AC)
  | blk (id : Nat)
  | loop (c : AC)

inductive Tsk where
  | ops (l : List AOper)
  | code (c : AC)
  | ex (e : AEx)

section
variable (xf : FuncId → List V → Option V)

/-- One operation, a pure call too. -/
def stepK (st : St) (d : Nat) (o : AOp) : Option (V × St) :=
  match o with
  | .call true g args => (xf g (evL st args)).map (·, st)
  | .callv true x args => (match st.ev x with
    | .fn f first cap => (xf f (first ++ evL st args ++ cap)).map (·, st)
    | _ => none)
  | .call false _ _ => none
  | .callv false _ _ => none
  | o => step st d o

variable (kz : Nat → List Nat)

/-- Runs by steps; at each beginning of a loop's round the temporaries that kz names are forgotten. -/
def runK : Nat → Tsk → List Fr → St → Option (AEx × St)
  | 0, _, _, _ => none
  | f + 1, .ops l, k, st => match l with
    | [] => runK f (.ex .norm) k st
    | o :: r => match wanted st o with
      | none => none
      | some false => runK f (.ops r) k (st.put o.dst (.tup []))
      | some true => match stepK xf st (o.dst.getD 0) o.op with
        | some (v, st') => runK f (.ops r) k (st'.put o.dst v)
        | none => none
  | f + 1, .code c, k, st => match c with
    | .skip => runK f (.ex .norm) k st
    | .ret => runK f (.ex .ret) k st
    | .exit i => runK f (.ex (.exit i)) k st
    | .reg l => runK f (.ops l) k st
    | .seq a b => runK f (.code a) (.seq b :: k) st
    | .cond c a b => match st.ev c with
      | .b x => bif x then runK f (.code a) k st else runK f (.code b) k st
      | _ => none
    | .blk id c => runK f (.code c) (.blk id :: k) st
    | .loop c => runK f (.code c) (.loop c :: k) { st with T := st.T.kill (kz k.length) }
    | .regd _ => none
    | .rfun _ => none
    | .refuse => none
  | f + 1, .ex e, k, st => match k with
    | [] => some (e, st)
    | .seq b :: k => match e with
      | .norm => runK f (.code b) k st
      | e => runK f (.ex e) k st
    | .blk id :: k => match e with
      | .exit j => bif Nat.beq j id then runK f (.ex .norm) k st else runK f (.ex (.exit j)) k st
      | e => runK f (.ex e) k st
    | .loop c :: k => match e with
      | .norm => runK f (.code (.loop c)) k st
      | e => runK f (.ex e) k st

def M (t : Tsk) (k : List Fr) (st : St) (Q : AEx → St → Prop) : Prop := ∃ f ex st', runK xf kz f t k st = some (ex, st') ∧ Q ex st'

/-- Behind an operation. -/
def C (d : Option Nat) (r : List AOper) (k : List Fr) (Q : AEx → St → Prop) : Option (V × St) → Prop
  | some (v, st') => M xf kz (.ops r) k (st'.put d v) Q
  | none => False

/-- Behind a guard. -/
def G (d : Option Nat) (op : AOp) (r : List AOper) (k : List Fr) (st : St) (Q : AEx → St → Prop) (w : Bool) : V → Prop
  | .b x => bif x == w then M xf kz (.ops (⟨d, op, none⟩ :: r)) k st Q else M xf kz (.ops r) k (st.put d (.tup [])) Q
  | .tup [] => M xf kz (.ops r) k (st.put d (.tup [])) Q
  | _ => False

/-- Behind a test. -/
def B (a b : AC) (k : List Fr) (st : St) (Q : AEx → St → Prop) : V → Prop
  | .b x => bif x then M xf kz (.code a) k st Q else M xf kz (.code b) k st Q
  | _ => False

def X (j id : Nat) (k : List Fr) (st : St) (Q : AEx → St → Prop) : Prop := bif Nat.beq j id then M xf kz (.ex .norm) k st Q else M xf kz (.ex (.exit j)) k st Q
end

section
variable {xf : FuncId → List V → Option V} {kz : Nat → List Nat}

theorem M_step {t t' : Tsk} {k k' : List Fr} {st st' : St} {Q : AEx → St → Prop} (h : ∀ f, runK xf kz (f + 1) t k st = runK xf kz f t' k' st') : M xf kz t k st Q = M xf kz t' k' st' Q := by
  apply propext
  constructor
  · rintro ⟨f, ex, s, e, q⟩
    cases f with
    | zero => simp [runK] at e
    | succ f => exact ⟨f, ex, s, by rw [← h]; exact e, q⟩
  · rintro ⟨f, ex, s, e, q⟩
    exact ⟨f + 1, ex, s, by rw [h]; exact e, q⟩

theorem M_stuck {t : Tsk} {k : List Fr} {st : St} {Q : AEx → St → Prop} (h : ∀ f, runK xf kz (f + 1) t k st = none) : M xf kz t k st Q = False := by
  apply propext
  refine ⟨?_, False.elim⟩
  rintro ⟨f, ex, s, e, q⟩
  cases f with
  | zero => simp [runK] at e
  | succ f => rw [h] at e; cases e

variable {k : List Fr} {st : St} {Q : AEx → St → Prop}

theorem M_nil : M xf kz (.ops []) k st Q = M xf kz (.ex .norm) k st Q := M_step fun _ => rfl
theorem M_op (d : Option Nat) (op : AOp) (r : List AOper) : M xf kz (.ops (⟨d, op, none⟩ :: r)) k st Q = C xf kz d r k Q (stepK xf st (d.getD 0) op) := by
  cases h : stepK xf st (d.getD 0) op with
  | none => exact M_stuck fun f => by simp only [runK, wanted, h]
  | some p => obtain ⟨v, st'⟩ := p; exact M_step fun f => by simp only [runK, wanted, h]
theorem C_some (d : Option Nat) (r : List AOper) (v : V) (st' : St) : C xf kz d r k Q (some (v, st')) = M xf kz (.ops r) k (st'.put d v) Q := rfl
theorem M_opg (d : Option Nat) (op : AOp) (t : Nat) (w : Bool) (r : List AOper) : M xf kz (.ops (⟨d, op, some (t, w)⟩ :: r)) k st Q = G xf kz d op r k st Q w (st.T.get t) := by
  cases h : st.T.get t with
  | b x =>
    cases hx : x == w with
    | true =>
      simp only [G, hx, cond_true]
      rw [M_op]
      cases h' : stepK xf st (d.getD 0) op with
      | none => exact M_stuck fun f => by simp only [runK, wanted, h, h', hx]
      | some p => obtain ⟨v, st'⟩ := p; exact M_step fun f => by simp only [runK, wanted, h, h', hx]
    | false =>
      simp only [G, hx, cond_false]
      exact M_step fun f => by simp only [runK, wanted, h, hx]
  | tup vs =>
    cases vs with
    | nil => exact M_step fun f => by simp only [runK, wanted, h]
    | cons a r => exact M_stuck fun f => by simp only [runK, wanted, h]
  | _ => exact M_stuck fun f => by simp only [runK, wanted, h]
theorem G_b (d : Option Nat) (op : AOp) (r : List AOper) (w x : Bool) : G xf kz d op r k st Q w (.b x) = bif x == w then M xf kz (.ops (⟨d, op, none⟩ :: r)) k st Q else M xf kz (.ops r) k (st.put d (.tup [])) Q := rfl
theorem M_skip : M xf kz (.code .skip) k st Q = M xf kz (.ex .norm) k st Q := M_step fun _ => rfl
theorem M_ret : M xf kz (.code .ret) k st Q = M xf kz (.ex .ret) k st Q := M_step fun _ => rfl
theorem M_exit (i : Nat) : M xf kz (.code (.exit i)) k st Q = M xf kz (.ex (.exit i)) k st Q := M_step fun _ => rfl
theorem M_reg (l : List AOper) : M xf kz (.code (.reg l)) k st Q = M xf kz (.ops l) k st Q := M_step fun _ => rfl
theorem M_seq (a b : AC) : M xf kz (.code (.seq a b)) k st Q = M xf kz (.code a) (.seq b :: k) st Q := M_step fun _ => rfl
theorem M_blk (id : Nat) (c : AC) : M xf kz (.code (.blk id c)) k st Q = M xf kz (.code c) (.blk id :: k) st Q := M_step fun _ => rfl
theorem M_loop (c : AC) : M xf kz (.code (.loop c)) k st Q = M xf kz (.code c) (.loop c :: k) { st with T := st.T.kill (kz k.length) } Q := M_step fun _ => rfl
theorem M_cond (c : Opd) (a b : AC) : M xf kz (.code (.cond c a b)) k st Q = B xf kz a b k st Q (st.ev c) := by
  cases h : st.ev c with
  | b x =>
    cases x with
    | true => exact M_step fun f => by simp only [runK, h, cond_true]
    | false => exact M_step fun f => by simp only [runK, h, cond_false]
  | _ => exact M_stuck fun f => by simp only [runK, h]
theorem B_true (a b : AC) : B xf kz a b k st Q (.b true) = M xf kz (.code a) k st Q := rfl
theorem B_false (a b : AC) : B xf kz a b k st Q (.b false) = M xf kz (.code b) k st Q := rfl
theorem B_split (a b : AC) (x : Bool) (h1 : x = true → B xf kz a b k st Q (.b true)) (h2 : x = false → B xf kz a b k st Q (.b false)) : B xf kz a b k st Q (.b x) := by
  cases x with
  | true => exact h1 rfl
  | false => exact h2 rfl
theorem M_done (e : AEx) : M xf kz (.ex e) [] st Q = Q e st := by
  apply propext
  constructor
  · rintro ⟨f, ex, s, e, q⟩
    cases f with
    | zero => simp [runK] at e
    | succ f =>
      simp only [runK, Option.some.injEq, Prod.mk.injEq] at e
      obtain ⟨rfl, rfl⟩ := e
      exact q
  · intro q
    exact ⟨1, e, st, rfl, q⟩
theorem M_ns (b : AC) : M xf kz (.ex .norm) (.seq b :: k) st Q = M xf kz (.code b) k st Q := M_step fun _ => rfl
theorem M_rs (b : AC) : M xf kz (.ex .ret) (.seq b :: k) st Q = M xf kz (.ex .ret) k st Q := M_step fun _ => rfl
theorem M_es (j : Nat) (b : AC) : M xf kz (.ex (.exit j)) (.seq b :: k) st Q = M xf kz (.ex (.exit j)) k st Q := M_step fun _ => rfl
theorem M_nb (id : Nat) : M xf kz (.ex .norm) (.blk id :: k) st Q = M xf kz (.ex .norm) k st Q := M_step fun _ => rfl
theorem M_rb (id : Nat) : M xf kz (.ex .ret) (.blk id :: k) st Q = M xf kz (.ex .ret) k st Q := M_step fun _ => rfl
theorem M_eb (j id : Nat) : M xf kz (.ex (.exit j)) (.blk id :: k) st Q = X xf kz j id k st Q := by
  unfold X
  cases h : Nat.beq j id with
  | true => exact M_step fun f => by simp only [runK, h, cond_true]
  | false => exact M_step fun f => by simp only [runK, h, cond_false]
theorem M_nl (c : AC) : M xf kz (.ex .norm) (.loop c :: k) st Q = M xf kz (.code (.loop c)) k st Q := M_step fun _ => rfl
theorem M_rl (c : AC) : M xf kz (.ex .ret) (.loop c :: k) st Q = M xf kz (.ex .ret) k st Q := M_step fun _ => rfl
theorem M_el (j : Nat) (c : AC) : M xf kz (.ex (.exit j)) (.loop c :: k) st Q = M xf kz (.ex (.exit j)) k st Q := M_step fun _ => rfl
theorem X_eq (j : Nat) : X xf kz j j k st Q = M xf kz (.ex .norm) k st Q := by simp [X]
theorem X_ne (j id : Nat) (h : j ≠ id) : X xf kz j id k st Q = M xf kz (.ex (.exit j)) k st Q := by
  unfold X
  rw [show Nat.beq j id = false from by cases hb : Nat.beq j id with | true => exact absurd (Nat.eq_of_beq_eq_true hb) h | false => rfl]; rfl

/-! ### It is what the relation says -/
variable {tab : FuncId → Option AFunc} {pr : Prims}

/-- A pure call with these arguments comes to this value. -/
def Comp (tab : FuncId → Option AFunc) (pr : Prims) (g : FuncId) (args : List V) (v : V) : Prop := ∀ h gl, pr.ok gl → Ev tab pr (.fn true g args h gl) (.val v h)

def Tells (tab : FuncId → Option AFunc) (pr : Prims) (xf : FuncId → List V → Option V) : Prop := ∀ g args v, xf g args = some v → Comp tab pr g args v

theorem stepK_gl {st st' : St} {d : Nat} {op : AOp} {v : V} (h : stepK xf st d op = some (v, st')) : st'.gl = st.gl := by
  unfold stepK at h
  split at h
  · rw [map_st (f := id) h]
  · split at h
    · rw [map_st (f := id) h]
    · cases h
  · cases h
  · cases h
  · exact step_gl h

def Tsk.at (st : St) : Tsk → Option J
  | .ops l => some (.ops l st)
  | .code c => some (.code c st)
  | .ex _ => none

theorem runK_ev (hx : Tells tab pr xf) : ∀ (n f : Nat) (_ : f ≤ n) (t : Tsk) (k : List Fr) (st : St) (ex : AEx) (st' : St), pr.ok st.gl → runK xf kz f t k st = some (ex, st') →
    ∃ ex1 st1 f1, pr.ok st1.gl ∧ f1 < f + (match t with | .ex _ => 1 | _ => 0) ∧ runK xf kz f1 (.ex ex1) k st1 = some (ex, st') ∧ (match t with | .ops l => Ev tab pr (.ops l st) (.fin ex1 st1) ∧ ex1 = .norm | .code c => Ev tab pr (.code c st) (.fin ex1 st1) | .ex e => ex1 = e ∧ st1 = st)
  | _, 0, _, _, _, _, _, _, _, h => by simp [runK] at h
  | 0, f + 1, hf, _, _, _, _, _, _, _ => by omega
  | n + 1, f + 1, hf, .ops l, k, st, ex, st', hok, h => by
    cases l with
    | nil =>
      simp only [runK] at h
      exact ⟨.norm, st, f, hok, by simp, h, .nil st, rfl⟩
    | cons o r =>
      simp only [runK] at h
      split at h
      · cases h
      · rename_i hw
        obtain ⟨ex1, st1, f1, hg1, hl, hr, he, hn⟩ := runK_ev hx n f (by omega) (.ops r) k _ ex st' (by rw [put_gl]; exact hok) h
        exact ⟨ex1, st1, f1, hg1, by simp only at hl ⊢; omega, hr, .pass hw he, hn⟩
      · rename_i hw
        split at h
        · rename_i v st2 hs
          obtain ⟨ex1, st1, f1, hg1, hl, hr, he, hn⟩ := runK_ev hx n f (by omega) (.ops r) k _ ex st' (by rw [put_gl, stepK_gl hs]; exact hok) h
          refine ⟨ex1, st1, f1, hg1, by simp only at hl ⊢; omega, hr, ?_, hn⟩
          unfold stepK at hs
          split at hs
          · rename_i g args ho
            cases hv : xf g (evL st args) with
            | none => rw [hv] at hs; cases hs
            | some w =>
              rw [hv] at hs
              simp only [Option.map_some, Option.some.injEq, Prod.mk.injEq] at hs
              obtain ⟨rfl, rfl⟩ := hs
              exact .call (p := true) (g := g) (args := evL st args) hw (by rw [ho]; rfl) (hx _ _ _ hv st.h st.gl hok) he
          · rename_i x args ho
            split at hs
            · rename_i g first cap hx'
              cases hv : xf g (first ++ evL st args ++ cap) with
              | none => rw [hv] at hs; cases hs
              | some w =>
                rw [hv] at hs
                simp only [Option.map_some, Option.some.injEq, Prod.mk.injEq] at hs
                obtain ⟨rfl, rfl⟩ := hs
                exact .call (p := true) (g := g) (args := first ++ evL st args ++ cap) hw (by rw [ho]; simp only [callee, hx']) (hx _ _ _ hv st.h st.gl hok) he
            · cases hs
          · cases hs
          · cases hs
          · rename_i h1 h2 h3 h4
            have hc : callee st o.op = none := by
              unfold callee
              split
              · rename_i p f args ho
                cases p with
                | true => exact absurd ho (h1 _ _)
                | false => exact absurd ho (h3 _ _)
              · rename_i p x args ho
                cases p with
                | true => exact absurd ho (h2 _ _)
                | false => exact absurd ho (h4 _ _)
              · rename_i p ms x args ho
                exfalso
                rw [ho] at hs
                simp [step] at hs
              · rfl
            exact .step hw hc hs he
        · cases h
  | n + 1, f + 1, hf, .code c, k, st, ex, st', hok, h => by
    cases c with
    | skip => exact ⟨.norm, st, f, hok, by simp, h, .skip st⟩
    | ret => exact ⟨.ret, st, f, hok, by simp, h, .ret st⟩
    | exit i => exact ⟨.exit i, st, f, hok, by simp, h, .exit i st⟩
    | reg l =>
      simp only [runK] at h
      obtain ⟨ex1, st1, f1, hg1, hl, hr, he, hn⟩ := runK_ev hx n f (by omega) (.ops l) k _ ex st' hok h
      subst hn
      exact ⟨_, st1, f1, hg1, by simp only at hl ⊢; omega, hr, .reg he⟩
    | seq a b =>
      simp only [runK] at h
      obtain ⟨ex1, st1, f1, hg1, hl, hr, he⟩ := runK_ev hx n f (by omega) (.code a) _ _ ex st' hok h
      simp only at hl he
      match f1, hl, hr with
      | 0, _, hr => simp [runK] at hr
      | f1 + 1, hl, hr =>
        simp only [runK] at hr
        split at hr
        · obtain ⟨ex2, st2, f2, hg2, hl2, hr2, he2⟩ := runK_ev hx n f1 (by omega) (.code b) k _ ex st' hg1 hr
          simp only at hl2 he2
          exact ⟨ex2, st2, f2, hg2, by simp only; omega, hr2, .seq he he2⟩
        · rename_i hne
          exact ⟨ex1, st1, f1, hg1, by simp only; omega, hr, .seq' he hne⟩
    | cond c a b =>
      simp only [runK] at h
      split at h
      · rename_i x hc
        cases x with
        | true =>
          obtain ⟨ex1, st1, f1, hg1, hl, hr, he⟩ := runK_ev hx n f (by omega) (.code a) _ _ ex st' hok h
          exact ⟨ex1, st1, f1, hg1, by simp only at hl ⊢; omega, hr, .cond hc he⟩
        | false =>
          obtain ⟨ex1, st1, f1, hg1, hl, hr, he⟩ := runK_ev hx n f (by omega) (.code b) _ _ ex st' hok h
          exact ⟨ex1, st1, f1, hg1, by simp only at hl ⊢; omega, hr, .cond hc he⟩
      · cases h
    | blk id c =>
      simp only [runK] at h
      obtain ⟨ex1, st1, f1, hg1, hl, hr, he⟩ := runK_ev hx n f (by omega) (.code c) _ _ ex st' (by exact hok) h
      simp only at hl he
      cases f1 with
      | zero => simp [runK] at hr
      | succ f1 =>
        cases ex1 with
        | exit j =>
          simp only [runK] at hr
          cases hj : Nat.beq j id with
          | true =>
            rw [hj] at hr
            have := Nat.eq_of_beq_eq_true hj
            subst this
            exact ⟨.norm, st1, f1, hg1, by simp only; omega, hr, .blk he⟩
          | false =>
            rw [hj] at hr
            refine ⟨.exit j, st1, f1, hg1, by simp only; omega, hr, .blk' he fun e => ?_⟩
            cases e
            simp at hj
        | norm => exact ⟨.norm, st1, f1, hg1, by simp only; omega, hr, .blk' he (by simp)⟩
        | ret => exact ⟨.ret, st1, f1, hg1, by simp only; omega, hr, .blk' he (by simp)⟩
    | loop c =>
      simp only [runK] at h
      obtain ⟨ex1, st1, f1, hg1, hl, hr, he⟩ := runK_ev hx n f (by omega) (.code c) _ _ ex st' (by exact hok) h
      simp only at hl he
      match f1, hl, hr with
      | 0, _, hr => simp [runK] at hr
      | f1 + 1, hl, hr =>
        simp only [runK] at hr
        split at hr
        · obtain ⟨ex2, st2, f2, hg2, hl2, hr2, he2⟩ := runK_ev hx n f1 (by omega) (.code (.loop c)) k _ ex st' hg1 hr
          simp only at hl2 he2
          exact ⟨ex2, st2, f2, hg2, by simp only; omega, hr2, .kill _ (.loop he he2)⟩
        · rename_i hne
          exact ⟨ex1, st1, f1, hg1, by simp only; omega, hr, .kill _ (.loop' he hne)⟩
    | regd l => simp [runK] at h
    | rfun x => simp [runK] at h
    | refuse => simp [runK] at h
  | n + 1, f + 1, hf, .ex e, k, st, ex, st', hok, h => ⟨e, st, f + 1, hok, by simp, h, rfl, rfl⟩

/-- What a function hands back. -/
def Fin (res : List ARes) (v : V) (ex : AEx) (st : St) : Prop := ex.ends = true ∧ (resV st res).map (fun vs => frz st.h 100 (oneOf vs)) = some v

theorem comp_of (hx : Tells tab pr xf) {g : FuncId} {fn : AFunc} {args : List V} {v : V} (ht : tab g = some fn) (hn : args.length ≤ fn.n)
    (h : ∀ gl, M xf kz (.code fn.body) [] (St.init gl fn.depth (stripL args) {}) (Fin fn.res v)) : Comp tab pr g args v := by
  intro hh gl hok
  obtain ⟨f, ex, st', e, he, hl⟩ := h gl
  obtain ⟨ex1, st1, f1, _, _, hr, hev⟩ := runK_ev hx f f (Nat.le_refl _) _ _ _ _ _ hok e
  simp only at hev
  have : ex1 = ex ∧ st1 = st' := by
    match f1, hr with
    | 0, hr => simp [runK] at hr
    | f1 + 1, hr => simp only [runK, Option.some.injEq, Prod.mk.injEq] at hr; exact hr
  obtain ⟨rfl, rfl⟩ := this
  have hl' : leave fn true hh st1 = some (v, hh) := by
    unfold leave
    cases hv : resV st1 fn.res with
    | none => rw [hv] at hl; cases hl
    | some vs =>
      rw [hv] at hl
      simp only [Option.map_some, Option.some.injEq] at hl
      simp only [cond_true, hl]
  exact .fn ht hn hev he hl'

theorem comp_runF {xp : FuncId → List V → Option V} (hx : ∀ g args v, xp g args = some v → pr.rel g args v) {g : FuncId} {args : List V} {v : V} (f : Nat) (h : ∀ gl, pr.ok gl → runF gl tab xp f g args = some v) : Comp tab pr g args v :=
  fun hh gl hok => runF_ev hx hok (h gl hok) hh

theorem comp_runM {tab1 : FuncId → Option AFunc} {xp : FuncId → List V → Option V} (htab : ∀ g fn, tab1 g = some fn → tab g = some fn) (hx : Tells tab pr xp) {g : FuncId} {args : List V} {v : V} (f : Nat)
    (h : ∀ gl, pr.ok gl → runF gl tab1 xp f g args = some v) : Comp tab pr g args v :=
  fun hh gl hok => runF_evM htab hx hok (h gl hok) hh

theorem comp_prim {g : FuncId} {args : List V} {v : V} (h : pr.rel g args v) : Comp tab pr g args v := fun _ _ hok => .prim hok h

/-- One piece of a run, and the rest. -/
theorem M_cut {t : Tsk} {k k' : List Fr} {st : St} {R Q : AEx → St → Prop} (h : M xf (fun n => kz (n + k'.length)) t k st R) (hk : ∀ ex st', R ex st' → M xf kz (.ex ex) k' st' Q) : M xf kz t (k ++ k') st Q := by
  obtain ⟨f, ex, st', e, r⟩ := h
  have key : ∀ (f : Nat) (t : Tsk) (k : List Fr) (st : St), runK xf (fun n => kz (n + k'.length)) f t k st = some (ex, st') → M xf kz t (k ++ k') st Q := by
    intro f
    induction f with
    | zero => intro t k st e; simp [runK] at e
    | succ f ih =>
      intro t k st e
      match t, e with
      | .ops l, e =>
        cases l with
        | nil => rw [M_nil]; exact ih _ _ _ e
        | cons o r =>
          obtain ⟨d, op, g⟩ := o
          simp only [runK] at e
          split at e
          · cases e
          · rename_i hw
            have := ih _ _ _ e
            obtain ⟨f2, ex2, s2, e2, q2⟩ := this
            exact ⟨f2 + 1, ex2, s2, by simp only [runK, hw]; exact e2, q2⟩
          · rename_i hw
            split at e
            · rename_i v st2 hs
              obtain ⟨f2, ex2, s2, e2, q2⟩ := ih _ _ _ e
              exact ⟨f2 + 1, ex2, s2, by simp only [runK, hw, hs]; exact e2, q2⟩
            · cases e
      | .code c, e =>
        cases c with
        | skip => rw [M_skip]; exact ih _ _ _ e
        | ret => rw [M_ret]; exact ih _ _ _ e
        | exit i => rw [M_exit]; exact ih _ _ _ e
        | reg l => rw [M_reg]; exact ih _ _ _ e
        | seq a b => rw [M_seq]; exact ih _ _ _ e
        | cond c a b =>
          simp only [runK] at e
          rw [M_cond]
          split at e
          · rename_i x hc
            rw [hc]
            cases x with
            | true => exact ih _ _ _ e
            | false => exact ih _ _ _ e
          · cases e
        | blk id c => rw [M_blk]; exact ih _ _ _ e
        | loop c => rw [M_loop, List.length_append]; exact ih _ _ _ e
        | regd l => simp [runK] at e
        | rfun x => simp [runK] at e
        | refuse => simp [runK] at e
      | .ex x, e =>
        cases k with
        | nil =>
          simp only [runK, Option.some.injEq, Prod.mk.injEq] at e
          obtain ⟨rfl, rfl⟩ := e
          exact hk _ _ r
        | cons fr k =>
          cases fr with
          | seq b =>
            simp only [List.cons_append]
            cases x with
            | norm => rw [M_ns]; exact ih _ _ _ e
            | ret => rw [M_rs]; exact ih _ _ _ e
            | exit j => rw [M_es]; exact ih _ _ _ e
          | blk id =>
            simp only [List.cons_append]
            cases x with
            | norm => rw [M_nb]; exact ih _ _ _ e
            | ret => rw [M_rb]; exact ih _ _ _ e
            | exit j =>
              rw [M_eb]
              unfold X
              simp only [runK] at e
              cases hj : Nat.beq j id with
              | true => rw [hj] at e; exact ih _ _ _ e
              | false => rw [hj] at e; exact ih _ _ _ e
          | loop c =>
            simp only [List.cons_append]
            cases x with
            | norm => rw [M_nl]; exact ih _ _ _ e
            | ret => rw [M_rl]; exact ih _ _ _ e
            | exit j => rw [M_el]; exact ih _ _ _ e
  exact key f t k st e

theorem M_mono {t : Tsk} {k : List Fr} {st : St} {R Q : AEx → St → Prop} (h : M xf kz t k st R) (hq : ∀ ex st', R ex st' → Q ex st') : M xf kz t k st Q := by
  obtain ⟨f, ex, st', e, r⟩ := h
  exact ⟨f, ex, st', e, hq _ _ r⟩
end
end Ai

namespace Ai
open Go
section
variable {xf : FuncId → List V → Option V} {kz : Nat → List Nat} {k : List Fr} {st : St} {Q : AEx → St → Prop}
attribute [go_sem] M_nil M_op C_some M_opg M_skip M_ret M_exit M_reg M_seq M_blk M_cond B_true B_false M_done M_ns M_rs M_es M_nb M_rb M_eb M_nl M_rl M_el X_eq X_ne
attribute [go_sem] Option.getD_some Option.getD_none Option.map_some Option.map_none cond_true cond_false Bool.true_beq Bool.false_beq  Bool.not_true Bool.not_false Bool.or_true Bool.or_false Bool.true_or Bool.false_or Bool.and_true Bool.and_false Bool.true_and Bool.false_and
attribute [go_sem] decide_true decide_false if_true if_false List.map_cons List.map_nil Option.some.injEq Prod.mk.injEq V.b.injEq V.s.injEq V.i.injEq V.tup.injEq V.val V.one V.cells? evL evO evP evB al alSet lset natOr bnds slcV okArr slcTk convV bin binS un eqV eqP eqF evL idxV fill splice part? sub? allOne zeros leave resV oneOf stripL V.strip Tk.cp AEx.ends tasV T.kill List.length_cons List.length_nil List.append_nil List.nil_append
@[go_sem] theorem bi_add (k : IntKind) (a b : Int) : binI .add k a b = some (.i k (wr k (a + b))) := rfl
@[go_sem] theorem bi_sub (k : IntKind) (a b : Int) : binI .sub k a b = some (.i k (wr k (a - b))) := rfl
@[go_sem] theorem bi_mul (k : IntKind) (a b : Int) : binI .mul k a b = some (.i k (wr k (a * b))) := rfl
@[go_sem] theorem bi_quo (k : IntKind) (a b : Int) : binI .quo k a b = if b = 0 then none else some (.i k (wr k (a.tdiv b))) := rfl
@[go_sem] theorem bi_rem (k : IntKind) (a b : Int) : binI .rem k a b = if b = 0 then none else some (.i k (a.tmod b)) := rfl
@[go_sem] theorem bi_eql (k : IntKind) (a b : Int) : binI .eql k a b = some (.b (decide (a = b))) := rfl
@[go_sem] theorem bi_neq (k : IntKind) (a b : Int) : binI .neq k a b = some (.b (!decide (a = b))) := rfl
@[go_sem] theorem bi_lss (k : IntKind) (a b : Int) : binI .lss k a b = some (.b (decide (a < b))) := rfl
@[go_sem] theorem bi_leq (k : IntKind) (a b : Int) : binI .leq k a b = some (.b (decide (a ≤ b))) := rfl
@[go_sem] theorem bi_gtr (k : IntKind) (a b : Int) : binI .gtr k a b = some (.b (decide (b < a))) := rfl
@[go_sem] theorem bi_geq (k : IntKind) (a b : Int) : binI .geq k a b = some (.b (decide (b ≤ a))) := rfl
@[go_sem] theorem C_none (d : Option Nat) (r : List AOper) : C xf kz d r k Q none = False := rfl
@[go_sem] theorem G_tt (d : Option Nat) (op : AOp) (r : List AOper) : G xf kz d op r k st Q true (.b true) = M xf kz (.ops (⟨d, op, none⟩ :: r)) k st Q := rfl
@[go_sem] theorem G_ff (d : Option Nat) (op : AOp) (r : List AOper) : G xf kz d op r k st Q false (.b false) = M xf kz (.ops (⟨d, op, none⟩ :: r)) k st Q := rfl
@[go_sem] theorem G_tf (d : Option Nat) (op : AOp) (r : List AOper) : G xf kz d op r k st Q true (.b false) = M xf kz (.ops r) k (st.put d (.tup [])) Q := rfl
@[go_sem] theorem G_ft (d : Option Nat) (op : AOp) (r : List AOper) : G xf kz d op r k st Q false (.b true) = M xf kz (.ops r) k (st.put d (.tup [])) Q := rfl
@[go_sem] theorem G_un (d : Option Nat) (op : AOp) (r : List AOper) (w : Bool) : G xf kz d op r k st Q w (.tup []) = M xf kz (.ops r) k (st.put d (.tup [])) Q := rfl
theorem G_split (d : Option Nat) (op : AOp) (r : List AOper) (w x : Bool) (h1 : x = true → G xf kz d op r k st Q w (.b true)) (h2 : x = false → G xf kz d op r k st Q w (.b false)) : G xf kz d op r k st Q w (.b x) := by
  cases x with
  | true => exact h1 rfl
  | false => exact h2 rfl
@[go_sem] theorem put_some (gl : Nat → List V) (T : T) (its : List (Nat × (List UInt8 × Nat))) (loc : List (Nat × List V)) (h : H) (d : Nat) (v : V) : St.put ⟨gl, T, its, loc, h⟩ (some d) v = ⟨gl, T.set d v, its, loc, h⟩ := rfl
@[go_sem] theorem put_none (v : V) : st.put none v = st := rfl
@[go_sem] theorem raw_t (i : Nat) : st.raw (.t i) = st.T.get i := rfl
@[go_sem] theorem raw_k (v : V) : st.raw (.k v) = v := rfl
@[go_sem] theorem raw_f (g : FuncId) : st.raw (.f g) = .fn g [] [] := rfl
@[go_sem] theorem raw_g (g : Nat) : st.raw (.g g) = .ip (st.gl g) 0 := rfl
@[go_sem] theorem ev_def (x : Opd) : st.ev x = (st.raw x).val := rfl
@[go_sem] theorem init_eq (gl : Nat → List V) (d : Nat) (args : List V) (h : H) : St.init gl d args h = ⟨gl, args0 (T.mk d) 0 args, [], [], h⟩ := rfl
attribute [go_sem] args0
/-! ### The operations -/
@[go_sem] theorem k_mov (d : Nat) (x : Opd) : stepK xf st d (.mov x) = (match st.raw x with | .it => none | v => some (v, st)) := rfl
@[go_sem] theorem k_movnil (gl : Nat → List V) (T : T) (its : List (Nat × (List UInt8 × Nat))) (loc : List (Nat × List V)) (nx : Nat) (obs : List (Nat × Obj)) (nt : Nat) (tips : List (Nat × (Nat × TypeId))) (d : Nat) (ty : TypeId) :
    stepK xf ⟨gl, T, its, loc, ⟨nx, obs, nt, tips⟩⟩ d (.movnil ty) = some (.sl [] 0 (.own nt), ⟨gl, T, its, loc, ⟨nx, obs, nt + 1, (nt, (0, ty)) :: tips⟩⟩) := rfl
@[go_sem] theorem k_pick (d : Nat) (c a b : Opd) : stepK xf st d (.pick c a b) = (match st.ev c with | .b x => some (bif x then st.ev a else st.ev b, st) | _ => none) := rfl
@[go_sem] theorem k_build (d : Nat) (z : List V) (ps : List (Nat × Nat × Opd)) : stepK xf st d (.build z ps) = (match fill z (evP st ps) with | some cs => some (.agg cs, st) | none => none) := rfl
@[go_sem] theorem k_load (d : Nat) (agg : Bool) (n : Nat) (a : Opd) : stepK xf st d (.load agg n a) = (match st.rd (st.raw a) n with | some cs => bif agg then some (.agg cs, st) else (match cs with | [v] => some (v.val, st) | _ => none) | none => none) := rfl
@[go_sem] theorem k_store (d n : Nat) (a x : Opd) : stepK xf st d (.store n a x) = (match (st.ev x).cells? with | some cs => bif Nat.beq cs.length n && allOne cs then (st.wrt (st.raw a) cs).map (.any, ·) else none | none => none) := rfl
@[go_sem] theorem k_nilck (d : Nat) (x : Opd) : stepK xf st d (.nilck x) = (match st.raw x with | .p a o => some (.p a o, st) | .l a o => some (.l a o, st) | .ip (x :: xs) o => some (.ip (x :: xs) o, st) | .fn f a b => some (.fn f a b, st) | .ifc t v => some (.ifc t v, st) | _ => none) := rfl
@[go_sem] theorem k_bin (d : Nat) (op : BinOp) (x y : Opd) : stepK xf st d (.bin op x y) = (bin op (st.ev x) (st.ev y)).map (·, st) := rfl
@[go_sem] theorem k_eq (d : Nat) (neg : Bool) (t : ET) (x y : Opd) : stepK xf st d (.eq neg t x y) = (eqV t (st.ev x) (st.ev y)).map fun b => (.b (b != neg), st) := rfl
@[go_sem] theorem k_un (d : Nat) (op : UnOp) (x : Opd) : stepK xf st d (.un op x) = (un op (st.ev x)).map (·, st) := rfl
@[go_sem] theorem k_conv (d : Nat) (c : CK) (x : Opd) : stepK xf st d (.conv c x) = (convV st c (st.ev x)).map (·, st) := rfl
@[go_sem] theorem k_mkif (d : Nat) (t : TypeId) (x : Opd) : stepK xf st d (.mkif t x) = some (.ifc t (st.ev x), st) := rfl
@[go_sem] theorem k_mkfn (d : Nat) (f : FuncId) (a b : List Opd) : stepK xf st d (.mkfn f a b) = some (.fn f (evL st a) (evL st b), st) := rfl
@[go_sem] theorem k_slc (d : Nat) (kk : SK) (x : Opd) (lo hi mx : Option Opd) : stepK xf st d (.slc kk x lo hi mx) = (bif okArr st kk (st.ev x) then (slcV kk (st.ev x) (evO st lo) (evO st hi) (evO st mx)).map (·, st) else none) := rfl
@[go_sem] theorem k_faddr (d off : Nat) (x : Opd) : stepK xf st d (.faddr off x) = (match st.raw x with | .ip (x :: xs) o => some (.ip (x :: xs) (o + off), st) | .l a o => some (.l a (o + off), st) | .p a o => some (.p a (o + off), st) | _ => none) := rfl
@[go_sem] theorem k_fld (d : Nat) (agg : Bool) (off n : Nat) (x : Opd) : stepK xf st d (.fld agg off n x) = (match st.ev x with | .agg cs => (part? cs off n agg).map (·, st) | _ => none) := rfl
@[go_sem] theorem k_iaddr (d : Nat) (kk : IK) (x i : Opd) : stepK xf st d (.iaddr kk x i) = (match natOf (st.ev i), kk, st.raw x with
    | some j, .slice sz, .sl xs n _ => bif Nat.blt j n && Nat.ble ((j + 1) * sz) xs.length then some (.ip xs (j * sz), st) else none
    | some j, .slice sz, .hs id off n sz' => bif Nat.blt j n && Nat.beq sz sz' then some (.p id (off + j * sz), st) else none
    | some j, .arr len sz, .ip (x :: xs) o => bif Nat.blt j len then some (.ip (x :: xs) (o + j * sz), st) else none
    | some j, .arr len sz, .l a o => bif Nat.blt j len then some (.l a (o + j * sz), st) else none
    | some j, .arr len sz, .p a o => bif Nat.blt j len then some (.p a (o + j * sz), st) else none
    | _, _, _ => none) := rfl
@[go_sem] theorem k_idx (d : Nat) (kk : XK) (x i : Opd) : stepK xf st d (.idx kk x i) = (idxV kk (st.ev x) (st.ev i)).map (·, st) := rfl
@[go_sem] theorem k_len (d : Nat) (kk : LK) (x : Opd) : stepK xf st d (.len kk x) = (match kk, st.ev x with
    | .str, .s l => some (.i .i64 l.length, st)
    | .slice, .sl _ n _ => some (.i .i64 n, st)
    | .slice, .hs _ _ n _ => some (.i .i64 n, st)
    | .map, .m none => some (.i .i64 0, st)
    | .map, .m (some id) => match al st.h.objs id with
      | some (.map es) => some (.i .i64 es.length, st)
      | _ => none
    | .arr n, _ => some (.i .i64 n, st)
    | _, _ => none) := rfl
@[go_sem] theorem k_app (d : Nat) (ty : TypeId) (sz : Nat) (x y : Opd) : stepK xf st d (.app ty sz x y) = st.app ty sz (st.ev x) (st.ev y) := rfl
@[go_sem] theorem k_appo (d : Nat) (ty : TypeId) (sz : Nat) (x y : Opd) : stepK xf st d (.appo ty sz x y) = st.appo ty sz (st.ev x) (st.ev y) := rfl
def tupAt (i : Nat) : V → Option V
  | .tup vs => vs[i]?.map V.val
  | _ => none
theorem k_bslice (d : Nat) (ty : TypeId) (sz len : Nat) (z : List V) (ps : List (Nat × Opd)) : stepK xf st d (.bslice false ty sz len z ps) = (match fill (zeros z len) (evB st sz ps) with | some cs => some (.sl cs len .full, st) | none => none) := rfl
@[go_sem] theorem tup0 (a : V) (r : List V) : tupAt 0 (.tup (a :: r)) = some a.val := rfl
@[go_sem] theorem tup1 (a b : V) (r : List V) : tupAt 1 (.tup (a :: b :: r)) = some b.val := rfl
@[go_sem] theorem tup2 (a b c : V) (r : List V) : tupAt 2 (.tup (a :: b :: c :: r)) = some c.val := rfl
@[go_sem] theorem tup3 (a b c d : V) (r : List V) : tupAt 3 (.tup (a :: b :: c :: d :: r)) = some d.val := rfl
@[go_sem] theorem tup4 (a b c d e : V) (r : List V) : tupAt 4 (.tup (a :: b :: c :: d :: e :: r)) = some e.val := rfl
@[go_sem] theorem k_ext (d : Nat) (x : Opd) (i : Nat) : stepK xf st d (.ext x i) = (tupAt i (st.ev x)).map (·, st) := by
  have e : stepK xf st d (.ext x i) = (match st.ev x with | .tup vs => vs[i]?.map fun v => (v.val, st) | _ => none) := rfl
  rw [e]
  generalize st.ev x = v
  cases v <;> simp [tupAt, Function.comp_def]
@[go_sem] theorem k_bslice0 (d : Nat) (ty : TypeId) (sz : Nat) (z : List V) : stepK xf st d (.bslice false ty sz 0 z []) = some (.sl [] 0 .full, st) := rfl
theorem fill_one (cs : List V) (o : Nat) (v : V) (r : List (Nat × Nat × V)) : fill cs ((o, 1, v) :: r) = (match v.cells? with | some [w] => bif Nat.ble (o + 1) cs.length then fill (splice cs o [w]) r else none | _ => none) := by
  rw [fill]
  cases v.cells? with
  | none => rfl
  | some vs =>
    match vs with
    | [] => rfl
    | [w] => simp
    | a :: b :: t =>
      simp only [List.length_cons]
      rw [show Nat.beq (t.length + 1 + 1) 1 = false from by cases hb : Nat.beq (t.length + 1 + 1) 1 with | true => exact absurd (Nat.eq_of_beq_eq_true hb) (by omega) | false => rfl]
      rfl
@[go_sem] theorem k_bslice2 (d : Nat) (ty : TypeId) (z : V) (x y : Opd) : stepK xf st d (.bslice false ty 1 2 [z] [(0, x), (1, y)]) = (match fill [z, z] [(0, 1, st.ev x), (1, 1, st.ev y)] with | some cs => some (.sl cs 2 .full, st) | none => none) := rfl
@[go_sem] theorem k_bslice3 (d : Nat) (ty : TypeId) (z : V) (x y u : Opd) : stepK xf st d (.bslice false ty 1 3 [z] [(0, x), (1, y), (2, u)]) = (match fill [z, z, z] [(0, 1, st.ev x), (1, 1, st.ev y), (2, 1, st.ev u)] with | some cs => some (.sl cs 3 .full, st) | none => none) := rfl
@[go_sem] theorem k_bslice4 (d : Nat) (ty : TypeId) (z : V) (x y u w : Opd) : stepK xf st d (.bslice false ty 1 4 [z] [(0, x), (1, y), (2, u), (3, w)]) = (match fill [z, z, z, z] [(0, 1, st.ev x), (1, 1, st.ev y), (2, 1, st.ev u), (3, 1, st.ev w)] with | some cs => some (.sl cs 4 .full, st) | none => none) := rfl
@[go_sem] theorem k_bslice1 (d : Nat) (ty : TypeId) (z : V) (x : Opd) : stepK xf st d (.bslice false ty 1 1 [z] [(0, x)]) = (match (st.ev x).cells? with | some [v] => some (.sl [v] 1 .full, st) | _ => none) := by
  rw [k_bslice]
  simp only [evB, fill]
  cases (st.ev x).cells? with
  | none => rfl
  | some vs =>
    match vs with
    | [] => rfl
    | [v] => rfl
    | a :: b :: r =>
      simp only [List.length_cons]
      rw [show Nat.beq (r.length + 1 + 1) 1 = false from by cases hb : Nat.beq (r.length + 1 + 1) 1 with | true => exact absurd (Nat.eq_of_beq_eq_true hb) (by omega) | false => rfl]
      rfl
@[go_sem] theorem k_lalloc (gl : Nat → List V) (T : T) (its : List (Nat × (List UInt8 × Nat))) (loc : List (Nat × List V)) (h : H) (d : Nat) (cs : List V) (ks : List Nat) :
    stepK xf ⟨gl, T, its, loc, h⟩ d (.lalloc cs ks) = some (.l d 0, ⟨gl, T.kill ks, its, lset loc d cs, h⟩) := rfl
@[go_sem] theorem k_lbox (gl : Nat → List V) (T : T) (its : List (Nat × (List UInt8 × Nat))) (loc : List (Nat × List V)) (h : H) (d : Nat) (x : Opd) (ks : List Nat) :
    stepK xf ⟨gl, T, its, loc, h⟩ d (.lbox x ks) = (match (St.ev ⟨gl, T, its, loc, h⟩ x).cells? with | some cs => some (.l d 0, ⟨gl, T.kill ks, its, lset loc d cs, h⟩) | none => none) := rfl
@[go_sem] theorem wrt_l (gl : Nat → List V) (T : T) (its : List (Nat × (List UInt8 × Nat))) (loc : List (Nat × List V)) (h : H) (d o : Nat) (xs : List V) :
    St.wrt ⟨gl, T, its, loc, h⟩ (.l d o) xs = (match al loc d with | some cs => bif Nat.ble (o + xs.length) cs.length then some ⟨gl, T, its, lset loc d (splice cs o xs), h⟩ else none | none => none) := rfl
@[go_sem] theorem k_bs31 (d : Nat) (ty : TypeId) (z0 z1 z2 : V) (x : Opd) : stepK xf st d (.bslice false ty 3 1 [z0, z1, z2] [(0, x)]) = (match (st.ev x).cells? with | some [v0, v1, v2] => some (.sl [v0, v1, v2] 1 .full, st) | _ => none) := by
  rw [k_bslice]
  simp only [evB, fill]
  cases (st.ev x).cells? with
  | none => rfl
  | some vs =>
    match vs with
    | [] => rfl
    | [_] => rfl
    | [_, _] => rfl
    | [_, _, _] => rfl
    | v0 :: v1 :: v2 :: w :: r =>
      simp only [List.length_cons]
      rw [show Nat.beq (r.length + 1 + 1 + 1 + 1) 3 = false from by cases hb : Nat.beq (r.length + 1 + 1 + 1 + 1) 3 with | true => exact absurd (Nat.eq_of_beq_eq_true hb) (by omega) | false => rfl]
      rfl
@[go_sem] theorem k_bs41 (d : Nat) (ty : TypeId) (z0 z1 z2 z3 : V) (x : Opd) : stepK xf st d (.bslice false ty 4 1 [z0, z1, z2, z3] [(0, x)]) = (match (st.ev x).cells? with | some [v0, v1, v2, v3] => some (.sl [v0, v1, v2, v3] 1 .full, st) | _ => none) := by
  rw [k_bslice]
  simp only [evB, fill]
  cases (st.ev x).cells? with
  | none => rfl
  | some vs =>
    match vs with
    | [] => rfl
    | [_] => rfl
    | [_, _] => rfl
    | [_, _, _] => rfl
    | [_, _, _, _] => rfl
    | v0 :: v1 :: v2 :: v3 :: w :: r =>
      simp only [List.length_cons]
      rw [show Nat.beq (r.length + 1 + 1 + 1 + 1 + 1) 4 = false from by cases hb : Nat.beq (r.length + 1 + 1 + 1 + 1 + 1) 4 with | true => exact absurd (Nat.eq_of_beq_eq_true hb) (by omega) | false => rfl]
      rfl
@[go_sem] theorem k_minmax (d : Nat) (mx : Bool) (x y : Opd) : stepK xf st d (.minmax mx x y) = (match st.ev x, st.ev y with | .i k a, .i _ b => some (.i k (bif mx then (if b > a then b else a) else (if b < a then b else a)), st) | _, _ => none) := rfl
@[go_sem] theorem k_mm3 (d : Nat) (mx : Bool) (x y z : Opd) : stepK xf st d (.mm3 mx x y z) = (match st.ev x, st.ev y, st.ev z with | .i k a, .i _ b, .i _ c => some (.i k (lim mx (lim mx a b) c), st) | _, _, _ => none) := rfl
@[go_sem] theorem k_mkmap (gl : Nat → List V) (T : T) (its : List (Nat × (List UInt8 × Nat))) (loc : List (Nat × List V)) (nx : Nat) (obs : List (Nat × Obj)) (nt : Nat) (tips : List (Nat × (Nat × TypeId))) (d : Nat) :
    stepK xf ⟨gl, T, its, loc, ⟨nx, obs, nt, tips⟩⟩ d .mkmap = some (.m (some nx), ⟨gl, T, its, loc, ⟨nx + 1, (nx, .map []) :: obs, nt, tips⟩⟩) := rfl
@[go_sem] theorem k_mget (d : Nat) (kt : ET) (ok : Bool) (z : V) (x k : Opd) : stepK xf st d (.mget kt ok z x k) = (match st.ev x with
    | .m none => some (bif ok then .tup [z, .b false] else z.val, st)
    | .m (some id) => match al st.h.objs id with
      | some (.map es) => match mfind kt (st.ev k) es 0 with
        | some (some (_, v)) => some (bif ok then .tup [v.val, .b true] else v.val, st)
        | some none => some (bif ok then .tup [z, .b false] else z.val, st)
        | none => none
      | _ => none
    | _ => none) := rfl
@[go_sem] theorem k_mput (d : Nat) (kt : ET) (m k x : Opd) : stepK xf st d (.mput kt m k x) = (match st.ev m with
    | .m (some id) => match al st.h.objs id with
      | some (.map es) => match mfind kt (st.ev k) es 0 with
        | some (some (i, _)) => some (.any, { st with h := st.h.setObj id (.map (mset es i (st.ev k, st.ev x))) })
        | some none => some (.any, { st with h := st.h.setObj id (.map (es ++ [(st.ev k, st.ev x)])) })
        | none => none
      | _ => none
    | _ => none) := rfl
@[go_sem] theorem k_tas (d : Nat) (conc : Bool) (oks bads : List TypeId) (z : V) (ok : Bool) (x : Opd) : stepK xf st d (.tas conc oks bads z ok x) = (tasV conc oks bads z ok (st.ev x)).map (·, st) := rfl
@[go_sem] theorem k_range (gl : Nat → List V) (T : T) (its : List (Nat × (List UInt8 × Nat))) (loc : List (Nat × List V)) (h : H) (d : Nat) (x : Opd) :
    stepK xf ⟨gl, T, its, loc, h⟩ d (.range x) = (match St.ev ⟨gl, T, its, loc, h⟩ x with | .s l => some (.it, ⟨gl, T.set d .any, alSet its d (l, 0), loc, h⟩) | _ => none) := rfl
@[go_sem] theorem k_next (gl : Nat → List V) (T : T) (its : List (Nat × (List UInt8 × Nat))) (loc : List (Nat × List V)) (h : H) (d slot : Nat) :
    stepK xf ⟨gl, T, its, loc, h⟩ d (.next slot) = (match T.get slot, al its slot with
    | .it, some (l, pos) => match l with
      | [] => some (.tup [.b false], ⟨gl, T, its, loc, h⟩)
      | _ :: _ => some (.tup [.b true, .i .i64 pos, .i .i32 (dec l).1], ⟨gl, T, alSet its slot (l.drop (dec l).2, pos + (dec l).2), loc, h⟩)
    | _, _ => none) := rfl
@[go_sem] theorem k_call (d : Nat) (g : FuncId) (args : List Opd) : stepK xf st d (.call true g args) = (xf g (evL st args)).map (·, st) := rfl
@[go_sem] theorem k_callv (d : Nat) (x : Opd) (args : List Opd) : stepK xf st d (.callv true x args) = (match st.ev x with | .fn f first cap => (xf f (first ++ evL st args ++ cap)).map (·, st) | _ => none) := rfl
/-! ### What the end of a function is -/
@[go_sem] theorem fin_ret (res : List ARes) (v : V) : Fin res v .ret st = ((resV st res).map (fun vs => frz st.h 100 (oneOf vs)) = some v) := by simp [Fin, AEx.ends]
@[go_sem] theorem fin_norm (res : List ARes) (v : V) : Fin res v .norm st = ((resV st res).map (fun vs => frz st.h 100 (oneOf vs)) = some v) := by simp [Fin, AEx.ends]
@[go_sem] theorem frz_b (h : H) (f : Nat) (x : Bool) : frz h (f + 1) (.b x) = .b x := rfl
@[go_sem] theorem frz_i (h : H) (f : Nat) (kk : IntKind) (n : Int) : frz h (f + 1) (.i kk n) = .i kk n := rfl
@[go_sem] theorem frz_s (h : H) (f : Nat) (l : List UInt8) : frz h (f + 1) (.s l) = .s l := rfl
@[go_sem] theorem frz_sl (h : H) (f : Nat) (xs : List V) (n : Nat) (t : Tk) : frz h (f + 1) (.sl xs n t) = .sl (xs.map (frz h f)) n t.cp := rfl
@[go_sem] theorem frz_tup (h : H) (f : Nat) (xs : List V) : frz h (f + 1) (.tup xs) = .tup (xs.map (frz h f)) := rfl
@[go_sem] theorem frz_agg (h : H) (f : Nat) (xs : List V) : frz h (f + 1) (.agg xs) = .agg (xs.map (frz h f)) := rfl
/-! ### Rows -/
@[go_sem] theorem app_own (gl : Nat → List V) (T : T) (its : List (Nat × (List UInt8 × Nat))) (loc : List (Nat × List V)) (nx : Nat) (obs : List (Nat × Obj)) (nt : Nat) (tips : List (Nat × (Nat × TypeId))) (ty : TypeId) (sz : Nat) (xs : List V) (n t : Nat) (y : V) :
    St.app ⟨gl, T, its, loc, ⟨nx, obs, nt, tips⟩⟩ ty sz (.sl xs n (.own t)) y = (match St.row ⟨gl, T, its, loc, ⟨nx, obs, nt, tips⟩⟩ sz y with
      | some (ys, m) => bif !allOne ys then none else bif Nat.beq m 0 then some (.sl xs n (.own t), ⟨gl, T, its, loc, ⟨nx, obs, nt, tips⟩⟩) else
          bif Nat.beq xs.length (n * sz) && Nat.ble (n + m) most then (match al tips t with
            | some (c, z) => bif Nat.beq c n && Nat.beq z ty then some (.sl (xs ++ ys) (n + m) (.own t), ⟨gl, T, its, loc, ⟨nx, obs, nt, alSet tips t (n + m, ty)⟩⟩) else none
            | none => none) else none
      | none => none) := by
  unfold St.app
  cases St.row ⟨gl, T, its, loc, ⟨nx, obs, nt, tips⟩⟩ sz y with
  | none => rfl
  | some p => rfl
@[go_sem] theorem app_full (gl : Nat → List V) (T : T) (its : List (Nat × (List UInt8 × Nat))) (loc : List (Nat × List V)) (nx : Nat) (obs : List (Nat × Obj)) (nt : Nat) (tips : List (Nat × (Nat × TypeId))) (ty : TypeId) (sz : Nat) (xs : List V) (n : Nat) (y : V) :
    St.app ⟨gl, T, its, loc, ⟨nx, obs, nt, tips⟩⟩ ty sz (.sl xs n .full) y = (match St.row ⟨gl, T, its, loc, ⟨nx, obs, nt, tips⟩⟩ sz y with
      | some (ys, m) => bif !allOne ys then none else bif Nat.beq m 0 then some (.sl xs n .full, ⟨gl, T, its, loc, ⟨nx, obs, nt, tips⟩⟩) else
          bif Nat.beq xs.length (n * sz) && Nat.ble (n + m) most then some (.sl (xs ++ ys) (n + m) (.own nt), ⟨gl, T, its, loc, ⟨nx, obs, nt + 1, (nt, (n + m, ty)) :: tips⟩⟩) else none
      | none => none) := by
  unfold St.app
  cases St.row ⟨gl, T, its, loc, ⟨nx, obs, nt, tips⟩⟩ sz y with
  | none => rfl
  | some p => rfl
@[go_sem] theorem app_nil (gl : Nat → List V) (T : T) (its : List (Nat × (List UInt8 × Nat))) (loc : List (Nat × List V)) (nx : Nat) (obs : List (Nat × Obj)) (nt : Nat) (tips : List (Nat × (Nat × TypeId))) (ty : TypeId) (sz : Nat) (xs : List V) (n : Nat) (y : V) :
    St.app ⟨gl, T, its, loc, ⟨nx, obs, nt, tips⟩⟩ ty sz (.sl xs n .nil) y = (match St.row ⟨gl, T, its, loc, ⟨nx, obs, nt, tips⟩⟩ sz y with
      | some (ys, m) => bif !allOne ys then none else bif Nat.beq m 0 then some (.sl xs n .nil, ⟨gl, T, its, loc, ⟨nx, obs, nt, tips⟩⟩) else
          bif Nat.beq xs.length (n * sz) && Nat.ble (n + m) most then some (.sl (xs ++ ys) (n + m) (.own nt), ⟨gl, T, its, loc, ⟨nx, obs, nt + 1, (nt, (n + m, ty)) :: tips⟩⟩) else none
      | none => none) := by
  unfold St.app
  cases St.row ⟨gl, T, its, loc, ⟨nx, obs, nt, tips⟩⟩ sz y with
  | none => rfl
  | some p => rfl
@[go_sem] theorem row_sl (sz : Nat) (xs : List V) (n : Nat) (t : Tk) : st.row sz (.sl xs n t) = bif Nat.beq xs.length (n * sz) then some (xs, n) else none := rfl
@[go_sem] theorem row_s (sz : Nat) (l : List UInt8) : st.row sz (.s l) = bif Nat.beq sz 1 then some (l.map byteV, l.length) else none := rfl
theorem rd_ip (xs : List V) (o n : Nat) : st.rd (.ip xs o) n = sub? xs o n := rfl
@[go_sem] theorem rd_l (d o n : Nat) : st.rd (.l d o) n = (match al st.loc d with | some cs => sub? cs o n | none => none) := rfl
@[go_sem] theorem nat_beq (a b : Nat) : Nat.beq a b = decide (a = b) := by
  cases h : Nat.beq a b with
  | true => simp [Nat.eq_of_beq_eq_true h]
  | false => simp [Nat.ne_of_beq_eq_false h]
@[go_sem] theorem nat_ble (a b : Nat) : Nat.ble a b = decide (a ≤ b) := by
  cases h : Nat.ble a b with
  | true => simp [Nat.le_of_ble_eq_true h]
  | false => exact (decide_eq_false (fun e => by rw [Nat.ble_eq_true_of_le e] at h; cases h)).symm
@[go_sem] theorem nat_blt (a b : Nat) : Nat.blt a b = decide (a < b) := by rw [Nat.blt, nat_ble]; rfl
/-! ### Temporaries -/

@[go_sem] theorem T.mk_0 : T.mk 0 = .leaf := rfl
@[go_sem] theorem T.mk_1 : T.mk 1 = .node (T.mk 0) .any (T.mk 0) := rfl
@[go_sem] theorem T.mk_2 : T.mk 2 = .node (T.mk 1) .any (T.mk 1) := rfl
@[go_sem] theorem T.mk_3 : T.mk 3 = .node (T.mk 2) .any (T.mk 2) := rfl
@[go_sem] theorem T.mk_4 : T.mk 4 = .node (T.mk 3) .any (T.mk 3) := rfl
@[go_sem] theorem T.mk_5 : T.mk 5 = .node (T.mk 4) .any (T.mk 4) := rfl
@[go_sem] theorem T.mk_6 : T.mk 6 = .node (T.mk 5) .any (T.mk 5) := rfl
@[go_sem] theorem T.mk_7 : T.mk 7 = .node (T.mk 6) .any (T.mk 6) := rfl
@[go_sem] theorem T.mk_8 : T.mk 8 = .node (T.mk 7) .any (T.mk 7) := rfl
@[go_sem] theorem T.mk_9 : T.mk 9 = .node (T.mk 8) .any (T.mk 8) := rfl
@[go_sem] theorem T.g0 (l : T) (v : V) (r : T) : (T.node l v r).get 0 = v := rfl
@[go_sem] theorem T.s0 (l : T) (v : V) (r : T) (x : V) : (T.node l v r).set 0 x = .node l x r := rfl
@[go_sem] theorem T.g1 (l : T) (v : V) (r : T) : (T.node l v r).get 1 = l.get 0 := rfl
@[go_sem] theorem T.s1 (l : T) (v : V) (r : T) (x : V) : (T.node l v r).set 1 x = .node (l.set 0 x) v r := rfl
@[go_sem] theorem T.g2 (l : T) (v : V) (r : T) : (T.node l v r).get 2 = r.get 0 := rfl
@[go_sem] theorem T.s2 (l : T) (v : V) (r : T) (x : V) : (T.node l v r).set 2 x = .node l v (r.set 0 x) := rfl
@[go_sem] theorem T.g3 (l : T) (v : V) (r : T) : (T.node l v r).get 3 = l.get 1 := rfl
@[go_sem] theorem T.s3 (l : T) (v : V) (r : T) (x : V) : (T.node l v r).set 3 x = .node (l.set 1 x) v r := rfl
@[go_sem] theorem T.g4 (l : T) (v : V) (r : T) : (T.node l v r).get 4 = r.get 1 := rfl
@[go_sem] theorem T.s4 (l : T) (v : V) (r : T) (x : V) : (T.node l v r).set 4 x = .node l v (r.set 1 x) := rfl
@[go_sem] theorem T.g5 (l : T) (v : V) (r : T) : (T.node l v r).get 5 = l.get 2 := rfl
@[go_sem] theorem T.s5 (l : T) (v : V) (r : T) (x : V) : (T.node l v r).set 5 x = .node (l.set 2 x) v r := rfl
@[go_sem] theorem T.g6 (l : T) (v : V) (r : T) : (T.node l v r).get 6 = r.get 2 := rfl
@[go_sem] theorem T.s6 (l : T) (v : V) (r : T) (x : V) : (T.node l v r).set 6 x = .node l v (r.set 2 x) := rfl
@[go_sem] theorem T.g7 (l : T) (v : V) (r : T) : (T.node l v r).get 7 = l.get 3 := rfl
@[go_sem] theorem T.s7 (l : T) (v : V) (r : T) (x : V) : (T.node l v r).set 7 x = .node (l.set 3 x) v r := rfl
@[go_sem] theorem T.g8 (l : T) (v : V) (r : T) : (T.node l v r).get 8 = r.get 3 := rfl
@[go_sem] theorem T.s8 (l : T) (v : V) (r : T) (x : V) : (T.node l v r).set 8 x = .node l v (r.set 3 x) := rfl
@[go_sem] theorem T.g9 (l : T) (v : V) (r : T) : (T.node l v r).get 9 = l.get 4 := rfl
@[go_sem] theorem T.s9 (l : T) (v : V) (r : T) (x : V) : (T.node l v r).set 9 x = .node (l.set 4 x) v r := rfl
@[go_sem] theorem T.g10 (l : T) (v : V) (r : T) : (T.node l v r).get 10 = r.get 4 := rfl
@[go_sem] theorem T.s10 (l : T) (v : V) (r : T) (x : V) : (T.node l v r).set 10 x = .node l v (r.set 4 x) := rfl
@[go_sem] theorem T.g11 (l : T) (v : V) (r : T) : (T.node l v r).get 11 = l.get 5 := rfl
@[go_sem] theorem T.s11 (l : T) (v : V) (r : T) (x : V) : (T.node l v r).set 11 x = .node (l.set 5 x) v r := rfl
@[go_sem] theorem T.g12 (l : T) (v : V) (r : T) : (T.node l v r).get 12 = r.get 5 := rfl
@[go_sem] theorem T.s12 (l : T) (v : V) (r : T) (x : V) : (T.node l v r).set 12 x = .node l v (r.set 5 x) := rfl
@[go_sem] theorem T.g13 (l : T) (v : V) (r : T) : (T.node l v r).get 13 = l.get 6 := rfl
@[go_sem] theorem T.s13 (l : T) (v : V) (r : T) (x : V) : (T.node l v r).set 13 x = .node (l.set 6 x) v r := rfl
@[go_sem] theorem T.g14 (l : T) (v : V) (r : T) : (T.node l v r).get 14 = r.get 6 := rfl
@[go_sem] theorem T.s14 (l : T) (v : V) (r : T) (x : V) : (T.node l v r).set 14 x = .node l v (r.set 6 x) := rfl
@[go_sem] theorem T.g15 (l : T) (v : V) (r : T) : (T.node l v r).get 15 = l.get 7 := rfl
@[go_sem] theorem T.s15 (l : T) (v : V) (r : T) (x : V) : (T.node l v r).set 15 x = .node (l.set 7 x) v r := rfl
@[go_sem] theorem T.g16 (l : T) (v : V) (r : T) : (T.node l v r).get 16 = r.get 7 := rfl
@[go_sem] theorem T.s16 (l : T) (v : V) (r : T) (x : V) : (T.node l v r).set 16 x = .node l v (r.set 7 x) := rfl
@[go_sem] theorem T.g17 (l : T) (v : V) (r : T) : (T.node l v r).get 17 = l.get 8 := rfl
@[go_sem] theorem T.s17 (l : T) (v : V) (r : T) (x : V) : (T.node l v r).set 17 x = .node (l.set 8 x) v r := rfl
@[go_sem] theorem T.g18 (l : T) (v : V) (r : T) : (T.node l v r).get 18 = r.get 8 := rfl
@[go_sem] theorem T.s18 (l : T) (v : V) (r : T) (x : V) : (T.node l v r).set 18 x = .node l v (r.set 8 x) := rfl
@[go_sem] theorem T.g19 (l : T) (v : V) (r : T) : (T.node l v r).get 19 = l.get 9 := rfl
@[go_sem] theorem T.s19 (l : T) (v : V) (r : T) (x : V) : (T.node l v r).set 19 x = .node (l.set 9 x) v r := rfl
@[go_sem] theorem T.g20 (l : T) (v : V) (r : T) : (T.node l v r).get 20 = r.get 9 := rfl
@[go_sem] theorem T.s20 (l : T) (v : V) (r : T) (x : V) : (T.node l v r).set 20 x = .node l v (r.set 9 x) := rfl
@[go_sem] theorem T.g21 (l : T) (v : V) (r : T) : (T.node l v r).get 21 = l.get 10 := rfl
@[go_sem] theorem T.s21 (l : T) (v : V) (r : T) (x : V) : (T.node l v r).set 21 x = .node (l.set 10 x) v r := rfl
@[go_sem] theorem T.g22 (l : T) (v : V) (r : T) : (T.node l v r).get 22 = r.get 10 := rfl
@[go_sem] theorem T.s22 (l : T) (v : V) (r : T) (x : V) : (T.node l v r).set 22 x = .node l v (r.set 10 x) := rfl
@[go_sem] theorem T.g23 (l : T) (v : V) (r : T) : (T.node l v r).get 23 = l.get 11 := rfl
@[go_sem] theorem T.s23 (l : T) (v : V) (r : T) (x : V) : (T.node l v r).set 23 x = .node (l.set 11 x) v r := rfl
@[go_sem] theorem T.g24 (l : T) (v : V) (r : T) : (T.node l v r).get 24 = r.get 11 := rfl
@[go_sem] theorem T.s24 (l : T) (v : V) (r : T) (x : V) : (T.node l v r).set 24 x = .node l v (r.set 11 x) := rfl
@[go_sem] theorem T.g25 (l : T) (v : V) (r : T) : (T.node l v r).get 25 = l.get 12 := rfl
@[go_sem] theorem T.s25 (l : T) (v : V) (r : T) (x : V) : (T.node l v r).set 25 x = .node (l.set 12 x) v r := rfl
@[go_sem] theorem T.g26 (l : T) (v : V) (r : T) : (T.node l v r).get 26 = r.get 12 := rfl
@[go_sem] theorem T.s26 (l : T) (v : V) (r : T) (x : V) : (T.node l v r).set 26 x = .node l v (r.set 12 x) := rfl
@[go_sem] theorem T.g27 (l : T) (v : V) (r : T) : (T.node l v r).get 27 = l.get 13 := rfl
@[go_sem] theorem T.s27 (l : T) (v : V) (r : T) (x : V) : (T.node l v r).set 27 x = .node (l.set 13 x) v r := rfl
@[go_sem] theorem T.g28 (l : T) (v : V) (r : T) : (T.node l v r).get 28 = r.get 13 := rfl
@[go_sem] theorem T.s28 (l : T) (v : V) (r : T) (x : V) : (T.node l v r).set 28 x = .node l v (r.set 13 x) := rfl
@[go_sem] theorem T.g29 (l : T) (v : V) (r : T) : (T.node l v r).get 29 = l.get 14 := rfl
@[go_sem] theorem T.s29 (l : T) (v : V) (r : T) (x : V) : (T.node l v r).set 29 x = .node (l.set 14 x) v r := rfl
@[go_sem] theorem T.g30 (l : T) (v : V) (r : T) : (T.node l v r).get 30 = r.get 14 := rfl
@[go_sem] theorem T.s30 (l : T) (v : V) (r : T) (x : V) : (T.node l v r).set 30 x = .node l v (r.set 14 x) := rfl
@[go_sem] theorem T.g31 (l : T) (v : V) (r : T) : (T.node l v r).get 31 = l.get 15 := rfl
@[go_sem] theorem T.s31 (l : T) (v : V) (r : T) (x : V) : (T.node l v r).set 31 x = .node (l.set 15 x) v r := rfl
@[go_sem] theorem T.g32 (l : T) (v : V) (r : T) : (T.node l v r).get 32 = r.get 15 := rfl
@[go_sem] theorem T.s32 (l : T) (v : V) (r : T) (x : V) : (T.node l v r).set 32 x = .node l v (r.set 15 x) := rfl
@[go_sem] theorem T.g33 (l : T) (v : V) (r : T) : (T.node l v r).get 33 = l.get 16 := rfl
@[go_sem] theorem T.s33 (l : T) (v : V) (r : T) (x : V) : (T.node l v r).set 33 x = .node (l.set 16 x) v r := rfl
@[go_sem] theorem T.g34 (l : T) (v : V) (r : T) : (T.node l v r).get 34 = r.get 16 := rfl
@[go_sem] theorem T.s34 (l : T) (v : V) (r : T) (x : V) : (T.node l v r).set 34 x = .node l v (r.set 16 x) := rfl
@[go_sem] theorem T.g35 (l : T) (v : V) (r : T) : (T.node l v r).get 35 = l.get 17 := rfl
@[go_sem] theorem T.s35 (l : T) (v : V) (r : T) (x : V) : (T.node l v r).set 35 x = .node (l.set 17 x) v r := rfl
@[go_sem] theorem T.g36 (l : T) (v : V) (r : T) : (T.node l v r).get 36 = r.get 17 := rfl
@[go_sem] theorem T.s36 (l : T) (v : V) (r : T) (x : V) : (T.node l v r).set 36 x = .node l v (r.set 17 x) := rfl
@[go_sem] theorem T.g37 (l : T) (v : V) (r : T) : (T.node l v r).get 37 = l.get 18 := rfl
@[go_sem] theorem T.s37 (l : T) (v : V) (r : T) (x : V) : (T.node l v r).set 37 x = .node (l.set 18 x) v r := rfl
@[go_sem] theorem T.g38 (l : T) (v : V) (r : T) : (T.node l v r).get 38 = r.get 18 := rfl
@[go_sem] theorem T.s38 (l : T) (v : V) (r : T) (x : V) : (T.node l v r).set 38 x = .node l v (r.set 18 x) := rfl
@[go_sem] theorem T.g39 (l : T) (v : V) (r : T) : (T.node l v r).get 39 = l.get 19 := rfl
@[go_sem] theorem T.s39 (l : T) (v : V) (r : T) (x : V) : (T.node l v r).set 39 x = .node (l.set 19 x) v r := rfl
@[go_sem] theorem T.g40 (l : T) (v : V) (r : T) : (T.node l v r).get 40 = r.get 19 := rfl
@[go_sem] theorem T.s40 (l : T) (v : V) (r : T) (x : V) : (T.node l v r).set 40 x = .node l v (r.set 19 x) := rfl
@[go_sem] theorem T.g41 (l : T) (v : V) (r : T) : (T.node l v r).get 41 = l.get 20 := rfl
@[go_sem] theorem T.s41 (l : T) (v : V) (r : T) (x : V) : (T.node l v r).set 41 x = .node (l.set 20 x) v r := rfl
@[go_sem] theorem T.g42 (l : T) (v : V) (r : T) : (T.node l v r).get 42 = r.get 20 := rfl
@[go_sem] theorem T.s42 (l : T) (v : V) (r : T) (x : V) : (T.node l v r).set 42 x = .node l v (r.set 20 x) := rfl
@[go_sem] theorem T.g43 (l : T) (v : V) (r : T) : (T.node l v r).get 43 = l.get 21 := rfl
@[go_sem] theorem T.s43 (l : T) (v : V) (r : T) (x : V) : (T.node l v r).set 43 x = .node (l.set 21 x) v r := rfl
@[go_sem] theorem T.g44 (l : T) (v : V) (r : T) : (T.node l v r).get 44 = r.get 21 := rfl
@[go_sem] theorem T.s44 (l : T) (v : V) (r : T) (x : V) : (T.node l v r).set 44 x = .node l v (r.set 21 x) := rfl
@[go_sem] theorem T.g45 (l : T) (v : V) (r : T) : (T.node l v r).get 45 = l.get 22 := rfl
@[go_sem] theorem T.s45 (l : T) (v : V) (r : T) (x : V) : (T.node l v r).set 45 x = .node (l.set 22 x) v r := rfl
@[go_sem] theorem T.g46 (l : T) (v : V) (r : T) : (T.node l v r).get 46 = r.get 22 := rfl
@[go_sem] theorem T.s46 (l : T) (v : V) (r : T) (x : V) : (T.node l v r).set 46 x = .node l v (r.set 22 x) := rfl
@[go_sem] theorem T.g47 (l : T) (v : V) (r : T) : (T.node l v r).get 47 = l.get 23 := rfl
@[go_sem] theorem T.s47 (l : T) (v : V) (r : T) (x : V) : (T.node l v r).set 47 x = .node (l.set 23 x) v r := rfl
@[go_sem] theorem T.g48 (l : T) (v : V) (r : T) : (T.node l v r).get 48 = r.get 23 := rfl
@[go_sem] theorem T.s48 (l : T) (v : V) (r : T) (x : V) : (T.node l v r).set 48 x = .node l v (r.set 23 x) := rfl
@[go_sem] theorem T.g49 (l : T) (v : V) (r : T) : (T.node l v r).get 49 = l.get 24 := rfl
@[go_sem] theorem T.s49 (l : T) (v : V) (r : T) (x : V) : (T.node l v r).set 49 x = .node (l.set 24 x) v r := rfl
@[go_sem] theorem T.g50 (l : T) (v : V) (r : T) : (T.node l v r).get 50 = r.get 24 := rfl
@[go_sem] theorem T.s50 (l : T) (v : V) (r : T) (x : V) : (T.node l v r).set 50 x = .node l v (r.set 24 x) := rfl
@[go_sem] theorem T.g51 (l : T) (v : V) (r : T) : (T.node l v r).get 51 = l.get 25 := rfl
@[go_sem] theorem T.s51 (l : T) (v : V) (r : T) (x : V) : (T.node l v r).set 51 x = .node (l.set 25 x) v r := rfl
@[go_sem] theorem T.g52 (l : T) (v : V) (r : T) : (T.node l v r).get 52 = r.get 25 := rfl
@[go_sem] theorem T.s52 (l : T) (v : V) (r : T) (x : V) : (T.node l v r).set 52 x = .node l v (r.set 25 x) := rfl
@[go_sem] theorem T.g53 (l : T) (v : V) (r : T) : (T.node l v r).get 53 = l.get 26 := rfl
@[go_sem] theorem T.s53 (l : T) (v : V) (r : T) (x : V) : (T.node l v r).set 53 x = .node (l.set 26 x) v r := rfl
@[go_sem] theorem T.g54 (l : T) (v : V) (r : T) : (T.node l v r).get 54 = r.get 26 := rfl
@[go_sem] theorem T.s54 (l : T) (v : V) (r : T) (x : V) : (T.node l v r).set 54 x = .node l v (r.set 26 x) := rfl
@[go_sem] theorem T.g55 (l : T) (v : V) (r : T) : (T.node l v r).get 55 = l.get 27 := rfl
@[go_sem] theorem T.s55 (l : T) (v : V) (r : T) (x : V) : (T.node l v r).set 55 x = .node (l.set 27 x) v r := rfl
@[go_sem] theorem T.g56 (l : T) (v : V) (r : T) : (T.node l v r).get 56 = r.get 27 := rfl
@[go_sem] theorem T.s56 (l : T) (v : V) (r : T) (x : V) : (T.node l v r).set 56 x = .node l v (r.set 27 x) := rfl
@[go_sem] theorem T.g57 (l : T) (v : V) (r : T) : (T.node l v r).get 57 = l.get 28 := rfl
@[go_sem] theorem T.s57 (l : T) (v : V) (r : T) (x : V) : (T.node l v r).set 57 x = .node (l.set 28 x) v r := rfl
@[go_sem] theorem T.g58 (l : T) (v : V) (r : T) : (T.node l v r).get 58 = r.get 28 := rfl
@[go_sem] theorem T.s58 (l : T) (v : V) (r : T) (x : V) : (T.node l v r).set 58 x = .node l v (r.set 28 x) := rfl
@[go_sem] theorem T.g59 (l : T) (v : V) (r : T) : (T.node l v r).get 59 = l.get 29 := rfl
@[go_sem] theorem T.s59 (l : T) (v : V) (r : T) (x : V) : (T.node l v r).set 59 x = .node (l.set 29 x) v r := rfl
@[go_sem] theorem T.g60 (l : T) (v : V) (r : T) : (T.node l v r).get 60 = r.get 29 := rfl
@[go_sem] theorem T.s60 (l : T) (v : V) (r : T) (x : V) : (T.node l v r).set 60 x = .node l v (r.set 29 x) := rfl
@[go_sem] theorem T.g61 (l : T) (v : V) (r : T) : (T.node l v r).get 61 = l.get 30 := rfl
@[go_sem] theorem T.s61 (l : T) (v : V) (r : T) (x : V) : (T.node l v r).set 61 x = .node (l.set 30 x) v r := rfl
@[go_sem] theorem T.g62 (l : T) (v : V) (r : T) : (T.node l v r).get 62 = r.get 30 := rfl
@[go_sem] theorem T.s62 (l : T) (v : V) (r : T) (x : V) : (T.node l v r).set 62 x = .node l v (r.set 30 x) := rfl
@[go_sem] theorem T.g63 (l : T) (v : V) (r : T) : (T.node l v r).get 63 = l.get 31 := rfl
@[go_sem] theorem T.s63 (l : T) (v : V) (r : T) (x : V) : (T.node l v r).set 63 x = .node (l.set 31 x) v r := rfl
@[go_sem] theorem T.g64 (l : T) (v : V) (r : T) : (T.node l v r).get 64 = r.get 31 := rfl
@[go_sem] theorem T.s64 (l : T) (v : V) (r : T) (x : V) : (T.node l v r).set 64 x = .node l v (r.set 31 x) := rfl
@[go_sem] theorem T.g65 (l : T) (v : V) (r : T) : (T.node l v r).get 65 = l.get 32 := rfl
@[go_sem] theorem T.s65 (l : T) (v : V) (r : T) (x : V) : (T.node l v r).set 65 x = .node (l.set 32 x) v r := rfl
@[go_sem] theorem T.g66 (l : T) (v : V) (r : T) : (T.node l v r).get 66 = r.get 32 := rfl
@[go_sem] theorem T.s66 (l : T) (v : V) (r : T) (x : V) : (T.node l v r).set 66 x = .node l v (r.set 32 x) := rfl
@[go_sem] theorem T.g67 (l : T) (v : V) (r : T) : (T.node l v r).get 67 = l.get 33 := rfl
@[go_sem] theorem T.s67 (l : T) (v : V) (r : T) (x : V) : (T.node l v r).set 67 x = .node (l.set 33 x) v r := rfl
@[go_sem] theorem T.g68 (l : T) (v : V) (r : T) : (T.node l v r).get 68 = r.get 33 := rfl
@[go_sem] theorem T.s68 (l : T) (v : V) (r : T) (x : V) : (T.node l v r).set 68 x = .node l v (r.set 33 x) := rfl
@[go_sem] theorem T.g69 (l : T) (v : V) (r : T) : (T.node l v r).get 69 = l.get 34 := rfl
@[go_sem] theorem T.s69 (l : T) (v : V) (r : T) (x : V) : (T.node l v r).set 69 x = .node (l.set 34 x) v r := rfl
@[go_sem] theorem T.g70 (l : T) (v : V) (r : T) : (T.node l v r).get 70 = r.get 34 := rfl
@[go_sem] theorem T.s70 (l : T) (v : V) (r : T) (x : V) : (T.node l v r).set 70 x = .node l v (r.set 34 x) := rfl
@[go_sem] theorem T.g71 (l : T) (v : V) (r : T) : (T.node l v r).get 71 = l.get 35 := rfl
@[go_sem] theorem T.s71 (l : T) (v : V) (r : T) (x : V) : (T.node l v r).set 71 x = .node (l.set 35 x) v r := rfl
@[go_sem] theorem T.g72 (l : T) (v : V) (r : T) : (T.node l v r).get 72 = r.get 35 := rfl
@[go_sem] theorem T.s72 (l : T) (v : V) (r : T) (x : V) : (T.node l v r).set 72 x = .node l v (r.set 35 x) := rfl
@[go_sem] theorem T.g73 (l : T) (v : V) (r : T) : (T.node l v r).get 73 = l.get 36 := rfl
@[go_sem] theorem T.s73 (l : T) (v : V) (r : T) (x : V) : (T.node l v r).set 73 x = .node (l.set 36 x) v r := rfl
@[go_sem] theorem T.g74 (l : T) (v : V) (r : T) : (T.node l v r).get 74 = r.get 36 := rfl
@[go_sem] theorem T.s74 (l : T) (v : V) (r : T) (x : V) : (T.node l v r).set 74 x = .node l v (r.set 36 x) := rfl
@[go_sem] theorem T.g75 (l : T) (v : V) (r : T) : (T.node l v r).get 75 = l.get 37 := rfl
@[go_sem] theorem T.s75 (l : T) (v : V) (r : T) (x : V) : (T.node l v r).set 75 x = .node (l.set 37 x) v r := rfl
@[go_sem] theorem T.g76 (l : T) (v : V) (r : T) : (T.node l v r).get 76 = r.get 37 := rfl
@[go_sem] theorem T.s76 (l : T) (v : V) (r : T) (x : V) : (T.node l v r).set 76 x = .node l v (r.set 37 x) := rfl
@[go_sem] theorem T.g77 (l : T) (v : V) (r : T) : (T.node l v r).get 77 = l.get 38 := rfl
@[go_sem] theorem T.s77 (l : T) (v : V) (r : T) (x : V) : (T.node l v r).set 77 x = .node (l.set 38 x) v r := rfl
@[go_sem] theorem T.g78 (l : T) (v : V) (r : T) : (T.node l v r).get 78 = r.get 38 := rfl
@[go_sem] theorem T.s78 (l : T) (v : V) (r : T) (x : V) : (T.node l v r).set 78 x = .node l v (r.set 38 x) := rfl
@[go_sem] theorem T.g79 (l : T) (v : V) (r : T) : (T.node l v r).get 79 = l.get 39 := rfl
@[go_sem] theorem T.s79 (l : T) (v : V) (r : T) (x : V) : (T.node l v r).set 79 x = .node (l.set 39 x) v r := rfl
@[go_sem] theorem T.g80 (l : T) (v : V) (r : T) : (T.node l v r).get 80 = r.get 39 := rfl
@[go_sem] theorem T.s80 (l : T) (v : V) (r : T) (x : V) : (T.node l v r).set 80 x = .node l v (r.set 39 x) := rfl
@[go_sem] theorem T.g81 (l : T) (v : V) (r : T) : (T.node l v r).get 81 = l.get 40 := rfl
@[go_sem] theorem T.s81 (l : T) (v : V) (r : T) (x : V) : (T.node l v r).set 81 x = .node (l.set 40 x) v r := rfl
@[go_sem] theorem T.g82 (l : T) (v : V) (r : T) : (T.node l v r).get 82 = r.get 40 := rfl
@[go_sem] theorem T.s82 (l : T) (v : V) (r : T) (x : V) : (T.node l v r).set 82 x = .node l v (r.set 40 x) := rfl
@[go_sem] theorem T.g83 (l : T) (v : V) (r : T) : (T.node l v r).get 83 = l.get 41 := rfl
@[go_sem] theorem T.s83 (l : T) (v : V) (r : T) (x : V) : (T.node l v r).set 83 x = .node (l.set 41 x) v r := rfl
@[go_sem] theorem T.g84 (l : T) (v : V) (r : T) : (T.node l v r).get 84 = r.get 41 := rfl
@[go_sem] theorem T.s84 (l : T) (v : V) (r : T) (x : V) : (T.node l v r).set 84 x = .node l v (r.set 41 x) := rfl
@[go_sem] theorem T.g85 (l : T) (v : V) (r : T) : (T.node l v r).get 85 = l.get 42 := rfl
@[go_sem] theorem T.s85 (l : T) (v : V) (r : T) (x : V) : (T.node l v r).set 85 x = .node (l.set 42 x) v r := rfl
@[go_sem] theorem T.g86 (l : T) (v : V) (r : T) : (T.node l v r).get 86 = r.get 42 := rfl
@[go_sem] theorem T.s86 (l : T) (v : V) (r : T) (x : V) : (T.node l v r).set 86 x = .node l v (r.set 42 x) := rfl
@[go_sem] theorem T.g87 (l : T) (v : V) (r : T) : (T.node l v r).get 87 = l.get 43 := rfl
@[go_sem] theorem T.s87 (l : T) (v : V) (r : T) (x : V) : (T.node l v r).set 87 x = .node (l.set 43 x) v r := rfl
@[go_sem] theorem T.g88 (l : T) (v : V) (r : T) : (T.node l v r).get 88 = r.get 43 := rfl
@[go_sem] theorem T.s88 (l : T) (v : V) (r : T) (x : V) : (T.node l v r).set 88 x = .node l v (r.set 43 x) := rfl
@[go_sem] theorem T.g89 (l : T) (v : V) (r : T) : (T.node l v r).get 89 = l.get 44 := rfl
@[go_sem] theorem T.s89 (l : T) (v : V) (r : T) (x : V) : (T.node l v r).set 89 x = .node (l.set 44 x) v r := rfl
@[go_sem] theorem T.g90 (l : T) (v : V) (r : T) : (T.node l v r).get 90 = r.get 44 := rfl
@[go_sem] theorem T.s90 (l : T) (v : V) (r : T) (x : V) : (T.node l v r).set 90 x = .node l v (r.set 44 x) := rfl
@[go_sem] theorem T.g91 (l : T) (v : V) (r : T) : (T.node l v r).get 91 = l.get 45 := rfl
@[go_sem] theorem T.s91 (l : T) (v : V) (r : T) (x : V) : (T.node l v r).set 91 x = .node (l.set 45 x) v r := rfl
@[go_sem] theorem T.g92 (l : T) (v : V) (r : T) : (T.node l v r).get 92 = r.get 45 := rfl
@[go_sem] theorem T.s92 (l : T) (v : V) (r : T) (x : V) : (T.node l v r).set 92 x = .node l v (r.set 45 x) := rfl
@[go_sem] theorem T.g93 (l : T) (v : V) (r : T) : (T.node l v r).get 93 = l.get 46 := rfl
@[go_sem] theorem T.s93 (l : T) (v : V) (r : T) (x : V) : (T.node l v r).set 93 x = .node (l.set 46 x) v r := rfl
@[go_sem] theorem T.g94 (l : T) (v : V) (r : T) : (T.node l v r).get 94 = r.get 46 := rfl
@[go_sem] theorem T.s94 (l : T) (v : V) (r : T) (x : V) : (T.node l v r).set 94 x = .node l v (r.set 46 x) := rfl
@[go_sem] theorem T.g95 (l : T) (v : V) (r : T) : (T.node l v r).get 95 = l.get 47 := rfl
@[go_sem] theorem T.s95 (l : T) (v : V) (r : T) (x : V) : (T.node l v r).set 95 x = .node (l.set 47 x) v r := rfl
@[go_sem] theorem T.g96 (l : T) (v : V) (r : T) : (T.node l v r).get 96 = r.get 47 := rfl
@[go_sem] theorem T.s96 (l : T) (v : V) (r : T) (x : V) : (T.node l v r).set 96 x = .node l v (r.set 47 x) := rfl
@[go_sem] theorem T.g97 (l : T) (v : V) (r : T) : (T.node l v r).get 97 = l.get 48 := rfl
@[go_sem] theorem T.s97 (l : T) (v : V) (r : T) (x : V) : (T.node l v r).set 97 x = .node (l.set 48 x) v r := rfl
@[go_sem] theorem T.g98 (l : T) (v : V) (r : T) : (T.node l v r).get 98 = r.get 48 := rfl
@[go_sem] theorem T.s98 (l : T) (v : V) (r : T) (x : V) : (T.node l v r).set 98 x = .node l v (r.set 48 x) := rfl
@[go_sem] theorem T.g99 (l : T) (v : V) (r : T) : (T.node l v r).get 99 = l.get 49 := rfl
@[go_sem] theorem T.s99 (l : T) (v : V) (r : T) (x : V) : (T.node l v r).set 99 x = .node (l.set 49 x) v r := rfl
@[go_sem] theorem T.g100 (l : T) (v : V) (r : T) : (T.node l v r).get 100 = r.get 49 := rfl
@[go_sem] theorem T.s100 (l : T) (v : V) (r : T) (x : V) : (T.node l v r).set 100 x = .node l v (r.set 49 x) := rfl
@[go_sem] theorem T.g101 (l : T) (v : V) (r : T) : (T.node l v r).get 101 = l.get 50 := rfl
@[go_sem] theorem T.s101 (l : T) (v : V) (r : T) (x : V) : (T.node l v r).set 101 x = .node (l.set 50 x) v r := rfl
@[go_sem] theorem T.g102 (l : T) (v : V) (r : T) : (T.node l v r).get 102 = r.get 50 := rfl
@[go_sem] theorem T.s102 (l : T) (v : V) (r : T) (x : V) : (T.node l v r).set 102 x = .node l v (r.set 50 x) := rfl
@[go_sem] theorem T.g103 (l : T) (v : V) (r : T) : (T.node l v r).get 103 = l.get 51 := rfl
@[go_sem] theorem T.s103 (l : T) (v : V) (r : T) (x : V) : (T.node l v r).set 103 x = .node (l.set 51 x) v r := rfl
@[go_sem] theorem T.g104 (l : T) (v : V) (r : T) : (T.node l v r).get 104 = r.get 51 := rfl
@[go_sem] theorem T.s104 (l : T) (v : V) (r : T) (x : V) : (T.node l v r).set 104 x = .node l v (r.set 51 x) := rfl
@[go_sem] theorem T.g105 (l : T) (v : V) (r : T) : (T.node l v r).get 105 = l.get 52 := rfl
@[go_sem] theorem T.s105 (l : T) (v : V) (r : T) (x : V) : (T.node l v r).set 105 x = .node (l.set 52 x) v r := rfl
@[go_sem] theorem T.g106 (l : T) (v : V) (r : T) : (T.node l v r).get 106 = r.get 52 := rfl
@[go_sem] theorem T.s106 (l : T) (v : V) (r : T) (x : V) : (T.node l v r).set 106 x = .node l v (r.set 52 x) := rfl
@[go_sem] theorem T.g107 (l : T) (v : V) (r : T) : (T.node l v r).get 107 = l.get 53 := rfl
@[go_sem] theorem T.s107 (l : T) (v : V) (r : T) (x : V) : (T.node l v r).set 107 x = .node (l.set 53 x) v r := rfl
@[go_sem] theorem T.g108 (l : T) (v : V) (r : T) : (T.node l v r).get 108 = r.get 53 := rfl
@[go_sem] theorem T.s108 (l : T) (v : V) (r : T) (x : V) : (T.node l v r).set 108 x = .node l v (r.set 53 x) := rfl
@[go_sem] theorem T.g109 (l : T) (v : V) (r : T) : (T.node l v r).get 109 = l.get 54 := rfl
@[go_sem] theorem T.s109 (l : T) (v : V) (r : T) (x : V) : (T.node l v r).set 109 x = .node (l.set 54 x) v r := rfl
@[go_sem] theorem T.g110 (l : T) (v : V) (r : T) : (T.node l v r).get 110 = r.get 54 := rfl
@[go_sem] theorem T.s110 (l : T) (v : V) (r : T) (x : V) : (T.node l v r).set 110 x = .node l v (r.set 54 x) := rfl
@[go_sem] theorem T.g111 (l : T) (v : V) (r : T) : (T.node l v r).get 111 = l.get 55 := rfl
@[go_sem] theorem T.s111 (l : T) (v : V) (r : T) (x : V) : (T.node l v r).set 111 x = .node (l.set 55 x) v r := rfl
@[go_sem] theorem T.g112 (l : T) (v : V) (r : T) : (T.node l v r).get 112 = r.get 55 := rfl
@[go_sem] theorem T.s112 (l : T) (v : V) (r : T) (x : V) : (T.node l v r).set 112 x = .node l v (r.set 55 x) := rfl
@[go_sem] theorem T.g113 (l : T) (v : V) (r : T) : (T.node l v r).get 113 = l.get 56 := rfl
@[go_sem] theorem T.s113 (l : T) (v : V) (r : T) (x : V) : (T.node l v r).set 113 x = .node (l.set 56 x) v r := rfl
@[go_sem] theorem T.g114 (l : T) (v : V) (r : T) : (T.node l v r).get 114 = r.get 56 := rfl
@[go_sem] theorem T.s114 (l : T) (v : V) (r : T) (x : V) : (T.node l v r).set 114 x = .node l v (r.set 56 x) := rfl
@[go_sem] theorem T.g115 (l : T) (v : V) (r : T) : (T.node l v r).get 115 = l.get 57 := rfl
@[go_sem] theorem T.s115 (l : T) (v : V) (r : T) (x : V) : (T.node l v r).set 115 x = .node (l.set 57 x) v r := rfl
@[go_sem] theorem T.g116 (l : T) (v : V) (r : T) : (T.node l v r).get 116 = r.get 57 := rfl
@[go_sem] theorem T.s116 (l : T) (v : V) (r : T) (x : V) : (T.node l v r).set 116 x = .node l v (r.set 57 x) := rfl
@[go_sem] theorem T.g117 (l : T) (v : V) (r : T) : (T.node l v r).get 117 = l.get 58 := rfl
@[go_sem] theorem T.s117 (l : T) (v : V) (r : T) (x : V) : (T.node l v r).set 117 x = .node (l.set 58 x) v r := rfl
@[go_sem] theorem T.g118 (l : T) (v : V) (r : T) : (T.node l v r).get 118 = r.get 58 := rfl
@[go_sem] theorem T.s118 (l : T) (v : V) (r : T) (x : V) : (T.node l v r).set 118 x = .node l v (r.set 58 x) := rfl
@[go_sem] theorem T.g119 (l : T) (v : V) (r : T) : (T.node l v r).get 119 = l.get 59 := rfl
@[go_sem] theorem T.s119 (l : T) (v : V) (r : T) (x : V) : (T.node l v r).set 119 x = .node (l.set 59 x) v r := rfl
@[go_sem] theorem T.g120 (l : T) (v : V) (r : T) : (T.node l v r).get 120 = r.get 59 := rfl
@[go_sem] theorem T.s120 (l : T) (v : V) (r : T) (x : V) : (T.node l v r).set 120 x = .node l v (r.set 59 x) := rfl
@[go_sem] theorem T.g121 (l : T) (v : V) (r : T) : (T.node l v r).get 121 = l.get 60 := rfl
@[go_sem] theorem T.s121 (l : T) (v : V) (r : T) (x : V) : (T.node l v r).set 121 x = .node (l.set 60 x) v r := rfl
@[go_sem] theorem T.g122 (l : T) (v : V) (r : T) : (T.node l v r).get 122 = r.get 60 := rfl
@[go_sem] theorem T.s122 (l : T) (v : V) (r : T) (x : V) : (T.node l v r).set 122 x = .node l v (r.set 60 x) := rfl
@[go_sem] theorem T.g123 (l : T) (v : V) (r : T) : (T.node l v r).get 123 = l.get 61 := rfl
@[go_sem] theorem T.s123 (l : T) (v : V) (r : T) (x : V) : (T.node l v r).set 123 x = .node (l.set 61 x) v r := rfl
@[go_sem] theorem T.g124 (l : T) (v : V) (r : T) : (T.node l v r).get 124 = r.get 61 := rfl
@[go_sem] theorem T.s124 (l : T) (v : V) (r : T) (x : V) : (T.node l v r).set 124 x = .node l v (r.set 61 x) := rfl
@[go_sem] theorem T.g125 (l : T) (v : V) (r : T) : (T.node l v r).get 125 = l.get 62 := rfl
@[go_sem] theorem T.s125 (l : T) (v : V) (r : T) (x : V) : (T.node l v r).set 125 x = .node (l.set 62 x) v r := rfl
@[go_sem] theorem T.g126 (l : T) (v : V) (r : T) : (T.node l v r).get 126 = r.get 62 := rfl
@[go_sem] theorem T.s126 (l : T) (v : V) (r : T) (x : V) : (T.node l v r).set 126 x = .node l v (r.set 62 x) := rfl
@[go_sem] theorem T.g127 (l : T) (v : V) (r : T) : (T.node l v r).get 127 = l.get 63 := rfl
@[go_sem] theorem T.s127 (l : T) (v : V) (r : T) (x : V) : (T.node l v r).set 127 x = .node (l.set 63 x) v r := rfl
@[go_sem] theorem T.g128 (l : T) (v : V) (r : T) : (T.node l v r).get 128 = r.get 63 := rfl
@[go_sem] theorem T.s128 (l : T) (v : V) (r : T) (x : V) : (T.node l v r).set 128 x = .node l v (r.set 63 x) := rfl
@[go_sem] theorem T.g129 (l : T) (v : V) (r : T) : (T.node l v r).get 129 = l.get 64 := rfl
@[go_sem] theorem T.s129 (l : T) (v : V) (r : T) (x : V) : (T.node l v r).set 129 x = .node (l.set 64 x) v r := rfl
@[go_sem] theorem T.g130 (l : T) (v : V) (r : T) : (T.node l v r).get 130 = r.get 64 := rfl
@[go_sem] theorem T.s130 (l : T) (v : V) (r : T) (x : V) : (T.node l v r).set 130 x = .node l v (r.set 64 x) := rfl
@[go_sem] theorem T.g131 (l : T) (v : V) (r : T) : (T.node l v r).get 131 = l.get 65 := rfl
@[go_sem] theorem T.s131 (l : T) (v : V) (r : T) (x : V) : (T.node l v r).set 131 x = .node (l.set 65 x) v r := rfl
@[go_sem] theorem T.g132 (l : T) (v : V) (r : T) : (T.node l v r).get 132 = r.get 65 := rfl
@[go_sem] theorem T.s132 (l : T) (v : V) (r : T) (x : V) : (T.node l v r).set 132 x = .node l v (r.set 65 x) := rfl
@[go_sem] theorem T.g133 (l : T) (v : V) (r : T) : (T.node l v r).get 133 = l.get 66 := rfl
@[go_sem] theorem T.s133 (l : T) (v : V) (r : T) (x : V) : (T.node l v r).set 133 x = .node (l.set 66 x) v r := rfl
@[go_sem] theorem T.g134 (l : T) (v : V) (r : T) : (T.node l v r).get 134 = r.get 66 := rfl
@[go_sem] theorem T.s134 (l : T) (v : V) (r : T) (x : V) : (T.node l v r).set 134 x = .node l v (r.set 66 x) := rfl
@[go_sem] theorem T.g135 (l : T) (v : V) (r : T) : (T.node l v r).get 135 = l.get 67 := rfl
@[go_sem] theorem T.s135 (l : T) (v : V) (r : T) (x : V) : (T.node l v r).set 135 x = .node (l.set 67 x) v r := rfl
@[go_sem] theorem T.g136 (l : T) (v : V) (r : T) : (T.node l v r).get 136 = r.get 67 := rfl
@[go_sem] theorem T.s136 (l : T) (v : V) (r : T) (x : V) : (T.node l v r).set 136 x = .node l v (r.set 67 x) := rfl
@[go_sem] theorem T.g137 (l : T) (v : V) (r : T) : (T.node l v r).get 137 = l.get 68 := rfl
@[go_sem] theorem T.s137 (l : T) (v : V) (r : T) (x : V) : (T.node l v r).set 137 x = .node (l.set 68 x) v r := rfl
@[go_sem] theorem T.g138 (l : T) (v : V) (r : T) : (T.node l v r).get 138 = r.get 68 := rfl
@[go_sem] theorem T.s138 (l : T) (v : V) (r : T) (x : V) : (T.node l v r).set 138 x = .node l v (r.set 68 x) := rfl
@[go_sem] theorem T.g139 (l : T) (v : V) (r : T) : (T.node l v r).get 139 = l.get 69 := rfl
@[go_sem] theorem T.s139 (l : T) (v : V) (r : T) (x : V) : (T.node l v r).set 139 x = .node (l.set 69 x) v r := rfl
@[go_sem] theorem T.g140 (l : T) (v : V) (r : T) : (T.node l v r).get 140 = r.get 69 := rfl
@[go_sem] theorem T.s140 (l : T) (v : V) (r : T) (x : V) : (T.node l v r).set 140 x = .node l v (r.set 69 x) := rfl
@[go_sem] theorem T.g141 (l : T) (v : V) (r : T) : (T.node l v r).get 141 = l.get 70 := rfl
@[go_sem] theorem T.s141 (l : T) (v : V) (r : T) (x : V) : (T.node l v r).set 141 x = .node (l.set 70 x) v r := rfl
@[go_sem] theorem T.g142 (l : T) (v : V) (r : T) : (T.node l v r).get 142 = r.get 70 := rfl
@[go_sem] theorem T.s142 (l : T) (v : V) (r : T) (x : V) : (T.node l v r).set 142 x = .node l v (r.set 70 x) := rfl
@[go_sem] theorem T.g143 (l : T) (v : V) (r : T) : (T.node l v r).get 143 = l.get 71 := rfl
@[go_sem] theorem T.s143 (l : T) (v : V) (r : T) (x : V) : (T.node l v r).set 143 x = .node (l.set 71 x) v r := rfl
@[go_sem] theorem T.g144 (l : T) (v : V) (r : T) : (T.node l v r).get 144 = r.get 71 := rfl
@[go_sem] theorem T.s144 (l : T) (v : V) (r : T) (x : V) : (T.node l v r).set 144 x = .node l v (r.set 71 x) := rfl
@[go_sem] theorem T.g145 (l : T) (v : V) (r : T) : (T.node l v r).get 145 = l.get 72 := rfl
@[go_sem] theorem T.s145 (l : T) (v : V) (r : T) (x : V) : (T.node l v r).set 145 x = .node (l.set 72 x) v r := rfl
@[go_sem] theorem T.g146 (l : T) (v : V) (r : T) : (T.node l v r).get 146 = r.get 72 := rfl
@[go_sem] theorem T.s146 (l : T) (v : V) (r : T) (x : V) : (T.node l v r).set 146 x = .node l v (r.set 72 x) := rfl
@[go_sem] theorem T.g147 (l : T) (v : V) (r : T) : (T.node l v r).get 147 = l.get 73 := rfl
@[go_sem] theorem T.s147 (l : T) (v : V) (r : T) (x : V) : (T.node l v r).set 147 x = .node (l.set 73 x) v r := rfl
@[go_sem] theorem T.g148 (l : T) (v : V) (r : T) : (T.node l v r).get 148 = r.get 73 := rfl
@[go_sem] theorem T.s148 (l : T) (v : V) (r : T) (x : V) : (T.node l v r).set 148 x = .node l v (r.set 73 x) := rfl
@[go_sem] theorem T.g149 (l : T) (v : V) (r : T) : (T.node l v r).get 149 = l.get 74 := rfl
@[go_sem] theorem T.s149 (l : T) (v : V) (r : T) (x : V) : (T.node l v r).set 149 x = .node (l.set 74 x) v r := rfl
@[go_sem] theorem T.g150 (l : T) (v : V) (r : T) : (T.node l v r).get 150 = r.get 74 := rfl
@[go_sem] theorem T.s150 (l : T) (v : V) (r : T) (x : V) : (T.node l v r).set 150 x = .node l v (r.set 74 x) := rfl
@[go_sem] theorem T.g151 (l : T) (v : V) (r : T) : (T.node l v r).get 151 = l.get 75 := rfl
@[go_sem] theorem T.s151 (l : T) (v : V) (r : T) (x : V) : (T.node l v r).set 151 x = .node (l.set 75 x) v r := rfl
@[go_sem] theorem T.g152 (l : T) (v : V) (r : T) : (T.node l v r).get 152 = r.get 75 := rfl
@[go_sem] theorem T.s152 (l : T) (v : V) (r : T) (x : V) : (T.node l v r).set 152 x = .node l v (r.set 75 x) := rfl
@[go_sem] theorem T.g153 (l : T) (v : V) (r : T) : (T.node l v r).get 153 = l.get 76 := rfl
@[go_sem] theorem T.s153 (l : T) (v : V) (r : T) (x : V) : (T.node l v r).set 153 x = .node (l.set 76 x) v r := rfl
@[go_sem] theorem T.g154 (l : T) (v : V) (r : T) : (T.node l v r).get 154 = r.get 76 := rfl
@[go_sem] theorem T.s154 (l : T) (v : V) (r : T) (x : V) : (T.node l v r).set 154 x = .node l v (r.set 76 x) := rfl
@[go_sem] theorem T.g155 (l : T) (v : V) (r : T) : (T.node l v r).get 155 = l.get 77 := rfl
@[go_sem] theorem T.s155 (l : T) (v : V) (r : T) (x : V) : (T.node l v r).set 155 x = .node (l.set 77 x) v r := rfl
@[go_sem] theorem T.g156 (l : T) (v : V) (r : T) : (T.node l v r).get 156 = r.get 77 := rfl
@[go_sem] theorem T.s156 (l : T) (v : V) (r : T) (x : V) : (T.node l v r).set 156 x = .node l v (r.set 77 x) := rfl
@[go_sem] theorem T.g157 (l : T) (v : V) (r : T) : (T.node l v r).get 157 = l.get 78 := rfl
@[go_sem] theorem T.s157 (l : T) (v : V) (r : T) (x : V) : (T.node l v r).set 157 x = .node (l.set 78 x) v r := rfl
@[go_sem] theorem T.g158 (l : T) (v : V) (r : T) : (T.node l v r).get 158 = r.get 78 := rfl
@[go_sem] theorem T.s158 (l : T) (v : V) (r : T) (x : V) : (T.node l v r).set 158 x = .node l v (r.set 78 x) := rfl
@[go_sem] theorem T.g159 (l : T) (v : V) (r : T) : (T.node l v r).get 159 = l.get 79 := rfl
@[go_sem] theorem T.s159 (l : T) (v : V) (r : T) (x : V) : (T.node l v r).set 159 x = .node (l.set 79 x) v r := rfl
@[go_sem] theorem T.g160 (l : T) (v : V) (r : T) : (T.node l v r).get 160 = r.get 79 := rfl
@[go_sem] theorem T.s160 (l : T) (v : V) (r : T) (x : V) : (T.node l v r).set 160 x = .node l v (r.set 79 x) := rfl
@[go_sem] theorem T.g161 (l : T) (v : V) (r : T) : (T.node l v r).get 161 = l.get 80 := rfl
@[go_sem] theorem T.s161 (l : T) (v : V) (r : T) (x : V) : (T.node l v r).set 161 x = .node (l.set 80 x) v r := rfl
@[go_sem] theorem T.g162 (l : T) (v : V) (r : T) : (T.node l v r).get 162 = r.get 80 := rfl
@[go_sem] theorem T.s162 (l : T) (v : V) (r : T) (x : V) : (T.node l v r).set 162 x = .node l v (r.set 80 x) := rfl
@[go_sem] theorem T.g163 (l : T) (v : V) (r : T) : (T.node l v r).get 163 = l.get 81 := rfl
@[go_sem] theorem T.s163 (l : T) (v : V) (r : T) (x : V) : (T.node l v r).set 163 x = .node (l.set 81 x) v r := rfl
@[go_sem] theorem T.g164 (l : T) (v : V) (r : T) : (T.node l v r).get 164 = r.get 81 := rfl
@[go_sem] theorem T.s164 (l : T) (v : V) (r : T) (x : V) : (T.node l v r).set 164 x = .node l v (r.set 81 x) := rfl
@[go_sem] theorem T.g165 (l : T) (v : V) (r : T) : (T.node l v r).get 165 = l.get 82 := rfl
@[go_sem] theorem T.s165 (l : T) (v : V) (r : T) (x : V) : (T.node l v r).set 165 x = .node (l.set 82 x) v r := rfl
@[go_sem] theorem T.g166 (l : T) (v : V) (r : T) : (T.node l v r).get 166 = r.get 82 := rfl
@[go_sem] theorem T.s166 (l : T) (v : V) (r : T) (x : V) : (T.node l v r).set 166 x = .node l v (r.set 82 x) := rfl
@[go_sem] theorem T.g167 (l : T) (v : V) (r : T) : (T.node l v r).get 167 = l.get 83 := rfl
@[go_sem] theorem T.s167 (l : T) (v : V) (r : T) (x : V) : (T.node l v r).set 167 x = .node (l.set 83 x) v r := rfl
@[go_sem] theorem T.g168 (l : T) (v : V) (r : T) : (T.node l v r).get 168 = r.get 83 := rfl
@[go_sem] theorem T.s168 (l : T) (v : V) (r : T) (x : V) : (T.node l v r).set 168 x = .node l v (r.set 83 x) := rfl
@[go_sem] theorem T.g169 (l : T) (v : V) (r : T) : (T.node l v r).get 169 = l.get 84 := rfl
@[go_sem] theorem T.s169 (l : T) (v : V) (r : T) (x : V) : (T.node l v r).set 169 x = .node (l.set 84 x) v r := rfl
@[go_sem] theorem T.g170 (l : T) (v : V) (r : T) : (T.node l v r).get 170 = r.get 84 := rfl
@[go_sem] theorem T.s170 (l : T) (v : V) (r : T) (x : V) : (T.node l v r).set 170 x = .node l v (r.set 84 x) := rfl
@[go_sem] theorem T.g171 (l : T) (v : V) (r : T) : (T.node l v r).get 171 = l.get 85 := rfl
@[go_sem] theorem T.s171 (l : T) (v : V) (r : T) (x : V) : (T.node l v r).set 171 x = .node (l.set 85 x) v r := rfl
@[go_sem] theorem T.g172 (l : T) (v : V) (r : T) : (T.node l v r).get 172 = r.get 85 := rfl
@[go_sem] theorem T.s172 (l : T) (v : V) (r : T) (x : V) : (T.node l v r).set 172 x = .node l v (r.set 85 x) := rfl
@[go_sem] theorem T.g173 (l : T) (v : V) (r : T) : (T.node l v r).get 173 = l.get 86 := rfl
@[go_sem] theorem T.s173 (l : T) (v : V) (r : T) (x : V) : (T.node l v r).set 173 x = .node (l.set 86 x) v r := rfl
@[go_sem] theorem T.g174 (l : T) (v : V) (r : T) : (T.node l v r).get 174 = r.get 86 := rfl
@[go_sem] theorem T.s174 (l : T) (v : V) (r : T) (x : V) : (T.node l v r).set 174 x = .node l v (r.set 86 x) := rfl
@[go_sem] theorem T.g175 (l : T) (v : V) (r : T) : (T.node l v r).get 175 = l.get 87 := rfl
@[go_sem] theorem T.s175 (l : T) (v : V) (r : T) (x : V) : (T.node l v r).set 175 x = .node (l.set 87 x) v r := rfl
@[go_sem] theorem T.g176 (l : T) (v : V) (r : T) : (T.node l v r).get 176 = r.get 87 := rfl
@[go_sem] theorem T.s176 (l : T) (v : V) (r : T) (x : V) : (T.node l v r).set 176 x = .node l v (r.set 87 x) := rfl
@[go_sem] theorem T.g177 (l : T) (v : V) (r : T) : (T.node l v r).get 177 = l.get 88 := rfl
@[go_sem] theorem T.s177 (l : T) (v : V) (r : T) (x : V) : (T.node l v r).set 177 x = .node (l.set 88 x) v r := rfl
@[go_sem] theorem T.g178 (l : T) (v : V) (r : T) : (T.node l v r).get 178 = r.get 88 := rfl
@[go_sem] theorem T.s178 (l : T) (v : V) (r : T) (x : V) : (T.node l v r).set 178 x = .node l v (r.set 88 x) := rfl
@[go_sem] theorem T.g179 (l : T) (v : V) (r : T) : (T.node l v r).get 179 = l.get 89 := rfl
@[go_sem] theorem T.s179 (l : T) (v : V) (r : T) (x : V) : (T.node l v r).set 179 x = .node (l.set 89 x) v r := rfl
@[go_sem] theorem T.g180 (l : T) (v : V) (r : T) : (T.node l v r).get 180 = r.get 89 := rfl
@[go_sem] theorem T.s180 (l : T) (v : V) (r : T) (x : V) : (T.node l v r).set 180 x = .node l v (r.set 89 x) := rfl
@[go_sem] theorem T.g181 (l : T) (v : V) (r : T) : (T.node l v r).get 181 = l.get 90 := rfl
@[go_sem] theorem T.s181 (l : T) (v : V) (r : T) (x : V) : (T.node l v r).set 181 x = .node (l.set 90 x) v r := rfl
@[go_sem] theorem T.g182 (l : T) (v : V) (r : T) : (T.node l v r).get 182 = r.get 90 := rfl
@[go_sem] theorem T.s182 (l : T) (v : V) (r : T) (x : V) : (T.node l v r).set 182 x = .node l v (r.set 90 x) := rfl
@[go_sem] theorem T.g183 (l : T) (v : V) (r : T) : (T.node l v r).get 183 = l.get 91 := rfl
@[go_sem] theorem T.s183 (l : T) (v : V) (r : T) (x : V) : (T.node l v r).set 183 x = .node (l.set 91 x) v r := rfl
@[go_sem] theorem T.g184 (l : T) (v : V) (r : T) : (T.node l v r).get 184 = r.get 91 := rfl
@[go_sem] theorem T.s184 (l : T) (v : V) (r : T) (x : V) : (T.node l v r).set 184 x = .node l v (r.set 91 x) := rfl
@[go_sem] theorem T.g185 (l : T) (v : V) (r : T) : (T.node l v r).get 185 = l.get 92 := rfl
@[go_sem] theorem T.s185 (l : T) (v : V) (r : T) (x : V) : (T.node l v r).set 185 x = .node (l.set 92 x) v r := rfl
@[go_sem] theorem T.g186 (l : T) (v : V) (r : T) : (T.node l v r).get 186 = r.get 92 := rfl
@[go_sem] theorem T.s186 (l : T) (v : V) (r : T) (x : V) : (T.node l v r).set 186 x = .node l v (r.set 92 x) := rfl
@[go_sem] theorem T.g187 (l : T) (v : V) (r : T) : (T.node l v r).get 187 = l.get 93 := rfl
@[go_sem] theorem T.s187 (l : T) (v : V) (r : T) (x : V) : (T.node l v r).set 187 x = .node (l.set 93 x) v r := rfl
@[go_sem] theorem T.g188 (l : T) (v : V) (r : T) : (T.node l v r).get 188 = r.get 93 := rfl
@[go_sem] theorem T.s188 (l : T) (v : V) (r : T) (x : V) : (T.node l v r).set 188 x = .node l v (r.set 93 x) := rfl
@[go_sem] theorem T.g189 (l : T) (v : V) (r : T) : (T.node l v r).get 189 = l.get 94 := rfl
@[go_sem] theorem T.s189 (l : T) (v : V) (r : T) (x : V) : (T.node l v r).set 189 x = .node (l.set 94 x) v r := rfl
@[go_sem] theorem T.g190 (l : T) (v : V) (r : T) : (T.node l v r).get 190 = r.get 94 := rfl
@[go_sem] theorem T.s190 (l : T) (v : V) (r : T) (x : V) : (T.node l v r).set 190 x = .node l v (r.set 94 x) := rfl
@[go_sem] theorem T.g191 (l : T) (v : V) (r : T) : (T.node l v r).get 191 = l.get 95 := rfl
@[go_sem] theorem T.s191 (l : T) (v : V) (r : T) (x : V) : (T.node l v r).set 191 x = .node (l.set 95 x) v r := rfl
@[go_sem] theorem T.g192 (l : T) (v : V) (r : T) : (T.node l v r).get 192 = r.get 95 := rfl
@[go_sem] theorem T.s192 (l : T) (v : V) (r : T) (x : V) : (T.node l v r).set 192 x = .node l v (r.set 95 x) := rfl
@[go_sem] theorem T.g193 (l : T) (v : V) (r : T) : (T.node l v r).get 193 = l.get 96 := rfl
@[go_sem] theorem T.s193 (l : T) (v : V) (r : T) (x : V) : (T.node l v r).set 193 x = .node (l.set 96 x) v r := rfl
@[go_sem] theorem T.g194 (l : T) (v : V) (r : T) : (T.node l v r).get 194 = r.get 96 := rfl
@[go_sem] theorem T.s194 (l : T) (v : V) (r : T) (x : V) : (T.node l v r).set 194 x = .node l v (r.set 96 x) := rfl
@[go_sem] theorem T.g195 (l : T) (v : V) (r : T) : (T.node l v r).get 195 = l.get 97 := rfl
@[go_sem] theorem T.s195 (l : T) (v : V) (r : T) (x : V) : (T.node l v r).set 195 x = .node (l.set 97 x) v r := rfl
@[go_sem] theorem T.g196 (l : T) (v : V) (r : T) : (T.node l v r).get 196 = r.get 97 := rfl
@[go_sem] theorem T.s196 (l : T) (v : V) (r : T) (x : V) : (T.node l v r).set 196 x = .node l v (r.set 97 x) := rfl
@[go_sem] theorem T.g197 (l : T) (v : V) (r : T) : (T.node l v r).get 197 = l.get 98 := rfl
@[go_sem] theorem T.s197 (l : T) (v : V) (r : T) (x : V) : (T.node l v r).set 197 x = .node (l.set 98 x) v r := rfl
@[go_sem] theorem T.g198 (l : T) (v : V) (r : T) : (T.node l v r).get 198 = r.get 98 := rfl
@[go_sem] theorem T.s198 (l : T) (v : V) (r : T) (x : V) : (T.node l v r).set 198 x = .node l v (r.set 98 x) := rfl
@[go_sem] theorem T.g199 (l : T) (v : V) (r : T) : (T.node l v r).get 199 = l.get 99 := rfl
@[go_sem] theorem T.s199 (l : T) (v : V) (r : T) (x : V) : (T.node l v r).set 199 x = .node (l.set 99 x) v r := rfl
@[go_sem] theorem T.g200 (l : T) (v : V) (r : T) : (T.node l v r).get 200 = r.get 99 := rfl
@[go_sem] theorem T.s200 (l : T) (v : V) (r : T) (x : V) : (T.node l v r).set 200 x = .node l v (r.set 99 x) := rfl
@[go_sem] theorem T.g201 (l : T) (v : V) (r : T) : (T.node l v r).get 201 = l.get 100 := rfl
@[go_sem] theorem T.s201 (l : T) (v : V) (r : T) (x : V) : (T.node l v r).set 201 x = .node (l.set 100 x) v r := rfl
@[go_sem] theorem T.g202 (l : T) (v : V) (r : T) : (T.node l v r).get 202 = r.get 100 := rfl
@[go_sem] theorem T.s202 (l : T) (v : V) (r : T) (x : V) : (T.node l v r).set 202 x = .node l v (r.set 100 x) := rfl
@[go_sem] theorem T.g203 (l : T) (v : V) (r : T) : (T.node l v r).get 203 = l.get 101 := rfl
@[go_sem] theorem T.s203 (l : T) (v : V) (r : T) (x : V) : (T.node l v r).set 203 x = .node (l.set 101 x) v r := rfl
@[go_sem] theorem T.g204 (l : T) (v : V) (r : T) : (T.node l v r).get 204 = r.get 101 := rfl
@[go_sem] theorem T.s204 (l : T) (v : V) (r : T) (x : V) : (T.node l v r).set 204 x = .node l v (r.set 101 x) := rfl
@[go_sem] theorem T.g205 (l : T) (v : V) (r : T) : (T.node l v r).get 205 = l.get 102 := rfl
@[go_sem] theorem T.s205 (l : T) (v : V) (r : T) (x : V) : (T.node l v r).set 205 x = .node (l.set 102 x) v r := rfl
@[go_sem] theorem T.g206 (l : T) (v : V) (r : T) : (T.node l v r).get 206 = r.get 102 := rfl
@[go_sem] theorem T.s206 (l : T) (v : V) (r : T) (x : V) : (T.node l v r).set 206 x = .node l v (r.set 102 x) := rfl
@[go_sem] theorem T.g207 (l : T) (v : V) (r : T) : (T.node l v r).get 207 = l.get 103 := rfl
@[go_sem] theorem T.s207 (l : T) (v : V) (r : T) (x : V) : (T.node l v r).set 207 x = .node (l.set 103 x) v r := rfl
@[go_sem] theorem T.g208 (l : T) (v : V) (r : T) : (T.node l v r).get 208 = r.get 103 := rfl
@[go_sem] theorem T.s208 (l : T) (v : V) (r : T) (x : V) : (T.node l v r).set 208 x = .node l v (r.set 103 x) := rfl
@[go_sem] theorem T.g209 (l : T) (v : V) (r : T) : (T.node l v r).get 209 = l.get 104 := rfl
@[go_sem] theorem T.s209 (l : T) (v : V) (r : T) (x : V) : (T.node l v r).set 209 x = .node (l.set 104 x) v r := rfl
@[go_sem] theorem T.g210 (l : T) (v : V) (r : T) : (T.node l v r).get 210 = r.get 104 := rfl
@[go_sem] theorem T.s210 (l : T) (v : V) (r : T) (x : V) : (T.node l v r).set 210 x = .node l v (r.set 104 x) := rfl
@[go_sem] theorem T.g211 (l : T) (v : V) (r : T) : (T.node l v r).get 211 = l.get 105 := rfl
@[go_sem] theorem T.s211 (l : T) (v : V) (r : T) (x : V) : (T.node l v r).set 211 x = .node (l.set 105 x) v r := rfl
@[go_sem] theorem T.g212 (l : T) (v : V) (r : T) : (T.node l v r).get 212 = r.get 105 := rfl
@[go_sem] theorem T.s212 (l : T) (v : V) (r : T) (x : V) : (T.node l v r).set 212 x = .node l v (r.set 105 x) := rfl
@[go_sem] theorem T.g213 (l : T) (v : V) (r : T) : (T.node l v r).get 213 = l.get 106 := rfl
@[go_sem] theorem T.s213 (l : T) (v : V) (r : T) (x : V) : (T.node l v r).set 213 x = .node (l.set 106 x) v r := rfl
@[go_sem] theorem T.g214 (l : T) (v : V) (r : T) : (T.node l v r).get 214 = r.get 106 := rfl
@[go_sem] theorem T.s214 (l : T) (v : V) (r : T) (x : V) : (T.node l v r).set 214 x = .node l v (r.set 106 x) := rfl
@[go_sem] theorem T.g215 (l : T) (v : V) (r : T) : (T.node l v r).get 215 = l.get 107 := rfl
@[go_sem] theorem T.s215 (l : T) (v : V) (r : T) (x : V) : (T.node l v r).set 215 x = .node (l.set 107 x) v r := rfl
@[go_sem] theorem T.g216 (l : T) (v : V) (r : T) : (T.node l v r).get 216 = r.get 107 := rfl
@[go_sem] theorem T.s216 (l : T) (v : V) (r : T) (x : V) : (T.node l v r).set 216 x = .node l v (r.set 107 x) := rfl
@[go_sem] theorem T.g217 (l : T) (v : V) (r : T) : (T.node l v r).get 217 = l.get 108 := rfl
@[go_sem] theorem T.s217 (l : T) (v : V) (r : T) (x : V) : (T.node l v r).set 217 x = .node (l.set 108 x) v r := rfl
@[go_sem] theorem T.g218 (l : T) (v : V) (r : T) : (T.node l v r).get 218 = r.get 108 := rfl
@[go_sem] theorem T.s218 (l : T) (v : V) (r : T) (x : V) : (T.node l v r).set 218 x = .node l v (r.set 108 x) := rfl
@[go_sem] theorem T.g219 (l : T) (v : V) (r : T) : (T.node l v r).get 219 = l.get 109 := rfl
@[go_sem] theorem T.s219 (l : T) (v : V) (r : T) (x : V) : (T.node l v r).set 219 x = .node (l.set 109 x) v r := rfl
@[go_sem] theorem T.g220 (l : T) (v : V) (r : T) : (T.node l v r).get 220 = r.get 109 := rfl
@[go_sem] theorem T.s220 (l : T) (v : V) (r : T) (x : V) : (T.node l v r).set 220 x = .node l v (r.set 109 x) := rfl
@[go_sem] theorem T.g221 (l : T) (v : V) (r : T) : (T.node l v r).get 221 = l.get 110 := rfl
@[go_sem] theorem T.s221 (l : T) (v : V) (r : T) (x : V) : (T.node l v r).set 221 x = .node (l.set 110 x) v r := rfl
@[go_sem] theorem T.g222 (l : T) (v : V) (r : T) : (T.node l v r).get 222 = r.get 110 := rfl
@[go_sem] theorem T.s222 (l : T) (v : V) (r : T) (x : V) : (T.node l v r).set 222 x = .node l v (r.set 110 x) := rfl
@[go_sem] theorem T.g223 (l : T) (v : V) (r : T) : (T.node l v r).get 223 = l.get 111 := rfl
@[go_sem] theorem T.s223 (l : T) (v : V) (r : T) (x : V) : (T.node l v r).set 223 x = .node (l.set 111 x) v r := rfl
@[go_sem] theorem T.g224 (l : T) (v : V) (r : T) : (T.node l v r).get 224 = r.get 111 := rfl
@[go_sem] theorem T.s224 (l : T) (v : V) (r : T) (x : V) : (T.node l v r).set 224 x = .node l v (r.set 111 x) := rfl
@[go_sem] theorem T.g225 (l : T) (v : V) (r : T) : (T.node l v r).get 225 = l.get 112 := rfl
@[go_sem] theorem T.s225 (l : T) (v : V) (r : T) (x : V) : (T.node l v r).set 225 x = .node (l.set 112 x) v r := rfl
@[go_sem] theorem T.g226 (l : T) (v : V) (r : T) : (T.node l v r).get 226 = r.get 112 := rfl
@[go_sem] theorem T.s226 (l : T) (v : V) (r : T) (x : V) : (T.node l v r).set 226 x = .node l v (r.set 112 x) := rfl
@[go_sem] theorem T.g227 (l : T) (v : V) (r : T) : (T.node l v r).get 227 = l.get 113 := rfl
@[go_sem] theorem T.s227 (l : T) (v : V) (r : T) (x : V) : (T.node l v r).set 227 x = .node (l.set 113 x) v r := rfl
@[go_sem] theorem T.g228 (l : T) (v : V) (r : T) : (T.node l v r).get 228 = r.get 113 := rfl
@[go_sem] theorem T.s228 (l : T) (v : V) (r : T) (x : V) : (T.node l v r).set 228 x = .node l v (r.set 113 x) := rfl
@[go_sem] theorem T.g229 (l : T) (v : V) (r : T) : (T.node l v r).get 229 = l.get 114 := rfl
@[go_sem] theorem T.s229 (l : T) (v : V) (r : T) (x : V) : (T.node l v r).set 229 x = .node (l.set 114 x) v r := rfl
@[go_sem] theorem T.g230 (l : T) (v : V) (r : T) : (T.node l v r).get 230 = r.get 114 := rfl
@[go_sem] theorem T.s230 (l : T) (v : V) (r : T) (x : V) : (T.node l v r).set 230 x = .node l v (r.set 114 x) := rfl
@[go_sem] theorem T.g231 (l : T) (v : V) (r : T) : (T.node l v r).get 231 = l.get 115 := rfl
@[go_sem] theorem T.s231 (l : T) (v : V) (r : T) (x : V) : (T.node l v r).set 231 x = .node (l.set 115 x) v r := rfl
@[go_sem] theorem T.g232 (l : T) (v : V) (r : T) : (T.node l v r).get 232 = r.get 115 := rfl
@[go_sem] theorem T.s232 (l : T) (v : V) (r : T) (x : V) : (T.node l v r).set 232 x = .node l v (r.set 115 x) := rfl
@[go_sem] theorem T.g233 (l : T) (v : V) (r : T) : (T.node l v r).get 233 = l.get 116 := rfl
@[go_sem] theorem T.s233 (l : T) (v : V) (r : T) (x : V) : (T.node l v r).set 233 x = .node (l.set 116 x) v r := rfl
@[go_sem] theorem T.g234 (l : T) (v : V) (r : T) : (T.node l v r).get 234 = r.get 116 := rfl
@[go_sem] theorem T.s234 (l : T) (v : V) (r : T) (x : V) : (T.node l v r).set 234 x = .node l v (r.set 116 x) := rfl
@[go_sem] theorem T.g235 (l : T) (v : V) (r : T) : (T.node l v r).get 235 = l.get 117 := rfl
@[go_sem] theorem T.s235 (l : T) (v : V) (r : T) (x : V) : (T.node l v r).set 235 x = .node (l.set 117 x) v r := rfl
@[go_sem] theorem T.g236 (l : T) (v : V) (r : T) : (T.node l v r).get 236 = r.get 117 := rfl
@[go_sem] theorem T.s236 (l : T) (v : V) (r : T) (x : V) : (T.node l v r).set 236 x = .node l v (r.set 117 x) := rfl
@[go_sem] theorem T.g237 (l : T) (v : V) (r : T) : (T.node l v r).get 237 = l.get 118 := rfl
@[go_sem] theorem T.s237 (l : T) (v : V) (r : T) (x : V) : (T.node l v r).set 237 x = .node (l.set 118 x) v r := rfl
@[go_sem] theorem T.g238 (l : T) (v : V) (r : T) : (T.node l v r).get 238 = r.get 118 := rfl
@[go_sem] theorem T.s238 (l : T) (v : V) (r : T) (x : V) : (T.node l v r).set 238 x = .node l v (r.set 118 x) := rfl
@[go_sem] theorem T.g239 (l : T) (v : V) (r : T) : (T.node l v r).get 239 = l.get 119 := rfl
@[go_sem] theorem T.s239 (l : T) (v : V) (r : T) (x : V) : (T.node l v r).set 239 x = .node (l.set 119 x) v r := rfl
@[go_sem] theorem T.g240 (l : T) (v : V) (r : T) : (T.node l v r).get 240 = r.get 119 := rfl
@[go_sem] theorem T.s240 (l : T) (v : V) (r : T) (x : V) : (T.node l v r).set 240 x = .node l v (r.set 119 x) := rfl
@[go_sem] theorem T.g241 (l : T) (v : V) (r : T) : (T.node l v r).get 241 = l.get 120 := rfl
@[go_sem] theorem T.s241 (l : T) (v : V) (r : T) (x : V) : (T.node l v r).set 241 x = .node (l.set 120 x) v r := rfl
@[go_sem] theorem T.g242 (l : T) (v : V) (r : T) : (T.node l v r).get 242 = r.get 120 := rfl
@[go_sem] theorem T.s242 (l : T) (v : V) (r : T) (x : V) : (T.node l v r).set 242 x = .node l v (r.set 120 x) := rfl
@[go_sem] theorem T.g243 (l : T) (v : V) (r : T) : (T.node l v r).get 243 = l.get 121 := rfl
@[go_sem] theorem T.s243 (l : T) (v : V) (r : T) (x : V) : (T.node l v r).set 243 x = .node (l.set 121 x) v r := rfl
@[go_sem] theorem T.g244 (l : T) (v : V) (r : T) : (T.node l v r).get 244 = r.get 121 := rfl
@[go_sem] theorem T.s244 (l : T) (v : V) (r : T) (x : V) : (T.node l v r).set 244 x = .node l v (r.set 121 x) := rfl
@[go_sem] theorem T.g245 (l : T) (v : V) (r : T) : (T.node l v r).get 245 = l.get 122 := rfl
@[go_sem] theorem T.s245 (l : T) (v : V) (r : T) (x : V) : (T.node l v r).set 245 x = .node (l.set 122 x) v r := rfl
@[go_sem] theorem T.g246 (l : T) (v : V) (r : T) : (T.node l v r).get 246 = r.get 122 := rfl
@[go_sem] theorem T.s246 (l : T) (v : V) (r : T) (x : V) : (T.node l v r).set 246 x = .node l v (r.set 122 x) := rfl
@[go_sem] theorem T.g247 (l : T) (v : V) (r : T) : (T.node l v r).get 247 = l.get 123 := rfl
@[go_sem] theorem T.s247 (l : T) (v : V) (r : T) (x : V) : (T.node l v r).set 247 x = .node (l.set 123 x) v r := rfl
@[go_sem] theorem T.g248 (l : T) (v : V) (r : T) : (T.node l v r).get 248 = r.get 123 := rfl
@[go_sem] theorem T.s248 (l : T) (v : V) (r : T) (x : V) : (T.node l v r).set 248 x = .node l v (r.set 123 x) := rfl
@[go_sem] theorem T.g249 (l : T) (v : V) (r : T) : (T.node l v r).get 249 = l.get 124 := rfl
@[go_sem] theorem T.s249 (l : T) (v : V) (r : T) (x : V) : (T.node l v r).set 249 x = .node (l.set 124 x) v r := rfl
@[go_sem] theorem T.g250 (l : T) (v : V) (r : T) : (T.node l v r).get 250 = r.get 124 := rfl
@[go_sem] theorem T.s250 (l : T) (v : V) (r : T) (x : V) : (T.node l v r).set 250 x = .node l v (r.set 124 x) := rfl
@[go_sem] theorem T.g251 (l : T) (v : V) (r : T) : (T.node l v r).get 251 = l.get 125 := rfl
@[go_sem] theorem T.s251 (l : T) (v : V) (r : T) (x : V) : (T.node l v r).set 251 x = .node (l.set 125 x) v r := rfl
@[go_sem] theorem T.g252 (l : T) (v : V) (r : T) : (T.node l v r).get 252 = r.get 125 := rfl
@[go_sem] theorem T.s252 (l : T) (v : V) (r : T) (x : V) : (T.node l v r).set 252 x = .node l v (r.set 125 x) := rfl
@[go_sem] theorem T.g253 (l : T) (v : V) (r : T) : (T.node l v r).get 253 = l.get 126 := rfl
@[go_sem] theorem T.s253 (l : T) (v : V) (r : T) (x : V) : (T.node l v r).set 253 x = .node (l.set 126 x) v r := rfl
@[go_sem] theorem T.g254 (l : T) (v : V) (r : T) : (T.node l v r).get 254 = r.get 126 := rfl
@[go_sem] theorem T.s254 (l : T) (v : V) (r : T) (x : V) : (T.node l v r).set 254 x = .node l v (r.set 126 x) := rfl
@[go_sem] theorem T.g255 (l : T) (v : V) (r : T) : (T.node l v r).get 255 = l.get 127 := rfl
@[go_sem] theorem T.s255 (l : T) (v : V) (r : T) (x : V) : (T.node l v r).set 255 x = .node (l.set 127 x) v r := rfl
end
end Ai

namespace Ai
open Go
def Om (d i : Nat) : AOper := ⟨some d, .mov (.t i), none⟩
def On (d : Nat) (n : Int) : AOper := ⟨some d, .mov (.k (.i .i64 n)), none⟩
def Ox (d : Nat) (v : V) : AOper := ⟨some d, .mov (.k v), none⟩
def Ol (d n i : Nat) : AOper := ⟨some d, .load false n (.t i), none⟩
def Oa (d n i : Nat) : AOper := ⟨some d, .load true n (.t i), none⟩
def Of (d o i : Nat) : AOper := ⟨some d, .faddr o (.t i), none⟩
def Oh (d i : Nat) : AOper := ⟨some d, .nilck (.t i), none⟩
def O5 (n a x : Nat) : AOper := ⟨none, .store n (.t a) (.t x), none⟩
def Oe (d i k : Nat) : AOper := ⟨some d, .ext (.t i) k, none⟩
def Oi (d s x i : Nat) : AOper := ⟨some d, .iaddr (.slice s) (.t x) (.t i), none⟩
def Oj (d a b : Nat) : AOper := ⟨some d, .pick (.t a) (.t b) (.k (.b false)), none⟩
def Oo (d a b : Nat) : AOper := ⟨some d, .pick (.t a) (.k (.b true)) (.t b), none⟩
def Ob (d : Nat) (o : BinOp) (x y : Nat) : AOper := ⟨some d, .bin o (.t x) (.t y), none⟩
def Oz (d : Nat) (o : BinOp) (x : Nat) (n : Int) : AOper := ⟨some d, .bin o (.t x) (.k (.i .i64 n)), none⟩
def Oc0 (d : Nat) (p : Bool) (g : Nat) : AOper := ⟨some d, .call p g [], none⟩
def Oc (d : Nat) (p : Bool) (g a : Nat) : AOper := ⟨some d, .call p g [.t a], none⟩
def Oc2 (d : Nat) (p : Bool) (g a b : Nat) : AOper := ⟨some d, .call p g [.t a, .t b], none⟩
def Oc3 (d : Nat) (p : Bool) (g a b c : Nat) : AOper := ⟨some d, .call p g [.t a, .t b, .t c], none⟩
def Ow (d x : Nat) : AOper := ⟨some d, .len .slice (.t x), none⟩
def Owt (d x : Nat) : AOper := ⟨some d, .len .str (.t x), none⟩
def Ou (d x : Nat) : AOper := ⟨some d, .un .not (.t x), none⟩
def Ov (d : Nat) (k : IntKind) (x : Nat) : AOper := ⟨some d, .conv (.int k) (.t x), none⟩
def Oy (d ty n x y : Nat) : AOper := ⟨some d, .app ty n (.t x) (.t y), none⟩
def Og (d a b i : Nat) : AOper := ⟨some d, .fld false a b (.t i), none⟩
def Oq (d : Nat) (o : AOp) : AOper := ⟨some d, o, none⟩
def O6 (o : AOp) : AOper := ⟨none, o, none⟩
def Gf : AOper → Nat → AOper | ⟨d, o, _⟩, t => ⟨d, o, some (t, false)⟩
def Gt : AOper → Nat → AOper | ⟨d, o, _⟩, t => ⟨d, o, some (t, true)⟩
def Sr (l : List AOper) (b : AC) : AC := .seq (.reg l) b
def E1 : T := .node .leaf .any .leaf
def E2 : T := .node E1 .any E1
def E3 : T := .node E2 .any E2
def E4 : T := .node E3 .any E3
def E5 : T := .node E4 .any E4
def E6 : T := .node E5 .any E5
def E7 : T := .node E6 .any E6
attribute [go_sem] Om On Ox Ol Oa Of Oh O5 Oe Oi Oj Oo Ob Oz Oc0 Oc Oc2 Oc3 Ow Owt Ou Ov Oy Og Oq O6 Gf Gt Sr E1 E2 E3 E4 E5 E6 E7
attribute [go_sem] ne_eq not_false_eq_true List.take_succ_cons List.take_zero List.drop_succ_cons List.cons_append
end Ai
