/- The machine, with calls that write to the shared memory. The machine with calls that write: what simp is told. Printed by mkhz.py. Stages: pieces of a function's code, walked one by one, with whatever temporaries. A strings.Builder in the shared memory. -/
import Derived.Test.YtopbdgdfnmlldaaGreatDoorAi10
import Derived.Test.YtopbdgdfnmlldaaGreatDoorAi11
namespace Ai.Hp
open Go Ai

section
variable (xf : FuncId → List V → Option V) (xh : FuncId → List V → H → Option (V × H))

/-- One operation, a pure call too. -/
def stepK (st : St) (d : Nat) (o : AOp) : Option (V × St) :=
  match o with
  | .call true g args => (xf g (evL st args)).map (·, st)
  | .callv true x args => (match st.ev x with
    | .fn f first cap => (xf f (first ++ evL st args ++ cap)).map (·, st)
    | _ => none)
  | .call false g args => (xh g (evL st args) st.h).map fun p => (p.1, { st with h := p.2 })
  | .callv false x args => (match st.ev x with
    | .fn f first cap => (xh f (first ++ evL st args ++ cap) st.h).map fun p => (p.1, { st with h := p.2 })
    | _ => none)
  | o => step st d o

variable (kz : Nat → List Nat)

/-- Runs by steps; at each beginning of a loop's round the temporaries that kz names are forgotten. -/
def runK : Nat → Tsk → List Fr → St → Option (AEx × St)
  | 0, _, _, _ => none
  | f + 1, .ops l, k, st => match l with
    | [] => runK f (.ex .norm) k st
    | o :: r => match wanted st o with
      | none => none
      | some false => runK f (.ops r) k (st.put o.dst (.tup []))
      | some true => match stepK xf xh st (o.dst.getD 0) o.op with
        | some (v, st') => runK f (.ops r) k (st'.put o.dst v)
        | none => none
  | f + 1, .code c, k, st => match c with
    | .skip => runK f (.ex .norm) k st
    | .ret => runK f (.ex .ret) k st
    | .exit i => runK f (.ex (.exit i)) k st
    | .reg l => runK f (.ops l) k st
    | .seq a b => runK f (.code a) (.seq b :: k) st
    | .cond c a b => match st.ev c with
      | .b x => bif x then runK f (.code a) k st else runK f (.code b) k st
      | _ => none
    | .blk id c => runK f (.code c) (.blk id :: k) st
    | .loop c => runK f (.code c) (.loop c :: k) { st with T := st.T.kill (kz k.length) }
    | .regd _ => none
    | .rfun _ => none
    | .refuse => none
  | f + 1, .ex e, k, st => match k with
    | [] => some (e, st)
    | .seq b :: k => match e with
      | .norm => runK f (.code b) k st
      | e => runK f (.ex e) k st
    | .blk id :: k => match e with
      | .exit j => bif Nat.beq j id then runK f (.ex .norm) k st else runK f (.ex (.exit j)) k st
      | e => runK f (.ex e) k st
    | .loop c :: k => match e with
      | .norm => runK f (.code (.loop c)) k st
      | e => runK f (.ex e) k st

def M (t : Tsk) (k : List Fr) (st : St) (Q : AEx → St → Prop) : Prop := ∃ f ex st', runK xf xh kz f t k st = some (ex, st') ∧ Q ex st'

/-- Behind an operation. -/
def C (d : Option Nat) (r : List AOper) (k : List Fr) (Q : AEx → St → Prop) : Option (V × St) → Prop
  | some (v, st') => M xf xh kz (.ops r) k (st'.put d v) Q
  | none => False

/-- Behind a guard. -/
def G (d : Option Nat) (op : AOp) (r : List AOper) (k : List Fr) (st : St) (Q : AEx → St → Prop) (w : Bool) : V → Prop
  | .b x => bif x == w then M xf xh kz (.ops (⟨d, op, none⟩ :: r)) k st Q else M xf xh kz (.ops r) k (st.put d (.tup [])) Q
  | .tup [] => M xf xh kz (.ops r) k (st.put d (.tup [])) Q
  | _ => False

/-- Behind a test. -/
def B (a b : AC) (k : List Fr) (st : St) (Q : AEx → St → Prop) : V → Prop
  | .b x => bif x then M xf xh kz (.code a) k st Q else M xf xh kz (.code b) k st Q
  | _ => False

def X (j id : Nat) (k : List Fr) (st : St) (Q : AEx → St → Prop) : Prop := bif Nat.beq j id then M xf xh kz (.ex .norm) k st Q else M xf xh kz (.ex (.exit j)) k st Q
end

section
variable {xf : FuncId → List V → Option V} {xh : FuncId → List V → H → Option (V × H)} {kz : Nat → List Nat}

theorem M_step {t t' : Tsk} {k k' : List Fr} {st st' : St} {Q : AEx → St → Prop} (h : ∀ f, runK xf xh kz (f + 1) t k st = runK xf xh kz f t' k' st') : M xf xh kz t k st Q = M xf xh kz t' k' st' Q := by
  apply propext
  constructor
  · rintro ⟨f, ex, s, e, q⟩
    cases f with
    | zero => simp [runK] at e
    | succ f => exact ⟨f, ex, s, by rw [← h]; exact e, q⟩
  · rintro ⟨f, ex, s, e, q⟩
    exact ⟨f + 1, ex, s, by rw [h]; exact e, q⟩

theorem M_stuck {t : Tsk} {k : List Fr} {st : St} {Q : AEx → St → Prop} (h : ∀ f, runK xf xh kz (f + 1) t k st = none) : M xf xh kz t k st Q = False := by
  apply propext
  refine ⟨?_, False.elim⟩
  rintro ⟨f, ex, s, e, q⟩
  cases f with
  | zero => simp [runK] at e
  | succ f => rw [h] at e; cases e

variable {k : List Fr} {st : St} {Q : AEx → St → Prop}

theorem M_nil : M xf xh kz (.ops []) k st Q = M xf xh kz (.ex .norm) k st Q := M_step fun _ => rfl
theorem M_op (d : Option Nat) (op : AOp) (r : List AOper) : M xf xh kz (.ops (⟨d, op, none⟩ :: r)) k st Q = C xf xh kz d r k Q (stepK xf xh st (d.getD 0) op) := by
  cases h : stepK xf xh st (d.getD 0) op with
  | none => exact M_stuck fun f => by simp only [runK, wanted, h]
  | some p => obtain ⟨v, st'⟩ := p; exact M_step fun f => by simp only [runK, wanted, h]
theorem C_some (d : Option Nat) (r : List AOper) (v : V) (st' : St) : C xf xh kz d r k Q (some (v, st')) = M xf xh kz (.ops r) k (st'.put d v) Q := rfl
theorem M_opg (d : Option Nat) (op : AOp) (t : Nat) (w : Bool) (r : List AOper) : M xf xh kz (.ops (⟨d, op, some (t, w)⟩ :: r)) k st Q = G xf xh kz d op r k st Q w (st.T.get t) := by
  cases h : st.T.get t with
  | b x =>
    cases hx : x == w with
    | true =>
      simp only [G, hx, cond_true]
      rw [M_op]
      cases h' : stepK xf xh st (d.getD 0) op with
      | none => exact M_stuck fun f => by simp only [runK, wanted, h, h', hx]
      | some p => obtain ⟨v, st'⟩ := p; exact M_step fun f => by simp only [runK, wanted, h, h', hx]
    | false =>
      simp only [G, hx, cond_false]
      exact M_step fun f => by simp only [runK, wanted, h, hx]
  | tup vs =>
    cases vs with
    | nil => exact M_step fun f => by simp only [runK, wanted, h]
    | cons a r => exact M_stuck fun f => by simp only [runK, wanted, h]
  | _ => exact M_stuck fun f => by simp only [runK, wanted, h]
theorem G_b (d : Option Nat) (op : AOp) (r : List AOper) (w x : Bool) : G xf xh kz d op r k st Q w (.b x) = bif x == w then M xf xh kz (.ops (⟨d, op, none⟩ :: r)) k st Q else M xf xh kz (.ops r) k (st.put d (.tup [])) Q := rfl
theorem M_skip : M xf xh kz (.code .skip) k st Q = M xf xh kz (.ex .norm) k st Q := M_step fun _ => rfl
theorem M_ret : M xf xh kz (.code .ret) k st Q = M xf xh kz (.ex .ret) k st Q := M_step fun _ => rfl
theorem M_exit (i : Nat) : M xf xh kz (.code (.exit i)) k st Q = M xf xh kz (.ex (.exit i)) k st Q := M_step fun _ => rfl
theorem M_reg (l : List AOper) : M xf xh kz (.code (.reg l)) k st Q = M xf xh kz (.ops l) k st Q := M_step fun _ => rfl
theorem M_seq (a b : AC) : M xf xh kz (.code (.seq a b)) k st Q = M xf xh kz (.code a) (.seq b :: k) st Q := M_step fun _ => rfl
theorem M_blk (id : Nat) (c : AC) : M xf xh kz (.code (.blk id c)) k st Q = M xf xh kz (.code c) (.blk id :: k) st Q := M_step fun _ => rfl
theorem M_loop (c : AC) : M xf xh kz (.code (.loop c)) k st Q = M xf xh kz (.code c) (.loop c :: k) { st with T := st.T.kill (kz k.length) } Q := M_step fun _ => rfl
theorem M_cond (c : Opd) (a b : AC) : M xf xh kz (.code (.cond c a b)) k st Q = B xf xh kz a b k st Q (st.ev c) := by
  cases h : st.ev c with
  | b x =>
    cases x with
    | true => exact M_step fun f => by simp only [runK, h, cond_true]
    | false => exact M_step fun f => by simp only [runK, h, cond_false]
  | _ => exact M_stuck fun f => by simp only [runK, h]
theorem B_true (a b : AC) : B xf xh kz a b k st Q (.b true) = M xf xh kz (.code a) k st Q := rfl
theorem B_false (a b : AC) : B xf xh kz a b k st Q (.b false) = M xf xh kz (.code b) k st Q := rfl
theorem B_split (a b : AC) (x : Bool) (h1 : x = true → B xf xh kz a b k st Q (.b true)) (h2 : x = false → B xf xh kz a b k st Q (.b false)) : B xf xh kz a b k st Q (.b x) := by
  cases x with
  | true => exact h1 rfl
  | false => exact h2 rfl
theorem M_done (e : AEx) : M xf xh kz (.ex e) [] st Q = Q e st := by
  apply propext
  constructor
  · rintro ⟨f, ex, s, e, q⟩
    cases f with
    | zero => simp [runK] at e
    | succ f =>
      simp only [runK, Option.some.injEq, Prod.mk.injEq] at e
      obtain ⟨rfl, rfl⟩ := e
      exact q
  · intro q
    exact ⟨1, e, st, rfl, q⟩
theorem M_ns (b : AC) : M xf xh kz (.ex .norm) (.seq b :: k) st Q = M xf xh kz (.code b) k st Q := M_step fun _ => rfl
theorem M_rs (b : AC) : M xf xh kz (.ex .ret) (.seq b :: k) st Q = M xf xh kz (.ex .ret) k st Q := M_step fun _ => rfl
theorem M_es (j : Nat) (b : AC) : M xf xh kz (.ex (.exit j)) (.seq b :: k) st Q = M xf xh kz (.ex (.exit j)) k st Q := M_step fun _ => rfl
theorem M_nb (id : Nat) : M xf xh kz (.ex .norm) (.blk id :: k) st Q = M xf xh kz (.ex .norm) k st Q := M_step fun _ => rfl
theorem M_rb (id : Nat) : M xf xh kz (.ex .ret) (.blk id :: k) st Q = M xf xh kz (.ex .ret) k st Q := M_step fun _ => rfl
theorem M_eb (j id : Nat) : M xf xh kz (.ex (.exit j)) (.blk id :: k) st Q = X xf xh kz j id k st Q := by
  unfold X
  cases h : Nat.beq j id with
  | true => exact M_step fun f => by simp only [runK, h, cond_true]
  | false => exact M_step fun f => by simp only [runK, h, cond_false]
theorem M_nl (c : AC) : M xf xh kz (.ex .norm) (.loop c :: k) st Q = M xf xh kz (.code (.loop c)) k st Q := M_step fun _ => rfl
theorem M_rl (c : AC) : M xf xh kz (.ex .ret) (.loop c :: k) st Q = M xf xh kz (.ex .ret) k st Q := M_step fun _ => rfl
theorem M_el (j : Nat) (c : AC) : M xf xh kz (.ex (.exit j)) (.loop c :: k) st Q = M xf xh kz (.ex (.exit j)) k st Q := M_step fun _ => rfl
theorem X_eq (j : Nat) : X xf xh kz j j k st Q = M xf xh kz (.ex .norm) k st Q := by simp [X]
theorem X_ne (j id : Nat) (h : j ≠ id) : X xf xh kz j id k st Q = M xf xh kz (.ex (.exit j)) k st Q := by
  unfold X
  rw [show Nat.beq j id = false from by cases hb : Nat.beq j id with | true => exact absurd (Nat.eq_of_beq_eq_true hb) h | false => rfl]; rfl

/-! ### It is what the relation says -/
variable {tab : FuncId → Option AFunc} {pr : Prims}

/-- An impure call with these arguments, in this memory, comes to this value and that memory. -/
def CompI (tab : FuncId → Option AFunc) (pr : Prims) (g : FuncId) (args : List V) (h : H) (v : V) (h' : H) : Prop := ∀ gl, pr.ok gl → Ev tab pr (.fn false g args h gl) (.val v h')

def TellsI (tab : FuncId → Option AFunc) (pr : Prims) (xh : FuncId → List V → H → Option (V × H)) : Prop := ∀ g args h v h', xh g args h = some (v, h') → CompI tab pr g args h v h'

theorem stepK_gl {st st' : St} {d : Nat} {op : AOp} {v : V} (h : stepK xf xh st d op = some (v, st')) : st'.gl = st.gl := by
  unfold stepK at h
  split at h
  · rw [map_st (f := id) h]
  · split at h
    · rw [map_st (f := id) h]
    · cases h
  · rename_i g args
    cases hx : xh g (evL st args) st.h with
    | none => rw [hx] at h; cases h
    | some p => rw [hx] at h; simp only [Option.map_some, Option.some.injEq, Prod.mk.injEq] at h; rw [← h.2]
  · split at h
    · rename_i f first cap _
      generalize xh f _ st.h = o at h
      cases o with
      | none => cases h
      | some p => simp only [Option.map_some, Option.some.injEq, Prod.mk.injEq] at h; rw [← h.2]
    · cases h
  · exact step_gl h

theorem runK_ev (hx : Tells tab pr xf) (hy : TellsI tab pr xh) : ∀ (n f : Nat) (_ : f ≤ n) (t : Tsk) (k : List Fr) (st : St) (ex : AEx) (st' : St), pr.ok st.gl → runK xf xh kz f t k st = some (ex, st') →
    ∃ ex1 st1 f1, pr.ok st1.gl ∧ f1 < f + (match t with | .ex _ => 1 | _ => 0) ∧ runK xf xh kz f1 (.ex ex1) k st1 = some (ex, st') ∧ (match t with | .ops l => Ev tab pr (.ops l st) (.fin ex1 st1) ∧ ex1 = .norm | .code c => Ev tab pr (.code c st) (.fin ex1 st1) | .ex e => ex1 = e ∧ st1 = st)
  | _, 0, _, _, _, _, _, _, _, h => by simp [runK] at h
  | 0, f + 1, hf, _, _, _, _, _, _, _ => by omega
  | n + 1, f + 1, hf, .ops l, k, st, ex, st', hok, h => by
    cases l with
    | nil =>
      simp only [runK] at h
      exact ⟨.norm, st, f, hok, by simp, h, .nil st, rfl⟩
    | cons o r =>
      simp only [runK] at h
      split at h
      · cases h
      · rename_i hw
        obtain ⟨ex1, st1, f1, hg1, hl, hr, he, hn⟩ := runK_ev hx hy n f (by omega) (.ops r) k _ ex st' (by rw [put_gl]; exact hok) h
        exact ⟨ex1, st1, f1, hg1, by simp only at hl ⊢; omega, hr, .pass hw he, hn⟩
      · rename_i hw
        split at h
        · rename_i v st2 hs
          obtain ⟨ex1, st1, f1, hg1, hl, hr, he, hn⟩ := runK_ev hx hy n f (by omega) (.ops r) k _ ex st' (by rw [put_gl, stepK_gl hs]; exact hok) h
          refine ⟨ex1, st1, f1, hg1, by simp only at hl ⊢; omega, hr, ?_, hn⟩
          unfold stepK at hs
          split at hs
          · rename_i g args ho
            cases hv : xf g (evL st args) with
            | none => rw [hv] at hs; cases hs
            | some w =>
              rw [hv] at hs
              simp only [Option.map_some, Option.some.injEq, Prod.mk.injEq] at hs
              obtain ⟨rfl, rfl⟩ := hs
              exact .call (p := true) (g := g) (args := evL st args) hw (by rw [ho]; rfl) (hx _ _ _ hv st.h st.gl hok) he
          · rename_i x args ho
            split at hs
            · rename_i g first cap hx'
              cases hv : xf g (first ++ evL st args ++ cap) with
              | none => rw [hv] at hs; cases hs
              | some w =>
                rw [hv] at hs
                simp only [Option.map_some, Option.some.injEq, Prod.mk.injEq] at hs
                obtain ⟨rfl, rfl⟩ := hs
                exact .call (p := true) (g := g) (args := first ++ evL st args ++ cap) hw (by rw [ho]; simp only [callee, hx']) (hx _ _ _ hv st.h st.gl hok) he
            · cases hs
          · rename_i g args ho
            cases hv : xh g (evL st args) st.h with
            | none => rw [hv] at hs; cases hs
            | some p =>
              obtain ⟨w, h2⟩ := p
              rw [hv] at hs
              simp only [Option.map_some, Option.some.injEq, Prod.mk.injEq] at hs
              obtain ⟨rfl, rfl⟩ := hs
              exact .call (p := false) (g := g) (args := evL st args) hw (by rw [ho]; rfl) (hy _ _ _ _ _ hv st.gl hok) he
          · rename_i x args ho
            split at hs
            · rename_i g first cap hx'
              cases hv : xh g (first ++ evL st args ++ cap) st.h with
              | none => rw [hv] at hs; cases hs
              | some p =>
                obtain ⟨w, h2⟩ := p
                rw [hv] at hs
                simp only [Option.map_some, Option.some.injEq, Prod.mk.injEq] at hs
                obtain ⟨rfl, rfl⟩ := hs
                exact .call (p := false) (g := g) (args := first ++ evL st args ++ cap) hw (by rw [ho]; simp only [callee, hx']) (hy _ _ _ _ _ hv st.gl hok) he
            · cases hs
          · rename_i h1 h2 h3 h4
            have hc : callee st o.op = none := by
              unfold callee
              split
              · rename_i p f args ho
                cases p with
                | true => exact absurd ho (h1 _ _)
                | false => exact absurd ho (h3 _ _)
              · rename_i p x args ho
                cases p with
                | true => exact absurd ho (h2 _ _)
                | false => exact absurd ho (h4 _ _)
              · rename_i p ms x args ho
                exfalso
                rw [ho] at hs
                simp [step] at hs
              · rfl
            exact .step hw hc hs he
        · cases h
  | n + 1, f + 1, hf, .code c, k, st, ex, st', hok, h => by
    cases c with
    | skip => exact ⟨.norm, st, f, hok, by simp, h, .skip st⟩
    | ret => exact ⟨.ret, st, f, hok, by simp, h, .ret st⟩
    | exit i => exact ⟨.exit i, st, f, hok, by simp, h, .exit i st⟩
    | reg l =>
      simp only [runK] at h
      obtain ⟨ex1, st1, f1, hg1, hl, hr, he, hn⟩ := runK_ev hx hy n f (by omega) (.ops l) k _ ex st' hok h
      subst hn
      exact ⟨_, st1, f1, hg1, by simp only at hl ⊢; omega, hr, .reg he⟩
    | seq a b =>
      simp only [runK] at h
      obtain ⟨ex1, st1, f1, hg1, hl, hr, he⟩ := runK_ev hx hy n f (by omega) (.code a) _ _ ex st' hok h
      simp only at hl he
      match f1, hl, hr with
      | 0, _, hr => simp [runK] at hr
      | f1 + 1, hl, hr =>
        simp only [runK] at hr
        split at hr
        · obtain ⟨ex2, st2, f2, hg2, hl2, hr2, he2⟩ := runK_ev hx hy n f1 (by omega) (.code b) k _ ex st' hg1 hr
          simp only at hl2 he2
          exact ⟨ex2, st2, f2, hg2, by simp only; omega, hr2, .seq he he2⟩
        · rename_i hne
          exact ⟨ex1, st1, f1, hg1, by simp only; omega, hr, .seq' he hne⟩
    | cond c a b =>
      simp only [runK] at h
      split at h
      · rename_i x hc
        cases x with
        | true =>
          obtain ⟨ex1, st1, f1, hg1, hl, hr, he⟩ := runK_ev hx hy n f (by omega) (.code a) _ _ ex st' hok h
          exact ⟨ex1, st1, f1, hg1, by simp only at hl ⊢; omega, hr, .cond hc he⟩
        | false =>
          obtain ⟨ex1, st1, f1, hg1, hl, hr, he⟩ := runK_ev hx hy n f (by omega) (.code b) _ _ ex st' hok h
          exact ⟨ex1, st1, f1, hg1, by simp only at hl ⊢; omega, hr, .cond hc he⟩
      · cases h
    | blk id c =>
      simp only [runK] at h
      obtain ⟨ex1, st1, f1, hg1, hl, hr, he⟩ := runK_ev hx hy n f (by omega) (.code c) _ _ ex st' (by exact hok) h
      simp only at hl he
      cases f1 with
      | zero => simp [runK] at hr
      | succ f1 =>
        cases ex1 with
        | exit j =>
          simp only [runK] at hr
          cases hj : Nat.beq j id with
          | true =>
            rw [hj] at hr
            have := Nat.eq_of_beq_eq_true hj
            subst this
            exact ⟨.norm, st1, f1, hg1, by simp only; omega, hr, .blk he⟩
          | false =>
            rw [hj] at hr
            refine ⟨.exit j, st1, f1, hg1, by simp only; omega, hr, .blk' he fun e => ?_⟩
            cases e
            simp at hj
        | norm => exact ⟨.norm, st1, f1, hg1, by simp only; omega, hr, .blk' he (by simp)⟩
        | ret => exact ⟨.ret, st1, f1, hg1, by simp only; omega, hr, .blk' he (by simp)⟩
    | loop c =>
      simp only [runK] at h
      obtain ⟨ex1, st1, f1, hg1, hl, hr, he⟩ := runK_ev hx hy n f (by omega) (.code c) _ _ ex st' (by exact hok) h
      simp only at hl he
      match f1, hl, hr with
      | 0, _, hr => simp [runK] at hr
      | f1 + 1, hl, hr =>
        simp only [runK] at hr
        split at hr
        · obtain ⟨ex2, st2, f2, hg2, hl2, hr2, he2⟩ := runK_ev hx hy n f1 (by omega) (.code (.loop c)) k _ ex st' hg1 hr
          simp only at hl2 he2
          exact ⟨ex2, st2, f2, hg2, by simp only; omega, hr2, .kill _ (.loop he he2)⟩
        · rename_i hne
          exact ⟨ex1, st1, f1, hg1, by simp only; omega, hr, .kill _ (.loop' he hne)⟩
    | regd l => simp [runK] at h
    | rfun x => simp [runK] at h
    | refuse => simp [runK] at h
  | n + 1, f + 1, hf, .ex e, k, st, ex, st', hok, h => ⟨e, st, f + 1, hok, by simp, h, rfl, rfl⟩

theorem comp_of (hx : Tells tab pr xf) (hy : TellsI tab pr xh) {g : FuncId} {fn : AFunc} {args : List V} {v : V} (ht : tab g = some fn) (hn : args.length ≤ fn.n)
    (h : ∀ gl, M xf xh kz (.code fn.body) [] (St.init gl fn.depth (stripL args) {}) (Fin fn.res v)) : Comp tab pr g args v := by
  intro hh gl hok
  obtain ⟨f, ex, st', e, he, hl⟩ := h gl
  obtain ⟨ex1, st1, f1, _, _, hr, hev⟩ := runK_ev hx hy f f (Nat.le_refl _) _ _ _ _ _ hok e
  simp only at hev
  have : ex1 = ex ∧ st1 = st' := by
    match f1, hr with
    | 0, hr => simp [runK] at hr
    | f1 + 1, hr => simp only [runK, Option.some.injEq, Prod.mk.injEq] at hr; exact hr
  obtain ⟨rfl, rfl⟩ := this
  have hl' : leave fn true hh st1 = some (v, hh) := by
    unfold leave
    cases hv : resV st1 fn.res with
    | none => rw [hv] at hl; cases hl
    | some vs =>
      rw [hv] at hl
      simp only [Option.map_some, Option.some.injEq] at hl
      simp only [cond_true, hl]
  exact .fn ht hn hev he hl'

/-- What a function that writes hands back. -/
def FinI (res : List ARes) (v : V) (h' : H) (ex : AEx) (st : St) : Prop := ex.ends = true ∧ (resV st res).map (fun vs => (oneOf vs, st.h)) = some (v, h')

theorem compI_of (hx : Tells tab pr xf) (hy : TellsI tab pr xh) {g : FuncId} {fn : AFunc} {args : List V} {h0 h' : H} {v : V} (ht : tab g = some fn) (hn : args.length ≤ fn.n)
    (h : ∀ gl, M xf xh kz (.code fn.body) [] (St.init gl fn.depth args h0) (FinI fn.res v h')) : CompI tab pr g args h0 v h' := by
  intro gl hok
  obtain ⟨f, ex, st', e, he, hl⟩ := h gl
  obtain ⟨ex1, st1, f1, _, _, hr, hev⟩ := runK_ev hx hy f f (Nat.le_refl _) _ _ _ _ _ hok e
  simp only at hev
  have : ex1 = ex ∧ st1 = st' := by
    match f1, hr with
    | 0, hr => simp [runK] at hr
    | f1 + 1, hr => simp only [runK, Option.some.injEq, Prod.mk.injEq] at hr; exact hr
  obtain ⟨rfl, rfl⟩ := this
  have hl' : leave fn false h0 st1 = some (v, h') := by
    unfold leave
    cases hv : resV st1 fn.res with
    | none => rw [hv] at hl; cases hl
    | some vs =>
      rw [hv] at hl
      simp only [Option.map_some, Option.some.injEq] at hl
      simp only [cond_false, hl]
  exact .fn ht hn hev he hl'

theorem compI_primH {g : FuncId} {args : List V} {h : H} {l : List UInt8} (hp : pr.rel g (args.map (thaw h)) (.s l)) : CompI tab pr g args h (.s l) h := fun _ hok => .primH hok hp

/-- One piece of a run, and the rest. -/
theorem M_cut {t : Tsk} {k k' : List Fr} {st : St} {R Q : AEx → St → Prop} (h : M xf xh (fun n => kz (n + k'.length)) t k st R) (hk : ∀ ex st', R ex st' → M xf xh kz (.ex ex) k' st' Q) : M xf xh kz t (k ++ k') st Q := by
  obtain ⟨f, ex, st', e, r⟩ := h
  have key : ∀ (f : Nat) (t : Tsk) (k : List Fr) (st : St), runK xf xh (fun n => kz (n + k'.length)) f t k st = some (ex, st') → M xf xh kz t (k ++ k') st Q := by
    intro f
    induction f with
    | zero => intro t k st e; simp [runK] at e
    | succ f ih =>
      intro t k st e
      match t, e with
      | .ops l, e =>
        cases l with
        | nil => rw [M_nil]; exact ih _ _ _ e
        | cons o r =>
          obtain ⟨d, op, g⟩ := o
          simp only [runK] at e
          split at e
          · cases e
          · rename_i hw
            have := ih _ _ _ e
            obtain ⟨f2, ex2, s2, e2, q2⟩ := this
            exact ⟨f2 + 1, ex2, s2, by simp only [runK, hw]; exact e2, q2⟩
          · rename_i hw
            split at e
            · rename_i v st2 hs
              obtain ⟨f2, ex2, s2, e2, q2⟩ := ih _ _ _ e
              exact ⟨f2 + 1, ex2, s2, by simp only [runK, hw, hs]; exact e2, q2⟩
            · cases e
      | .code c, e =>
        cases c with
        | skip => rw [M_skip]; exact ih _ _ _ e
        | ret => rw [M_ret]; exact ih _ _ _ e
        | exit i => rw [M_exit]; exact ih _ _ _ e
        | reg l => rw [M_reg]; exact ih _ _ _ e
        | seq a b => rw [M_seq]; exact ih _ _ _ e
        | cond c a b =>
          simp only [runK] at e
          rw [M_cond]
          split at e
          · rename_i x hc
            rw [hc]
            cases x with
            | true => exact ih _ _ _ e
            | false => exact ih _ _ _ e
          · cases e
        | blk id c => rw [M_blk]; exact ih _ _ _ e
        | loop c => rw [M_loop, List.length_append]; exact ih _ _ _ e
        | regd l => simp [runK] at e
        | rfun x => simp [runK] at e
        | refuse => simp [runK] at e
      | .ex x, e =>
        cases k with
        | nil =>
          simp only [runK, Option.some.injEq, Prod.mk.injEq] at e
          obtain ⟨rfl, rfl⟩ := e
          exact hk _ _ r
        | cons fr k =>
          cases fr with
          | seq b =>
            simp only [List.cons_append]
            cases x with
            | norm => rw [M_ns]; exact ih _ _ _ e
            | ret => rw [M_rs]; exact ih _ _ _ e
            | exit j => rw [M_es]; exact ih _ _ _ e
          | blk id =>
            simp only [List.cons_append]
            cases x with
            | norm => rw [M_nb]; exact ih _ _ _ e
            | ret => rw [M_rb]; exact ih _ _ _ e
            | exit j =>
              rw [M_eb]
              unfold X
              simp only [runK] at e
              cases hj : Nat.beq j id with
              | true => rw [hj] at e; exact ih _ _ _ e
              | false => rw [hj] at e; exact ih _ _ _ e
          | loop c =>
            simp only [List.cons_append]
            cases x with
            | norm => rw [M_nl]; exact ih _ _ _ e
            | ret => rw [M_rl]; exact ih _ _ _ e
            | exit j => rw [M_el]; exact ih _ _ _ e
  exact key f t k st e

theorem M_mono {t : Tsk} {k : List Fr} {st : St} {R Q : AEx → St → Prop} (h : M xf xh kz t k st R) (hq : ∀ ex st', R ex st' → Q ex st') : M xf xh kz t k st Q := by
  obtain ⟨f, ex, st', e, r⟩ := h
  exact ⟨f, ex, st', e, hq _ _ r⟩
end
end Ai.Hp

namespace Ai.Hp
open Go Ai
section
variable {xf : FuncId → List V → Option V} {xh : FuncId → List V → H → Option (V × H)} {kz : Nat → List Nat} {k : List Fr} {st : St} {Q : AEx → St → Prop}
attribute [go_sem] M_nil M_op C_some M_opg M_skip M_ret M_exit M_reg M_seq M_blk M_cond B_true B_false M_done M_ns M_rs M_es M_nb M_rb M_eb M_nl M_rl M_el X_eq X_ne
@[go_sem] theorem C_none (d : Option Nat) (r : List AOper) : C xf xh kz d r k Q none = False := rfl
@[go_sem] theorem G_tt (d : Option Nat) (op : AOp) (r : List AOper) : G xf xh kz d op r k st Q true (.b true) = M xf xh kz (.ops (⟨d, op, none⟩ :: r)) k st Q := rfl
@[go_sem] theorem G_ff (d : Option Nat) (op : AOp) (r : List AOper) : G xf xh kz d op r k st Q false (.b false) = M xf xh kz (.ops (⟨d, op, none⟩ :: r)) k st Q := rfl
@[go_sem] theorem G_tf (d : Option Nat) (op : AOp) (r : List AOper) : G xf xh kz d op r k st Q true (.b false) = M xf xh kz (.ops r) k (st.put d (.tup [])) Q := rfl
@[go_sem] theorem G_ft (d : Option Nat) (op : AOp) (r : List AOper) : G xf xh kz d op r k st Q false (.b true) = M xf xh kz (.ops r) k (st.put d (.tup [])) Q := rfl
@[go_sem] theorem G_un (d : Option Nat) (op : AOp) (r : List AOper) (w : Bool) : G xf xh kz d op r k st Q w (.tup []) = M xf xh kz (.ops r) k (st.put d (.tup [])) Q := rfl
theorem G_split (d : Option Nat) (op : AOp) (r : List AOper) (w x : Bool) (h1 : x = true → G xf xh kz d op r k st Q w (.b true)) (h2 : x = false → G xf xh kz d op r k st Q w (.b false)) : G xf xh kz d op r k st Q w (.b x) := by
  cases x with
  | true => exact h1 rfl
  | false => exact h2 rfl
@[go_sem] theorem k_mov (d : Nat) (x : Opd) : stepK xf xh st d (.mov x) = (match st.raw x with | .it => none | v => some (v, st)) := rfl
@[go_sem] theorem k_movnil (gl : Nat → List V) (T : T) (its : List (Nat × (List UInt8 × Nat))) (loc : List (Nat × List V)) (nx : Nat) (obs : List (Nat × Obj)) (nt : Nat) (tips : List (Nat × (Nat × TypeId))) (d : Nat) (ty : TypeId) :
    stepK xf xh ⟨gl, T, its, loc, ⟨nx, obs, nt, tips⟩⟩ d (.movnil ty) = some (.sl [] 0 (.own nt), ⟨gl, T, its, loc, ⟨nx, obs, nt + 1, (nt, (0, ty)) :: tips⟩⟩) := rfl
@[go_sem] theorem k_pick (d : Nat) (c a b : Opd) : stepK xf xh st d (.pick c a b) = (match st.ev c with | .b x => some (bif x then st.ev a else st.ev b, st) | _ => none) := rfl
@[go_sem] theorem k_build (d : Nat) (z : List V) (ps : List (Nat × Nat × Opd)) : stepK xf xh st d (.build z ps) = (match fill z (evP st ps) with | some cs => some (.agg cs, st) | none => none) := rfl
@[go_sem] theorem k_load (d : Nat) (agg : Bool) (n : Nat) (a : Opd) : stepK xf xh st d (.load agg n a) = (match st.rd (st.raw a) n with | some cs => bif agg then some (.agg cs, st) else (match cs with | [v] => some (v.val, st) | _ => none) | none => none) := rfl
@[go_sem] theorem k_store (d n : Nat) (a x : Opd) : stepK xf xh st d (.store n a x) = (match (st.ev x).cells? with | some cs => bif Nat.beq cs.length n && allOne cs then (st.wrt (st.raw a) cs).map (.any, ·) else none | none => none) := rfl
@[go_sem] theorem k_nilck (d : Nat) (x : Opd) : stepK xf xh st d (.nilck x) = (match st.raw x with | .p a o => some (.p a o, st) | .l a o => some (.l a o, st) | .ip (x :: xs) o => some (.ip (x :: xs) o, st) | .fn f a b => some (.fn f a b, st) | .ifc t v => some (.ifc t v, st) | _ => none) := rfl
@[go_sem] theorem k_bin (d : Nat) (op : BinOp) (x y : Opd) : stepK xf xh st d (.bin op x y) = (bin op (st.ev x) (st.ev y)).map (·, st) := rfl
@[go_sem] theorem k_eq (d : Nat) (neg : Bool) (t : ET) (x y : Opd) : stepK xf xh st d (.eq neg t x y) = (eqV t (st.ev x) (st.ev y)).map fun b => (.b (b != neg), st) := rfl
@[go_sem] theorem k_un (d : Nat) (op : UnOp) (x : Opd) : stepK xf xh st d (.un op x) = (un op (st.ev x)).map (·, st) := rfl
@[go_sem] theorem k_conv (d : Nat) (c : CK) (x : Opd) : stepK xf xh st d (.conv c x) = (convV st c (st.ev x)).map (·, st) := rfl
@[go_sem] theorem k_mkif (d : Nat) (t : TypeId) (x : Opd) : stepK xf xh st d (.mkif t x) = some (.ifc t (st.ev x), st) := rfl
@[go_sem] theorem k_mkfn (d : Nat) (f : FuncId) (a b : List Opd) : stepK xf xh st d (.mkfn f a b) = some (.fn f (evL st a) (evL st b), st) := rfl
@[go_sem] theorem k_slc (d : Nat) (kk : SK) (x : Opd) (lo hi mx : Option Opd) : stepK xf xh st d (.slc kk x lo hi mx) = (bif okArr st kk (st.ev x) then (slcV kk (st.ev x) (evO st lo) (evO st hi) (evO st mx)).map (·, st) else none) := rfl
@[go_sem] theorem k_faddr (d off : Nat) (x : Opd) : stepK xf xh st d (.faddr off x) = (match st.raw x with | .ip (x :: xs) o => some (.ip (x :: xs) (o + off), st) | .l a o => some (.l a (o + off), st) | .p a o => some (.p a (o + off), st) | _ => none) := rfl
@[go_sem] theorem k_fld (d : Nat) (agg : Bool) (off n : Nat) (x : Opd) : stepK xf xh st d (.fld agg off n x) = (match st.ev x with | .agg cs => (part? cs off n agg).map (·, st) | _ => none) := rfl
@[go_sem] theorem k_iaddr (d : Nat) (kk : IK) (x i : Opd) : stepK xf xh st d (.iaddr kk x i) = (match natOf (st.ev i), kk, st.raw x with
    | some j, .slice sz, .sl xs n _ => bif Nat.blt j n && Nat.ble ((j + 1) * sz) xs.length then some (.ip xs (j * sz), st) else none
    | some j, .slice sz, .hs id off n sz' => bif Nat.blt j n && Nat.beq sz sz' then some (.p id (off + j * sz), st) else none
    | some j, .arr len sz, .ip (x :: xs) o => bif Nat.blt j len then some (.ip (x :: xs) (o + j * sz), st) else none
    | some j, .arr len sz, .l a o => bif Nat.blt j len then some (.l a (o + j * sz), st) else none
    | some j, .arr len sz, .p a o => bif Nat.blt j len then some (.p a (o + j * sz), st) else none
    | _, _, _ => none) := rfl
@[go_sem] theorem k_idx (d : Nat) (kk : XK) (x i : Opd) : stepK xf xh st d (.idx kk x i) = (idxV kk (st.ev x) (st.ev i)).map (·, st) := rfl
@[go_sem] theorem k_len (d : Nat) (kk : LK) (x : Opd) : stepK xf xh st d (.len kk x) = (match kk, st.ev x with
    | .str, .s l => some (.i .i64 l.length, st)
    | .slice, .sl _ n _ => some (.i .i64 n, st)
    | .slice, .hs _ _ n _ => some (.i .i64 n, st)
    | .map, .m none => some (.i .i64 0, st)
    | .map, .m (some id) => match al st.h.objs id with
      | some (.map es) => some (.i .i64 es.length, st)
      | _ => none
    | .arr n, _ => some (.i .i64 n, st)
    | _, _ => none) := rfl
@[go_sem] theorem k_app (d : Nat) (ty : TypeId) (sz : Nat) (x y : Opd) : stepK xf xh st d (.app ty sz x y) = st.app ty sz (st.ev x) (st.ev y) := rfl
@[go_sem] theorem k_appo (d : Nat) (ty : TypeId) (sz : Nat) (x y : Opd) : stepK xf xh st d (.appo ty sz x y) = st.appo ty sz (st.ev x) (st.ev y) := rfl
theorem k_bslice (d : Nat) (ty : TypeId) (sz len : Nat) (z : List V) (ps : List (Nat × Opd)) : stepK xf xh st d (.bslice false ty sz len z ps) = (match fill (zeros z len) (evB st sz ps) with | some cs => some (.sl cs len .full, st) | none => none) := rfl
@[go_sem] theorem k_ext (d : Nat) (x : Opd) (i : Nat) : stepK xf xh st d (.ext x i) = (tupAt i (st.ev x)).map (·, st) := by
  have e : stepK xf xh st d (.ext x i) = (match st.ev x with | .tup vs => vs[i]?.map fun v => (v.val, st) | _ => none) := rfl
  rw [e]
  generalize st.ev x = v
  cases v <;> simp [tupAt, Function.comp_def]
@[go_sem] theorem k_bslice0 (d : Nat) (ty : TypeId) (sz : Nat) (z : List V) : stepK xf xh st d (.bslice false ty sz 0 z []) = some (.sl [] 0 .full, st) := rfl
@[go_sem] theorem k_bslice2 (d : Nat) (ty : TypeId) (z : V) (x y : Opd) : stepK xf xh st d (.bslice false ty 1 2 [z] [(0, x), (1, y)]) = (match fill [z, z] [(0, 1, st.ev x), (1, 1, st.ev y)] with | some cs => some (.sl cs 2 .full, st) | none => none) := rfl
@[go_sem] theorem k_bslice3 (d : Nat) (ty : TypeId) (z : V) (x y u : Opd) : stepK xf xh st d (.bslice false ty 1 3 [z] [(0, x), (1, y), (2, u)]) = (match fill [z, z, z] [(0, 1, st.ev x), (1, 1, st.ev y), (2, 1, st.ev u)] with | some cs => some (.sl cs 3 .full, st) | none => none) := rfl
@[go_sem] theorem k_bslice4 (d : Nat) (ty : TypeId) (z : V) (x y u w : Opd) : stepK xf xh st d (.bslice false ty 1 4 [z] [(0, x), (1, y), (2, u), (3, w)]) = (match fill [z, z, z, z] [(0, 1, st.ev x), (1, 1, st.ev y), (2, 1, st.ev u), (3, 1, st.ev w)] with | some cs => some (.sl cs 4 .full, st) | none => none) := rfl
@[go_sem] theorem k_bslice1 (d : Nat) (ty : TypeId) (z : V) (x : Opd) : stepK xf xh st d (.bslice false ty 1 1 [z] [(0, x)]) = (match (st.ev x).cells? with | some [v] => some (.sl [v] 1 .full, st) | _ => none) := by
  rw [k_bslice]
  simp only [evB, fill]
  cases (st.ev x).cells? with
  | none => rfl
  | some vs =>
    match vs with
    | [] => rfl
    | [v] => rfl
    | a :: b :: r =>
      simp only [List.length_cons]
      rw [show Nat.beq (r.length + 1 + 1) 1 = false from by cases hb : Nat.beq (r.length + 1 + 1) 1 with | true => exact absurd (Nat.eq_of_beq_eq_true hb) (by omega) | false => rfl]
      rfl
@[go_sem] theorem k_lalloc (gl : Nat → List V) (T : T) (its : List (Nat × (List UInt8 × Nat))) (loc : List (Nat × List V)) (h : H) (d : Nat) (cs : List V) (ks : List Nat) :
    stepK xf xh ⟨gl, T, its, loc, h⟩ d (.lalloc cs ks) = some (.l d 0, ⟨gl, T.kill ks, its, lset loc d cs, h⟩) := rfl
@[go_sem] theorem k_lbox (gl : Nat → List V) (T : T) (its : List (Nat × (List UInt8 × Nat))) (loc : List (Nat × List V)) (h : H) (d : Nat) (x : Opd) (ks : List Nat) :
    stepK xf xh ⟨gl, T, its, loc, h⟩ d (.lbox x ks) = (match (St.ev ⟨gl, T, its, loc, h⟩ x).cells? with | some cs => some (.l d 0, ⟨gl, T.kill ks, its, lset loc d cs, h⟩) | none => none) := rfl
@[go_sem] theorem k_bs31 (d : Nat) (ty : TypeId) (z0 z1 z2 : V) (x : Opd) : stepK xf xh st d (.bslice false ty 3 1 [z0, z1, z2] [(0, x)]) = (match (st.ev x).cells? with | some [v0, v1, v2] => some (.sl [v0, v1, v2] 1 .full, st) | _ => none) := by
  rw [k_bslice]
  simp only [evB, fill]
  cases (st.ev x).cells? with
  | none => rfl
  | some vs =>
    match vs with
    | [] => rfl
    | [_] => rfl
    | [_, _] => rfl
    | [_, _, _] => rfl
    | v0 :: v1 :: v2 :: w :: r =>
      simp only [List.length_cons]
      rw [show Nat.beq (r.length + 1 + 1 + 1 + 1) 3 = false from by cases hb : Nat.beq (r.length + 1 + 1 + 1 + 1) 3 with | true => exact absurd (Nat.eq_of_beq_eq_true hb) (by omega) | false => rfl]
      rfl
@[go_sem] theorem k_bs41 (d : Nat) (ty : TypeId) (z0 z1 z2 z3 : V) (x : Opd) : stepK xf xh st d (.bslice false ty 4 1 [z0, z1, z2, z3] [(0, x)]) = (match (st.ev x).cells? with | some [v0, v1, v2, v3] => some (.sl [v0, v1, v2, v3] 1 .full, st) | _ => none) := by
  rw [k_bslice]
  simp only [evB, fill]
  cases (st.ev x).cells? with
  | none => rfl
  | some vs =>
    match vs with
    | [] => rfl
    | [_] => rfl
    | [_, _] => rfl
    | [_, _, _] => rfl
    | [_, _, _, _] => rfl
    | v0 :: v1 :: v2 :: v3 :: w :: r =>
      simp only [List.length_cons]
      rw [show Nat.beq (r.length + 1 + 1 + 1 + 1 + 1) 4 = false from by cases hb : Nat.beq (r.length + 1 + 1 + 1 + 1 + 1) 4 with | true => exact absurd (Nat.eq_of_beq_eq_true hb) (by omega) | false => rfl]
      rfl
@[go_sem] theorem k_minmax (d : Nat) (mx : Bool) (x y : Opd) : stepK xf xh st d (.minmax mx x y) = (match st.ev x, st.ev y with | .i k a, .i _ b => some (.i k (bif mx then (if b > a then b else a) else (if b < a then b else a)), st) | _, _ => none) := rfl
@[go_sem] theorem k_mm3 (d : Nat) (mx : Bool) (x y z : Opd) : stepK xf xh st d (.mm3 mx x y z) = (match st.ev x, st.ev y, st.ev z with | .i k a, .i _ b, .i _ c => some (.i k (lim mx (lim mx a b) c), st) | _, _, _ => none) := rfl
@[go_sem] theorem k_mkmap (gl : Nat → List V) (T : T) (its : List (Nat × (List UInt8 × Nat))) (loc : List (Nat × List V)) (nx : Nat) (obs : List (Nat × Obj)) (nt : Nat) (tips : List (Nat × (Nat × TypeId))) (d : Nat) :
    stepK xf xh ⟨gl, T, its, loc, ⟨nx, obs, nt, tips⟩⟩ d .mkmap = some (.m (some nx), ⟨gl, T, its, loc, ⟨nx + 1, (nx, .map []) :: obs, nt, tips⟩⟩) := rfl
@[go_sem] theorem k_mget (d : Nat) (kt : ET) (ok : Bool) (z : V) (x k : Opd) : stepK xf xh st d (.mget kt ok z x k) = (match st.ev x with
    | .m none => some (bif ok then .tup [z, .b false] else z.val, st)
    | .m (some id) => match al st.h.objs id with
      | some (.map es) => match mfind kt (st.ev k) es 0 with
        | some (some (_, v)) => some (bif ok then .tup [v.val, .b true] else v.val, st)
        | some none => some (bif ok then .tup [z, .b false] else z.val, st)
        | none => none
      | _ => none
    | _ => none) := rfl
@[go_sem] theorem k_mput (d : Nat) (kt : ET) (m k x : Opd) : stepK xf xh st d (.mput kt m k x) = (match st.ev m with
    | .m (some id) => match al st.h.objs id with
      | some (.map es) => match mfind kt (st.ev k) es 0 with
        | some (some (i, _)) => some (.any, { st with h := st.h.setObj id (.map (mset es i (st.ev k, st.ev x))) })
        | some none => some (.any, { st with h := st.h.setObj id (.map (es ++ [(st.ev k, st.ev x)])) })
        | none => none
      | _ => none
    | _ => none) := rfl
@[go_sem] theorem k_tas (d : Nat) (conc : Bool) (oks bads : List TypeId) (z : V) (ok : Bool) (x : Opd) : stepK xf xh st d (.tas conc oks bads z ok x) = (tasV conc oks bads z ok (st.ev x)).map (·, st) := rfl
@[go_sem] theorem k_range (gl : Nat → List V) (T : T) (its : List (Nat × (List UInt8 × Nat))) (loc : List (Nat × List V)) (h : H) (d : Nat) (x : Opd) :
    stepK xf xh ⟨gl, T, its, loc, h⟩ d (.range x) = (match St.ev ⟨gl, T, its, loc, h⟩ x with | .s l => some (.it, ⟨gl, T.set d .any, alSet its d (l, 0), loc, h⟩) | _ => none) := rfl
@[go_sem] theorem k_next (gl : Nat → List V) (T : T) (its : List (Nat × (List UInt8 × Nat))) (loc : List (Nat × List V)) (h : H) (d slot : Nat) :
    stepK xf xh ⟨gl, T, its, loc, h⟩ d (.next slot) = (match T.get slot, al its slot with
    | .it, some (l, pos) => match l with
      | [] => some (.tup [.b false], ⟨gl, T, its, loc, h⟩)
      | _ :: _ => some (.tup [.b true, .i .i64 pos, .i .i32 (dec l).1], ⟨gl, T, alSet its slot (l.drop (dec l).2, pos + (dec l).2), loc, h⟩)
    | _, _ => none) := rfl
@[go_sem] theorem k_call (d : Nat) (g : FuncId) (args : List Opd) : stepK xf xh st d (.call true g args) = (xf g (evL st args)).map (·, st) := rfl
@[go_sem] theorem k_callv (d : Nat) (x : Opd) (args : List Opd) : stepK xf xh st d (.callv true x args) = (match st.ev x with | .fn f first cap => (xf f (first ++ evL st args ++ cap)).map (·, st) | _ => none) := rfl
@[go_sem] theorem k_calli (gl : Nat → List V) (T : T) (its : List (Nat × (List UInt8 × Nat))) (loc : List (Nat × List V)) (h : H) (d : Nat) (g : FuncId) (args : List Opd) :
    stepK xf xh ⟨gl, T, its, loc, h⟩ d (.call false g args) = (xh g (evL ⟨gl, T, its, loc, h⟩ args) h).map fun p => (p.1, ⟨gl, T, its, loc, p.2⟩) := rfl
@[go_sem] theorem k_alloc (gl : Nat → List V) (T : T) (its : List (Nat × (List UInt8 × Nat))) (loc : List (Nat × List V)) (nx : Nat) (obs : List (Nat × Obj)) (nt : Nat) (tips : List (Nat × (Nat × TypeId))) (d : Nat) (ty : TypeId) (cs : List V) :
    stepK xf xh ⟨gl, T, its, loc, ⟨nx, obs, nt, tips⟩⟩ d (.alloc ty cs) = some (.p nx 0, ⟨gl, T, its, loc, ⟨nx + 1, (nx, .cells ty cs) :: obs, nt, tips⟩⟩) := rfl
@[go_sem] theorem k_noesc (d : Nat) (f : FuncId) (x : Opd) : stepK xf xh st d (.noesc f x) = (match st.ev x with | .p a o => some (.p a o, st) | _ => none) := rfl
@[go_sem] theorem k_sdata (d : Nat) (x : Opd) : stepK xf xh st d (.sdata x) = (match st.ev x with
    | .sl [] n .nil => some (.sd [] n .nil, st)
    | .sl (x :: xs) n tk => bif Nat.beq n 0 then none else some (.sd (x :: xs) n tk, st)
    | _ => none) := rfl
@[go_sem] theorem k_ustr (d : Nat) (ty : TypeId) (x n : Opd) : stepK xf xh st d (.ustr ty x n) = (match st.ev x, natOf (st.ev n) with
    | .sd xs n tk, some m => bif Nat.beq m n && Nat.beq xs.length n && Nat.ble n most then
        (bif Nat.beq n 0 then some (.s [], st) else
         match tk with
         | .own t => match al st.h.tips t with
           | some (c, u) => bif Nat.beq c n && Nat.beq u ty then (bytesOf? xs).map fun l => (.s l, st) else none
           | none => none
         | _ => none) else none
    | _, _ => none) := rfl
@[go_sem] theorem fin_ret (res : List ARes) (v : V) (h' : H) : FinI res v h' .ret st = ((resV st res).map (fun vs => (oneOf vs, st.h)) = some (v, h')) := by simp [FinI, AEx.ends]
@[go_sem] theorem fin_norm (res : List ARes) (v : V) (h' : H) : FinI res v h' .norm st = ((resV st res).map (fun vs => (oneOf vs, st.h)) = some (v, h')) := by simp [FinI, AEx.ends]
@[go_sem] theorem rd_p (d o n : Nat) : st.rd (.p d o) n = (match al st.h.objs d with | some (.cells _ cs) => sub? cs o n | _ => none) := rfl
@[go_sem] theorem wrt_p (gl : Nat → List V) (T : T) (its : List (Nat × (List UInt8 × Nat))) (loc : List (Nat × List V)) (nx : Nat) (obs : List (Nat × Obj)) (nt : Nat) (tips : List (Nat × (Nat × TypeId))) (id o : Nat) (xs : List V) :
    St.wrt ⟨gl, T, its, loc, ⟨nx, obs, nt, tips⟩⟩ (.p id o) xs = (match al obs id with
      | some (.cells ty cs) => bif Nat.ble (o + xs.length) cs.length then some ⟨gl, T, its, loc, ⟨nx, alSet obs id (.cells ty (splice cs o xs)), nt, tips⟩⟩ else none
      | _ => none) := rfl
end
end Ai.Hp

namespace Ai
open Go
/-- A tree of temporaries of that depth. -/
def T.wf : Nat → T → Bool
  | 0, .leaf => true
  | d + 1, .node l _ r => T.wf d l && T.wf d r
  | _, _ => false
theorem T.wf_mk : ∀ d, T.wf d (T.mk d) = true
  | 0 => rfl
  | d + 1 => by rw [T.mk, T.wf, T.wf_mk d]; rfl
theorem T.wf_set : ∀ (d : Nat) (t : T) (i : Nat) (v : V), T.wf d (t.set i v) = T.wf d t
  | 0, .leaf, _, _ => rfl
  | 0, .node l v r, i, x => by
    rw [T.set]
    cases Nat.beq i 0 <;> cases Nat.beq (i % 2) 1 <;> rfl
  | d + 1, .leaf, _, _ => rfl
  | d + 1, .node l v r, i, x => by
    rw [T.set]
    cases Nat.beq i 0
    · cases Nat.beq (i % 2) 1
      · simp only [cond_false, T.wf, T.wf_set d]
      · simp only [cond_true, cond_false, T.wf, T.wf_set d]
    · rfl
theorem T.get_ne : ∀ (t : T) (i j : Nat) (v : V), i ≠ j → (t.set i v).get j = t.get j
  | .leaf, _, _, _, _ => rfl
  | .node l v r, i, j, x, h => by
    have bq : ∀ a b : Nat, Nat.beq a b = decide (a = b) := fun a b => by
      by_cases e : a = b
      · subst e; rw [decide_eq_true rfl]; exact Nat.beq_refl a
      · rw [decide_eq_false e]; cases hb : Nat.beq a b with | false => rfl | true => exact absurd (Nat.eq_of_beq_eq_true hb) e
    rw [T.set]
    by_cases hi : i = 0
    · subst hi
      simp only [bq, decide_true, cond_true, T.get, decide_eq_false (fun e : j = 0 => h e.symm), cond_false]
    · by_cases hi2 : i % 2 = 1
      · simp only [bq, decide_eq_false hi, decide_eq_true hi2, cond_true, cond_false, T.get]
        by_cases hj : j = 0
        · simp only [decide_eq_true hj, cond_true]
        · by_cases hj2 : j % 2 = 1
          · simp only [decide_eq_false hj, decide_eq_true hj2, cond_true, cond_false]
            exact T.get_ne l _ _ x (by omega)
          · simp only [decide_eq_false hj, decide_eq_false hj2, cond_false]
      · simp only [bq, decide_eq_false hi, decide_eq_false hi2, cond_false, T.get]
        by_cases hj : j = 0
        · simp only [decide_eq_true hj, cond_true]
        · by_cases hj2 : j % 2 = 1
          · simp only [decide_eq_false hj, decide_eq_true hj2, cond_true, cond_false]
          · simp only [decide_eq_false hj, decide_eq_false hj2, cond_false]
            exact T.get_ne r _ _ x (by omega)
theorem T.get_same : ∀ (d : Nat) (t : T) (i : Nat) (v : V), T.wf d t = true → i + 1 < 2 ^ d → (t.set i v).get i = v
  | 0, _, _, _, _, h => by simp at h
  | d + 1, .leaf, _, _, h, _ => by cases h
  | d + 1, .node l v r, i, x, h, hi => by
    rw [T.wf, Bool.and_eq_true] at h
    rw [T.set]
    rw [Nat.pow_succ] at hi
    cases h0 : Nat.beq i 0
    · have hn : i ≠ 0 := fun e => by rw [e] at h0; exact absurd h0 (by decide)
      cases h1 : Nat.beq (i % 2) 1
      · simp only [cond_false, T.get, h0, h1]
        have : i % 2 ≠ 1 := fun e => by rw [e] at h1; exact absurd h1 (by decide)
        exact T.get_same d r _ x h.2 (by omega)
      · simp only [cond_true, cond_false, T.get, h0, h1]
        have := Nat.eq_of_beq_eq_true h1
        exact T.get_same d l _ x h.1 (by omega)
    · simp only [cond_true, T.get, h0]
theorem T.kill_nil (t : T) : t.kill [] = t := rfl
theorem T.kill_cons (t : T) (i : Nat) (r : List Nat) : t.kill (i :: r) = (t.set i .any).kill r := rfl
/-- A piece of a chain of code: so many from its head, then C. -/
def AC.cut : Nat → AC → AC → AC
  | 0, _, C => C
  | n + 1, .seq a b, C => .seq a (AC.cut n b C)
  | _ + 1, c, _ => c
def AC.tl : Nat → AC → AC
  | 0, c => c
  | n + 1, .seq _ b => AC.tl n b
  | _ + 1, c => c
end Ai

namespace Ai
open Go

/-- The builder at id holds these bytes. tB, tU: the numbers of its type and of uint8. -/
def BInv (tB tU : TypeId) (h : H) (id : Nat) (bs : List UInt8) : Prop :=
  (bs = [] ∧ al h.objs id = some (.cells tB [.nilp, .sl [] 0 .nil])) ∨
  ∃ t, al h.objs id = some (.cells tB [.p id 0, .sl (bs.map byteV) bs.length (.own t)]) ∧ al h.tips t = some (bs.length, tU) ∧ t < h.nt

/-- Bytes are written behind. -/
def bwr (tU : TypeId) (id : Nat) (ys : List V) (h : H) : Option H :=
  match al h.objs id with
  | some (.cells ty [_, .sl _ _ .nil]) => some ⟨h.next, alSet h.objs id (.cells ty [.p id 0, .sl ys ys.length (.own h.nt)]), h.nt + 1, (h.nt, (ys.length, tU)) :: h.tips⟩
  | some (.cells ty [_, .sl xs n (.own t)]) => some ⟨h.next, alSet h.objs id (.cells ty [.p id 0, .sl (xs ++ ys) (n + ys.length) (.own t)]), h.nt, alSet h.tips t (n + ys.length, tU)⟩
  | _ => none

theorem bwr_inv {tB tU : TypeId} {h : H} {id : Nat} {bs : List UInt8} (hi : BInv tB tU h id bs) (ys : List UInt8) : ∃ h', bwr tU id (ys.map byteV) h = some h' ∧ BInv tB tU h' id (bs ++ ys) ∧ h'.next = h.next := by
  rcases hi with ⟨rfl, ho⟩ | ⟨t, ho, ht, hn⟩
  · have e : bwr tU id (ys.map byteV) h = some ⟨h.next, alSet h.objs id (.cells tB [.p id 0, .sl (ys.map byteV) (ys.map byteV).length (.own h.nt)]), h.nt + 1, (h.nt, ((ys.map byteV).length, tU)) :: h.tips⟩ := by
      unfold bwr; rw [ho]
    refine ⟨_, e, .inr ⟨h.nt, ?_, ?_, Nat.lt_succ_self _⟩, rfl⟩
    · show al (alSet h.objs id _) id = _
      rw [al_alSet, List.length_map]; rfl
    · simp [al]
  · have e : bwr tU id (ys.map byteV) h = some ⟨h.next, alSet h.objs id (.cells tB [.p id 0, .sl (bs.map byteV ++ ys.map byteV) (bs.length + (ys.map byteV).length) (.own t)]), h.nt, alSet h.tips t (bs.length + (ys.map byteV).length, tU)⟩ := by
      unfold bwr; rw [ho]
    refine ⟨_, e, .inr ⟨t, ?_, ?_, hn⟩, rfl⟩
    · show al (alSet h.objs id _) id = _
      rw [al_alSet, List.map_append, List.length_append, List.length_map]
    · show al (alSet h.tips t _) t = _
      rw [al_alSet, List.length_append, List.length_map]

/-- A token is made that nobody uses. -/
def mvn (ty : TypeId) (h : H) : H := ⟨h.next, h.objs, h.nt + 1, (h.nt, (0, ty)) :: h.tips⟩
theorem mvn_inv {tB tU ty : TypeId} {h : H} {id : Nat} {bs : List UInt8} (hi : BInv tB tU h id bs) : BInv tB tU (mvn ty h) id bs := by
  rcases hi with ⟨rfl, ho⟩ | ⟨t, ho, ht, hn⟩
  · exact .inl ⟨rfl, ho⟩
  · refine .inr ⟨t, ho, ?_, Nat.lt_succ_of_lt hn⟩
    show al ((h.nt, (0, ty)) :: h.tips) t = _
    simp only [al, nat_beq]
    rw [decide_eq_false (by omega)]
    exact ht
theorem noH (_ : Nat) : True := trivial
end Ai
