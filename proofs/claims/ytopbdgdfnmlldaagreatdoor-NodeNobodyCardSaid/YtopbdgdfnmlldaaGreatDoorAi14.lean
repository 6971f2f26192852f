/- The abstract interpreter: laws and calls that the kernel runs to their end. The abstract interpreter: closed calls that write, found once each, are told from then on. -/
import Derived.Test.YtopbdgdfnmlldaaGreatDoorAi11
import Derived.Test.YtopbdgdfnmlldaaGreatDoorAi12
namespace Ai
open Go

/-- A call that writes, by the evaluator. -/
def runI (gl : Nat → List V) (tab : FuncId → Option AFunc) (xf : FuncId → List V → Option V) (fuel : Nat) (g : FuncId) (args : List V) (h : H) : Option (V × H) :=
  match tab g with
  | none => none
  | some fn => bif Nat.ble args.length fn.n then
    match run tab xf noWr fuel (.code fn.body) (St.enter gl fn false args h) with
    | some (ex, st1) => bif ex.ends then leave fn false h st1 else none
    | none => none else none

section
variable {P : Program} {K : Known} {tab tab1 : FuncId → Option AFunc} {pr : Prims} {xp : FuncId → List V → Option V}

theorem runI_ev (htab : ∀ g fn, tab1 g = some fn → tab g = some fn) (hx : Tells tab pr xp) {gl : Nat → List V} (hok : pr.ok gl) {f : Nat} {g : FuncId} {args : List V} {h h' : H} {v : V} (hr : runI gl tab1 xp f g args h = some (v, h')) :
    Ev tab pr (.fn false g args h gl) (.val v h') := by
  unfold runI at hr
  split at hr
  · cases hr
  · rename_i fn ht
    cases hn : Nat.ble args.length fn.n with
    | false => rw [hn] at hr; cases hr
    | true =>
      rw [hn] at hr
      simp only [cond_true] at hr
      split at hr
      · rename_i ex st1 hrun
        cases he : ex.ends with
        | false => rw [he] at hr; cases hr
        | true =>
          rw [he] at hr
          simp only [cond_true] at hr
          exact .fn (htab _ _ ht) (Nat.le_of_ble_eq_true hn) (run_evM htab hx (fun _ _ _ _ _ h => by cases h) f (.code fn.body) _ _ _ (by rw [enter_gl]; exact hok) hrun) he hr
      · cases hr

/-- A law's function returns true, and writes nothing that was there. -/
theorem true_of_comp (hg : Good P K tab pr) {g : FuncId} {args : List V} (h : Comp tab pr g args (.b true)) (hno : ∀ v, ¬ pr.rel g args v) {gl : Nat → List V} (hok : pr.ok gl) {W : World} {cs : Array Value}
    (hv : VRs (Gh.start W) W args cs) (hgl : ∀ g, Row1 (Gh.start W) W g (gl g)) :
    Calls P g cs W fun e W' => e = .returned (.bool true) ∧ RowKit.Below W.heap.size W W' := by
  have := h {} gl hok
  cases this with
  | prim hgl hp => exact absurd hp (hno _)
  | fn ht hn hc he hl =>
    refine (calls_of_ev hg ht hn hc he hl hv hgl).mono fun e W' he => ?_
    cases e with
    | panicked _ => exact he.elim
    | outgrown => exact he.elim
    | returned c =>
      obtain ⟨k, G', hvr⟩ := he
      cases hvr
      exact ⟨rfl, k.below⟩
end

namespace Hp
section
variable {xf : FuncId → List V → Option V} {xh : FuncId → List V → H → Option (V × H)} {kz : Nat → List Nat}

def finV (res : List ARes) (p : AEx × St) : Option V := bif p.1.ends then (resV p.2 res).map (fun vs => frz p.2.h 100 (oneOf vs)) else none

/-- The rest of a run, by the kernel. -/
theorem M_fin {t : Tsk} {k : List Fr} {st : St} {res : List ARes} {v : V} (f : Nat) (h : (runK xf xh kz f t k st).bind (finV res) = some v) : M xf xh kz t k st (Fin res v) := by
  cases hr : runK xf xh kz f t k st with
  | none => rw [hr] at h; cases h
  | some p =>
    obtain ⟨ex, st'⟩ := p
    rw [hr] at h
    simp only [Option.bind_some, finV] at h
    cases he : ex.ends with
    | false => rw [he] at h; cases h
    | true =>
      rw [he] at h
      simp only [cond_true] at h
      exact ⟨f, ex, st', hr, he, h⟩
end
end Hp
end Ai

namespace Ai
open Go
def sameVV : List (V × V) → List (V × V) → Bool
  | [], [] => true
  | (a, b) :: r, (c, d) :: s => sameL [a, b] [c, d] && sameVV r s
  | _, _ => false
theorem sameVV_eq : ∀ a b, sameVV a b = true → a = b
  | [], [], _ => rfl
  | (a, b) :: r, (c, d) :: s, h => by
    simp only [sameVV, Bool.and_eq_true] at h
    have h1 := sameL_eq _ _ h.1
    simp only [List.cons.injEq, and_true] at h1
    rw [h1.1, h1.2, sameVV_eq r s h.2]
  | [], _ :: _, h => by cases h
  | _ :: _, [], h => by cases h
def sameOb : Ai.Obj → Ai.Obj → Bool
  | .cells t a, .cells u b => Nat.beq t u && sameL a b
  | .map a, .map b => sameVV a b
  | _, _ => false
theorem sameOb_eq : ∀ a b, sameOb a b = true → a = b
  | .cells t a, .cells u b, h => by
    simp only [sameOb, Bool.and_eq_true] at h
    rw [Nat.eq_of_beq_eq_true h.1, sameL_eq _ _ h.2]
  | .map a, .map b, h => by rw [sameVV_eq a b h]
  | .cells _ _, .map _, h => by cases h
  | .map _, .cells _ _, h => by cases h
def sameObs : List (Nat × Ai.Obj) → List (Nat × Ai.Obj) → Bool
  | [], [] => true
  | (i, a) :: r, (j, b) :: s => Nat.beq i j && sameOb a b && sameObs r s
  | _, _ => false
theorem sameObs_eq : ∀ a b, sameObs a b = true → a = b
  | [], [], _ => rfl
  | (i, a) :: r, (j, b) :: s, h => by
    simp only [sameObs, Bool.and_eq_true] at h
    rw [Nat.eq_of_beq_eq_true h.1.1, sameOb_eq _ _ h.1.2, sameObs_eq r s h.2]
  | [], _ :: _, h => by cases h
  | _ :: _, [], h => by cases h
def sameTs : List (Nat × (Nat × TypeId)) → List (Nat × (Nat × TypeId)) → Bool
  | [], [] => true
  | (i, a, t) :: r, (j, b, u) :: s => Nat.beq i j && (Nat.beq a b && Nat.beq t u) && sameTs r s
  | _, _ => false
theorem sameTs_eq : ∀ a b, sameTs a b = true → a = b
  | [], [], _ => rfl
  | (i, a, t) :: r, (j, b, u) :: s, h => by
    simp only [sameTs, Bool.and_eq_true] at h
    rw [Nat.eq_of_beq_eq_true h.1.1, Nat.eq_of_beq_eq_true h.1.2.1, Nat.eq_of_beq_eq_true h.1.2.2, sameTs_eq r s h.2]
  | [], _ :: _, h => by cases h
  | _ :: _, [], h => by cases h
def sameH (a b : H) : Bool := Nat.beq a.next b.next && (Nat.beq a.nt b.nt && (sameObs a.objs b.objs && sameTs a.tips b.tips))
theorem sameH_eq {a b : H} (h : sameH a b = true) : a = b := by
  obtain ⟨n, o, k, t⟩ := a
  obtain ⟨n', o', k', t'⟩ := b
  simp only [sameH, Bool.and_eq_true] at h
  obtain ⟨h1, h2, h3, h4⟩ := h
  rw [Nat.eq_of_beq_eq_true h1, Nat.eq_of_beq_eq_true h2, sameObs_eq _ _ h3, sameTs_eq _ _ h4]
/-- What calls that write came to. -/
def memoH : List ((List V × H) × (V × H)) → List V → H → Option (V × H)
  | [], _, _ => none
  | ((ys, g), r) :: l, xs, h => bif sameL ys xs && sameH g h then some r else memoH l xs h
theorem memoH_mem : ∀ {l : List ((List V × H) × (V × H))} {xs : List V} {h : H} {r : V × H}, memoH l xs h = some r → ((xs, h), r) ∈ l
  | ((ys, g), w) :: l, xs, h, r, e => by
    simp only [memoH] at e
    cases hb : sameL ys xs && sameH g h with
    | true =>
      rw [hb] at e
      simp only [cond_true, Option.some.injEq] at e
      rw [Bool.and_eq_true] at hb
      rw [← sameL_eq _ _ hb.1, ← sameH_eq hb.2, ← e]
      exact .head _
    | false =>
      rw [hb] at e
      exact .tail _ (memoH_mem e)
section
variable {P : Program} {K : Known} {tab tab1 : FuncId → Option AFunc} {pr : Prims} {xp : FuncId → List V → Option V} {xh : FuncId → List V → H → Option (V × H)}
/-- A call that writes, by the evaluator, where others are told. -/
def runJ (gl : Nat → List V) (tab : FuncId → Option AFunc) (xf : FuncId → List V → Option V) (xh : FuncId → List V → H → Option (V × H)) (fuel : Nat) (g : FuncId) (args : List V) (h : H) : Option (V × H) :=
  match tab g with
  | none => none
  | some fn => bif Nat.ble args.length fn.n then
    match run tab xf xh fuel (.code fn.body) (St.enter gl fn false args h) with
    | some (ex, st1) => bif ex.ends then leave fn false h st1 else none
    | none => none else none
theorem runJ_ev (htab : ∀ g fn, tab1 g = some fn → tab g = some fn) (hx : Tells tab pr xp) (hy : Hp.TellsI tab pr xh) {g : FuncId} {args : List V} {h h' : H} {v : V} (f : Nat) (hr : ∀ gl, pr.ok gl → runJ gl tab1 xp xh f g args h = some (v, h')) :
    Hp.CompI tab pr g args h v h' := by
  intro gl hok
  have hr := hr gl hok
  unfold runJ at hr
  split at hr
  · cases hr
  · rename_i fn ht
    cases hn : Nat.ble args.length fn.n with
    | false => rw [hn] at hr; cases hr
    | true =>
      rw [hn] at hr
      simp only [cond_true] at hr
      split at hr
      · rename_i ex st1 hrun
        cases he : ex.ends with
        | false => rw [he] at hr; cases hr
        | true =>
          rw [he] at hr
          simp only [cond_true] at hr
          exact .fn (htab _ _ ht) (Nat.le_of_ble_eq_true hn) (run_evM htab hx hy f (.code fn.body) _ _ _ (by rw [enter_gl]; exact hok) hrun) he hr
      · cases hr
/-- A pure call, where calls that write are told. -/
def runFJ (gl : Nat → List V) (tab : FuncId → Option AFunc) (xf : FuncId → List V → Option V) (xh : FuncId → List V → H → Option (V × H)) (fuel : Nat) (g : FuncId) (args : List V) : Option V :=
  match tab g with
  | none => none
  | some fn => bif Nat.ble args.length fn.n then
    match run tab xf xh fuel (.code fn.body) (St.enter gl fn true args {}) with
    | some (ex, st1) => bif ex.ends then (leave fn true {} st1).map (·.1) else none
    | none => none else none
theorem comp_runJ (htab : ∀ g fn, tab1 g = some fn → tab g = some fn) (hx : Tells tab pr xp) (hy : Hp.TellsI tab pr xh) {g : FuncId} {args : List V} {v : V} (f : Nat) (hr : ∀ gl, pr.ok gl → runFJ gl tab1 xp xh f g args = some v) : Comp tab pr g args v := by
  intro hh gl hok
  have h := hr gl hok
  unfold runFJ at h
  split at h
  · cases h
  · rename_i fn ht
    cases hn : Nat.ble args.length fn.n with
    | false => rw [hn] at h; cases h
    | true =>
      rw [hn] at h
      simp only [cond_true] at h
      split at h
      · rename_i ex st1 hrun
        cases he : ex.ends with
        | false => rw [he] at h; cases h
        | true =>
          rw [he] at h
          simp only [cond_true] at h
          cases hl : leave fn true {} st1 with
          | none => rw [hl] at h; cases h
          | some q =>
            rw [hl] at h
            simp only [Option.map_some, Option.some.injEq] at h
            have hl' : leave fn true hh st1 = some (v, hh) := by
              unfold leave at hl ⊢
              split at hl
              · cases hl
              · rename_i vs hvs
                simp only [cond_true, Option.some.injEq] at hl ⊢
                rw [← h, ← hl]
            exact .fn (htab _ _ ht) (Nat.le_of_ble_eq_true hn) (run_evM htab hx hy f (.code fn.body) _ _ _ (by rw [enter_gl]; exact hok) hrun) he hl'
      · cases h
/-! ### Lists of what was found -/
def lookF : List (Nat × (List V × V)) → FuncId → List V → Option V
  | [], _, _ => none
  | (f, (ys, v)) :: r, g, xs => bif Nat.beq f g && sameL ys xs then some v else lookF r g xs
def lookH : List (Nat × ((List V × H) × (V × H))) → FuncId → List V → H → Option (V × H)
  | [], _, _, _ => none
  | (f, ((ys, k), p)) :: r, g, xs, h => bif Nat.beq f g && (sameL ys xs && sameH k h) then some p else lookH r g xs h
def orF (l : List (Nat × (List V × V))) (xf : FuncId → List V → Option V) (g : FuncId) (a : List V) : Option V := match lookF l g a with
  | some v => some v
  | none => xf g a
def OkF (tab : FuncId → Option AFunc) (pr : Prims) (l : List (Nat × (List V × V))) : Prop := ∀ g a v, lookF l g a = some v → Comp tab pr g a v
theorem okF_nil : OkF tab pr [] := fun _ _ _ h => by cases h
theorem okF_cons {f : Nat} {ys : List V} {v : V} {r : List (Nat × (List V × V))} (h : Comp tab pr f ys v) (k : OkF tab pr r) : OkF tab pr ((f, (ys, v)) :: r) := by
  intro g xs w e
  simp only [lookF] at e
  cases hb : Nat.beq f g && sameL ys xs with
  | true =>
    rw [hb] at e
    simp only [cond_true, Option.some.injEq] at e
    rw [Bool.and_eq_true] at hb
    have h1 := Nat.eq_of_beq_eq_true hb.1
    have h2 := sameL_eq _ _ hb.2
    subst h1 h2 e
    exact h
  | false => rw [hb] at e; exact k g xs w e
theorem okF_tells {l : List (Nat × (List V × V))} {xf : FuncId → List V → Option V} (h : OkF tab pr l) (hx : Tells tab pr xf) : Tells tab pr (orF l xf) := by
  intro g a v e
  unfold orF at e
  split at e
  · rename_i w hw
    cases e
    exact h g a _ hw
  · exact hx g a v e
theorem okH_nil : Hp.TellsI tab pr (lookH []) := fun _ _ _ _ _ h => by cases h
theorem okH_cons {f : Nat} {ys : List V} {v : V} {k k' : H} {r : List (Nat × ((List V × H) × (V × H)))} (h : Hp.CompI tab pr f ys k v k') (t : Hp.TellsI tab pr (lookH r)) : Hp.TellsI tab pr (lookH ((f, ((ys, k), (v, k'))) :: r)) := by
  intro g xs m w m' e
  simp only [lookH] at e
  cases hb : Nat.beq f g && (sameL ys xs && sameH k m) with
  | true =>
    rw [hb] at e
    simp only [cond_true, Option.some.injEq, Prod.mk.injEq] at e
    rw [Bool.and_eq_true, Bool.and_eq_true] at hb
    have h1 := Nat.eq_of_beq_eq_true hb.1
    have h2 := sameL_eq _ _ hb.2.1
    have h3 := sameH_eq hb.2.2
    obtain ⟨e1, e2⟩ := e
    subst h1 h2 h3 e1 e2
    exact h
  | false => rw [hb] at e; exact t g xs m w m' e
def orH (l : List (Nat × ((List V × H) × (V × H)))) (xh : FuncId → List V → H → Option (V × H)) (g : FuncId) (a : List V) (h : H) : Option (V × H) := match lookH l g a h with
  | some r => some r
  | none => xh g a h
theorem orH_tells {l : List (Nat × ((List V × H) × (V × H)))} {xh : FuncId → List V → H → Option (V × H)} (h : Hp.TellsI tab pr (lookH l)) (hx : Hp.TellsI tab pr xh) : Hp.TellsI tab pr (orH l xh) := by
  intro g a m v m' e
  unfold orH at e
  split at e
  · rename_i r hr
    cases e
    exact h g a m _ _ hr
  · exact hx g a m v m' e
/-- slices.Grow of nothing, told. -/
def growX (gr : FuncId → Option TypeId) (g : FuncId) (a : List V) (h : H) : Option (V × H) := match gr g with
  | none => none
  | some ty => match a with
    | [.sl [] 0 .nil, .i .i64 n] => if 0 < n ∧ n ≤ 1000000 then some (.sl [] 0 (.own h.nt), (h.tok 0 ty).2) else none
    | _ => none
theorem growX_tells : Hp.TellsI tab pr (growX pr.grow) := by
  intro g a m v m' e
  unfold growX at e
  split at e
  · cases e
  · rename_i ty hty
    split at e
    · rename_i n
      split at e
      · rename_i hn
        cases e
        obtain ⟨k, rfl⟩ : ∃ k : Nat, n = (k : Int) := ⟨n.toNat, by omega⟩
        exact fun gl _ => .grow hty (by omega) (by omega)
      · cases e
    · cases e
end
end Ai
