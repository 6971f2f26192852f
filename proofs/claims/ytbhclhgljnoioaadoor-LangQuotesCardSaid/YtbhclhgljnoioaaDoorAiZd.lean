/- The abstract interpreter: what the evaluator finds is so; the way to the model's calls. -/
import Derived.Test.YtbhclhgljnoioaaDoorAiZc
namespace Ai
open Go

/-! ### The package variables stay -/
theorem wrt_gl {st st' : St} {a : V} {xs : List V} (h : st.wrt a xs = some st') : st'.gl = st.gl := by
  unfold St.wrt at h
  repeat' split at h
  all_goals first | (cases h; done) | skip
  all_goals (rename_i cs _; cases hb : Nat.ble _ cs.length <;> rw [hb] at h <;> simp only [cond_true, cond_false, reduceCtorEq, Option.some.injEq] at h <;> rw [← h])
theorem app_gl {st st' : St} {ty sz : Nat} {x y v : V} (h : st.app ty sz x y = some (v, st')) : st'.gl = st.gl := by
  unfold St.app at h
  split at h
  · rename_i xs n tk ys m _
    cases h1 : !allOne ys <;> rw [h1] at h
    · simp only [cond_false] at h
      cases h2 : Nat.beq m 0 <;> rw [h2] at h
      · simp only [cond_false] at h
        cases h3 : (Nat.beq xs.length (n * sz) && Nat.ble (n + m) most) <;> rw [h3] at h
        · cases h
        · simp only [cond_true] at h
          split at h
          · cases h
          · simp only [Option.some.injEq, Prod.mk.injEq] at h; rw [← h.2]
          · simp only [Option.some.injEq, Prod.mk.injEq] at h; rw [← h.2]
          · split at h
            · rename_i c z _
              cases h4 : (Nat.beq c n && Nat.beq z ty) <;> rw [h4] at h
              · cases h
              · simp only [cond_true, Option.some.injEq, Prod.mk.injEq] at h; rw [← h.2]
            · cases h
      · simp only [cond_true, Option.some.injEq, Prod.mk.injEq] at h; rw [← h.2]
    · cases h
  · cases h
theorem map_st {α : Type} {o : Option α} {f : α → V} {st st' : St} {v : V} (h : o.map (fun x => (f x, st)) = some (v, st')) : st' = st := by
  cases o with
  | none => cases h
  | some x => simp only [Option.map_some, Option.some.injEq, Prod.mk.injEq] at h; exact h.2.symm
theorem step_gl {st st' : St} {d : Nat} {op : AOp} {v : V} (h : step st d op = some (v, st')) : st'.gl = st.gl := by
  cases op <;> simp only [step] at h
  all_goals (first | (cases h; done) | (rw [map_st (f := id) h]; done) | (rw [map_st h]; done) | (exact app_gl h) | (simp only [Option.some.injEq, Prod.mk.injEq] at h; rw [← h.2]; done) | skip)
  all_goals (repeat' split at h)
  all_goals (first | (cases h; done) | (simp only [Option.some.injEq, Prod.mk.injEq] at h; rw [← h.2]; done) | skip)
  all_goals (first | (rw [map_st (f := id) h]; done) | (rw [map_st h]; done) | skip)
  all_goals (simp only [Bool.cond_eq_ite] at h)
  all_goals (repeat' split at h)
  all_goals (first | (cases h; done) | (simp only [Option.some.injEq, Prod.mk.injEq] at h; rw [← h.2]; done) | skip)
  all_goals (simp only [Option.map_eq_some_iff, Prod.mk.injEq] at h; obtain ⟨x, h1, _, rfl⟩ := h; first | rfl | exact wrt_gl h1)

section
variable {P : Program} {K : Known} {tab : FuncId → Option AFunc} {xf : FuncId → List V → Option V} {pr : Prims}

def Tk1.at (st : St) : Tk1 → J
  | .ops l => .ops l st
  | .code c => .code c st

theorem enter_gl (gl : Nat → List V) (fn : AFunc) (p : Bool) (args : List V) (h : H) : (St.enter gl fn p args h).gl = gl := by cases p <;> rfl
theorem run_gl : ∀ (f : Nat) (tk : Tk1) (st st' : St) (ex : AEx), run tab xf f tk st = some (ex, st') → st'.gl = st.gl
  | 0, tk, st, st', ex, h => by simp [run] at h
  | f + 1, .ops l, st, st', ex, h => by
    cases l with
    | nil =>
      simp only [run, Option.some.injEq, Prod.mk.injEq] at h
      rw [← h.2]
    | cons o r =>
      simp only [run] at h
      split at h
      · cases h
      · rw [run_gl f _ _ _ _ h, put_gl]
      · split at h
        · split at h
          · rename_i hs
            rw [run_gl f _ _ _ _ h, put_gl, step_gl hs]
          · cases h
        · split at h
          · split at h
            · rw [run_gl f _ _ _ _ h, put_gl]
            · cases h
          · rename_i fn ht
            cases hn : Nat.ble _ fn.n with
            | false => rw [hn] at h; cases h
            | true =>
              rw [hn] at h
              simp only [cond_true] at h
              split at h
              · rename_i ex1 st1 hrun
                cases he : ex1.ends with
                | false => rw [he] at h; cases h
                | true =>
                  rw [he] at h
                  simp only [cond_true] at h
                  split at h
                  · rw [run_gl f _ _ _ _ h, put_gl]
                  · cases h
              · cases h
  | f + 1, .code c, st, st', ex, h => by
    cases c with
    | skip => simp only [run, Option.some.injEq, Prod.mk.injEq] at h; rw [← h.2]
    | ret => simp only [run, Option.some.injEq, Prod.mk.injEq] at h; rw [← h.2]
    | exit id => simp only [run, Option.some.injEq, Prod.mk.injEq] at h; rw [← h.2]
    | reg l => simp only [run] at h; exact run_gl f _ _ _ _ h
    | seq a b =>
      simp only [run] at h
      split at h
      · rename_i st1 h1
        rw [run_gl f _ _ _ _ h, run_gl f _ _ _ _ h1]
      · exact run_gl f _ _ _ _ h
    | cond c a b =>
      simp only [run] at h
      split at h
      · rename_i x hc
        cases x with
        | true => exact run_gl f _ _ _ _ h
        | false => exact run_gl f _ _ _ _ h
      · cases h
    | blk id c =>
      simp only [run] at h
      split at h
      · rename_i j st1 h1
        cases hb : Nat.beq j id with
        | true => rw [hb] at h; simp only [cond_true, Option.some.injEq, Prod.mk.injEq] at h; rw [← h.2, run_gl f _ _ _ _ h1]
        | false => rw [hb] at h; simp only [cond_false, Option.some.injEq, Prod.mk.injEq] at h; rw [← h.2, run_gl f _ _ _ _ h1]
      · exact run_gl f _ _ _ _ h
    | loop c =>
      simp only [run] at h
      split at h
      · rename_i st1 h1
        rw [run_gl f _ _ _ _ h, run_gl f _ _ _ _ h1]
      · exact run_gl f _ _ _ _ h
    | refuse => simp [run] at h

/-- What the evaluator finds is so. -/
theorem run_ev (hx : ∀ g args v, xf g args = some v → pr.rel g args v) : ∀ (f : Nat) (tk : Tk1) (st st' : St) (ex : AEx), pr.ok st.gl → run tab xf f tk st = some (ex, st') → Ev tab pr (tk.at st) (.fin ex st')
  | 0, tk, st, st', ex, hok, h => by simp [run] at h
  | f + 1, .ops l, st, st', ex, hok, h => by
    cases l with
    | nil =>
      simp only [run, Option.some.injEq, Prod.mk.injEq] at h
      obtain ⟨rfl, rfl⟩ := h
      exact .nil st
    | cons o r =>
      simp only [run] at h
      split at h
      · cases h
      · rename_i hw
        exact .pass hw (run_ev hx f (.ops r) _ _ _ (by rw [put_gl]; exact hok) h)
      · rename_i hw
        split at h
        · rename_i hc
          split at h
          · rename_i v st1 hs
            exact .step hw hc hs (run_ev hx f (.ops r) _ _ _ (by rw [put_gl, step_gl hs]; exact hok) h)
          · cases h
        · rename_i p g args hc
          split at h
          · split at h
            · rename_i v hv
              exact .call hw hc (.prim hok (hx _ _ _ hv)) (run_ev hx f (.ops r) _ _ _ (by rw [put_gl]; exact hok) h)
            · cases h
          · rename_i fn ht
            cases hn : Nat.ble args.length fn.n with
            | false => rw [hn] at h; cases h
            | true =>
              rw [hn] at h
              simp only [cond_true] at h
              split at h
              · rename_i ex1 st1 hrun
                cases he : ex1.ends with
                | false => rw [he] at h; cases h
                | true =>
                  rw [he] at h
                  simp only [cond_true] at h
                  split at h
                  · rename_i v hh hl
                    exact .call hw hc (.fn ht (Nat.le_of_ble_eq_true hn) (run_ev hx f (.code fn.body) _ _ _ (by rw [enter_gl]; exact hok) hrun) he hl) (run_ev hx f (.ops r) _ _ _ (by rw [put_gl]; exact hok) h)
                  · cases h
              · cases h
  | f + 1, .code c, st, st', ex, hok, h => by
    cases c with
    | skip =>
      simp only [run, Option.some.injEq, Prod.mk.injEq] at h
      obtain ⟨rfl, rfl⟩ := h
      exact .skip st
    | ret =>
      simp only [run, Option.some.injEq, Prod.mk.injEq] at h
      obtain ⟨rfl, rfl⟩ := h
      exact .ret st
    | exit id =>
      simp only [run, Option.some.injEq, Prod.mk.injEq] at h
      obtain ⟨rfl, rfl⟩ := h
      exact .exit id st
    | reg l =>
      simp only [run] at h
      have := run_ev hx f (.ops l) st st' ex hok h
      have hn : ex = .norm := ops_norm f l st st' ex h
      subst hn
      exact .reg this
    | seq a b =>
      simp only [run] at h
      split at h
      · rename_i st1 h1
        exact .seq (run_ev hx f (.code a) _ _ _ hok h1) (run_ev hx f (.code b) _ _ _ (by rw [run_gl f _ _ _ _ h1]; exact hok) h)
      · rename_i hne
        refine .seq' (run_ev hx f (.code a) _ _ _ hok h) (fun e => ?_)
        subst e
        exact hne _ h
    | cond c a b =>
      simp only [run] at h
      split at h
      · rename_i x hc
        cases x with
        | true => exact .cond hc (run_ev hx f (.code a) _ _ _ hok h)
        | false => exact .cond hc (run_ev hx f (.code b) _ _ _ hok h)
      · cases h
    | blk id c =>
      simp only [run] at h
      split at h
      · rename_i j st1 h1
        cases hb : Nat.beq j id with
        | true =>
          rw [hb] at h
          simp only [cond_true, Option.some.injEq, Prod.mk.injEq] at h
          obtain ⟨rfl, rfl⟩ := h
          have := Nat.eq_of_beq_eq_true hb
          subst this
          exact .blk (run_ev hx f (.code c) _ _ _ hok h1)
        | false =>
          rw [hb] at h
          simp only [cond_false, Option.some.injEq, Prod.mk.injEq] at h
          obtain ⟨rfl, rfl⟩ := h
          exact .blk' (run_ev hx f (.code c) _ _ _ hok h1) (fun e => by cases e; simp at hb)
      · rename_i hne
        exact .blk' (run_ev hx f (.code c) _ _ _ hok h) (fun e => by subst e; exact hne _ _ h)
    | loop c =>
      simp only [run] at h
      split at h
      · rename_i st1 h1
        exact .loop (run_ev hx f (.code c) _ _ _ hok h1) (run_ev hx f (.code (.loop c)) _ _ _ (by rw [run_gl f _ _ _ _ h1]; exact hok) h)
      · rename_i hne
        refine .loop' (run_ev hx f (.code c) _ _ _ hok h) (fun e => ?_)
        subst e
        exact hne _ h
    | refuse => simp [run] at h
where
  ops_norm : ∀ (f : Nat) (l : List AOper) (st st' : St) (ex : AEx), run tab xf f (.ops l) st = some (ex, st') → ex = .norm
    | 0, l, st, st', ex, h => by simp [run] at h
    | f + 1, l, st, st', ex, h => by
      cases l with
      | nil =>
        simp only [run, Option.some.injEq, Prod.mk.injEq] at h
        exact h.1.symm
      | cons o r =>
        simp only [run] at h
        split at h
        · cases h
        · exact ops_norm f r _ _ _ h
        · split at h
          · split at h
            · exact ops_norm f r _ _ _ h
            · cases h
          · rename_i p g args hc
            split at h
            · split at h
              · exact ops_norm f r _ _ _ h
              · cases h
            · rename_i fn ht
              cases hn : Nat.ble args.length fn.n with
              | false => rw [hn] at h; cases h
              | true =>
                rw [hn] at h
                simp only [cond_true] at h
                split at h
                · rename_i ex1 st1 hrun
                  cases he : ex1.ends with
                  | false => rw [he] at h; cases h
                  | true =>
                    rw [he] at h
                    simp only [cond_true] at h
                    split at h
                    · exact ops_norm f r _ _ _ h
                    · cases h
                · cases h

/-- A pure call by the evaluator. -/
theorem runF_ev (hx : ∀ g args v, xf g args = some v → pr.rel g args v) {gl : Nat → List V} {f : Nat} {g : FuncId} {args : List V} {v : V} (hok : pr.ok gl) (h : runF gl tab xf f g args = some v) (hh : H) : Ev tab pr (.fn true g args hh gl) (.val v hh) := by
  unfold runF at h
  split at h
  · cases h
  · rename_i fn ht
    cases hn : Nat.ble args.length fn.n with
    | false => rw [hn] at h; cases h
    | true =>
      rw [hn] at h
      simp only [cond_true] at h
      split at h
      · rename_i ex st1 hrun
        cases he : ex.ends with
        | false => rw [he] at h; cases h
        | true =>
          rw [he] at h
          simp only [cond_true] at h
          cases hl : leave fn true {} st1 with
          | none => rw [hl] at h; cases h
          | some q =>
            rw [hl] at h
            simp only [Option.map_some, Option.some.injEq] at h
            have hl' : leave fn true hh st1 = some (v, hh) := by
              unfold leave at hl ⊢
              split at hl
              · cases hl
              · rename_i vs hvs
                simp only [cond_true, Option.some.injEq] at hl ⊢
                rw [← h, ← hl]
            exact .fn ht (Nat.le_of_ble_eq_true hn) (run_ev hx f (.code fn.body) _ _ _ (by rw [enter_gl]; exact hok) hrun) he hl'
      · cases h

/-! ### The way to the model -/
/-- The ghost of a world of which nothing but its global rows is known: nothing of it may be written. -/
def Gh.start (W : World) : Gh :=
  { own := fun b => match W.heap[b]? with | some (.cells c _ _) => .ro c.size | _ => .ext, obj := fun _ => none, nt := 0, tip := fun _ => 0, tka := fun _ => (none, 0), lb := fun _ => 0, ib := fun _ => 0 }

theorem start_hrel (W : World) : HRel P (Gh.start W) W {} :=
  ⟨fun id o hg => by simp [al] at hg, fun id b hg => by simp [Gh.start] at hg, rfl, fun t n ty hg => by simp [al] at hg⟩

/-- What a pure call leaves of the world as it was. -/
structure Kept (W W' : World) : Prop where
  tape : W'.tape = W.tape
  os : W'.os = W.os
  out : W'.output = W.output
  sz : W.heap.size ≤ W'.heap.size
  heap : ∀ b, b < W.heap.size → W'.heap[b]? = W.heap[b]?

/-- A law's function, called with plain values. -/
theorem calls_of_ev (hg : Good P K tab pr) {gl : Nat → List V} {g : FuncId} {args : List V} {v : V} {fn : AFunc} {ex : AEx} {st1 : St} (ht : tab g = some fn) (hn : args.length ≤ fn.n)
    (hc : Ev tab pr (.code fn.body (St.enter gl fn true args {})) (.fin ex st1)) (he : ex.ends = true) (hl : leave fn true {} st1 = some (v, {})) {W : World} {cs : Array Value} (hv : VRs (Gh.start W) W args cs)
    (hgl : ∀ g, stripL (gl g) = gl g ∧ VR (Gh.start W) W (.ip (gl g) 0) (.pointer (some ⟨g, 0, none⟩))) :
    Calls P g cs W fun | .returned c, W' => Kept W W' ∧ ∃ G', VR G' W' v c | _, _ => False := by
  have := (fn_calls hg ht hn (sound hg hc) he hl hv (start_hrel W) hgl).2
  refine this.mono fun e W' h => ?_
  cases e with
  | panicked _ => exact h.elim
  | outgrown => exact h.elim
  | returned c =>
    obtain ⟨G', e, hr, hm, hvr⟩ := h
    refine ⟨⟨e.tape, e.os, e.out, e.sz, fun b hb => ?_⟩, G', hvr⟩
    cases ho : (Gh.start W).own b with
    | ext => exact (e.e1 b hb ho).1
    | ro f => exact (e.ro b f ho hb).1
    | _ => simp only [Gh.start] at ho; split at ho <;> cases ho

end
end Ai
