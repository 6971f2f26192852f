/- The abstract interpreter: each operation that is no call of a function is what the model does. -/
import Derived.Test.YtbhclhgljnoioaaDoorAiV
namespace Ai
open Go

theorem dst_some {dst : Option Nat} {f : Nat → Bool} (h : (match dst with | some d => f d | none => false) = true) : ∃ d, dst = some d ∧ f d = true := by
  cases dst with
  | none => cases h
  | some d => exact ⟨d, rfl, h⟩

section
variable {P : Program} {K : Known} {kl : List (Nat × List Nat)} {G : Gh} {W : World} {st : St} {A : Act}

/-- What is known of functions without a body is true. -/
def Known.OK (K : Known) (P : Program) : Prop := ∀ f, K.same.contains f = true → ∀ (v : Value) (w : World), (callFunc f #[v]).run P w = .ok (.value v) w

theorem run_call_builtin {b : Builtin} {args : Array Operand} {ts : Array TypeId} {ty : TypeId} :
    ∃ consts, ((do let d ← resolve A.eval { callee := .builtin b, args := args, argTypes := ts } ty; invoke d.target d.args) : Sem Next).run P W =
      (builtin b ts ty consts (args.map A.eval)).run P W := by
  simp only [resolve, Sem.run_bind, Sem.run_pure, Result.andThen_ok, invoke]
  exact ⟨_, rfl⟩

theorem array_two {α β : Type} {xs : Array α} {x y : α} (h : xs.toList = [x, y]) (f : α → β) : xs.map f = #[f x, f y] := by
  apply Array.ext'; rw [Array.toList_map, h]; rfl

theorem array_one {α β : Type} {xs : Array α} {x : α} (h : xs.toList = [x]) (f : α → β) : xs.map f = #[f x] := by
  apply Array.ext'; rw [Array.toList_map, h]; rfl

theorem toList_one {α : Type} {xs : Array α} {x : α} (h : xs.toList = [x]) : xs = #[x] := by rw [← h]

theorem builtin_sound (hs : StRel P kl G W st A) {o : Oper} {b : Builtin} {args : Array Operand} {ts : Array TypeId} (hop : o.op = .call { callee := .builtin b, args := args, argTypes := ts }) {a : AOp}
    (hk : builtinOk P A.tmps.size b args.toList ts a = true) {v : V} {st' : St} (h : step st (o.dst.getD 0) a = some (v, st')) : StepOK P kl G W (st'.put o.dst v) A o := by
  have fin : ∀ (s : Sem Value), (∀ consts, builtin b ts o.type consts (args.map A.eval) = (do pure (Next.value (← s)))) → Post P kl G W st' A v (s.run P W) → v.plain = true → StepOK P kl G W (st'.put o.dst v) A o := by
    intro s hb hp hpl
    refine step_of_post hp hpl ?_
    obtain ⟨dst, op, type, pos, after, guard⟩ := o
    simp only at hop
    subst hop
    show ((do let d ← resolve A.eval { callee := .builtin b, args := args, argTypes := ts } type; invoke d.target d.args) : Sem Next).run P W = _
    obtain ⟨consts, hc⟩ := run_call_builtin (P := P) (W := W) (A := A) (b := b) (args := args) (ts := ts) (ty := type)
    rw [hc, hb, run_v]
  unfold builtinOk at hk
  split at hk
  · -- len
    rename_i args' x k ax hargs
    simp only [Bool.and_eq_true] at hk
    have hx := opd_ev hs hk.1
    have hk2 := hk.2
    split at hk2
    · rename_i t hts
      have hts' := toList_one hts
      subst hts'
      have hmap := array_one hargs A.eval
      refine fin _ (fun _ => by rw [hmap]; rfl) ?_ ?_
      · simp only [step] at h
        have hlen : ∀ (m : Int) (u : World), (Builtin.len_ #[t] o.type #[A.eval x]).run P u = .ok (.int .i64 m) u → (Builtin.len_ #[t] o.type #[A.eval x]).run P u = .ok (goInt m) u := fun _ _ h => h
        split at h
        · rename_i l heq
          simp only [Option.some.injEq, Prod.mk.injEq] at h
          obtain ⟨rfl, rfl⟩ := h
          have hu := isStr_spec (by simpa [lkOk] using hk2)
          rw [heq] at hx
          generalize A.eval x = c at *
          cases hx with | s _ s hl =>
          subst hl
          refine Post.here hs (c := .int .i64 s.size) ?_ (by have : s.data.toList.length = s.size := Array.length_toList; rw [this]; exact .i _ _)
          simp [Builtin.len_, run_underlying' hu, goInt]
        · rename_i xs n tk heq
          simp only [Option.some.injEq, Prod.mk.injEq] at h
          obtain ⟨rfl, rfl⟩ := h
          simp only [lkOk] at hk2
          split at hk2
          · rename_i e hu
            rw [heq] at hx
            generalize A.eval x = c at *
            cases hx with | sl _ _ _ ad cap b of cs hn ha hi hc hv ht =>
            refine Post.here hs (c := .int .i64 n) ?_ (.i _ _)
            simp [Builtin.len_, run_underlying' hu, goInt]
          · cases hk2
        · rename_i id off n sz heq
          simp only [Option.some.injEq, Prod.mk.injEq] at h
          obtain ⟨rfl, rfl⟩ := h
          simp only [lkOk] at hk2
          split at hk2
          · rename_i e hu
            rw [heq] at hx
            generalize A.eval x = c at *
            cases hx with | hs _ _ _ _ b cap ad hob hn ha =>
            refine Post.here hs (c := .int .i64 n) ?_ (.i _ _)
            simp [Builtin.len_, run_underlying' hu, goInt]
          · cases hk2
        · rename_i heq
          simp only [Option.some.injEq, Prod.mk.injEq] at h
          obtain ⟨rfl, rfl⟩ := h
          simp only [lkOk] at hk2
          split at hk2
          · rename_i e1 e2 hu
            rw [heq] at hx
            generalize A.eval x = c at *
            cases hx
            refine Post.here hs (c := .int .i64 0) ?_ (.i _ _)
            simp [Builtin.len_, run_underlying' hu, goInt]
          · cases hk2
        · rename_i id heq
          split at h
          · rename_i es hob
            simp only [Option.some.injEq, Prod.mk.injEq] at h
            obtain ⟨rfl, rfl⟩ := h
            simp only [lkOk] at hk2
            split at hk2
            · rename_i e1 e2 hu
              rw [heq] at hx
              generalize A.eval x = c at *
              cases hx with | m _ b hgb =>
              obtain ⟨b', e1, _, hm⟩ := hs.mem.objs id _ hob
              rw [e1] at hgb; cases hgb
              obtain ⟨c, clock, g1, g2, _⟩ := MapRel.ex hm
              refine Post.here hs (c := .int .i64 c.size) ?_ (by rw [g2]; exact .i _ _)
              simp [Builtin.len_, run_underlying' hu, goInt, getObj, Sem.run, g1]
            · cases hk2
          · cases h
        · rename_i n heq
          simp only [Option.some.injEq, Prod.mk.injEq] at h
          obtain ⟨rfl, rfl⟩ := h
          simp only [lkOk] at hk2
          split at hk2
          · rename_i m e hu
            have := Nat.eq_of_beq_eq_true hk2
            subst this
            refine Post.here hs (c := .int .i64 m) ?_ (.i _ _)
            simp [Builtin.len_, run_underlying' hu, goInt]
          · cases hk2
        · cases h
      · simp only [step] at h
        split at h <;> first | (cases h; done) | (simp only [Option.some.injEq, Prod.mk.injEq] at h; obtain ⟨rfl, _⟩ := h; rfl) | (split at h <;> first | (cases h; done) | (simp only [Option.some.injEq, Prod.mk.injEq] at h; obtain ⟨rfl, _⟩ := h; rfl))
    · cases hk2
  · -- cap
    rename_i args' x ax hargs
    simp only [Bool.and_eq_true] at hk
    have hx := opd_ev hs hk.1
    have hk2 := hk.2
    split at hk2
    · rename_i t hts
      have hts' := toList_one hts
      subst hts'
      have hmap := array_one hargs A.eval
      simp only [lkOk] at hk2
      split at hk2
      · rename_i e hu
        simp only [step] at h
        split at h
        · rename_i xs n heq
          simp only [Option.some.injEq, Prod.mk.injEq] at h
          obtain ⟨rfl, rfl⟩ := h
          refine fin _ (fun _ => by rw [hmap]; rfl) ?_ rfl
          rw [heq] at hx
          generalize A.eval x = c at *
          cases hx with | sl _ _ _ ad cap b of cs hn ha hi hc hv ht =>
          have hcap : cap = n := ht
          subst hcap
          refine Post.here hs (c := .int .i64 cap) ?_ (.i _ _)
          simp [Builtin.cap_, run_underlying' hu, goInt]
        · rename_i xs n heq
          simp only [Option.some.injEq, Prod.mk.injEq] at h
          obtain ⟨rfl, rfl⟩ := h
          refine fin _ (fun _ => by rw [hmap]; rfl) ?_ rfl
          rw [heq] at hx
          generalize A.eval x = c at *
          cases hx with | sl _ _ _ ad cap b of cs hn ha hi hc hv ht =>
          have hcap : cap = 0 := ht.2
          subst hcap
          refine Post.here hs (c := .int .i64 0) ?_ (.i _ _)
          simp [Builtin.cap_, run_underlying' hu, goInt]
        · cases h
      · cases hk2
    · cases hk2
  · -- append
    rename_i args' x y ty sz ax ay hargs
    simp only [Bool.and_eq_true] at hk
    obtain ⟨⟨k1, k2⟩, k3⟩ := hk
    have hmap := array_two hargs A.eval
    simp only [step] at h
    obtain ⟨p1, p2⟩ := app_sound hs k3 h (opd_ev hs k1) (opd_ev hs k2) o.type
    exact fin _ (fun _ => by rw [hmap]; rfl) p1 p2
  · -- copy
    rename_i args' x y sz ax ay hargs
    simp only [Bool.and_eq_true] at hk
    obtain ⟨⟨k1, k2⟩, k3⟩ := hk
    have hx := opd_ev hs k1
    have hy := opd_ev hs k2
    have hmap := array_two hargs A.eval
    simp only [step] at h
    split at h
    · rename_i id off n sz' ys m heq hrow
      split at h
      · rename_i ty cs hob
        cases hb : (Nat.beq sz sz' && Nat.ble (off + min n m * sz) cs.length && allOne ys) with
        | false => rw [hb] at h; cases h
        | true =>
          rw [hb] at h
          simp only [cond_true, Option.some.injEq, Prod.mk.injEq] at h
          obtain ⟨rfl, rfl⟩ := h
          simp only [Bool.and_eq_true] at hb
          have := Nat.eq_of_beq_eq_true hb.1.1
          subst this
          rw [heq] at hx
          exact fin _ (fun _ => by rw [hmap]; rfl) (copy_sound hs k3 hx hy hrow hob (Nat.le_of_ble_eq_true hb.1.2) hb.2 o.type) rfl
      · cases h
    · rename_i tk yy heq hrow
      simp only [Option.some.injEq, Prod.mk.injEq] at h
      obtain ⟨rfl, rfl⟩ := h
      rw [heq] at hx
      refine fin _ (fun _ => by rw [hmap]; rfl) ?_ rfl
      obtain ⟨t0, e, ht0, hu, hsz, hz⟩ := copyOk_spec k3
      obtain ⟨ys, m⟩ := yy
      obtain ⟨ay', r1, r2, r3⟩ := firstCells_prefix hs hrow hy hz (Nat.zero_le m)
      have hay : ay' = #[] := by
        have := r2.1
        simp only [Nat.zero_mul, List.take_zero, List.length_nil] at this
        exact Array.eq_empty_of_size_eq_zero this.symm
      subst hay
      generalize A.eval x = c at *
      cases hx with | sl _ _ _ ad cap b of cs hn ha hi hc hv ht =>
      refine Post.here hs (c := .int .i64 0) ?_ (.i _ _)
      have hmin : Nat.min m 0 = 0 := Nat.min_zero m
      simp only [Builtin.copy_, ht0, List.getElem?_toArray, List.getElem?_cons_zero, List.getElem?_cons_succ, Sem.run_bind, run_underlying' hu, Result.andThen_ok, r3, hmin, run_sizeOf' hsz, r1]
      cases ad <;> rfl
    · cases h
  · -- min
    rename_i args' x y ax ay hargs
    simp only [Bool.and_eq_true] at hk
    have hx := opd_ev hs hk.1
    have hy := opd_ev hs hk.2
    have hmap := array_two hargs A.eval
    simp only [step] at h
    split at h
    · rename_i k p k' q h1 h2
      simp only [Option.some.injEq, Prod.mk.injEq, cond_false] at h
      obtain ⟨rfl, rfl⟩ := h
      rw [h1] at hx
      rw [h2] at hy
      refine fin _ (fun _ => by rw [hmap]; rfl) ?_ rfl
      generalize A.eval x = c1 at *
      generalize A.eval y = c2 at *
      cases hx; cases hy
      exact Post.here hs rfl (.i _ _)
    · cases h
  · -- max
    rename_i args' x y ax ay hargs
    simp only [Bool.and_eq_true] at hk
    have hx := opd_ev hs hk.1
    have hy := opd_ev hs hk.2
    have hmap := array_two hargs A.eval
    simp only [step] at h
    split at h
    · rename_i k p k' q h1 h2
      simp only [Option.some.injEq, Prod.mk.injEq, cond_true] at h
      obtain ⟨rfl, rfl⟩ := h
      rw [h1] at hx
      rw [h2] at hy
      refine fin _ (fun _ => by rw [hmap]; rfl) ?_ rfl
      generalize A.eval x = c1 at *
      generalize A.eval y = c2 at *
      cases hx; cases hy
      exact Post.here hs rfl (.i _ _)
    · cases h
  · -- unsafe.SliceData
    rename_i args' x ax hargs
    have hx := opd_ev hs hk
    have hmap := array_one hargs A.eval
    simp only [step] at h
    split at h
    · rename_i n heq
      simp only [Option.some.injEq, Prod.mk.injEq] at h
      obtain ⟨rfl, rfl⟩ := h
      rw [heq] at hx
      refine fin _ (fun _ => by rw [hmap]; rfl) ?_ rfl
      generalize A.eval x = c at *
      cases hx with | sl _ _ _ ad cap b of cs hn ha hi hc hv ht =>
      obtain ⟨t1, t2⟩ := ht
      subst t1; subst t2
      exact Post.here hs (c := .pointer none) rfl (.sd [] n .nil none 0 0 0 cs (fun h => absurd rfl h) (fun j hj => by cases hj) (fun j hj => by cases hj) (fun j hj => by cases hj) (fun h => absurd rfl h))
    · rename_i y ys n tk heq
      cases hb : Nat.beq n 0 with
      | true => rw [hb] at h; cases h
      | false =>
        rw [hb] at h
        simp only [cond_false, Option.some.injEq, Prod.mk.injEq] at h
        obtain ⟨rfl, rfl⟩ := h
        rw [heq] at hx
        refine fin _ (fun _ => by rw [hmap]; rfl) ?_ rfl
        generalize A.eval x = c at *
        cases hx with | sl _ _ _ ad cap b of cs hn ha hi hc hv ht =>
        have hp := ha (by simp)
        subst hp
        have hn0 : n ≠ 0 := fun e => by subst e; simp at hb
        refine Post.here hs (c := .pointer (some ⟨b, of, none⟩)) (Lib.run_unsafeSliceData_row W _ _ _ _ _ (by omega)) (.sd _ n tk _ b of cap cs (fun _ => rfl) hi hc hv (fun _ => ht))
    · cases h
  · -- unsafe.String
    rename_i args' x y ty ax ay hargs
    simp only [Bool.and_eq_true] at hk
    obtain ⟨⟨k1, k2⟩, k3⟩ := hk
    have hx := opd_ev hs k1
    have hy := opd_ev hs k2
    have hmap := array_two hargs A.eval
    simp only [step] at h
    split at h
    · rename_i xs n tk m h1 h2
      cases hb : (Nat.beq m n && Nat.beq xs.length n && Nat.ble n most) with
      | false => rw [hb] at h; cases h
      | true =>
        rw [hb] at h
        simp only [cond_true] at h
        simp only [Bool.and_eq_true] at hb
        obtain ⟨⟨b1, b2⟩, b3⟩ := hb
        have := Nat.eq_of_beq_eq_true b1
        subst this
        have hl := Nat.eq_of_beq_eq_true b2
        have hmost := Nat.le_of_ble_eq_true b3
        rw [h1] at hx
        cases hn0 : Nat.beq m 0 with
        | true =>
          rw [hn0] at h
          simp only [cond_true, Option.some.injEq, Prod.mk.injEq] at h
          obtain ⟨rfl, rfl⟩ := h
          exact fin _ (fun _ => by rw [hmap]; rfl) (ustr_sound hs k3 hx hy h2 hl hmost (.inl ⟨Nat.eq_of_beq_eq_true hn0, rfl⟩) o.type) rfl
        | false =>
          rw [hn0] at h
          simp only [cond_false] at h
          have hpos : 0 < m := by
            rcases Nat.eq_zero_or_pos m with h | h
            · subst h; simp at hn0
            · exact h
          split at h
          · rename_i t
            split at h
            · rename_i c u htips
              cases hb2 : (Nat.beq c m && Nat.beq u ty) with
              | false => rw [hb2] at h; cases h
              | true =>
                rw [hb2] at h
                simp only [cond_true] at h
                simp only [Bool.and_eq_true] at hb2
                have e1 := Nat.eq_of_beq_eq_true hb2.1
                have e2 := Nat.eq_of_beq_eq_true hb2.2
                subst e1; subst e2
                cases hby : bytesOf? xs with
                | none => rw [hby] at h; cases h
                | some l =>
                  rw [hby] at h
                  simp only [Option.map_some, Option.some.injEq, Prod.mk.injEq] at h
                  obtain ⟨rfl, rfl⟩ := h
                  exact fin _ (fun _ => by rw [hmap]; rfl) (ustr_sound hs k3 hx hy h2 hl hmost (.inr ⟨t, hpos, rfl, htips, hby⟩) o.type) rfl
            · cases h
          · cases h
    · cases h
  · cases hk

end
end Ai
