/- The abstract interpreter: one operation is what the model does. -/
import Derived.Test.YtbhclhgljnoioaaDoorAiS
namespace Ai
open Go

section
variable {P : Program} {kl : List (Nat × List Nat)} {G : Gh} {W : World} {st : St} {A : Act}

/-- The model's operation has come to what ours has. -/
def StepOK (P : Program) (kl : List (Nat × List Nat)) (G : Gh) (W : World) (stf : St) (A : Act) (o : Oper) : Prop :=
  ∃ nx c G' W', (execOp A.eval o).run P W = .ok nx W' ∧ (nx = .value c ∨ nx = .skip ∧ c = undef) ∧ Ext G W G' W' ∧ StRel P kl G' W' stf (A.put o.dst c)

theorem run_v (s : Sem Value) : (do pure (Next.value (← s)) : Sem Next).run P W = (s.run P W).andThen fun c w => .ok (.value c) w := by
  rw [Sem.run_bind]; rfl

theorem run_u (s : Sem Unit) : (do s; pure Next.skip : Sem Next).run P W = (s.run P W).andThen fun _ w => .ok .skip w := by
  rw [Sem.run_bind]; rfl

theorem step_of_post {o : Oper} {st' : St} {v : V} {r : Result Value} (h : Post P kl G W st' A v r) (hp : v.plain = true) (he : (execOp A.eval o).run P W = r.andThen fun c w => .ok (.value c) w) :
    StepOK P kl G W (st'.put o.dst v) A o := by
  obtain ⟨c, G', W', rfl, h2, h3, h4⟩ := h
  exact ⟨.value c, c, G', W', he, .inl rfl, h2, h3.put' h4 o.dst (plain_l hp) (plain_it hp)⟩

theorem step_here {o : Oper} (hs : StRel P kl G W st A) {v : V} {c : Value} (hv : VR G W v c) (hp : v.plain = true) (he : (execOp A.eval o).run P W = .ok (.value c) W) :
    StepOK P kl G W (st.put o.dst v) A o :=
  ⟨.value c, c, G, W, he, .inl rfl, Ext.refl G W, hs.put' hv o.dst (plain_l hp) (plain_it hp)⟩

theorem al_mem {α : Type} : ∀ {l : List (Nat × α)} {k : Nat} {x : α}, al l k = some x → (k, x) ∈ l
  | [], _, _, h => by cases h
  | (j, y) :: r, k, x, h => by
    simp only [al] at h
    cases hb : Nat.beq j k with
    | true =>
      rw [hb] at h
      simp only [cond_true, Option.some.injEq] at h
      subst h
      rw [Nat.eq_of_beq_eq_true hb]
      exact .head _
    | false => rw [hb] at h; exact .tail _ (al_mem h)

/-- A value that may be a pointer to the frame's own variable is put where it may be put. -/
theorem put_raw (hs : StRel P kl G W st A) {x : Operand} {ax : Opd} (ho : opdOk A.tmps.size x ax = true) {d : Nat} (hr : rawOk kl d ax = true) {v : V} {c : Value} (hv : VR G W v c) (hit : v ≠ .it)
    (hl : ∀ r o, v = .l r o → c = .pointer (some ⟨G.lb r, o, none⟩) ∧ ∃ o', st.raw ax = .l r o') : StRel P kl G W (st.put (some d) v) (A.put (some d) c) := by
  refine hs.put hv d (fun r o e => ?_) (fun e => absurd e hit)
  obtain ⟨h1, o', h2⟩ := hl r o e
  refine ⟨h1, ?_⟩
  obtain ⟨_, i, _, hi, ks, h3, h4⟩ := opd_l hs ho h2
  subst hi
  simp only [rawOk, List.all_eq_true] at hr
  have := hr (r, ks) (al_mem h3)
  simp only [Bool.or_eq_true, Bool.not_eq_true', List.contains_eq_mem, decide_eq_true_eq, decide_eq_false_iff_not] at this
  rcases this with h | h
  · exact absurd h4 h
  · exact ⟨ks, h3, h⟩

theorem mov_sound (hs : StRel P kl G W st A) {o : Oper} {x : Operand} {ax : Opd} {d : Nat} (hd : o.dst = some d) (ho : opdOk A.tmps.size x ax = true) (hr : rawOk kl d ax = true) {v : V} {st' : St}
    (h : (match st.raw ax with | .it => none | v => some (v, st)) = some (v, st')) (he : (execOp A.eval o).run P W = .ok (.value (A.eval x)) W) : StepOK P kl G W (st'.put o.dst v) A o := by
  have hv := opd_raw hs ho
  have key : st.raw ax = v ∧ st' = st ∧ v ≠ .it := by
    split at h
    · cases h
    · rename_i hne
      simp only [Option.some.injEq, Prod.mk.injEq] at h
      exact ⟨h.1, h.2.symm, fun e => hne (h.1.trans e)⟩
  obtain ⟨h1, h2, h3⟩ := key
  subst h2
  rw [h1] at hv
  refine ⟨.value _, A.eval x, G, W, he, .inl rfl, Ext.refl G W, ?_⟩
  rw [hd]
  exact put_raw hs ho hr hv h3 (fun r o' e => by
    subst e
    exact ⟨(opd_l hs ho h1).1, o', h1⟩)

theorem nilck_sound (hs : StRel P kl G W st A) {o : Oper} {x : Operand} {ax : Opd} {d : Nat} (hd : o.dst = some d) (hop : o.op = .nilCheck x) (ho : opdOk A.tmps.size x ax = true) (hr : rawOk kl d ax = true) {v : V} {st' : St}
    (h : step st d (.nilck ax) = some (v, st')) : StepOK P kl G W (st'.put o.dst v) A o := by
  have hv := opd_raw hs ho
  have run : ∀ c, A.eval x = c → (match c with | .pointer none => False | .nilIface => False | .nilFunc => False | .func (.method _) _ _ => False | _ => True) → (execOp A.eval o).run P W = .ok (.value c) W := by
    intro c hc hcc
    obtain ⟨dst, op, type, pos, after, guard⟩ := o
    simp only at hop
    subst hop
    simp only [execOp, hc]
    split at hcc <;> first | exact hcc.elim | skip
    rename_i h1 h2 h3 h4
    split <;> first | (exact absurd rfl h1) | (exact absurd rfl h2) | (exact absurd rfl h3) | skip
    · exact absurd rfl (h4 _ _ _)
    · rfl
  simp only [step] at h
  split at h
  · rename_i a u heq
    simp only [Option.some.injEq, Prod.mk.injEq] at h
    obtain ⟨rfl, rfl⟩ := h
    rw [heq] at hv
    generalize hc : A.eval x = c at hv
    cases hv with | p _ _ b hb =>
    refine ⟨.value _, _, G, W, run _ hc trivial, .inl rfl, Ext.refl G W, ?_⟩
    rw [hd]
    exact hs.put (.p a u b hb) d (fun r o e => by cases e) (fun e => by cases e)
  · rename_i a u heq
    simp only [Option.some.injEq, Prod.mk.injEq] at h
    obtain ⟨rfl, rfl⟩ := h
    have hc := (opd_l hs ho heq).1
    refine ⟨.value _, _, G, W, run _ hc trivial, .inl rfl, Ext.refl G W, ?_⟩
    rw [hd]
    exact put_raw hs ho hr (.l a u _) (by simp) (fun r o e => by cases e; exact ⟨rfl, _, heq⟩)
  · rename_i y ys u heq
    simp only [Option.some.injEq, Prod.mk.injEq] at h
    obtain ⟨rfl, rfl⟩ := h
    rw [heq] at hv
    generalize hc : A.eval x = c at hv
    have hv0 := hv
    cases hv with | ip _ _ p b of cs ha hi hcc hvv =>
    have hp := ha (by simp)
    subst hp
    refine ⟨.value _, _, G, W, run _ hc trivial, .inl rfl, Ext.refl G W, ?_⟩
    rw [hd]
    exact hs.put hv0 d (fun r o e => by cases e) (fun e => by cases e)
  · rename_i f a b heq
    simp only [Option.some.injEq, Prod.mk.injEq] at h
    obtain ⟨rfl, rfl⟩ := h
    rw [heq] at hv
    generalize hc : A.eval x = c at hv
    have hv0 := hv
    cases hv
    refine ⟨.value _, _, G, W, run _ hc trivial, .inl rfl, Ext.refl G W, ?_⟩
    rw [hd]
    exact hs.put hv0 d (fun r o e => by cases e) (fun e => by cases e)
  · rename_i t u heq
    simp only [Option.some.injEq, Prod.mk.injEq] at h
    obtain ⟨rfl, rfl⟩ := h
    rw [heq] at hv
    generalize hc : A.eval x = c at hv
    have hv0 := hv
    cases hv
    refine ⟨.value _, _, G, W, run _ hc trivial, .inl rfl, Ext.refl G W, ?_⟩
    rw [hd]
    exact hs.put hv0 d (fun r o e => by cases e) (fun e => by cases e)
  · cases h

end
end Ai
