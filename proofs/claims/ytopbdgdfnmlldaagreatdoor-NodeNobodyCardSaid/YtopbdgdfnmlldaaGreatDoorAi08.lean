/- The abstract interpreter: a range over a function that yields nothing: the steps, and the marks among the deferred calls. -/
import Derived.Test.YtopbdgdfnmlldaaGreatDoorAi07
import Derived.RangeFuncRecord
namespace Ai
open Go

/-- The mark that a range over a function leaves among the deferred calls. -/
def mark (D : Nat) : Deferred := { target := .collected D, args := #[] }

/-- Since then, only marks are new among the deferred calls. -/
def Mk (W : World) (A : Act) (G' : Gh) (W' : World) (A' : Act) : Prop :=
  ∃ ds : List Nat, A'.defers = ds.map mark ++ A.defers ∧ ds.Nodup ∧ ∀ D ∈ ds, W.heap.size ≤ D ∧ W'.heap[D]? = some (.deferred (some [])) ∧ G'.own D = .ext

theorem Mk.of_eq {W W' : World} {A A' : Act} {G' : Gh} (h : A'.defers = A.defers) : Mk W A G' W' A' := ⟨[], by simpa using h, .nil, fun D hD => by cases hD⟩

theorem Mk.trans {W W1 W2 : World} {A A1 A2 : Act} {G1 G2 : Gh} (h : Mk W A G1 W1 A1) (e : Ext G1 W1 G2 W2) (hz : W.heap.size ≤ W1.heap.size) (k : Mk W1 A1 G2 W2 A2) : Mk W A G2 W2 A2 := by
  obtain ⟨ds, h1, h2, h3⟩ := h
  obtain ⟨es, k1, k2, k3⟩ := k
  have lt : ∀ D ∈ ds, D < W1.heap.size := fun D hD => (Array.getElem?_eq_some_iff.1 (h3 D hD).2.1).1
  refine ⟨es ++ ds, by rw [k1, h1, List.map_append, List.append_assoc], ?_, ?_⟩
  · refine List.nodup_append.2 ⟨k2, h2, fun a ha b hb e => ?_⟩
    have := (k3 a ha).1
    have := lt b hb
    omega
  · intro D hD
    rcases List.mem_append.1 hD with hD | hD
    · obtain ⟨a, b, c⟩ := k3 D hD
      exact ⟨by omega, b, c⟩
    · obtain ⟨a, b, c⟩ := h3 D hD
      obtain ⟨q1, q2⟩ := e.e1 D (lt D hD) c
      exact ⟨a, q1.trans b, q2⟩

/-! ### A block of somebody else's is changed -/
section
variable {P : Program} {G : Gh} {W : World} {D : Nat} {o : Go.Obj}

theorem putObj_ne {b : Nat} (h : b ≠ D) : (W.putObj D o).heap[b]? = W.heap[b]? := World.putObj_heap_other h

theorem put_cell {b j : Nat} {v : Value} (hD : bsz W D = 0) (h : W.cell? ⟨b, j, none⟩ = some v) : (W.putObj D o).cell? ⟨b, j, none⟩ = some v := by
  by_cases hb : b = D
  · subst hb
    exfalso
    unfold bsz at hD
    unfold World.cell? at h
    cases ho : W.heap[b]? with
    | none => rw [ho] at h; simp at h
    | some x =>
      rw [ho] at h hD
      cases x with
      | cells c t fz => simp only at hD; have : c = #[] := Array.eq_empty_of_size_eq_zero hD; subst this; simp at h
      | _ => simp at h
  · rw [cell?_congr (putObj_ne hb)]; exact h

theorem put_bsz (hD : bsz W D = 0) (b : Nat) : bsz W b ≤ bsz (W.putObj D o) b := by
  by_cases hb : b = D
  · subst hb; rw [hD]; exact Nat.zero_le _
  · rw [bsz_congr (putObj_ne hb)]; exact Nat.le_refl _

theorem VR.putX (hD : bsz W D = 0) {v : V} {c : Value} (h : VR G W v c) : VR G (W.putObj D o) v c := by
  induction h with
  | any c => exact .any c
  | it c => exact .it c
  | l d o c => exact .l d o c
  | b x => exact .b x
  | i k n => exact .i k n
  | s l s h => exact .s l s h
  | sl xs n tk a cap b o' cs hn ha hi hc hv ht ih => exact .sl xs n tk a cap b o' cs hn ha hi (fun j hj => put_cell hD (hc j hj)) ih ht
  | ip xs q p b o' cs ha hi hc hv ih => exact .ip xs q p b o' cs ha hi (fun j hj => put_cell hD (hc j hj)) ih
  | sd xs n tk p b o' cap cs ha hi hc hv ht ih => exact .sd xs n tk p b o' cap cs ha hi (fun j hj => put_cell hD (hc j hj)) ih ht
  | hs id off n sz b cap a h hn ha hz hb => exact .hs id off n sz b cap a h hn ha hz (Nat.le_trans hb (put_bsz hD b))
  | p id o b h => exact .p id o b h
  | nilp => exact .nilp
  | m0 => exact .m0
  | m id b h => exact .m id b h
  | fn f x y a c h1 h2 h3 h4 ih2 ih4 => exact .fn f x y a c h1 ih2 h3 ih4
  | nilf => exact .nilf
  | ifc t v c h ih => exact .ifc t v c ih
  | nili => exact .nili
  | agg x a h1 h2 ih => exact .agg x a h1 ih
  | tup x a h1 h2 ih => exact .tup x a h1 ih

theorem CellsRel.putX (hD : bsz W D = 0) {b : Nat} (hb : b ≠ D) {ty : TypeId} {cs : List V} (h : CellsRel G W b ty cs) : CellsRel G (W.putObj D o) b ty cs := by
  obtain ⟨c, fz, h1, h2, h3, h4⟩ := h.ex
  exact ⟨c, fz, (putObj_ne hb).trans h1, h2, h3, fun j hj => (h4 j hj).putX hD⟩

theorem MapRel.putX (hD : bsz W D = 0) {b : Nat} (hb : b ≠ D) {es : List (V × V)} (h : MapRel G W b es) : MapRel G (W.putObj D o) b es := by
  obtain ⟨c, k, h1, h2, h3⟩ := h.ex
  exact ⟨c, k, (putObj_ne hb).trans h1, h2, fun j hj => ⟨(h3 j hj).1.putX hD, (h3 j hj).2.putX hD⟩⟩

theorem HRel.putX (hD : bsz W D = 0) (hx : G.own D = .ext) {h : H} (hr : HRel P G W h) : HRel P G (W.putObj D o) h where
  objs := fun id ob hg => by
    obtain ⟨b, h1, h2, h3⟩ := hr.objs id ob hg
    have hb : b ≠ D := fun e => by rw [e, hx] at h2; cases h2
    refine ⟨b, h1, h2, ?_⟩
    cases ob with
    | cells ty cs => exact CellsRel.putX hD hb h3
    | map es => exact MapRel.putX hD hb h3
  next := hr.next
  nt := hr.nt
  tips := fun t n ty hg => by
    obtain ⟨h1, h2, h3⟩ := hr.tips t n ty hg
    refine ⟨h1, h2, ?_⟩
    rcases h3 with h3 | ⟨b, base, cap, c, fz, q1, q2, q3, q4⟩
    · exact .inl h3
    · have hb : b ≠ D := fun e => by rw [e, hx] at q2; cases q2
      exact .inr ⟨b, base, cap, c, fz, q1, q2, (putObj_ne hb).trans q3, q4⟩

theorem StRel.putX (hD : bsz W D = 0) (hx : G.own D = .ext) (hc : ∀ c t fz, W.heap[D]? ≠ some (.cells c t fz)) {kl : List (Nat × List Nat)} {st : St} {A : Act} (hs : StRel P kl G W st A) : StRel P kl G (W.putObj D o) st A where
  T := fun i hi => (hs.T i hi).putX hD
  L := hs.L
  I := hs.I
  loc := fun d cs hg => by
    obtain ⟨h1, ty, h2⟩ := hs.loc d cs hg
    exact ⟨h1, ty, h2.putX hD (fun e => by rw [e, hx] at h1; cases h1)⟩
  its := fun d l p hg => by
    obtain ⟨h1, s, h2, h3⟩ := hs.its d l p hg
    exact ⟨h1, s, (putObj_ne (fun e => by rw [e, hx] at h1; cases h1)).trans h2, h3⟩
  mem := hs.mem.putX hD hx
  gl := fun g => by
    obtain ⟨h1, h2, h3⟩ := hs.gl g
    refine ⟨h1, h2.putX hD, ?_⟩
    unfold Whole at h3 ⊢
    split at h3
    · obtain ⟨k1, c, t, fz, k2, k3⟩ := h3
      have hb : g ≠ D := fun e => by rw [e] at k2; exact hc _ _ _ k2
      exact ⟨k1, c, t, fz, (putObj_ne hb).trans k2, k3⟩
    · trivial

theorem StRel.defersX {kl : List (Nat × List Nat)} {st : St} {A : Act} (hs : StRel P kl G W st A) (ds : List Deferred) : StRel P kl G W st { A with defers := ds } := ⟨hs.T, hs.L, hs.I, hs.loc, hs.its, hs.mem, hs.gl⟩
theorem Ext.putX {G0 : Gh} {W0 : World} (e : Ext G0 W0 G W) (hz : W0.heap.size ≤ D) : Ext G0 W0 G (W.putObj D o) where
  tape := e.tape
  os := e.os
  out := e.out
  sz := by rw [World.putObj_size]; exact e.sz
  szb := fun b hb => (bsz_congr (putObj_ne (by omega))).trans (e.szb b hb)
  e1 := fun b hb ho => ⟨(putObj_ne (by omega)).trans (e.e1 b hb ho).1, (e.e1 b hb ho).2⟩
  ro := fun b f ho hb => ⟨(putObj_ne (by omega)).trans (e.ro b f ho hb).1, (e.ro b f ho hb).2⟩
  row := fun b t f ho hb => by
    obtain ⟨h1, h2⟩ := e.row b t f ho hb
    exact ⟨fun o ho => (cell?_congr (putObj_ne (by omega))).trans (h1 o ho), h2⟩
  obj := e.obj
  nt := e.nt
  tip := e.tip
end

/-! ### A function leaves with marks -/
theorem step_mark {P : Program} {fr : Frame} {cs : List Frame} {w : World} {D : Nat} {ds : List Deferred} (hm : fr.mode = .returning) (hd : fr.defers = mark D :: ds) (hk : w.heap[D]? = some (.deferred (some []))) :
    Go.step P (lone fr cs w) = .next (lone { fr with defers := ds } cs (w.putObj D (.deferred none))) := by
  have := step_collected (P := P) (cs := cs) (d := mark D) (by rw [hm]; simp) hd rfl (run_takeDeferred hk)
  simpa using this

/-- The world when all marks are taken. -/
def takeAll (W : World) : List Nat → World
  | [] => W
  | D :: r => takeAll (W.putObj D (.deferred none)) r

theorem steps_marks {P : Program} {cs : List Frame} : ∀ (ds : List Nat) (fr : Frame) (w : World), fr.mode = .returning → fr.defers = ds.map mark → ds.Nodup → (∀ D ∈ ds, w.heap[D]? = some (.deferred (some []))) →
    Steps P (lone fr cs w) (lone { fr with defers := [] } cs (takeAll w ds))
  | [], fr, w, hm, hd, _, _ => by
    have : ({ fr with defers := [] } : Frame) = fr := by cases fr; simp only [List.map_nil] at hd; subst hd; rfl
    rw [this]; exact Steps.refl _ _
  | D :: r, fr, w, hm, hd, hn, hh => by
    have h1 := step_mark (P := P) (cs := cs) hm hd (hh D (by simp))
    have hn' := List.nodup_cons.1 hn
    have h2 := steps_marks (P := P) (cs := cs) r { fr with defers := r.map mark } (w.putObj D (.deferred none)) hm rfl hn'.2 (fun E hE => by
      have : E ≠ D := fun e => hn'.1 (e ▸ hE)
      exact (putObj_ne this).trans (hh E (by simp [hE])))
    exact Steps.trans (.one h1) h2

/-- What the body of a function must achieve, where marks may be left. -/
def bodyPostM (P : Program) (fn : Func) (R : Ending → World → Prop) : Exit → Act → World → Prop
  | .normal, a, w | .ret, a, w => ∃ ds : List Nat, a.defers = ds.map mark ∧ ds.Nodup ∧ (∀ D ∈ ds, w.heap[D]? = some (.deferred (some []))) ∧ ∃ v, (results fn a.tmps).run P (takeAll w ds) = .ok v (takeAll w ds) ∧ R (.returned v) (takeAll w ds)
  | _, _, _ => False

theorem calls_of_wpM {P : Program} {f : FuncId} {fn : Func} {c : Code} {args : Array Value} {w : World} {R : Ending → World → Prop}
    (hf : P.funcs[f]? = some fn) (hb : fn.body = some c)
    (h : c.wp P (bodyPostM P fn R) { tmps := args ++ Array.replicate (fn.ntmps - args.size) undef, defers := [] } w) :
    Calls P f args w R := by
  intro cs
  let b : Frame := { (default : Frame) with fn := f, kind := .normal }
  have henter : Frame.enter P f args .normal =
      b.at { tmps := args ++ Array.replicate (fn.ntmps - args.size) undef, defers := [] } [.code c] := by
    simp [Frame.enter, Frame.at, hf, hb, b]
  obtain ⟨e, a', w', hq, harr⟩ := h b [] cs
  rw [← henter] at harr
  cases e with
  | normal =>
    obtain ⟨ds, hd, hn, hh, v, hr, hR⟩ := hq
    have := steps_marks (P := P) (cs := cs) ds { b.at a' [] with mode := .returning } w' rfl hd hn hh
    exact ⟨.returned v, takeAll w' ds, _, hR, Steps.trans (Steps.trans harr (.one step_end)) this, rfl, rfl, rfl, rfl, fn, hf, hr⟩
  | ret =>
    obtain ⟨ds, hd, hn, hh, v, hr, hR⟩ := hq
    obtain ⟨todo, hs⟩ := harr
    have := steps_marks (P := P) (cs := cs) ds { b.at a' todo with mode := .returning } w' rfl hd hn hh
    exact ⟨.returned v, takeAll w' ds, _, hR, Steps.trans hs this, rfl, rfl, rfl, rfl, fn, hf, hr⟩
  | panic chain => exact hq.elim
  | exit id => exact hq.elim
  | goto l => exact hq.elim
  | outgrown => exact hq.elim

theorem takeAll_rel {P : Program} {G0 G : Gh} {W0 : World} {kl : List (Nat × List Nat)} {st : St} {A : Act} : ∀ (ds : List Nat) (W : World), ds.Nodup → (∀ D ∈ ds, W0.heap.size ≤ D ∧ W.heap[D]? = some (.deferred (some [])) ∧ G.own D = .ext) →
    Ext G0 W0 G W → StRel P kl G W st A → Ext G0 W0 G (takeAll W ds) ∧ StRel P kl G (takeAll W ds) st A
  | [], W, _, _, e, hs => ⟨e, hs⟩
  | D :: r, W, hn, hh, e, hs => by
    have hn' := List.nodup_cons.1 hn
    obtain ⟨h1, h2, h3⟩ := hh D (by simp)
    have hD : bsz W D = 0 := by unfold bsz; rw [h2]
    refine takeAll_rel r (W.putObj D (.deferred none)) hn'.2 (fun E hE => ?_) (e.putX h1) (hs.putX hD h3 (fun _ _ _ h => by rw [h2] at h; cases h))
    have hne : E ≠ D := fun e => hn'.1 (e ▸ hE)
    obtain ⟨k1, k2, k3⟩ := hh E (by simp [hE])
    exact ⟨k1, (putObj_ne hne).trans k2, k3⟩

/-! ### The range -/
/-- What the machine does at a range over a function whose one call yields nothing. -/
theorem wp_rfun {P : Program} {f : Operand} {ps : Array Tmp} {assign body : Code} {Q : Exit → Act → World → Prop} {A : Act} {W : World} {g : FuncId} {lb : Array Value} (hf : A.eval f = .func (.func g) #[] lb)
    (eg : ∀ args w, (callFunc g args).run P w = .ok (.enter g args) w)
    (h : ∀ (fn : FuncId), ∃ l : Loop, l.state ≠ .busy ∧ l.pending = none ∧
      Calls P g (#[.func (.yield (W.heap.size + 1)) #[] #[]] ++ lb) ((W.alloc (.deferred (some []))).alloc (.loop l)) (fun | .returned _, W2 => W2.heap[W.heap.size + 1]? = some (.loop l) ∧ Q .normal { A with defers := mark W.heap.size :: A.defers } (W2.putObj (W.heap.size + 1) (.loop { l with state := .exhausted })) | _, _ => False) ∧
      l = { state := .ready, pending := none, fn, tmps := A.tmps, params := ps, assign, body, defers := W.heap.size }) :
    (Code.rangeFunc f ps assign body).wp P Q A W := by
  intro b k cs
  obtain ⟨l, hl1, hl2, hc, hl⟩ := h b.fn
  let b0 : Frame := { b with roundOf := none }
  have hb : ∀ a todo, b.at a todo = b0.atR a todo := fun a todo => by rw [Frame.atR_of_none rfl]; rfl
  have he : (Instr.enterLoop b0.fn A.tmps ps assign body b0.roundOf).run P W = .ok (W.heap.size + 1, [mark W.heap.size]) ((W.alloc (.deferred (some []))).alloc (.loop l)) := by
    rw [hl]; exact run_enterLoop_outer _ _ _ _ _
  have hres : (resolve A.eval (rangeCall f (W.heap.size + 1)) 0).run P ((W.alloc (.deferred (some []))).alloc (.loop l)) = .ok { target := .fn (.func g) lb, args := #[.func (.yield (W.heap.size + 1)) #[] #[]] } ((W.alloc (.deferred (some []))).alloc (.loop l)) := by
    simp only [resolve, hf]
    simp [Deferred.ofValue]
    rfl
  have hinv : (invoke (.fn (.func g) lb) #[.func (.yield (W.heap.size + 1)) #[] #[]]).run P ((W.alloc (.deferred (some []))).alloc (.loop l)) = .ok (.enter g (#[.func (.yield (W.heap.size + 1)) #[] #[]] ++ lb)) ((W.alloc (.deferred (some []))).alloc (.loop l)) := by
    simp [invoke, eg]
  have s1 := stepR_rangeFunc (P := P) (b := b0) (a := A) (k := k) (cs := cs) (w := W) he hres hinv
  obtain ⟨e, W2, fr, hR, hsteps, hfn, hleave⟩ := hc (b0.atR { A with defers := [mark W.heap.size] ++ A.defers } (.inRangeFunc (W.heap.size + 1) :: k) :: cs)
  cases e with
  | panicked chain => exact hR.elim
  | outgrown => exact hR.elim
  | returned v =>
    obtain ⟨hl2', hq⟩ := hR
    have s2 := step_leave_returned (cs := cs) (c := b0.atR { A with defers := [mark W.heap.size] ++ A.defers } (.inRangeFunc (W.heap.size + 1) :: k)) hleave
    rw [finish_atR_inRangeFunc] at s2
    have hE : (Instr.endLoop (W.heap.size + 1)).run P W2 = .ok none (W2.putObj (W.heap.size + 1) (.loop { l with state := .exhausted })) := (run_endLoop (P := P) hl2' hl1).trans (by rw [hl2])
    have s3 := stepR_endRangeFunc (b := b0) (a := { A with defers := [mark W.heap.size] ++ A.defers }) (k := k) (cs := cs) hE
    refine ⟨.normal, _, _, hq, ?_⟩
    rw [hb]
    show Steps P _ (lone (b.at _ k) cs _)
    rw [hb]
    exact Steps.trans (.one s1) (Steps.trans hsteps (Steps.trans (.one s2) (.one s3)))
end Ai
