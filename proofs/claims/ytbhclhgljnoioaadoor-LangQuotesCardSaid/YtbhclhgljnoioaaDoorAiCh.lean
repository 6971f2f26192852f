/- The abstract interpreter: a region's operations, one by one; which of them may change places. -/
import Derived.Test.YtbhclhgljnoioaaDoorAiZa
import Derived.Test.YtbhclhgljnoioaaDoorAiBf
import Derived.Orders
namespace Ai
open Go

/-- A call comes back with what K says. -/
def Reach (P : Program) (g : FuncId) (cs : Array Value) (W : World) (K : Value → World → Prop) : Prop :=
  ∀ (o : Oper) (a : Act) (next : Act → World → Prop) (Q : Exit → Act → World → Prop), (∀ c W', K c W' → next (a.put o.dst c) W') → o.upon P a next Q ((callFunc g cs).run P W)

/-- What a call comes to. -/
def CallPost (P : Program) (G : Gh) (W : World) (v : V) (h' : H) (c : Value) (W' : World) : Prop :=
  ∃ G', Ext G W G' W' ∧ HRel P G' W' h' ∧ Mine G W G' W' ∧ VR G' W' v c

/-- What a function does. A call that is handed plain values alone does so in every memory. -/
def MFn (P : Program) (p : Bool) (g : FuncId) (args : List V) (h : H) (gl : Nat → List V) (v : V) (hh : H) : Prop :=
  v.plain = true ∧ (p = true → hh = h) ∧ ∀ h1 h2 : H, (p = true → h2 = h1) → (p = false → h1 = h ∧ h2 = hh) →
    ∀ (G : Gh) (W : World) (cs : Array Value), VRs G W args cs → HRel P G W h1 → (∀ g, stripL (gl g) = gl g ∧ VR G W (.ip (gl g) 0) (.pointer (some ⟨g, 0, none⟩))) → Reach P g cs W (CallPost P G W v h2)

/-- One operation. -/
inductive One (P : Program) (o : AOper) (st : St) : St → Prop
  | pass (hw : wanted st o = some false) : One P o st (st.put o.dst (.tup []))
  | step {st' : St} {v : V} (hw : wanted st o = some true) (hc : callee st o.op = none) (hs : step st (o.dst.getD 0) o.op = some (v, st')) : One P o st (st'.put o.dst v)
  | call {p : Bool} {g : FuncId} {args : List V} {v : V} {hh : H} (hw : wanted st o = some true) (hc : callee st o.op = some (p, g, args)) (hf : MFn P p g args st.h st.gl v hh) :
      One P o st ({ st with h := hh }.put o.dst v)

inductive Chain (P : Program) : List AOper → St → St → Prop
  | nil (st : St) : Chain P [] st st
  | cons {o : AOper} {r : List AOper} {st st1 st2 : St} (h : One P o st st1) (k : Chain P r st1 st2) : Chain P (o :: r) st st2

/-! ### Which may change places -/
def tmpsOf : List Opd → List Nat
  | [] => []
  | .t i :: r => i :: tmpsOf r
  | _ :: r => tmpsOf r

def AOper.reads (o : AOper) : List Nat :=
  match o.guard with
  | some (t, _) => t :: tmpsOf o.op.opds
  | none => tmpsOf o.op.opds

def apartT (a b : AOper) : Bool :=
  match a.dst with
  | none => true
  | some d => !(b.reads.contains d) && !(match b.dst with | some e => Nat.beq d e | none => false)

def indep (a b : AOper) : Bool :=
  apartT a b && apartT b a && !Nat.beq a.op.cls 0 && !Nat.beq b.op.cls 0 && (Nat.ble a.op.cls 2 || Nat.beq b.op.cls 1) && (Nat.ble b.op.cls 2 || Nat.beq a.op.cls 1)

theorem mem_tmpsOf : ∀ {l : List Opd} {i : Nat}, Opd.t i ∈ l → i ∈ tmpsOf l
  | [], i, h => by cases h
  | x :: r, i, h => by
    rcases List.mem_cons.1 h with rfl | h
    · simp [tmpsOf]
    · have := mem_tmpsOf h
      cases x <;> simp [tmpsOf, this]

/-- Two states that an operation takes for the same. -/
structure Alike (o : AOper) (st st' : St) : Prop where
  T : ∀ i ∈ o.reads, st'.T.get i = st.T.get i
  gl : st'.gl = st.gl
  mem : o.op.cls ≠ 1 → st'.loc = st.loc ∧ st'.h = st.h

theorem Alike.raw {o : AOper} {st st' : St} (a : Alike o st st') : ∀ x ∈ o.op.opds, st'.raw x = st.raw x := by
  intro x hx
  cases x with
  | t i =>
    refine a.T i ?_
    unfold AOper.reads
    split
    · exact List.mem_cons_of_mem _ (mem_tmpsOf hx)
    · exact mem_tmpsOf hx
  | k v => rfl
  | f g => rfl
  | g g => simp only [St.raw, a.gl]

theorem Alike.wanted {o : AOper} {st st' : St} (a : Alike o st st') : wanted st' o = wanted st o := by
  unfold Ai.wanted
  cases hg : o.guard with
  | none => rfl
  | some p =>
    obtain ⟨t, w⟩ := p
    have := a.T t (by unfold AOper.reads; rw [hg]; simp)
    simp only [this]

/-- What an operation that may change places does, and does again. -/
theorem One.frame {P : Program} {o : AOper} {st st1 : St} (h : One P o st st1) (hc : o.op.cls ≠ 0) :
    ∃ (v : V) (m : St), st1 = (st.memOf m).put o.dst v ∧ (o.op.cls ≠ 3 → m.loc = st.loc ∧ m.h = st.h) ∧
      ∀ st', Alike o st st' → ∃ m', One P o st' ((st'.memOf m').put o.dst v) ∧ (o.op.cls ≠ 3 → m'.loc = st'.loc ∧ m'.h = st'.h) ∧ (o.op.cls = 3 → m'.loc = m.loc ∧ m'.h = m.h) := by
  have hle : o.op.cls = 1 ∨ o.op.cls = 2 ∨ o.op.cls = 3 := by
    unfold AOp.cls at hc ⊢
    split at hc <;> first | (simp; done) | (exact absurd rfl hc) | skip
    rename_i c _ _
    cases c.reads <;> simp
  cases h with
  | pass hw =>
    refine ⟨.tup [], st, rfl, fun _ => ⟨rfl, rfl⟩, fun st' a => ⟨st', .pass (by rw [a.wanted]; exact hw), fun _ => ⟨rfl, rfl⟩, fun h3 => ?_⟩⟩
    exact a.mem (by omega)
  | @step st2 v hw hcal hs =>
    rcases hle with h1 | h1 | h1
    · have key : ∀ st', Alike o st st' → st2 = st ∧ Ai.step st' (o.dst.getD 0) o.op = some (v, st') := fun st' a => step_same (.inl h1) a.raw (fun h2 => by omega) hs
      obtain ⟨e, _⟩ := key st ⟨fun _ _ => rfl, rfl, fun _ => ⟨rfl, rfl⟩⟩
      subst e
      refine ⟨v, st2, rfl, fun _ => ⟨rfl, rfl⟩, fun st' a => ⟨st', .step (by rw [a.wanted]; exact hw) ?_ (key st' a).2, fun _ => ⟨rfl, rfl⟩, fun h3 => by omega⟩⟩
      exact callee_of_step hs st'
    · have key : ∀ st', Alike o st st' → st2 = st ∧ Ai.step st' (o.dst.getD 0) o.op = some (v, st') := fun st' a => step_same (.inr h1) a.raw (fun _ => a.mem (by omega)) hs
      obtain ⟨e, _⟩ := key st ⟨fun _ _ => rfl, rfl, fun _ => ⟨rfl, rfl⟩⟩
      subst e
      refine ⟨v, st2, rfl, fun _ => ⟨rfl, rfl⟩, fun st' a => ⟨st', .step (by rw [a.wanted]; exact hw) ?_ (key st' a).2, fun _ => ⟨rfl, rfl⟩, fun h3 => by omega⟩⟩
      exact callee_of_step hs st'
    · have hst : ∃ n a x, o.op = .store n a x := by
        unfold AOp.cls at h1
        split at h1 <;> first | (cases h1; done) | (rename_i n a x _; exact ⟨n, a, x, by assumption⟩) | skip
        rename_i c _ _; cases hr : c.reads <;> rw [hr] at h1 <;> cases h1
      obtain ⟨n, ad, x, hop⟩ := hst
      have key : ∀ st', Alike o st st' → st2 = st.memOf st2 ∧ Ai.step st' (o.dst.getD 0) o.op = some (v, st'.memOf st2) := fun st' a => by
        have m := a.mem (by omega)
        have hr := a.raw
        rw [hop] at hs hr ⊢
        exact step_store (hr ad (by simp [AOp.opds])) (hr x (by simp [AOp.opds])) m.1 m.2 hs
      obtain ⟨e, _⟩ := key st ⟨fun _ _ => rfl, rfl, fun _ => ⟨rfl, rfl⟩⟩
      refine ⟨v, st2, by rw [← e], fun h => absurd h1 h, fun st' a => ⟨st2, .step (by rw [a.wanted]; exact hw) ?_ (key st' a).2, fun h => absurd h1 h, fun _ => ⟨rfl, rfl⟩⟩⟩
      exact callee_of_step hs st'
  | @call p g args v hh hw hcal hf =>
    have hp : p = true ∧ o.op.cls = 1 := by
      unfold callee at hcal
      split at hcal
      · rename_i q f as heq
        simp only [Option.some.injEq, Prod.mk.injEq] at hcal
        rw [heq] at hc ⊢
        cases q with
        | true => exact ⟨hcal.1.symm, rfl⟩
        | false => exact absurd rfl hc
      · rename_i q x as heq
        split at hcal
        · simp only [Option.some.injEq, Prod.mk.injEq] at hcal
          rw [heq] at hc ⊢
          cases q with
          | true => exact ⟨hcal.1.symm, rfl⟩
          | false => exact absurd rfl hc
        · cases hcal
      · cases hcal
    obtain ⟨rfl, h1⟩ := hp
    have hhh := hf.2.1 rfl
    subst hhh
    refine ⟨v, st, rfl, fun _ => ⟨rfl, rfl⟩, fun st' a => ⟨st', ?_, fun _ => ⟨rfl, rfl⟩, fun h3 => by omega⟩⟩
    have hcal' : callee st' o.op = some (true, g, args) := by
      have hr := a.raw
      unfold callee at hcal ⊢
      split at hcal
      · rename_i q f as heq
        rw [heq] at hr
        simp only [Option.some.injEq, Prod.mk.injEq] at hcal ⊢
        rw [evL_congr (st := st) (fun x hx => hr x (by simpa [AOp.opds] using hx))]
        exact hcal
      · rename_i q x as heq
        rw [heq] at hr
        have e1 := hr x (by simp [AOp.opds])
        have e2 := evL_congr (st := st) (st' := st') (xs := as) (fun y hy => hr y (by simp [AOp.opds, hy]))
        simp only [St.ev, e1, e2] at hcal ⊢
        exact hcal
      · cases hcal
    refine One.call (P := P) (st := st') (hh := st'.h) (by rw [a.wanted]; exact hw) hcal' ⟨hf.1, fun _ => rfl, fun h1' h2' e1 e2 => ?_⟩
    rw [a.gl]
    exact hf.2.2 h1' h2' e1 (fun h => by cases h)

end Ai
