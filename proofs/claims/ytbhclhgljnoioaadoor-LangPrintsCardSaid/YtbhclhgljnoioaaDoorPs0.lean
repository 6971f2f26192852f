/- lang: tokens that are taken one by one. -/
import Derived.Test.YtbhclhgljnoioaaDoorLx7
set_option linter.unusedSimpArgs false
set_option linter.unusedVariables false
namespace Go.Proofs.YtbhclhgljnoioaaDoor
open Ai
/-! ### Functions that write, told by what they do -/
noncomputable def pick (g : FuncId) (R : List V → H → V → H → Prop) (a : List V) (h : H) : Option (V × H) := open Classical in if e : ∃ p : V × H, Hp.CompI tabx told g a h p.1 p.2 ∧ R a h p.1 p.2 then some e.choose else none
theorem pick_tells {g : FuncId} {R : List V → H → V → H → Prop} : ∀ a h v h', pick g R a h = some (v, h') → Hp.CompI tabx told g a h v h' := fun a h v h' e => by
  unfold pick at e
  split at e
  · rename_i hp
    have hs := hp.choose_spec
    simp only [Option.some.injEq] at e
    rw [e] at hs
    exact hs.1
  · cases e
theorem pick_spec {g : FuncId} {R : List V → H → V → H → Prop} {a : List V} {h : H} {v : V} {h' : H} (hc : Hp.CompI tabx told g a h v h') (hr : R a h v h') : ∃ v h', pick g R a h = some (v, h') ∧ R a h v h' := by
  have hp : ∃ p : V × H, Hp.CompI tabx told g a h p.1 p.2 ∧ R a h p.1 p.2 := ⟨(v, h'), hc, hr⟩
  exact ⟨hp.choose.1, hp.choose.2, dif_pos hp, hp.choose_spec.2⟩
theorem compI_ex {xf : FuncId → List V → Option V} {xh : FuncId → List V → H → Option (V × H)} {kz : Nat → List Nat} (hx : Tells tabx told xf) (hy : Hp.TellsI tabx told xh) {g : FuncId} {fn : AFunc} {args : List V} {h0 : H} {Q : V → H → Prop} (ht : tabx g = some fn) (hn : args.length ≤ fn.n)
    (h : Hp.M xf xh kz (.code fn.body) [] (St.init gl0 fn.depth args h0) (fun ex st => ∃ v h', Hp.FinI fn.res v h' ex st ∧ Q v h')) : ∃ v h', Hp.CompI tabx told g args h0 v h' ∧ Q v h' := by
  obtain ⟨f, ex, st', e, v, h', hf, q⟩ := h
  refine ⟨v, h', fun gl hok => ?_, q⟩
  have hgl : gl = gl0 := hok
  subst hgl
  obtain ⟨he, hl⟩ := hf
  obtain ⟨ex1, st1, f1, _, _, hr, hev⟩ := Hp.runK_ev hx hy f f (Nat.le_refl _) _ _ _ _ _ hok e
  simp only at hev
  have : ex1 = ex ∧ st1 = st' := by
    match f1, hr with
    | 0, hr => simp [Hp.runK] at hr
    | f1 + 1, hr => simp only [Hp.runK, Option.some.injEq, Prod.mk.injEq] at hr; exact hr
  obtain ⟨rfl, rfl⟩ := this
  have hl' : leave fn false h0 st1 = some (v, h') := by
    unfold leave
    cases hv : resV st1 fn.res with
    | none => rw [hv] at hl; cases hl
    | some vs =>
      rw [hv] at hl
      simp only [Option.map_some, Option.some.injEq] at hl
      simp only [cond_false, hl]
  exact .fn ht hn hev he hl'
/-! ### The tokens, and where one stands -/
def srcC (ts : List Tok) (a e : Nat) : Ai.Obj := .cells 41 [.sl (ts.flatMap Tok.cells) ts.length .no, .i .i64 a, .i .i64 e, .b true]
def SO (h : H) (id : Nat) (ts : List Tok) (e a : Nat) : Prop := al h.objs id = some (srcC ts a e) ∧ a ≤ ts.length ∧ ts.length ≤ 1048576 ∧ ∀ t ∈ ts, 1 ≤ t.kind
def setAt (h : H) (id : Nat) (ts : List Tok) (e a : Nat) : H := ⟨h.next, alSet h.objs id (srcC ts a e), h.nt, h.tips⟩
def tokAt (ts : List Tok) (e a : Nat) : Tok := (ts[a]?).getD ⟨0, [], e⟩
theorem SO.set {h : H} {id : Nat} {ts : List Tok} {e a : Nat} (ho : SO h id ts e a) {b : Nat} (hb : b ≤ ts.length) : SO (setAt h id ts e b) id ts e b :=
  ⟨al_alSet _ _ _, hb, ho.2.2⟩
theorem SO.uniq {h : H} {id : Nat} {ts : List Tok} {e a b : Nat} (h1 : SO h id ts e a) (h2 : SO h id ts e b) : a = b := by
  have := h1.1.symm.trans h2.1
  simp only [srcC, Option.some.injEq, Ai.Obj.cells.injEq, List.cons.injEq, V.i.injEq] at this
  omega
section
variable (ts : List Tok) (e id : Nat)
end
end Go.Proofs.YtbhclhgljnoioaaDoor
