/- The abstract interpreter: what the relation says is what the model does: the theorem. -/
import Derived.Test.YtbhclhgljnoioaaDoorAiZb
namespace Ai
open Go

/-- How the model's code ends where ours does. -/
def exitOf : AEx → Exit
  | .norm => .normal
  | .ret => .ret
  | .exit id => .exit id

section
variable {P : Program} {K : Known} {tab : FuncId → Option AFunc} {pr : Prims}

/-- Behind the loop's first step. -/
def LoopWp (P : Program) (c : Code) (Q : Exit → Act → World → Prop) (a : Act) (w : World) : Prop :=
  ∀ (b : Frame) (k : List Item) (cs : List Frame), ∃ e a' w', Q e a' w' ∧ Arrives P (lone (b.at a (.code c :: .inLoop c :: k)) cs w) b k cs e a' w'

theorem wp_of_loop {c : Code} {Q : Exit → Act → World → Prop} {a : Act} {w : World} (h : LoopWp P c Q a w) : (Code.loop c).wp P Q a w :=
  fun b k cs => let ⟨e, a', w', q, r⟩ := h b k cs; ⟨e, a', w', q, .of_steps (.one step_loop) r⟩

theorem loop_round {c : Code} {Q : Exit → Act → World → Prop} {a : Act} {w : World} (h : c.wp P (Exit.then (LoopWp P c Q) Q) a w) : LoopWp P c Q a w := by
  intro b k cs
  obtain ⟨e, a₁, w₁, hq, harr⟩ := h b (.inLoop c :: k) cs
  cases e with
  | normal =>
    obtain ⟨e₂, a₂, w₂, hq₂, harr₂⟩ := hq b k cs
    exact ⟨e₂, a₂, w₂, hq₂, .of_steps (Steps.trans harr (.one step_inLoop)) harr₂⟩
  | exit id => exact ⟨_, a₁, w₁, hq, .pass (x := .inLoop c) rfl (fun _ _ => .inl (by simp)) harr⟩
  | goto l => exact ⟨_, a₁, w₁, hq, .pass (x := .inLoop c) rfl (fun _ _ => .inl (by simp)) harr⟩
  | ret => exact ⟨_, a₁, w₁, hq, .pass (x := .inLoop c) rfl (fun _ _ => .inl (by simp)) harr⟩
  | panic ch => exact ⟨_, a₁, w₁, hq, .pass (x := .inLoop c) rfl (fun _ _ => .inl (by simp)) harr⟩
  | outgrown => exact ⟨_, a₁, w₁, hq, .pass (x := .inLoop c) rfl (fun _ _ => .inl (by simp)) harr⟩

/-- What may come behind. -/
def Then (P : Program) (kl : List (Nat × List Nat)) (G : Gh) (W : World) (st' : St) (A : Act) (Q : Act → World → Prop) : Prop :=
  ∀ G' W' A', Ext G W G' W' → StRel P kl G' W' st' A' → A'.tmps.size = A.tmps.size → A'.defers = A.defers → Q A' W'

/-- Places of a region, and our operations. -/
inductive Lines (P : Program) (K : Known) (n : Nat) (kl : List (Nat × List Nat)) (ops : Array Oper) : List Nat → List AOper → Prop
  | nil : Lines P K n kl ops [] []
  | cons {i : Nat} {o : Oper} {a : AOper} {r : List Nat} {s : List AOper} (ho : ops[i]? = some o) (hk : operOk P K n kl ops o a = true) (h : Lines P K n kl ops r s) : Lines P K n kl ops (i :: r) (a :: s)

def Means (P : Program) (K : Known) : J → Out → Prop
  | .ops l st, .fin ex st' => ex = .norm ∧ Chain P l st st'
  | .code c st, .fin ex st' => ∀ (kl : List (Nat × List Nat)) (code : Code) (G : Gh) (W : World) (A : Act), codeOk P K A.tmps.size kl code c = true → StRel P kl G W st A →
      ∀ Q : Exit → Act → World → Prop, Then P kl G W st' A (Q (exitOf ex)) → code.wp P Q A W ∧ ∀ b, code = .loop b → LoopWp P b Q A W
  | .fn p g args h gl, .val v h' => MFn P p g args h gl v h'
  | _, _ => False

theorem put_size (a : Act) (d : Option Nat) (v : Value) : (a.put d v).tmps.size = a.tmps.size := by
  cases d <;> simp [Act.put]
theorem put_defers (a : Act) (d : Option Nat) (v : Value) : (a.put d v).defers = a.defers := by
  cases d <;> rfl

/-- Whether an operation is carried out. -/
theorem wanted_sound {kl : List (Nat × List Nat)} {G : Gh} {W : World} {st : St} {A : Act} (hs : StRel P kl G W st A) {ops : Array Oper} {o : Oper} {a : AOper} (hk : guardOk A.tmps.size ops o.guard a.guard = true) {b : Bool}
    (h : wanted st a = some b) : Region.wanted o (yielded ops A.tmps) = b := by
  unfold wanted at h
  unfold Region.wanted
  cases hg : o.guard with
  | none =>
    cases hg' : a.guard with
    | none =>
      rw [hg'] at h
      simp only [Option.some.injEq] at h
      exact h
    | some p => rw [hg, hg'] at hk; simp [guardOk] at hk
  | some q =>
    obtain ⟨j, w⟩ := q
    cases hg' : a.guard with
    | none => rw [hg, hg'] at hk; simp [guardOk] at hk
    | some p =>
      obtain ⟨t, w'⟩ := p
      rw [hg, hg'] at hk
      rw [hg'] at h
      simp only [guardOk, Bool.and_eq_true, beq_iff_eq] at hk
      obtain ⟨⟨rfl, k2⟩, k3⟩ := hk
      have ht : t < A.tmps.size := by simp [Nat.blt] at k2; omega
      split at k3
      · rename_i oj hoj
        have hd := of_decide_eq_true k3
        have hv := hs.T t ht
        simp only at h
        split at h
        · rename_i x hx
          simp only [Option.some.injEq] at h
          rw [hx] at hv
          generalize hc : A.tmps.getD t undef = c at hv
          cases hv
          have hy : yielded ops A.tmps j = some x := by
            have : A.tmps[t]? = some (.bool x) := by
              rw [Array.getD_eq_getD_getElem?] at hc
              rw [Array.getElem?_eq_getElem ht] at hc ⊢
              simpa using hc
            simp [yielded, hoj, hd, this]
          simp only [hy]
          rw [← h]
          cases x <;> cases w <;> rfl
        · rename_i hx
          simp only [Option.some.injEq] at h
          subst h
          rw [hx] at hv
          generalize hc : A.tmps.getD t undef = c at hv
          cases hv
          have hy : yielded ops A.tmps j = none := by
            unfold yielded
            simp only [hoj, Option.bind_some, hd]
            rw [Array.getD_eq_getD_getElem?] at hc
            rw [Array.getElem?_eq_getElem ht] at hc ⊢
            simp only [Option.getD_some] at hc
            rw [hc]
          simp only [hy]
          rfl
        · cases h
      · cases k3

/-- A call's callee, and its arguments. -/
theorem callee_sound {kl : List (Nat × List Nat)} {G : Gh} {W : World} {st : St} {A : Act} (hs : StRel P kl G W st A) {o : Oper} {a : AOp} (hk : callChk A.tmps.size o.op a = true) {p : Bool} {g : FuncId} {args : List V}
    (h : callee st a = some (p, g, args)) : ∃ cs, VRs G W args cs ∧ (execOp A.eval o).run P W = (callFunc g cs).run P W := by
  obtain ⟨dst, op, type, pos, after, guard⟩ := o
  simp only at hk
  have run : ∀ (x : Operand) (xs : Array Operand) (ts : Array TypeId) (first cap : Array Value), A.eval x = .func (.func g) first cap →
      (execOp A.eval ⟨dst, .call { callee := .value x, args := xs, argTypes := ts }, type, pos, after, guard⟩).run P W = (callFunc g (first ++ xs.map A.eval ++ cap)).run P W := by
    intro x xs ts first cap hx
    simp only [execOp, resolve, hx, Deferred.ofValue, Sem.run_bind, Sem.run_pure, Result.andThen_ok, invoke]
  unfold callChk at hk
  split at hk
  · rename_i f xs ts p' f' axs
    simp only [Bool.and_eq_true] at hk
    have := Nat.eq_of_beq_eq_true hk.1
    subst this
    simp only [callee, Option.some.injEq, Prod.mk.injEq] at h
    obtain ⟨rfl, rfl, rfl⟩ := h
    refine ⟨#[] ++ xs.map A.eval ++ #[], ?_, run _ xs ts #[] #[] rfl⟩
    simpa using opds_array hs hk.2
  · rename_i x xs ts p' ax axs
    simp only [Bool.and_eq_true] at hk
    have hx := opd_ev hs hk.1
    simp only [callee] at h
    split at h
    · rename_i f first cap heq
      simp only [Option.some.injEq, Prod.mk.injEq] at h
      obtain ⟨rfl, rfl, rfl⟩ := h
      rw [heq] at hx
      generalize hc : A.eval x = c at hx
      cases hx with | fn _ _ _ a c h1 h2 h3 h4 =>
      refine ⟨_, ?_, run x xs ts a c hc⟩
      exact VRs.append (VRs.append ⟨h1, h2⟩ (opds_array hs hk.2)) ⟨h3, h4⟩
    · cases h
  · cases hk

theorem callee_none {n : Nat} {st : St} {op : Op} {a : AOp} (hk : callChk n op a = true) {d : Nat} {v : V} {st' : St} (h : step st d a = some (v, st')) : False := by
  unfold callChk at hk
  split at hk
  · simp [step] at h
  · simp [step] at h
  · cases hk

theorem opChk_call {kl : List (Nat × List Nat)} {n : Nat} {dst : Option Nat} {op : Op} {p : Bool} {f : FuncId} {xs : List Opd} (hk : opChk P K n kl dst op (.call p f xs) = true) : False := by
  unfold opChk at hk
  split at hk <;> first | (cases hk; done) | (rename_i he; cases he; done) | (unfold builtinOk at hk; split at hk <;> first | (cases hk; done) | (rename_i he; cases he))

theorem opChk_callv {kl : List (Nat × List Nat)} {n : Nat} {dst : Option Nat} {op : Op} {p : Bool} {f : Opd} {xs : List Opd} (hk : opChk P K n kl dst op (.callv p f xs) = true) : False := by
  unfold opChk at hk
  split at hk <;> first | (cases hk; done) | (rename_i he; cases he; done) | (unfold builtinOk at hk; split at hk <;> first | (cases hk; done) | (rename_i he; cases he))

theorem callee_some {kl : List (Nat × List Nat)} {n : Nat} {dst : Option Nat} {st : St} {op : Op} {a : AOp} {x : Bool × FuncId × List V} (hk : opChk P K n kl dst op a = true) (h : callee st a = some x) : False := by
  unfold callee at h
  split at h
  · exact opChk_call hk
  · exact opChk_callv hk
  · cases h

theorem Then.mono {kl : List (Nat × List Nat)} {G G1 : Gh} {W W1 : World} {st' : St} {A A1 : Act} {Q : Act → World → Prop} (h : Then P kl G W st' A Q) (e : Ext G W G1 W1) (h1 : A1.tmps.size = A.tmps.size) (h2 : A1.defers = A.defers) : Then P kl G1 W1 st' A1 Q :=
  fun G' W' A' e' hs k1 k2 => h G' W' A' (e.trans e') hs (k1.trans h1) (k2.trans h2)

theorem lines_of {n : Nat} {kl : List (Nat × List Nat)} {ops : Array Oper} : ∀ (os : List Oper) (l : List AOper) (k : Nat), opersOk P K n kl ops os l = true → (∀ j, os[j]? = ops[k + j]?) → Lines P K n kl ops (List.range' k os.length) l
  | [], [], k, _, _ => .nil
  | o :: r, a :: s, k, h, hi => by
    simp only [opersOk, Bool.and_eq_true] at h
    have h0 := hi 0
    simp only [List.getElem?_cons_zero, Nat.add_zero] at h0
    refine .cons h0.symm h.1 (lines_of r s (k + 1) h.2 fun j => ?_)
    have := hi (j + 1)
    simp only [List.getElem?_cons_succ] at this
    rw [this, show k + (j + 1) = k + 1 + j from by omega]
  | [], _ :: _, _, h, _ => by simp [opersOk] at h
  | _ :: _, [], _, h, _ => by simp [opersOk] at h

theorem resV_plain {st1 : St} : ∀ (res : List ARes) (vs : List V), resV st1 res = some vs → ∀ u ∈ vs, u.plain = true
  | [], vs, h => by simp only [resV, Option.some.injEq] at h; subst h; intro u hu; cases hu
  | .tmp t :: r, vs, h => by
    simp only [resV] at h
    cases hr' : resV st1 r with
    | none => rw [hr'] at h; cases h
    | some ws =>
      rw [hr'] at h
      simp only [Option.map_some, Option.some.injEq] at h
      subst h
      intro u hu
      rcases List.mem_cons.1 hu with rfl | hu
      · exact val_plain _
      · exact resV_plain r ws hr' u hu
  | .cell a agg n :: r, vs, h => by
    simp only [resV] at h
    split at h
    · split at h
      · rename_i ws hr'
        cases agg with
        | true =>
          simp only [cond_true, Option.some.injEq] at h
          subst h
          intro u hu
          rcases List.mem_cons.1 hu with rfl | hu
          · rfl
          · exact resV_plain r ws hr' u hu
        | false =>
          simp only [cond_false] at h
          split at h
          · simp only [Option.some.injEq] at h
            subst h
            intro u hu
            rcases List.mem_cons.1 hu with rfl | hu
            · exact val_plain _
            · exact resV_plain r ws hr' u hu
          · cases h
      · cases h
    · cases h

theorem leave_plain {fn : AFunc} {p : Bool} {h hh : H} {st1 : St} {v : V} (hl : leave fn p h st1 = some (v, hh)) : v.plain = true := by
  unfold leave at hl
  split at hl
  · cases hl
  · rename_i vs hvs
    cases p with
    | true => simp only [cond_true, Option.some.injEq, Prod.mk.injEq] at hl; rw [← hl.1]; exact frz_plain _ _
    | false =>
      simp only [cond_false, Option.some.injEq, Prod.mk.injEq] at hl
      rw [← hl.1]
      have := resV_plain _ _ hvs
      match vs, this with
      | [], _ => rfl
      | [u], hu => exact hu u (by simp)
      | _ :: _ :: _, _ => rfl

/-- A function of the table, called. -/
theorem fn_calls (hg : Good P K tab pr) {p : Bool} {g : FuncId} {args : List V} {h hh : H} {gl : Nat → List V} {fn : AFunc} {ex : AEx} {st1 : St} {v : V} (ht : tab g = some fn) (hn : args.length ≤ fn.n)
    (hm : Means P K (.code fn.body (St.enter gl fn p args h)) (.fin ex st1)) (he : ex.ends = true) (hl : leave fn p h st1 = some (v, hh)) {G : Gh} {W : World} {cs : Array Value} (hv : VRs G W args cs) (hr : HRel P G W h)
    (hgl : ∀ g, stripL (gl g) = gl g ∧ VR G W (.ip (gl g) 0) (.pointer (some ⟨g, 0, none⟩))) :
    (v.plain = true ∧ ∃ f b, P.funcs[g]? = some f ∧ f.body = some b ∧ (f.name == "runtime.NumGoroutine") = false) ∧ Calls P g cs W fun | .returned c, W' => CallPost P G W v hh c W' | _, _ => False := by
  have hk := hg.tab g fn ht
  unfold fnOk at hk
  split at hk
  · rename_i f hf
    split at hk
    · rename_i c hc
      simp only [Bool.and_eq_true, Bool.not_eq_true'] at hk
      obtain ⟨⟨⟨k1, k2⟩, k3⟩, k4⟩ := hk
      have hnt := Nat.eq_of_beq_eq_true k1
      have hsz : (cs ++ Array.replicate (f.ntmps - cs.size) undef).size = fn.n := by
        simp only [Array.size_append, Array.size_replicate]
        have := hv.1
        omega
      have hplain : v.plain = true := leave_plain hl
      refine ⟨⟨hplain, f, c, hf, hc, k2⟩, ?_⟩
      have fin : ∀ (Gc : Gh) (A' : Act) (W' : World) (vs : List V), StRel P fn.kl Gc W' st1 A' → A'.tmps.size = fn.n → resV st1 fn.res = some vs → ∃ c, (results f A'.tmps).run P W' = .ok c W' ∧ VR Gc W' (oneOf vs) c := by
        intro Gc A' W' vs hs' hz hvs
        obtain ⟨c', r1, r2, _⟩ := results_sound hs' (f := f) (by rw [hz]; exact k3) hvs
        exact ⟨c', r1, r2⟩
      have wrap : ∀ (G0 : Gh), StRel P fn.kl G0 W (St.enter gl fn p args h) { tmps := cs ++ Array.replicate (f.ntmps - cs.size) undef, defers := [] } →
          (∀ Gc A' W', Ext G0 W Gc W' → StRel P fn.kl Gc W' st1 A' → A'.tmps.size = fn.n → ∃ c, (results f A'.tmps).run P W' = .ok c W' ∧ CallPost P G W v hh c W') →
          Calls P g cs W fun | .returned c, W' => CallPost P G W v hh c W' | _, _ => False := by
        intro G0 hs0 hpost
        refine calls_of_wp hf hc ((hm fn.kl c G0 W _ (by rw [hsz]; exact k4) hs0 _ ?_).1)
        intro Gc W' A' e hs' hz hd
        rw [hsz] at hz
        obtain ⟨c', r1, r2⟩ := hpost Gc A' W' e hs' hz
        cases ex with
        | norm => exact ⟨hd, c', r1, r2⟩
        | ret => exact ⟨hd, c', r1, r2⟩
        | exit id => cases he
      unfold leave at hl
      split at hl
      · cases hl
      · rename_i vs hvs
        cases p with
        | true =>
          simp only [cond_true, Option.some.injEq, Prod.mk.injEq] at hl
          obtain ⟨rfl, rfl⟩ := hl
          refine wrap G.pureIn ?_ ?_
          · simp only [St.enter, cond_true]
            refine init_rel fn.kl hv.pureIn ⟨fun id o hg => by simp [al] at hg, fun id b hg => by simp [Gh.pureIn] at hg, rfl, fun t n ty hg => by simp [al] at hg⟩ (fun g => ?_)
            have := (hgl g).2.pureIn
            simp only [V.strip, (hgl g).1] at this
            exact ⟨(hgl g).1, this⟩
          · intro Gc A' W' e hs' hz
            obtain ⟨c', r1, r2⟩ := fin Gc A' W' vs hs' hz hvs
            have kp := frozen_keep (h := st1.h) e
            exact ⟨c', r1, G.frozen Gc W.heap.size st1.h, kp.ext, hr.keep kp (fun _ _ h => h) rfl, kp.mine, frz_sound e hs'.mem 100 _ _ r2⟩
        | false =>
          simp only [cond_false, Option.some.injEq, Prod.mk.injEq] at hl
          obtain ⟨rfl, rfl⟩ := hl
          refine wrap G.impIn ?_ ?_
          · simp only [St.enter, cond_false]
            exact init_rel fn.kl hv.impIn hr.impIn (fun g => ⟨(hgl g).1, (hgl g).2.impIn⟩)
          · intro Gc A' W' e hs' hz
            obtain ⟨c', r1, r2⟩ := fin Gc A' W' vs hs' hz hvs
            exact ⟨c', r1, G.impOut Gc W.heap.size, impOut_ext e, hs'.mem.impOut e, impOut_mine e, r2.impOut e⟩
    · cases hk
  · cases hk

/-- One operation is what the model does. -/
theorem oneOp_sound (hg : K.OK P) {o : AOper} {st st1 : St} (h : One P o st st1) {kl : List (Nat × List Nat)} {ops : Array Oper} {i : Nat} {oo : Oper} {G : Gh} {W : World} {A : Act} (ho : ops[i]? = some oo)
    (hk : operOk P K A.tmps.size kl ops oo o = true) (hs : StRel P kl G W st A) (Q : Exit → Act → World → Prop) (Kk : Act → World → Prop) (hq : Then P kl G W st1 A Kk) : wpOp P ops Q i Kk A W := by
  simp only [operOk, Bool.and_eq_true, Bool.or_eq_true] at hk
  obtain ⟨⟨k1, k2⟩, k3⟩ := hk
  have hd := of_decide_eq_true k1
  unfold wpOp
  rw [ho]
  simp only
  cases h with
  | pass hw =>
    rw [wanted_sound hs k2 hw]
    simp only [Bool.false_eq_true, if_false]
    have hs' := hs.put' (v := .tup []) (c := undef) (.tup [] #[] rfl (fun j hj => by cases hj)) o.dst (by simp) (by simp)
    rw [hd]
    exact hq G W _ (Ext.refl G W) hs' (put_size _ _ _) (put_defers _ _ _)
  | @step st' v hw hc hst =>
    rw [wanted_sound hs k2 hw, if_pos rfl]
    left
    rcases k3 with (k3 | k3) | k3
    · rw [← hd] at hst
      obtain ⟨nx, c, G', W', r1, r2, r3, r4⟩ := step_sound hg hs oo rfl k3 hst
      have hr : Kk (A.put oo.dst c) W' := by
        rw [hd] at r4 ⊢
        exact hq G' W' _ r3 r4 (put_size _ _ _) (put_defers _ _ _)
      unfold Oper.wp
      rw [r1]
      rcases r2 with rfl | ⟨rfl, rfl⟩
      · rw [Oper.upon_value]; exact hr
      · rw [Oper.upon_skip]; exact hr
    · exact (callee_none k3 hst).elim
    · cases hop : o.op <;> rw [hop] at k3 <;> first | (cases k3; done) | (rw [hop] at hst; simp [step] at hst)
  | @call p g args v hh hw hc hf =>
    rw [wanted_sound hs k2 hw, if_pos rfl]
    left
    rcases k3 with (k3 | k3) | k3
    · exact (callee_some k3 hc).elim
    · obtain ⟨cs, hv, hrun⟩ := callee_sound hs k3 hc
      unfold Oper.wp
      rw [hrun]
      refine hf.2.2 st.h hh (fun e => hf.2.1 e) (fun _ => ⟨rfl, rfl⟩) G W cs hv hs.mem hs.gl oo A _ Q fun c W' hp => ?_
      obtain ⟨G', e, hr, hm, hvr⟩ := hp
      have hs' := (hs.after e hr hm).put' hvr o.dst (plain_l hf.1) (plain_it hf.1)
      rw [hd]
      exact hq G' W' _ e hs' (put_size _ _ _) (put_defers _ _ _)
    · cases hop : o.op <;> rw [hop] at k3 <;> first | (cases k3; done) | (rw [hop] at hc; simp [callee] at hc)

theorem chain_seq (hg : K.OK P) {kl : List (Nat × List Nat)} {ops : Array Oper} : ∀ {idx : List Nat} {l : List AOper} {st st' : St} {G : Gh} {W : World} {A : Act}, Chain P l st st' → Lines P K A.tmps.size kl ops idx l → StRel P kl G W st A →
    ∀ Q : Exit → Act → World → Prop, Then P kl G W st' A (Q .normal) → wpOps P ops Q idx A W
  | [], [], st, st', G, W, A, hc, hl, hs, Q, hq => by
    cases hc
    exact hq G W A (Ext.refl G W) hs rfl rfl
  | i :: idx, o :: l, st, st', G, W, A, hc, hl, hs, Q, hq => by
    cases hc with | cons h k =>
    cases hl with | cons ho hk hl =>
    rw [wpOps_cons]
    refine oneOp_sound hg h ho hk hs Q _ ?_
    intro G' W' A' e hs' h1 h2
    exact chain_seq hg k (by rw [h1]; exact hl) hs' Q (Then.mono hq e h1 h2)
  | [], _ :: _, _, _, _, _, _, _, hl, _, _, _ => by cases hl
  | _ :: _, [], _, _, _, _, _, _, hl, _, _, _ => by cases hl

def noOper : AOper := ⟨none, .bad, none⟩

theorem opersOk_get {n : Nat} {kl : List (Nat × List Nat)} {ops : Array Oper} : ∀ {os : List Oper} {l : List AOper}, opersOk P K n kl ops os l = true → os.length = l.length ∧ ∀ i o, os[i]? = some o → operOk P K n kl ops o (l.getD i noOper) = true
  | [], [], _ => ⟨rfl, fun i o h => by simp at h⟩
  | o :: r, a :: s, h => by
    simp only [opersOk, Bool.and_eq_true] at h
    obtain ⟨h1, h2⟩ := opersOk_get h.2
    refine ⟨by simp [h1], fun i p hp => ?_⟩
    cases i with
    | zero => simp only [List.getElem?_cons_zero, Option.some.injEq] at hp; subst hp; simpa using h.1
    | succ i => simpa using h2 i p (by simpa using hp)
  | [], _ :: _, h => by simp [opersOk] at h
  | _ :: _, [], h => by simp [opersOk] at h

theorem set_getD {listed : Array Bool} {i j : Nat} {d : Bool} (hi : i < listed.size) : (listed.setIfInBounds i true).getD j d = if i = j then true else listed.getD j d := by
  by_cases h : i = j
  · subst h
    simp [Array.getD_eq_getD_getElem?, hi]
  · rw [if_neg h, Array.getD_eq_getD_getElem?, Array.getElem?_setIfInBounds_ne h, ← Array.getD_eq_getD_getElem?]

/-- Whatever order is drawn. -/
theorem any_sound (hg : K.OK P) {kl : List (Nat × List Nat)} {ops : Array Oper} {l : List AOper} {n : Nat} (hok : opersOk P K n kl ops ops.toList l = true) (hdr : drawOk ops.toList l = true) (Q : Exit → Act → World → Prop) :
    ∀ (fuel : Nat) (listed : Array Bool) (rem : List Nat) (st st' : St) (G : Gh) (W : World) (A : Act), A.tmps.size = n → listed.size = ops.size → rem.Pairwise (· < ·) → (∀ i, i ∈ rem ↔ i < ops.size ∧ listed.getD i true = false) →
      Shut ops.toList listed → rem.length ≤ fuel → Chain P (rem.map fun i => l.getD i noOper) st st' → StRel P kl G W st A → Then P kl G W st' A (Q .normal) → wpAny P .any ops Q fuel listed A W := by
  obtain ⟨hlen, hget⟩ := opersOk_get hok
  simp only [drawOk, Bool.and_eq_true] at hdr
  obtain ⟨hback, hpairs⟩ := hdr
  have hdir : ∀ (o : Oper) (e : Edge), e ∈ o.after → Region.binds .any e = true → e.on ∈ directs o := fun o e he hb => by
    unfold directs
    rw [List.mem_map]
    exact ⟨e, by rw [List.mem_filter]; exact ⟨by simpa using he, hb⟩, rfl⟩
  have hdir' : ∀ (o : Oper) (j : Nat), j ∈ directs o → ∃ e ∈ o.after, Region.binds .any e = true ∧ e.on = j := fun o j hj => by
    unfold directs at hj
    rw [List.mem_map] at hj
    obtain ⟨e, he, rfl⟩ := hj
    rw [List.mem_filter] at he
    exact ⟨e, by simpa using he.1, he.2, rfl⟩
  -- the first of what is left is ready
  have first : ∀ (listed : Array Bool) (rem : List Nat) (i : Nat), rem.Pairwise (· < ·) → (∀ i, i ∈ rem ↔ i < ops.size ∧ listed.getD i true = false) → listed.size = ops.size → rem.head? = some i → i ∈ Region.ready .any ops listed := by
    intro listed rem i hp hm hsz hh
    cases rem with
    | nil => cases hh
    | cons x r =>
      simp only [List.head?_cons, Option.some.injEq] at hh
      subst hh
      obtain ⟨h1, h2⟩ := (hm x).1 (by simp)
      obtain ⟨o, ho⟩ : ∃ o, ops[x]? = some o := ⟨_, Array.getElem?_eq_getElem h1⟩
      refine mem_ready.2 ⟨h2, o, ho, fun e he hb => ?_⟩
      have hlt := backOk_spec ops.toList 0 hback x o (by simpa using ho) e.on (hdir o e he hb)
      cases hl : listed.getD e.on true with
      | true =>
        rw [Array.getD_eq_getD_getElem?] at hl ⊢
        rw [Array.getElem?_eq_getElem (show e.on < listed.size by omega)] at hl ⊢
        exact hl
      | false =>
        have := (hm e.on).2 ⟨by omega, hl⟩
        rcases List.mem_cons.1 this with h | h
        · omega
        · have := (List.pairwise_cons.1 hp).1 _ h
          omega
  intro fuel
  induction fuel with
  | zero =>
    intro listed rem st st' G W A hn hsz hp hm hsh hf hc hs hq
    have : rem = [] := List.eq_nil_of_length_eq_zero (by omega)
    subst this
    have hr : Region.ready .any ops listed = [] := by
      apply List.eq_nil_iff_forall_not_mem.2
      intro j hj
      obtain ⟨h1, o, ho, _⟩ := mem_ready.1 hj
      have := (hm j).2 ⟨(Array.getElem?_eq_some_iff.1 ho).1, h1⟩
      cases this
    cases hc
    exact ⟨hr, hq G W A (Ext.refl G W) hs rfl rfl⟩
  | succ fuel ih =>
    intro listed rem st st' G W A hn hsz hp hm hsh hf hc hs hq
    refine ⟨fun hr => ?_, fun i hi => ?_⟩
    · cases hrem : rem with
      | nil =>
        rw [hrem] at hc
        cases hc
        exact hq G W A (Ext.refl G W) hs rfl rfl
      | cons x r =>
        have := first listed rem x hp hm hsz (by rw [hrem]; rfl)
        rw [hr] at this
        cases this
    · obtain ⟨h1, oo, hoo, hall⟩ := mem_ready.1 hi
      have hisz := (Array.getElem?_eq_some_iff.1 hoo).1
      have hmem := (hm i).2 ⟨hisz, h1⟩
      obtain ⟨pre, post, rfl⟩ := List.append_of_mem hmem
      have hpp := List.pairwise_append.1 hp
      have hpi := List.pairwise_cons.1 hpp.2.1
      have hind : ∀ a ∈ pre.map (fun i => l.getD i noOper), indep a (l.getD i noOper) = true := by
        intro a ha
        rw [List.mem_map] at ha
        obtain ⟨j, hj, rfl⟩ := ha
        have hji : j < i := hpp.2.2 j hj i (by simp)
        rcases pairsOk_spec ops.toList.length hpairs i j (by simpa using hisz) hji with h | ⟨a, b, e1, e2, h⟩
        · exfalso
          have hj2 := (hm j).1 (by simp [hj])
          have := closure_spec ops.toList listed hsh ops.toList [] [] rfl rfl (fun i o h => by simp at h) hback i oo (by simpa using hoo) (fun q hq => by
            obtain ⟨e, he, hb, rfl⟩ := hdir' oo q hq
            exact hall e he hb) j h
          rw [Array.getD_eq_getD_getElem?] at this
          rw [Array.getD_eq_getD_getElem?] at hj2
          rw [Array.getElem?_eq_getElem (show j < listed.size by omega)] at this hj2
          simp at this hj2
          rw [this] at hj2
          exact absurd hj2.2 (by simp)
        · simpa [List.getD_eq_getElem?_getD, e1, e2] using h
      rw [List.map_append, List.map_cons] at hc
      obtain ⟨s1, o1, c1⟩ := ahead _ hind hc
      rw [← List.map_append] at c1
      refine oneOp_sound hg o1 hoo (by rw [hn]; exact hget i oo (by simpa using hoo)) hs Q _ ?_
      intro G' W' A' e hs' z1 z2
      refine ih (listed.setIfInBounds i true) (pre ++ post) s1 st' G' W' A' (z1.trans hn) (by simp [hsz]) ?_ ?_ ?_ (by simp at hf ⊢; omega) c1 hs' (Then.mono hq e z1 z2)
      · refine List.pairwise_append.2 ⟨hpp.1, hpi.2, fun a ha b hb => ?_⟩
        exact hpp.2.2 a ha b (by simp [hb])
      · intro j
        rw [set_getD (by omega)]
        by_cases hij : i = j
        · subst hij
          simp only [if_true, Bool.true_eq_false, and_false, iff_false, List.mem_append, not_or]
          refine ⟨fun h => ?_, fun h => ?_⟩
          · have := hpp.2.2 i h i (by simp); omega
          · have := hpi.1 i h; omega
        · rw [if_neg hij]
          have := hm j
          simp only [List.mem_append, List.mem_cons] at this ⊢
          rw [← this]
          constructor
          · rintro (h | h)
            · exact .inl h
            · exact .inr (.inr h)
          · rintro (h | h | h)
            · exact .inl h
            · exact absurd h.symm hij
            · exact .inr h
      · intro j o ho hl q hq'
        rw [set_getD (by omega)] at hl ⊢
        by_cases hiq : i = q
        · rw [if_pos hiq]
        · rw [if_neg hiq]
          by_cases hij : i = j
          · subst hij
            have ho' : ops[i]? = some o := by simpa using ho
            rw [hoo] at ho'
            cases ho'
            obtain ⟨e, he, hb, rfl⟩ := hdir' oo q hq'
            exact hall e he hb
          · rw [if_neg hij] at hl
            exact hsh j o ho hl q hq'

/-- What the relation says is what the model does. -/
theorem sound (hg : Good P K tab pr) {j : J} {x : Out} (h : Ev tab pr j x) : Means P K j x := by
  induction h with
  | nil st => exact ⟨rfl, .nil st⟩
  | @pass o r st x hw h ih =>
    cases x with
    | val v h' => exact ih.elim
    | fin ex st' => exact ⟨ih.1, .cons (.pass hw) ih.2⟩
  | @step o r st st1 v x hw hc hst h ih =>
    cases x with
    | val v h' => exact ih.elim
    | fin ex st' => exact ⟨ih.1, .cons (.step hw hc hst) ih.2⟩
  | @call o r st p g args v hh x hw hc hf h ihf ih =>
    cases x with
    | val v h' => exact ih.elim
    | fin ex st' => exact ⟨ih.1, .cons (.call hw hc ihf) ih.2⟩
  | skip st =>
    intro kl code G W A hk hs Q hq
    cases code <;> simp only [codeOk, Bool.false_eq_true] at hk
    exact ⟨wp_skip (hq G W A (Ext.refl G W) hs rfl rfl), fun b e => by cases e⟩
  | ret st =>
    intro kl code G W A hk hs Q hq
    cases code <;> simp only [codeOk, Bool.false_eq_true] at hk
    exact ⟨wp_ret (hq G W A (Ext.refl G W) hs rfl rfl), fun b e => by cases e⟩
  | exit id st =>
    intro kl code G W A hk hs Q hq
    cases code <;> simp only [codeOk, Bool.false_eq_true] at hk
    have := Nat.eq_of_beq_eq_true hk
    subst this
    exact ⟨wp_exit (hq G W A (Ext.refl G W) hs rfl rfl), fun b e => by cases e⟩
  | @reg l st st' h ih =>
    intro kl code G W A hk hs Q hq
    unfold codeOk at hk
    split at hk <;> first | (rename_i he; cases he; done) | skip
    · rename_i he; cases he
      refine ⟨wp_region ?_, fun b e => by cases e⟩
      rename_i id ops
      have hl := lines_of ops.toList l 0 hk (fun j => by simp)
      have := chain_seq hg.known ih.2 hl hs Q hq
      rw [← List.range_eq_range'] at this
      simpa using this
    · rename_i he; cases he
      rename_i id ops
      simp only [Bool.and_eq_true] at hk
      obtain ⟨⟨k1, k2⟩, k3⟩ := hk
      refine ⟨wp_region_any k1 ?_, fun b e => by cases e⟩
      have kp : Keep G W G { W with drawn := W.drawn + 1 } := ⟨rfl, rfl, rfl, Nat.le_refl _, fun _ _ => rfl, fun _ _ => rfl, fun _ _ h => h, Nat.le_refl _, fun _ _ => ⟨rfl, rfl⟩, rfl, rfl⟩
      have hs' := hs.keep kp (fun _ _ h => h) rfl
      obtain ⟨hlen, _⟩ := opersOk_get k2
      have hmap : (List.range ops.size).map (fun i => l.getD i noOper) = l := by
        apply List.ext_getElem
        · simp at hlen ⊢; omega
        · intro i h1 h2
          simp [List.getD_eq_getElem?_getD, h2]
      refine any_sound hg.known k2 k3 Q ops.size _ (List.range ops.size) st st' G _ A rfl (by simp) (List.pairwise_lt_range) (fun i => ?_) (fun i o ho hl => ?_) (by simp) (by rw [hmap]; exact ih.2) hs' (Then.mono hq kp.ext rfl rfl)
      · rw [List.mem_range]
        constructor
        · intro h; exact ⟨h, by simp [Array.getD_eq_getD_getElem?, h]⟩
        · exact fun h => h.1
      · have hi : i < ops.size := by have := (List.getElem?_eq_some_iff.1 ho).1; simpa using this
        simp [Array.getD_eq_getD_getElem?, hi] at hl
    · cases hk
  | @seq a b st st' st2 ex h k ih1 ih2 =>
    intro kl code G W A hk hs Q hq
    cases code <;> simp only [codeOk, Bool.and_eq_true, Bool.false_eq_true] at hk
    rename_i x y
    refine ⟨wp_seq ((ih1 kl x G W A hk.1 hs _ ?_).1), fun b e => by cases e⟩
    intro G' W' A' e hs' h1 h2
    exact (ih2 kl y G' W' A' (by rw [h1]; exact hk.2) hs' Q (Then.mono hq e h1 h2)).1
  | @seq' a b st st' ex h hne ih =>
    intro kl code G W A hk hs Q hq
    cases code <;> simp only [codeOk, Bool.and_eq_true, Bool.false_eq_true] at hk
    rename_i x y
    refine ⟨wp_seq ((ih kl x G W A hk.1 hs _ ?_).1), fun b e => by cases e⟩
    intro G' W' A' e hs' h1 h2
    have := hq G' W' A' e hs' h1 h2
    cases ex with
    | norm => exact absurd rfl hne
    | ret => exact this
    | exit id => exact this
  | @cond c a b st st' ex t hc h ih =>
    intro kl code G W A hk hs Q hq
    cases code <;> simp only [codeOk, Bool.and_eq_true, Bool.false_eq_true] at hk
    rename_i cc x y
    have hv := opd_ev hs hk.1.1
    rw [hc] at hv
    generalize hcc : A.eval cc = cv at hv
    cases hv
    refine ⟨wp_cond hcc ?_, fun b e => by cases e⟩
    cases t with
    | true => exact (ih kl x G W A hk.1.2 hs Q hq).1
    | false => exact (ih kl y G W A hk.2 hs Q hq).1
  | @blk id c st st' h ih =>
    intro kl code G W A hk hs Q hq
    cases code <;> simp only [codeOk, Bool.and_eq_true, Bool.false_eq_true] at hk
    rename_i i x
    have := Nat.eq_of_beq_eq_true hk.1
    subst this
    refine ⟨wp_block ((ih kl x G W A hk.2 hs _ ?_).1), fun b e => by cases e⟩
    intro G' W' A' e hs' h1 h2
    have := hq G' W' A' e hs' h1 h2
    simp only [exitOf, Exit.inBlock, if_true]
    exact this
  | @blk' id c st st' ex h hne ih =>
    intro kl code G W A hk hs Q hq
    cases code <;> simp only [codeOk, Bool.and_eq_true, Bool.false_eq_true] at hk
    rename_i i x
    have := Nat.eq_of_beq_eq_true hk.1
    subst this
    refine ⟨wp_block ((ih kl x G W A hk.2 hs _ ?_).1), fun b e => by cases e⟩
    intro G' W' A' e hs' h1 h2
    have := hq G' W' A' e hs' h1 h2
    cases ex with
    | norm => exact this
    | ret => exact this
    | exit j =>
      simp only [exitOf, Exit.inBlock]
      rw [if_neg (fun e => hne (by rw [e]))]
      exact this
  | @loop c st st' st2 ex h k ih1 ih2 =>
    intro kl code G W A hk hs Q hq
    have hk0 := hk
    cases code <;> simp only [codeOk, Bool.false_eq_true] at hk
    rename_i x
    have hl : LoopWp P x Q A W := by
      refine loop_round ((ih1 kl x G W A hk hs _ ?_).1)
      intro G' W' A' e hs' h1 h2
      exact (ih2 kl (.loop x) G' W' A' (by rw [h1]; exact hk0) hs' Q (Then.mono hq e h1 h2)).2 x rfl
    exact ⟨wp_of_loop hl, fun b e => by cases e; exact hl⟩
  | @loop' c st st' ex h hne ih =>
    intro kl code G W A hk hs Q hq
    cases code <;> simp only [codeOk, Bool.false_eq_true] at hk
    rename_i x
    have hl : LoopWp P x Q A W := by
      refine loop_round ((ih kl x G W A hk hs _ ?_).1)
      intro G' W' A' e hs' h1 h2
      have := hq G' W' A' e hs' h1 h2
      cases ex with
      | norm => exact absurd rfl hne
      | ret => exact this
      | exit id => exact this
    exact ⟨wp_of_loop hl, fun b e => by cases e; exact hl⟩
  | @kill c st x ks h ih =>
    cases x with
    | val v h' => exact ih.elim
    | fin ex st' =>
      intro kl code G W A hk hs Q hq
      exact ih kl code G W A hk (hs.kill ks) Q hq
  | @fn p g args h hh gl fn ex st1 v ht hn hc he hl ih =>
    refine ⟨leave_plain hl, fun hp => ?_, fun h1 h2 e1 e2 G W cs hv hr hgl => ?_⟩
    · subst hp
      unfold leave at hl
      split at hl
      · cases hl
      · simp only [cond_true, Option.some.injEq, Prod.mk.injEq] at hl
        exact hl.2.symm
    · cases p with
      | true =>
        have := e1 rfl
        subst this
        have hl' : leave fn true h2 st1 = some (v, h2) := by
          unfold leave at hl ⊢
          split at hl
          · cases hl
          · simp only [cond_true, Option.some.injEq, Prod.mk.injEq] at hl ⊢
            exact ⟨hl.1, trivial⟩
        obtain ⟨⟨_, f, b, hf, hb, hn'⟩, hcalls⟩ := fn_calls (h := h2) hg ht hn ih he hl' hv hr hgl
        exact Reach.of_calls hf hb hn' hcalls
      | false =>
        obtain ⟨rfl, rfl⟩ := e2 rfl
        obtain ⟨⟨_, f, b, hf, hb, hn'⟩, hcalls⟩ := fn_calls hg ht hn ih he hl hv hr hgl
        exact Reach.of_calls hf hb hn' hcalls
  | @prim p g args h gl v hok hp =>
    obtain ⟨h1, h2⟩ := hg.prim gl hok g args v hp
    refine ⟨h1, fun _ => rfl, fun m1 m2 e1 e2 G W cs hv hr hgl => (h2 G W cs hv fun i => (hgl i).2).mono fun c W' hc => ?_⟩
    obtain ⟨G', kp, ho, hn, hvr⟩ := hc
    have : m2 = m1 := by
      cases p with
      | true => exact e1 rfl
      | false => obtain ⟨rfl, rfl⟩ := e2 rfl; rfl
    subst this
    exact ⟨G', kp.ext, hr.keep kp ho hn, kp.mine, hvr⟩

end
end Ai
