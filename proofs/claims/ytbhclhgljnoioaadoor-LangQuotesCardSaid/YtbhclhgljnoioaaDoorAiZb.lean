/- The abstract interpreter: what code comes to, as a relation; does our code match the model's? -/
import Derived.Test.YtbhclhgljnoioaaDoorAiCi
namespace Ai
open Go

/-! ### The relation -/
inductive J where
  | ops (l : List AOper) (st : St)
  | code (c : AC) (st : St)
  | fn (p : Bool) (g : FuncId) (args : List V) (h : H) (gl : Nat → List V)

inductive Out where
  | fin (ex : AEx) (st : St)
  | val (v : V) (h : H)

/-- What is told of functions that are not walked: of which package variables it holds, and what. -/
structure Prims where
  ok : (Nat → List V) → Prop
  rel : FuncId → List V → V → Prop

inductive Ev (tab : FuncId → Option AFunc) (pr : Prims) : J → Out → Prop
  | nil (st : St) : Ev tab pr (.ops [] st) (.fin .norm st)
  | pass {o : AOper} {r : List AOper} {st : St} {x : Out} (hw : wanted st o = some false) (h : Ev tab pr (.ops r (st.put o.dst (.tup []))) x) : Ev tab pr (.ops (o :: r) st) x
  | step {o : AOper} {r : List AOper} {st st' : St} {v : V} {x : Out} (hw : wanted st o = some true) (hc : callee st o.op = none) (hs : step st (o.dst.getD 0) o.op = some (v, st')) (h : Ev tab pr (.ops r (st'.put o.dst v)) x) :
      Ev tab pr (.ops (o :: r) st) x
  | call {o : AOper} {r : List AOper} {st : St} {p : Bool} {g : FuncId} {args : List V} {v : V} {hh : H} {x : Out} (hw : wanted st o = some true) (hc : callee st o.op = some (p, g, args))
      (hf : Ev tab pr (.fn p g args st.h st.gl) (.val v hh)) (h : Ev tab pr (.ops r ({ st with h := hh }.put o.dst v)) x) : Ev tab pr (.ops (o :: r) st) x
  | skip (st : St) : Ev tab pr (.code .skip st) (.fin .norm st)
  | ret (st : St) : Ev tab pr (.code .ret st) (.fin .ret st)
  | exit (id : Nat) (st : St) : Ev tab pr (.code (.exit id) st) (.fin (.exit id) st)
  | reg {l : List AOper} {st st' : St} (h : Ev tab pr (.ops l st) (.fin .norm st')) : Ev tab pr (.code (.reg l) st) (.fin .norm st')
  | seq {a b : AC} {st st' st2 : St} {ex : AEx} (h : Ev tab pr (.code a st) (.fin .norm st')) (k : Ev tab pr (.code b st') (.fin ex st2)) : Ev tab pr (.code (.seq a b) st) (.fin ex st2)
  | seq' {a b : AC} {st st' : St} {ex : AEx} (h : Ev tab pr (.code a st) (.fin ex st')) (hne : ex ≠ .norm) : Ev tab pr (.code (.seq a b) st) (.fin ex st')
  | cond {c : Opd} {a b : AC} {st st' : St} {ex : AEx} {t : Bool} (hc : st.ev c = .b t) (h : Ev tab pr (.code (cond t a b) st) (.fin ex st')) : Ev tab pr (.code (.cond c a b) st) (.fin ex st')
  | blk {id : Nat} {c : AC} {st st' : St} (h : Ev tab pr (.code c st) (.fin (.exit id) st')) : Ev tab pr (.code (.blk id c) st) (.fin .norm st')
  | blk' {id : Nat} {c : AC} {st st' : St} {ex : AEx} (h : Ev tab pr (.code c st) (.fin ex st')) (hne : ex ≠ .exit id) : Ev tab pr (.code (.blk id c) st) (.fin ex st')
  | loop {c : AC} {st st' st2 : St} {ex : AEx} (h : Ev tab pr (.code c st) (.fin .norm st')) (k : Ev tab pr (.code (.loop c) st') (.fin ex st2)) : Ev tab pr (.code (.loop c) st) (.fin ex st2)
  | loop' {c : AC} {st st' : St} {ex : AEx} (h : Ev tab pr (.code c st) (.fin ex st')) (hne : ex ≠ .norm) : Ev tab pr (.code (.loop c) st) (.fin ex st')
  | kill {c : AC} {st : St} {x : Out} (ks : List Nat) (h : Ev tab pr (.code c { st with T := st.T.kill ks }) x) : Ev tab pr (.code c st) x
  | fn {p : Bool} {g : FuncId} {args : List V} {h hh : H} {gl : Nat → List V} {fn : AFunc} {ex : AEx} {st1 : St} {v : V} (ht : tab g = some fn) (hn : args.length ≤ fn.n)
      (hc : Ev tab pr (.code fn.body (St.enter gl fn p args h)) (.fin ex st1)) (he : ex.ends = true) (hl : leave fn p h st1 = some (v, hh)) : Ev tab pr (.fn p g args h gl) (.val v hh)
  | prim {p : Bool} {g : FuncId} {args : List V} {h : H} {gl : Nat → List V} {v : V} (hg : pr.ok gl) (hp : pr.rel g args v) : Ev tab pr (.fn p g args h gl) (.val v h)

/-! ### The check -/
def guardOk (n : Nat) (ops : Array Oper) : Option (Nat × Bool) → Option (Nat × Bool) → Bool
  | none, none => true
  | some (j, w), some (t, w') => (w == w') && Nat.blt t n && (match ops[j]? with | some oj => decide (oj.dst = some t) | none => false)
  | _, _ => false

def callChk (n : Nat) : Op → AOp → Bool
  | .call { callee := .value (.func g), args, argTypes := _ }, .call _ f axs => Nat.beq g f && opdsOk n args.toList axs
  | .call { callee := .value x, args, argTypes := _ }, .callv _ ax axs => opdOk n x ax && opdsOk n args.toList axs
  | _, _ => false

def isBad : AOp → Bool
  | .bad => true
  | _ => false

def operOk (P : Program) (K : Known) (n : Nat) (kl : List (Nat × List Nat)) (ops : Array Oper) (o : Oper) (a : AOper) : Bool :=
  decide (o.dst = a.dst) && guardOk n ops o.guard a.guard && (opChk P K n kl o.dst o.op a.op || callChk n o.op a.op || isBad a.op)

def opersOk (P : Program) (K : Known) (n : Nat) (kl : List (Nat × List Nat)) (ops : Array Oper) : List Oper → List AOper → Bool
  | [], [] => true
  | o :: r, a :: s => operOk P K n kl ops o a && opersOk P K n kl ops r s
  | _, _ => false

def codeOk (P : Program) (K : Known) (n : Nat) (kl : List (Nat × List Nat)) : Code → AC → Bool
  | .skip, .skip => true
  | .ret, .ret => true
  | .exit i, .exit j => Nat.beq i j
  | .seq a b, .seq x y => codeOk P K n kl a x && codeOk P K n kl b y
  | .cond c a b, .cond ac x y => opdOk n c ac && codeOk P K n kl a x && codeOk P K n kl b y
  | .block i c, .blk j x => Nat.beq i j && codeOk P K n kl c x
  | .loop c, .loop x => codeOk P K n kl c x
  | .region _ ops false, .reg l => opersOk P K n kl ops ops.toList l
  | .region _ ops true, .reg l => P.follows .mixedOrders && opersOk P K n kl ops ops.toList l && drawOk ops.toList l
  | _, .refuse => true
  | _, _ => false

def resChk (P : Program) (n : Nat) : List ResultVar → List ARes → Bool
  | [], [] => true
  | .tmp t :: r, .tmp u :: s => Nat.beq t u && Nat.blt t n && resChk P n r s
  | .cell t ty :: r, .cell u agg k :: s => Nat.beq t u && Nat.blt t n && memOk P ty agg k && resChk P n r s
  | _, _ => false

def fnOk (P : Program) (K : Known) (g : FuncId) (fn : AFunc) : Bool :=
  match P.funcs[g]? with
  | some f => (match f.body with
    | some c => Nat.beq f.ntmps fn.n && !(f.name == "runtime.NumGoroutine") && resChk P fn.n f.results.toList fn.res && codeOk P K fn.n fn.kl c fn.body
    | none => false)
  | none => false

/-! ### Calls -/
theorem Reach.of_calls {P : Program} {g : FuncId} {cs : Array Value} {W : World} {K : Value → World → Prop} {f : Func} {b : Code} (hf : P.funcs[g]? = some f) (hb : f.body = some b) (hn : (f.name == "runtime.NumGoroutine") = false)
    (h : Calls P g cs W fun | .returned c, W' => K c W' | _, _ => False) : Reach P g cs W K := by
  intro o a next Q hk
  have e : (callFunc g cs).run P W = .ok (.enter g cs) W := by
    simp [callFunc, program, Sem.run, hf, hb]
    simpa using hn
  rw [e, Oper.upon_enter]
  exact h.mono fun e W' he => by
    cases e with
    | returned v => exact hk _ _ he
    | panicked _ => exact he.elim
    | outgrown => exact he.elim

theorem Reach.of_value {P : Program} {g : FuncId} {cs : Array Value} {W W' : World} {K : Value → World → Prop} {c : Value} (h : (callFunc g cs).run P W = .ok (.value c) W') (hk : K c W') : Reach P g cs W K := by
  intro o a next Q hn
  rw [h, Oper.upon_value]
  exact hn _ _ hk

theorem Reach.mono {P : Program} {g : FuncId} {cs : Array Value} {W : World} {K K' : Value → World → Prop} (h : Reach P g cs W K) (hk : ∀ c W', K c W' → K' c W') : Reach P g cs W K' :=
  fun o a next Q hn => h o a next Q fun c W' hc => hn c W' (hk c W' hc)

/-- What is assumed of functions whose code is not walked. -/
def PrimOK (P : Program) (pr : Prims) : Prop :=
  ∀ gl, pr.ok gl → ∀ g args v, pr.rel g args v → v.plain = true ∧ ∀ (G : Gh) (W : World) (cs : Array Value), VRs G W args cs → (∀ i, VR G W (.ip (gl i) 0) (.pointer (some ⟨i, 0, none⟩))) →
    Reach P g cs W fun c W' => ∃ G', Keep G W G' W' ∧ (∀ id b, G'.obj id = some b → G.obj id = some b) ∧ G'.nt = G.nt ∧ VR G' W' v c

structure Good (P : Program) (K : Known) (tab : FuncId → Option AFunc) (pr : Prims) : Prop where
  known : K.OK P
  tab : ∀ g fn, tab g = some fn → fnOk P K g fn = true
  prim : PrimOK P pr

/-! ### Results -/
section
variable {P : Program} {K : Known} {kl : List (Nat × List Nat)} {G : Gh} {W : World} {st : St} {A : Act}

theorem rd_tmp (hs : StRel P kl G W st A) {a n : Nat} (ha : a < A.tmps.size) {xs : List V} (hn : 0 < n) (h : st.rd (st.T.get a) n = some xs) :
    ∃ (b o : Nat) (cs : Nat → Value), A.tmps.getD a undef = .pointer (some ⟨b, o, none⟩) ∧ (∀ j, j < n → W.cell? ⟨b, o + j, none⟩ = some (cs j)) ∧ xs.length = n ∧ ∀ j, j < n → VR G W (xs.getD j .any) (cs j) :=
  rd_sound hs (x := .tmp a) (ax := .t a) (by simp [opdOk, Nat.blt]; omega) hn h

theorem resOne (hs : StRel P kl G W st A) : ∀ {rs : List ResultVar} {res : List ARes} {vs : List V}, resChk P A.tmps.size rs res = true → resV st res = some vs →
    ∃ cs : List Value, (rs.mapM (m := Sem) fun | .tmp t => pure (A.tmps.getD t undef) | .cell a t => do loadVar t (← asAddr (A.tmps.getD a undef))).run P W = .ok cs W ∧ vs.length = cs.length ∧
      (∀ j, j < vs.length → VR G W (vs.getD j .any) (cs.getD j undef)) ∧ ∀ v ∈ vs, v.plain = true
  | [], [], vs, _, h => by
    simp only [resV, Option.some.injEq] at h
    subst h
    exact ⟨[], by simp, rfl, (fun j hj => by cases hj), (fun v hv => by cases hv)⟩
  | .tmp t :: r, .tmp u :: s, vs, hk, h => by
    simp only [resChk, Bool.and_eq_true] at hk
    obtain ⟨⟨k1, k2⟩, k3⟩ := hk
    have := Nat.eq_of_beq_eq_true k1
    subst this
    simp only [resV] at h
    cases hr : resV st s with
    | none => rw [hr] at h; cases h
    | some ws =>
      rw [hr] at h
      simp only [Option.map_some, Option.some.injEq] at h
      subst h
      obtain ⟨cs, e1, e2, e3, e4⟩ := resOne hs k3 hr
      refine ⟨A.tmps.getD t undef :: cs, ?_, by simp [e2], list_rel e2 e3 ?_, ?_⟩
      · simp only [List.mapM_cons, Sem.run_bind, Sem.run_pure, Result.andThen_ok]
        rw [e1]; rfl
      · exact (hs.T t (by simp [Nat.blt] at k2; omega)).val
      · intro v hv
        rcases List.mem_cons.1 hv with rfl | hv
        · exact val_plain _
        · exact e4 v hv
  | .cell a ty :: r, .cell u agg k :: s, vs, hk, h => by
    simp only [resChk, Bool.and_eq_true] at hk
    obtain ⟨⟨⟨k1, k2⟩, k3⟩, k4⟩ := hk
    have := Nat.eq_of_beq_eq_true k1
    subst this
    obtain ⟨m1, m2, m3, m4⟩ := memOk_spec k3
    simp only [resV] at h
    cases hrd : st.rd (st.T.get a) k with
    | none => rw [hrd] at h; cases h
    | some xs =>
      rw [hrd] at h
      simp only at h
      cases hr : resV st s with
      | none => rw [hr] at h; cases h
      | some ws =>
        rw [hr] at h
        simp only at h
        obtain ⟨cs, e1, e2, e3, e4⟩ := resOne hs k4 hr
        obtain ⟨b, o, cc, f1, f2, f3, f4⟩ := rd_tmp hs (by simp [Nat.blt] at k2; omega) m4 hrd
        have hrun : (do loadVar ty (← asAddr (A.tmps.getD a undef)) : Sem Value).run P W = .ok (if agg then .agg (stretch cc 0 k).toArray else cc 0) W := by
          rw [f1]
          simp only [asAddr, Sem.run_bind, Sem.run_pure, Result.andThen_ok]
          exact run_loadVar' m1 m2 m3 cc f2
        have hgo : ∀ (u : V) (c : Value), (if agg then Value.agg (stretch cc 0 k).toArray else cc 0) = c → VR G W u c → u.plain = true → some (u :: ws) = some vs →
            ∃ cs : List Value, ((ResultVar.cell a ty :: r).mapM (m := Sem) fun | .tmp t => pure (A.tmps.getD t undef) | .cell a t => do loadVar t (← asAddr (A.tmps.getD a undef))).run P W = .ok cs W ∧ vs.length = cs.length ∧
              (∀ j, j < vs.length → VR G W (vs.getD j .any) (cs.getD j undef)) ∧ ∀ v ∈ vs, v.plain = true := by
          intro u c hc hv hp he
          simp only [Option.some.injEq] at he
          subst he
          refine ⟨c :: cs, ?_, by simp [e2], list_rel e2 e3 hv, ?_⟩
          · rw [List.mapM_cons, Sem.run_bind, hrun, hc]
            simp only [Result.andThen_ok, Sem.run_bind]
            rw [e1]; rfl
          · intro v hv
            rcases List.mem_cons.1 hv with rfl | hv
            · exact hp
            · exact e4 v hv
        cases agg with
        | true =>
          simp only [cond_true] at h
          refine hgo (.agg xs) _ rfl ?_ rfl h
          refine .agg xs _ (by simp [stretch_length, f3]) (fun j hj => ?_)
          have e : (stretch cc 0 k).toArray.getD j undef = cc j := by
            have := stretch_getD cc k 0 j (by omega)
            simp only [Nat.zero_add] at this
            rw [← this]
            simp [Array.getD_eq_getD_getElem?, List.getD_eq_getElem?_getD]
          rw [e]; exact f4 j (by omega)
        | false =>
          simp only [cond_false] at h
          split at h
          · rename_i u
            have := f4 0 m4
            simp only [List.getD_cons_zero] at this
            exact hgo u.val _ rfl this.val (val_plain u) h
          · cases h
  | [], _ :: _, _, hk, _ => by simp [resChk] at hk
  | .tmp _ :: _, [], _, hk, _ => by simp [resChk] at hk
  | .cell _ _ :: _, [], _, hk, _ => by simp [resChk] at hk
  | .tmp _ :: _, .cell _ _ _ :: _, _, hk, _ => by simp [resChk] at hk
  | .cell _ _ :: _, .tmp _ :: _, _, hk, _ => by simp [resChk] at hk

theorem results_sound (hs : StRel P kl G W st A) {f : Func} {res : List ARes} {vs : List V} (hk : resChk P A.tmps.size f.results.toList res = true) (h : resV st res = some vs) :
    ∃ c, (results f A.tmps).run P W = .ok c W ∧ VR G W (oneOf vs) c ∧ (oneOf vs).plain = true := by
  obtain ⟨cs, e1, e2, e3, e4⟩ := resOne hs hk h
  have hm : (f.results.mapM (m := Sem) fun | .tmp t => pure (A.tmps.getD t undef) | .cell a t => do loadVar t (← asAddr (A.tmps.getD a undef))).run P W = .ok cs.toArray W := by
    rw [Array.mapM_eq_mapM_toList]
    simp only [Sem.run_map]
    rw [e1]; rfl
  have hrun : (results f A.tmps).run P W = .ok (if h : cs.toArray.size = 1 then cs.toArray[0] else .tuple cs.toArray) W := by
    unfold results
    rw [Sem.run_bind]
    exact congrArg (fun r : Result (Array Value) => r.andThen fun vs => (pure (if h : vs.size = 1 then vs[0] else .tuple vs) : Sem Value).run P) hm
  refine ⟨_, hrun, ?_⟩
  clear hrun hm e1 h
  revert e2 e3 e4
  match vs, cs with
  | [], [] => exact fun _ _ _ => ⟨.tup [] #[] rfl (fun j hj => by cases hj), rfl⟩
  | [v], [c] => exact fun _ e3 e4 => ⟨by simpa [oneOf] using e3 0 (by simp), e4 v (by simp)⟩
  | v :: w :: r, c :: d :: s =>
    intro e2 e3 _
    refine ⟨?_, rfl⟩
    have : ¬ (c :: d :: s).toArray.size = 1 := by simp
    rw [dif_neg this]
    exact .tup _ _ (by simpa using e2) (fun j hj => by
      have := e3 j hj
      simpa [Array.getD_eq_getD_getElem?, List.getD_eq_getElem?_getD] using this)
  | [], _ :: _ => exact fun e2 => by simp at e2
  | _ :: _, [] => exact fun e2 => by simp at e2
  | [_], _ :: _ :: _ => exact fun e2 => by simp at e2
  | _ :: _ :: _, [_] => exact fun e2 => by simp at e2

end
end Ai
