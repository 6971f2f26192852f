/- The abstract interpreter: what code comes to, as a relation; does our code match the model's? The abstract interpreter: what the relation says is what the model does: the theorem. The abstract interpreter: what the evaluator finds is so; the way to the model's calls. The abstract interpreter: functions that are told, not walked: what the kit's library says of them. -/
import Derived.Test.YtopbdgdfnmlldaaGreatDoorAi08
import Derived.Shelf.Strings.OnBuilder
namespace Ai
open Go

/-! ### Objects, seen as rows -/
/-- A row of the shared memory, as it stands now. -/
def thaw (h : H) : V → V
  | .hs id off n sz => match al h.objs id with
    | some (.cells _ cs) => (match sub? cs off (n * sz) with
      | some xs => .sl xs n .no
      | none => .hs id off n sz)
    | _ => .hs id off n sz
  | v => v

/-! ### The relation -/
inductive J where
  | ops (l : List AOper) (st : St)
  | code (c : AC) (st : St)
  | dops (i : Nat) (seen : List (Nat × (AOper × FP))) (l : List (AOper × List Nat)) (st : St)
  | fn (p : Bool) (g : FuncId) (args : List V) (h : H) (gl : Nat → List V)

inductive Out where
  | fin (ex : AEx) (st : St)
  | val (v : V) (h : H)

/-- What is told of functions that are not walked: of which package variables it holds, and what. -/
structure Prims where
  ok : (Nat → List V) → Prop
  rel : FuncId → List V → V → Prop
  grow : FuncId → Option TypeId := fun _ => none   -- slices.Grow of rows of that type

inductive Ev (tab : FuncId → Option AFunc) (pr : Prims) : J → Out → Prop
  | nil (st : St) : Ev tab pr (.ops [] st) (.fin .norm st)
  | pass {o : AOper} {r : List AOper} {st : St} {x : Out} (hw : wanted st o = some false) (h : Ev tab pr (.ops r (st.put o.dst (.tup []))) x) : Ev tab pr (.ops (o :: r) st) x
  | step {o : AOper} {r : List AOper} {st st' : St} {v : V} {x : Out} (hw : wanted st o = some true) (hc : callee st o.op = none) (hs : step st (o.dst.getD 0) o.op = some (v, st')) (h : Ev tab pr (.ops r (st'.put o.dst v)) x) :
      Ev tab pr (.ops (o :: r) st) x
  | call {o : AOper} {r : List AOper} {st : St} {p : Bool} {g : FuncId} {args : List V} {v : V} {hh : H} {x : Out} (hw : wanted st o = some true) (hc : callee st o.op = some (p, g, args))
      (hf : Ev tab pr (.fn p g args st.h st.gl) (.val v hh)) (h : Ev tab pr (.ops r ({ st with h := hh }.put o.dst v)) x) : Ev tab pr (.ops (o :: r) st) x
  | dnil (i : Nat) (seen : List (Nat × (AOper × FP))) (st : St) : Ev tab pr (.dops i seen [] st) (.fin .norm st)
  | dpass {i : Nat} {seen : List (Nat × (AOper × FP))} {o : AOper} {js : List Nat} {r : List (AOper × List Nat)} {st : St} {x : Out} (hw : wanted st o = some false) (hk : chkF seen js (o, { v := .tup [] }) = true)
      (h : Ev tab pr (.dops (i + 1) ((i, (o, { v := .tup [] })) :: seen) r (st.put o.dst (.tup []))) x) : Ev tab pr (.dops i seen ((o, js) :: r) st) x
  | dstep {i : Nat} {seen : List (Nat × (AOper × FP))} {o : AOper} {js : List Nat} {r : List (AOper × List Nat)} {st st' : St} {v : V} {fp : FP} {x : Out} (hw : wanted st o = some true) (hc : callee st o.op = none)
      (hs : step st (o.dst.getD 0) o.op = some (v, st')) (hf : fpOf st o v st' = some fp) (hk : chkF seen js (o, fp) = true) (h : Ev tab pr (.dops (i + 1) ((i, (o, fp)) :: seen) r (st'.put o.dst v)) x) : Ev tab pr (.dops i seen ((o, js) :: r) st) x
  | dcall {i : Nat} {seen : List (Nat × (AOper × FP))} {o : AOper} {js : List Nat} {r : List (AOper × List Nat)} {st : St} {p : Bool} {g : FuncId} {args : List V} {v : V} {hh : H} {x : Out} (hw : wanted st o = some true)
      (hc : callee st o.op = some (p, g, args)) (hf : Ev tab pr (.fn p g args st.h st.gl) (.val v hh)) (hk : chkF seen js (o, fpCall p st.h hh v) = true)
      (h : Ev tab pr (.dops (i + 1) ((i, (o, fpCall p st.h hh v)) :: seen) r ({ st with h := hh }.put o.dst v)) x) : Ev tab pr (.dops i seen ((o, js) :: r) st) x
  | regd {l : List (AOper × List Nat)} {st st' : St} (h : Ev tab pr (.dops 0 [] l st) (.fin .norm st')) : Ev tab pr (.code (.regd l) st) (.fin .norm st')
  | skip (st : St) : Ev tab pr (.code .skip st) (.fin .norm st)
  | ret (st : St) : Ev tab pr (.code .ret st) (.fin .ret st)
  | exit (id : Nat) (st : St) : Ev tab pr (.code (.exit id) st) (.fin (.exit id) st)
  | reg {l : List AOper} {st st' : St} (h : Ev tab pr (.ops l st) (.fin .norm st')) : Ev tab pr (.code (.reg l) st) (.fin .norm st')
  | seq {a b : AC} {st st' st2 : St} {ex : AEx} (h : Ev tab pr (.code a st) (.fin .norm st')) (k : Ev tab pr (.code b st') (.fin ex st2)) : Ev tab pr (.code (.seq a b) st) (.fin ex st2)
  | seq' {a b : AC} {st st' : St} {ex : AEx} (h : Ev tab pr (.code a st) (.fin ex st')) (hne : ex ≠ .norm) : Ev tab pr (.code (.seq a b) st) (.fin ex st')
  | cond {c : Opd} {a b : AC} {st st' : St} {ex : AEx} {t : Bool} (hc : st.ev c = .b t) (h : Ev tab pr (.code (cond t a b) st) (.fin ex st')) : Ev tab pr (.code (.cond c a b) st) (.fin ex st')
  | blk {id : Nat} {c : AC} {st st' : St} (h : Ev tab pr (.code c st) (.fin (.exit id) st')) : Ev tab pr (.code (.blk id c) st) (.fin .norm st')
  | blk' {id : Nat} {c : AC} {st st' : St} {ex : AEx} (h : Ev tab pr (.code c st) (.fin ex st')) (hne : ex ≠ .exit id) : Ev tab pr (.code (.blk id c) st) (.fin ex st')
  | loop {c : AC} {st st' st2 : St} {ex : AEx} (h : Ev tab pr (.code c st) (.fin .norm st')) (k : Ev tab pr (.code (.loop c) st') (.fin ex st2)) : Ev tab pr (.code (.loop c) st) (.fin ex st2)
  | loop' {c : AC} {st st' : St} {ex : AEx} (h : Ev tab pr (.code c st) (.fin ex st')) (hne : ex ≠ .norm) : Ev tab pr (.code (.loop c) st) (.fin ex st')
  | rfun {x : Opd} {st st1 : St} {p : Bool} {g : FuncId} {cap : List V} {fn : AFunc} {ex : AEx} {v : V} {hh : H} (hx : st.ev x = .fn g [] cap) (ht : tab g = some fn) (hn : (V.any :: cap).length ≤ fn.n)
      (hc : Ev tab pr (.code fn.body (St.enter st.gl fn p (.any :: cap) st.h)) (.fin ex st1)) (he : ex.ends = true) (hl : leave fn p st.h st1 = some (v, hh)) : Ev tab pr (.code (.rfun x) st) (.fin .norm { st with h := hh })
  | grow {g : FuncId} {ty : TypeId} {n : Nat} {h : H} {gl : Nat → List V} (hg : pr.grow g = some ty) (h0 : 0 < n) (h1 : n ≤ 1000000) : Ev tab pr (.fn false g [.sl [] 0 .nil, .i .i64 n] h gl) (.val (.sl [] 0 (.own h.nt)) (h.tok 0 ty).2)
  | kill {c : AC} {st : St} {x : Out} (ks : List Nat) (h : Ev tab pr (.code c { st with T := st.T.kill ks }) x) : Ev tab pr (.code c st) x
  | fn {p : Bool} {g : FuncId} {args : List V} {h hh : H} {gl : Nat → List V} {fn : AFunc} {ex : AEx} {st1 : St} {v : V} (ht : tab g = some fn) (hn : args.length ≤ fn.n)
      (hc : Ev tab pr (.code fn.body (St.enter gl fn p args h)) (.fin ex st1)) (he : ex.ends = true) (hl : leave fn p h st1 = some (v, hh)) : Ev tab pr (.fn p g args h gl) (.val v hh)
  | prim {p : Bool} {g : FuncId} {args : List V} {h : H} {gl : Nat → List V} {v : V} (hg : pr.ok gl) (hp : pr.rel g args v) : Ev tab pr (.fn p g args h gl) (.val v h)
  | primH {g : FuncId} {args : List V} {h : H} {gl : Nat → List V} {l : List UInt8} (hg : pr.ok gl) (hp : pr.rel g (args.map (thaw h)) (.s l)) : Ev tab pr (.fn false g args h gl) (.val (.s l) h)

/-! ### The check -/
def guardOk (n : Nat) (ops : Array Oper) : Option (Nat × Bool) → Option (Nat × Bool) → Bool
  | none, none => true
  | some (j, w), some (t, w') => (w == w') && Nat.blt t n && (match ops[j]? with | some oj => decide (oj.dst = some t) | none => false)
  | _, _ => false

/-- Is that the method that a value of a type has by that name? -/
def methOk (P : Program) (name : String) (x : TypeId × FuncId) : Bool :=
  match P.info? x.1 with
  | some i => (match i.methods.find? (·.name == name) with
    | some m => m.path.toList.isEmpty && (match m.func, P.underlying x.1 with
      | some (f, pr), some (.pointer _) => pr && Nat.beq f x.2
      | some (f, pr), some _ => !pr && Nat.beq f x.2
      | _, _ => false)
    | none => false)
  | none => false

def callChk (P : Program) (n : Nat) : Op → AOp → Bool
  | .call { callee := .value (.func g), args, argTypes := _ }, .call _ f axs => Nat.beq g f && opdsOk n args.toList axs
  | .call { callee := .value x, args, argTypes := _ }, .callv _ ax axs => opdOk n x ax && opdsOk n args.toList axs
  | .call { callee := .invoke x name, args, argTypes := _ }, .inv _ ms ax axs => opdOk n x ax && opdsOk n args.toList axs && ms.all (methOk P name)
  | _, _ => false

def isBad : AOp → Bool
  | .bad => true
  | _ => false

def operOk (P : Program) (K : Known) (n : Nat) (kl : List (Nat × List Nat)) (ops : Array Oper) (o : Oper) (a : AOper) : Bool :=
  decide (o.dst = a.dst) && guardOk n ops o.guard a.guard && (opChk P K n kl o.dst o.op a.op || callChk P n o.op a.op || isBad a.op)

def opersOk (P : Program) (K : Known) (n : Nat) (kl : List (Nat × List Nat)) (ops : Array Oper) : List Oper → List AOper → Bool
  | [], [] => true
  | o :: r, a :: s => operOk P K n kl ops o a && opersOk P K n kl ops r s
  | _, _ => false

def codeOk (P : Program) (K : Known) (n : Nat) (kl : List (Nat × List Nat)) : Code → AC → Bool
  | .skip, .skip => true
  | .ret, .ret => true
  | .exit i, .exit j => Nat.beq i j
  | .seq a b, .seq x y => codeOk P K n kl a x && codeOk P K n kl b y
  | .cond c a b, .cond ac x y => opdOk n c ac && codeOk P K n kl a x && codeOk P K n kl b y
  | .block i c, .blk j x => Nat.beq i j && codeOk P K n kl c x
  | .loop c, .loop x => codeOk P K n kl c x
  | .region _ ops false, .reg l => opersOk P K n kl ops ops.toList l
  | .region _ ops true, .reg l => P.follows .mixedOrders && opersOk P K n kl ops ops.toList l && drawOk ops.toList l
  | .region _ ops true, .regd l => P.follows .mixedOrders && opersOk P K n kl ops ops.toList (l.map (·.1)) && backOk 0 ops.toList && pairsD (closure ops.toList []) (l.map (·.2)) ops.toList.length
  | .rangeFunc f _ _ _, .rfun x => opdOk n f x
  | _, .refuse => true
  | _, _ => false

def resChk (P : Program) (n : Nat) : List ResultVar → List ARes → Bool
  | [], [] => true
  | .tmp t :: r, .tmp u :: s => Nat.beq t u && Nat.blt t n && resChk P n r s
  | .cell t ty :: r, .cell u agg k :: s => Nat.beq t u && Nat.blt t n && memOk P ty agg k && resChk P n r s
  | _, _ => false

def fnOk (P : Program) (K : Known) (g : FuncId) (fn : AFunc) : Bool :=
  match P.funcs[g]? with
  | some f => (match f.body with
    | some c => Nat.beq f.ntmps fn.n && !(f.name == "runtime.NumGoroutine") && resChk P fn.n f.results.toList fn.res && codeOk P K fn.n fn.kl c fn.body
    | none => false)
  | none => false

/-! ### Calls -/
theorem Reach.of_calls {P : Program} {g : FuncId} {cs : Array Value} {W : World} {K : Value → World → Prop} {f : Func} {b : Code} (hf : P.funcs[g]? = some f) (hb : f.body = some b) (hn : (f.name == "runtime.NumGoroutine") = false)
    (h : Calls P g cs W fun | .returned c, W' => K c W' | _, _ => False) : Reach P g cs W K := by
  intro o a next Q hk
  have e : (callFunc g cs).run P W = .ok (.enter g cs) W := by
    simp [callFunc, program, Sem.run, hf, hb]
    simpa using hn
  rw [e, Oper.upon_enter]
  exact h.mono fun e W' he => by
    cases e with
    | returned v => exact hk _ _ he
    | panicked _ => exact he.elim
    | outgrown => exact he.elim

theorem Reach.of_value {P : Program} {g : FuncId} {cs : Array Value} {W W' : World} {K : Value → World → Prop} {c : Value} (h : (callFunc g cs).run P W = .ok (.value c) W') (hk : K c W') : Reach P g cs W K := by
  intro o a next Q hn
  rw [h, Oper.upon_value]
  exact hn _ _ hk

theorem Reach.mono {P : Program} {g : FuncId} {cs : Array Value} {W : World} {K K' : Value → World → Prop} (h : Reach P g cs W K) (hk : ∀ c W', K c W' → K' c W') : Reach P g cs W K' :=
  fun o a next Q hn => h o a next Q fun c W' hc => hn c W' (hk c W' hc)

/-- What is assumed of functions whose code is not walked. -/
def PrimOK (P : Program) (pr : Prims) : Prop :=
  ∀ gl, pr.ok gl → ∀ g args v, pr.rel g args v → v.plain = true ∧ ∀ (G : Gh) (W : World) (cs : Array Value), VRs G W args cs → (∀ i, Row1 G W i (gl i)) →
    Reach P g cs W fun c W' => ∃ G', Keep G W G' W' ∧ (∀ id b, G'.obj id = some b → G.obj id = some b) ∧ G'.nt = G.nt ∧ VR G' W' v c

/-- What is assumed of slices.Grow: of nothing, it makes a new row. -/
def GrowOK (P : Program) (pr : Prims) : Prop :=
  ∀ g ty, pr.grow g = some ty → (∃ f b, P.funcs[g]? = some f ∧ f.body = some b ∧ (f.name == "runtime.NumGoroutine") = false) ∧ ∀ (n : Nat) (W : World), 0 < n → n ≤ 1000000 →
    Calls P g #[.slice none 0 0, .int .i64 n] W fun | .returned c, W' => ∃ (cap : Nat) (cs : Array Value), c = .slice (some ⟨W.heap.size, 0, none⟩) 0 cap ∧ W' = W.drew.alloc (.cells cs ty) ∧ cap * P.cellsOf ty ≤ cs.size | _, _ => False

structure Good (P : Program) (K : Known) (tab : FuncId → Option AFunc) (pr : Prims) : Prop where
  known : K.OK P
  tab : ∀ g fn, tab g = some fn → fnOk P K g fn = true
  prim : PrimOK P pr
  grow : GrowOK P pr := by exact fun g ty h => nomatch (show (none : Option TypeId) = some ty from h)

/-- Blocks of the shared memory, seen as never written again. -/
def Gh.all (G : Gh) (W : World) : Gh := { G with own := fun b => match G.own b with | .obj _ => .ro (bsz W b) | x => x }

theorem Ext.all (G : Gh) (W : World) : Ext G W (G.all W) W where
  tape := rfl
  os := rfl
  out := rfl
  sz := Nat.le_refl _
  szb := fun _ _ => rfl
  e1 := fun b _ ho => ⟨rfl, by simp [Gh.all, ho]⟩
  ro := fun b f ho _ => ⟨rfl, by simp [Gh.all, ho]⟩
  row := fun b t f ho _ => ⟨fun _ _ => rfl, f, Nat.le_refl _, .inl (by simp [Gh.all, ho])⟩
  obj := fun _ _ h => h
  nt := Nat.le_refl _
  tip := fun _ _ => ⟨Nat.le_refl _, fun _ => rfl⟩

theorem thaw_vr {P : Program} {G : Gh} {W : World} {h : H} (hr : HRel P G W h) {v : V} {c : Value} (hv : VR G W v c) : VR (G.all W) W (thaw h v) c := by
  have e := Ext.all G W
  unfold thaw
  split
  · rename_i id off n sz
    split
    · rename_i ty cs ho
      split
      · rename_i xs hx
        cases hv with | hs _ _ _ _ b cap a hb hn ha hz hbs =>
        obtain ⟨b', h1, h2, h3⟩ := hr.objs id _ ho
        obtain rfl : b' = b := Option.some.inj (h1.symm.trans hb)
        obtain ⟨cc, fz, q1, q2, q3, q4⟩ := h3.ex
        obtain ⟨s1, _, s3, s4⟩ := sub?_spec hx
        have hl : ∀ j, j < xs.length → off + j < cs.length := fun j hj => by have := s4 (by omega); omega
        refine .sl xs n .no a cap b' off (fun j => cc.getD (off + j) undef) hn (fun hne => ha ?_) (fun j hj => ?_) (fun j hj => ?_) (fun j hj => ?_) trivial
        · rcases Nat.eq_zero_or_pos n with h0 | h0
          · subst h0; simp at s1; exact absurd s1 hne
          · exact h0
        · have := hl j hj
          unfold Gh.imm Gh.all
          simp only [h2]
          rw [bsz_cells q1]; omega
        · exact cell_getD q1 (by have := hl j hj; omega)
        · rw [s3 j (by omega)]
          exact (q4 _ (hl j hj)).mono e
      · exact hv.mono e
    · exact hv.mono e
  · exact hv.mono e

theorem thaw_vrs {P : Program} {G : Gh} {W : World} {h : H} (hr : HRel P G W h) {l : List V} {a : Array Value} (hv : VRs G W l a) : VRs (G.all W) W (l.map (thaw h)) a :=
  ⟨by simpa using hv.1, fun j hj => by
    have hj' : j < l.length := by simpa using hj
    have e : (l.map (thaw h)).getD j .any = thaw h (l.getD j .any) := by simp [List.getD_eq_getElem?_getD, List.getElem?_map, List.getElem?_eq_getElem hj']
    rw [e]
    exact thaw_vr hr (hv.2 j hj')⟩

/-! ### Results -/
section
variable {P : Program} {K : Known} {kl : List (Nat × List Nat)} {G : Gh} {W : World} {st : St} {A : Act}

theorem rd_tmp (hs : StRel P kl G W st A) {a n : Nat} (ha : a < A.tmps.size) {xs : List V} (hn : 0 < n) (h : st.rd (st.T.get a) n = some xs) :
    ∃ (b o : Nat) (cs : Nat → Value), A.tmps.getD a undef = .pointer (some ⟨b, o, none⟩) ∧ (∀ j, j < n → W.cell? ⟨b, o + j, none⟩ = some (cs j)) ∧ xs.length = n ∧ ∀ j, j < n → VR G W (xs.getD j .any) (cs j) :=
  rd_sound hs (x := .tmp a) (ax := .t a) (by simp [opdOk, Nat.blt]; omega) hn h

theorem resOne (hs : StRel P kl G W st A) : ∀ {rs : List ResultVar} {res : List ARes} {vs : List V}, resChk P A.tmps.size rs res = true → resV st res = some vs →
    ∃ cs : List Value, (rs.mapM (m := Sem) fun | .tmp t => pure (A.tmps.getD t undef) | .cell a t => do loadVar t (← asAddr (A.tmps.getD a undef))).run P W = .ok cs W ∧ vs.length = cs.length ∧
      (∀ j, j < vs.length → VR G W (vs.getD j .any) (cs.getD j undef)) ∧ ∀ v ∈ vs, v.plain = true
  | [], [], vs, _, h => by
    simp only [resV, Option.some.injEq] at h
    subst h
    exact ⟨[], by simp, rfl, (fun j hj => by cases hj), (fun v hv => by cases hv)⟩
  | .tmp t :: r, .tmp u :: s, vs, hk, h => by
    simp only [resChk, Bool.and_eq_true] at hk
    obtain ⟨⟨k1, k2⟩, k3⟩ := hk
    have := Nat.eq_of_beq_eq_true k1
    subst this
    simp only [resV] at h
    cases hr : resV st s with
    | none => rw [hr] at h; cases h
    | some ws =>
      rw [hr] at h
      simp only [Option.map_some, Option.some.injEq] at h
      subst h
      obtain ⟨cs, e1, e2, e3, e4⟩ := resOne hs k3 hr
      refine ⟨A.tmps.getD t undef :: cs, ?_, by simp [e2], list_rel e2 e3 ?_, ?_⟩
      · simp only [List.mapM_cons, Sem.run_bind, Sem.run_pure, Result.andThen_ok]
        rw [e1]; rfl
      · exact (hs.T t (by simp [Nat.blt] at k2; omega)).val
      · intro v hv
        rcases List.mem_cons.1 hv with rfl | hv
        · exact val_plain _
        · exact e4 v hv
  | .cell a ty :: r, .cell u agg k :: s, vs, hk, h => by
    simp only [resChk, Bool.and_eq_true] at hk
    obtain ⟨⟨⟨k1, k2⟩, k3⟩, k4⟩ := hk
    have := Nat.eq_of_beq_eq_true k1
    subst this
    obtain ⟨m1, m2, m3, m4⟩ := memOk_spec k3
    simp only [resV] at h
    cases hrd : st.rd (st.T.get a) k with
    | none => rw [hrd] at h; cases h
    | some xs =>
      rw [hrd] at h
      simp only at h
      cases hr : resV st s with
      | none => rw [hr] at h; cases h
      | some ws =>
        rw [hr] at h
        simp only at h
        obtain ⟨cs, e1, e2, e3, e4⟩ := resOne hs k4 hr
        obtain ⟨b, o, cc, f1, f2, f3, f4⟩ := rd_tmp hs (by simp [Nat.blt] at k2; omega) m4 hrd
        have hrun : (do loadVar ty (← asAddr (A.tmps.getD a undef)) : Sem Value).run P W = .ok (if agg then .agg (stretch cc 0 k).toArray else cc 0) W := by
          rw [f1]
          simp only [asAddr, Sem.run_bind, Sem.run_pure, Result.andThen_ok]
          exact run_loadVar' m1 m2 m3 cc f2
        have hgo : ∀ (u : V) (c : Value), (if agg then Value.agg (stretch cc 0 k).toArray else cc 0) = c → VR G W u c → u.plain = true → some (u :: ws) = some vs →
            ∃ cs : List Value, ((ResultVar.cell a ty :: r).mapM (m := Sem) fun | .tmp t => pure (A.tmps.getD t undef) | .cell a t => do loadVar t (← asAddr (A.tmps.getD a undef))).run P W = .ok cs W ∧ vs.length = cs.length ∧
              (∀ j, j < vs.length → VR G W (vs.getD j .any) (cs.getD j undef)) ∧ ∀ v ∈ vs, v.plain = true := by
          intro u c hc hv hp he
          simp only [Option.some.injEq] at he
          subst he
          refine ⟨c :: cs, ?_, by simp [e2], list_rel e2 e3 hv, ?_⟩
          · rw [List.mapM_cons, Sem.run_bind, hrun, hc]
            simp only [Result.andThen_ok, Sem.run_bind]
            rw [e1]; rfl
          · intro v hv
            rcases List.mem_cons.1 hv with rfl | hv
            · exact hp
            · exact e4 v hv
        cases agg with
        | true =>
          simp only [cond_true] at h
          refine hgo (.agg xs) _ rfl ?_ rfl h
          refine .agg xs _ (by simp [stretch_length, f3]) (fun j hj => ?_)
          have e : (stretch cc 0 k).toArray.getD j undef = cc j := by
            have := stretch_getD cc k 0 j (by omega)
            simp only [Nat.zero_add] at this
            rw [← this]
            simp [Array.getD_eq_getD_getElem?, List.getD_eq_getElem?_getD]
          rw [e]; exact f4 j (by omega)
        | false =>
          simp only [cond_false] at h
          split at h
          · rename_i u
            have := f4 0 m4
            simp only [List.getD_cons_zero] at this
            exact hgo u.val _ rfl this.val (val_plain u) h
          · cases h
  | [], _ :: _, _, hk, _ => by simp [resChk] at hk
  | .tmp _ :: _, [], _, hk, _ => by simp [resChk] at hk
  | .cell _ _ :: _, [], _, hk, _ => by simp [resChk] at hk
  | .tmp _ :: _, .cell _ _ _ :: _, _, hk, _ => by simp [resChk] at hk
  | .cell _ _ :: _, .tmp _ :: _, _, hk, _ => by simp [resChk] at hk

theorem results_sound (hs : StRel P kl G W st A) {f : Func} {res : List ARes} {vs : List V} (hk : resChk P A.tmps.size f.results.toList res = true) (h : resV st res = some vs) :
    ∃ c, (results f A.tmps).run P W = .ok c W ∧ VR G W (oneOf vs) c ∧ (oneOf vs).plain = true := by
  obtain ⟨cs, e1, e2, e3, e4⟩ := resOne hs hk h
  have hm : (f.results.mapM (m := Sem) fun | .tmp t => pure (A.tmps.getD t undef) | .cell a t => do loadVar t (← asAddr (A.tmps.getD a undef))).run P W = .ok cs.toArray W := by
    rw [Array.mapM_eq_mapM_toList]
    simp only [Sem.run_map]
    rw [e1]; rfl
  have hrun : (results f A.tmps).run P W = .ok (if h : cs.toArray.size = 1 then cs.toArray[0] else .tuple cs.toArray) W := by
    unfold results
    rw [Sem.run_bind]
    exact congrArg (fun r : Result (Array Value) => r.andThen fun vs => (pure (if h : vs.size = 1 then vs[0] else .tuple vs) : Sem Value).run P) hm
  refine ⟨_, hrun, ?_⟩
  clear hrun hm e1 h
  revert e2 e3 e4
  match vs, cs with
  | [], [] => exact fun _ _ _ => ⟨.tup [] #[] rfl (fun j hj => by cases hj), rfl⟩
  | [v], [c] => exact fun _ e3 e4 => ⟨by simpa [oneOf] using e3 0 (by simp), e4 v (by simp)⟩
  | v :: w :: r, c :: d :: s =>
    intro e2 e3 _
    refine ⟨?_, rfl⟩
    have : ¬ (c :: d :: s).toArray.size = 1 := by simp
    rw [dif_neg this]
    exact .tup _ _ (by simpa using e2) (fun j hj => by
      have := e3 j hj
      simpa [Array.getD_eq_getD_getElem?, List.getD_eq_getElem?_getD] using this)
  | [], _ :: _ => exact fun e2 => by simp at e2
  | _ :: _, [] => exact fun e2 => by simp at e2
  | [_], _ :: _ :: _ => exact fun e2 => by simp at e2
  | _ :: _ :: _, [_] => exact fun e2 => by simp at e2

end
end Ai

namespace Ai
open Go

/-- How the model's code ends where ours does. -/
def exitOf : AEx → Exit
  | .norm => .normal
  | .ret => .ret
  | .exit id => .exit id

section
variable {P : Program} {K : Known} {tab : FuncId → Option AFunc} {pr : Prims}

/-- Behind the loop's first step. -/
def LoopWp (P : Program) (c : Code) (Q : Exit → Act → World → Prop) (a : Act) (w : World) : Prop :=
  ∀ (b : Frame) (k : List Item) (cs : List Frame), ∃ e a' w', Q e a' w' ∧ Arrives P (lone (b.at a (.code c :: .inLoop c :: k)) cs w) b k cs e a' w'

theorem wp_of_loop {c : Code} {Q : Exit → Act → World → Prop} {a : Act} {w : World} (h : LoopWp P c Q a w) : (Code.loop c).wp P Q a w :=
  fun b k cs => let ⟨e, a', w', q, r⟩ := h b k cs; ⟨e, a', w', q, .of_steps (.one step_loop) r⟩

theorem loop_round {c : Code} {Q : Exit → Act → World → Prop} {a : Act} {w : World} (h : c.wp P (Exit.then (LoopWp P c Q) Q) a w) : LoopWp P c Q a w := by
  intro b k cs
  obtain ⟨e, a₁, w₁, hq, harr⟩ := h b (.inLoop c :: k) cs
  cases e with
  | normal =>
    obtain ⟨e₂, a₂, w₂, hq₂, harr₂⟩ := hq b k cs
    exact ⟨e₂, a₂, w₂, hq₂, .of_steps (Steps.trans harr (.one step_inLoop)) harr₂⟩
  | exit id => exact ⟨_, a₁, w₁, hq, .pass (x := .inLoop c) rfl (fun _ _ => .inl (by simp)) harr⟩
  | goto l => exact ⟨_, a₁, w₁, hq, .pass (x := .inLoop c) rfl (fun _ _ => .inl (by simp)) harr⟩
  | ret => exact ⟨_, a₁, w₁, hq, .pass (x := .inLoop c) rfl (fun _ _ => .inl (by simp)) harr⟩
  | panic ch => exact ⟨_, a₁, w₁, hq, .pass (x := .inLoop c) rfl (fun _ _ => .inl (by simp)) harr⟩
  | outgrown => exact ⟨_, a₁, w₁, hq, .pass (x := .inLoop c) rfl (fun _ _ => .inl (by simp)) harr⟩

/-- What may come behind. -/
def Then (P : Program) (kl : List (Nat × List Nat)) (G : Gh) (W : World) (st' : St) (A : Act) (Q : Act → World → Prop) : Prop :=
  ∀ G' W' A', Ext G W G' W' → StRel P kl G' W' st' A' → A'.tmps.size = A.tmps.size → Mk W A G' W' A' → Q A' W'

/-- Places of a region, and our operations. -/
inductive Lines (P : Program) (K : Known) (n : Nat) (kl : List (Nat × List Nat)) (ops : Array Oper) : List Nat → List AOper → Prop
  | nil : Lines P K n kl ops [] []
  | cons {i : Nat} {o : Oper} {a : AOper} {r : List Nat} {s : List AOper} (ho : ops[i]? = some o) (hk : operOk P K n kl ops o a = true) (h : Lines P K n kl ops r s) : Lines P K n kl ops (i :: r) (a :: s)

def Means (P : Program) (K : Known) : J → Out → Prop
  | .ops l st, .fin ex st' => ex = .norm ∧ Chain P l st st'
  | .dops i seen l st, .fin ex st' => ex = .norm ∧ ∃ L, OKs i seen l L ∧ FChain P L st st'
  | .code c st, .fin ex st' => ∀ (kl : List (Nat × List Nat)) (code : Code) (G : Gh) (W : World) (A : Act), codeOk P K A.tmps.size kl code c = true → StRel P kl G W st A →
      ∀ Q : Exit → Act → World → Prop, Then P kl G W st' A (Q (exitOf ex)) → code.wp P Q A W ∧ ∀ b, code = .loop b → LoopWp P b Q A W
  | .fn p g args h gl, .val v h' => MFn P p g args h gl v h'
  | _, _ => False

theorem put_size (a : Act) (d : Option Nat) (v : Value) : (a.put d v).tmps.size = a.tmps.size := by
  cases d <;> simp [Act.put]
theorem put_defers (a : Act) (d : Option Nat) (v : Value) : (a.put d v).defers = a.defers := by
  cases d <;> rfl

/-- Whether an operation is carried out. -/
theorem wanted_sound {kl : List (Nat × List Nat)} {G : Gh} {W : World} {st : St} {A : Act} (hs : StRel P kl G W st A) {ops : Array Oper} {o : Oper} {a : AOper} (hk : guardOk A.tmps.size ops o.guard a.guard = true) {b : Bool}
    (h : wanted st a = some b) : Region.wanted o (yielded ops A.tmps) = b := by
  unfold wanted at h
  unfold Region.wanted
  cases hg : o.guard with
  | none =>
    cases hg' : a.guard with
    | none =>
      rw [hg'] at h
      simp only [Option.some.injEq] at h
      exact h
    | some p => rw [hg, hg'] at hk; simp [guardOk] at hk
  | some q =>
    obtain ⟨j, w⟩ := q
    cases hg' : a.guard with
    | none => rw [hg, hg'] at hk; simp [guardOk] at hk
    | some p =>
      obtain ⟨t, w'⟩ := p
      rw [hg, hg'] at hk
      rw [hg'] at h
      simp only [guardOk, Bool.and_eq_true, beq_iff_eq] at hk
      obtain ⟨⟨rfl, k2⟩, k3⟩ := hk
      have ht : t < A.tmps.size := by simp [Nat.blt] at k2; omega
      split at k3
      · rename_i oj hoj
        have hd := of_decide_eq_true k3
        have hv := hs.T t ht
        simp only at h
        split at h
        · rename_i x hx
          simp only [Option.some.injEq] at h
          rw [hx] at hv
          generalize hc : A.tmps.getD t undef = c at hv
          cases hv
          have hy : yielded ops A.tmps j = some x := by
            have : A.tmps[t]? = some (.bool x) := by
              rw [Array.getD_eq_getD_getElem?] at hc
              rw [Array.getElem?_eq_getElem ht] at hc ⊢
              simpa using hc
            simp [yielded, hoj, hd, this]
          simp only [hy]
          rw [← h]
          cases x <;> cases w <;> rfl
        · rename_i hx
          simp only [Option.some.injEq] at h
          subst h
          rw [hx] at hv
          generalize hc : A.tmps.getD t undef = c at hv
          cases hv
          have hy : yielded ops A.tmps j = none := by
            unfold yielded
            simp only [hoj, Option.bind_some, hd]
            rw [Array.getD_eq_getD_getElem?] at hc
            rw [Array.getElem?_eq_getElem ht] at hc ⊢
            simp only [Option.getD_some] at hc
            rw [hc]
          simp only [hy]
          rfl
        · cases h
      · cases k3

theorem run_method {name : String} {t f : Nat} (h : methOk P name (t, f) = true) (W : World) (v : Value) (k : Nat) : (method (k + 1) t v name).run P W = .ok (f, v) W := by
  unfold methOk at h
  simp only at h
  split at h
  · rename_i i hi
    split at h
    · rename_i m hm
      simp only [Bool.and_eq_true] at h
      obtain ⟨h1, h2⟩ := h
      have hp : m.path.toList = [] := List.isEmpty_iff.1 h1
      split at h2
      · rename_i f' pr e hf hu
        simp only [Bool.and_eq_true] at h2
        have := Nat.eq_of_beq_eq_true h2.2
        subst this
        obtain ⟨rfl, _⟩ := h2
        simp [method, run_typeInfo' hi, hm, hp, follow, hf, receiverAt, run_underlying' hu, Place.get]
      · rename_i f' pr d hnp hf hu
        simp only [Bool.and_eq_true, Bool.not_eq_true'] at h2
        have := Nat.eq_of_beq_eq_true h2.2
        subst this
        obtain ⟨rfl, _⟩ := h2
        cases d <;> first | exact absurd rfl (hnp _) | simp [method, run_typeInfo' hi, hm, hp, follow, hf, receiverAt, run_underlying' hu, Place.get]
      · cases h2
    · cases h
  · cases h

/-- A call's callee, and its arguments. -/
theorem callee_sound {kl : List (Nat × List Nat)} {G : Gh} {W : World} {st : St} {A : Act} (hs : StRel P kl G W st A) {o : Oper} {a : AOp} (hk : callChk P A.tmps.size o.op a = true) {p : Bool} {g : FuncId} {args : List V}
    (h : callee st a = some (p, g, args)) : ∃ cs, VRs G W args cs ∧ (execOp A.eval o).run P W = (callFunc g cs).run P W := by
  obtain ⟨dst, op, type, pos, after, guard⟩ := o
  simp only at hk
  have run : ∀ (x : Operand) (xs : Array Operand) (ts : Array TypeId) (first cap : Array Value), A.eval x = .func (.func g) first cap →
      (execOp A.eval ⟨dst, .call { callee := .value x, args := xs, argTypes := ts }, type, pos, after, guard⟩).run P W = (callFunc g (first ++ xs.map A.eval ++ cap)).run P W := by
    intro x xs ts first cap hx
    simp only [execOp, resolve, hx, Deferred.ofValue, Sem.run_bind, Sem.run_pure, Result.andThen_ok, invoke]
  unfold callChk at hk
  split at hk
  · rename_i f xs ts p' f' axs
    simp only [Bool.and_eq_true] at hk
    have := Nat.eq_of_beq_eq_true hk.1
    subst this
    simp only [callee, Option.some.injEq, Prod.mk.injEq] at h
    obtain ⟨rfl, rfl, rfl⟩ := h
    refine ⟨#[] ++ xs.map A.eval ++ #[], ?_, run _ xs ts #[] #[] rfl⟩
    simpa using opds_array hs hk.2
  · rename_i x xs ts p' ax axs
    simp only [Bool.and_eq_true] at hk
    have hx := opd_ev hs hk.1
    simp only [callee] at h
    split at h
    · rename_i f first cap heq
      simp only [Option.some.injEq, Prod.mk.injEq] at h
      obtain ⟨rfl, rfl, rfl⟩ := h
      rw [heq] at hx
      generalize hc : A.eval x = c at hx
      cases hx with | fn _ _ _ a c h1 h2 h3 h4 =>
      refine ⟨_, ?_, run x xs ts a c hc⟩
      exact VRs.append (VRs.append ⟨h1, h2⟩ (opds_array hs hk.2)) ⟨h3, h4⟩
    · cases h
  · rename_i x name xs ts p' ms ax axs
    simp only [Bool.and_eq_true] at hk
    have hx := opd_ev hs hk.1.1
    simp only [callee] at h
    split at h
    · rename_i t v heq
      cases hm : al ms t with
      | none => rw [hm] at h; cases h
      | some f =>
      rw [hm] at h
      simp only [Option.map_some, Option.some.injEq, Prod.mk.injEq] at h
      obtain ⟨rfl, rfl, rfl⟩ := h
      rw [heq] at hx
      generalize hc : A.eval x = c at hx
      cases hx with | ifc _ _ c hv =>
      have hmo := List.all_eq_true.1 hk.2 (t, f) (al_mem hm)
      refine ⟨#[c] ++ xs.map A.eval, ?_, ?_⟩
      · have h1 : VRs G W [v.val] #[c] := ⟨rfl, fun j hj => by
          have : j = 0 := by simp at hj; omega
          subst this; exact hv.val⟩
        exact h1.append (opds_array hs hk.1.2)
      · have hd : 0 < Made.depth := by decide
        obtain ⟨k, hk'⟩ : ∃ k, P.types.size + Made.depth = k + 1 := ⟨P.types.size + Made.depth - 1, by omega⟩
        have hex : (#[Value.iface t c] ++ xs.map A.eval).extract 1 (#[Value.iface t c] ++ xs.map A.eval).size = xs.map A.eval := by
          apply Array.ext'
          simp
          rw [List.take_of_length_le (by simp)]
        simp only [execOp, resolve, hc, Sem.run_bind, Sem.run_pure, Result.andThen_ok, invoke]
        simp only [Array.getElem?_append, Array.size_singleton, Nat.lt_one_iff, if_true, hex, callMethod]
        simp [program, Sem.run, hk', run_method hmo]
    · cases h
  · cases hk

theorem callee_none {n : Nat} {st : St} {op : Op} {a : AOp} (hk : callChk P n op a = true) {d : Nat} {v : V} {st' : St} (h : step st d a = some (v, st')) : False := by
  unfold callChk at hk
  split at hk
  · simp [step] at h
  · simp [step] at h
  · simp [step] at h
  · cases hk

theorem opChk_call {kl : List (Nat × List Nat)} {n : Nat} {dst : Option Nat} {op : Op} {p : Bool} {f : FuncId} {xs : List Opd} (hk : opChk P K n kl dst op (.call p f xs) = true) : False := by
  unfold opChk at hk
  split at hk <;> first | (cases hk; done) | (rename_i he; cases he; done) | (unfold builtinOk at hk; split at hk <;> first | (cases hk; done) | (rename_i he; cases he))

theorem opChk_callv {kl : List (Nat × List Nat)} {n : Nat} {dst : Option Nat} {op : Op} {p : Bool} {f : Opd} {xs : List Opd} (hk : opChk P K n kl dst op (.callv p f xs) = true) : False := by
  unfold opChk at hk
  split at hk <;> first | (cases hk; done) | (rename_i he; cases he; done) | (unfold builtinOk at hk; split at hk <;> first | (cases hk; done) | (rename_i he; cases he))

theorem opChk_inv {kl : List (Nat × List Nat)} {n : Nat} {dst : Option Nat} {op : Op} {p : Bool} {ms : List (TypeId × FuncId)} {f : Opd} {xs : List Opd} (hk : opChk P K n kl dst op (.inv p ms f xs) = true) : False := by
  unfold opChk at hk
  split at hk <;> first | (cases hk; done) | (rename_i he; cases he; done) | (unfold builtinOk at hk; split at hk <;> first | (cases hk; done) | (rename_i he; cases he))

theorem callee_some {kl : List (Nat × List Nat)} {n : Nat} {dst : Option Nat} {st : St} {op : Op} {a : AOp} {x : Bool × FuncId × List V} (hk : opChk P K n kl dst op a = true) (h : callee st a = some x) : False := by
  unfold callee at h
  split at h
  · exact opChk_call hk
  · exact opChk_callv hk
  · exact opChk_inv hk
  · cases h

theorem Then.mono {kl : List (Nat × List Nat)} {G G1 : Gh} {W W1 : World} {st' : St} {A A1 : Act} {Q : Act → World → Prop} (h : Then P kl G W st' A Q) (e : Ext G W G1 W1) (h1 : A1.tmps.size = A.tmps.size) (h2 : Mk W A G1 W1 A1) : Then P kl G1 W1 st' A1 Q :=
  fun G' W' A' e' hs k1 k2 => h G' W' A' (e.trans e') hs (k1.trans h1) (h2.trans e' e.sz k2)

theorem lines_of {n : Nat} {kl : List (Nat × List Nat)} {ops : Array Oper} : ∀ (os : List Oper) (l : List AOper) (k : Nat), opersOk P K n kl ops os l = true → (∀ j, os[j]? = ops[k + j]?) → Lines P K n kl ops (List.range' k os.length) l
  | [], [], k, _, _ => .nil
  | o :: r, a :: s, k, h, hi => by
    simp only [opersOk, Bool.and_eq_true] at h
    have h0 := hi 0
    simp only [List.getElem?_cons_zero, Nat.add_zero] at h0
    refine .cons h0.symm h.1 (lines_of r s (k + 1) h.2 fun j => ?_)
    have := hi (j + 1)
    simp only [List.getElem?_cons_succ] at this
    rw [this, show k + (j + 1) = k + 1 + j from by omega]
  | [], _ :: _, _, h, _ => by simp [opersOk] at h
  | _ :: _, [], _, h, _ => by simp [opersOk] at h

theorem resV_plain {st1 : St} : ∀ (res : List ARes) (vs : List V), resV st1 res = some vs → ∀ u ∈ vs, u.plain = true
  | [], vs, h => by simp only [resV, Option.some.injEq] at h; subst h; intro u hu; cases hu
  | .tmp t :: r, vs, h => by
    simp only [resV] at h
    cases hr' : resV st1 r with
    | none => rw [hr'] at h; cases h
    | some ws =>
      rw [hr'] at h
      simp only [Option.map_some, Option.some.injEq] at h
      subst h
      intro u hu
      rcases List.mem_cons.1 hu with rfl | hu
      · exact val_plain _
      · exact resV_plain r ws hr' u hu
  | .cell a agg n :: r, vs, h => by
    simp only [resV] at h
    split at h
    · split at h
      · rename_i ws hr'
        cases agg with
        | true =>
          simp only [cond_true, Option.some.injEq] at h
          subst h
          intro u hu
          rcases List.mem_cons.1 hu with rfl | hu
          · rfl
          · exact resV_plain r ws hr' u hu
        | false =>
          simp only [cond_false] at h
          split at h
          · simp only [Option.some.injEq] at h
            subst h
            intro u hu
            rcases List.mem_cons.1 hu with rfl | hu
            · exact val_plain _
            · exact resV_plain r ws hr' u hu
          · cases h
      · cases h
    · cases h

theorem leave_plain {fn : AFunc} {p : Bool} {h hh : H} {st1 : St} {v : V} (hl : leave fn p h st1 = some (v, hh)) : v.plain = true := by
  unfold leave at hl
  split at hl
  · cases hl
  · rename_i vs hvs
    cases p with
    | true => simp only [cond_true, Option.some.injEq, Prod.mk.injEq] at hl; rw [← hl.1]; exact frz_plain _ _
    | false =>
      simp only [cond_false, Option.some.injEq, Prod.mk.injEq] at hl
      rw [← hl.1]
      have := resV_plain _ _ hvs
      match vs, this with
      | [], _ => rfl
      | [u], hu => exact hu u (by simp)
      | _ :: _ :: _, _ => rfl

/-- A function of the table, called. -/
theorem fn_calls (hg : Good P K tab pr) {p : Bool} {g : FuncId} {args : List V} {h hh : H} {gl : Nat → List V} {fn : AFunc} {ex : AEx} {st1 : St} {v : V} (ht : tab g = some fn) (hn : args.length ≤ fn.n)
    (hm : Means P K (.code fn.body (St.enter gl fn p args h)) (.fin ex st1)) (he : ex.ends = true) (hl : leave fn p h st1 = some (v, hh)) {G : Gh} {W : World} {cs : Array Value} (hv : VRs G W args cs) (hr : HRel P G W h)
    (hgl : ∀ g, Row1 G W g (gl g)) :
    (v.plain = true ∧ ∃ f b, P.funcs[g]? = some f ∧ f.body = some b ∧ (f.name == "runtime.NumGoroutine") = false) ∧ Calls P g cs W fun | .returned c, W' => CallPost P G W v hh c W' | _, _ => False := by
  have hk := hg.tab g fn ht
  unfold fnOk at hk
  split at hk
  · rename_i f hf
    split at hk
    · rename_i c hc
      simp only [Bool.and_eq_true, Bool.not_eq_true'] at hk
      obtain ⟨⟨⟨k1, k2⟩, k3⟩, k4⟩ := hk
      have hnt := Nat.eq_of_beq_eq_true k1
      have hsz : (cs ++ Array.replicate (f.ntmps - cs.size) undef).size = fn.n := by
        simp only [Array.size_append, Array.size_replicate]
        have := hv.1
        omega
      have hplain : v.plain = true := leave_plain hl
      refine ⟨⟨hplain, f, c, hf, hc, k2⟩, ?_⟩
      have fin : ∀ (Gc : Gh) (A' : Act) (W' : World) (vs : List V), StRel P fn.kl Gc W' st1 A' → A'.tmps.size = fn.n → resV st1 fn.res = some vs → ∃ c, (results f A'.tmps).run P W' = .ok c W' ∧ VR Gc W' (oneOf vs) c := by
        intro Gc A' W' vs hs' hz hvs
        obtain ⟨c', r1, r2, _⟩ := results_sound hs' (f := f) (by rw [hz]; exact k3) hvs
        exact ⟨c', r1, r2⟩
      have wrap : ∀ (G0 : Gh), StRel P fn.kl G0 W (St.enter gl fn p args h) { tmps := cs ++ Array.replicate (f.ntmps - cs.size) undef, defers := [] } →
          (∀ Gc A' W', Ext G0 W Gc W' → StRel P fn.kl Gc W' st1 A' → A'.tmps.size = fn.n → ∃ c, (results f A'.tmps).run P W' = .ok c W' ∧ CallPost P G W v hh c W') →
          Calls P g cs W fun | .returned c, W' => CallPost P G W v hh c W' | _, _ => False := by
        intro G0 hs0 hpost
        refine calls_of_wpM hf hc ((hm fn.kl c G0 W _ (by rw [hsz]; exact k4) hs0 _ ?_).1)
        intro Gc W' A' e hs' hz hd
        rw [hsz] at hz
        obtain ⟨ds, d1, d2, d3⟩ := hd
        obtain ⟨e', hs''⟩ := takeAll_rel ds W' d2 d3 e hs'
        obtain ⟨c', r1, r2⟩ := hpost Gc A' (takeAll W' ds) e' hs'' hz
        have d1 : A'.defers = ds.map mark := by rw [d1]; exact List.append_nil _
        cases ex with
        | norm => exact ⟨ds, d1, d2, fun D hD => (d3 D hD).2.1, c', r1, r2⟩
        | ret => exact ⟨ds, d1, d2, fun D hD => (d3 D hD).2.1, c', r1, r2⟩
        | exit id => cases he
      unfold leave at hl
      split at hl
      · cases hl
      · rename_i vs hvs
        cases p with
        | true =>
          simp only [cond_true, Option.some.injEq, Prod.mk.injEq] at hl
          obtain ⟨rfl, rfl⟩ := hl
          refine wrap G.pureIn ?_ ?_
          · simp only [St.enter, cond_true]
            refine init_rel fn.kl hv.pureIn ⟨fun id o hg => by simp [al] at hg, fun id b hg => by simp [Gh.pureIn] at hg, rfl, fun t n ty hg => by simp [al] at hg⟩ (fun g => ?_)
            have := (hgl g).2.1.pureIn
            simp only [V.strip, (hgl g).1] at this
            exact ⟨(hgl g).1, this, (hgl g).2.2.pureIn⟩
          · intro Gc A' W' e hs' hz
            obtain ⟨c', r1, r2⟩ := fin Gc A' W' vs hs' hz hvs
            have kp := frozen_keep (h := st1.h) e
            exact ⟨c', r1, G.frozen Gc W.heap.size st1.h, kp.ext, hr.keep kp (fun _ _ h => h) rfl, kp.mine, frz_sound e hs'.mem 100 _ _ r2⟩
        | false =>
          simp only [cond_false, Option.some.injEq, Prod.mk.injEq] at hl
          obtain ⟨rfl, rfl⟩ := hl
          refine wrap G.impIn ?_ ?_
          · simp only [St.enter, cond_false]
            exact init_rel fn.kl hv.impIn hr.impIn (fun g => ⟨(hgl g).1, (hgl g).2.1.impIn, (hgl g).2.2.impIn⟩)
          · intro Gc A' W' e hs' hz
            obtain ⟨c', r1, r2⟩ := fin Gc A' W' vs hs' hz hvs
            exact ⟨c', r1, G.impOut Gc W.heap.size, impOut_ext e, hs'.mem.impOut e, impOut_mine e, r2.impOut e⟩
    · cases hk
  · cases hk

/-- One operation is what the model does. -/
theorem oneOp_sound (hg : K.OK P) {o : AOper} {st st1 : St} (h : One P o st st1) {kl : List (Nat × List Nat)} {ops : Array Oper} {i : Nat} {oo : Oper} {G : Gh} {W : World} {A : Act} (ho : ops[i]? = some oo)
    (hk : operOk P K A.tmps.size kl ops oo o = true) (hs : StRel P kl G W st A) (Q : Exit → Act → World → Prop) (Kk : Act → World → Prop) (hq : Then P kl G W st1 A Kk) : wpOp P ops Q i Kk A W := by
  simp only [operOk, Bool.and_eq_true, Bool.or_eq_true] at hk
  obtain ⟨⟨k1, k2⟩, k3⟩ := hk
  have hd := of_decide_eq_true k1
  unfold wpOp
  rw [ho]
  simp only
  cases h with
  | pass hw =>
    rw [wanted_sound hs k2 hw]
    simp only [Bool.false_eq_true, if_false]
    have hs' := hs.put' (v := .tup []) (c := undef) (.tup [] #[] rfl (fun j hj => by cases hj)) o.dst (by simp) (by simp)
    rw [hd]
    exact hq G W _ (Ext.refl G W) hs' (put_size _ _ _) (.of_eq (put_defers _ _ _))
  | @step st' v hw hc hst =>
    rw [wanted_sound hs k2 hw, if_pos rfl]
    left
    rcases k3 with (k3 | k3) | k3
    · rw [← hd] at hst
      obtain ⟨nx, c, G', W', r1, r2, r3, r4⟩ := step_sound hg hs oo rfl k3 hst
      have hr : Kk (A.put oo.dst c) W' := by
        rw [hd] at r4 ⊢
        exact hq G' W' _ r3 r4 (put_size _ _ _) (.of_eq (put_defers _ _ _))
      unfold Oper.wp
      rw [r1]
      rcases r2 with rfl | ⟨rfl, rfl⟩
      · rw [Oper.upon_value]; exact hr
      · rw [Oper.upon_skip]; exact hr
    · exact (callee_none k3 hst).elim
    · cases hop : o.op <;> rw [hop] at k3 <;> first | (cases k3; done) | (rw [hop] at hst; simp [step] at hst)
  | @call p g args v hh hw hc hf =>
    rw [wanted_sound hs k2 hw, if_pos rfl]
    left
    rcases k3 with (k3 | k3) | k3
    · exact (callee_some k3 hc).elim
    · obtain ⟨cs, hv, hrun⟩ := callee_sound hs k3 hc
      unfold Oper.wp
      rw [hrun]
      refine hf.2.2 st.h hh (fun e => hf.2.1 e) (fun _ => ⟨rfl, rfl⟩) G W cs hv hs.mem hs.gl oo A _ Q fun c W' hp => ?_
      obtain ⟨G', e, hr, hm, hvr⟩ := hp
      have hs' := (hs.after e hr hm).put' hvr o.dst (plain_l hf.1) (plain_it hf.1)
      rw [hd]
      exact hq G' W' _ e hs' (put_size _ _ _) (.of_eq (put_defers _ _ _))
    · cases hop : o.op <;> rw [hop] at k3 <;> first | (cases k3; done) | (rw [hop] at hc; simp [callee] at hc)

theorem chain_seq (hg : K.OK P) {kl : List (Nat × List Nat)} {ops : Array Oper} : ∀ {idx : List Nat} {l : List AOper} {st st' : St} {G : Gh} {W : World} {A : Act}, Chain P l st st' → Lines P K A.tmps.size kl ops idx l → StRel P kl G W st A →
    ∀ Q : Exit → Act → World → Prop, Then P kl G W st' A (Q .normal) → wpOps P ops Q idx A W
  | [], [], st, st', G, W, A, hc, hl, hs, Q, hq => by
    cases hc
    exact hq G W A (Ext.refl G W) hs rfl (.of_eq rfl)
  | i :: idx, o :: l, st, st', G, W, A, hc, hl, hs, Q, hq => by
    cases hc with | cons h k =>
    cases hl with | cons ho hk hl =>
    rw [wpOps_cons]
    refine oneOp_sound hg h ho hk hs Q _ ?_
    intro G' W' A' e hs' h1 h2
    exact chain_seq hg k (by rw [h1]; exact hl) hs' Q (Then.mono hq e h1 h2)
  | [], _ :: _, _, _, _, _, _, _, hl, _, _, _ => by cases hl
  | _ :: _, [], _, _, _, _, _, _, hl, _, _, _ => by cases hl

def noOper : AOper := ⟨none, .bad, none⟩

theorem opersOk_get {n : Nat} {kl : List (Nat × List Nat)} {ops : Array Oper} : ∀ {os : List Oper} {l : List AOper}, opersOk P K n kl ops os l = true → os.length = l.length ∧ ∀ i o, os[i]? = some o → operOk P K n kl ops o (l.getD i noOper) = true
  | [], [], _ => ⟨rfl, fun i o h => by simp at h⟩
  | o :: r, a :: s, h => by
    simp only [opersOk, Bool.and_eq_true] at h
    obtain ⟨h1, h2⟩ := opersOk_get h.2
    refine ⟨by simp [h1], fun i p hp => ?_⟩
    cases i with
    | zero => simp only [List.getElem?_cons_zero, Option.some.injEq] at hp; subst hp; simpa using h.1
    | succ i => simpa using h2 i p (by simpa using hp)
  | [], _ :: _, h => by simp [opersOk] at h
  | _ :: _, [], h => by simp [opersOk] at h

theorem set_getD {listed : Array Bool} {i j : Nat} {d : Bool} (hi : i < listed.size) : (listed.setIfInBounds i true).getD j d = if i = j then true else listed.getD j d := by
  by_cases h : i = j
  · subst h
    simp [Array.getD_eq_getD_getElem?, hi]
  · rw [if_neg h, Array.getD_eq_getD_getElem?, Array.getElem?_setIfInBounds_ne h, ← Array.getD_eq_getD_getElem?]

/-- Whatever order is drawn. -/
theorem any_sound (hg : K.OK P) {kl : List (Nat × List Nat)} {ops : Array Oper} {l : List AOper} {n : Nat} (hok : opersOk P K n kl ops ops.toList l = true) (hdr : drawOk ops.toList l = true) (Q : Exit → Act → World → Prop) :
    ∀ (fuel : Nat) (listed : Array Bool) (rem : List Nat) (st st' : St) (G : Gh) (W : World) (A : Act), A.tmps.size = n → listed.size = ops.size → rem.Pairwise (· < ·) → (∀ i, i ∈ rem ↔ i < ops.size ∧ listed.getD i true = false) →
      Shut ops.toList listed → rem.length ≤ fuel → Chain P (rem.map fun i => l.getD i noOper) st st' → StRel P kl G W st A → Then P kl G W st' A (Q .normal) → wpAny P .any ops Q fuel listed A W := by
  obtain ⟨hlen, hget⟩ := opersOk_get hok
  simp only [drawOk, Bool.and_eq_true] at hdr
  obtain ⟨hback, hpairs⟩ := hdr
  have hdir : ∀ (o : Oper) (e : Edge), e ∈ o.after → Region.binds .any e = true → e.on ∈ directs o := fun o e he hb => by
    unfold directs
    rw [List.mem_map]
    exact ⟨e, by rw [List.mem_filter]; exact ⟨by simpa using he, hb⟩, rfl⟩
  have hdir' : ∀ (o : Oper) (j : Nat), j ∈ directs o → ∃ e ∈ o.after, Region.binds .any e = true ∧ e.on = j := fun o j hj => by
    unfold directs at hj
    rw [List.mem_map] at hj
    obtain ⟨e, he, rfl⟩ := hj
    rw [List.mem_filter] at he
    exact ⟨e, by simpa using he.1, he.2, rfl⟩
  -- the first of what is left is ready
  have first : ∀ (listed : Array Bool) (rem : List Nat) (i : Nat), rem.Pairwise (· < ·) → (∀ i, i ∈ rem ↔ i < ops.size ∧ listed.getD i true = false) → listed.size = ops.size → rem.head? = some i → i ∈ Region.ready .any ops listed := by
    intro listed rem i hp hm hsz hh
    cases rem with
    | nil => cases hh
    | cons x r =>
      simp only [List.head?_cons, Option.some.injEq] at hh
      subst hh
      obtain ⟨h1, h2⟩ := (hm x).1 (by simp)
      obtain ⟨o, ho⟩ : ∃ o, ops[x]? = some o := ⟨_, Array.getElem?_eq_getElem h1⟩
      refine mem_ready.2 ⟨h2, o, ho, fun e he hb => ?_⟩
      have hlt := backOk_spec ops.toList 0 hback x o (by simpa using ho) e.on (hdir o e he hb)
      cases hl : listed.getD e.on true with
      | true =>
        rw [Array.getD_eq_getD_getElem?] at hl ⊢
        rw [Array.getElem?_eq_getElem (show e.on < listed.size by omega)] at hl ⊢
        exact hl
      | false =>
        have := (hm e.on).2 ⟨by omega, hl⟩
        rcases List.mem_cons.1 this with h | h
        · omega
        · have := (List.pairwise_cons.1 hp).1 _ h
          omega
  intro fuel
  induction fuel with
  | zero =>
    intro listed rem st st' G W A hn hsz hp hm hsh hf hc hs hq
    have : rem = [] := List.eq_nil_of_length_eq_zero (by omega)
    subst this
    have hr : Region.ready .any ops listed = [] := by
      apply List.eq_nil_iff_forall_not_mem.2
      intro j hj
      obtain ⟨h1, o, ho, _⟩ := mem_ready.1 hj
      have := (hm j).2 ⟨(Array.getElem?_eq_some_iff.1 ho).1, h1⟩
      cases this
    cases hc
    exact ⟨hr, hq G W A (Ext.refl G W) hs rfl (.of_eq rfl)⟩
  | succ fuel ih =>
    intro listed rem st st' G W A hn hsz hp hm hsh hf hc hs hq
    refine ⟨fun hr => ?_, fun i hi => ?_⟩
    · cases hrem : rem with
      | nil =>
        rw [hrem] at hc
        cases hc
        exact hq G W A (Ext.refl G W) hs rfl (.of_eq rfl)
      | cons x r =>
        have := first listed rem x hp hm hsz (by rw [hrem]; rfl)
        rw [hr] at this
        cases this
    · obtain ⟨h1, oo, hoo, hall⟩ := mem_ready.1 hi
      have hisz := (Array.getElem?_eq_some_iff.1 hoo).1
      have hmem := (hm i).2 ⟨hisz, h1⟩
      obtain ⟨pre, post, rfl⟩ := List.append_of_mem hmem
      have hpp := List.pairwise_append.1 hp
      have hpi := List.pairwise_cons.1 hpp.2.1
      have hind : ∀ a ∈ pre.map (fun i => l.getD i noOper), indep a (l.getD i noOper) = true := by
        intro a ha
        rw [List.mem_map] at ha
        obtain ⟨j, hj, rfl⟩ := ha
        have hji : j < i := hpp.2.2 j hj i (by simp)
        rcases pairsOk_spec ops.toList.length hpairs i j (by simpa using hisz) hji with h | ⟨a, b, e1, e2, h⟩
        · exfalso
          have hj2 := (hm j).1 (by simp [hj])
          have := closure_spec ops.toList listed hsh ops.toList [] [] rfl rfl (fun i o h => by simp at h) hback i oo (by simpa using hoo) (fun q hq => by
            obtain ⟨e, he, hb, rfl⟩ := hdir' oo q hq
            exact hall e he hb) j h
          rw [Array.getD_eq_getD_getElem?] at this
          rw [Array.getD_eq_getD_getElem?] at hj2
          rw [Array.getElem?_eq_getElem (show j < listed.size by omega)] at this hj2
          simp at this hj2
          rw [this] at hj2
          exact absurd hj2.2 (by simp)
        · simpa [List.getD_eq_getElem?_getD, e1, e2] using h
      rw [List.map_append, List.map_cons] at hc
      obtain ⟨s1, o1, c1⟩ := ahead _ hind hc
      rw [← List.map_append] at c1
      refine oneOp_sound hg o1 hoo (by rw [hn]; exact hget i oo (by simpa using hoo)) hs Q _ ?_
      intro G' W' A' e hs' z1 z2
      refine ih (listed.setIfInBounds i true) (pre ++ post) s1 st' G' W' A' (z1.trans hn) (by simp [hsz]) ?_ ?_ ?_ (by simp at hf ⊢; omega) c1 hs' (Then.mono hq e z1 z2)
      · refine List.pairwise_append.2 ⟨hpp.1, hpi.2, fun a ha b hb => ?_⟩
        exact hpp.2.2 a ha b (by simp [hb])
      · intro j
        rw [set_getD (by omega)]
        by_cases hij : i = j
        · subst hij
          simp only [if_true, Bool.true_eq_false, and_false, iff_false, List.mem_append, not_or]
          refine ⟨fun h => ?_, fun h => ?_⟩
          · have := hpp.2.2 i h i (by simp); omega
          · have := hpi.1 i h; omega
        · rw [if_neg hij]
          have := hm j
          simp only [List.mem_append, List.mem_cons] at this ⊢
          rw [← this]
          constructor
          · rintro (h | h)
            · exact .inl h
            · exact .inr (.inr h)
          · rintro (h | h | h)
            · exact .inl h
            · exact absurd h.symm hij
            · exact .inr h
      · intro j o ho hl q hq'
        rw [set_getD (by omega)] at hl ⊢
        by_cases hiq : i = q
        · rw [if_pos hiq]
        · rw [if_neg hiq]
          by_cases hij : i = j
          · subst hij
            have ho' : ops[i]? = some o := by simpa using ho
            rw [hoo] at ho'
            cases ho'
            obtain ⟨e, he, hb, rfl⟩ := hdir' oo q hq'
            exact hall e he hb
          · rw [if_neg hij] at hl
            exact hsh j o ho hl q hq'

def noItem : AOper × FP := (noOper, { v := .any })

/-- Whatever order is drawn, as the run has checked. -/
theorem any_soundF (hg : K.OK P) {kl : List (Nat × List Nat)} {ops : Array Oper} {L : List (AOper × FP)} {n : Nat} (hok : opersOk P K n kl ops ops.toList (L.map (·.1)) = true) (hback : backOk 0 ops.toList = true)
    (hpairs : ∀ i j, i < ops.size → j < i → j ∈ (closure ops.toList []).getD i [] ∨ indF (L.getD j noItem) (L.getD i noItem) = true) (Q : Exit → Act → World → Prop) :
    ∀ (fuel : Nat) (listed : Array Bool) (rem : List Nat) (st st' : St) (G : Gh) (W : World) (A : Act), A.tmps.size = n → listed.size = ops.size → rem.Pairwise (· < ·) → (∀ i, i ∈ rem ↔ i < ops.size ∧ listed.getD i true = false) →
      Shut ops.toList listed → rem.length ≤ fuel → FChain P (rem.map fun i => L.getD i noItem) st st' → StRel P kl G W st A → Then P kl G W st' A (Q .normal) → wpAny P .any ops Q fuel listed A W := by
  obtain ⟨hlen, hget⟩ := opersOk_get hok
  have hgetL : ∀ i, (L.map (·.1)).getD i noOper = (L.getD i noItem).1 := fun i => by
    simp only [List.getD_eq_getElem?_getD, List.getElem?_map]
    cases L[i]? <;> rfl
  have hdir : ∀ (o : Oper) (e : Edge), e ∈ o.after → Region.binds .any e = true → e.on ∈ directs o := fun o e he hb => by
    unfold directs
    rw [List.mem_map]
    exact ⟨e, by rw [List.mem_filter]; exact ⟨by simpa using he, hb⟩, rfl⟩
  have hdir' : ∀ (o : Oper) (j : Nat), j ∈ directs o → ∃ e ∈ o.after, Region.binds .any e = true ∧ e.on = j := fun o j hj => by
    unfold directs at hj
    rw [List.mem_map] at hj
    obtain ⟨e, he, rfl⟩ := hj
    rw [List.mem_filter] at he
    exact ⟨e, by simpa using he.1, he.2, rfl⟩
  -- the first of what is left is ready
  have first : ∀ (listed : Array Bool) (rem : List Nat) (i : Nat), rem.Pairwise (· < ·) → (∀ i, i ∈ rem ↔ i < ops.size ∧ listed.getD i true = false) → listed.size = ops.size → rem.head? = some i → i ∈ Region.ready .any ops listed := by
    intro listed rem i hp hm hsz hh
    cases rem with
    | nil => cases hh
    | cons x r =>
      simp only [List.head?_cons, Option.some.injEq] at hh
      subst hh
      obtain ⟨h1, h2⟩ := (hm x).1 (by simp)
      obtain ⟨o, ho⟩ : ∃ o, ops[x]? = some o := ⟨_, Array.getElem?_eq_getElem h1⟩
      refine mem_ready.2 ⟨h2, o, ho, fun e he hb => ?_⟩
      have hlt := backOk_spec ops.toList 0 hback x o (by simpa using ho) e.on (hdir o e he hb)
      cases hl : listed.getD e.on true with
      | true =>
        rw [Array.getD_eq_getD_getElem?] at hl ⊢
        rw [Array.getElem?_eq_getElem (show e.on < listed.size by omega)] at hl ⊢
        exact hl
      | false =>
        have := (hm e.on).2 ⟨by omega, hl⟩
        rcases List.mem_cons.1 this with h | h
        · omega
        · have := (List.pairwise_cons.1 hp).1 _ h
          omega
  intro fuel
  induction fuel with
  | zero =>
    intro listed rem st st' G W A hn hsz hp hm hsh hf hc hs hq
    have : rem = [] := List.eq_nil_of_length_eq_zero (by omega)
    subst this
    have hr : Region.ready .any ops listed = [] := by
      apply List.eq_nil_iff_forall_not_mem.2
      intro j hj
      obtain ⟨h1, o, ho, _⟩ := mem_ready.1 hj
      have := (hm j).2 ⟨(Array.getElem?_eq_some_iff.1 ho).1, h1⟩
      cases this
    cases hc
    exact ⟨hr, hq G W A (Ext.refl G W) hs rfl (.of_eq rfl)⟩
  | succ fuel ih =>
    intro listed rem st st' G W A hn hsz hp hm hsh hf hc hs hq
    refine ⟨fun hr => ?_, fun i hi => ?_⟩
    · cases hrem : rem with
      | nil =>
        rw [hrem] at hc
        cases hc
        exact hq G W A (Ext.refl G W) hs rfl (.of_eq rfl)
      | cons x r =>
        have := first listed rem x hp hm hsz (by rw [hrem]; rfl)
        rw [hr] at this
        cases this
    · obtain ⟨h1, oo, hoo, hall⟩ := mem_ready.1 hi
      have hisz := (Array.getElem?_eq_some_iff.1 hoo).1
      have hmem := (hm i).2 ⟨hisz, h1⟩
      obtain ⟨pre, post, rfl⟩ := List.append_of_mem hmem
      have hpp := List.pairwise_append.1 hp
      have hpi := List.pairwise_cons.1 hpp.2.1
      have hind : ∀ a ∈ pre.map (fun i => L.getD i noItem), indF a (L.getD i noItem) = true := by
        intro a ha
        rw [List.mem_map] at ha
        obtain ⟨j, hj, rfl⟩ := ha
        have hji : j < i := hpp.2.2 j hj i (by simp)
        rcases hpairs i j hisz hji with h | h
        · exfalso
          have hj2 := (hm j).1 (by simp [hj])
          have := closure_spec ops.toList listed hsh ops.toList [] [] rfl rfl (fun i o h => by simp at h) hback i oo (by simpa using hoo) (fun q hq => by
            obtain ⟨e, he, hb, rfl⟩ := hdir' oo q hq
            exact hall e he hb) j h
          rw [Array.getD_eq_getD_getElem?] at this
          rw [Array.getD_eq_getD_getElem?] at hj2
          rw [Array.getElem?_eq_getElem (show j < listed.size by omega)] at this hj2
          simp at this hj2
          rw [this] at hj2
          exact absurd hj2.2 (by simp)
        · exact h
      rw [List.map_append, List.map_cons] at hc
      obtain ⟨o1, c1⟩ := aheadF _ hind hc
      rw [← List.map_append] at c1
      refine oneOp_sound hg (o1.2 st (Agree.refl _ _ _)) hoo (by rw [hn, ← hgetL]; exact hget i oo (by simpa using hoo)) hs Q _ ?_
      intro G' W' A' e hs' z1 z2
      refine ih (listed.setIfInBounds i true) (pre ++ post) _ st' G' W' A' (z1.trans hn) (by simp [hsz]) ?_ ?_ ?_ (by simp at hf ⊢; omega) c1 hs' (Then.mono hq e z1 z2)
      · refine List.pairwise_append.2 ⟨hpp.1, hpi.2, fun a ha b hb => ?_⟩
        exact hpp.2.2 a ha b (by simp [hb])
      · intro j
        rw [set_getD (by omega)]
        by_cases hij : i = j
        · subst hij
          simp only [if_true, Bool.true_eq_false, and_false, iff_false, List.mem_append, not_or]
          refine ⟨fun h => ?_, fun h => ?_⟩
          · have := hpp.2.2 i h i (by simp); omega
          · have := hpi.1 i h; omega
        · rw [if_neg hij]
          have := hm j
          simp only [List.mem_append, List.mem_cons] at this ⊢
          rw [← this]
          constructor
          · rintro (h | h)
            · exact .inl h
            · exact .inr (.inr h)
          · rintro (h | h | h)
            · exact .inl h
            · exact absurd h.symm hij
            · exact .inr h
      · intro j o ho hl q hq'
        rw [set_getD (by omega)] at hl ⊢
        by_cases hiq : i = q
        · rw [if_pos hiq]
        · rw [if_neg hiq]
          by_cases hij : i = j
          · subst hij
            have ho' : ops[i]? = some o := by simpa using ho
            rw [hoo] at ho'
            cases ho'
            obtain ⟨e, he, hb, rfl⟩ := hdir' oo q hq'
            exact hall e he hb
          · rw [if_neg hij] at hl
            exact hsh j o ho hl q hq'

theorem grow_sound (hg : GrowOK P pr) {g : FuncId} {ty : TypeId} {n : Nat} (hp : pr.grow g = some ty) (h0 : 0 < n) (h1 : n ≤ 1000000) (h : H) (gl : Nat → List V) : MFn P false g [.sl [] 0 .nil, .i .i64 n] h gl (.sl [] 0 (.own h.nt)) (h.tok 0 ty).2 := by
  refine ⟨rfl, fun e => (by cases e), fun m1 m2 _ e2 G W cs hv hr hgl => ?_⟩
  obtain ⟨rfl, rfl⟩ := e2 rfl
  obtain ⟨⟨f, b, hf, hb, hn'⟩, hc⟩ := hg g ty hp
  obtain ⟨hs2, hvv⟩ := hv
  have v0 := hvv 0 (by simp)
  have v1 := hvv 1 (by simp)
  simp only [List.getD_cons_zero, List.getD_cons_succ] at v0 v1
  have hcs : cs = #[cs.getD 0 undef, cs.getD 1 undef] := by
    have : cs.size = 2 := by simpa using hs2.symm
    apply Array.ext
    · simpa using this
    · intro i hi1 hi2
      have : i = 0 ∨ i = 1 := by omega
      rcases this with rfl | rfl <;> simp [Array.getD_eq_getD_getElem?, hi1]
  generalize cs.getD 0 undef = c0 at v0 hcs
  generalize cs.getD 1 undef = c1 at v1 hcs
  subst hcs
  cases v1
  cases v0 with | sl _ _ _ a cap bb o cc hn ha hi hcc hvv' ht =>
  obtain ⟨rfl, rfl⟩ := ht
  refine Reach.of_calls hf hb hn' ((hc n W h0 h1).mono fun e W' he => ?_)
  cases e with
  | panicked _ => exact he
  | outgrown => exact he
  | returned c =>
    obtain ⟨cap, cs, rfl, rfl, hsz⟩ := he
    have hs : StRel P [] G W ⟨gl, .leaf, [], [], m1⟩ { tmps := #[], defers := [] } := ⟨fun i hi => by simp at hi, fun i d o hi => by simp at hi, fun i hi => by simp at hi, fun d cs hg => by simp [al] at hg, fun d l p hg => by simp [al] at hg, hr, hgl⟩
    have hlt : ∀ t x, al m1.tips t = some x → t < m1.nt := fun t x hx => by obtain ⟨n', ty'⟩ := x; exact (hr.tips t n' ty' hx).1
    obtain ⟨G', ⟨q1, q2, q3⟩, e, hs', hvr⟩ := new_rowG (t := m1.nt) (n := 0) (cap := cap) (ty := ty) (c := cs) (xs := []) hs rfl (Nat.zero_le _) (fun j hj => by cases hj) (by simp) hsz (fun n' ty' hx => absurd (hlt _ _ hx) (Nat.lt_irrefl _)) (.inr rfl) W.drew (keep_drew G W) rfl (m1.tok 0 ty).2 rfl rfl (by simp only [H.tok]; omega) (fun t' x hx => by
      simp only [H.tok, al] at hx
      cases hb : Nat.beq m1.nt t' with
      | true =>
        rw [hb] at hx
        simp only [cond_true, Option.some.injEq] at hx
        exact .inl ⟨(Nat.eq_of_beq_eq_true hb).symm, hx.symm⟩
      | false =>
        rw [hb] at hx
        exact .inr ⟨fun e => by rw [e] at hb; simp at hb, hx⟩)
    exact ⟨G', e, hs'.mem, ⟨q1, q2, fun b hb _ => q3 b hb⟩, hvr⟩

/-- What the relation says is what the model does. -/
theorem sound (hg : Good P K tab pr) {j : J} {x : Out} (h : Ev tab pr j x) : Means P K j x := by
  induction h with
  | nil st => exact ⟨rfl, .nil st⟩
  | @pass o r st x hw h ih =>
    cases x with
    | val v h' => exact ih.elim
    | fin ex st' => exact ⟨ih.1, .cons (.pass hw) ih.2⟩
  | @step o r st st1 v x hw hc hst h ih =>
    cases x with
    | val v h' => exact ih.elim
    | fin ex st' => exact ⟨ih.1, .cons (.step hw hc hst) ih.2⟩
  | @call o r st p g args v hh x hw hc hf h ihf ih =>
    cases x with
    | val v h' => exact ih.elim
    | fin ex st' => exact ⟨ih.1, .cons (.call hw hc ihf) ih.2⟩
  | dnil i seen st => exact ⟨rfl, [], trivial, .nil st⟩
  | @dpass i seen o js r st x hw hk h ih =>
    cases x with
    | val v h' => exact ih.elim
    | fin ex st' =>
      obtain ⟨e, L, h1, h2⟩ := ih
      obtain ⟨q1, q2⟩ := fp_pass (P := P) hw
      refine ⟨e, (o, { v := .tup [] }) :: L, ⟨rfl, hk, h1⟩, .cons q1 ?_⟩
      rw [← q2]; exact h2
  | @dstep i seen o js r st st1 v fp x hw hc hst hf hk h ih =>
    cases x with
    | val v h' => exact ih.elim
    | fin ex st' =>
      obtain ⟨e, L, h1, h2⟩ := ih
      obtain ⟨q1, q2⟩ := fp_step (P := P) hw hc hst hf
      refine ⟨e, (o, fp) :: L, ⟨rfl, hk, h1⟩, .cons q1 ?_⟩
      rw [← q2]; exact h2
  | @dcall i seen o js r st p g args v hh x hw hc hf hk h ihf ih =>
    cases x with
    | val v h' => exact ih.elim
    | fin ex st' =>
      obtain ⟨e, L, h1, h2⟩ := ih
      obtain ⟨q1, q2⟩ := fp_call (P := P) hw hc ihf
      refine ⟨e, (o, fpCall p st.h hh v) :: L, ⟨rfl, hk, h1⟩, .cons q1 ?_⟩
      rw [← q2]; exact h2
  | @regd l st st' h ih =>
    intro kl code G W A hk hs Q hq
    unfold codeOk at hk
    split at hk <;> first | (rename_i he; cases he; done) | skip
    · rename_i he; cases he
      rename_i id ops
      simp only [Bool.and_eq_true] at hk
      obtain ⟨⟨⟨k1, k2⟩, k3⟩, k4⟩ := hk
      obtain ⟨_, L, hL, hch⟩ := ih
      refine ⟨wp_region_any k1 ?_, fun b e => by cases e⟩
      have kp : Keep G W G { W with drawn := W.drawn + 1 } := ⟨rfl, rfl, rfl, Nat.le_refl _, fun _ _ => rfl, fun _ _ => rfl, fun _ _ h => h, Nat.le_refl _, fun _ _ => ⟨rfl, rfl⟩, rfl, rfl⟩
      have hs' := hs.keep kp (fun _ _ h => h) rfl
      rw [← hL.map] at k2
      obtain ⟨hlen, _⟩ := opersOk_get k2
      have hlen2 : l.length = L.length := by have := congrArg List.length hL.map; simp at this; omega
      simp at hlen
      have hmap : (List.range ops.size).map (fun i => L.getD i noItem) = L := by
        apply List.ext_getElem
        · simp; omega
        · intro i h1 h2
          simp [List.getD_eq_getElem?_getD, h2]
      have hpr : ∀ i j, i < ops.size → j < i → j ∈ (closure ops.toList []).getD i [] ∨ indF (L.getD j noItem) (L.getD i noItem) = true := by
        intro i j hi hj
        rcases pairsD_spec ops.toList.length k4 i j (by simpa using hi) hj with h | h
        · exact .inl h
        · right
          have hil : i < l.length := by omega
          have hiL : i < L.length := by omega
          have h1 : l[i]? = some (l[i].1, l[i].2) := by rw [List.getElem?_eq_getElem hil]
          have h2 : L[i]? = some L[i] := List.getElem?_eq_getElem hiL
          have hj' : j ∈ l[i].2 := by
            simp only [List.getD_eq_getElem?_getD, List.getElem?_map, List.getElem?_eq_getElem hil, Option.map_some, Option.getD_some] at h
            exact h
          obtain ⟨y, e1, e2⟩ := OKs.pair (pre := []) hL (fun j y h => by simp [al] at h) i _ _ _ h1 h2 j hj'
          simp only [List.nil_append] at e1
          simp only [List.getD_eq_getElem?_getD, e1, h2, Option.getD_some]
          exact e2
      refine any_soundF hg.known k2 k3 hpr Q ops.size _ (List.range ops.size) st st' G _ A rfl (by simp) (List.pairwise_lt_range) (fun i => ?_) (fun i o ho hl => ?_) (by simp) (by rw [hmap]; exact hch) hs' (Then.mono hq kp.ext rfl (.of_eq rfl))
      · rw [List.mem_range]
        constructor
        · intro h; exact ⟨h, by simp [Array.getD_eq_getD_getElem?, h]⟩
        · exact fun h => h.1
      · have hi : i < ops.size := by have := (List.getElem?_eq_some_iff.1 ho).1; simpa using this
        simp [Array.getD_eq_getD_getElem?, hi] at hl
    · cases hk
  | skip st =>
    intro kl code G W A hk hs Q hq
    cases code <;> simp only [codeOk, Bool.false_eq_true] at hk
    exact ⟨wp_skip (hq G W A (Ext.refl G W) hs rfl (.of_eq rfl)), fun b e => by cases e⟩
  | ret st =>
    intro kl code G W A hk hs Q hq
    cases code <;> simp only [codeOk, Bool.false_eq_true] at hk
    exact ⟨wp_ret (hq G W A (Ext.refl G W) hs rfl (.of_eq rfl)), fun b e => by cases e⟩
  | exit id st =>
    intro kl code G W A hk hs Q hq
    cases code <;> simp only [codeOk, Bool.false_eq_true] at hk
    have := Nat.eq_of_beq_eq_true hk
    subst this
    exact ⟨wp_exit (hq G W A (Ext.refl G W) hs rfl (.of_eq rfl)), fun b e => by cases e⟩
  | @reg l st st' h ih =>
    intro kl code G W A hk hs Q hq
    unfold codeOk at hk
    split at hk <;> first | (rename_i he; cases he; done) | skip
    · rename_i he; cases he
      refine ⟨wp_region ?_, fun b e => by cases e⟩
      rename_i id ops
      have hl := lines_of ops.toList l 0 hk (fun j => by simp)
      have := chain_seq hg.known ih.2 hl hs Q hq
      rw [← List.range_eq_range'] at this
      simpa using this
    · rename_i he; cases he
      rename_i id ops
      simp only [Bool.and_eq_true] at hk
      obtain ⟨⟨k1, k2⟩, k3⟩ := hk
      refine ⟨wp_region_any k1 ?_, fun b e => by cases e⟩
      have kp : Keep G W G { W with drawn := W.drawn + 1 } := ⟨rfl, rfl, rfl, Nat.le_refl _, fun _ _ => rfl, fun _ _ => rfl, fun _ _ h => h, Nat.le_refl _, fun _ _ => ⟨rfl, rfl⟩, rfl, rfl⟩
      have hs' := hs.keep kp (fun _ _ h => h) rfl
      obtain ⟨hlen, _⟩ := opersOk_get k2
      have hmap : (List.range ops.size).map (fun i => l.getD i noOper) = l := by
        apply List.ext_getElem
        · simp at hlen ⊢; omega
        · intro i h1 h2
          simp [List.getD_eq_getElem?_getD, h2]
      refine any_sound hg.known k2 k3 Q ops.size _ (List.range ops.size) st st' G _ A rfl (by simp) (List.pairwise_lt_range) (fun i => ?_) (fun i o ho hl => ?_) (by simp) (by rw [hmap]; exact ih.2) hs' (Then.mono hq kp.ext rfl (.of_eq rfl))
      · rw [List.mem_range]
        constructor
        · intro h; exact ⟨h, by simp [Array.getD_eq_getD_getElem?, h]⟩
        · exact fun h => h.1
      · have hi : i < ops.size := by have := (List.getElem?_eq_some_iff.1 ho).1; simpa using this
        simp [Array.getD_eq_getD_getElem?, hi] at hl
    · cases hk
  | @seq a b st st' st2 ex h k ih1 ih2 =>
    intro kl code G W A hk hs Q hq
    cases code <;> simp only [codeOk, Bool.and_eq_true, Bool.false_eq_true] at hk
    rename_i x y
    refine ⟨wp_seq ((ih1 kl x G W A hk.1 hs _ ?_).1), fun b e => by cases e⟩
    intro G' W' A' e hs' h1 h2
    exact (ih2 kl y G' W' A' (by rw [h1]; exact hk.2) hs' Q (Then.mono hq e h1 h2)).1
  | @seq' a b st st' ex h hne ih =>
    intro kl code G W A hk hs Q hq
    cases code <;> simp only [codeOk, Bool.and_eq_true, Bool.false_eq_true] at hk
    rename_i x y
    refine ⟨wp_seq ((ih kl x G W A hk.1 hs _ ?_).1), fun b e => by cases e⟩
    intro G' W' A' e hs' h1 h2
    have := hq G' W' A' e hs' h1 h2
    cases ex with
    | norm => exact absurd rfl hne
    | ret => exact this
    | exit id => exact this
  | @cond c a b st st' ex t hc h ih =>
    intro kl code G W A hk hs Q hq
    cases code <;> simp only [codeOk, Bool.and_eq_true, Bool.false_eq_true] at hk
    rename_i cc x y
    have hv := opd_ev hs hk.1.1
    rw [hc] at hv
    generalize hcc : A.eval cc = cv at hv
    cases hv
    refine ⟨wp_cond hcc ?_, fun b e => by cases e⟩
    cases t with
    | true => exact (ih kl x G W A hk.1.2 hs Q hq).1
    | false => exact (ih kl y G W A hk.2 hs Q hq).1
  | @blk id c st st' h ih =>
    intro kl code G W A hk hs Q hq
    cases code <;> simp only [codeOk, Bool.and_eq_true, Bool.false_eq_true] at hk
    rename_i i x
    have := Nat.eq_of_beq_eq_true hk.1
    subst this
    refine ⟨wp_block ((ih kl x G W A hk.2 hs _ ?_).1), fun b e => by cases e⟩
    intro G' W' A' e hs' h1 h2
    have := hq G' W' A' e hs' h1 h2
    simp only [exitOf, Exit.inBlock, if_true]
    exact this
  | @blk' id c st st' ex h hne ih =>
    intro kl code G W A hk hs Q hq
    cases code <;> simp only [codeOk, Bool.and_eq_true, Bool.false_eq_true] at hk
    rename_i i x
    have := Nat.eq_of_beq_eq_true hk.1
    subst this
    refine ⟨wp_block ((ih kl x G W A hk.2 hs _ ?_).1), fun b e => by cases e⟩
    intro G' W' A' e hs' h1 h2
    have := hq G' W' A' e hs' h1 h2
    cases ex with
    | norm => exact this
    | ret => exact this
    | exit j =>
      simp only [exitOf, Exit.inBlock]
      rw [if_neg (fun e => hne (by rw [e]))]
      exact this
  | @loop c st st' st2 ex h k ih1 ih2 =>
    intro kl code G W A hk hs Q hq
    have hk0 := hk
    cases code <;> simp only [codeOk, Bool.false_eq_true] at hk
    rename_i x
    have hl : LoopWp P x Q A W := by
      refine loop_round ((ih1 kl x G W A hk hs _ ?_).1)
      intro G' W' A' e hs' h1 h2
      exact (ih2 kl (.loop x) G' W' A' (by rw [h1]; exact hk0) hs' Q (Then.mono hq e h1 h2)).2 x rfl
    exact ⟨wp_of_loop hl, fun b e => by cases e; exact hl⟩
  | @loop' c st st' ex h hne ih =>
    intro kl code G W A hk hs Q hq
    cases code <;> simp only [codeOk, Bool.false_eq_true] at hk
    rename_i x
    have hl : LoopWp P x Q A W := by
      refine loop_round ((ih kl x G W A hk hs _ ?_).1)
      intro G' W' A' e hs' h1 h2
      have := hq G' W' A' e hs' h1 h2
      cases ex with
      | norm => exact absurd rfl hne
      | ret => exact this
      | exit id => exact this
    exact ⟨wp_of_loop hl, fun b e => by cases e; exact hl⟩
  | @rfun x st st1 p g cap fn ex v hh hx ht hn hc he hl ih =>
    intro kl code G W A hk hs Q hq
    cases code <;> simp only [codeOk, Bool.false_eq_true] at hk
    rename_i f ps assign body
    have hv := opd_ev hs hk
    rw [hx] at hv
    generalize hcc : A.eval f = cv at hv
    cases hv with | fn _ _ _ a lb h1 h2 h3 h4 =>
    have ha : a = #[] := Array.eq_empty_of_size_eq_zero (by simpa using h1.symm)
    subst ha
    obtain ⟨f', b', hf', hb', hn'⟩ : ∃ f b, P.funcs[g]? = some f ∧ f.body = some b ∧ (f.name == "runtime.NumGoroutine") = false := by
      have hk := hg.tab g fn ht
      unfold fnOk at hk
      split at hk
      · rename_i f hf
        split at hk
        · rename_i c hc'
          simp only [Bool.and_eq_true, Bool.not_eq_true'] at hk
          exact ⟨f, c, hf, hc', hk.1.1.2⟩
        · cases hk
      · cases hk
    have eg : ∀ args w, (callFunc g args).run P w = .ok (.enter g args) w := fun args w => by
      simp [callFunc, program, Sem.run, hf', hb']
      simpa using hn'
    refine ⟨wp_rfun hcc eg fun fid => ⟨{ state := .ready, pending := none, fn := fid, tmps := A.tmps, params := ps, assign, body, defers := W.heap.size }, by simp, rfl, ?_, rfl⟩, fun b e => by cases e⟩
    generalize hl0 : ({ state := .ready, pending := none, fn := fid, tmps := A.tmps, params := ps, assign, body, defers := W.heap.size } : Loop) = l
    generalize hW1 : (W.alloc (.deferred (some []))).alloc (.loop l) = W1
    have hz1 : W1.heap.size = W.heap.size + 2 := by rw [← hW1]; simp
    have hD1 : W1.heap[W.heap.size]? = some (.deferred (some [])) := by rw [← hW1]; show ((W.heap.push _).push _)[W.heap.size]? = _; simp [Array.getElem?_push]
    have hL1 : W1.heap[W.heap.size + 1]? = some (.loop l) := by rw [← hW1]; show ((W.heap.push _).push _)[W.heap.size + 1]? = _; rw [Array.getElem?_push, if_pos (by simp)]
    have hlow : ∀ b, b < W.heap.size → W1.heap[b]? = W.heap[b]? := fun b hb => by
      rw [← hW1]; show ((W.heap.push _).push _)[b]? = _
      rw [Array.getElem?_push, if_neg (by simp; omega), Array.getElem?_push, if_neg (by omega)]
    let G1 : Gh := { G with own := fun b => if b < W.heap.size then G.own b else .ext }
    have kp : Keep G W G1 W1 := ⟨by rw [← hW1]; rfl, by rw [← hW1]; rfl, by rw [← hW1]; rfl, by omega, fun b hb => by simp [G1, hb], hlow, fun _ _ h => h, Nat.le_refl _, fun _ _ => ⟨rfl, rfl⟩, rfl, rfl⟩
    have hs1 := hs.keep kp (fun _ _ h => h) rfl
    have hvs : VRs G1 W1 (.any :: cap) (#[.func (.yield (W.heap.size + 1)) #[] #[]] ++ lb) := by
      have q1 : VRs G1 W1 [.any] #[.func (.yield (W.heap.size + 1)) #[] #[]] := ⟨rfl, fun j hj => by
        have : j = 0 := by simp at hj; omega
        subst this; exact .any _⟩
      have q2 : VRs G1 W1 cap lb := ⟨h3, fun j hj => (h4 j hj).mono kp.ext⟩
      exact q1.append q2
    have hcalls := (fn_calls hg ht hn ih he hl hvs hs1.mem hs1.gl).2
    refine hcalls.mono fun en W2 hp => ?_
    cases en with
    | panicked _ => exact hp
    | outgrown => exact hp
    | returned c =>
      obtain ⟨G2, e2, hr2, hm2, _⟩ := hp
      have own1 : ∀ b, W.heap.size ≤ b → G1.own b = .ext := fun b hb => by simp [G1]; intro h; omega
      have hL2 := e2.e1 (W.heap.size + 1) (by omega) (own1 _ (by omega))
      have hD2 := e2.e1 W.heap.size (by omega) (own1 _ (Nat.le_refl _))
      have hL2' : W2.heap[W.heap.size + 1]? = some (.loop l) := hL2.1.trans hL1
      have hs2 := hs1.after e2 hr2 hm2
      have hb0 : bsz W2 (W.heap.size + 1) = 0 := by unfold bsz; rw [hL2']
      have hs3 := hs2.putX (o := .loop { l with state := .exhausted }) hb0 hL2.2 (fun _ _ _ h => by rw [hL2'] at h; cases h)
      refine ⟨hL2', hq G2 _ _ ((kp.ext.trans e2).putX (by omega)) (hs3.defersX _) rfl ⟨[W.heap.size], rfl, by simp, fun D hD => ?_⟩⟩
      obtain rfl := List.mem_singleton.1 hD
      exact ⟨Nat.le_refl _, (putObj_ne (by omega)).trans (hD2.1.trans hD1), hD2.2⟩
  | @grow g ty n h gl hp h0 h1 => exact grow_sound hg.grow hp h0 h1 h gl
  | @kill c st x ks h ih =>
    cases x with
    | val v h' => exact ih.elim
    | fin ex st' =>
      intro kl code G W A hk hs Q hq
      exact ih kl code G W A hk (hs.kill ks) Q hq
  | @fn p g args h hh gl fn ex st1 v ht hn hc he hl ih =>
    refine ⟨leave_plain hl, fun hp => ?_, fun h1 h2 e1 e2 G W cs hv hr hgl => ?_⟩
    · subst hp
      unfold leave at hl
      split at hl
      · cases hl
      · simp only [cond_true, Option.some.injEq, Prod.mk.injEq] at hl
        exact hl.2.symm
    · cases p with
      | true =>
        have := e1 rfl
        subst this
        have hl' : leave fn true h2 st1 = some (v, h2) := by
          unfold leave at hl ⊢
          split at hl
          · cases hl
          · simp only [cond_true, Option.some.injEq, Prod.mk.injEq] at hl ⊢
            exact ⟨hl.1, trivial⟩
        obtain ⟨⟨_, f, b, hf, hb, hn'⟩, hcalls⟩ := fn_calls (h := h2) hg ht hn ih he hl' hv hr hgl
        exact Reach.of_calls hf hb hn' hcalls
      | false =>
        obtain ⟨rfl, rfl⟩ := e2 rfl
        obtain ⟨⟨_, f, b, hf, hb, hn'⟩, hcalls⟩ := fn_calls hg ht hn ih he hl hv hr hgl
        exact Reach.of_calls hf hb hn' hcalls
  | @prim p g args h gl v hok hp =>
    obtain ⟨h1, h2⟩ := hg.prim gl hok g args v hp
    refine ⟨h1, fun _ => rfl, fun m1 m2 e1 e2 G W cs hv hr hgl => (h2 G W cs hv hgl).mono fun c W' hc => ?_⟩
    obtain ⟨G', kp, ho, hn, hvr⟩ := hc
    have : m2 = m1 := by
      cases p with
      | true => exact e1 rfl
      | false => obtain ⟨rfl, rfl⟩ := e2 rfl; rfl
    subst this
    exact ⟨G', kp.ext, hr.keep kp ho hn, kp.mine, hvr⟩
  | @primH g args h gl l hok hp =>
    obtain ⟨h1, h2⟩ := hg.prim gl hok g _ _ hp
    refine ⟨h1, fun h => (by cases h), fun m1 m2 e1 e2 G W cs hv hr hgl => ?_⟩
    obtain ⟨rfl, rfl⟩ := e2 rfl
    have e := Ext.all G W
    refine (h2 (G.all W) W cs (thaw_vrs hr hv) (fun i => ⟨(hgl i).1, (hgl i).2.1.mono e, (hgl i).2.2.mono e⟩)).mono fun c W' hc => ?_
    obtain ⟨G', kp, ho, hn, hvr⟩ := hc
    have kk : Keep G W G W' := ⟨kp.tape, kp.os, kp.out, kp.sz, fun _ _ => rfl, kp.heap, fun _ _ h => h, Nat.le_refl _, fun _ _ => ⟨rfl, rfl⟩, rfl, rfl⟩
    refine ⟨G, kk.ext, hr.keep kk (fun _ _ h => h) rfl, kk.mine, ?_⟩
    cases hvr with | s _ s hs => exact .s _ s hs

end
end Ai

namespace Ai
open Go

/-! ### The evaluator -/
inductive Tk1 where
  | ops (l : List AOper)
  | code (c : AC)
  | dops (i : Nat) (seen : List (Nat × (AOper × FP))) (l : List (AOper × List Nat))

/-- No call that writes is told. -/
def noWr (_ : FuncId) (_ : List V) (_ : H) : Option (V × H) := none

/-- Runs code; fuel bounds the depth. 'none': stuck, or no fuel. -/
def run (tab : FuncId → Option AFunc) (xf : FuncId → List V → Option V) (xh : FuncId → List V → H → Option (V × H)) : Nat → Tk1 → St → Option (AEx × St)
  | 0, _, _ => none
  | f + 1, .ops l, st => match l with
    | [] => some (.norm, st)
    | o :: r => match wanted st o with
      | none => none
      | some false => run tab xf xh f (.ops r) (st.put o.dst (.tup []))
      | some true => match callee st o.op with
        | none => match step st (o.dst.getD 0) o.op with
          | some (v, st') => run tab xf xh f (.ops r) (st'.put o.dst v)
          | none => none
        | some (p, g, args) => match tab g with
          | none => bif p then (match xf g args with
            | some v => run tab xf xh f (.ops r) (st.put o.dst v)
            | none => none) else (match xh g args st.h with
            | some (v, h) => run tab xf xh f (.ops r) ({ st with h }.put o.dst v)
            | none => none)
          | some fn => bif Nat.ble args.length fn.n then
              match run tab xf xh f (.code fn.body) (St.enter st.gl fn p args st.h) with
              | some (ex, st1) => bif ex.ends then
                  match leave fn p st.h st1 with
                  | some (v, h) => run tab xf xh f (.ops r) ({ st with h }.put o.dst v)
                  | none => none else none
              | none => none else none
  | f + 1, .dops i seen l, st => match l with
    | [] => some (.norm, st)
    | (o, js) :: r => match wanted st o with
      | none => none
      | some false => bif chkF seen js (o, { v := .tup [] }) then run tab xf xh f (.dops (i + 1) ((i, (o, { v := .tup [] })) :: seen) r) (st.put o.dst (.tup [])) else none
      | some true => match callee st o.op with
        | none => match step st (o.dst.getD 0) o.op with
          | some (v, st') => match fpOf st o v st' with
            | some fp => bif chkF seen js (o, fp) then run tab xf xh f (.dops (i + 1) ((i, (o, fp)) :: seen) r) (st'.put o.dst v) else none
            | none => none
          | none => none
        | some (p, g, args) => match tab g with
          | none => bif p then (match xf g args with
            | some v => bif chkF seen js (o, fpCall p st.h st.h v) then run tab xf xh f (.dops (i + 1) ((i, (o, fpCall p st.h st.h v)) :: seen) r) (st.put o.dst v) else none
            | none => none) else (match xh g args st.h with
            | some (v, h) => bif chkF seen js (o, fpCall p st.h h v) then run tab xf xh f (.dops (i + 1) ((i, (o, fpCall p st.h h v)) :: seen) r) ({ st with h }.put o.dst v) else none
            | none => none)
          | some fn => bif Nat.ble args.length fn.n then
              match run tab xf xh f (.code fn.body) (St.enter st.gl fn p args st.h) with
              | some (ex, st1) => bif ex.ends then
                  match leave fn p st.h st1 with
                  | some (v, h) => bif chkF seen js (o, fpCall p st.h h v) then run tab xf xh f (.dops (i + 1) ((i, (o, fpCall p st.h h v)) :: seen) r) ({ st with h }.put o.dst v) else none
                  | none => none else none
              | none => none else none
  | f + 1, .code c, st => match c with
    | .skip => some (.norm, st)
    | .ret => some (.ret, st)
    | .exit id => some (.exit id, st)
    | .reg ops => run tab xf xh f (.ops ops) st
    | .regd ops => run tab xf xh f (.dops 0 [] ops) st
    | .seq a b => match run tab xf xh f (.code a) st with
      | some (.norm, st') => run tab xf xh f (.code b) st'
      | r => r
    | .cond c a b => match st.ev c with
      | .b x => bif x then run tab xf xh f (.code a) st else run tab xf xh f (.code b) st
      | _ => none
    | .blk id c => match run tab xf xh f (.code c) st with
      | some (.exit j, st') => bif Nat.beq j id then some (.norm, st') else some (.exit j, st')
      | r => r
    | .loop c => match run tab xf xh f (.code c) st with
      | some (.norm, st') => run tab xf xh f (.code (.loop c)) st'
      | r => r
    | .rfun x => match st.ev x with
      | .fn g [] cap => match tab g with
        | some fn => bif Nat.ble (V.any :: cap).length fn.n then
            match run tab xf xh f (.code fn.body) (St.enter st.gl fn false (.any :: cap) st.h) with
            | some (ex, st1) => bif ex.ends then
                match leave fn false st.h st1 with
                | some (_, h) => some (.norm, { st with h })
                | none => none else none
            | none => none else none
        | none => none
      | _ => none
    | .refuse => none

def runF (gl : Nat → List V) (tab : FuncId → Option AFunc) (xf : FuncId → List V → Option V) (fuel : Nat) (g : FuncId) (args : List V) : Option V :=
  match tab g with
  | none => none
  | some fn => bif Nat.ble args.length fn.n then
    match run tab xf noWr fuel (.code fn.body) (St.enter gl fn true args {}) with
    | some (ex, st1) => bif ex.ends then (leave fn true {} st1).map (·.1) else none
    | none => none else none

/-! ### The package variables stay -/
theorem wrt_gl {st st' : St} {a : V} {xs : List V} (h : st.wrt a xs = some st') : st'.gl = st.gl := by
  unfold St.wrt at h
  repeat' split at h
  all_goals first | (cases h; done) | skip
  all_goals (rename_i cs _; cases hb : Nat.ble _ cs.length <;> rw [hb] at h <;> simp only [cond_true, cond_false, reduceCtorEq, Option.some.injEq] at h <;> rw [← h])
theorem app_gl {st st' : St} {ty sz : Nat} {x y v : V} (h : st.app ty sz x y = some (v, st')) : st'.gl = st.gl := by
  unfold St.app at h
  split at h
  · rename_i xs n tk ys m _
    cases h1 : !allOne ys <;> rw [h1] at h
    · simp only [cond_false] at h
      cases h2 : Nat.beq m 0 <;> rw [h2] at h
      · simp only [cond_false] at h
        cases h3 : (Nat.beq xs.length (n * sz) && Nat.ble (n + m) most) <;> rw [h3] at h
        · cases h
        · simp only [cond_true] at h
          split at h
          · cases h
          · simp only [Option.some.injEq, Prod.mk.injEq] at h; rw [← h.2]
          · simp only [Option.some.injEq, Prod.mk.injEq] at h; rw [← h.2]
          · split at h
            · rename_i c z _
              cases h4 : (Nat.beq c n && Nat.beq z ty) <;> rw [h4] at h
              · cases h
              · simp only [cond_true, Option.some.injEq, Prod.mk.injEq] at h; rw [← h.2]
            · cases h
      · simp only [cond_true, Option.some.injEq, Prod.mk.injEq] at h; rw [← h.2]
    · cases h
  · cases h
theorem appo_gl {st st' : St} {ty sz : Nat} {x y v : V} (h : st.appo ty sz x y = some (v, st')) : st'.gl = st.gl := by
  unfold St.appo at h
  split at h
  · rename_i ys m _
    cases h1 : !allOne ys <;> rw [h1] at h
    · simp only [cond_false] at h
      split at h
      · simp only [Bool.cond_eq_ite] at h
        repeat' split at h
        all_goals first | (cases h; done) | (simp only [Option.some.injEq, Prod.mk.injEq] at h; rw [← h.2])
      · split at h
        · simp only [Bool.cond_eq_ite] at h
          repeat' split at h
          all_goals first | (cases h; done) | (simp only [Option.some.injEq, Prod.mk.injEq] at h; rw [← h.2])
        · cases h
      · cases h
    · cases h
  · cases h
theorem map_st {α : Type} {o : Option α} {f : α → V} {st st' : St} {v : V} (h : o.map (fun x => (f x, st)) = some (v, st')) : st' = st := by
  cases o with
  | none => cases h
  | some x => simp only [Option.map_some, Option.some.injEq, Prod.mk.injEq] at h; exact h.2.symm
theorem step_gl {st st' : St} {d : Nat} {op : AOp} {v : V} (h : step st d op = some (v, st')) : st'.gl = st.gl := by
  cases op <;> simp only [step] at h
  all_goals (first | (cases h; done) | (rw [map_st (f := id) h]; done) | (rw [map_st h]; done) | (exact app_gl h) | (exact appo_gl h) | (simp only [Option.some.injEq, Prod.mk.injEq] at h; rw [← h.2]; done) | skip)
  all_goals (repeat' split at h)
  all_goals (first | (cases h; done) | (simp only [Option.some.injEq, Prod.mk.injEq] at h; rw [← h.2]; done) | skip)
  all_goals (first | (rw [map_st (f := id) h]; done) | (rw [map_st h]; done) | skip)
  all_goals (simp only [Bool.cond_eq_ite] at h)
  all_goals (repeat' split at h)
  all_goals (first | (cases h; done) | (simp only [Option.some.injEq, Prod.mk.injEq] at h; rw [← h.2]; done) | skip)
  all_goals (simp only [Option.map_eq_some_iff, Prod.mk.injEq] at h; obtain ⟨x, h1, _, rfl⟩ := h; first | rfl | exact wrt_gl h1)

section
variable {P : Program} {K : Known} {tab : FuncId → Option AFunc} {xf : FuncId → List V → Option V} {xh : FuncId → List V → H → Option (V × H)} {pr : Prims}

def Tk1.at (st : St) : Tk1 → J
  | .ops l => .ops l st
  | .code c => .code c st
  | .dops i seen l => .dops i seen l st

theorem enter_gl (gl : Nat → List V) (fn : AFunc) (p : Bool) (args : List V) (h : H) : (St.enter gl fn p args h).gl = gl := by cases p <;> rfl
theorem run_gl : ∀ (f : Nat) (tk : Tk1) (st st' : St) (ex : AEx), run tab xf xh f tk st = some (ex, st') → st'.gl = st.gl
  | 0, tk, st, st', ex, h => by simp [run] at h
  | f + 1, .ops l, st, st', ex, h => by
    cases l with
    | nil =>
      simp only [run, Option.some.injEq, Prod.mk.injEq] at h
      rw [← h.2]
    | cons o r =>
      simp only [run] at h
      split at h
      · cases h
      · rw [run_gl f _ _ _ _ h, put_gl]
      · split at h
        · split at h
          · rename_i hs
            rw [run_gl f _ _ _ _ h, put_gl, step_gl hs]
          · cases h
        · rename_i p g args hc
          split at h
          · cases p with
            | false =>
              simp only [cond_false] at h
              split at h
              · rw [run_gl f _ _ _ _ h, put_gl]
              · cases h
            | true =>
            simp only [cond_true] at h
            split at h
            · rw [run_gl f _ _ _ _ h, put_gl]
            · cases h
          · rename_i fn ht
            cases hn : Nat.ble _ fn.n with
            | false => rw [hn] at h; cases h
            | true =>
              rw [hn] at h
              simp only [cond_true] at h
              split at h
              · rename_i ex1 st1 hrun
                cases he : ex1.ends with
                | false => rw [he] at h; cases h
                | true =>
                  rw [he] at h
                  simp only [cond_true] at h
                  split at h
                  · rw [run_gl f _ _ _ _ h, put_gl]
                  · cases h
              · cases h
  | f + 1, .dops i seen l, st, st', ex, h => by
    cases l with
    | nil =>
      simp only [run, Option.some.injEq, Prod.mk.injEq] at h
      rw [← h.2]
    | cons oj r =>
      obtain ⟨o, js⟩ := oj
      simp only [run, Bool.cond_eq_ite] at h
      split at h
      · cases h
      · split at h
        · rw [run_gl f _ _ _ _ h, put_gl]
        · cases h
      · split at h
        · split at h
          · rename_i hs
            split at h
            · split at h
              · rw [run_gl f _ _ _ _ h, put_gl, step_gl hs]
              · cases h
            · cases h
          · cases h
        · split at h
          · split at h
            · split at h
              · split at h
                · rw [run_gl f _ _ _ _ h, put_gl]
                · cases h
              · cases h
            · split at h
              · split at h
                · rw [run_gl f _ _ _ _ h, put_gl]
                · cases h
              · cases h
          · split at h
            · split at h
              · split at h
                · split at h
                  · split at h
                    · rw [run_gl f _ _ _ _ h, put_gl]
                    · cases h
                  · cases h
                · cases h
              · cases h
            · cases h
  | f + 1, .code c, st, st', ex, h => by
    cases c with
    | skip => simp only [run, Option.some.injEq, Prod.mk.injEq] at h; rw [← h.2]
    | ret => simp only [run, Option.some.injEq, Prod.mk.injEq] at h; rw [← h.2]
    | exit id => simp only [run, Option.some.injEq, Prod.mk.injEq] at h; rw [← h.2]
    | reg l => simp only [run] at h; exact run_gl f _ _ _ _ h
    | regd l => simp only [run] at h; exact run_gl f _ _ _ _ h
    | seq a b =>
      simp only [run] at h
      split at h
      · rename_i st1 h1
        rw [run_gl f _ _ _ _ h, run_gl f _ _ _ _ h1]
      · exact run_gl f _ _ _ _ h
    | cond c a b =>
      simp only [run] at h
      split at h
      · rename_i x hc
        cases x with
        | true => exact run_gl f _ _ _ _ h
        | false => exact run_gl f _ _ _ _ h
      · cases h
    | blk id c =>
      simp only [run] at h
      split at h
      · rename_i j st1 h1
        cases hb : Nat.beq j id with
        | true => rw [hb] at h; simp only [cond_true, Option.some.injEq, Prod.mk.injEq] at h; rw [← h.2, run_gl f _ _ _ _ h1]
        | false => rw [hb] at h; simp only [cond_false, Option.some.injEq, Prod.mk.injEq] at h; rw [← h.2, run_gl f _ _ _ _ h1]
      · exact run_gl f _ _ _ _ h
    | loop c =>
      simp only [run] at h
      split at h
      · rename_i st1 h1
        rw [run_gl f _ _ _ _ h, run_gl f _ _ _ _ h1]
      · exact run_gl f _ _ _ _ h
    | rfun x =>
      simp only [run, Bool.cond_eq_ite] at h
      split at h
      · split at h
        · split at h
          · split at h
            · split at h
              · split at h
                · simp only [Option.some.injEq, Prod.mk.injEq] at h; rw [← h.2]
                · cases h
              · cases h
            · cases h
          · cases h
        · cases h
      · cases h
    | refuse => simp [run] at h

/-- What the evaluator finds is so. -/
theorem run_evM {tab1 : FuncId → Option AFunc} (htab : ∀ g fn, tab1 g = some fn → tab g = some fn) (hx : ∀ g args v, xf g args = some v → ∀ h gl, pr.ok gl → Ev tab pr (.fn true g args h gl) (.val v h)) (hy : ∀ g args h v h', xh g args h = some (v, h') → ∀ gl, pr.ok gl → Ev tab pr (.fn false g args h gl) (.val v h')) :
    ∀ (f : Nat) (tk : Tk1) (st st' : St) (ex : AEx), pr.ok st.gl → run tab1 xf xh f tk st = some (ex, st') → Ev tab pr (tk.at st) (.fin ex st')
  | 0, tk, st, st', ex, hok, h => by simp [run] at h
  | f + 1, .ops l, st, st', ex, hok, h => by
    cases l with
    | nil =>
      simp only [run, Option.some.injEq, Prod.mk.injEq] at h
      obtain ⟨rfl, rfl⟩ := h
      exact .nil st
    | cons o r =>
      simp only [run] at h
      split at h
      · cases h
      · rename_i hw
        exact .pass hw (run_evM htab hx hy f (.ops r) _ _ _ (by rw [put_gl]; exact hok) h)
      · rename_i hw
        split at h
        · rename_i hc
          split at h
          · rename_i v st1 hs
            exact .step hw hc hs (run_evM htab hx hy f (.ops r) _ _ _ (by rw [put_gl, step_gl hs]; exact hok) h)
          · cases h
        · rename_i p g args hc
          split at h
          · cases p with
            | false =>
              simp only [cond_false] at h
              split at h
              · rename_i v hh hv
                exact .call hw hc (hy _ _ _ _ _ hv _ hok) (run_evM htab hx hy f (.ops r) _ _ _ (by rw [put_gl]; exact hok) h)
              · cases h
            | true =>
            simp only [cond_true] at h
            split at h
            · rename_i v hv
              exact .call hw hc (hx _ _ _ hv _ _ hok) (run_evM htab hx hy f (.ops r) _ _ _ (by rw [put_gl]; exact hok) h)
            · cases h
          · rename_i fn ht
            cases hn : Nat.ble args.length fn.n with
            | false => rw [hn] at h; cases h
            | true =>
              rw [hn] at h
              simp only [cond_true] at h
              split at h
              · rename_i ex1 st1 hrun
                cases he : ex1.ends with
                | false => rw [he] at h; cases h
                | true =>
                  rw [he] at h
                  simp only [cond_true] at h
                  split at h
                  · rename_i v hh hl
                    exact .call hw hc (.fn (htab _ _ ht) (Nat.le_of_ble_eq_true hn) (run_evM htab hx hy f (.code fn.body) _ _ _ (by rw [enter_gl]; exact hok) hrun) he hl) (run_evM htab hx hy f (.ops r) _ _ _ (by rw [put_gl]; exact hok) h)
                  · cases h
              · cases h
  | f + 1, .dops i seen l, st, st', ex, hok, h => by
    cases l with
    | nil =>
      simp only [run, Option.some.injEq, Prod.mk.injEq] at h
      obtain ⟨rfl, rfl⟩ := h
      exact .dnil i seen st
    | cons oj r =>
      obtain ⟨o, js⟩ := oj
      simp only [run, Bool.cond_eq_ite] at h
      split at h
      · cases h
      · rename_i hw
        split at h
        · rename_i hk
          exact .dpass hw hk (run_evM htab hx hy f (.dops _ _ r) _ _ _ (by rw [put_gl]; exact hok) h)
        · cases h
      · rename_i hw
        split at h
        · rename_i hc
          split at h
          · rename_i v st1 hs
            split at h
            · rename_i fp hf
              split at h
              · rename_i hk
                exact .dstep hw hc hs hf hk (run_evM htab hx hy f (.dops _ _ r) _ _ _ (by rw [put_gl, step_gl hs]; exact hok) h)
              · cases h
            · cases h
          · cases h
        · rename_i p g args hc
          split at h
          · cases p with
            | false =>
              simp only [Bool.false_eq_true, if_false] at h
              split at h
              · rename_i v hh hv
                split at h
                · rename_i hk
                  exact .dcall hw hc (hy _ _ _ _ _ hv _ hok) hk (run_evM htab hx hy f (.dops _ _ r) _ _ _ (by rw [put_gl]; exact hok) h)
                · cases h
              · cases h
            | true =>
            simp only [if_true] at h
            split at h
            · rename_i v hv
              split at h
              · rename_i hk
                exact .dcall hw hc (hx _ _ _ hv _ _ hok) hk (run_evM htab hx hy f (.dops _ _ r) _ _ _ (by rw [put_gl]; exact hok) h)
              · cases h
            · cases h
          · rename_i fn ht
            split at h
            · rename_i hn
              split at h
              · rename_i ex1 st1 hrun
                split at h
                · rename_i he
                  split at h
                  · rename_i v hh hl
                    split at h
                    · rename_i hk
                      exact .dcall hw hc (.fn (htab _ _ ht) (Nat.le_of_ble_eq_true hn) (run_evM htab hx hy f (.code fn.body) _ _ _ (by rw [enter_gl]; exact hok) hrun) he hl) hk (run_evM htab hx hy f (.dops _ _ r) _ _ _ (by rw [put_gl]; exact hok) h)
                    · cases h
                  · cases h
                · cases h
              · cases h
            · cases h
  | f + 1, .code c, st, st', ex, hok, h => by
    cases c with
    | skip =>
      simp only [run, Option.some.injEq, Prod.mk.injEq] at h
      obtain ⟨rfl, rfl⟩ := h
      exact .skip st
    | ret =>
      simp only [run, Option.some.injEq, Prod.mk.injEq] at h
      obtain ⟨rfl, rfl⟩ := h
      exact .ret st
    | exit id =>
      simp only [run, Option.some.injEq, Prod.mk.injEq] at h
      obtain ⟨rfl, rfl⟩ := h
      exact .exit id st
    | reg l =>
      simp only [run] at h
      have := run_evM htab hx hy f (.ops l) st st' ex hok h
      have hn : ex = .norm := ops_norm f l st st' ex h
      subst hn
      exact .reg this
    | regd l =>
      simp only [run] at h
      have := run_evM htab hx hy f (.dops 0 [] l) st st' ex hok h
      have hn : ex = .norm := dops_norm f 0 [] l st st' ex h
      subst hn
      exact .regd this
    | seq a b =>
      simp only [run] at h
      split at h
      · rename_i st1 h1
        exact .seq (run_evM htab hx hy f (.code a) _ _ _ hok h1) (run_evM htab hx hy f (.code b) _ _ _ (by rw [run_gl f _ _ _ _ h1]; exact hok) h)
      · rename_i hne
        refine .seq' (run_evM htab hx hy f (.code a) _ _ _ hok h) (fun e => ?_)
        subst e
        exact hne _ h
    | cond c a b =>
      simp only [run] at h
      split at h
      · rename_i x hc
        cases x with
        | true => exact .cond hc (run_evM htab hx hy f (.code a) _ _ _ hok h)
        | false => exact .cond hc (run_evM htab hx hy f (.code b) _ _ _ hok h)
      · cases h
    | blk id c =>
      simp only [run] at h
      split at h
      · rename_i j st1 h1
        cases hb : Nat.beq j id with
        | true =>
          rw [hb] at h
          simp only [cond_true, Option.some.injEq, Prod.mk.injEq] at h
          obtain ⟨rfl, rfl⟩ := h
          have := Nat.eq_of_beq_eq_true hb
          subst this
          exact .blk (run_evM htab hx hy f (.code c) _ _ _ hok h1)
        | false =>
          rw [hb] at h
          simp only [cond_false, Option.some.injEq, Prod.mk.injEq] at h
          obtain ⟨rfl, rfl⟩ := h
          exact .blk' (run_evM htab hx hy f (.code c) _ _ _ hok h1) (fun e => by cases e; simp at hb)
      · rename_i hne
        exact .blk' (run_evM htab hx hy f (.code c) _ _ _ hok h) (fun e => by subst e; exact hne _ _ h)
    | loop c =>
      simp only [run] at h
      split at h
      · rename_i st1 h1
        exact .loop (run_evM htab hx hy f (.code c) _ _ _ hok h1) (run_evM htab hx hy f (.code (.loop c)) _ _ _ (by rw [run_gl f _ _ _ _ h1]; exact hok) h)
      · rename_i hne
        refine .loop' (run_evM htab hx hy f (.code c) _ _ _ hok h) (fun e => ?_)
        subst e
        exact hne _ h
    | rfun x =>
      simp only [run, Bool.cond_eq_ite] at h
      split at h
      · rename_i g cap hx'
        split at h
        · rename_i fn ht
          split at h
          · rename_i hn
            split at h
            · rename_i ex1 st1 hrun
              split at h
              · rename_i he
                split at h
                · rename_i v hh hl
                  simp only [Option.some.injEq, Prod.mk.injEq] at h
                  obtain ⟨rfl, rfl⟩ := h
                  exact .rfun hx' (htab _ _ ht) (Nat.le_of_ble_eq_true hn) (run_evM htab hx hy f (.code fn.body) _ _ _ (by rw [enter_gl]; exact hok) hrun) he hl
                · cases h
              · cases h
            · cases h
          · cases h
        · cases h
      · cases h
    | refuse => simp [run] at h
where
  dops_norm : ∀ (f : Nat) (i : Nat) (seen : List (Nat × (AOper × FP))) (l : List (AOper × List Nat)) (st st' : St) (ex : AEx), run tab1 xf xh f (.dops i seen l) st = some (ex, st') → ex = .norm
    | 0, _, _, l, st, st', ex, h => by simp [run] at h
    | f + 1, i, seen, l, st, st', ex, h => by
      cases l with
      | nil =>
        simp only [run, Option.some.injEq, Prod.mk.injEq] at h
        exact h.1.symm
      | cons oj r =>
        obtain ⟨o, js⟩ := oj
        simp only [run, Bool.cond_eq_ite] at h
        repeat' split at h
        all_goals first | (cases h; done) | (exact dops_norm f _ _ r _ _ _ h)
  ops_norm : ∀ (f : Nat) (l : List AOper) (st st' : St) (ex : AEx), run tab1 xf xh f (.ops l) st = some (ex, st') → ex = .norm
    | 0, l, st, st', ex, h => by simp [run] at h
    | f + 1, l, st, st', ex, h => by
      cases l with
      | nil =>
        simp only [run, Option.some.injEq, Prod.mk.injEq] at h
        exact h.1.symm
      | cons o r =>
        simp only [run] at h
        split at h
        · cases h
        · exact ops_norm f r _ _ _ h
        · split at h
          · split at h
            · exact ops_norm f r _ _ _ h
            · cases h
          · rename_i p g args hc
            split at h
            · cases p with
              | false =>
                simp only [cond_false] at h
                split at h
                · exact ops_norm f r _ _ _ h
                · cases h
              | true =>
              simp only [cond_true] at h
              split at h
              · exact ops_norm f r _ _ _ h
              · cases h
            · rename_i fn ht
              cases hn : Nat.ble args.length fn.n with
              | false => rw [hn] at h; cases h
              | true =>
                rw [hn] at h
                simp only [cond_true] at h
                split at h
                · rename_i ex1 st1 hrun
                  cases he : ex1.ends with
                  | false => rw [he] at h; cases h
                  | true =>
                    rw [he] at h
                    simp only [cond_true] at h
                    split at h
                    · exact ops_norm f r _ _ _ h
                    · cases h
                · cases h

theorem run_ev (hx : ∀ g args v, xf g args = some v → pr.rel g args v) (f : Nat) (tk : Tk1) (st st' : St) (ex : AEx) (hok : pr.ok st.gl) (h : run tab xf noWr f tk st = some (ex, st')) : Ev tab pr (tk.at st) (.fin ex st') :=
  run_evM (tab1 := tab) (fun _ _ h => h) (fun g args v hv _ _ hok => .prim hok (hx g args v hv)) (fun _ _ _ _ _ h => by cases h) f tk st st' ex hok h

/-- What the evaluator finds, where some calls are told, is so. -/
theorem runF_evM {tab1 : FuncId → Option AFunc} (htab : ∀ g fn, tab1 g = some fn → tab g = some fn) (hx : ∀ g args v, xf g args = some v → ∀ h gl, pr.ok gl → Ev tab pr (.fn true g args h gl) (.val v h)) {gl : Nat → List V} {f : Nat} {g : FuncId} {args : List V} {v : V} (hok : pr.ok gl) (h : runF gl tab1 xf f g args = some v) (hh : H) : Ev tab pr (.fn true g args hh gl) (.val v hh) := by
  unfold runF at h
  split at h
  · cases h
  · rename_i fn ht
    cases hn : Nat.ble args.length fn.n with
    | false => rw [hn] at h; cases h
    | true =>
      rw [hn] at h
      simp only [cond_true] at h
      split at h
      · rename_i ex st1 hrun
        cases he : ex.ends with
        | false => rw [he] at h; cases h
        | true =>
          rw [he] at h
          simp only [cond_true] at h
          cases hl : leave fn true {} st1 with
          | none => rw [hl] at h; cases h
          | some q =>
            rw [hl] at h
            simp only [Option.map_some, Option.some.injEq] at h
            have hl' : leave fn true hh st1 = some (v, hh) := by
              unfold leave at hl ⊢
              split at hl
              · cases hl
              · rename_i vs hvs
                simp only [cond_true, Option.some.injEq] at hl ⊢
                rw [← h, ← hl]
            exact .fn (htab _ _ ht) (Nat.le_of_ble_eq_true hn) (run_evM htab hx (fun _ _ _ _ _ h => by cases h) f (.code fn.body) _ _ _ (by rw [enter_gl]; exact hok) hrun) he hl'
      · cases h

theorem runF_ev (hx : ∀ g args v, xf g args = some v → pr.rel g args v) {gl : Nat → List V} {f : Nat} {g : FuncId} {args : List V} {v : V} (hok : pr.ok gl) (h : runF gl tab xf f g args = some v) (hh : H) : Ev tab pr (.fn true g args hh gl) (.val v hh) :=
  runF_evM (tab1 := tab) (fun _ _ h => h) (fun g args v hv _ _ hok => .prim hok (hx g args v hv)) hok h hh

/-! ### What is found once is told from then on -/
def memo : List (List V × V) → List V → Option V
  | [], _ => none
  | (ys, v) :: r, xs => bif sameL ys xs then some v else memo r xs

theorem memo_mem : ∀ {l : List (List V × V)} {xs : List V} {v : V}, memo l xs = some v → (xs, v) ∈ l
  | (ys, w) :: r, xs, v, h => by
    simp only [memo] at h
    cases hb : sameL ys xs with
    | true =>
      rw [hb] at h
      simp only [cond_true, Option.some.injEq] at h
      rw [← sameL_eq _ _ hb, ← h]
      exact .head _
    | false =>
      rw [hb] at h
      exact .tail _ (memo_mem h)

/-! ### The way to the model -/
/-- The ghost of a world of which nothing but its global rows is known: nothing of it may be written. -/
def Gh.start (W : World) : Gh :=
  { own := fun b => match W.heap[b]? with | some (.cells c _ _) => .ro c.size | _ => .ext, obj := fun _ => none, nt := 0, tip := fun _ => 0, tka := fun _ => (none, 0), lb := fun _ => 0, ib := fun _ => 0 }

theorem start_hrel (W : World) : HRel P (Gh.start W) W {} :=
  ⟨fun id o hg => by simp [al] at hg, fun id b hg => by simp [Gh.start] at hg, rfl, fun t n ty hg => by simp [al] at hg⟩

/-- What a pure call leaves of the world as it was. -/
structure Kept (W W' : World) : Prop where
  tape : W'.tape = W.tape
  os : W'.os = W.os
  out : W'.output = W.output
  sz : W.heap.size ≤ W'.heap.size
  heap : ∀ b, b < W.heap.size → W'.heap[b]? = W.heap[b]?

/-- A law's function, called with plain values. -/
theorem calls_of_ev (hg : Good P K tab pr) {gl : Nat → List V} {g : FuncId} {args : List V} {v : V} {fn : AFunc} {ex : AEx} {st1 : St} (ht : tab g = some fn) (hn : args.length ≤ fn.n)
    (hc : Ev tab pr (.code fn.body (St.enter gl fn true args {})) (.fin ex st1)) (he : ex.ends = true) (hl : leave fn true {} st1 = some (v, {})) {W : World} {cs : Array Value} (hv : VRs (Gh.start W) W args cs)
    (hgl : ∀ g, Row1 (Gh.start W) W g (gl g)) :
    Calls P g cs W fun | .returned c, W' => Kept W W' ∧ ∃ G', VR G' W' v c | _, _ => False := by
  have := (fn_calls hg ht hn (sound hg hc) he hl hv (start_hrel W) hgl).2
  refine this.mono fun e W' h => ?_
  cases e with
  | panicked _ => exact h.elim
  | outgrown => exact h.elim
  | returned c =>
    obtain ⟨G', e, hr, hm, hvr⟩ := h
    refine ⟨⟨e.tape, e.os, e.out, e.sz, fun b hb => ?_⟩, G', hvr⟩
    cases ho : (Gh.start W).own b with
    | ext => exact (e.e1 b hb ho).1
    | ro f => exact (e.ro b f ho hb).1
    | _ => simp only [Gh.start] at ho; split at ho <;> cases ho

end
end Ai

namespace Ai
open Go Go.Proofs Go.Shelf

section
variable {P : Program}

theorem keep_below {G : Gh} {W W' : World} (h : RowKit.Below W.heap.size W W') : ∃ G', Keep G W G' W' ∧ (∀ id b, G'.obj id = some b → G.obj id = some b) ∧ G'.nt = G.nt :=
  ⟨G, ⟨h.tape, h.os, h.output, h.size, fun _ _ => rfl, h.block, fun _ _ h => h, Nat.le_refl _, fun _ _ => ⟨rfl, rfl⟩, rfl, rfl⟩, fun _ _ h => h, rfl⟩

def strsOf : List V → Option (List (List UInt8))
  | [] => some []
  | .s l :: r => (strsOf r).map (l :: ·)
  | _ => none

theorem strsOf_spec : ∀ {xs : List V} {l : List (List UInt8)}, strsOf xs = some l → xs = l.map V.s
  | [], l, h => by simp only [strsOf, Option.some.injEq] at h; subst h; rfl
  | x :: r, l, h => by
    cases x <;> simp only [strsOf, reduceCtorEq] at h
    rename_i s
    cases hr : strsOf r with
    | none => rw [hr] at h; cases h
    | some l' =>
      rw [hr] at h
      simp only [Option.map_some, Option.some.injEq] at h
      subst h
      rw [strsOf_spec hr]; rfl

/-- strings.Join. -/
def joinV (args : List V) : Option V :=
  match args with
  | [.sl xs n _, .s sep] => (match strsOf xs with
    | some l => bif Nat.beq xs.length n && Nat.ble n 140737488355328 && Nat.ble (Lib.join l sep).length 140737488355328 then some (.s (Lib.join l sep)) else none
    | none => none)
  | _ => none

theorem string_of {s : ByteArray} {l : List UInt8} (h : s.data.toList = l) : s = ⟨l.toArray⟩ := by
  cases s; subst h; simp

theorem join_ok {ρ : Ren} (L : Lays.n156 P ρ) (X : Builder.Extra P ρ) {f : Func} (hf : P.funcs[ρ.f 156]? = some f) (hb0 : f.body.isSome = true) (hn : (f.name == "runtime.NumGoroutine") = false) {args : List V} {v : V} (h : joinV args = some v) :
    v.plain = true ∧ ∀ (G : Gh) (W : World) (cs : Array Value), VRs G W args cs →
      Reach P (ρ.f 156) cs W fun c W' => ∃ G', Keep G W G' W' ∧ (∀ id b, G'.obj id = some b → G.obj id = some b) ∧ G'.nt = G.nt ∧ VR G' W' v c := by
  obtain ⟨b, hb⟩ := Option.isSome_iff_exists.1 hb0
  unfold joinV at h
  split at h
  · rename_i xs n tk sep
    split at h
    · rename_i l hl
      cases hc : (Nat.beq xs.length n && Nat.ble n 140737488355328 && Nat.ble (Lib.join l sep).length 140737488355328) with
      | false => rw [hc] at h; cases h
      | true =>
        rw [hc] at h
        simp only [cond_true, Option.some.injEq] at h
        subst h
        simp only [Bool.and_eq_true] at hc
        have h1 := Nat.eq_of_beq_eq_true hc.1.1
        have h2 := Nat.le_of_ble_eq_true hc.1.2
        have h3 := Nat.le_of_ble_eq_true hc.2
        have hx := strsOf_spec hl
        refine ⟨rfl, fun G W cs hv => ?_⟩
        obtain ⟨e1, e2⟩ := hv
        have v0 := e2 0 (by simp)
        have v1 := e2 1 (by simp)
        simp only [List.getD_cons_zero, List.getD_cons_succ] at v0 v1
        have hcs : cs = #[cs.getD 0 undef, cs.getD 1 undef] := by
          apply Array.ext
          · simpa using e1.symm
          · intro i h1 h2
            have : i = 0 ∨ i = 1 := by simp at h2; omega
            rcases this with rfl | rfl <;> simp [Array.getD_eq_getD_getElem?, h1]
        rw [hcs]
        generalize cs.getD 0 undef = c0 at v0
        generalize cs.getD 1 undef = c1 at v1
        cases v1 with | s _ sp hsp =>
        have hsp := string_of hsp
        subst hsp
        cases v0 with | sl _ _ _ a cap bk o cc hn' ha hi hcell hvv ht =>
        have hll : l.length = n := by rw [hx] at h1; simpa using h1
        refine Reach.of_calls hf hb hn ?_
        by_cases h0 : n = 0
        · subst h0
          have : l = [] := List.eq_nil_of_length_eq_zero hll
          subst this
          refine (Any.strings_Join_none L X a cap ⟨sep.toArray⟩ W).mono ?_
          rintro e W' ⟨rfl, rfl⟩
          exact ⟨G, ⟨rfl, rfl, rfl, Nat.le_refl _, fun _ _ => rfl, fun _ _ => rfl, fun _ _ h => h, Nat.le_refl _, fun _ _ => ⟨rfl, rfl⟩, rfl, rfl⟩, fun _ _ h => h, rfl, .s _ _ (by simp [Lib.join])⟩
        · have hxne : xs ≠ [] := by intro e; subst e; simp at h1; omega
          have := ha hxne
          subst this
          have hbk : bk < W.heap.size := cell?_lt (hcell 0 (by omega))
          have key := Any.strings_Join L X bk o cap (l.map fun x => (⟨x.toArray⟩ : ByteArray)) ⟨sep.toArray⟩ W (fun j x hj => by
            rw [List.getElem?_map] at hj
            cases hlj : l[j]? with
            | none => rw [hlj] at hj; cases hj
            | some y =>
              rw [hlj] at hj
              simp only [Option.map_some, Option.some.injEq] at hj
              subst hj
              have hjl := (List.getElem?_eq_some_iff.1 hlj).1
              have hjx : j < xs.length := by omega
              rw [hcell j hjx]
              have hvj := hvv j hjx
              have : xs.getD j .any = .s y := by rw [hx]; simp [List.getD_eq_getElem?_getD, hlj]
              rw [this] at hvj
              generalize cc j = cj at hvj
              cases hvj with | s _ s hs => rw [string_of hs]) hbk (by simp; omega) (by simp; omega) (by simpa [Function.comp_def] using h3)
          simp only [List.length_map, hll] at key
          refine key.mono ?_
          rintro e W' ⟨rfl, bel⟩
          obtain ⟨G', k1, k2, k3⟩ := keep_below (G := G) bel
          exact ⟨G', k1, k2, k3, .s _ _ (by simp [Function.comp_def])⟩
    · cases h
  · cases h

/-- A law's function, found true by the evaluator. -/
theorem runF_calls {K : Known} {tab : FuncId → Option AFunc} {pr : Prims} {xf : FuncId → List V → Option V} (hg : Good P K tab pr) (hx : ∀ g args v, xf g args = some v → pr.rel g args v) {gl : Nat → List V} (hok : pr.ok gl) {f : Nat} {g : FuncId}
    {args : List V} {v : V} (h : runF gl tab xf f g args = some v) {W : World} {cs : Array Value} (hv : VRs (Gh.start W) W args cs)
    (hgl : ∀ g, Row1 (Gh.start W) W g (gl g)) :
    Calls P g cs W fun | .returned c, W' => Kept W W' ∧ ∃ G', VR G' W' v c | _, _ => False := by
  unfold runF at h
  split at h
  · cases h
  · rename_i fn ht
    cases hn : Nat.ble args.length fn.n with
    | false => rw [hn] at h; cases h
    | true =>
      rw [hn] at h
      simp only [cond_true] at h
      split at h
      · rename_i ex st1 hrun
        cases he : ex.ends with
        | false => rw [he] at h; cases h
        | true =>
          rw [he] at h
          simp only [cond_true] at h
          cases hl : leave fn true {} st1 with
          | none => rw [hl] at h; cases h
          | some q =>
            rw [hl] at h
            simp only [Option.map_some, Option.some.injEq] at h
            have hq : q = (v, {}) := by
              unfold leave at hl
              split at hl
              · cases hl
              · simp only [cond_true, Option.some.injEq] at hl
                rw [← hl] at h ⊢
                simp only at h
                rw [h]
            rw [hq] at hl
            exact calls_of_ev hg ht (Nat.le_of_ble_eq_true hn) (run_ev hx f (.code fn.body) _ _ _ (by rw [enter_gl]; exact hok) hrun) he hl hv hgl
      · cases h

/-- No global row is read. -/
theorem no_globals (G : Gh) (W : World) : ∀ g : Nat, Row1 G W g [] :=
  fun g => ⟨rfl, .ip [] 0 _ g 0 (fun _ => undef) (fun h => absurd rfl h) (fun j hj => by cases hj) (fun j hj => by cases hj) (fun j hj => by cases hj), trivial⟩

theorem Kept.below {W W' : World} (h : Kept W W') : RowKit.Below W.heap.size W W' := ⟨h.os, h.tape, h.out, h.sz, h.heap⟩

/-- It returns true, and writes nothing that was there. -/
theorem true_of_runF {K : Known} {tab : FuncId → Option AFunc} {pr : Prims} {xf : FuncId → List V → Option V} (hg : Good P K tab pr) (hx : ∀ g args v, xf g args = some v → pr.rel g args v) (hok : pr.ok fun _ => []) {f : Nat} {g : FuncId}
    {args : List V} (h : runF (fun _ => []) tab xf f g args = some (.b true)) {W : World} {cs : Array Value} (hv : VRs (Gh.start W) W args cs) :
    Calls P g cs W fun e W' => e = .returned (.bool true) ∧ RowKit.Below W.heap.size W W' := by
  refine (runF_calls hg hx hok h hv (no_globals _ _)).mono fun e W' he => ?_
  cases e with
  | panicked _ => exact he.elim
  | outgrown => exact he.elim
  | returned c =>
    obtain ⟨k, G', hvr⟩ := he
    cases hvr
    exact ⟨rfl, k.below⟩

end
end Ai
