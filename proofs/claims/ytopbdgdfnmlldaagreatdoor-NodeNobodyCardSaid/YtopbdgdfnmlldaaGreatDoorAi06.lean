/- The abstract interpreter: each operation that is no call of a function is what the model does: the theorem. -/
import Derived.Test.YtopbdgdfnmlldaaGreatDoorAi05
namespace Ai
open Go

section
variable {P : Program} {K : Known} {kl : List (Nat × List Nat)} {G : Gh} {W : World} {st : St} {A : Act}

theorem lOk_spec {d : Nat} {ks : List Nat} (h : lOk kl d ks = true) : al kl d = some ks ∧ d ∈ ks := by
  unfold lOk at h
  split at h
  · rename_i ks' hk
    simp only [Bool.and_eq_true, decide_eq_true_eq] at h
    obtain ⟨h1, h2⟩ := h
    subst h1
    exact ⟨hk, by simpa using h2⟩
  · cases h

theorem cells_all {v : Value} : v.cells = v.cells := rfl

theorem tas_sound (hs : StRel P kl G W st A) {asserted xt : TypeId} {conc ok : Bool} {oks bads : List TypeId} {z x v : V} {cx : Value} (hk : tasOk P asserted conc oks bads z ok = true) (hx : VR G W x cx)
    (h : tasV conc oks bads z ok x = some v) : Post P kl G W st A v ((Instr.typeAssert cx xt asserted ok).run P W) ∧ v.plain = true := by
  simp only [tasOk, Bool.and_eq_true] at hk
  obtain ⟨k1, k2⟩ := hk
  split at k1
  · rename_i i hi
    split at k1
    · rename_i zv hz
      have hzv : (zeroValue asserted).run P W = .ok zv W := by simp [zeroValue, run_typeInfo' hi, hz]
      have hzr : ok = true → VR G W z zv := fun e => by
        rw [e] at k1
        exact cOk_sound G W z zv (by simpa using k1)
      have htup : ∀ {p q : V} {c d : Value}, VR G W p c → VR G W q d → VR G W (.tup [p, q]) (.tuple #[c, d]) := fun hp hq =>
        .tup _ _ rfl (fun j hj => by
          match j, hj with
          | 0, _ => exact hp
          | 1, _ => exact hq)
      split at k2
      · -- an interface
        rename_i want hu
        simp only [Bool.and_eq_true, Bool.not_eq_true', List.all_eq_true] at k2
        obtain ⟨⟨c1, c2⟩, c3⟩ := k2
        subst c1
        cases x with
        | nili =>
          cases hx
          cases ok with
          | false => cases h
          | true =>
            simp only [tasV, cond_true, Option.some.injEq] at h
            subst h
            refine ⟨Post.here hs (c := .tuple #[zv, .bool false]) ?_ (htup (hzr rfl) (.b false)), rfl⟩
            simp [Instr.typeAssert, run_underlying' hu, hzv]
        | ifc t u =>
          cases hx with | ifc _ _ c hc =>
          simp only [tasV] at h
          cases hot : oks.contains t with
          | true =>
            rw [hot] at h
            simp only [cond_true, cond_false] at h
            have := c2 t (by simpa using hot)
            split at this
            · rename_i it hit
              have hmm := of_decide_eq_true this
              cases ok with
              | true =>
                simp only [cond_true, Option.some.injEq] at h
                subst h
                refine ⟨Post.here hs (c := .tuple #[.iface t c, .bool true]) ?_ (htup (.ifc t u c hc) (.b true)), rfl⟩
                simp [Instr.typeAssert, run_underlying' hu, run_typeInfo' hit, hmm]
              | false =>
                simp only [cond_false, Option.some.injEq] at h
                subst h
                refine ⟨Post.here hs (c := .iface t c) ?_ (.ifc t u c hc), rfl⟩
                simp [Instr.typeAssert, run_underlying' hu, run_typeInfo' hit, hmm]
            · cases this
          | false =>
            rw [hot] at h
            simp only [cond_false] at h
            cases hok : ok with
            | false => rw [hok] at h; cases h
            | true =>
              cases hbt : bads.contains t with
              | false => rw [hok, hbt] at h; cases h
              | true =>
                rw [hok, hbt] at h
                simp only [Bool.and_self, cond_true, Option.some.injEq] at h
                subst h
                have := c3 t (by simpa using hbt)
                split at this
                · rename_i it hit
                  obtain ⟨m, hmm⟩ := lacks_some this
                  refine ⟨Post.here hs (c := .tuple #[zv, .bool false]) ?_ (htup (hzr hok) (.b false)), rfl⟩
                  simp [Instr.typeAssert, run_underlying' hu, run_typeInfo' hit, hmm, hzv]
                · cases this
        | _ => cases h
      · -- a type
        rename_i d hd hu
        simp only [Bool.and_eq_true, List.all_eq_true] at k2
        obtain ⟨⟨c1, c2⟩, c3⟩ := k2
        subst c1
        have hint : ∀ ms, d ≠ .interface ms := fun ms e => hd ms e
        cases x with
        | nili =>
          cases hx
          cases ok with
          | false => cases h
          | true =>
            simp only [tasV, cond_true, Option.some.injEq] at h
            subst h
            refine ⟨Post.here hs (c := .tuple #[zv, .bool false]) ?_ (htup (hzr rfl) (.b false)), rfl⟩
            cases d <;> first | (exact absurd rfl (hint _)) | simp [Instr.typeAssert, run_underlying' hu, hzv]
        | ifc t u =>
          cases hx with | ifc _ _ c hc =>
          simp only [tasV] at h
          cases hot : oks.contains t with
          | true =>
            rw [hot] at h
            simp only [cond_true] at h
            have := Nat.eq_of_beq_eq_true (c2 t (by simpa using hot))
            subst this
            cases ok with
            | true =>
              simp only [cond_true, Option.some.injEq] at h
              subst h
              refine ⟨Post.here hs (c := .tuple #[c, .bool true]) ?_ (htup hc.val (.b true)), rfl⟩
              cases d <;> first | (exact absurd rfl (hint _)) | simp [Instr.typeAssert, run_underlying' hu]
            | false =>
              simp only [cond_false, Option.some.injEq] at h
              subst h
              refine ⟨Post.here hs (c := c) ?_ hc.val, val_plain u⟩
              cases d <;> first | (exact absurd rfl (hint _)) | simp [Instr.typeAssert, run_underlying' hu]
          | false =>
            rw [hot] at h
            simp only [cond_false] at h
            cases hok : ok with
            | false => rw [hok] at h; cases h
            | true =>
              cases hbt : bads.contains t with
              | false => rw [hok, hbt] at h; cases h
              | true =>
                rw [hok, hbt] at h
                simp only [Bool.and_self, cond_true, Option.some.injEq] at h
                subst h
                have hne : t ≠ asserted := fun e => by
                  have := c3 t (by simpa using hbt)
                  rw [e] at this
                  simp at this
                refine ⟨Post.here hs (c := .tuple #[zv, .bool false]) ?_ (htup (hzr hok) (.b false)), rfl⟩
                cases d <;> first | (exact absurd rfl (hint _)) | simp [Instr.typeAssert, run_underlying' hu, hne, hzv]
        | _ => cases h
      · cases k2
    · cases k1
  · cases k1

theorem step_sound (hK : K.OK P) (hs : StRel P kl G W st A) (o : Oper) {op : Op} {a : AOp} (hop : o.op = op) (hk : opChk P K A.tmps.size kl o.dst op a = true) {v : V} {st' : St}
    (h : step st (o.dst.getD 0) a = some (v, st')) : StepOK P kl G W (st'.put o.dst v) A o := by
  -- a small program that yields a value
  have fin : ∀ (s : Sem Value), execOp A.eval o = (do pure (Next.value (← s))) → Post P kl G W st' A v (s.run P W) ∧ v.plain = true → StepOK P kl G W (st'.put o.dst v) A o :=
    fun s he hp => step_of_post hp.1 hp.2 (by rw [he, run_v])
  have ex : ∀ x : Op, o.op = x → execOp A.eval o = execOp A.eval { o with op := x } := fun x hx => by rw [← hx]
  unfold opChk at hk
  split at hk
  · -- move
    rename_i x ax
    simp only [Bool.and_eq_true] at hk
    obtain ⟨d, hd, hr⟩ := dst_some hk.2
    rw [hd] at h
    exact mov_sound hs hd hk.1 hr h (by rw [ex _ hop]; rfl)
  · -- assign
    rename_i x ax
    simp only [Bool.and_eq_true] at hk
    obtain ⟨d, hd, hr⟩ := dst_some hk.2
    rw [hd] at h
    exact mov_sound hs hd hk.1 hr h (by rw [ex _ hop]; rfl)
  · -- a nil slice to be appended to
    rename_i ty
    simp only [step, H.tok, Option.some.injEq, Prod.mk.injEq] at h
    obtain ⟨rfl, rfl⟩ := h
    obtain ⟨G', e1, e2, e3⟩ := movnil_sound hs ty
    refine ⟨.value _, .slice none 0 0, G', W, by rw [ex _ hop]; rfl, .inl rfl, e1, ?_⟩
    exact e2.put' e3 o.dst (by simp) (by simp)
  · -- pick
    rename_i c x y ac ax ay
    simp only [Bool.and_eq_true] at hk
    have hc := opd_ev hs hk.1.1
    simp only [step] at h
    split at h
    · rename_i b heq
      simp only [Option.some.injEq, Prod.mk.injEq] at h
      obtain ⟨rfl, rfl⟩ := h
      rw [heq] at hc
      generalize hcc : A.eval c = cc at hc
      cases hc
      cases b with
      | true =>
        refine step_here hs (opd_ev hs hk.1.2) (val_plain _) ?_
        rw [ex _ hop]
        show ((do pure (Next.value (if ← asBool (A.eval c) then A.eval x else A.eval y))) : Sem Next).run P W = _
        rw [hcc]; rfl
      | false =>
        refine step_here hs (opd_ev hs hk.2) (val_plain _) ?_
        rw [ex _ hop]
        show ((do pure (Next.value (if ← asBool (A.eval c) then A.eval x else A.eval y))) : Sem Next).run P W = _
        rw [hcc]; rfl
    · cases h
  · -- alloc
    rename_i e ty cs
    simp only [Bool.and_eq_true] at hk
    have := Nat.eq_of_beq_eq_true hk.1
    subst this
    obtain ⟨i, zv, hi, h1, h2, h3, h4, h5, h6, h7, h8⟩ := zOk_spec hk.2
    simp only [step, Option.some.injEq, Prod.mk.injEq] at h
    obtain ⟨rfl, rfl⟩ := h
    obtain ⟨G', e1, e2, e3⟩ := new_obj hs (ty := e) (h6 G W)
    refine fin (Instr.alloc e true (.tuple #[])) (by rw [ex _ hop]; rfl) ⟨⟨.pointer (some ⟨W.heap.size, 0, none⟩), G', _, ?_, e1, e2, .p _ _ _ e3⟩, rfl⟩
    simp only [Instr.alloc, Sem.run_bind, zeroValue, run_typeInfo' hi, Result.andThen_ok, h4, Sem.run_pure, run_newVar]
  · -- a variable of the frame
    rename_i e cs ks
    simp only [Bool.and_eq_true] at hk
    obtain ⟨d, hd, hl⟩ := dst_some hk.2
    obtain ⟨l1, l2⟩ := lOk_spec hl
    obtain ⟨i, zv, hi, h1, h2, h3, h4, h5, h6, h7, h8⟩ := zOk_spec hk.1
    rw [hd] at h
    simp only [step, Option.getD_some, Option.some.injEq, Prod.mk.injEq] at h
    obtain ⟨rfl, rfl⟩ := h
    obtain ⟨G', e1, e2⟩ := new_loc hs (ty := e) (h6 G W) l1 l2
    refine ⟨.value _, .pointer (some ⟨W.heap.size, 0, none⟩), G', W.alloc (.cells zv.cells e), ?_, .inl rfl, e1, by rw [hd]; exact e2⟩
    rw [ex _ hop]
    show ((do pure (Next.value (← Instr.alloc e true (.tuple #[])))) : Sem Next).run P W = _
    rw [run_v]
    simp only [Instr.alloc, Sem.run_bind, zeroValue, run_typeInfo' hi, Result.andThen_ok, h4, Sem.run_pure, run_newVar]
  · -- box
    rename_i e x ty ax
    simp only [Bool.and_eq_true] at hk
    have := Nat.eq_of_beq_eq_true hk.1
    subst this
    simp only [step] at h
    split at h
    · rename_i cs hcs
      simp only [Option.some.injEq, Prod.mk.injEq] at h
      obtain ⟨rfl, rfl⟩ := h
      obtain ⟨G', e1, e2, e3⟩ := new_obj hs (ty := e) (cells_sound hcs (opd_ev hs hk.2))
      refine fin (Instr.box e (A.eval x)) (by rw [ex _ hop]; rfl) ⟨⟨.pointer (some ⟨W.heap.size, 0, none⟩), G', _, ?_, e1, e2, .p _ _ _ e3⟩, rfl⟩
      simp only [Instr.box, Sem.run_bind, run_newVar, Result.andThen_ok, Sem.run_pure]
    · cases h
  · -- box: a variable of the frame
    rename_i e x ax ks
    simp only [Bool.and_eq_true] at hk
    obtain ⟨d, hd, hl⟩ := dst_some hk.2
    obtain ⟨l1, l2⟩ := lOk_spec hl
    rw [hd] at h
    simp only [step, Option.getD_some] at h
    split at h
    · rename_i cs hcs
      simp only [Option.some.injEq, Prod.mk.injEq] at h
      obtain ⟨rfl, rfl⟩ := h
      obtain ⟨G', e1, e2⟩ := new_loc hs (ty := e) (cells_sound hcs (opd_ev hs hk.1)) l1 l2
      refine ⟨.value _, .pointer (some ⟨W.heap.size, 0, none⟩), G', W.alloc (.cells (A.eval x).cells e), ?_, .inl rfl, e1, by rw [hd]; exact e2⟩
      rw [ex _ hop]
      show ((do pure (Next.value (← Instr.box e (A.eval x)))) : Sem Next).run P W = _
      rw [run_v]
      simp only [Instr.box, Sem.run_bind, run_newVar, Result.andThen_ok, Sem.run_pure]
    · cases h
  · -- a composite
    rename_i t parts z ps
    simp only [step] at h
    split at h
    · rename_i cs hf
      simp only [Option.some.injEq, Prod.mk.injEq] at h
      obtain ⟨rfl, rfl⟩ := h
      exact fin _ (by rw [ex _ hop]; rfl) ⟨build_sound hs hk hf, rfl⟩
    · cases h
  · -- a composite slice
    rename_i t len parts mt ty sz len' z ps
    simp only [Bool.and_eq_true] at hk
    obtain ⟨⟨⟨⟨k1, k2⟩, k3⟩, k4⟩, k5⟩ := hk
    have := Nat.eq_of_beq_eq_true k3
    subst this
    split at k1
    · rename_i e hu
      have := Nat.eq_of_beq_eq_true k1
      subst this
      simp only [step] at h
      split at h
      · rename_i cs hf
        obtain ⟨a, r1, r2, r3⟩ := bslice_run hs hu k2 (Nat.le_of_ble_eq_true k4) k5 hf
        cases mt with
        | true =>
          simp only [cond_true, Option.some.injEq, Prod.mk.injEq] at h
          obtain ⟨rfl, rfl⟩ := h
          obtain ⟨G', e1, e2, e3⟩ := new_obj hs (ty := e) r2
          exact fin _ (by rw [ex _ hop]; rfl) ⟨⟨_, G', _, r1, e1, e2, .hs _ _ _ _ _ _ _ e3 (Nat.le_refl _) (fun _ => rfl) ⟨0, rfl⟩ (by rw [bsz_cells (alloc_at W _), Nat.zero_add]; exact Nat.le_of_eq (r3.symm.trans r2.1))⟩, rfl⟩
        | false =>
          simp only [cond_false, Option.some.injEq, Prod.mk.injEq] at h
          obtain ⟨rfl, rfl⟩ := h
          have kp := Keep.alloc G W (.cells a e) (.ro cs.length)
          refine fin _ (by rw [ex _ hop]; rfl) ⟨⟨_, _, _, r1, kp.ext, hs.keep kp (fun _ _ h => h) rfl, ?_⟩, rfl⟩
          exact VR.newRo e (0, 0) (by rw [r2.1]; exact Nat.le_refl _) (Nat.le_refl _) r2.2 .full (.ro cs.length) (.inl rfl) _ kp.ext (own_at _ _ _) rfl
      · cases h
    · cases k1
  · -- load
    rename_i t x agg k ax
    simp only [Bool.and_eq_true] at hk
    exact fin _ (by rw [ex _ hop]; rfl) (load_sound hs hk.1 hk.2 h)
  · -- store
    rename_i t x y k ax ay
    simp only [Bool.and_eq_true, decide_eq_true_eq] at hk
    obtain ⟨rfl, W', r1, r2, r3⟩ := store_sound hs hk.1.1 hk.1.2 hk.2 h
    refine ⟨.skip, undef, G, W', ?_, .inr ⟨rfl, rfl⟩, r2, r3.put' (.any _) o.dst (by simp) (by simp)⟩
    rw [ex _ hop]
    show ((do Instr.storeAt t (A.eval x) (A.eval y); pure Next.skip) : Sem Next).run P W = _
    rw [run_u, r1]; rfl
  · -- nil check
    rename_i x ax
    simp only [Bool.and_eq_true] at hk
    obtain ⟨d, hd, hr⟩ := dst_some hk.2
    rw [hd] at h
    exact nilck_sound hs hd hop hk.1 hr h
  · -- ==
    rename_i t x y yt et ax ay
    simp only [Bool.and_eq_true] at hk
    simp only [step] at h
    cases he : eqV et (st.ev ax) (st.ev ay) with
    | none => rw [he] at h; cases h
    | some r =>
      rw [he] at h
      simp only [Option.map_some, Option.some.injEq, Prod.mk.injEq] at h
      obtain ⟨rfl, rfl⟩ := h
      refine fin _ (by rw [ex _ hop]; rfl) ⟨Post.here hs ?_ (.b _), rfl⟩
      exact run_eq (neg := false) hk.2 he (opd_ev hs hk.1.1) (opd_ev hs hk.1.2)
  · -- !=
    rename_i t x y yt et ax ay
    simp only [Bool.and_eq_true] at hk
    simp only [step] at h
    cases he : eqV et (st.ev ax) (st.ev ay) with
    | none => rw [he] at h; cases h
    | some r =>
      rw [he] at h
      simp only [Option.map_some, Option.some.injEq, Prod.mk.injEq] at h
      obtain ⟨rfl, rfl⟩ := h
      refine fin _ (by rw [ex _ hop]; rfl) ⟨Post.here hs ?_ (.b _), rfl⟩
      exact run_eq (neg := true) hk.2 he (opd_ev hs hk.1.1) (opd_ev hs hk.1.2)
  · -- another operation of two values
    rename_i op t x y yt op' ax ay
    simp only [Bool.and_eq_true, decide_eq_true_eq] at hk
    obtain ⟨⟨k1, k2⟩, k3⟩ := hk
    subst k1
    simp only [step] at h
    cases he : bin op (st.ev ax) (st.ev ay) with
    | none => rw [he] at h; cases h
    | some r =>
      rw [he] at h
      simp only [Option.map_some, Option.some.injEq, Prod.mk.injEq] at h
      obtain ⟨rfl, rfl⟩ := h
      obtain ⟨c, e1, e2, e3⟩ := bin_sound (P := P) he (opd_ev hs k2) (opd_ev hs k3) t
      refine fin (do eqGuard op t x y (A.eval x) (A.eval y); binOp op t (A.eval x) (A.eval y)) (by rw [ex _ hop]; rfl) ⟨Post.here hs ?_ e2, e3⟩
      rw [Sem.run_bind, eqGuard_bin he (opd_ev hs k2) (opd_ev hs k3)]
      exact e1
  · -- an operation of one value
    rename_i op t x op' ax
    simp only [Bool.and_eq_true, decide_eq_true_eq] at hk
    obtain ⟨k1, k2⟩ := hk
    subst k1
    simp only [step] at h
    cases he : un op (st.ev ax) with
    | none => rw [he] at h; cases h
    | some r =>
      rw [he] at h
      simp only [Option.map_some, Option.some.injEq, Prod.mk.injEq] at h
      obtain ⟨rfl, rfl⟩ := h
      obtain ⟨c, e1, e2, e3⟩ := un_sound (P := P) he (opd_ev hs k2)
      exact fin _ (by rw [ex _ hop]; rfl) ⟨Post.here hs e1 e2, e3⟩
  · -- a conversion
    rename_i src dst' x c ax
    simp only [Bool.and_eq_true] at hk
    simp only [step] at h
    cases he : convV st c (st.ev ax) with
    | none => rw [he] at h; cases h
    | some r =>
      rw [he] at h
      simp only [Option.map_some, Option.some.injEq, Prod.mk.injEq] at h
      obtain ⟨rfl, rfl⟩ := h
      exact fin _ (by rw [ex _ hop]; rfl) (conv_sound hs hk.2 he (opd_ev hs hk.1))
  · -- an interface value
    rename_i t x t' ax
    simp only [Bool.and_eq_true] at hk
    obtain ⟨⟨k1, k2⟩, k3⟩ := hk
    have := Nat.eq_of_beq_eq_true k1
    subst this
    simp only [step, Option.some.injEq, Prod.mk.injEq] at h
    obtain ⟨rfl, rfl⟩ := h
    refine fin _ (by rw [ex _ hop]; rfl) ⟨Post.here hs (c := .iface t (A.eval x)) ?_ (.ifc _ _ _ (opd_ev hs k2)), rfl⟩
    split at k3
    · cases k3
    · rename_i d hd hu
      simp only [Instr.makeInterface, Sem.run_bind, run_underlying' hu, Result.andThen_ok]
      cases d <;> first | rfl | (exact absurd hu (hd _))
    · cases k3
  · -- a function value
    rename_i f first cap f' af ac
    simp only [Bool.and_eq_true] at hk
    obtain ⟨⟨k1, k2⟩, k3⟩ := hk
    have := Nat.eq_of_beq_eq_true k1
    subst this
    simp only [step, Option.some.injEq, Prod.mk.injEq] at h
    obtain ⟨rfl, rfl⟩ := h
    obtain ⟨a1, a2⟩ := opds_array hs k2
    obtain ⟨b1, b2⟩ := opds_array hs k3
    exact fin _ (by rw [ex _ hop]; rfl) ⟨Post.here hs (c := .func (.func f) (first.map A.eval) (cap.map A.eval)) rfl (.fn f _ _ _ _ a1 a2 b1 b2), rfl⟩
  · -- a slice expression
    rename_i t x lo hi mx k ax alo ahi amx
    simp only [Bool.and_eq_true, Bool.or_eq_true] at hk
    obtain ⟨⟨⟨⟨⟨k1, k2⟩, k3⟩, k4⟩, k5⟩, k6⟩ := hk
    simp only [step] at h
    cases hok : okArr st k (st.ev ax) with
    | false => rw [hok] at h; cases h
    | true =>
    rw [hok] at h
    simp only [cond_true] at h
    cases he : slcV k (st.ev ax) (evO st alo) (evO st ahi) (evO st amx) with
    | none => rw [he] at h; cases h
    | some r =>
      rw [he] at h
      simp only [Option.map_some, Option.some.injEq, Prod.mk.injEq] at h
      obtain ⟨rfl, rfl⟩ := h
      have o1 := opt_sound hs k3
      have o2 := opt_sound hs k4
      have o3 := opt_sound hs k5
      refine fin _ (by rw [ex _ hop]; rfl) (slc_sound hs k2 hok he (opd_ev hs k1) o1 o2 o3 (fun hne => ?_))
      rcases k6 with k6 | k6
      · exfalso
        cases mx with
        | none => cases amx with
          | none => exact hne rfl
          | some u => simp [optOk] at k5
        | some u => simp at k6
      · intro e
        cases hi with
        | none => simp at k6
        | some u =>
          cases ahi with
          | none => simp [optOk] at k4
          | some w => simp [evO] at e
  · -- a field's address
    rename_i t x f off ax
    simp only [Bool.and_eq_true] at hk
    obtain ⟨d, hd, hr⟩ := dst_some hk.2
    rw [hd] at h
    exact faddr_sound hs hd hop hk.1.1 hk.1.2 hr h
  · -- a field
    rename_i t x f agg off k ax
    simp only [Bool.and_eq_true] at hk
    have hx := opd_ev hs hk.1
    simp only [step] at h
    split at h
    · rename_i cs heq
      cases hp : part? cs off k agg with
      | none => rw [hp] at h; cases h
      | some u =>
        rw [hp] at h
        simp only [Option.map_some, Option.some.injEq, Prod.mk.injEq] at h
        obtain ⟨rfl, rfl⟩ := h
        rw [heq] at hx
        obtain ⟨c, e1, e2, e3⟩ := fld_sound hk.2 hx hp
        exact fin _ (by rw [ex _ hop]; rfl) ⟨Post.here hs e1 e2, e3⟩
    · cases h
  · -- an element's address
    rename_i t x i k ax ai
    simp only [Bool.and_eq_true] at hk
    obtain ⟨d, hd, hr⟩ := dst_some hk.2
    rw [hd] at h
    exact iaddr_sound hs hd hop hk.1.1.1 hk.1.1.2 hk.1.2 hr h
  · -- an element
    rename_i t x i k ax ai
    simp only [Bool.and_eq_true] at hk
    simp only [step] at h
    cases he : idxV k (st.ev ax) (st.ev ai) with
    | none => rw [he] at h; cases h
    | some r =>
      rw [he] at h
      simp only [Option.map_some, Option.some.injEq, Prod.mk.injEq] at h
      obtain ⟨rfl, rfl⟩ := h
      exact fin _ (by rw [ex _ hop]; rfl) (idx_sound hs hk.2 (opd_ev hs hk.1.1) (opd_ev hs hk.1.2) he)
  · -- make
    rename_i t l c mt ty sz z al' ac
    simp only [Bool.and_eq_true] at hk
    obtain ⟨⟨⟨k1, k2⟩, k3⟩, k4⟩ := hk
    split at k1
    · rename_i e hu
      have := Nat.eq_of_beq_eq_true k1
      subst this
      obtain ⟨i, zv, hi, h1, h2, h3, h4, h5, h6, h7, h8⟩ := zOk_spec k2
      simp only [step] at h
      split at h
      · rename_i n m hn hm
        cases hb : (Nat.ble n m && Nat.ble m most) with
        | false => rw [hb] at h; cases h
        | true =>
          rw [hb] at h
          simp only [cond_true] at h
          simp only [Bool.and_eq_true] at hb
          have b1 := Nat.le_of_ble_eq_true hb.1
          have b2 : m ≤ 134217728 := Nat.le_of_ble_eq_true hb.2
          obtain ⟨kn, hcn⟩ := natOf_sound hn (opd_ev hs k3)
          obtain ⟨km, hcm⟩ := natOf_sound hm (opd_ev hs k4)
          have hrun := makeSlice_run (P := P) (W := W) (k := kn) (k' := km) hu hi h1 h4 h5 h2 h3 b1 b2
          rw [← hcn, ← hcm] at hrun
          have hzr := zeros_rel (h6 G W) (by omega) m
          cases mt with
          | true =>
            simp only [cond_true, Option.some.injEq, Prod.mk.injEq] at h
            obtain ⟨rfl, rfl⟩ := h
            obtain ⟨G', e1, e2, e3⟩ := new_obj hs (ty := e) hzr
            exact fin _ (by rw [ex _ hop]; rfl) ⟨⟨_, G', _, hrun, e1, e2, .hs _ _ _ _ _ _ _ e3 b1 (fun _ => rfl) ⟨0, rfl⟩ (by rw [bsz_cells (alloc_at W _), Nat.zero_add]; simp [h5])⟩, rfl⟩
          | false =>
            simp only [cond_false, Option.some.injEq, Prod.mk.injEq] at h
            obtain ⟨rfl, rfl⟩ := h
            have hzl : z.length = sz := by rw [(h6 G W).1, h5]
            have hmul : n * sz ≤ m * sz := Nat.mul_le_mul_right _ b1
            obtain ⟨G', e1, e2, e3⟩ := new_row (P := P) (kl := kl) (t := st.h.nt) (n := n) (cap := m) (ty := e) (c := (Array.range (m * zv.cells.size)).map (zv.cells[· % zv.cells.size]!)) (xs := zeros z n) hs h8 b1
              (fun j hj => by
                rw [zeros_length, hzl] at hj
                have := hzr.2 j (by rw [zeros_length, hzl]; omega)
                rw [zeros_getD _ _ _ (by rw [hzl]; omega)] at this
                rw [zeros_getD _ _ _ (by rw [hzl]; omega)]
                exact this)
              (by rw [zeros_length, hzl]) (by simp [h5]) (fun n' ty' hg => by have := (hs.mem.tips _ _ _ hg).1; omega) (.inr rfl) W (⟨rfl, rfl, rfl, Nat.le_refl _, fun _ _ => rfl, fun _ _ => rfl, fun _ _ h => h, Nat.le_refl _, fun _ _ => ⟨rfl, rfl⟩, rfl, rfl⟩) rfl
              (st.h.tok n e).2 rfl rfl (by simp [H.tok]) (fun u x hg => by
                simp only [H.tok, al] at hg
                cases hb : Nat.beq st.h.nt u with
                | true =>
                  rw [hb] at hg
                  simp only [cond_true, Option.some.injEq] at hg
                  exact .inl ⟨(Nat.eq_of_beq_eq_true hb).symm, hg.symm⟩
                | false =>
                  rw [hb] at hg
                  exact .inr ⟨fun e => by subst e; simp at hb, hg⟩)
            exact fin _ (by rw [ex _ hop]; rfl) ⟨⟨_, G', _, hrun, e1, e2, e3⟩, rfl⟩
      · cases h
    · cases k1
  · -- range
    rename_i t x ax
    simp only [Bool.and_eq_true] at hk
    have hu := isStr_spec hk.1.2
    have hx := opd_ev hs hk.1.1
    cases hd : o.dst with
    | none => rw [hd] at hk; simp at hk
    | some d =>
      rw [hd] at h
      simp only [step, Option.getD_some] at h
      split at h
      · rename_i l heq
        simp only [Option.some.injEq, Prod.mk.injEq] at h
        obtain ⟨rfl, rfl⟩ := h
        rw [heq] at hx
        generalize hc : A.eval x = c at hx
        cases hx with | s _ s hl =>
        subst hl
        obtain ⟨G', e1, e2⟩ := new_it hs s d
        refine ⟨.value _, .pointer (some ⟨W.heap.size, 0, none⟩), G', W.alloc (.stringIter s 0), ?_, .inl rfl, e1, by rw [hd]; exact e2⟩
        rw [ex _ hop]
        show ((do pure (Next.value (← Instr.range t (A.eval x)))) : Sem Next).run P W = _
        rw [run_v, hc, run_range_string W t s hu]; rfl
      · cases h
  · -- next
    rename_i s s'
    simp only [Bool.and_eq_true] at hk
    have := Nat.eq_of_beq_eq_true hk.1
    subst this
    have hsl := blt_lt hk.2
    simp only [step] at h
    split at h
    · rename_i l pos hT hi
      obtain ⟨n1, n2⟩ := next_sound (P := P) hs hsl hT hi o.type
      split at h
      · simp only [Option.some.injEq, Prod.mk.injEq] at h
        obtain ⟨rfl, rfl⟩ := h
        refine step_here hs (v := .tup [.b false]) (c := .tuple #[.bool false]) (.tup _ _ rfl (fun j hj => by
          match j, hj with
          | 0, _ => exact .b false)) rfl ?_
        rw [ex _ hop]
        show ((do pure (Next.value (← Instr.next (A.eval (.tmp s)) true o.type))) : Sem Next).run P W = _
        rw [run_v, n1 rfl]; rfl
      · rename_i y ys
        simp only [Option.some.injEq, Prod.mk.injEq] at h
        obtain ⟨rfl, rfl⟩ := h
        obtain ⟨W', r1, r2, r3⟩ := n2 (by simp)
        refine step_of_post (v := .tup [.b true, .i .i64 pos, .i .i32 (dec (y :: ys)).1]) ⟨_, G, W', rfl, r2, r3, .tup _ #[.bool true, .int .i64 pos, .int .i32 (dec (y :: ys)).1] rfl (fun j hj => by
          match j, hj with
          | 0, _ => exact .b true
          | 1, _ => exact .i _ _
          | 2, _ => exact .i _ _)⟩ rfl ?_
        rw [ex _ hop]
        show ((do pure (Next.value (← Instr.next (A.eval (.tmp s)) true o.type))) : Sem Next).run P W = _
        rw [run_v, r1]
    · cases h
  · -- a type assertion
    rename_i x xt asserted ok conc oks bads z ok' ax
    simp only [Bool.and_eq_true, beq_iff_eq] at hk
    obtain ⟨⟨k1, k2⟩, k3⟩ := hk
    subst k2
    simp only [step] at h
    cases he : tasV conc oks bads z ok (st.ev ax) with
    | none => rw [he] at h; cases h
    | some r =>
      rw [he] at h
      simp only [Option.map_some, Option.some.injEq, Prod.mk.injEq] at h
      obtain ⟨rfl, rfl⟩ := h
      exact fin _ (by rw [ex _ hop]; rfl) (tas_sound hs k3 (opd_ev hs k1) he)
  · -- a new map
    simp only [step, Option.some.injEq, Prod.mk.injEq] at h
    obtain ⟨rfl, rfl⟩ := h
    rename_i t
    obtain ⟨G', e1, e2, e3⟩ := new_map hs
    refine fin (Instr.makeMap t none) (by rw [ex _ hop]; rfl) ⟨⟨.map (some W.heap.size), G', _, ?_, e1, e2, .m _ _ e3⟩, rfl⟩
    simp [Instr.makeMap]
  · -- a look-up
    rename_i t x i ok kt ok' z ax ai
    simp only [Bool.and_eq_true, beq_iff_eq] at hk
    obtain ⟨⟨⟨⟨k1, k2⟩, k3⟩, k4⟩, k5⟩ := hk
    subst k3
    obtain ⟨rfl, hp, c, r1, r2⟩ := mget_sound hs k4 k5 (opd_ev hs k1) (opd_ev hs k2) h
    exact fin _ (by rw [ex _ hop]; rfl) ⟨Post.here hs r1 r2, hp⟩
  · -- an entry
    rename_i t m k x kt am ak ax
    simp only [Bool.and_eq_true] at hk
    obtain ⟨⟨⟨k1, k2⟩, k3⟩, k4⟩ := hk
    obtain ⟨rfl, W', r1, r2, r3⟩ := mput_sound hs k4 (opd_ev hs k1) (opd_ev hs k2) (opd_ev hs k3) h
    refine ⟨.skip, undef, G, W', ?_, .inr ⟨rfl, rfl⟩, r2, r3.put' (.any _) o.dst (by simp) (by simp)⟩
    rw [ex _ hop]
    show ((do Instr.mapUpdate t (A.eval m) (A.eval k) (A.eval x); pure Next.skip) : Sem Next).run P W = _
    rw [run_u, r1]; rfl
  · -- an entry of a literal
    rename_i t m k x kt am ak ax
    simp only [Bool.and_eq_true] at hk
    obtain ⟨⟨⟨k1, k2⟩, k3⟩, k4⟩ := hk
    obtain ⟨rfl, W', r1, r2, r3⟩ := mput_sound hs k4 (opd_ev hs k1) (opd_ev hs k2) (opd_ev hs k3) h
    refine ⟨.skip, undef, G, W', ?_, .inr ⟨rfl, rfl⟩, r2, r3.put' (.any _) o.dst (by simp) (by simp)⟩
    rw [ex _ hop]
    show ((do Instr.mapUpdate t (A.eval m) (A.eval k) (A.eval x); pure Next.skip) : Sem Next).run P W = _
    rw [run_u, r1]; rfl
  · -- a part of a tuple
    rename_i x i ax j
    simp only [Bool.and_eq_true] at hk
    have := Nat.eq_of_beq_eq_true hk.2
    subst this
    have hx := opd_ev hs hk.1
    simp only [step] at h
    split at h
    · rename_i vs heq
      cases hg : vs[i]? with
      | none => rw [hg] at h; cases h
      | some u =>
        rw [hg] at h
        simp only [Option.map_some, Option.some.injEq, Prod.mk.injEq] at h
        obtain ⟨rfl, rfl⟩ := h
        rw [heq] at hx
        generalize hc : A.eval x = c at hx
        cases hx with | tup _ a g1 g2 =>
        have hlt : i < vs.length := (List.getElem?_eq_some_iff.1 hg).1
        have hr := g2 i hlt
        have hgd : vs.getD i .any = u := by simp [List.getD_eq_getElem?_getD, hg]
        rw [hgd] at hr
        refine step_here hs hr.val (val_plain u) ?_
        rw [ex _ hop]
        show ((do pure (Next.value (← Instr.extract (A.eval x) i))) : Sem Next).run P W = _
        rw [run_v, hc]
        have : a[i]? = some (a.getD i undef) := by
          rw [Array.getElem?_eq_getElem (by omega)]
          simp [Array.getD_eq_getD_getElem?, show i < a.size by omega]
        simp only [Instr.extract]
        rw [this]; rfl
    · cases h
  · -- a built-in function
    rename_i b args ts
    exact builtin_sound hs hop hk h
  · -- a function that hands back its argument
    rename_i f args ts g ax
    simp only [Bool.and_eq_true] at hk
    obtain ⟨⟨k1, k2⟩, k3⟩ := hk
    split at k3
    · rename_i x hargs
      have hx := opd_ev hs k3
      have hmap := array_one hargs A.eval
      simp only [step] at h
      split at h
      · rename_i a u heq
        simp only [Option.some.injEq, Prod.mk.injEq] at h
        obtain ⟨rfl, rfl⟩ := h
        rw [heq] at hx
        refine step_here hs hx rfl ?_
        rw [ex _ hop]
        show ((do let d ← resolve A.eval { callee := .value (.func f), args := args, argTypes := ts } o.type; invoke d.target d.args) : Sem Next).run P W = _
        have e1 : A.eval (.func f) = .func (.func f) #[] #[] := rfl
        have this := hK f k2 (A.eval x) W
        simp only [resolve, Deferred.ofValue, e1, Sem.run_bind, Sem.run_pure, Result.andThen_ok, invoke, hmap]
        simpa using this
      · cases h
    · cases k3
  · cases hk

end
end Ai
