/- The abstract interpreter: one operation is what the model does (addresses, memory, literals). -/
import Derived.Test.YtbhclhgljnoioaaDoorAiT
namespace Ai
open Go

section
variable {P : Program} {kl : List (Nat × List Nat)} {G : Gh} {W : World} {st : St} {A : Act}

theorem run_fieldPlace {a : Nat × Nat} {f : Field} {n : Nat} (hn : szOf P f.type = some (n + 1)) : (fieldPlace ⟨a.1, a.2, none⟩ f).run P W = .ok ⟨a.1, a.2 + f.offset, none⟩ W := by
  simp [fieldPlace, run_sizeOf' hn, add_mk]

theorem faddrOk_spec {t : TypeId} {field off : Nat} (h : faddrOk P t field off = true) :
    ∃ fields f n, P.underlying t = some (.struct fields) ∧ fields[field]? = some f ∧ f.offset = off ∧ szOf P f.type = some (n + 1) := by
  unfold faddrOk at h
  split at h
  · rename_i fields hu
    split at h
    · rename_i f hf
      simp only [Bool.and_eq_true] at h
      cases hz : szOf P f.type with
      | none => rw [hz] at h; cases h.2
      | some z =>
        cases z with
        | zero => rw [hz] at h; cases h.2
        | succ n => exact ⟨fields, f, n, hu, hf, Nat.eq_of_beq_eq_true h.1, hz⟩
    · cases h
  · cases h

theorem run_fieldAt {t : TypeId} {field off b u : Nat} (h : faddrOk P t field off = true) : (Instr.fieldAt t (.pointer (some ⟨b, u, none⟩)) field).run P W = .ok (.pointer (some ⟨b, u + off, none⟩)) W := by
  obtain ⟨fields, f, n, h1, h2, h3, h4⟩ := faddrOk_spec h
  subst h3
  simp only [Instr.fieldAt, Sem.run_bind, run_underlying' h1, Result.andThen_ok, h2, Instr.sureAddr, Sem.run_pure]
  rw [run_fieldPlace (a := (b, u)) h4]
  rfl

theorem faddr_sound (hs : StRel P kl G W st A) {o : Oper} {t : TypeId} {x : Operand} {field off : Nat} {ax : Opd} {d : Nat} (hd : o.dst = some d) (hop : o.op = .fieldAddr t x field) (ho : opdOk A.tmps.size x ax = true) (hf : faddrOk P t field off = true)
    (hr : rawOk kl d ax = true) {v : V} {st' : St} (h : step st d (.faddr off ax) = some (v, st')) : StepOK P kl G W (st'.put o.dst v) A o := by
  have hv := opd_raw hs ho
  have run : ∀ b u, A.eval x = .pointer (some ⟨b, u, none⟩) → (execOp A.eval o).run P W = .ok (.value (.pointer (some ⟨b, u + off, none⟩))) W := by
    intro b u hc
    obtain ⟨dst, op, type, pos, after, guard⟩ := o
    simp only at hop
    subst hop
    have : (execOp A.eval ⟨dst, .fieldAddr t x field, type, pos, after, guard⟩) = (do pure (Next.value (← Instr.fieldAt t (A.eval x) field))) := rfl
    rw [this, run_v, hc, run_fieldAt hf]; rfl
  simp only [step] at h
  split at h
  · rename_i y ys u heq
    simp only [Option.some.injEq, Prod.mk.injEq] at h
    obtain ⟨rfl, rfl⟩ := h
    rw [heq] at hv
    generalize hc : A.eval x = c at hv
    cases hv with | ip _ _ p b of cs ha hi hcc hvv =>
    have hp := ha (by simp)
    subst hp
    refine ⟨.value _, _, G, W, run _ _ hc, .inl rfl, Ext.refl G W, ?_⟩
    rw [hd]
    exact hs.put (.ip _ _ _ b of cs (fun _ => by rw [Nat.add_assoc]) hi hcc hvv) d (fun r o e => by cases e) (fun e => by cases e)
  · rename_i a u heq
    simp only [Option.some.injEq, Prod.mk.injEq] at h
    obtain ⟨rfl, rfl⟩ := h
    have hc := (opd_l hs ho heq).1
    refine ⟨.value _, _, G, W, run _ _ hc, .inl rfl, Ext.refl G W, ?_⟩
    rw [hd]
    exact put_raw hs ho hr (.l _ _ _) (by simp) (fun r o e => by cases e; exact ⟨rfl, _, heq⟩)
  · rename_i a u heq
    simp only [Option.some.injEq, Prod.mk.injEq] at h
    obtain ⟨rfl, rfl⟩ := h
    rw [heq] at hv
    generalize hc : A.eval x = c at hv
    cases hv with | p _ _ b hb =>
    refine ⟨.value _, _, G, W, run _ _ hc, .inl rfl, Ext.refl G W, ?_⟩
    rw [hd]
    exact hs.put (.p _ _ b hb) d (fun r o e => by cases e) (fun e => by cases e)
  · cases h

theorem run_indexAt_slice {t e : TypeId} {sz : Nat} (hu : P.underlying t = some (.slice e)) (hz : szOf P e = some sz) {k : IntKind} {j n cap b o : Nat} (hj : j < n) :
    (Instr.indexAt t (.slice (some ⟨b, o, none⟩) n cap) (.int k (j : Int))).run P W = .ok (.pointer (some ⟨b, o + j * sz, none⟩)) W := by
  have h1 : (0 : Int) ≤ (j : Int) ∧ (j : Int) < (n : Int) := ⟨by omega, by omega⟩
  simp only [Instr.indexAt, Sem.run_bind, asIntOf, Sem.run_pure, Result.andThen_ok, run_underlying' hu]
  rw [if_pos h1]
  simp [run_sizeOf' hz, add_mk]

theorem run_indexAt_arr {t e : TypeId} {m sz : Nat} (hu : P.underlying t = some (.array m e)) (hz : szOf P e = some sz) {k : IntKind} {j b o : Nat} (hj : j < m) :
    (Instr.indexAt t (.pointer (some ⟨b, o, none⟩)) (.int k (j : Int))).run P W = .ok (.pointer (some ⟨b, o + j * sz, none⟩)) W := by
  have h1 : (0 : Int) ≤ (j : Int) ∧ (j : Int) < (m : Int) := ⟨by omega, by omega⟩
  simp only [Instr.indexAt, Sem.run_bind, asIntOf, Sem.run_pure, Result.andThen_ok, run_underlying' hu, Instr.sureAddr]
  rw [if_pos h1]
  simp [run_sizeOf' hz, add_mk]

theorem iaddr_sound (hs : StRel P kl G W st A) {o : Oper} {t : TypeId} {x i : Operand} {ik : IK} {ax ai : Opd} {d : Nat} (hd : o.dst = some d) (hop : o.op = .indexAddr t x i) (ho : opdOk A.tmps.size x ax = true) (hoi : opdOk A.tmps.size i ai = true)
    (hk : ikOk P t ik = true) (hr : rawOk kl d ax = true) {v : V} {st' : St} (h : step st d (.iaddr ik ax ai) = some (v, st')) : StepOK P kl G W (st'.put o.dst v) A o := by
  have hv := opd_raw hs ho
  have hi := opd_ev hs hoi
  have run : ∀ c, (Instr.indexAt t (A.eval x) (A.eval i)).run P W = .ok c W → (execOp A.eval o).run P W = .ok (.value c) W := by
    intro c hc
    obtain ⟨dst, op, type, pos, after, guard⟩ := o
    simp only at hop
    subst hop
    have : (execOp A.eval ⟨dst, .indexAddr t x i, type, pos, after, guard⟩) = (do pure (Next.value (← Instr.indexAt t (A.eval x) (A.eval i)))) := rfl
    rw [this, run_v, hc]; rfl
  simp only [step] at h
  split at h
  · -- a slice that is never written
    rename_i j sz xs n tk hj heq
    cases hb : (Nat.blt j n && Nat.ble ((j + 1) * sz) xs.length) with
    | false => rw [hb] at h; cases h
    | true =>
      rw [hb] at h
      simp only [cond_true, Option.some.injEq, Prod.mk.injEq] at h
      obtain ⟨rfl, rfl⟩ := h
      simp only [Bool.and_eq_true] at hb
      have h1 := blt_lt hb.1
      have h2 := Nat.le_of_ble_eq_true hb.2
      obtain ⟨k, hci⟩ := natOf_sound hj hi
      simp only [ikOk] at hk
      split at hk
      · rename_i e hu
        simp only [Bool.and_eq_true, decide_eq_true_eq] at hk
        have hz := blt_lt hk.2
        rw [heq] at hv
        generalize hc : A.eval x = c at hv
        cases hv with | sl _ _ _ ad cap b of cs hn ha hii hcc hvv ht =>
        have hne : xs ≠ [] := by
          intro e; subst e
          simp only [List.length_nil, Nat.add_mul, Nat.one_mul] at h2
          omega
        have hp := ha hne
        subst hp
        refine ⟨.value _, _, G, W, run _ (by rw [hc, hci]; exact run_indexAt_slice hu hk.1 h1), .inl rfl, Ext.refl G W, ?_⟩
        rw [hd]
        exact hs.put (.ip _ _ _ b of cs (fun _ => rfl) hii hcc hvv) d (fun r o e => by cases e) (fun e => by cases e)
      · cases hk
  · -- a slice of the shared memory
    rename_i j sz id off n sz' hj heq
    cases hb : (Nat.blt j n && Nat.beq sz sz') with
    | false => rw [hb] at h; cases h
    | true =>
      rw [hb] at h
      simp only [cond_true, Option.some.injEq, Prod.mk.injEq] at h
      obtain ⟨rfl, rfl⟩ := h
      simp only [Bool.and_eq_true] at hb
      have h1 := blt_lt hb.1
      obtain ⟨k, hci⟩ := natOf_sound hj hi
      simp only [ikOk] at hk
      split at hk
      · rename_i e hu
        simp only [Bool.and_eq_true, decide_eq_true_eq] at hk
        rw [heq] at hv
        generalize hc : A.eval x = c at hv
        cases hv with | hs _ _ _ _ b cap ad hob hn ha =>
        have hp := ha (by omega)
        subst hp
        refine ⟨.value _, _, G, W, run _ (by rw [hc, hci]; exact run_indexAt_slice hu hk.1 h1), .inl rfl, Ext.refl G W, ?_⟩
        rw [hd]
        exact hs.put (.p _ _ b hob) d (fun r o e => by cases e) (fun e => by cases e)
      · cases hk
  · -- an array that is never written
    rename_i j len sz y ys u hj heq
    cases hb : Nat.blt j len with
    | false => rw [hb] at h; cases h
    | true =>
      rw [hb] at h
      simp only [cond_true, Option.some.injEq, Prod.mk.injEq] at h
      obtain ⟨rfl, rfl⟩ := h
      have h1 := blt_lt hb
      obtain ⟨k, hci⟩ := natOf_sound hj hi
      simp only [ikOk] at hk
      split at hk
      · rename_i m e hu
        simp only [Bool.and_eq_true, decide_eq_true_eq] at hk
        have := Nat.eq_of_beq_eq_true hk.1.1
        subst this
        rw [heq] at hv
        generalize hc : A.eval x = c at hv
        cases hv with | ip _ _ p b of cs ha hii hcc hvv =>
        have hp := ha (by simp)
        subst hp
        refine ⟨.value _, _, G, W, run _ (by rw [hc, hci]; exact run_indexAt_arr hu hk.1.2 h1), .inl rfl, Ext.refl G W, ?_⟩
        rw [hd]
        exact hs.put (.ip _ _ _ b of cs (fun _ => by rw [Nat.add_assoc]) hii hcc hvv) d (fun r o e => by cases e) (fun e => by cases e)
      · cases hk
  · -- an array of the frame
    rename_i j len sz a u hj heq
    cases hb : Nat.blt j len with
    | false => rw [hb] at h; cases h
    | true =>
      rw [hb] at h
      simp only [cond_true, Option.some.injEq, Prod.mk.injEq] at h
      obtain ⟨rfl, rfl⟩ := h
      have h1 := blt_lt hb
      obtain ⟨k, hci⟩ := natOf_sound hj hi
      simp only [ikOk] at hk
      split at hk
      · rename_i m e hu
        simp only [Bool.and_eq_true, decide_eq_true_eq] at hk
        have := Nat.eq_of_beq_eq_true hk.1.1
        subst this
        have hc := (opd_l hs ho heq).1
        refine ⟨.value _, _, G, W, run _ (by rw [hc, hci]; exact run_indexAt_arr hu hk.1.2 h1), .inl rfl, Ext.refl G W, ?_⟩
        rw [hd]
        exact put_raw hs ho hr (.l _ _ _) (by simp) (fun r o e => by cases e; exact ⟨rfl, _, heq⟩)
      · cases hk
  · -- an array of the shared memory
    rename_i j len sz a u hj heq
    cases hb : Nat.blt j len with
    | false => rw [hb] at h; cases h
    | true =>
      rw [hb] at h
      simp only [cond_true, Option.some.injEq, Prod.mk.injEq] at h
      obtain ⟨rfl, rfl⟩ := h
      have h1 := blt_lt hb
      obtain ⟨k, hci⟩ := natOf_sound hj hi
      simp only [ikOk] at hk
      split at hk
      · rename_i m e hu
        simp only [Bool.and_eq_true, decide_eq_true_eq] at hk
        have := Nat.eq_of_beq_eq_true hk.1.1
        subst this
        rw [heq] at hv
        generalize hc : A.eval x = c at hv
        cases hv with | p _ _ b hob =>
        refine ⟨.value _, _, G, W, run _ (by rw [hc, hci]; exact run_indexAt_arr hu hk.1.2 h1), .inl rfl, Ext.refl G W, ?_⟩
        rw [hd]
        exact hs.put (.p _ _ b hob) d (fun r o e => by cases e) (fun e => by cases e)
      · cases hk
  · cases h

theorem memOk_spec {t : TypeId} {agg : Bool} {n : Nat} (h : memOk P t agg n = true) : aggOf P t = some agg ∧ szOf P t = some n ∧ (agg = false → n = 1) ∧ 0 < n := by
  simp only [memOk, Bool.and_eq_true, decide_eq_true_eq, Bool.or_eq_true] at h
  obtain ⟨⟨⟨h1, h2⟩, h3⟩, h4⟩ := h
  refine ⟨h1, h2, fun e => ?_, blt_lt h4⟩
  rcases h3 with h | h
  · rw [e] at h; cases h
  · exact Nat.eq_of_beq_eq_true h

theorem load_sound (hs : StRel P kl G W st A) {x : Operand} {ax : Opd} {t : TypeId} {agg : Bool} {n : Nat} (ho : opdOk A.tmps.size x ax = true) (hm : memOk P t agg n = true) {d : Nat} {v : V} {st' : St}
    (h : step st d (.load agg n ax) = some (v, st')) : Post P kl G W st' A v ((Instr.loadAt t (A.eval x)).run P W) ∧ v.plain = true := by
  obtain ⟨h1, h2, h3, h4⟩ := memOk_spec hm
  simp only [step] at h
  split at h
  · rename_i xs hrd
    obtain ⟨b, o, cs, e1, e2, e3, e4⟩ := rd_sound hs ho h4 hrd
    have hrun : (Instr.loadAt t (A.eval x)).run P W = .ok (if agg then .agg (stretch cs 0 n).toArray else cs 0) W := by
      rw [e1]
      simp only [Instr.loadAt, Instr.sureAddr, Sem.run_bind, Sem.run_pure, Result.andThen_ok]
      exact run_loadVar' h1 h2 h3 cs e2
    cases agg with
    | true =>
      simp only [cond_true, Option.some.injEq, Prod.mk.injEq] at h
      obtain ⟨rfl, rfl⟩ := h
      refine ⟨Post.here hs hrun ?_, rfl⟩
      refine .agg xs _ (by simp [stretch_length, e3]) (fun j hj => ?_)
      have e : (stretch cs 0 n).toArray.getD j undef = cs j := by
        have := stretch_getD cs n 0 j (by omega)
        simp only [Nat.zero_add] at this
        rw [← this]
        simp [Array.getD_eq_getD_getElem?, List.getD_eq_getElem?_getD]
      rw [e]; exact e4 j (by omega)
    | false =>
      simp only [cond_false] at h
      split at h
      · rename_i u
        simp only [Option.some.injEq, Prod.mk.injEq] at h
        obtain ⟨rfl, rfl⟩ := h
        have := e4 0 h4
        simp only [List.getD_cons_zero] at this
        exact ⟨Post.here hs hrun this.val, val_plain u⟩
      · cases h
  · cases h

theorem store_sound (hs : StRel P kl G W st A) {x y : Operand} {ax ay : Opd} {t : TypeId} {n : Nat} (ho : opdOk A.tmps.size x ax = true) (hoy : opdOk A.tmps.size y ay = true) (hsz : szOf P t = some n) {d : Nat} {v : V} {st' : St}
    (h : step st d (.store n ax ay) = some (v, st')) : v = .any ∧ ∃ W', (Instr.storeAt t (A.eval x) (A.eval y)).run P W = .ok () W' ∧ Ext G W G W' ∧ StRel P kl G W' st' A := by
  simp only [step] at h
  split at h
  · rename_i xs hcs
    cases hb : (Nat.beq xs.length n && allOne xs) with
    | false => rw [hb] at h; cases h
    | true =>
      rw [hb] at h
      simp only [cond_true] at h
      simp only [Bool.and_eq_true] at hb
      have hl := Nat.eq_of_beq_eq_true hb.1
      cases hw : st.wrt (st.raw ax) xs with
      | none => rw [hw] at h; cases h
      | some st1 =>
        rw [hw] at h
        simp only [Option.map_some, Option.some.injEq, Prod.mk.injEq] at h
        obtain ⟨rfl, rfl⟩ := h
        have hvs := cells_sound hcs (opd_ev hs hoy)
        obtain ⟨b, o, W', e1, e2, e3, e4⟩ := wrt_sound (P := P) hs ho hw hvs (allOne_sound hb.2)
        refine ⟨rfl, W', ?_, e3, e4⟩
        rw [e1]
        simp only [Instr.storeAt, Instr.sureAddr, Sem.run_bind, Sem.run_pure, Result.andThen_ok, storeVar, run_sizeOf' hsz]
        have hsize : (A.eval y).cells.size = n := by rw [← hvs.1]; exact hl
        rw [if_neg (by rw [hsize]; simp)]
        exact e2
  · cases h

end
end Ai
