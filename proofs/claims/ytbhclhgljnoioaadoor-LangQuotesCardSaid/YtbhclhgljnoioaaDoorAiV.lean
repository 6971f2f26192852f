/- The abstract interpreter: one operation is what the model does (literals, comparisons, the rest). -/
import Derived.Test.YtbhclhgljnoioaaDoorAiU
namespace Ai
open Go

section
variable {P : Program} {K : Known} {kl : List (Nat × List Nat)} {G : Gh} {W : World} {st : St} {A : Act}

theorem opds_sound (hs : StRel P kl G W st A) : ∀ {xs : List Operand} {axs : List Opd}, opdsOk A.tmps.size xs axs = true → VRs G W (evL st axs) (xs.map A.eval).toArray
  | [], [], _ => ⟨rfl, fun j hj => by cases hj⟩
  | x :: r, ax :: s, h => by
    simp only [opdsOk, Bool.and_eq_true] at h
    obtain ⟨h1, h2⟩ := opds_sound hs h.2
    refine ⟨by simp [evL]; simpa using h1, fun j hj => ?_⟩
    cases j with
    | zero =>
      have := opd_ev hs h.1
      simpa [evL] using this
    | succ j =>
      have := h2 j (by simp only [evL, List.length_cons] at hj; omega)
      simpa [evL, Array.getD_eq_getD_getElem?] using this
  | [], _ :: _, h => by cases h
  | _ :: _, [], h => by cases h

theorem opds_array (hs : StRel P kl G W st A) {xs : Array Operand} {axs : List Opd} (h : opdsOk A.tmps.size xs.toList axs = true) : VRs G W (evL st axs) (xs.map A.eval) := by
  have := opds_sound hs h
  have e : (xs.toList.map A.eval).toArray = xs.map A.eval := by apply Array.ext'; rw [Array.toList_map]
  rwa [e] at this

theorem opt_sound (hs : StRel P kl G W st A) {x : Option Operand} {ax : Option Opd} (h : optOk A.tmps.size x ax = true) : OR G W (evO st ax) (x.map A.eval) := by
  cases x <;> cases ax <;> simp only [optOk, Bool.false_eq_true] at h
  · exact .none
  · exact .some (opd_ev hs h)

theorem parts_rel (hs : StRel P kl G W st A) {place : Nat → Option (Nat × Nat)} : ∀ {xs : List (Nat × Operand)} {ps : List (Nat × Nat × Opd)}, partsOk A.tmps.size place xs ps = true →
    PartsRel G W place (evP st ps) (xs.map fun x => (x.1, A.eval x.2))
  | [], [], _ => .nil
  | (i, x) :: r, (off, k, ax) :: s, h => by
    simp only [partsOk, Bool.and_eq_true, decide_eq_true_eq] at h
    exact .cons h.1.1 (opd_ev hs h.1.2) (parts_rel hs h.2)
  | [], _ :: _, h => by cases h
  | _ :: _, [], h => by cases h

theorem bparts_rel (hs : StRel P kl G W st A) (sz : Nat) : ∀ {xs : List (Nat × Operand)} {ps : List (Nat × Opd)}, bpartsOk A.tmps.size xs ps = true →
    PartsRel G W (fun i => some (i * sz, sz)) (evB st sz ps) (xs.map fun x => (x.1, A.eval x.2))
  | [], [], _ => .nil
  | (i, x) :: r, (j, ax) :: s, h => by
    simp only [bpartsOk, Bool.and_eq_true] at h
    have := Nat.eq_of_beq_eq_true h.1.1
    subst this
    exact .cons rfl (opd_ev hs h.1.2) (bparts_rel hs sz h.2)
  | [], _ :: _, h => by cases h
  | _ :: _, [], h => by cases h

theorem run_mapM_places : ∀ {fs : List Field} {l : List (Nat × Nat)}, placesOf P fs = some l → (fs.mapM (m := Sem) fun f => do pure (f.offset, ← Go.sizeOf f.type)).run P W = .ok l W
  | [], l, h => by simp only [placesOf, Option.some.injEq] at h; subst h; simp
  | f :: r, l, h => by
    simp only [placesOf] at h
    split at h
    · rename_i n l' hn hl
      simp only [Option.some.injEq] at h
      subst h
      simp only [List.mapM_cons, Sem.run_bind, run_sizeOf' hn, Result.andThen_ok, Sem.run_pure, run_mapM_places hl]
    · cases h

theorem build_sound (hs : StRel P kl G W st A) {t : TypeId} {parts : Array (Nat × Operand)} {z cs : List V} {ps : List (Nat × Nat × Opd)} (hk : buildOk P A.tmps.size t parts.toList z ps = true) (h : fill z (evP st ps) = some cs) :
    Post P kl G W st A (.agg cs) ((Instr.build t (parts.map fun (i, x) => (i, A.eval x))).run P W) := by
  simp only [buildOk, Bool.and_eq_true] at hk
  obtain ⟨k1, k2⟩ := hk
  split at k1
  · rename_i i hi
    split at k1
    · rename_i zv hz
      obtain ⟨g1, g2⟩ := csOk_sound G W z zv.cells.toList k1
      have hzr : VRs G W z zv.cells := ⟨by simpa using g1, fun j hj => by simpa [Array.getD_eq_getD_getElem?, List.getD_eq_getElem?_getD] using g2 j hj⟩
      have hzv : (zeroValue t).run P W = .ok zv W := by simp [zeroValue, run_typeInfo' hi, hz]
      have hpl : ((parts.map fun (x : Nat × Operand) => (x.1, A.eval x.2)).toList) = parts.toList.map fun x => (x.1, A.eval x.2) := by simp
      split at k2
      · rename_i fields hu
        split at k2
        · rename_i l hl
          obtain ⟨b, e1, e2, _⟩ := fill_sound (parts_rel hs k2) h hzr
          refine Post.here hs (c := .agg b) ?_ e2.agg
          have hm := run_mapM_places (P := P) (W := W) hl
          have hma : (fields.mapM (m := Sem) fun f => do pure (f.offset, ← Go.sizeOf f.type)).run P W = .ok l.toArray W := by
            rw [← Array.toList_mapM] at hm
            simp only [Sem.run_map] at hm
            generalize (fields.mapM (m := Sem) fun f => do pure (f.offset, ← Go.sizeOf f.type)).run P W = r at *
            cases r with
            | ok a w =>
              simp only [Result.andThen_ok, Result.ok.injEq] at hm
              rw [hm.2, ← hm.1]
            | halt x w => simp at hm
          simp only [Instr.build, Sem.run_bind, hzv, Result.andThen_ok, run_underlying' hu, hma]
          have e3 : Instr.fill (fun i => l.toArray[i]?) zv.cells (parts.map fun (x : Nat × Operand) => (x.1, A.eval x.2)).toList = some b := by
            rw [hpl]; simpa using e1
          rw [e3]; rfl
        · cases k2
      · rename_i n e hu
        split at k2
        · rename_i s hs'
          obtain ⟨b, e1, e2, _⟩ := fill_sound (parts_rel hs k2) h hzr
          refine Post.here hs (c := .agg b) ?_ e2.agg
          simp only [Instr.build, Sem.run_bind, hzv, Result.andThen_ok, run_underlying' hu, run_sizeOf' hs']
          have e3 : Instr.fill (fun i => some (i * s, s)) zv.cells (parts.map fun (x : Nat × Operand) => (x.1, A.eval x.2)).toList = some b := by
            rw [hpl]; exact e1
          rw [e3]; rfl
        · cases k2
      · cases k2
    · cases k1
  · cases k1

/-- A composite slice: its row. -/
theorem bslice_run (hs : StRel P kl G W st A) {t ty : TypeId} {sz len : Nat} {parts : Array (Nat × Operand)} {z cs : List V} {ps : List (Nat × Opd)} (hu : P.underlying t = some (.slice ty)) (hz : zOk P ty z sz = true)
    (hlen : len * sz ≤ 16777216) (hp : bpartsOk A.tmps.size parts.toList ps = true) (h : fill (zeros z len) (evB st sz ps) = some cs) :
    ∃ a : Array Value, (Instr.buildSlice t len (parts.map fun (i, x) => (i, A.eval x))).run P W = .ok (.slice (some ⟨W.heap.size, 0, none⟩) len len) (W.alloc (.cells a ty)) ∧ VRs G W cs a ∧ cs.length = len * sz := by
  obtain ⟨i, v, hi, h1, h2, h3, h4, h5, h6, h7, h8⟩ := zOk_spec hz
  have hzr := zeros_rel (h6 G W) (by omega) len
  rw [h5] at hzr
  obtain ⟨b, e1, e2, e3⟩ := fill_sound (bparts_rel hs sz hp) h hzr
  have hzl : z.length = sz := by rw [(h6 G W).1, h5]
  refine ⟨b, ?_, e2, by rw [e3, zeros_length, hzl]⟩
  have hpl : ((parts.map fun (x : Nat × Operand) => (x.1, A.eval x.2)).toList) = parts.toList.map fun x => (x.1, A.eval x.2) := by simp
  have hzv : ∀ w : World, (zeroValue ty).run P w = .ok v w := fun w => by simp [zeroValue, run_typeInfo' hi, h4]
  have h224 : ¬ (len * sz > 2 ^ 24) := by
    have : (2 : Nat) ^ 24 = 16777216 := by decide
    omega
  simp only [Instr.buildSlice, Sem.run_bind, run_underlying' hu, Result.andThen_ok, run_sizeOf' h7]
  rw [if_neg h224]
  by_cases hl0 : len * sz = 0
  · have hlen0 : len = 0 := by
      rcases Nat.eq_zero_or_pos len with h | h
      · exact h
      · have := Nat.mul_pos h h2; omega
    subst hlen0
    have hr0 : Array.range 0 = #[] := rfl
    rw [Nat.zero_mul] at *
    simp only [hr0, Array.map_empty] at e1 ⊢
    simp only [if_true, Sem.run_bind, Sem.run_pure, Result.andThen_ok]
    have e4 : Instr.fill (fun i => some (i * sz, sz)) #[] (parts.map fun (x : Nat × Operand) => (x.1, A.eval x.2)).toList = some b := by rw [hpl]; exact e1
    rw [e4]; rfl
  · rw [if_neg hl0]
    simp only [Sem.run_bind, hzv, Result.andThen_ok, Sem.run_pure, h5]
    have e4 : Instr.fill (fun i => some (i * sz, sz)) ((Array.range (len * sz)).map (v.cells[· % sz]!)) (parts.map fun (x : Nat × Operand) => (x.1, A.eval x.2)).toList = some b := by rw [hpl]; exact e1
    rw [e4]; rfl

theorem fldOk_spec {t : TypeId} {field : Nat} {agg : Bool} {off n : Nat} (h : fldOk P t field agg off n = true) :
    ∃ fields f, P.underlying t = some (.struct fields) ∧ fields[field]? = some f ∧ f.offset = off ∧ szOf P f.type = some n ∧ aggOf P f.type = some agg ∧ (agg = false → n = 1) := by
  unfold fldOk at h
  split at h
  · rename_i fields hu
    split at h
    · rename_i f hf
      simp only [Bool.and_eq_true, decide_eq_true_eq, Bool.or_eq_true] at h
      obtain ⟨⟨⟨h1, h2⟩, h3⟩, h4⟩ := h
      refine ⟨fields, f, hu, hf, Nat.eq_of_beq_eq_true h1, h2, h3, fun e => ?_⟩
      rcases h4 with h | h
      · rw [e] at h; cases h
      · exact Nat.eq_of_beq_eq_true h
    · cases h
  · cases h

theorem fld_sound {t : TypeId} {field : Nat} {agg : Bool} {off n : Nat} {xs : List V} {c : Value} {v : V} (hk : fldOk P t field agg off n = true) (hx : VR G W (.agg xs) c) (h : part? xs off n agg = some v) :
    ∃ u, (Instr.field t c field).run P W = .ok u W ∧ VR G W v u ∧ v.plain = true := by
  obtain ⟨fields, f, h1, h2, h3, h4, h5, h6⟩ := fldOk_spec hk
  subst h3
  cases hx with | agg _ a g1 g2 =>
  obtain ⟨u, e1, e2, e3⟩ := part_sound h5 h4 h6 h ⟨g1, g2⟩
  refine ⟨u, ?_, e2, e3⟩
  simp [Instr.field, run_underlying' h1, h2, asAgg, e1]

theorem idx_sound (hs : StRel P kl G W st A) {t : TypeId} {xk : XK} {x i : V} {cx ci : Value} {v : V} (hk : xkOk P t xk = true) (hx : VR G W x cx) (hi : VR G W i ci)
    (h : idxV xk x i = some v) : Post P kl G W st A v ((Instr.index t cx ci).run P W) ∧ v.plain = true := by
  unfold idxV at h
  cases hj : natOf i with
  | none => rw [hj] at h; cases h
  | some j =>
  rw [hj] at h
  simp only at h
  obtain ⟨k, rfl⟩ := natOf_sound hj hi
  cases xk with
  | str =>
    cases x with
    | s l =>
      simp only at h
      cases hb : l[j]? with
      | none => rw [hb] at h; cases h
      | some b =>
        rw [hb] at h
        simp only [Option.some.injEq] at h
        subst h
        have hu := isStr_spec (by simpa [xkOk] using hk)
        cases hx with | s _ s hl =>
        subst hl
        have hbs : s[j]? = some b := by
          rw [Array.getElem?_toList] at hb
          exact hb
        refine ⟨Post.here hs (c := .int .u8 b.toNat) ?_ (.i _ _), rfl⟩
        simp only [Instr.index, Sem.run_bind, asIntOf, Sem.run_pure, Result.andThen_ok, run_underlying' hu]
        have h0 : (0 : Int) ≤ (j : Int) := by omega
        rw [if_pos h0]
        simp [hbs]
    | _ => cases h
  | arr len sz agg =>
    cases x with
    | agg cs =>
      simp only at h
      cases hb : Nat.blt j len with
      | false => rw [hb] at h; cases h
      | true =>
        rw [hb] at h
        simp only [cond_true] at h
        have hjl := blt_lt hb
        simp only [xkOk] at hk
        split at hk
        · rename_i m e hu
          simp only [Bool.and_eq_true, decide_eq_true_eq, Bool.or_eq_true] at hk
          obtain ⟨⟨⟨k1, k2⟩, k3⟩, k4⟩ := hk
          have := Nat.eq_of_beq_eq_true k1
          subst this
          cases hx with | agg _ a g1 g2 =>
          obtain ⟨c, e1, e2, e3⟩ := part_sound k3 k2 (fun e => by
            rcases k4 with h | h
            · rw [e] at h; cases h
            · exact Nat.eq_of_beq_eq_true h) h ⟨g1, g2⟩
          refine ⟨Post.here hs (c := c) ?_ e2, e3⟩
          have h1 : (0 : Int) ≤ (j : Int) ∧ (j : Int) < (m : Int) := ⟨by omega, by omega⟩
          simp only [Instr.index, Sem.run_bind, asIntOf, Sem.run_pure, Result.andThen_ok, run_underlying' hu]
          rw [if_pos h1]
          simp [run_sizeOf' k2, e1]
        · cases hk
    | _ => cases h

end
end Ai
