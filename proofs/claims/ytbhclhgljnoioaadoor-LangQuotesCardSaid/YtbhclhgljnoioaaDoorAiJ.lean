/- The abstract interpreter: writing. -/
import Derived.Test.YtbhclhgljnoioaaDoorAiI
namespace Ai
open Go

/-- A block that is the frame's or the shared memory's: it may be written. -/
def BK.mine : BK → Bool
  | .obj _ => true
  | .loc _ => true
  | .it _ => true
  | _ => false

section
variable {P : Program} {kl : List (Nat × List Nat)} {G : Gh} {W : World} {st : St} {A : Act}

theorem row_tape {b : Nat} {c : Array Value} {e : TypeId} {fz : Nat × Nat} : (World.row W b c e fz).tape = W.tape := rfl

/-- A world that differs in one block. -/
structure Turn (W : World) (b : Nat) (W' : World) : Prop where
  tape : W'.tape = W.tape
  os : W'.os = W.os
  out : W'.output = W.output
  sz : W'.heap.size = W.heap.size
  other : ∀ k, k ≠ b → W'.heap[k]? = W.heap[k]?

theorem Turn.row (b : Nat) (c : Array Value) (e : TypeId) (fz : Nat × Nat) : Turn W b (World.row W b c e fz) :=
  ⟨rfl, rfl, rfl, row_size, fun _ h => row_other h⟩

theorem Turn.set (b : Nat) (o : Go.Obj) : Turn W b { W with heap := W.heap.setIfInBounds b o } :=
  ⟨rfl, rfl, rfl, by simp, fun k h => by simp [Ne.symm h]⟩

theorem Turn.ext {b : Nat} {W' : World} (t : Turn W b W') (h : (G.own b).mine = true) : Ext G W G W' where
  tape := t.tape
  os := t.os
  out := t.out
  sz := by rw [t.sz]; exact Nat.le_refl _
  e1 := fun k _ ho => ⟨t.other k (fun e => by subst e; rw [ho] at h; cases h), ho⟩
  ro := fun k f ho _ => ⟨t.other k (fun e => by subst e; rw [ho] at h; cases h), ho⟩
  row := fun k tk f ho _ => ⟨fun o _ => cell?_congr (t.other k (fun e => by subst e; rw [ho] at h; cases h)), f, Nat.le_refl _, .inl ho⟩
  obj := fun _ _ h => h
  nt := Nat.le_refl _
  tip := fun _ _ => ⟨Nat.le_refl _, fun _ => rfl⟩

/-- Cells are written: what the row says then. -/
theorem CellsRel.write {b o : Nat} {ty : TypeId} {cs xs : List V} {a : Array Value} (h : CellsRel G W b ty cs) (hx : VRs G W xs a) (hl : o + xs.length ≤ cs.length) (h1 : ∀ v ∈ xs, v.one = true)
    (hm : (G.own b).mine = true) :
    ∃ W', (storeCells ⟨b, o, none⟩ a.toList).run P W = .ok () W' ∧ Turn W b W' ∧ CellsRel G W' b ty (splice cs o xs) := by
  obtain ⟨c, h2, h3, h4⟩ := h.ex
  have hal : a.toList.length = xs.length := by rw [hx.1]; simp
  have hone : ∀ v ∈ a.toList, one? v = true := by
    intro v hv
    obtain ⟨j, hj, rfl⟩ := List.getElem_of_mem hv
    have hj' : j < a.size := by simpa using hj
    have h5 := hx.2 j (by rw [hx.1]; exact hj')
    have h6 := one_sound (h1 _ (getD_mem (by rw [hx.1]; exact hj'))) h5
    simpa [Array.getD_eq_getD_getElem?, hj'] using h6
  have hr := run_storeCells' (P := P) o a.toList 0 W c h2 (by omega) (fun j _ _ hf => by simp at hf) hone
  simp only [Nat.add_zero] at hr
  have tn : Turn W b (World.row W b (setAll c o a.toList) ty (0, 0)) := Turn.row b _ ty (0, 0)
  refine ⟨_, hr, tn, ⟨setAll c o a.toList, row_heap (heap_lt h2), by rw [setAll_size, splice_length hl]; exact h3, fun j hj => ?_⟩⟩
  rw [splice_length hl] at hj
  rw [splice_getD hl, setAll_getD _ _ _ _ (by omega), hal]
  split
  · have := (hx.2 (j - o) (by omega)).mono (tn.ext hm)
    have e : a.toList.getD (j - o) undef = a.getD (j - o) undef := by
      simp [List.getD_eq_getElem?_getD, Array.getD_eq_getD_getElem?]
    rw [e]; exact this
  · exact (h4 j hj).mono (tn.ext hm)

theorem TipRel.turn {W' : World} {b : Nat} (tn : Turn W b W') (hm : (G.own b).mine = true) {sz : TypeId → Nat} {t n : Nat} {ty : TypeId} (h : TipRel G W sz t n ty) : TipRel G W' sz t n ty :=
  h.of rfl (fun _ _ => rfl) (fun k f ho _ => tn.other k (fun e => by subst e; rw [ho] at hm; cases hm))

theorem HRel.turn {W' : World} {b : Nat} (tn : Turn W b W') (hm : (G.own b).mine = true) (hb : ∀ id, G.own b ≠ .obj id) {h : H} (hr : HRel P G W h) : HRel P G W' h where
  objs := fun id o hg => by
    obtain ⟨k, h1, h2, h3⟩ := hr.objs id o hg
    exact ⟨k, h1, h2, h3.of_heap (tn.ext hm) (tn.other k (fun e => by subst e; exact hb id h2))⟩
  next := hr.next
  nt := hr.nt
  tips := fun t n ty hg => by
    obtain ⟨h1, h2, h3⟩ := hr.tips t n ty hg
    exact ⟨h1, h2, h3.turn tn hm⟩

/-- An object of the shared memory is written. -/
theorem StRel.setObj {W' : World} {b id : Nat} {o : Obj} (tn : Turn W b W') (ho : G.own b = .obj id) (hi : G.obj id = some b) (hs : StRel P kl G W st A) (hr : ObjRel G W' b o) :
    StRel P kl G W' { st with h := st.h.setObj id o } A := by
  have hm : (G.own b).mine = true := by rw [ho]; rfl
  have e := tn.ext hm
  exact {
    T := fun i hi => (hs.T i hi).mono e
    L := hs.L
    I := hs.I
    loc := fun d cs hg => by
      obtain ⟨h1, ty, h2⟩ := hs.loc d cs hg
      exact ⟨h1, ty, h2.of_heap e (tn.other _ (fun e => by rw [e, ho] at h1; cases h1))⟩
    its := fun d l p hg => by
      obtain ⟨h1, s, h2, h3⟩ := hs.its d l p hg
      exact ⟨h1, s, (tn.other _ (fun e => by rw [e, ho] at h1; cases h1)).trans h2, h3⟩
    mem := {
      objs := fun id' o' hg => by
        simp only [H.setObj] at hg
        rw [al_set] at hg
        split at hg
        · rename_i hid
          subst hid
          cases hg
          exact ⟨b, hi, ho, hr⟩
        · rename_i hid
          obtain ⟨k, h1, h2, h3⟩ := hs.mem.objs id' o' hg
          exact ⟨k, h1, h2, h3.of_heap e (tn.other k (fun e => by subst e; rw [ho] at h2; cases h2; exact hid rfl))⟩
      next := hs.mem.next
      nt := hs.mem.nt
      tips := fun t n ty hg => by
        obtain ⟨h1, h2, h3⟩ := hs.mem.tips t n ty hg
        exact ⟨h1, h2, h3.turn tn hm⟩ }
    gl := fun g => ⟨(hs.gl g).1, (hs.gl g).2.mono e⟩ }

/-- A variable of the frame is written. -/
theorem StRel.setLoc {W' : World} {d : Nat} {ty : TypeId} {cs : List V} (tn : Turn W (G.lb d) W') (ho : G.own (G.lb d) = .loc d) (hs : StRel P kl G W st A) (hr : CellsRel G W' (G.lb d) ty cs) :
    StRel P kl G W' { st with loc := alSet st.loc d cs } A := by
  have hm : (G.own (G.lb d)).mine = true := by rw [ho]; rfl
  have e := tn.ext hm
  exact {
    T := fun i hi => (hs.T i hi).mono e
    L := hs.L
    I := hs.I
    loc := fun d' cs' hg => by
      rw [al_set] at hg
      split at hg
      · rename_i hd
        subst hd
        cases hg
        exact ⟨ho, ty, hr⟩
      · rename_i hd
        obtain ⟨h1, ty', h2⟩ := hs.loc d' cs' hg
        exact ⟨h1, ty', h2.of_heap e (tn.other _ (fun e => by rw [e, ho] at h1; cases h1; exact hd rfl))⟩
    its := fun d l p hg => by
      obtain ⟨h1, s, h2, h3⟩ := hs.its d l p hg
      exact ⟨h1, s, (tn.other _ (fun e => by rw [e, ho] at h1; cases h1)).trans h2, h3⟩
    mem := hs.mem.turn tn hm (fun id e => by rw [ho] at e; cases e)
    gl := fun g => ⟨(hs.gl g).1, (hs.gl g).2.mono e⟩ }

/-- Memory is read. -/
theorem rd_sound (hs : StRel P kl G W st A) {x : Operand} {ax : Opd} (ho : opdOk A.tmps.size x ax = true) {n : Nat} {xs : List V} (hn : 0 < n) (h : st.rd (st.raw ax) n = some xs) :
    ∃ (b o : Nat) (cs : Nat → Value), A.eval x = .pointer (some ⟨b, o, none⟩) ∧ (∀ j, j < n → W.cell? ⟨b, o + j, none⟩ = some (cs j)) ∧ xs.length = n ∧ ∀ j, j < n → VR G W (xs.getD j .any) (cs j) := by
  have hv := opd_raw hs ho
  unfold St.rd at h
  split at h
  · rename_i ys q heq
    obtain ⟨h1, h2, h3, h4⟩ := sub?_spec h
    have h5 := h4 hn
    rw [heq] at hv
    generalize A.eval x = c at hv
    cases hv with | ip _ _ p b o cs ha hi hc hv =>
    refine ⟨b, o + q, fun j => cs (q + j), by rw [ha (by intro e; subst e; simp at h5; omega)], fun j hj => ?_, h1, fun j hj => ?_⟩
    · rw [Nat.add_assoc]; exact hc (q + j) (by omega)
    · rw [h3 j hj]; exact hv (q + j) (by omega)
  · rename_i d o heq
    split at h
    · rename_i cs hl
      obtain ⟨h1, h2, h3, h4⟩ := sub?_spec h
      have h5 := h4 hn
      obtain ⟨e1, _⟩ := opd_l hs ho heq
      obtain ⟨_, ty, hc⟩ := hs.loc d cs hl
      obtain ⟨c, g1, g2, g3⟩ := hc.ex
      refine ⟨G.lb d, o, fun j => c.getD (o + j) undef, e1, fun j hj => cell_getD g1 (by omega), h1, fun j hj => ?_⟩
      rw [h3 j hj]; exact g3 (o + j) (by omega)
    · cases h
  · rename_i id o heq
    split at h
    · rename_i ty cs hl
      obtain ⟨h1, h2, h3, h4⟩ := sub?_spec h
      have h5 := h4 hn
      obtain ⟨b, e1, _, hc⟩ := hs.mem.objs id _ hl
      obtain ⟨c, g1, g2, g3⟩ := CellsRel.ex hc
      rw [heq] at hv
      generalize A.eval x = v at hv
      cases hv with | p _ _ b' hb' =>
      rw [e1] at hb'; cases hb'
      refine ⟨b, o, fun j => c.getD (o + j) undef, rfl, fun j hj => cell_getD g1 (by omega), h1, fun j hj => ?_⟩
      rw [h3 j hj]; exact g3 (o + j) (by omega)
    · cases h
  · cases h

/-- Memory is written. -/
theorem wrt_sound (hs : StRel P kl G W st A) {x : Operand} {ax : Opd} (ho : opdOk A.tmps.size x ax = true) {xs : List V} {a : Array Value} {st' : St} (h : st.wrt (st.raw ax) xs = some st')
    (hx : VRs G W xs a) (h1 : ∀ v ∈ xs, v.one = true) :
    ∃ b o W', A.eval x = .pointer (some ⟨b, o, none⟩) ∧ (storeCells ⟨b, o, none⟩ a.toList).run P W = .ok () W' ∧ Ext G W G W' ∧ StRel P kl G W' st' A := by
  have hv := opd_raw hs ho
  unfold St.wrt at h
  split at h
  · rename_i d o heq
    split at h
    · rename_i cs hl
      cases hb : Nat.ble (o + xs.length) cs.length with
      | false => rw [hb] at h; cases h
      | true =>
        rw [hb] at h
        simp only [cond_true, Option.some.injEq] at h
        subst h
        obtain ⟨e1, _⟩ := opd_l hs ho heq
        obtain ⟨e2, ty, hc⟩ := hs.loc d cs hl
        have hm : (G.own (G.lb d)).mine = true := by rw [e2]; rfl
        obtain ⟨W', r1, tn, r2⟩ := hc.write (P := P) hx (Nat.le_of_ble_eq_true hb) h1 hm
        exact ⟨_, o, W', e1, r1, tn.ext hm, hs.setLoc tn e2 r2⟩
    · cases h
  · rename_i id o heq
    split at h
    · rename_i ty cs hl
      cases hb : Nat.ble (o + xs.length) cs.length with
      | false => rw [hb] at h; cases h
      | true =>
        rw [hb] at h
        simp only [cond_true, Option.some.injEq] at h
        subst h
        obtain ⟨b, e1, e2, hc⟩ := hs.mem.objs id _ hl
        rw [heq] at hv
        generalize A.eval x = v at hv
        cases hv with | p _ _ b' hb' =>
        rw [e1] at hb'; cases hb'
        have hm : (G.own b).mine = true := by rw [e2]; rfl
        obtain ⟨W', r1, tn, r2⟩ := CellsRel.write (P := P) hc hx (Nat.le_of_ble_eq_true hb) h1 hm
        exact ⟨b, o, W', rfl, r1, tn.ext hm, hs.setObj tn e2 e1 r2⟩
    · cases h
  · cases h

end
end Ai
