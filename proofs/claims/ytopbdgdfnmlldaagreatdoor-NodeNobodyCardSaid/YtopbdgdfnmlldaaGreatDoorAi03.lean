/- The abstract interpreter: what grows, what stays. The abstract interpreter: writing. The abstract interpreter: text, conversions, slices, comparisons of whole values. The abstract interpreter: conversions, slices. The abstract interpreter: slices of slices, places in them, append, copy, make. -/
import Derived.Test.YtopbdgdfnmlldaaGreatDoorAi01
import Derived.Laws.World
import Derived.Laws.BytesString
import Derived.Laws.BytesArg
import Derived.Laws.RangeString
import Derived.Lib.ConvBytes
import Derived.Laws.Append
namespace Ai
open Go

/-- Of what was there nothing has turned. -/
structure Keep (G : Gh) (W : World) (G' : Gh) (W' : World) : Prop where
  tape : W'.tape = W.tape
  os : W'.os = W.os
  out : W'.output = W.output
  sz : W.heap.size ≤ W'.heap.size
  own : ∀ b, b < W.heap.size → G'.own b = G.own b
  heap : ∀ b, b < W.heap.size → W'.heap[b]? = W.heap[b]?
  obj : ∀ id b, G.obj id = some b → G'.obj id = some b
  nt : G.nt ≤ G'.nt
  tip : ∀ t, t < G.nt → G'.tip t = G.tip t ∧ G'.tka t = G.tka t
  lb : G'.lb = G.lb
  ib : G'.ib = G.ib

theorem Keep.ext {G G' : Gh} {W W' : World} (k : Keep G W G' W') : Ext G W G' W' where
  tape := k.tape
  os := k.os
  out := k.out
  sz := k.sz
  szb := fun b hb => bsz_congr (k.heap b hb)
  e1 := fun b hb ho => ⟨k.heap b hb, (k.own b hb).trans ho⟩
  ro := fun b f ho hb => ⟨k.heap b hb, (k.own b hb).trans ho⟩
  row := fun b t f ho hb => ⟨fun o _ => cell?_congr (k.heap b hb), f, Nat.le_refl _, .inl ((k.own b hb).trans ho)⟩
  obj := k.obj
  nt := k.nt
  tip := fun t ht => ⟨by rw [(k.tip t ht).1]; exact Nat.le_refl _, fun _ => (k.tip t ht).2⟩

theorem heap_lt {W : World} {b : Nat} {o : Go.Obj} (h : W.heap[b]? = some o) : b < W.heap.size := (Array.getElem?_eq_some_iff.1 h).1

section
variable {P : Program} {kl : List (Nat × List Nat)} {G G' : Gh} {W W' : World} {st : St} {A : Act}

theorem CellsRel.of_heap (e : Ext G W G' W') {b : Nat} {ty : TypeId} {cs : List V} (h : CellsRel G W b ty cs) (hb : W'.heap[b]? = W.heap[b]?) : CellsRel G' W' b ty cs := by
  obtain ⟨c, fz, h1, hf, h2, h3⟩ := h.ex
  exact ⟨c, fz, hb.trans h1, hf, h2, fun j hj => (h3 j hj).mono e⟩

theorem ObjRel.of_heap (e : Ext G W G' W') {b : Nat} {o : Obj} (h : ObjRel G W b o) (hb : W'.heap[b]? = W.heap[b]?) : ObjRel G' W' b o := by
  cases o with
  | cells ty cs => exact CellsRel.of_heap e h hb
  | map es =>
    obtain ⟨c, clock, h1, h2, h3⟩ := h.ex
    exact ⟨c, clock, hb.trans h1, h2, fun j hj => ⟨(h3 j hj).1.mono e, (h3 j hj).2.mono e⟩⟩

theorem ObjRel.lt {b : Nat} {o : Obj} (h : ObjRel G W b o) : b < W.heap.size := by
  cases o with
  | cells ty cs => obtain ⟨c, fz, h1, _⟩ := h.ex; exact heap_lt h1
  | map es => obtain ⟨c, clock, h1, _⟩ := h.ex; exact heap_lt h1

theorem TipRel.of {sz : TypeId → Nat} {t n : Nat} {ty : TypeId} (h : TipRel G W sz t n ty) (ha : G'.tka t = G.tka t) (ho : ∀ b, b < W.heap.size → G'.own b = G.own b)
    (hh : ∀ b f, G.own b = .row t f → b < W.heap.size → W'.heap[b]? = W.heap[b]?) : TipRel G' W' sz t n ty := by
  rcases h with ⟨h, h0⟩ | ⟨b, base, cap, c, fz, h1, h2, h3, h4, h5, h6, h7⟩
  · exact .inl ⟨ha.trans h, h0⟩
  · exact .inr ⟨b, base, cap, c, fz, ha.trans h1, (ho b (heap_lt h3)).trans h2, (hh b _ h2 (heap_lt h3)).trans h3, h4, h5, h6, h7⟩

theorem HRel.keep {h : H} (k : Keep G W G' W') (hr : HRel P G W h) (ho : ∀ id b, G'.obj id = some b → G.obj id = some b) (hn : G'.nt = G.nt) : HRel P G' W' h where
  objs := fun id o hg => by
    obtain ⟨b, h1, h2, h3⟩ := hr.objs id o hg
    exact ⟨b, k.obj id b h1, (k.own b h3.lt).trans h2, h3.of_heap k.ext (k.heap b h3.lt)⟩
  next := fun id b hg => hr.next id b (ho id b hg)
  nt := hn.trans hr.nt
  tips := fun t n ty hg => by
    obtain ⟨h1, h2, h3⟩ := hr.tips t n ty hg
    have ht : t < G.nt := by rw [hr.nt]; exact h1
    exact ⟨h1, (k.tip t ht).1.trans h2, h3.of (k.tip t ht).2 k.own (fun b _ _ hb => k.heap b hb)⟩

theorem StRel.keepH (k : Keep G W G' W') (hs : StRel P kl G W st A) {h' : H} (hr : HRel P G' W' h') : StRel P kl G' W' { st with h := h' } A where
  T := fun i hi => (hs.T i hi).mono k.ext
  L := fun i d o hi he => by rw [k.lb]; exact hs.L i d o hi he
  I := fun i hi he => by rw [k.ib]; exact hs.I i hi he
  loc := fun d cs hg => by
    obtain ⟨h1, ty, h2⟩ := hs.loc d cs hg
    have hb : G.lb d < W.heap.size := by obtain ⟨c, fz, h3, _⟩ := h2.ex; exact heap_lt h3
    rw [k.lb]
    exact ⟨(k.own _ hb).trans h1, ty, h2.of_heap k.ext (k.heap _ hb)⟩
  its := fun d l p hg => by
    obtain ⟨h1, s, h2, h3⟩ := hs.its d l p hg
    rw [k.ib]
    exact ⟨(k.own _ (heap_lt h2)).trans h1, s, (k.heap _ (heap_lt h2)).trans h2, h3⟩
  mem := hr
  gl := fun g => ⟨(hs.gl g).1, (hs.gl g).2.1.mono k.ext, (hs.gl g).2.2.mono k.ext⟩

theorem StRel.keep (k : Keep G W G' W') (hs : StRel P kl G W st A) (ho : ∀ id b, G'.obj id = some b → G.obj id = some b) (hn : G'.nt = G.nt) : StRel P kl G' W' st A :=
  hs.keepH k (hs.mem.keep k ho hn)

def Gh.at (G : Gh) (b : Nat) (x : BK) : Gh := { G with own := fun i => if i = b then x else G.own i }

theorem own_at (G : Gh) (b : Nat) (x : BK) : (G.at b x).own b = x := by simp [Gh.at]
theorem own_at_ne (G : Gh) {b i : Nat} (x : BK) (h : i ≠ b) : (G.at b x).own i = G.own i := by simp [Gh.at, h]

theorem alloc_size (W : World) (o : Go.Obj) : (W.alloc o).heap.size = W.heap.size + 1 := Array.size_push o
theorem alloc_at (W : World) (o : Go.Obj) : (W.alloc o).heap[W.heap.size]? = some o := by
  show (W.heap.push o)[W.heap.size]? = some o
  simp
theorem alloc_ne (W : World) (o : Go.Obj) {b : Nat} (h : b < W.heap.size) : (W.alloc o).heap[b]? = W.heap[b]? := by
  show (W.heap.push o)[b]? = W.heap[b]?
  rw [Array.getElem?_push, if_neg (Nat.ne_of_lt h)]

/-- A new block. -/
theorem Keep.alloc (G : Gh) (W : World) (o : Go.Obj) (x : BK) : Keep G W (G.at W.heap.size x) (W.alloc o) where
  tape := rfl
  os := rfl
  out := rfl
  sz := by rw [alloc_size]; omega
  own := fun b hb => own_at_ne G x (Nat.ne_of_lt hb)
  heap := fun b hb => alloc_ne W o hb
  obj := fun _ _ h => h
  nt := Nat.le_refl _
  tip := fun _ _ => ⟨rfl, rfl⟩
  lb := rfl
  ib := rfl

theorem run_newObj (o : Go.Obj) : (newObj o).run P W = .ok W.heap.size (W.alloc o) := rfl
theorem run_newRow (e : TypeId) (c : Array Value) : (newRow e c).run P W = .ok ⟨W.heap.size, 0, none⟩ (W.alloc (.cells c e)) := rfl
theorem run_newVar (e : TypeId) (v : Value) : (newVar e v).run P W = .ok ⟨W.heap.size, 0, none⟩ (W.alloc (.cells v.cells e)) := rfl

/-- A new row that is never written again. -/
theorem VR.newRo {G : Gh} {W : World} {xs : List V} {c : Array Value} (e : TypeId) (fz : Nat × Nat) {cap n : Nat} (hl : xs.length ≤ c.size) (hn : n ≤ cap)
    (hv : ∀ j, j < xs.length → VR G W (xs.getD j .any) (c.getD j undef)) (tk : Tk) (x : BK) (hx : x = .ro xs.length ∨ ∃ t, x = .row t xs.length)
    (G' : Gh) (ke : Ext G W G' (W.alloc (.cells c e fz))) (hG : G'.own W.heap.size = x) (ht : TkOK G' (some ⟨W.heap.size, 0, none⟩) n cap tk) :
    VR G' (W.alloc (.cells c e fz)) (.sl xs n tk) (.slice (some ⟨W.heap.size, 0, none⟩) n cap) := by
  refine .sl xs n tk _ cap W.heap.size 0 (fun j => c.getD j undef) hn (fun _ => rfl) (fun j hj => ?_) (fun j hj => ?_) (fun j hj => (hv j hj).mono ke) ht
  · unfold Gh.imm
    rw [hG]
    rcases hx with hx | ⟨t, hx⟩ <;> rw [hx] <;> simp only <;> omega
  · rw [Nat.zero_add]
    exact cell_getD (alloc_at W _) (by omega)

end
end Ai

namespace Ai
open Go

/-- A block that is the frame's or the shared memory's: it may be written. -/
def BK.mine : BK → Bool
  | .obj _ => true
  | .loc _ => true
  | .it _ => true
  | _ => false

section
variable {P : Program} {kl : List (Nat × List Nat)} {G : Gh} {W : World} {st : St} {A : Act}

theorem row_tape {b : Nat} {c : Array Value} {e : TypeId} {fz : Nat × Nat} : (World.row W b c e fz).tape = W.tape := rfl

/-- A world that differs in one block. -/
structure Turn (W : World) (b : Nat) (W' : World) : Prop where
  tape : W'.tape = W.tape
  os : W'.os = W.os
  out : W'.output = W.output
  sz : W'.heap.size = W.heap.size
  other : ∀ k, k ≠ b → W'.heap[k]? = W.heap[k]?
  szb : bsz W' b = bsz W b

theorem Turn.row (b : Nat) (c : Array Value) (e : TypeId) (fz : Nat × Nat) {c0 : Array Value} {e0 : TypeId} {fz0 : Nat × Nat} (h : W.heap[b]? = some (.cells c0 e0 fz0)) (hc : c.size = c0.size) : Turn W b (World.row W b c e fz) :=
  ⟨rfl, rfl, rfl, row_size, fun _ h => row_other h, by rw [bsz_cells (row_heap (heap_lt h)), bsz_cells h, hc]⟩

theorem Turn.set (b : Nat) (o : Go.Obj) (h0 : bsz W b = 0) (ho : ∀ c t fz, o ≠ .cells c t fz) : Turn W b { W with heap := W.heap.setIfInBounds b o } :=
  ⟨rfl, rfl, rfl, by simp, fun k h => by simp [Ne.symm h], by
    rw [h0]
    unfold bsz
    simp only
    split
    · rename_i c t fz hh
      rcases Nat.lt_or_ge b W.heap.size with hb | hb
      · simp [hb] at hh; exact absurd hh (ho c t fz)
      · simp [Nat.not_lt.2 hb] at hh
    · rfl⟩

theorem Turn.ext {b : Nat} {W' : World} (t : Turn W b W') (h : (G.own b).mine = true) : Ext G W G W' where
  tape := t.tape
  os := t.os
  out := t.out
  sz := by rw [t.sz]; exact Nat.le_refl _
  szb := fun k _ => by
    by_cases hk : k = b
    · subst hk; exact t.szb
    · exact bsz_congr (t.other k hk)
  e1 := fun k _ ho => ⟨t.other k (fun e => by subst e; rw [ho] at h; cases h), ho⟩
  ro := fun k f ho _ => ⟨t.other k (fun e => by subst e; rw [ho] at h; cases h), ho⟩
  row := fun k tk f ho _ => ⟨fun o _ => cell?_congr (t.other k (fun e => by subst e; rw [ho] at h; cases h)), f, Nat.le_refl _, .inl ho⟩
  obj := fun _ _ h => h
  nt := Nat.le_refl _
  tip := fun _ _ => ⟨Nat.le_refl _, fun _ => rfl⟩

/-- Cells are written: what the row says then. -/
theorem CellsRel.write {b o : Nat} {ty : TypeId} {cs xs : List V} {a : Array Value} (h : CellsRel G W b ty cs) (hx : VRs G W xs a) (hl : o + xs.length ≤ cs.length) (h1 : ∀ v ∈ xs, v.one = true)
    (hm : (G.own b).mine = true) :
    ∃ W', (storeCells ⟨b, o, none⟩ a.toList).run P W = .ok () W' ∧ Turn W b W' ∧ CellsRel G W' b ty (splice cs o xs) := by
  obtain ⟨c, fz, h2, hf, h3, h4⟩ := h.ex
  have hal : a.toList.length = xs.length := by rw [hx.1]; simp
  have hone : ∀ v ∈ a.toList, one? v = true := by
    intro v hv
    obtain ⟨j, hj, rfl⟩ := List.getElem_of_mem hv
    have hj' : j < a.size := by simpa using hj
    have h5 := hx.2 j (by rw [hx.1]; exact hj')
    have h6 := one_sound (h1 _ (getD_mem (by rw [hx.1]; exact hj'))) h5
    simpa [Array.getD_eq_getD_getElem?, hj'] using h6
  have hr := run_storeCells' (P := P) o a.toList 0 W c h2 (by omega) (fun j _ _ hf => by omega) hone
  simp only [Nat.add_zero] at hr
  have tn : Turn W b (World.row W b (setAll c o a.toList) ty fz) := Turn.row b _ ty fz h2 (setAll_size _ _ _)
  refine ⟨_, hr, tn, ⟨setAll c o a.toList, fz, row_heap (heap_lt h2), by rw [setAll_size]; exact hf, by rw [setAll_size, splice_length hl]; exact h3, fun j hj => ?_⟩⟩
  rw [splice_length hl] at hj
  rw [splice_getD hl, setAll_getD _ _ _ _ (by omega), hal]
  split
  · have := (hx.2 (j - o) (by omega)).mono (tn.ext hm)
    have e : a.toList.getD (j - o) undef = a.getD (j - o) undef := by
      simp [List.getD_eq_getElem?_getD, Array.getD_eq_getD_getElem?]
    rw [e]; exact this
  · exact (h4 j hj).mono (tn.ext hm)

theorem TipRel.turn {W' : World} {b : Nat} (tn : Turn W b W') (hm : (G.own b).mine = true) {sz : TypeId → Nat} {t n : Nat} {ty : TypeId} (h : TipRel G W sz t n ty) : TipRel G W' sz t n ty :=
  h.of rfl (fun _ _ => rfl) (fun k f ho _ => tn.other k (fun e => by subst e; rw [ho] at hm; cases hm))

theorem HRel.turn {W' : World} {b : Nat} (tn : Turn W b W') (hm : (G.own b).mine = true) (hb : ∀ id, G.own b ≠ .obj id) {h : H} (hr : HRel P G W h) : HRel P G W' h where
  objs := fun id o hg => by
    obtain ⟨k, h1, h2, h3⟩ := hr.objs id o hg
    exact ⟨k, h1, h2, h3.of_heap (tn.ext hm) (tn.other k (fun e => by subst e; exact hb id h2))⟩
  next := hr.next
  nt := hr.nt
  tips := fun t n ty hg => by
    obtain ⟨h1, h2, h3⟩ := hr.tips t n ty hg
    exact ⟨h1, h2, h3.turn tn hm⟩

/-- An object of the shared memory is written. -/
theorem StRel.setObj {W' : World} {b id : Nat} {o : Obj} (tn : Turn W b W') (ho : G.own b = .obj id) (hi : G.obj id = some b) (hs : StRel P kl G W st A) (hr : ObjRel G W' b o) :
    StRel P kl G W' { st with h := st.h.setObj id o } A := by
  have hm : (G.own b).mine = true := by rw [ho]; rfl
  have e := tn.ext hm
  exact {
    T := fun i hi => (hs.T i hi).mono e
    L := hs.L
    I := hs.I
    loc := fun d cs hg => by
      obtain ⟨h1, ty, h2⟩ := hs.loc d cs hg
      exact ⟨h1, ty, h2.of_heap e (tn.other _ (fun e => by rw [e, ho] at h1; cases h1))⟩
    its := fun d l p hg => by
      obtain ⟨h1, s, h2, h3⟩ := hs.its d l p hg
      exact ⟨h1, s, (tn.other _ (fun e => by rw [e, ho] at h1; cases h1)).trans h2, h3⟩
    mem := {
      objs := fun id' o' hg => by
        simp only [H.setObj] at hg
        rw [al_set] at hg
        split at hg
        · rename_i hid
          subst hid
          cases hg
          exact ⟨b, hi, ho, hr⟩
        · rename_i hid
          obtain ⟨k, h1, h2, h3⟩ := hs.mem.objs id' o' hg
          exact ⟨k, h1, h2, h3.of_heap e (tn.other k (fun e => by subst e; rw [ho] at h2; cases h2; exact hid rfl))⟩
      next := hs.mem.next
      nt := hs.mem.nt
      tips := fun t n ty hg => by
        obtain ⟨h1, h2, h3⟩ := hs.mem.tips t n ty hg
        exact ⟨h1, h2, h3.turn tn hm⟩ }
    gl := fun g => ⟨(hs.gl g).1, (hs.gl g).2.1.mono e, (hs.gl g).2.2.mono e⟩ }

/-- A variable of the frame is written. -/
theorem StRel.setLoc {W' : World} {d : Nat} {ty : TypeId} {cs : List V} (tn : Turn W (G.lb d) W') (ho : G.own (G.lb d) = .loc d) (hs : StRel P kl G W st A) (hr : CellsRel G W' (G.lb d) ty cs) :
    StRel P kl G W' { st with loc := lset st.loc d cs } A := by
  have hm : (G.own (G.lb d)).mine = true := by rw [ho]; rfl
  have e := tn.ext hm
  exact {
    T := fun i hi => (hs.T i hi).mono e
    L := hs.L
    I := hs.I
    loc := fun d' cs' hg => by
      rw [al_lset] at hg
      split at hg
      · rename_i hd
        subst hd
        cases hg
        exact ⟨ho, ty, hr⟩
      · rename_i hd
        obtain ⟨h1, ty', h2⟩ := hs.loc d' cs' hg
        exact ⟨h1, ty', h2.of_heap e (tn.other _ (fun e => by rw [e, ho] at h1; cases h1; exact hd rfl))⟩
    its := fun d l p hg => by
      obtain ⟨h1, s, h2, h3⟩ := hs.its d l p hg
      exact ⟨h1, s, (tn.other _ (fun e => by rw [e, ho] at h1; cases h1)).trans h2, h3⟩
    mem := hs.mem.turn tn hm (fun id e => by rw [ho] at e; cases e)
    gl := fun g => ⟨(hs.gl g).1, (hs.gl g).2.1.mono e, (hs.gl g).2.2.mono e⟩ }

/-- Memory is read. -/
theorem rd_sound (hs : StRel P kl G W st A) {x : Operand} {ax : Opd} (ho : opdOk A.tmps.size x ax = true) {n : Nat} {xs : List V} (hn : 0 < n) (h : st.rd (st.raw ax) n = some xs) :
    ∃ (b o : Nat) (cs : Nat → Value), A.eval x = .pointer (some ⟨b, o, none⟩) ∧ (∀ j, j < n → W.cell? ⟨b, o + j, none⟩ = some (cs j)) ∧ xs.length = n ∧ ∀ j, j < n → VR G W (xs.getD j .any) (cs j) := by
  have hv := opd_raw hs ho
  unfold St.rd at h
  split at h
  · rename_i ys q heq
    obtain ⟨h1, h2, h3, h4⟩ := sub?_spec h
    have h5 := h4 hn
    rw [heq] at hv
    generalize A.eval x = c at hv
    cases hv with | ip _ _ p b o cs ha hi hc hv =>
    refine ⟨b, o + q, fun j => cs (q + j), by rw [ha (by intro e; subst e; simp at h5; omega)], fun j hj => ?_, h1, fun j hj => ?_⟩
    · rw [Nat.add_assoc]; exact hc (q + j) (by omega)
    · rw [h3 j hj]; exact hv (q + j) (by omega)
  · rename_i d o heq
    split at h
    · rename_i cs hl
      obtain ⟨h1, h2, h3, h4⟩ := sub?_spec h
      have h5 := h4 hn
      obtain ⟨e1, _⟩ := opd_l hs ho heq
      obtain ⟨_, ty, hc⟩ := hs.loc d cs hl
      obtain ⟨c, fz, g1, gf, g2, g3⟩ := hc.ex
      refine ⟨G.lb d, o, fun j => c.getD (o + j) undef, e1, fun j hj => cell_getD g1 (by omega), h1, fun j hj => ?_⟩
      rw [h3 j hj]; exact g3 (o + j) (by omega)
    · cases h
  · rename_i id o heq
    split at h
    · rename_i ty cs hl
      obtain ⟨h1, h2, h3, h4⟩ := sub?_spec h
      have h5 := h4 hn
      obtain ⟨b, e1, _, hc⟩ := hs.mem.objs id _ hl
      obtain ⟨c, fz, g1, gf, g2, g3⟩ := CellsRel.ex hc
      rw [heq] at hv
      generalize A.eval x = v at hv
      cases hv with | p _ _ b' hb' =>
      rw [e1] at hb'; cases hb'
      refine ⟨b, o, fun j => c.getD (o + j) undef, rfl, fun j hj => cell_getD g1 (by omega), h1, fun j hj => ?_⟩
      rw [h3 j hj]; exact g3 (o + j) (by omega)
    · cases h
  · cases h

/-- Memory is written. -/
theorem wrt_sound (hs : StRel P kl G W st A) {x : Operand} {ax : Opd} (ho : opdOk A.tmps.size x ax = true) {xs : List V} {a : Array Value} {st' : St} (h : st.wrt (st.raw ax) xs = some st')
    (hx : VRs G W xs a) (h1 : ∀ v ∈ xs, v.one = true) :
    ∃ b o W', A.eval x = .pointer (some ⟨b, o, none⟩) ∧ (storeCells ⟨b, o, none⟩ a.toList).run P W = .ok () W' ∧ Ext G W G W' ∧ StRel P kl G W' st' A := by
  have hv := opd_raw hs ho
  unfold St.wrt at h
  split at h
  · rename_i d o heq
    split at h
    · rename_i cs hl
      cases hb : Nat.ble (o + xs.length) cs.length with
      | false => rw [hb] at h; cases h
      | true =>
        rw [hb] at h
        simp only [cond_true, Option.some.injEq] at h
        subst h
        obtain ⟨e1, _⟩ := opd_l hs ho heq
        obtain ⟨e2, ty, hc⟩ := hs.loc d cs hl
        have hm : (G.own (G.lb d)).mine = true := by rw [e2]; rfl
        obtain ⟨W', r1, tn, r2⟩ := hc.write (P := P) hx (Nat.le_of_ble_eq_true hb) h1 hm
        exact ⟨_, o, W', e1, r1, tn.ext hm, hs.setLoc tn e2 r2⟩
    · cases h
  · rename_i id o heq
    split at h
    · rename_i ty cs hl
      cases hb : Nat.ble (o + xs.length) cs.length with
      | false => rw [hb] at h; cases h
      | true =>
        rw [hb] at h
        simp only [cond_true, Option.some.injEq] at h
        subst h
        obtain ⟨b, e1, e2, hc⟩ := hs.mem.objs id _ hl
        rw [heq] at hv
        generalize A.eval x = v at hv
        cases hv with | p _ _ b' hb' =>
        rw [e1] at hb'; cases hb'
        have hm : (G.own b).mine = true := by rw [e2]; rfl
        obtain ⟨W', r1, tn, r2⟩ := CellsRel.write (P := P) hc hx (Nat.le_of_ble_eq_true hb) h1 hm
        exact ⟨b, o, W', rfl, r1, tn.ext hm, hs.setObj tn e2 e1 r2⟩
    · cases h
  · cases h

end
end Ai

namespace Ai
open Go

theorem dec_eq (s : ByteArray) (pos : Nat) : Utf8.decode s pos = dec (s.data.toList.drop pos) := by
  have h1 : ∀ k, (s.get! (pos + k)).toNat = ((s.data.toList.drop pos).getD k 0).toNat := by
    intro k
    congr 1
    show s.data[pos + k]! = _
    rw [List.getD_eq_getElem?_getD, List.getElem?_drop, Array.getElem?_toList, getElem!_def]
    split <;> rename_i h <;> rw [h] <;> rfl
  have h2 : ∀ k, decide (pos + k < s.size) = decide (k < (s.data.toList.drop pos).length) := by
    intro k
    rw [Bool.eq_iff_iff, decide_eq_true_iff, decide_eq_true_iff]
    simp only [List.length_drop, Array.length_toList]
    show pos + k < s.data.size ↔ _
    omega
  simp only [Utf8.decode, dec, h1, h2]

/-- A scalar as the model has it. -/
def conc : V → Value
  | .i k n => .int k n
  | _ => undef

theorem conc_vr {G : Gh} {W : World} (k : IntKind) (n : Int) : VR G W (.i k n) (conc (.i k n)) := .i k n

theorem runesFrom_eq (s : ByteArray) : ∀ (f i : Nat) (acc : Array Value), Conv.runesFrom s f i acc = acc ++ ((runesL f (s.data.toList.drop i)).map conc).toArray
  | 0, i, acc => by simp [Conv.runesFrom, runesL]
  | f + 1, i, acc => by
    simp only [Conv.runesFrom, runesL]
    by_cases h : i < s.size
    · rw [if_pos h]
      have hd : s.data.toList.drop i ≠ [] := by
        intro e
        have := congrArg List.length e
        simp only [List.length_drop, Array.length_toList, List.length_nil] at this
        have h' : i < s.data.size := h
        omega
      rw [runesFrom_eq s f]
      cases hl : s.data.toList.drop i with
      | nil => exact absurd hl hd
      | cons a r =>
        simp only [List.map_cons]
        rw [dec_eq, hl]
        have : s.data.toList.drop (i + (dec (a :: r)).2) = (a :: r).drop (dec (a :: r)).2 := by rw [← hl, List.drop_drop]
        rw [this]
        simp [conc]
    · rw [if_neg h]
      have hd : s.data.toList.drop i = [] := by
        apply List.drop_eq_nil_of_le
        simp only [Array.length_toList]
        have h' : ¬ i < s.data.size := h
        omega
      rw [hd]
      simp

theorem runesL_i : ∀ (f : Nat) (l : List UInt8) (v : V), v ∈ runesL f l → ∃ n, v = .i .i32 n
  | 0, l, v, h => by cases h
  | f + 1, l, v, h => by
    simp only [runesL] at h
    cases l with
    | nil => cases h
    | cons a r =>
      simp only at h
      cases h with
      | head => exact ⟨_, rfl⟩
      | tail _ h => exact runesL_i f _ v h

theorem bytesOf?_spec : ∀ {xs : List V} {l : List UInt8}, bytesOf? xs = some l → ∃ ns : List Int, xs = ns.map (V.i .u8) ∧ l = ns.map fun n => UInt8.ofNat n.toNat
  | [], l, h => by simp only [bytesOf?, Option.some.injEq] at h; exact ⟨[], rfl, h.symm⟩
  | v :: r, l, h => by
    unfold bytesOf? at h
    split at h
    · rename_i heq; cases heq
    · rename_i n r' heq
      cases heq
      cases hr : bytesOf? r with
      | none => rw [hr] at h; cases h
      | some l' =>
        rw [hr] at h
        simp only [Option.map_some, Option.some.injEq] at h
        obtain ⟨ns, e1, e2⟩ := bytesOf?_spec hr
        exact ⟨n :: ns, by rw [e1]; rfl, by rw [← h, e2]; rfl⟩
    · cases h

theorem runesOf?_spec : ∀ {xs : List V} {l : List UInt8}, runesOf? xs = some l → ∃ ns : List Int, xs = ns.map (V.i .i32) ∧ l = ns.flatMap fun n => (Utf8.encode n).data.toList
  | [], l, h => by simp only [runesOf?, Option.some.injEq] at h; exact ⟨[], rfl, h.symm⟩
  | v :: r, l, h => by
    unfold runesOf? at h
    split at h
    · rename_i heq; cases heq
    · rename_i n r' heq
      cases heq
      cases hr : runesOf? r with
      | none => rw [hr] at h; cases h
      | some l' =>
        rw [hr] at h
        simp only [Option.map_some, Option.some.injEq] at h
        obtain ⟨ns, e1, e2⟩ := runesOf?_spec hr
        exact ⟨n :: ns, by rw [e1]; rfl, by rw [← h, e2]; simp⟩
    · cases h

section
variable {P : Program} {kl : List (Nat × List Nat)} {G : Gh} {W : World} {st : St} {A : Act}

/-- What a slice holds, as a value: its cells are there to be read. -/
theorem row_sound (hs : StRel P kl G W st A) {sz : Nat} {v : V} {c : Value} {xs : List V} {n : Nat} (h : st.row sz v = some (xs, n)) (hv : VR G W v c) (hz : 0 < sz) :
    xs.length = n * sz ∧
    ((∃ s : ByteArray, c = .string s ∧ sz = 1 ∧ n = s.size ∧ xs = s.data.toList.map byteV) ∨
     ∃ (a : Option Addr) (cap b o : Nat) (cs : Nat → Value), c = .slice a n cap ∧ n ≤ cap ∧ (xs ≠ [] → a = some ⟨b, o, none⟩) ∧ (∀ j, j < xs.length → W.cell? ⟨b, o + j, none⟩ = some (cs j)) ∧
       ∀ j, j < xs.length → VR G W (xs.getD j .any) (cs j)) := by
  unfold St.row at h
  split at h
  · rename_i ys m tk
    cases hb : Nat.beq ys.length (m * sz) with
    | false => rw [hb] at h; cases h
    | true =>
      rw [hb] at h
      simp only [cond_true, Option.some.injEq, Prod.mk.injEq] at h
      obtain ⟨rfl, rfl⟩ := h
      cases hv with | sl _ _ _ a cap b o cs hn ha hi hc hv ht =>
      exact ⟨Nat.eq_of_beq_eq_true hb, .inr ⟨a, cap, b, o, cs, rfl, hn, ha, hc, hv⟩⟩
  · rename_i id off m sz'
    cases hb : Nat.beq sz sz' with
    | false => rw [hb] at h; cases h
    | true =>
      rw [hb] at h
      simp only [cond_true] at h
      split at h
      · rename_i ty cs hl
        cases hsub : sub? cs off (m * sz) with
        | none => rw [hsub] at h; cases h
        | some ys =>
          rw [hsub] at h
          simp only [Option.map_some, Option.some.injEq, Prod.mk.injEq] at h
          obtain ⟨rfl, rfl⟩ := h
          obtain ⟨h1, h2, h3, h4⟩ := sub?_spec hsub
          cases hv with | hs _ _ _ _ b cap a hb' hn ha =>
          obtain ⟨b', e1, e2, hc⟩ := hs.mem.objs id _ hl
          rw [e1] at hb'; cases hb'
          obtain ⟨c, fz, g1, gf, g2, g3⟩ := CellsRel.ex hc
          refine ⟨h1, .inr ⟨_, cap, b, off, fun j => c.getD (off + j) undef, rfl, hn, fun hne => ha (Nat.pos_of_ne_zero (fun h0 => hne (by subst h0; simpa using h1))), fun j hj => ?_, fun j hj => ?_⟩⟩
          · have := h4 (by omega)
            exact cell_getD g1 (by omega)
          · have := h4 (by omega)
            rw [h3 j (by omega)]
            exact g3 (off + j) (by omega)
      · cases h
  · rename_i l
    cases hb : Nat.beq sz 1 with
    | false => rw [hb] at h; cases h
    | true =>
      rw [hb] at h
      have := Nat.eq_of_beq_eq_true hb
      subst this
      simp only [cond_true, Option.some.injEq, Prod.mk.injEq] at h
      obtain ⟨rfl, rfl⟩ := h
      cases hv with | s _ s hl =>
      subst hl
      exact ⟨by simp, .inl ⟨s, rfl, rfl, Array.length_toList, rfl⟩⟩
  · cases h

/-- A slice's cells are read. -/
theorem firstCells_sound (hs : StRel P kl G W st A) {sz : Nat} {v : V} {c : Value} {xs : List V} {n : Nat} (h : st.row sz v = some (xs, n)) (hv : VR G W v c) (hz : 0 < sz) :
    ∃ a : Array Value, (Builtin.firstCells sz n c).run P W = .ok a W ∧ VRs G W xs a ∧ (Builtin.lenOf c).run P W = .ok n W := by
  obtain ⟨hl, hh⟩ := row_sound hs h hv hz
  rcases hh with ⟨s, rfl, rfl, rfl, rfl⟩ | ⟨a, cap, b, o, cs, rfl, hn, ha, hc, hr⟩
  · refine ⟨s.data.map fun b => .int .u8 b.toNat, ?_, ⟨by simp, fun j hj => ?_⟩, rfl⟩
    · simp only [Builtin.firstCells]
      have : (s.extract 0 s.size) = s := by simp
      rw [this]; rfl
    · simp only [List.length_map, Array.length_toList] at hj
      have e1 : s.data[j]? = some s.data[j] := Array.getElem?_eq_getElem hj
      simp only [List.getD_eq_getElem?_getD, Array.getD_eq_getD_getElem?, List.getElem?_map, Array.getElem?_map, Array.getElem?_toList, e1, Option.map_some, Option.getD_some]
      exact .i _ _
  · by_cases hx : xs = []
    · subst hx
      have hn0 : n = 0 := by
        rcases Nat.eq_zero_or_pos n with h | h
        · exact h
        · have := Nat.mul_pos h hz; simp at hl; omega
      subst hn0
      refine ⟨#[], ?_, ⟨rfl, fun j hj => by cases hj⟩, rfl⟩
      cases a with
      | none => rfl
      | some a => simp only [Builtin.firstCells, Nat.zero_mul]; rfl
    · rw [ha hx]
      refine ⟨(stretch cs 0 (n * sz)).toArray, ?_, ⟨by simp [stretch_length, hl], fun j hj => ?_⟩, rfl⟩
      · simp only [Builtin.firstCells]
        exact run_loadCells' b o (n * sz) cs (fun j hj => hc j (by omega))
      · have e : (stretch cs 0 (n * sz)).toArray.getD j undef = cs j := by
          have := stretch_getD cs (n * sz) 0 j (by omega)
          simp only [Nat.zero_add] at this
          rw [← this]
          simp [Array.getD_eq_getD_getElem?, List.getD_eq_getElem?_getD]
        rw [e]; exact hr j hj

end
end Ai

namespace Ai
open Go

def isInt (P : Program) (t : TypeId) : Bool := match P.underlying t with | some (.int _) => true | _ => false
def isKind (P : Program) (t : TypeId) (k : IntKind) : Bool := match P.underlying t with | some (.int k') => decide (k' = k) | _ => false
def isStr (P : Program) (t : TypeId) : Bool := match P.underlying t with | some .string => true | _ => false
def elemIs (P : Program) (t : TypeId) (k : IntKind) : Bool := match P.underlying t with | some (.slice e) => isKind P e k | _ => false

def ckOk (P : Program) (src dst : TypeId) : CK → Bool
  | .int k => isInt P src && isKind P dst k
  | .str => isStr P src && isStr P dst
  | .rune => isInt P src && isStr P dst
  | .bytes => isStr P src && elemIs P dst .u8
  | .runes => isStr P src && elemIs P dst .i32
  | .toStr => elemIs P src .u8 && isStr P dst
  | .fromRunes => elemIs P src .i32 && isStr P dst
  | .same => Nat.beq src dst && elemIs P src .u8
  | .uns => match P.underlying src, P.underlying dst with
    | some (.pointer t), some .unsafePointer => (match szOf P t with | some (_ + 1) => true | _ => false)
    | _, _ => false
  | .toPtr u n => match P.underlying src, P.underlying dst with
    | some .unsafePointer, some (.pointer t) => Nat.beq t u && (match szOf P u with | some (_ + 1) => true | _ => false) && Nat.blt 0 n && liesAt P P.depth u (n / P.cellsOf u) 0 u 1
    | _, _ => false

theorem rowAt_mono {P : Program} {fits : TypeId → Bool} {d : Nat} {e : TypeId} {k k' off n : Nat} (hk : k ≤ k') (h : rowAt P fits d e k off n = true) : rowAt P fits d e k' off n = true := by
  cases d with
  | zero => simp [rowAt] at h
  | succ d =>
    unfold rowAt at h ⊢
    simp only at h ⊢
    split at h
    · cases h
    · rename_i hs
      rw [if_neg hs]
      simp only [Bool.or_eq_true, Bool.and_eq_true, decide_eq_true_eq] at h ⊢
      rcases h with ⟨⟨h1, h2⟩, h3⟩ | ⟨h1, h2⟩
      · exact .inl ⟨⟨h1, by omega⟩, h3⟩
      · exact .inr ⟨by omega, h2⟩
theorem liesAt_mono {P : Program} {k k' off : Nat} (hk : k ≤ k') : ∀ {d : Nat} {e u : TypeId} {n : Nat}, liesAt P d e k off u n = true → liesAt P d e k' off u n = true := by
  intro d
  induction d with
  | zero => intro e u n h; simp [liesAt] at h
  | succ d ih =>
    intro e u n h
    unfold liesAt at h ⊢
    rw [Bool.or_eq_true] at h ⊢
    rcases h with h | h
    · exact .inl (rowAt_mono hk h)
    · refine .inr ?_
      split at h
      · exact ih h
      · cases h
theorem isInt_spec {P : Program} {t : TypeId} (h : isInt P t = true) : ∃ k, P.underlying t = some (.int k) := by
  unfold isInt at h
  split at h
  · exact ⟨_, by assumption⟩
  · cases h
theorem isKind_spec {P : Program} {t : TypeId} {k : IntKind} (h : isKind P t k = true) : P.underlying t = some (.int k) := by
  unfold isKind at h
  split at h
  · rename_i k' hu; have := of_decide_eq_true h; subst this; exact hu
  · cases h
theorem isStr_spec {P : Program} {t : TypeId} (h : isStr P t = true) : P.underlying t = some .string := by
  unfold isStr at h
  split at h
  · assumption
  · cases h
theorem elemIs_spec {P : Program} {t : TypeId} {k : IntKind} (h : elemIs P t k = true) : ∃ e, P.underlying t = some (.slice e) ∧ P.underlying e = some (.int k) := by
  unfold elemIs at h
  split at h
  · rename_i e hu; exact ⟨e, hu, isKind_spec h⟩
  · cases h

section
variable {P : Program} {kl : List (Nat × List Nat)} {G : Gh} {W : World} {st : St} {A : Act}

/-- A run of one of the model's small programs has come to this. -/
def Post (P : Program) (kl : List (Nat × List Nat)) (G : Gh) (W : World) (st' : St) (A : Act) (v : V) (r : Result Value) : Prop :=
  ∃ c G' W', r = .ok c W' ∧ Ext G W G' W' ∧ StRel P kl G' W' st' A ∧ VR G' W' v c

theorem Post.here (hs : StRel P kl G W st A) {v : V} {c : Value} {r : Result Value} (hr : r = .ok c W) (hv : VR G W v c) : Post P kl G W st A v r :=
  ⟨c, G, W, hr, Ext.refl G W, hs, hv⟩

theorem run_shape_some {b : Nat} {c : Array Value} {e : TypeId} {fz : Nat × Nat} (h : W.heap[b]? = some (.cells c e fz)) : (shape b).run P W = .ok (some (e, c.size)) W := by
  simp [shape, Sem.run, World.shape?, h]

theorem run_viewAt_none {b : Nat} {c : Array Value} {e : TypeId} {fz : Nat × Nat} (h : W.heap[b]? = some (.cells c e fz)) : (viewAt b).run P W = .ok none W := by
  simp [viewAt, run_shape_some h]

theorem VRs.map_conc {xs : List V} (h : ∀ v ∈ xs, ∃ k n, v = .i k n) : ∀ j, j < xs.length → VR G W (xs.getD j .any) ((xs.map conc).toArray.getD j undef) := by
  intro j hj
  obtain ⟨k, n, e⟩ := h _ (getD_mem hj)
  have : (xs.map conc).toArray.getD j undef = conc (xs.getD j .any) := by
    simp [Array.getD_eq_getD_getElem?, List.getD_eq_getElem?_getD, hj]
  rw [this, e]; exact .i k n

theorem getD_append_left {a b : Array Value} {j : Nat} (h : j < a.size) : (a ++ b).getD j undef = a.getD j undef := by
  simp [Array.getD_eq_getD_getElem?, Array.getElem?_append_left h]

theorem grownCap_le (w : World) (need old : Nat) (e : TypeId) : need ≤ grownCap w need old e := by
  exact Nat.le_add_right _ _

theorem keep_bytes (G : Gh) (W : World) (e : TypeId) (s : ByteArray) (x : BK) : Keep G W (G.at W.heap.size x) (Lib.bytesWorld W e s) where
  tape := by simp [Lib.bytesWorld, World.freeze, World.alloc, World.drew, -World.alloc_eq, -World.drew_eq]
  os := by simp [Lib.bytesWorld, World.freeze, World.alloc, World.drew, -World.alloc_eq, -World.drew_eq]
  out := by simp [Lib.bytesWorld, World.freeze, World.alloc, World.drew, -World.alloc_eq, -World.drew_eq]
  sz := by rw [Lib.bytesWorld_size]; omega
  own := fun b hb => own_at_ne G x (Nat.ne_of_lt hb)
  heap := fun b hb => Lib.bytesWorld_at_old W e s b hb
  obj := fun _ _ h => h
  nt := Nat.le_refl _
  tip := fun _ _ => ⟨rfl, rfl⟩
  lb := rfl
  ib := rfl

theorem keep_drew (G : Gh) (W : World) : Keep G W G W.drew where
  tape := rfl
  os := rfl
  out := rfl
  sz := Nat.le_refl _
  own := fun _ _ => rfl
  heap := fun _ _ => rfl
  obj := fun _ _ h => h
  nt := Nat.le_refl _
  tip := fun _ _ => ⟨rfl, rfl⟩
  lb := rfl
  ib := rfl

theorem forIn_runes (f : Value → ByteArray → Sem (ForInStep ByteArray)) : ∀ (ns : List Int) (s : ByteArray), (∀ n s, f (.int .i32 n) s = pure (.yield (s ++ Utf8.encode n))) →
    (forIn (ns.map (Value.int .i32)) s f).run P W = .ok (ns.foldl (fun r n => r ++ Utf8.encode n) s) W
  | [], s, _ => by simp
  | n :: ns, s, h => by
    simp only [List.map_cons, List.forIn_cons, h n s, Sem.run_bind, Sem.run_pure, Result.andThen_ok, List.foldl_cons]
    exact forIn_runes f ns _ h

theorem foldl_encode : ∀ (ns : List Int) (s : ByteArray), (ns.foldl (fun r n => r ++ Utf8.encode n) s).data.toList = s.data.toList ++ ns.flatMap fun n => (Utf8.encode n).data.toList
  | [], s => by simp
  | n :: ns, s => by
    simp only [List.foldl_cons, foldl_encode ns, List.flatMap_cons]
    simp

theorem ints_of {k : IntKind} {ns : List Int} {a : Array Value} (h : VRs G W (ns.map (V.i k)) a) : a = (ns.map (Value.int k)).toArray := by
  obtain ⟨h1, h2⟩ := h
  apply Array.ext
  · simpa using h1.symm
  · intro j hj hj'
    have h3 := h2 j (by rw [h1]; exact hj)
    have hn : j < ns.length := by simpa using hj'
    have e1 : (ns.map (V.i k)).getD j .any = .i k ns[j] := by simp [List.getD_eq_getElem?_getD, hn]
    have e2 : a.getD j undef = a[j] := by simp [Array.getD_eq_getD_getElem?, hj]
    rw [e1, e2] at h3
    generalize a[j] = c at *
    cases h3
    simp

theorem alSet_same {α : Type} : ∀ (l : List (Nat × α)) (k : Nat) {x : α}, al l k = some x → alSet l k x = l
  | [], k, x, h => by cases h
  | (i, y) :: r, k, x, h => by
    simp only [al, alSet] at h ⊢
    cases hb : Nat.beq i k with
    | true =>
      rw [hb] at h
      simp only [cond_true, Option.some.injEq] at h ⊢
      have := Nat.eq_of_beq_eq_true hb
      rw [h, this]
    | false => rw [hb] at h; simp only [cond_false] at h ⊢; rw [alSet_same r k h]

theorem mark_turn {b : Nat} {c : Array Value} {ty : TypeId} {fz : Nat × Nat} (h : W.heap[b]? = some (.cells c ty fz)) (hf : fz.1 = fz.2 ∨ c.size ≤ fz.1) :
    Turn W b (W.freeze ⟨b, c.size, none⟩ 1) ∧ ∃ fz', (W.freeze ⟨b, c.size, none⟩ 1).heap[b]? = some (.cells c ty fz') ∧ (fz'.1 = fz'.2 ∨ c.size ≤ fz'.1) := by
  unfold World.freeze
  rw [if_neg (by omega)]
  have hb := heap_lt h
  have hx : W.heap[b] = .cells c ty fz := (Array.getElem?_eq_some_iff.1 h).2
  obtain ⟨lo, hi⟩ := fz
  refine ⟨⟨rfl, rfl, rfl, by simp, fun k hk => by simp [Array.getElem?_modify, Ne.symm hk], ?_⟩, ?_⟩
  · rw [bsz_cells h]
    refine bsz_cells (t := ty) (fz := if lo == hi then (c.size, c.size + 1) else (min lo c.size, max hi (c.size + 1))) ?_
    show (W.heap.modify b _)[b]? = _
    rw [Array.getElem?_modify, if_pos rfl, Array.getElem?_eq_getElem hb, hx]
    rfl
  refine ⟨if lo == hi then (c.size, c.size + 1) else (min lo c.size, max hi (c.size + 1)), ?_, ?_⟩
  · show (W.heap.modify b _)[b]? = _
    rw [Array.getElem?_modify, if_pos rfl, Array.getElem?_eq_getElem hb, hx]
    rfl
  · by_cases he : lo = hi
    · subst he; right; simp
    · have : (lo == hi) = false := by simpa using he
      rw [this]
      simp only [Bool.false_eq_true, if_false]
      rcases hf with hf | hf
      · exact absurd hf he
      · right; simp only at hf ⊢; omega

theorem conv_sound (hs : StRel P kl G W st A) {src dst : TypeId} {ck : CK} {x v : V} {cx : Value} (hk : ckOk P src dst ck = true) (h : convV st ck x = some v) (hx : VR G W x cx) :
    Post P kl G W st A v ((convert src dst cx).run P W) ∧ v.plain = true := by
  unfold convV at h
  split at h
  · -- int
    simp only [ckOk, Bool.and_eq_true] at hk
    obtain ⟨k1, h1⟩ := isInt_spec hk.1
    have h2 := isKind_spec hk.2
    cases hx
    simp only [Option.some.injEq] at h
    subst h
    refine ⟨Post.here hs (c := .int _ (wr _ _)) ?_ (.i _ _), rfl⟩
    simp only [convert, Sem.run_bind, run_underlying' h1, run_underlying' h2, Result.andThen_ok, Conv.intToInt, wr_eq]
    rfl
  · -- string to string
    simp only [ckOk, Bool.and_eq_true] at hk
    have h1 := isStr_spec hk.1
    have h2 := isStr_spec hk.2
    simp only [Option.some.injEq] at h
    subst h
    generalize hcx : cx = c at hx
    cases hx with | s _ s hl =>
    refine ⟨Post.here hs (c := .string s) ?_ (.s _ s hl), rfl⟩
    simp only [convert, Sem.run_bind, run_underlying' h1, run_underlying' h2, Result.andThen_ok]
    rfl
  · -- a rune
    simp only [ckOk, Bool.and_eq_true] at hk
    obtain ⟨k1, h1⟩ := isInt_spec hk.1
    have h2 := isStr_spec hk.2
    cases hx
    simp only [Option.some.injEq] at h
    subst h
    refine ⟨Post.here hs (c := .string _) ?_ (.s _ _ rfl), rfl⟩
    simp only [convert, Sem.run_bind, run_underlying' h1, run_underlying' h2, Result.andThen_ok, Conv.intToString]
    rfl
  · -- bytes
    simp only [ckOk, Bool.and_eq_true] at hk
    have h1 := isStr_spec hk.1
    obtain ⟨e, h2, h3⟩ := elemIs_spec hk.2
    simp only [Option.some.injEq] at h
    subst h
    generalize hcx : cx = c at hx
    cases hx with | s _ s hl =>
    subst hl
    have kp := keep_bytes G W e s (.ro s.data.toList.length)
    refine ⟨⟨_, _, _, Lib.run_convert_string_bytes W src dst e s h1 h2 h3, kp.ext, hs.keep kp (fun _ _ h => h) rfl, ?_⟩, rfl⟩
    have hlen : s.data.toList.length = s.size := Array.length_toList
    rw [hlen]
    refine .sl _ _ _ _ _ W.heap.size 0 (fun j => .int .u8 (s.data.toList.getD j 0).toNat) (grownCap_le W _ _ _) (fun _ => rfl) (fun j hj => ?_) (fun j hj => ?_) (fun j hj => ?_) trivial
    · simp only [List.length_map] at hj
      unfold Gh.imm
      rw [own_at]; simp only; omega
    · simp only [List.length_map] at hj
      rw [Nat.zero_add]
      exact Lib.bytesWorld_cell W e s j (by omega)
    · simp only [List.length_map] at hj
      have : (s.data.toList.map byteV).getD j .any = byteV (s.data.toList.getD j 0) := by
        simp only [List.getD_eq_getElem?_getD, List.getElem?_map, List.getElem?_eq_getElem hj, Option.map_some, Option.getD_some]
      rw [this]; exact .i _ _
  · -- runes
    simp only [ckOk, Bool.and_eq_true] at hk
    have h1 := isStr_spec hk.1
    obtain ⟨e, h2, h3⟩ := elemIs_spec hk.2
    simp only [Option.some.injEq] at h
    subst h
    generalize hcx : cx = c at hx
    cases hx with | s _ s hl =>
    subst hl
    have hlen : s.data.toList.length = s.size := Array.length_toList
    have hru := runesFrom_eq s s.size 0 #[]
    simp only [List.drop_zero] at hru
    rw [hlen]
    generalize hrl : runesL s.size s.data.toList = rl at *
    have hints : ∀ v ∈ rl, ∃ k n, v = V.i k n := fun v hv => by
      subst hrl
      obtain ⟨n, e⟩ := runesL_i _ _ v hv
      exact ⟨_, n, e⟩
    have hru' : Conv.runesFrom s s.size 0 #[] = (rl.map conc).toArray := by rw [hru]; simp
    have kp := (keep_drew G W).ext.trans (Keep.alloc G W.drew (.cells ((rl.map conc).toArray ++ Array.replicate (grownCap W rl.length 0 e - rl.length) (.int .i32 0)) e) (.ro rl.length)).ext
    have hs' := (hs.keep (keep_drew G W) (fun _ _ h => h) rfl).keep (Keep.alloc G W.drew (.cells ((rl.map conc).toArray ++ Array.replicate (grownCap W rl.length 0 e - rl.length) (.int .i32 0)) e) (.ro rl.length)) (fun _ _ h => h) rfl
    refine ⟨⟨.slice (some ⟨W.heap.size, 0, none⟩) rl.length (grownCap W rl.length 0 e), _, _, ?_, kp, hs', ?_⟩, rfl⟩
    · simp only [convert, Sem.run_bind, run_underlying' h1, run_underlying' h2, run_underlying' h3, Result.andThen_ok, Conv.stringToRunes, hru']
      simp [choose, Sem.run, Question.forced, newRow, newObj, grownCap, World.alloc, World.drew, -World.alloc_eq, -World.drew_eq]
    · refine VR.newRo (G := G) (W := W.drew) (xs := rl) e (0, 0) (by simp) (grownCap_le W _ _ _) (fun j hj => ?_) .no (.ro rl.length) (.inl rfl) _ (Keep.alloc G W.drew _ _).ext (own_at _ _ _) trivial
      rw [getD_append_left (by simpa using hj)]
      exact VRs.map_conc hints j hj
  · -- unsafe pointer
    rename_i id o
    split at h
    · rename_i ty cs hl
      cases hb : Nat.blt o cs.length with
      | false => rw [hb] at h; cases h
      | true =>
        rw [hb] at h
        simp only [cond_true, Option.some.injEq] at h
        subst h
        cases hx with | p _ _ b hob =>
        obtain ⟨b', e1, _, hc⟩ := hs.mem.objs id _ hl
        rw [e1] at hob; cases hob
        obtain ⟨c, fz, g1, gf, g2, _⟩ := CellsRel.ex hc
        have hlt : o < cs.length := by simp [Nat.blt] at hb; omega
        simp only [ckOk] at hk
        split at hk
        · rename_i t hu1 hu2
          cases hz : szOf P t with
          | none => rw [hz] at hk; cases hk
          | some z =>
          rw [hz] at hk
          have hz0 : z ≠ 0 := by intro h0; subst h0; cases hk
          refine ⟨Post.here hs (c := .pointer (some ⟨b, o, none⟩)) ?_ (.p id o b e1), rfl⟩
          simp only [convert, Sem.run_bind, run_underlying' hu1, run_underlying' hu2, Result.andThen_ok, Conv.unsafePointer, Conv.seenAt, run_viewAt_none g1]
          have hsh : W.shape? b = some (ty, c.size) := by simp [World.shape?, g1]
          simp [cellsIn, shape, Sem.run, hsh, run_sizeOf' hz, hz0]
          omega
        · cases hk
    · cases h
  · -- back
    rename_i u n id
    split at h
    · rename_i ty cs hl
      cases hb : (Nat.beq ty u && Nat.beq cs.length n) with
      | false => rw [hb] at h; cases h
      | true =>
        rw [hb] at h
        simp only [cond_true, Option.some.injEq] at h
        subst h
        simp only [Bool.and_eq_true] at hb
        have e3 := Nat.eq_of_beq_eq_true hb.1
        have e4 := Nat.eq_of_beq_eq_true hb.2
        subst e3; subst e4
        cases hx with | p _ _ b hob =>
        obtain ⟨b', e1, _, hc⟩ := hs.mem.objs id _ hl
        rw [e1] at hob; cases hob
        obtain ⟨c, fz, g1, gf, g2, _⟩ := CellsRel.ex hc
        simp only [ckOk] at hk
        split at hk
        · rename_i t hu1 hu2
          simp only [Bool.and_eq_true] at hk
          obtain ⟨⟨⟨k1, k2⟩, k3⟩, k4⟩ := hk
          have := Nat.eq_of_beq_eq_true k1
          subst this
          cases hz : szOf P t with
          | none => rw [hz] at k2; cases k2
          | some z =>
          rw [hz] at k2
          have hz0 : z ≠ 0 := by intro h0; subst h0; cases k2
          refine ⟨Post.here hs (c := .pointer (some ⟨b, 0, none⟩)) ?_ (.p id 0 b e1), rfl⟩
          have k4 := liesAt_mono (Nat.div_le_div_right (c := P.cellsOf t) g2) k4
          simp only [convert, Sem.run_bind, run_underlying' hu1, run_underlying' hu2, Result.andThen_ok, Conv.unsafePointer, Conv.seenAt, run_viewAt_none g1]
          have hsh : W.shape? b = some (t, c.size) := by simp [World.shape?, g1]
          simp [run_sizeOf' hz, hz0, variablesAt, k4, program, Sem.run, shape, hsh]
        · cases hk
    · cases h
  · -- the same
    rename_i id off n sz
    simp only [ckOk, Bool.and_eq_true] at hk
    obtain ⟨e, h1, h3⟩ := elemIs_spec hk.2
    have := Nat.eq_of_beq_eq_true hk.1
    subst this
    split at h
    · rename_i ty cs hl
      simp only [Option.some.injEq] at h
      subst h
      have hx0 := hx
      cases hx with | hs _ _ _ _ b cap ad hob hn had hz hbs =>
      obtain ⟨o', rfl⟩ := hz
      obtain ⟨b', e1, e2, hc⟩ := hs.mem.objs id _ hl
      rw [e1] at hob; cases hob
      obtain ⟨c, fz, g1, gf, g2, g3⟩ := CellsRel.ex hc
      obtain ⟨tn, fz', f1, f2⟩ := mark_turn g1 gf
      have hm : (G.own b).mine = true := by rw [e2]; rfl
      have ex := tn.ext hm
      have hr : ObjRel G (W.freeze ⟨b, c.size, none⟩ 1) b (.cells ty cs) := ⟨c, fz', f1, f2, g2, fun j hj => (g3 j hj).mono ex⟩
      have hs' := hs.setObj tn e2 e1 hr
      have hst : ({ st with h := st.h.setObj id (.cells ty cs) } : St) = st := by
        simp only [H.setObj, alSet_same _ _ hl]
      rw [hst] at hs'
      refine ⟨⟨.slice (some ⟨b, o', none⟩) n cap, G, _, ?_, ex, hs', hx0.mono ex⟩, rfl⟩
      simp only [convert, Sem.run_bind, run_underlying' h1, run_underlying' h3, Result.andThen_ok, beq_self_eq_true, markStringish, run_shape_some g1, run_freeze, Sem.run_pure]
    · cases h
  · -- to a string
    simp only [ckOk, Bool.and_eq_true] at hk
    obtain ⟨e, h1, h3⟩ := elemIs_spec hk.1
    have h2 := isStr_spec hk.2
    split at h
    · rename_i cs n hrow
      cases hby : bytesOf? cs with
      | none => rw [hby] at h; cases h
      | some l =>
      rw [hby] at h
      simp only [Option.map_some, Option.some.injEq] at h
      subst h
      obtain ⟨ns, e1, e2⟩ := bytesOf?_spec hby
      obtain ⟨hl, hh⟩ := row_sound hs hrow hx (by omega)
      rcases hh with ⟨s, rfl, _, rfl, e5⟩ | ⟨a, cap, b, o, f, rfl, hn, ha, hc, hr⟩
      · refine ⟨Post.here hs (c := .string s) ?_ (.s _ s ?_), rfl⟩
        · simp only [convert, Sem.run_bind, run_underlying' h1, run_underlying' h2, Result.andThen_ok]
          rfl
        · rw [e2]
          have : s.data.toList.map byteV = ns.map (V.i .u8) := by rw [← e5, e1]
          have h6 : s.data.toList.map (fun b => (b.toNat : Int)) = ns := by
            have := congrArg (List.map fun v => match v with | V.i _ n => n | _ => 0) this
            simpa [List.map_map, Function.comp_def, byteV] using this
          rw [← h6]
          simp [List.map_map, Function.comp_def]
      · obtain ⟨arr, r1, r2, _⟩ := firstCells_sound hs hrow hx (by omega)
        rw [e1] at r2
        have harr := ints_of r2
        subst harr
        have hlc : cs.length = ns.length := by rw [e1]; simp
        cases a with
        | none =>
          have hx0 : cs = [] := by
            cases cs with
            | nil => rfl
            | cons y ys => have := ha (by simp); cases this
          have hns : ns = [] := by rw [hx0] at hlc; exact List.length_eq_zero_iff.1 hlc.symm
          subst hns
          refine ⟨Post.here hs (c := .string .empty) ?_ (.s _ _ (by rw [e2]; rfl)), rfl⟩
          simp only [convert, Sem.run_bind, run_underlying' h1, run_underlying' h2, run_underlying' h3, Result.andThen_ok, Conv.bytesToString]
          rfl
        | some a =>
          have hrun := run_bytesToString W a n cap ns (by simpa [Builtin.firstCells] using r1)
          refine ⟨Post.here hs (c := .string (ns.foldl (fun r n => r.push (UInt8.ofNat n.toNat)) ByteArray.empty)) ?_ (.s _ _ ?_), rfl⟩
          · simp only [convert, Sem.run_bind, run_underlying' h1, run_underlying' h2, run_underlying' h3, Result.andThen_ok]
            exact hrun
          · rw [foldl_push_bytes, e2]; simp
    · cases h
  · -- runes to a string
    simp only [ckOk, Bool.and_eq_true] at hk
    obtain ⟨e, h1, h3⟩ := elemIs_spec hk.1
    have h2 := isStr_spec hk.2
    split at h
    · rename_i cs n hrow
      cases hby : runesOf? cs with
      | none => rw [hby] at h; cases h
      | some l =>
      rw [hby] at h
      simp only [Option.map_some, Option.some.injEq] at h
      subst h
      obtain ⟨ns, e1, e2⟩ := runesOf?_spec hby
      obtain ⟨hl, hh⟩ := row_sound hs hrow hx (by omega)
      rcases hh with ⟨s, rfl, _, rfl, e5⟩ | ⟨a, cap, b, o, f, rfl, hn, ha, hc, hr⟩
      · have hns : ns = [] := by
          cases ns with
          | nil => rfl
          | cons m ms =>
            rw [e5] at e1
            cases hsd : s.data.toList with
            | nil => rw [hsd] at e1; cases e1
            | cons y ys => rw [hsd] at e1; simp [byteV] at e1
        subst hns
        have hsd : s.data.toList = [] := by
          have : s.data.toList.map byteV = [] := by rw [← e5, e1]; rfl
          simpa using this
        refine ⟨Post.here hs (c := .string s) ?_ (.s _ s (by rw [hsd, e2]; rfl)), rfl⟩
        simp only [convert, Sem.run_bind, run_underlying' h1, run_underlying' h2, Result.andThen_ok]
        rfl
      · obtain ⟨arr, r1, r2, _⟩ := firstCells_sound hs hrow hx (by omega)
        rw [e1] at r2
        have harr := ints_of r2
        subst harr
        have hlc : cs.length = ns.length := by rw [e1]; simp
        cases a with
        | none =>
          have hx0 : cs = [] := by
            cases cs with
            | nil => rfl
            | cons y ys => have := ha (by simp); cases this
          have hns : ns = [] := by rw [hx0] at hlc; exact List.length_eq_zero_iff.1 hlc.symm
          subst hns
          refine ⟨Post.here hs (c := .string .empty) ?_ (.s _ _ (by rw [e2]; rfl)), rfl⟩
          simp only [convert, Sem.run_bind, run_underlying' h1, run_underlying' h2, run_underlying' h3, Result.andThen_ok, Conv.runesToString]
          rfl
        | some a =>
          have hld : (loadCells a n).run P W = .ok (ns.map (Value.int .i32)).toArray W := by simpa [Builtin.firstCells] using r1
          refine ⟨Post.here hs (c := .string (ns.foldl (fun r n => r ++ Utf8.encode n) ByteArray.empty)) ?_ (.s _ _ ?_), rfl⟩
          · simp only [convert, Sem.run_bind, run_underlying' h1, run_underlying' h2, run_underlying' h3, Result.andThen_ok, Conv.runesToString, hld]
            rw [← Array.forIn_toList]
            simp only
            rw [forIn_runes _ ns _ (fun n s => rfl)]
            rfl
          · rw [foldl_encode, e2]; rfl
    · cases h
  · cases h

end
end Ai

namespace Ai
open Go

theorem natOf_sound {G : Gh} {W : World} {v : V} {c : Value} {n : Nat} (h : natOf v = some n) (hv : VR G W v c) : ∃ k, c = .int k (n : Int) := by
  unfold natOf at h
  split at h
  · rename_i k m
    split at h
    · rename_i hm
      cases hv
      simp only [Option.some.injEq] at h
      refine ⟨k, ?_⟩
      rw [← h, Int.toNat_of_nonneg hm]
    · cases h
  · cases h

/-- Optional bounds, ours and the model's. -/
inductive OR (G : Gh) (W : World) : Option V → Option Value → Prop
  | none : OR G W none none
  | some {v : V} {c : Value} (h : VR G W v c) : OR G W (some v) (some c)

section
variable {P : Program} {kl : List (Nat × List Nat)} {G : Gh} {W : World} {st : St} {A : Act}

theorem run_sliceBound {k : IntKind} {n y : Nat} (h : n ≤ y) (code : BoundsCode) : (Instr.sliceBound (.int k (n : Int)) y code).run P W = .ok n W := by
  have : (0 : Int) ≤ (n : Int) ∧ (n : Int) ≤ (y : Int) := ⟨by omega, by omega⟩
  simp [Instr.sliceBound, asIntOf, this]

theorem bnds_sound {n len cap : Nat} {lo hi mx : Option V} {clo chi cmx : Option Value} {l h : Nat} {m : Option Nat} (hb : bnds n lo hi mx = some (l, h, m)) (hlo : OR G W lo clo) (hhi : OR G W hi chi) (hmx : OR G W mx cmx)
    (hlen : n ≤ len) (hcap : len ≤ cap) (he : hi = none → n = len) (isS : Bool) (hm : mx ≠ none → hi ≠ none) :
    (Instr.sliceBounds isS len cap clo chi cmx).run P W = .ok (l, h, m.getD cap) W ∧ l ≤ h ∧ h ≤ m.getD n ∧ m.getD n ≤ n ∧ (m = none ↔ mx = none) := by
  unfold bnds at hb
  split at hb
  · cases hb
  · rename_i m' hm'
    split at hb
    · rename_i h' l' hh' hl'
      cases hc : (Nat.ble l' h' && Nat.ble h' m' && Nat.ble m' n) with
      | false => rw [hc] at hb; cases hb
      | true =>
        rw [hc] at hb
        simp only [cond_true, Option.some.injEq, Prod.mk.injEq] at hb
        obtain ⟨rfl, rfl, rfl⟩ := hb
        simp only [Bool.and_eq_true] at hc
        obtain ⟨⟨c1, c2⟩, c3⟩ := hc
        have c1 := Nat.le_of_ble_eq_true c1
        have c2 := Nat.le_of_ble_eq_true c2
        have c3 := Nat.le_of_ble_eq_true c3
        cases hmx with
        | none =>
          simp only [natOr, Option.some.injEq] at hm'
          subst hm'
          refine ⟨?_, c1, by simpa using c2, by simp, by simp⟩
          cases hhi with
          | none =>
            simp only [natOr, Option.some.injEq] at hh'
            subst hh'
            have hnl := he rfl
            cases hlo with
            | none =>
              simp only [natOr, Option.some.injEq] at hl'
              subst hl'
              simp [Instr.sliceBounds, hnl]
            | some hv =>
              obtain ⟨k, rfl⟩ := natOf_sound hl' hv
              simp only [Instr.sliceBounds, Sem.run_bind, Sem.run_pure, Result.andThen_ok]
              rw [run_sliceBound (by omega)]
              simp [hnl]
          | some hv =>
            obtain ⟨k, rfl⟩ := natOf_sound hh' hv
            cases hlo with
            | none =>
              simp only [natOr, Option.some.injEq] at hl'
              subst hl'
              simp only [Instr.sliceBounds, Sem.run_bind, Sem.run_pure, Result.andThen_ok]
              rw [run_sliceBound (by omega)]
              simp
            | some hv2 =>
              obtain ⟨k2, rfl⟩ := natOf_sound hl' hv2
              simp only [Instr.sliceBounds, Sem.run_bind, Sem.run_pure, Result.andThen_ok]
              rw [run_sliceBound (by omega)]
              simp only [Result.andThen_ok]
              rw [run_sliceBound (by omega)]
              simp
        | some hvm =>
          obtain ⟨km, rfl⟩ := natOf_sound hm' hvm
          refine ⟨?_, c1, by simpa using c2, by simpa using c3, by simp⟩
          cases hhi with
          | none => exact absurd rfl (hm (by simp))
          | some hv =>
            obtain ⟨k, rfl⟩ := natOf_sound hh' hv
            cases hlo with
            | none =>
              simp only [natOr, Option.some.injEq] at hl'
              subst hl'
              simp only [Instr.sliceBounds, Sem.run_bind, Sem.run_pure, Result.andThen_ok]
              rw [run_sliceBound (by omega)]
              simp only [Result.andThen_ok]
              rw [run_sliceBound (by omega)]
              simp
            | some hv2 =>
              obtain ⟨k2, rfl⟩ := natOf_sound hl' hv2
              simp only [Instr.sliceBounds, Sem.run_bind, Sem.run_pure]
              rw [run_sliceBound (by omega)]
              simp only [Result.andThen_ok]
              rw [run_sliceBound (by omega)]
              simp only [Result.andThen_ok]
              rw [run_sliceBound (by omega)]
              simp
    · cases hb

def skOk (P : Program) (t : TypeId) : SK → Bool
  | .str => isStr P t
  | .slice sz => match P.underlying t with
    | some (.slice e) => decide (szOf P e = some sz) && Nat.blt 0 sz
    | _ => false
  | .arr n sz => match P.underlying t with
    | some (.array m e) => Nat.beq m n && decide (szOf P e = some sz) && Nat.blt 0 sz && Nat.blt 0 n
    | _ => false

theorem blt_lt {a b : Nat} (h : Nat.blt a b = true) : a < b := by simp [Nat.blt] at h; omega

theorem drop_take_getD (xs : List V) (a n j : Nat) (h : j < n) : ((xs.drop a).take n).getD j .any = xs.getD (a + j) .any := by
  rw [getD_take _ _ h, getD_drop]

theorem drop_take_len {xs : List V} {a n : Nat} (h : a + n ≤ xs.length) : ((xs.drop a).take n).length = n := by
  simp only [List.length_take, List.length_drop]; omega

theorem TkOK.slc {a : Option Addr} {n cap : Nat} {tk : Tk} (h : TkOK G a n cap tk) {lo hi : Nat} {mx : Option Nat} (h1 : lo ≤ hi) (h2 : hi ≤ mx.getD n) (h3 : mx.getD n ≤ n) (hc : n ≤ cap) (a' : Option Addr) (ha : lo = 0 → hi = n → mx = none → a' = a) :
    TkOK G a' (hi - lo) (mx.getD cap - lo) (slcTk lo hi n mx tk) := by
  unfold slcTk
  cases mx with
  | some m =>
    simp only [Option.getD_some] at h2 h3 ⊢
    cases hb : Nat.beq m hi with
    | true => have := Nat.eq_of_beq_eq_true hb; subst this; exact rfl
    | false => trivial
  | none =>
    simp only [Option.getD_none] at h2 h3 ⊢
    cases hb : Nat.beq hi n with
    | false => trivial
    | true =>
      have := Nat.eq_of_beq_eq_true hb; subst this
      cases hb2 : Nat.beq lo 0 with
      | true =>
        have := Nat.eq_of_beq_eq_true hb2; subst this
        simp only [cond_true]
        rw [ha rfl rfl rfl]
        exact h
      | false =>
        simp only [cond_true, cond_false]
        cases tk with
        | full => simp only [TkOK] at h ⊢; omega
        | nil => trivial
        | no => trivial
        | own t => trivial

theorem slc_sound (hs : StRel P kl G W st A) {t : TypeId} {sk : SK} {x v : V} {cx : Value} {lo hi mx : Option V} {clo chi cmx : Option Value} (hk : skOk P t sk = true) (hok : okArr st sk x = true) (h : slcV sk x lo hi mx = some v)
    (hx : VR G W x cx) (hlo : OR G W lo clo) (hhi : OR G W hi chi) (hmx : OR G W mx cmx) (hm : mx ≠ none → hi ≠ none) :
    Post P kl G W st A v ((Instr.sliceAt t cx clo chi cmx).run P W) ∧ v.plain = true := by
  unfold slcV at h
  split at h
  · -- a string
    have hu := isStr_spec (by simpa [skOk] using hk)
    split at h
    · rename_i l hmn a b m hb
      simp only [Option.some.injEq] at h
      subst h
      cases hmx
      generalize hcx : cx = c at hx
      cases hx with | s _ s hl =>
      subst hl
      have hlen : s.data.toList.length = s.size := Array.length_toList
      rw [hlen] at hb
      obtain ⟨e1, e2, e3, _, e5⟩ := bnds_sound (P := P) hb hlo hhi .none (Nat.le_refl _) (Nat.le_refl _) (fun _ => rfl) false (fun h => absurd rfl h)
      refine ⟨Post.here hs (c := .string (s.extract a b)) ?_ (.s _ _ ?_), rfl⟩
      · simp only [Instr.sliceAt, Sem.run_bind, run_underlying' hu, Result.andThen_ok, Instr.slice]
        simp [e1]
      · rw [ByteArray.data_extract, Array.toList_extract, List.extract_eq_take_drop]
    · cases h
  · -- a slice
    rename_i sz xs n tk
    split at h
    · rename_i a b m hb
      cases hbl : Nat.beq xs.length (n * sz) with
      | false => rw [hbl] at h; cases h
      | true =>
        rw [hbl] at h
        simp only [cond_true, Option.some.injEq] at h
        subst h
        have hlen := Nat.eq_of_beq_eq_true hbl
        cases hx with | sl _ _ _ ad cap bl of cs hn ha hi' hc hv ht =>
        simp only [skOk] at hk
        split at hk
        · rename_i e hu
          simp only [Bool.and_eq_true, decide_eq_true_eq] at hk
          have hz := blt_lt hk.2
          obtain ⟨e1, e2, e3, e4, e5⟩ := bnds_sound (P := P) hb hlo hhi hmx (Nat.le_refl _) hn (fun _ => rfl) true hm
          have hle : a * sz + (b - a) * sz ≤ n * sz := by rw [← Nat.add_mul]; exact Nat.mul_le_mul_right _ (by omega)
          refine ⟨Post.here hs (c := .slice (if m.getD cap = a then ad else ad.map (·.add (a * sz))) (b - a) (m.getD cap - a)) ?_ ?_, rfl⟩
          · simp only [Instr.sliceAt, Sem.run_bind, run_underlying' hu, Result.andThen_ok, Instr.slice]
            simp [e1, run_sizeOf' hk.1]
          · have hl2 : ((xs.drop (a * sz)).take ((b - a) * sz)).length = (b - a) * sz := drop_take_len (by rw [hlen]; exact hle)
            refine .sl _ _ _ _ _ bl (of + a * sz) (fun j => cs (a * sz + j)) ?_ (fun hne => ?_) (fun j hj => ?_) (fun j hj => ?_) (fun j hj => ?_) ?_
            · cases m with
              | none => simp only [Option.getD_none] at *; omega
              | some m => simp only [Option.getD_some] at *; omega
            · have hpos : 0 < (b - a) * sz := by
                rw [← hl2]
                exact List.length_pos_iff.2 hne
              have hba : a < b := by
                rcases Nat.lt_or_ge a b with h | h
                · exact h
                · rw [Nat.sub_eq_zero_of_le h, Nat.zero_mul] at hpos; omega
              have hne' : ¬ (m.getD cap = a) := by
                cases m with
                | none => simp only [Option.getD_none] at *; omega
                | some m => simp only [Option.getD_some] at *; omega
              rw [if_neg hne', ha (by intro e; rw [e] at hlen; simp only [List.length_nil] at hlen; omega)]
              simp [add_mk]
            · rw [hl2] at hj
              rw [Nat.add_assoc]
              exact hi' _ (by omega)
            · rw [hl2] at hj
              rw [Nat.add_assoc]
              exact hc _ (by omega)
            · rw [hl2] at hj
              rw [drop_take_getD _ _ _ _ hj]
              exact hv _ (by omega)
            · refine ht.slc e2 e3 e4 hn _ (fun h1 h2 h3 => ?_)
              subst h1; subst h3
              simp only [Option.getD_none, Nat.zero_mul]
              split
              · rfl
              · cases ad with
                | none => rfl
                | some q => simp [Addr.add]
        · cases hk
    · cases h
  · -- a slice of the shared memory
    rename_i sz id off n sz'
    split at h
    · rename_i a b hb
      cases hbl : Nat.beq sz sz' with
      | false => rw [hbl] at h; cases h
      | true =>
        rw [hbl] at h
        simp only [cond_true, Option.some.injEq] at h
        subst h
        cases hx with | hs _ _ _ _ bl cap ad hob hn ha hz hcb =>
        simp only [skOk] at hk
        split at hk
        · rename_i e hu
          simp only [Bool.and_eq_true, decide_eq_true_eq] at hk
          obtain ⟨e1, e2, e3, e4, e5⟩ := bnds_sound (P := P) hb hlo hhi hmx (Nat.le_refl _) hn (fun _ => rfl) true hm
          simp only [Option.getD_none] at *
          refine ⟨Post.here hs (c := .slice (if cap = a then ad else ad.map (·.add (a * sz))) (b - a) (cap - a)) ?_ ?_, rfl⟩
          · simp only [Instr.sliceAt, Sem.run_bind, run_underlying' hu, Result.andThen_ok, Instr.slice]
            simp [e1, run_sizeOf' hk.1]
          · obtain ⟨o', hz⟩ := hz
            have hss := Nat.eq_of_beq_eq_true hbl
            subst hss
            refine .hs id _ _ _ bl _ _ hob (by omega) (fun hpos => ?_) ?_ ?_
            · rw [if_neg (by omega), ha (by omega)]
              simp [add_mk]
            · split
              · exact ⟨o', hz⟩
              · rw [hz]; exact ⟨o' + a * sz, by simp [add_mk]⟩
            · have : a * sz + (cap - a) * sz = cap * sz := by rw [← Nat.add_mul]; congr 1; omega
              omega
        · cases hk
    · -- nothing of it
      rename_i a b m hb
      cases hbl : (Nat.beq sz sz' && Nat.beq a m) with
      | false => rw [hbl] at h; cases h
      | true =>
        rw [hbl] at h
        simp only [cond_true, Option.some.injEq] at h
        subst h
        simp only [Bool.and_eq_true] at hbl
        have e8 := Nat.eq_of_beq_eq_true hbl.2
        subst e8
        cases hx with | hs _ _ _ _ bl cap ad hob hn ha hz hcb =>
        simp only [skOk] at hk
        split at hk
        · rename_i e hu
          simp only [Bool.and_eq_true, decide_eq_true_eq] at hk
          obtain ⟨e1, e2, e3, e4, e5⟩ := bnds_sound (P := P) hb hlo hhi hmx (Nat.le_refl _) hn (fun _ => rfl) true hm
          simp only [Option.getD_some] at *
          refine ⟨Post.here hs (c := .slice ad 0 0) ?_ (.sl [] 0 .full ad 0 0 0 (fun _ => undef) (Nat.le_refl _) (fun h => absurd rfl h) (fun j hj => by cases hj) (fun j hj => by cases hj) (fun j hj => by cases hj) rfl), rfl⟩
          simp only [Instr.sliceAt, Sem.run_bind, run_underlying' hu, Result.andThen_ok, Instr.slice]
          have hba : b - a = 0 := by omega
          simp [e1, run_sizeOf' hk.1, hba]
        · cases hk
    · cases h
  · -- an array of the shared memory
    rename_i n sz id off
    split at h
    · rename_i a b hb
      simp only [Option.some.injEq] at h
      subst h
      cases hx with | p _ _ bl hob =>
      simp only [skOk] at hk
      split at hk
      · rename_i m e hu
        simp only [Bool.and_eq_true, decide_eq_true_eq] at hk
        have := Nat.eq_of_beq_eq_true hk.1.1.1
        subst this
        obtain ⟨e1, e2, e3, e4, e5⟩ := bnds_sound (P := P) hb hlo hhi hmx (Nat.le_refl _) (Nat.le_refl _) (fun _ => rfl) false hm
        simp only [Option.getD_none] at e1 e3 e4
        refine ⟨Post.here hs (c := .slice (some (if m = a then ⟨bl, off, none⟩ else ⟨bl, off + a * sz, none⟩)) (b - a) (m - a)) ?_ ?_, rfl⟩
        · simp only [Instr.sliceAt, Sem.run_bind, run_underlying' hu, Result.andThen_ok]
          simp [e1, run_sizeOf' hk.1.1.2, add_mk, Instr.sureAddr]
        · refine .hs id _ _ _ bl _ _ hob (by omega) (fun hpos => ?_) ?_ ?_
          · rw [if_neg (by omega)]
          · split <;> exact ⟨_, rfl⟩
          · simp only [okArr] at hok
            split at hok
            · rename_i ty cs hl
              have h9 := Nat.le_of_ble_eq_true hok
              obtain ⟨b', q1, _, q3⟩ := hs.mem.objs id _ hl
              rw [q1] at hob; cases hob
              obtain ⟨c, fz, g1, gf, g2, g3⟩ := CellsRel.ex q3
              rw [bsz_cells g1]
              have : a * sz + (m - a) * sz = m * sz := by rw [← Nat.add_mul]; congr 1; omega
              omega
            · cases hok
      · cases hk
    · cases h
  · -- an array that is never written again
    rename_i n sz xs o
    split at h
    · rename_i x1 x2 a b ys hb hsub
      simp only [Option.some.injEq] at h
      subst h
      obtain ⟨g1, g2, g3, g4⟩ := sub?_spec hsub
      cases hx with | ip _ _ p bl of cs ha hi' hc hv =>
      simp only [skOk] at hk
      split at hk
      · rename_i m e hu
        simp only [Bool.and_eq_true, decide_eq_true_eq] at hk
        have := Nat.eq_of_beq_eq_true hk.1.1.1
        subst this
        have hz := blt_lt hk.1.2
        have hm0 := blt_lt hk.2
        obtain ⟨e1, e2, e3, e4, e5⟩ := bnds_sound (P := P) hb hlo hhi hmx (Nat.le_refl _) (Nat.le_refl _) (fun _ => rfl) false hm
        simp only [Option.getD_none] at e1 e3 e4
        have hle : a * sz + (b - a) * sz ≤ m * sz := by rw [← Nat.add_mul]; exact Nat.mul_le_mul_right _ (by omega)
        have hl2 : ((ys.drop (a * sz)).take ((b - a) * sz)).length = (b - a) * sz := drop_take_len (by rw [g1]; exact hle)
        · have hpos : 0 < m * sz := Nat.mul_pos hm0 hz
          have h4 := g4 hpos
          have hp := ha (by intro e; subst e; simp at h4; omega)
          subst hp
          refine ⟨Post.here hs (c := .slice (some (if m = a then ⟨bl, of + o, none⟩ else ⟨bl, of + o + a * sz, none⟩)) (b - a) (m - a)) ?_ ?_, rfl⟩
          · simp only [Instr.sliceAt, Sem.run_bind, run_underlying' hu, Result.andThen_ok]
            simp [e1, run_sizeOf' hk.1.1.2, add_mk, Instr.sureAddr]
          · refine .sl _ _ _ _ _ bl (of + (o + a * sz)) (fun j => cs (o + (a * sz + j))) (by omega) (fun hne => ?_) (fun j hj => ?_) (fun j hj => ?_) (fun j hj => ?_) trivial
            · have hpos : 0 < (b - a) * sz := by
                rw [← hl2]
                exact List.length_pos_iff.2 hne
              have hba : a < b := by
                rcases Nat.lt_or_ge a b with h | h
                · exact h
                · rw [Nat.sub_eq_zero_of_le h, Nat.zero_mul] at hpos; omega
              rw [if_neg (by omega)]
              simp only [Option.some.injEq, Addr.mk.injEq, and_true, true_and]; omega
            · rw [hl2] at hj
              rw [show of + (o + a * sz) + j = of + (o + (a * sz + j)) from by omega]
              exact hi' _ (by omega)
            · rw [hl2] at hj
              rw [show of + (o + a * sz) + j = of + (o + (a * sz + j)) from by omega]
              exact hc _ (by omega)
            · rw [hl2] at hj
              rw [drop_take_getD _ _ _ _ hj, g3 _ (by omega)]
              exact hv _ (by omega)
      · cases hk
    · cases h
  · cases h

end
end Ai
