/- The abstract interpreter: what grows, what stays. -/
import Derived.Test.YtbhclhgljnoioaaDoorAiG
import Derived.Laws.World
namespace Ai
open Go

/-- Of what was there nothing has turned. -/
structure Keep (G : Gh) (W : World) (G' : Gh) (W' : World) : Prop where
  tape : W'.tape = W.tape
  os : W'.os = W.os
  out : W'.output = W.output
  sz : W.heap.size ≤ W'.heap.size
  own : ∀ b, b < W.heap.size → G'.own b = G.own b
  heap : ∀ b, b < W.heap.size → W'.heap[b]? = W.heap[b]?
  obj : ∀ id b, G.obj id = some b → G'.obj id = some b
  nt : G.nt ≤ G'.nt
  tip : ∀ t, t < G.nt → G'.tip t = G.tip t ∧ G'.tka t = G.tka t
  lb : G'.lb = G.lb
  ib : G'.ib = G.ib

theorem Keep.ext {G G' : Gh} {W W' : World} (k : Keep G W G' W') : Ext G W G' W' where
  tape := k.tape
  os := k.os
  out := k.out
  sz := k.sz
  e1 := fun b hb ho => ⟨k.heap b hb, (k.own b hb).trans ho⟩
  ro := fun b f ho hb => ⟨k.heap b hb, (k.own b hb).trans ho⟩
  row := fun b t f ho hb => ⟨fun o _ => cell?_congr (k.heap b hb), f, Nat.le_refl _, .inl ((k.own b hb).trans ho)⟩
  obj := k.obj
  nt := k.nt
  tip := fun t ht => ⟨by rw [(k.tip t ht).1]; exact Nat.le_refl _, fun _ => (k.tip t ht).2⟩

theorem heap_lt {W : World} {b : Nat} {o : Go.Obj} (h : W.heap[b]? = some o) : b < W.heap.size := (Array.getElem?_eq_some_iff.1 h).1

section
variable {P : Program} {kl : List (Nat × List Nat)} {G G' : Gh} {W W' : World} {st : St} {A : Act}

theorem CellsRel.of_heap (e : Ext G W G' W') {b : Nat} {ty : TypeId} {cs : List V} (h : CellsRel G W b ty cs) (hb : W'.heap[b]? = W.heap[b]?) : CellsRel G' W' b ty cs := by
  obtain ⟨c, h1, h2, h3⟩ := h.ex
  exact ⟨c, hb.trans h1, h2, fun j hj => (h3 j hj).mono e⟩

theorem ObjRel.of_heap (e : Ext G W G' W') {b : Nat} {o : Obj} (h : ObjRel G W b o) (hb : W'.heap[b]? = W.heap[b]?) : ObjRel G' W' b o := by
  cases o with
  | cells ty cs => exact CellsRel.of_heap e h hb
  | map es =>
    obtain ⟨c, clock, h1, h2, h3⟩ := h.ex
    exact ⟨c, clock, hb.trans h1, h2, fun j hj => ⟨(h3 j hj).1.mono e, (h3 j hj).2.mono e⟩⟩

theorem ObjRel.lt {b : Nat} {o : Obj} (h : ObjRel G W b o) : b < W.heap.size := by
  cases o with
  | cells ty cs => obtain ⟨c, h1, _⟩ := h.ex; exact heap_lt h1
  | map es => obtain ⟨c, clock, h1, _⟩ := h.ex; exact heap_lt h1

theorem TipRel.of {sz : TypeId → Nat} {t n : Nat} {ty : TypeId} (h : TipRel G W sz t n ty) (ha : G'.tka t = G.tka t) (ho : ∀ b, b < W.heap.size → G'.own b = G.own b)
    (hh : ∀ b f, G.own b = .row t f → b < W.heap.size → W'.heap[b]? = W.heap[b]?) : TipRel G' W' sz t n ty := by
  rcases h with ⟨h, h0⟩ | ⟨b, base, cap, c, fz, h1, h2, h3, h4, h5, h6, h7⟩
  · exact .inl ⟨ha.trans h, h0⟩
  · exact .inr ⟨b, base, cap, c, fz, ha.trans h1, (ho b (heap_lt h3)).trans h2, (hh b _ h2 (heap_lt h3)).trans h3, h4, h5, h6, h7⟩

theorem HRel.keep {h : H} (k : Keep G W G' W') (hr : HRel P G W h) (ho : ∀ id b, G'.obj id = some b → G.obj id = some b) (hn : G'.nt = G.nt) : HRel P G' W' h where
  objs := fun id o hg => by
    obtain ⟨b, h1, h2, h3⟩ := hr.objs id o hg
    exact ⟨b, k.obj id b h1, (k.own b h3.lt).trans h2, h3.of_heap k.ext (k.heap b h3.lt)⟩
  next := fun id b hg => hr.next id b (ho id b hg)
  nt := hn.trans hr.nt
  tips := fun t n ty hg => by
    obtain ⟨h1, h2, h3⟩ := hr.tips t n ty hg
    have ht : t < G.nt := by rw [hr.nt]; exact h1
    exact ⟨h1, (k.tip t ht).1.trans h2, h3.of (k.tip t ht).2 k.own (fun b _ _ hb => k.heap b hb)⟩

theorem StRel.keepH (k : Keep G W G' W') (hs : StRel P kl G W st A) {h' : H} (hr : HRel P G' W' h') : StRel P kl G' W' { st with h := h' } A where
  T := fun i hi => (hs.T i hi).mono k.ext
  L := fun i d o hi he => by rw [k.lb]; exact hs.L i d o hi he
  I := fun i hi he => by rw [k.ib]; exact hs.I i hi he
  loc := fun d cs hg => by
    obtain ⟨h1, ty, h2⟩ := hs.loc d cs hg
    have hb : G.lb d < W.heap.size := by obtain ⟨c, h3, _⟩ := h2.ex; exact heap_lt h3
    rw [k.lb]
    exact ⟨(k.own _ hb).trans h1, ty, h2.of_heap k.ext (k.heap _ hb)⟩
  its := fun d l p hg => by
    obtain ⟨h1, s, h2, h3⟩ := hs.its d l p hg
    rw [k.ib]
    exact ⟨(k.own _ (heap_lt h2)).trans h1, s, (k.heap _ (heap_lt h2)).trans h2, h3⟩
  mem := hr
  gl := fun g => ⟨(hs.gl g).1, (hs.gl g).2.mono k.ext⟩

theorem StRel.keep (k : Keep G W G' W') (hs : StRel P kl G W st A) (ho : ∀ id b, G'.obj id = some b → G.obj id = some b) (hn : G'.nt = G.nt) : StRel P kl G' W' st A :=
  hs.keepH k (hs.mem.keep k ho hn)

def Gh.at (G : Gh) (b : Nat) (x : BK) : Gh := { G with own := fun i => if i = b then x else G.own i }

theorem own_at (G : Gh) (b : Nat) (x : BK) : (G.at b x).own b = x := by simp [Gh.at]
theorem own_at_ne (G : Gh) {b i : Nat} (x : BK) (h : i ≠ b) : (G.at b x).own i = G.own i := by simp [Gh.at, h]

theorem alloc_size (W : World) (o : Go.Obj) : (W.alloc o).heap.size = W.heap.size + 1 := Array.size_push o
theorem alloc_at (W : World) (o : Go.Obj) : (W.alloc o).heap[W.heap.size]? = some o := by
  show (W.heap.push o)[W.heap.size]? = some o
  simp
theorem alloc_ne (W : World) (o : Go.Obj) {b : Nat} (h : b < W.heap.size) : (W.alloc o).heap[b]? = W.heap[b]? := by
  show (W.heap.push o)[b]? = W.heap[b]?
  rw [Array.getElem?_push, if_neg (Nat.ne_of_lt h)]

/-- A new block. -/
theorem Keep.alloc (G : Gh) (W : World) (o : Go.Obj) (x : BK) : Keep G W (G.at W.heap.size x) (W.alloc o) where
  tape := rfl
  os := rfl
  out := rfl
  sz := by rw [alloc_size]; omega
  own := fun b hb => own_at_ne G x (Nat.ne_of_lt hb)
  heap := fun b hb => alloc_ne W o hb
  obj := fun _ _ h => h
  nt := Nat.le_refl _
  tip := fun _ _ => ⟨rfl, rfl⟩
  lb := rfl
  ib := rfl

theorem run_newObj (o : Go.Obj) : (newObj o).run P W = .ok W.heap.size (W.alloc o) := rfl
theorem run_newRow (e : TypeId) (c : Array Value) : (newRow e c).run P W = .ok ⟨W.heap.size, 0, none⟩ (W.alloc (.cells c e)) := rfl
theorem run_newVar (e : TypeId) (v : Value) : (newVar e v).run P W = .ok ⟨W.heap.size, 0, none⟩ (W.alloc (.cells v.cells e)) := rfl

/-- A new row that is never written again. -/
theorem VR.newRo {G : Gh} {W : World} {xs : List V} {c : Array Value} (e : TypeId) (fz : Nat × Nat) {cap n : Nat} (hl : xs.length ≤ c.size) (hn : n ≤ cap)
    (hv : ∀ j, j < xs.length → VR G W (xs.getD j .any) (c.getD j undef)) (tk : Tk) (x : BK) (hx : x = .ro xs.length ∨ ∃ t, x = .row t xs.length)
    (G' : Gh) (ke : Ext G W G' (W.alloc (.cells c e fz))) (hG : G'.own W.heap.size = x) (ht : TkOK G' (some ⟨W.heap.size, 0, none⟩) n cap tk) :
    VR G' (W.alloc (.cells c e fz)) (.sl xs n tk) (.slice (some ⟨W.heap.size, 0, none⟩) n cap) := by
  refine .sl xs n tk _ cap W.heap.size 0 (fun j => c.getD j undef) hn (fun _ => rfl) (fun j hj => ?_) (fun j hj => ?_) (fun j hj => (hv j hj).mono ke) ht
  · unfold Gh.imm
    rw [hG]
    rcases hx with hx | ⟨t, hx⟩ <;> rw [hx] <;> simp only <;> omega
  · rw [Nat.zero_add]
    exact cell_getD (alloc_at W _) (by omega)

end
end Ai
