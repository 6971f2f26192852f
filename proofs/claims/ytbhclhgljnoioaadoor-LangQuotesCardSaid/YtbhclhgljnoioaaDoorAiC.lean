/- The abstract interpreter: what its values say of the model's memory. -/
import Derived.Test.YtbhclhgljnoioaaDoorAiB
import Derived.Below
namespace Ai
open Go

/-- Whose is a block? -/
inductive BK where
  | ext                      -- somebody else's: not read, not written
  | obj (id : Nat)           -- the shared memory's
  | row (t f : Nat)          -- the first f cells are never written again; behind them is the token's
  | ro (f : Nat)             -- the block is never written again; of the first f cells values speak
  | loc (d : Nat)            -- a variable of the frame
  | it (d : Nat)             -- an iterator of the frame

/-- What the proof knows besides. -/
structure Gh where
  own : Nat → BK
  obj : Nat → Option Nat
  nt : Nat
  tip : Nat → Nat
  tka : Nat → Option Addr × Nat
  lb : Nat → Nat
  ib : Nat → Nat

def Gh.imm (G : Gh) (b o : Nat) : Prop :=
  match G.own b with
  | .row _ f => o < f
  | .ro f => o < f
  | _ => False

def TkOK (G : Gh) (a : Option Addr) (n cap : Nat) : Tk → Prop
  | .no => True
  | .full => cap = n
  | .nil => a = none ∧ cap = 0
  | .own t => t < G.nt ∧ n ≤ G.tip t ∧ (n = G.tip t → G.tka t = (a, cap))

inductive VR (G : Gh) (W : World) : V → Value → Prop
  | any (c : Value) : VR G W .any c
  | it (c : Value) : VR G W .it c
  | l (d o : Nat) (c : Value) : VR G W (.l d o) c
  | b (x : Bool) : VR G W (.b x) (.bool x)
  | i (k : IntKind) (n : Int) : VR G W (.i k n) (.int k n)
  | s (l : List UInt8) (s : ByteArray) (h : s.data.toList = l) : VR G W (.s l) (.string s)
  | sl (xs : List V) (n : Nat) (tk : Tk) (a : Option Addr) (cap b o : Nat) (cs : Nat → Value)
      (hn : n ≤ cap) (ha : xs ≠ [] → a = some ⟨b, o, none⟩)
      (hi : ∀ j, j < xs.length → G.imm b (o + j))
      (hc : ∀ j, j < xs.length → W.cell? ⟨b, o + j, none⟩ = some (cs j))
      (hv : ∀ j, j < xs.length → VR G W (xs.getD j .any) (cs j))
      (ht : TkOK G a n cap tk) : VR G W (.sl xs n tk) (.slice a n cap)
  | ip (xs : List V) (q : Nat) (p : Option Addr) (b o : Nat) (cs : Nat → Value)
      (ha : xs ≠ [] → p = some ⟨b, o + q, none⟩)
      (hi : ∀ j, j < xs.length → G.imm b (o + j))
      (hc : ∀ j, j < xs.length → W.cell? ⟨b, o + j, none⟩ = some (cs j))
      (hv : ∀ j, j < xs.length → VR G W (xs.getD j .any) (cs j)) : VR G W (.ip xs q) (.pointer p)
  | sd (xs : List V) (n : Nat) (tk : Tk) (p : Option Addr) (b o cap : Nat) (cs : Nat → Value)
      (ha : xs ≠ [] → p = some ⟨b, o, none⟩)
      (hi : ∀ j, j < xs.length → G.imm b (o + j))
      (hc : ∀ j, j < xs.length → W.cell? ⟨b, o + j, none⟩ = some (cs j))
      (hv : ∀ j, j < xs.length → VR G W (xs.getD j .any) (cs j))
      (ht : xs ≠ [] → TkOK G (some ⟨b, o, none⟩) n cap tk) : VR G W (.sd xs n tk) (.pointer p)
  | hs (id off n sz b cap : Nat) (a : Option Addr) (h : G.obj id = some b) (hn : n ≤ cap) (ha : 0 < n → a = some ⟨b, off, none⟩) : VR G W (.hs id off n sz) (.slice a n cap)
  | p (id o b : Nat) (h : G.obj id = some b) : VR G W (.p id o) (.pointer (some ⟨b, o, none⟩))
  | nilp : VR G W .nilp (.pointer none)
  | m0 : VR G W (.m none) (.map none)
  | m (id b : Nat) (h : G.obj id = some b) : VR G W (.m (some id)) (.map (some b))
  | fn (f : FuncId) (x y : List V) (a c : Array Value)
      (h1 : x.length = a.size) (h2 : ∀ j, j < x.length → VR G W (x.getD j .any) (a.getD j undef))
      (h3 : y.length = c.size) (h4 : ∀ j, j < y.length → VR G W (y.getD j .any) (c.getD j undef)) : VR G W (.fn f x y) (.func (.func f) a c)
  | nilf : VR G W .nilf .nilFunc
  | ifc (t : TypeId) (v : V) (c : Value) (h : VR G W v c) : VR G W (.ifc t v) (.iface t c)
  | nili : VR G W .nili .nilIface
  | agg (x : List V) (a : Array Value) (h1 : x.length = a.size) (h2 : ∀ j, j < x.length → VR G W (x.getD j .any) (a.getD j undef)) : VR G W (.agg x) (.agg a)
  | tup (x : List V) (a : Array Value) (h1 : x.length = a.size) (h2 : ∀ j, j < x.length → VR G W (x.getD j .any) (a.getD j undef)) : VR G W (.tup x) (.tuple a)

/-- A list of values, and an array. -/
def VRs (G : Gh) (W : World) (x : List V) (a : Array Value) : Prop :=
  x.length = a.size ∧ ∀ j, j < x.length → VR G W (x.getD j .any) (a.getD j undef)

/-- From here on: what was said stays true. -/
structure Ext (G : Gh) (W : World) (G' : Gh) (W' : World) : Prop where
  tape : W'.tape = W.tape
  os : W'.os = W.os
  out : W'.output = W.output
  sz : W.heap.size ≤ W'.heap.size
  e1 : ∀ b, b < W.heap.size → G.own b = .ext → W'.heap[b]? = W.heap[b]? ∧ G'.own b = .ext
  ro : ∀ b f, G.own b = .ro f → b < W.heap.size → W'.heap[b]? = W.heap[b]? ∧ G'.own b = .ro f
  row : ∀ b t f, G.own b = .row t f → b < W.heap.size → (∀ o, o < f → W'.cell? ⟨b, o, none⟩ = W.cell? ⟨b, o, none⟩) ∧ ∃ f', f ≤ f' ∧ (G'.own b = .row t f' ∨ G'.own b = .ro f')
  obj : ∀ id b, G.obj id = some b → G'.obj id = some b
  nt : G.nt ≤ G'.nt
  tip : ∀ t, t < G.nt → G.tip t ≤ G'.tip t ∧ (G.tip t = G'.tip t → G'.tka t = G.tka t)

theorem cell?_lt {W : World} {b o : Nat} {v : Value} (h : W.cell? ⟨b, o, none⟩ = some v) : b < W.heap.size := by
  unfold World.cell? at h
  rcases Nat.lt_or_ge b W.heap.size with h1 | h1
  · exact h1
  · simp [Array.getElem?_eq_none h1] at h

theorem cell?_congr {W W' : World} {b o : Nat} (h : W'.heap[b]? = W.heap[b]?) : W'.cell? ⟨b, o, none⟩ = W.cell? ⟨b, o, none⟩ := by
  simp only [World.cell?]; rw [h]

theorem Ext.refl (G : Gh) (W : World) : Ext G W G W :=
  ⟨rfl, rfl, rfl, Nat.le_refl _, fun _ _ h => ⟨rfl, h⟩, fun _ _ h _ => ⟨rfl, h⟩, fun _ _ f h _ => ⟨fun _ _ => rfl, f, Nat.le_refl _, .inl h⟩,
    fun _ _ h => h, Nat.le_refl _, fun _ _ => ⟨Nat.le_refl _, fun _ => rfl⟩⟩

theorem Ext.trans {G G1 G2 : Gh} {W W1 W2 : World} (h : Ext G W G1 W1) (k : Ext G1 W1 G2 W2) : Ext G W G2 W2 where
  tape := k.tape.trans h.tape
  os := k.os.trans h.os
  out := k.out.trans h.out
  sz := Nat.le_trans h.sz k.sz
  e1 := fun b hb ho => by
    obtain ⟨a, c⟩ := h.e1 b hb ho
    obtain ⟨a2, c2⟩ := k.e1 b (Nat.lt_of_lt_of_le hb h.sz) c
    exact ⟨a2.trans a, c2⟩
  ro := fun b f ho hb => by
    obtain ⟨a, c⟩ := h.ro b f ho hb
    obtain ⟨a2, c2⟩ := k.ro b f c (Nat.lt_of_lt_of_le hb h.sz)
    exact ⟨a2.trans a, c2⟩
  row := fun b t f ho hb => by
    obtain ⟨a, f', hf, c⟩ := h.row b t f ho hb
    have hb' := Nat.lt_of_lt_of_le hb h.sz
    rcases c with c | c
    · obtain ⟨a2, f2, hf2, c2⟩ := k.row b t f' c hb'
      exact ⟨fun o ho => (a2 o (by omega)).trans (a o ho), f2, by omega, c2⟩
    · obtain ⟨a2, c2⟩ := k.ro b f' c hb'
      exact ⟨fun o ho => (cell?_congr a2).trans (a o ho), f', hf, .inr c2⟩
  obj := fun id b ho => k.obj id b (h.obj id b ho)
  nt := Nat.le_trans h.nt k.nt
  tip := fun t ht => by
    obtain ⟨a, c⟩ := h.tip t ht
    obtain ⟨a2, c2⟩ := k.tip t (Nat.lt_of_lt_of_le ht h.nt)
    refine ⟨Nat.le_trans a a2, fun e => ?_⟩
    rw [c2 (by omega), c (by omega)]

theorem Ext.imm {G G' : Gh} {W W' : World} (h : Ext G W G' W') {b o : Nat} {v : Value} (hi : G.imm b o) (hc : W.cell? ⟨b, o, none⟩ = some v) :
    G'.imm b o ∧ W'.cell? ⟨b, o, none⟩ = some v := by
  have hb := cell?_lt hc
  unfold Gh.imm at hi
  split at hi
  · rename_i t f ho
    obtain ⟨a, f', hf, c⟩ := h.row b t f ho hb
    refine ⟨?_, by rw [a o hi]; exact hc⟩
    unfold Gh.imm
    rcases c with c | c <;> rw [c] <;> simp only <;> omega
  · rename_i f ho
    obtain ⟨a, c⟩ := h.ro b f ho hb
    refine ⟨?_, by rw [cell?_congr a]; exact hc⟩
    unfold Gh.imm
    rw [c]; exact hi
  · exact hi.elim

theorem TkOK.mono {G G' : Gh} {W W' : World} (h : Ext G W G' W') {a : Option Addr} {n cap : Nat} {tk : Tk} (ht : TkOK G a n cap tk) : TkOK G' a n cap tk := by
  cases tk with
  | no => trivial
  | full => exact ht
  | nil => exact ht
  | own t =>
    obtain ⟨h1, h2, h3⟩ := ht
    obtain ⟨a1, a2⟩ := h.tip t h1
    refine ⟨Nat.lt_of_lt_of_le h1 h.nt, by omega, fun e => ?_⟩
    rw [a2 (by omega)]; exact h3 (by omega)

theorem VR.mono {G G' : Gh} {W W' : World} (e : Ext G W G' W') {v : V} {c : Value} (h : VR G W v c) : VR G' W' v c := by
  induction h with
  | any c => exact .any c
  | it c => exact .it c
  | l d o c => exact .l d o c
  | b x => exact .b x
  | i k n => exact .i k n
  | s l s h => exact .s l s h
  | sl xs n tk a cap b o cs hn ha hi hc hv ht ih =>
    exact .sl xs n tk a cap b o cs hn ha (fun j hj => (e.imm (hi j hj) (hc j hj)).1) (fun j hj => (e.imm (hi j hj) (hc j hj)).2) ih (ht.mono e)
  | ip xs q p b o cs ha hi hc hv ih =>
    exact .ip xs q p b o cs ha (fun j hj => (e.imm (hi j hj) (hc j hj)).1) (fun j hj => (e.imm (hi j hj) (hc j hj)).2) ih
  | sd xs n tk p b o cap cs ha hi hc hv ht ih =>
    exact .sd xs n tk p b o cap cs ha (fun j hj => (e.imm (hi j hj) (hc j hj)).1) (fun j hj => (e.imm (hi j hj) (hc j hj)).2) ih (fun hx => (ht hx).mono e)
  | hs id off n sz b cap a h hn ha => exact .hs id off n sz b cap a (e.obj id b h) hn ha
  | p id o b h => exact .p id o b (e.obj id b h)
  | nilp => exact .nilp
  | m0 => exact .m0
  | m id b h => exact .m id b (e.obj id b h)
  | fn f x y a c h1 h2 h3 h4 ih2 ih4 => exact .fn f x y a c h1 ih2 h3 ih4
  | nilf => exact .nilf
  | ifc t v c h ih => exact .ifc t v c ih
  | nili => exact .nili
  | agg x a h1 h2 ih => exact .agg x a h1 ih
  | tup x a h1 h2 ih => exact .tup x a h1 ih

theorem VRs.mono {G G' : Gh} {W W' : World} (e : Ext G W G' W') {x : List V} {a : Array Value} (h : VRs G W x a) : VRs G' W' x a :=
  ⟨h.1, fun j hj => (h.2 j hj).mono e⟩

/-- Only what the ghost says of values matters to values. -/
theorem VR.ghost {G G' : Gh} {W : World} (hi : ∀ b o, G.imm b o → G'.imm b o) (ho : ∀ id b, G.obj id = some b → G'.obj id = some b)
    (ht : ∀ a n cap tk, TkOK G a n cap tk → TkOK G' a n cap tk) {v : V} {c : Value} (h : VR G W v c) : VR G' W v c := by
  induction h with
  | any c => exact .any c
  | it c => exact .it c
  | l d o c => exact .l d o c
  | b x => exact .b x
  | i k n => exact .i k n
  | s l s h => exact .s l s h
  | sl xs n tk a cap b o cs hn ha hi' hc hv ht' ih => exact .sl xs n tk a cap b o cs hn ha (fun j hj => hi _ _ (hi' j hj)) hc ih (ht _ _ _ _ ht')
  | ip xs q p b o cs ha hi' hc hv ih => exact .ip xs q p b o cs ha (fun j hj => hi _ _ (hi' j hj)) hc ih
  | sd xs n tk p b o cap cs ha hi' hc hv ht' ih => exact .sd xs n tk p b o cap cs ha (fun j hj => hi _ _ (hi' j hj)) hc ih (fun hx => ht _ _ _ _ (ht' hx))
  | hs id off n sz b cap a h hn ha => exact .hs id off n sz b cap a (ho id b h) hn ha
  | p id o b h => exact .p id o b (ho id b h)
  | nilp => exact .nilp
  | m0 => exact .m0
  | m id b h => exact .m id b (ho id b h)
  | fn f x y a c h1 h2 h3 h4 ih2 ih4 => exact .fn f x y a c h1 ih2 h3 ih4
  | nilf => exact .nilf
  | ifc t v c h ih => exact .ifc t v c ih
  | nili => exact .nili
  | agg x a h1 h2 ih => exact .agg x a h1 ih
  | tup x a h1 h2 ih => exact .tup x a h1 ih

/-! ### The shared memory -/
/-- Cells of a block are the list's, and may be written. -/
structure CellsRel (G : Gh) (W : World) (b : Nat) (ty : TypeId) (cs : List V) : Prop where
  ex : ∃ c : Array Value, W.heap[b]? = some (.cells c ty (0, 0)) ∧ cs.length = c.size ∧ ∀ j, j < cs.length → VR G W (cs.getD j .any) (c.getD j undef)

structure MapRel (G : Gh) (W : World) (b : Nat) (es : List (V × V)) : Prop where
  ex : ∃ (c : Array MapEntry) (clock : Nat), W.heap[b]? = some (.map c clock) ∧ es.length = c.size ∧
    ∀ j, j < es.length → VR G W (es.getD j (.any, .any)).1 (c.getD j default).key ∧ VR G W (es.getD j (.any, .any)).2 (c.getD j default).val

def ObjRel (G : Gh) (W : World) (b : Nat) : Obj → Prop
  | .cells ty cs => CellsRel G W b ty cs
  | .map es => MapRel G W b es

/-- A live token: the cells behind its tip are there, and nobody else's. -/
def TipRel (G : Gh) (W : World) (sz : TypeId → Nat) (t n : Nat) (ty : TypeId) : Prop :=
  (G.tka t = (none, 0) ∧ n = 0) ∨
  ∃ b base cap c fz, G.tka t = (some ⟨b, base, none⟩, cap) ∧ G.own b = .row t (base + n * sz ty) ∧ W.heap[b]? = some (.cells c ty fz) ∧
    base + cap * sz ty ≤ c.size ∧ (fz.1 = fz.2 ∨ fz.2 ≤ base + n * sz ty) ∧ n ≤ cap ∧ base = 0

structure HRel (P : Program) (G : Gh) (W : World) (h : H) : Prop where
  objs : ∀ id o, al h.objs id = some o → ∃ b, G.obj id = some b ∧ G.own b = .obj id ∧ ObjRel G W b o
  next : ∀ id b, G.obj id = some b → id < h.next
  nt : G.nt = h.nt
  tips : ∀ t n ty, al h.tips t = some (n, ty) → t < h.nt ∧ G.tip t = n ∧ TipRel G W P.cellsOf t n ty

structure StRel (P : Program) (kl : List (Nat × List Nat)) (G : Gh) (W : World) (st : St) (A : Act) : Prop where
  T : ∀ i, i < A.tmps.size → VR G W (st.T.get i) (A.tmps.getD i undef)
  L : ∀ i d o, i < A.tmps.size → st.T.get i = .l d o → A.tmps.getD i undef = .pointer (some ⟨G.lb d, o, none⟩) ∧ ∃ ks, al kl d = some ks ∧ i ∈ ks
  I : ∀ i, i < A.tmps.size → st.T.get i = .it → A.tmps.getD i undef = .pointer (some ⟨G.ib i, 0, none⟩)
  loc : ∀ d cs, al st.loc d = some cs → G.own (G.lb d) = .loc d ∧ ∃ ty, CellsRel G W (G.lb d) ty cs
  its : ∀ d l p, al st.its d = some (l, p) → G.own (G.ib d) = .it d ∧ ∃ s : ByteArray, W.heap[G.ib d]? = some (.stringIter s p) ∧ s.data.toList.drop p = l
  mem : HRel P G W st.h
  gl : ∀ g, stripL (st.gl g) = st.gl g ∧ VR G W (.ip (st.gl g) 0) (.pointer (some ⟨g, 0, none⟩))

end Ai
