/- Package variables that hold numbers: what is read of them, and what is told of them. What a law is handed: plain data of any shape, as our values. -/
import Derived.Test.YtopbdgdfnmlldaaGreatDoorAi11
import Derived.Lib.LaidU8T
import Derived.Shelf.Unicode.ValidAny
import Derived.Shelf.Unicode.DecodeLast
import Derived.Shelf.Unicode.DecodeAny
import Derived.ChangeArms
import Derived.WideShapes
import Derived.SizedLaws
import Derived.Lib.LaidTab
namespace Ai
open Go Go.Lib

def ints (k : IntKind) (zs : List Int) : List V := zs.map (V.i k)

theorem ints_strip (k : IntKind) (zs : List Int) : stripL (ints k zs) = ints k zs := by
  induction zs with
  | nil => rfl
  | cons a r ih => simp only [ints, List.map_cons, stripL, V.strip]; exact congrArg _ ih

theorem ints_len (k : IntKind) (zs : List Int) : (ints k zs).length = zs.length := List.length_map ..

theorem ints_cell {G : Gh} {W : World} {k : IntKind} {zs : List Int} {g : Nat} (h : VR G W (.ip (ints k zs) 0) (.pointer (some ⟨g, 0, none⟩))) (j : Nat) (hj : j < zs.length) : W.cell? ⟨g, j, none⟩ = some (.int k zs[j]) := by
  cases h with
  | ip _ _ _ b o cs ha hi hc hv =>
    have hne : ints k zs ≠ [] := fun e => by
      have := congrArg List.length e
      rw [ints_len, List.length_nil] at this
      omega
    have e := ha hne
    simp only [Option.some.injEq, Addr.mk.injEq, Nat.add_zero, and_true] at e
    obtain ⟨rfl, rfl⟩ := e
    have h1 := hc j (by rw [ints_len]; exact hj)
    have h2 := hv j (by rw [ints_len]; exact hj)
    rw [Nat.zero_add] at h1
    rw [h1]
    have e : (ints k zs).getD j .any = .i k zs[j] := by simp [ints, List.getD, hj]
    rw [e] at h2
    generalize cs j = c at h2
    cases h2
    rfl

theorem start_ints {W : World} {k : IntKind} {zs : List Int} {g : Nat} (h : ∀ j (hj : j < zs.length), W.cell? ⟨g, j, none⟩ = some (.int k zs[j])) : VR (Gh.start W) W (.ip (ints k zs) 0) (.pointer (some ⟨g, 0, none⟩)) := by
  refine .ip _ 0 _ g 0 (fun j => .int k (zs.getD j 0)) (fun _ => rfl) (fun j hj => ?_) (fun j hj => ?_) (fun j hj => ?_)
  · rw [ints_len] at hj
    have := h j hj
    rw [Nat.zero_add]
    unfold World.cell? at this
    unfold Gh.imm Gh.start
    simp only
    split at this
    · rename_i cells t f hh
      simp only at hh
      rw [hh]
      simp only
      exact (Array.getElem?_eq_some_iff.1 this).1
    · cases this
  · rw [ints_len] at hj
    rw [Nat.zero_add, h j hj]
    simp [List.getD, hj]
  · rw [ints_len] at hj
    rw [show (ints k zs).getD j .any = .i k zs[j] from by simp [ints, List.getD, hj], show zs.getD j 0 = zs[j] from by simp [List.getD, hj]]
    exact .i k _

/-- A variable that is listed as an array of numbers. -/
theorem reads_ints {P : Program} {W : World} {n : String} {k : IntKind} {zs : List Int} {g t e m : Nat} (h : VarReads P W n (tabData k zs)) (hg : P.globalNamed n = some g) (hy : (P.globals[g]?).map (·.type) = some t) (ht : P.underlying t = some (.array m e))
    (he : P.underlying e = some (.int k)) (hce : P.cellsOf e = 1) (hct : P.cellsOf t = m) (j : Nat) (hj : j < zs.length) : W.cell? ⟨g, j, none⟩ = some (.int k zs[j]) := by
  obtain ⟨g', t', cs, fuel, p, hg', hty, hvar, hd⟩ := h
  obtain rfl := Option.some.inj (hg.symm.trans hg')
  obtain rfl := Option.some.inj (hy.symm.trans hty)
  have hcs := cells_of_tab ht he hce hct hd
  rw [World.var?_cell hg hvar j, ← Array.getElem?_toList, hcs]
  simp [hj]

/-- utf8's two tables. -/
def firstV : List Int := (List.range 256).map fun c => (firstT c : Int)
def acceptV : List Int := (List.range 32).map fun i => if i % 2 = 0 then (accLo (i / 2) : Int) else accHi (i / 2)
theorem tabs_of {G : Gh} {W : World} {g3 g4 : Nat} (h3 : VR G W (.ip (ints .u8 firstV) 0) (.pointer (some ⟨g3, 0, none⟩))) (h4 : VR G W (.ip (ints .u8 acceptV) 0) (.pointer (some ⟨g4, 0, none⟩))) : Lib.Utf8Tabs g3 g4 W := by
  refine ⟨fun c hc => ?_, fun i hi => ⟨?_, ?_⟩⟩
  · have := ints_cell h3 c (by simp [firstV, hc])
    rw [this]; simp [firstV]
  · have := ints_cell h4 (2 * i) (by simp [acceptV]; omega)
    rw [this]; simp [acceptV]
  · have := ints_cell h4 (2 * i + 1) (by simp [acceptV]; omega)
    rw [this]
    have e1 : (2 * i + 1) % 2 = 1 := by omega
    have e2 : (2 * i + 1) / 2 = i := by omega
    simp [acceptV, e1, e2]
theorem start_first {W : World} {g3 g4 : Nat} (h : Lib.Utf8Tabs g3 g4 W) : ∀ j (hj : j < firstV.length), W.cell? ⟨g3, j, none⟩ = some (.int .u8 firstV[j]) := fun j hj => by
  have := h.1 j (by simpa [firstV] using hj)
  rw [this]; simp [firstV]
theorem start_accept {W : World} {g3 g4 : Nat} (h : Lib.Utf8Tabs g3 g4 W) : ∀ j (hj : j < acceptV.length), W.cell? ⟨g4, j, none⟩ = some (.int .u8 acceptV[j]) := fun j hj => by
  have hj' : j < 32 := by simpa [acceptV] using hj
  have h2 := h.2 (j / 2) (by omega)
  by_cases e : j % 2 = 0
  · have := h2.1
    rw [show 2 * (j / 2) = j from by omega] at this
    rw [this]; simp [acceptV, e]
  · have := h2.2
    rw [show 2 * (j / 2) + 1 = j from by omega] at this
    rw [this]; simp [acceptV, e]

theorem decodeL_dec (l : List UInt8) : Lib.decodeL l = dec l := by rw [Lib.decodeL, dec_eq]; rfl

/-- A function of the library's that writes nothing that was there, and hands back what may stand anywhere. -/
theorem reach_plain {P : Program} {g : FuncId} {f : Func} (hf : P.funcs[g]? = some f) (hb : f.body.isSome = true) (hn : (f.name == "runtime.NumGoroutine") = false) {cs : Array Value} {G : Gh} {W : World} {v : V} {c : Value}
    (key : Calls P g cs W fun e W' => e = .returned c ∧ RowKit.Below W.heap.size W W') (hv : ∀ (G' : Gh) (W' : World), VR G' W' v c) :
    Reach P g cs W fun c W' => ∃ G', Keep G W G' W' ∧ (∀ id b, G'.obj id = some b → G.obj id = some b) ∧ G'.nt = G.nt ∧ VR G' W' v c := by
  obtain ⟨b, hb⟩ := Option.isSome_iff_exists.1 hb
  refine Reach.of_calls hf hb hn (key.mono ?_)
  rintro e W' ⟨rfl, bel⟩
  obtain ⟨G', k1, k2, k3⟩ := keep_below (G := G) bel
  exact ⟨G', k1, k2, k3, hv G' W'⟩

theorem vrs_string {G : Gh} {W : World} {l : List UInt8} {cs : Array Value} (h : VRs G W [.s l] cs) : cs = #[.string ⟨l.toArray⟩] := by
  obtain ⟨e1, e2⟩ := h
  have v0 := e2 0 (by simp)
  simp only [List.getD_cons_zero] at v0
  have hcs : cs = #[cs.getD 0 undef] := by
    apply Array.ext
    · simpa using e1.symm
    · intro i h1 h2
      have : i = 0 := by simp at h2; omega
      subst this
      simp [Array.getD_eq_getD_getElem?, h1]
  rw [hcs]
  generalize cs.getD 0 undef = c at v0
  cases v0 with | s _ s hs => rw [string_of hs]

theorem valid_ok {P : Program} {ρ : Go.Shelf.Ren} (L : Go.Proofs.Lays.n196 P ρ) {f : Func} (hf : P.funcs[ρ.f 196]? = some f) (hb : f.body.isSome = true) (hn : (f.name == "runtime.NumGoroutine") = false) (l : List UInt8) (hl : l.length ≤ 9223372036854775807)
    (G : Gh) (W : World) (cs : Array Value) (hv : VRs G W [.s l] cs) (hT : Lib.Utf8Tabs (ρ.g 3) (ρ.g 4) W) :
    Reach P (ρ.f 196) cs W fun c W' => ∃ G', Keep G W G' W' ∧ (∀ id b, G'.obj id = some b → G.obj id = some b) ∧ G'.nt = G.nt ∧ VR G' W' (.b (Lib.validD l)) c := by
  rw [vrs_string hv]
  have key := Go.Proofs.Any.utf8_ValidString L ⟨l.toArray⟩ W (by simpa [ByteArray.size] using hl) hT
  exact reach_plain hf hb hn key fun _ _ => by simpa using .b _

theorem last_ok {P : Program} {ρ : Go.Shelf.Ren} (L : Go.Proofs.Lays.n271 P ρ) {f : Func} (hf : P.funcs[ρ.f 271]? = some f) (hb : f.body.isSome = true) (hn : (f.name == "runtime.NumGoroutine") = false) (l : List UInt8) (hl : l.length ≤ 9223372036854775807)
    (G : Gh) (W : World) (cs : Array Value) (hv : VRs G W [.s l] cs) (hT : Lib.Utf8Tabs (ρ.g 3) (ρ.g 4) W) :
    Reach P (ρ.f 271) cs W fun c W' => ∃ G', Keep G W G' W' ∧ (∀ id b, G'.obj id = some b → G.obj id = some b) ∧ G'.nt = G.nt ∧ VR G' W' (.tup [.i .i32 (Lib.decodeLastL l).1, .i .i64 (Lib.decodeLastL l).2]) c := by
  rw [vrs_string hv]
  have key := Go.Proofs.Any.utf8_DecodeLastRuneInString L ⟨l.toArray⟩ W (by simpa [ByteArray.size] using hl) hT
  refine reach_plain hf hb hn key fun _ _ => ?_
  refine .tup _ _ (by simp) (fun j hj => ?_)
  match j, hj with
  | 0, _ => exact .i _ _
  | 1, _ => exact .i _ _
end Ai

namespace Ai
open Go

/-- A struct's fields lie one behind the other. -/
def tiles (P : Program) : List Field → Nat → Option Nat
  | [], o => some o
  | f :: r, o => if f.offset = o then tiles P r (o + P.cellsOf f.type) else none

/-- These types hold plain data, whose parts are of these types. -/
def shut (P : Program) (S : List TypeId) : Bool :=
  S.all fun t => match P.underlying t with
    | some .bool | some (.int _) | some .string => true
    | some (.slice e) => S.contains e && Nat.blt 0 (P.cellsOf e)
    | some (.struct fs) => (fs.toList.all fun f => S.contains f.type) && decide (tiles P fs.toList 0 = some (P.cellsOf t))
    | _ => false

mutual
/-- Cells of a type. -/
inductive Shape (P : Program) : TypeId → List V → Prop
  | b (t : TypeId) (x : Bool) (h : P.underlying t = some .bool) : Shape P t [.b x]
  | i (t : TypeId) (k : IntKind) (n : Int) (h : P.underlying t = some (.int k)) (hw : (Lit.int k n).wf = true) : Shape P t [.i k n]
  | s (t : TypeId) (l : List UInt8) (h : P.underlying t = some .string) (hl : l.length ≤ reachBytes) : Shape P t [.s l]
  | sl (t e : TypeId) (ys : List V) (n : Nat) (h : P.underlying t = some (.slice e)) (hn : n * P.bytesOf e ≤ reachBytes) (hs : Shapes P e ys n) : Shape P t [.sl ys n .no]
  | st (t : TypeId) (fs : Array Field) (xs : List V) (h : P.underlying t = some (.struct fs)) (hs : Fields P fs.toList xs) : Shape P t xs
inductive Shapes (P : Program) : TypeId → List V → Nat → Prop
  | nil (e : TypeId) : Shapes P e [] 0
  | cons (e : TypeId) (x ys : List V) (n : Nat) (h : Shape P e x) (hs : Shapes P e ys n) : Shapes P e (x ++ ys) (n + 1)
inductive Fields (P : Program) : List Field → List V → Prop
  | nil : Fields P [] []
  | cons (f : Field) (r : List Field) (x ys : List V) (h : Shape P f.type x) (hs : Fields P r ys) : Fields P (f :: r) (x ++ ys)
end

/-- Cells, and what they hold. -/
def CellsVR (W : World) (xs : List V) (cs : List Value) : Prop := xs.length = cs.length ∧ ∀ j, j < xs.length → VR (Gh.start W) W (xs.getD j .any) (cs.getD j undef)

theorem cellsVR_one {W : World} {v : V} {c : Value} (h : VR (Gh.start W) W v c) : CellsVR W [v] [c] :=
  ⟨rfl, fun j hj => by
    match j, hj with
    | 0, _ => exact h⟩

theorem getD_app {α : Type} (x y : List α) (d : α) (j : Nat) : (x ++ y).getD j d = if j < x.length then x.getD j d else y.getD (j - x.length) d := by
  simp only [List.getD_eq_getElem?_getD]
  split
  · rename_i h; rw [List.getElem?_append_left h]
  · rename_i h; rw [List.getElem?_append_right (by omega)]

theorem cellsVR_app {W : World} {x y : List V} {a b : List Value} (h : CellsVR W x a) (k : CellsVR W y b) : CellsVR W (x ++ y) (a ++ b) := by
  obtain ⟨h1, h2⟩ := h
  obtain ⟨k1, k2⟩ := k
  refine ⟨by simp [h1, k1], fun j hj => ?_⟩
  rw [getD_app, getD_app]
  by_cases hlt : j < x.length
  · rw [if_pos hlt, if_pos (by omega)]; exact h2 j hlt
  · rw [if_neg hlt, if_neg (by omega), ← h1]; exact k2 _ (by simp at hj; omega)

theorem cells?_at {W : World} {a : Addr} {n : Nat} {cs : List Value} (h : W.cells? 0 a n = some cs) : cs.length = n ∧ ∀ r, r < n → W.cell? (a.add r) = some (cs.getD r undef) := by
  unfold World.cells? at h
  rw [if_pos (Nat.zero_le _)] at h
  have hl := Lib.mapM_length h
  rw [List.length_range] at hl
  refine ⟨hl, fun r hr => ?_⟩
  obtain ⟨b, h1, h2⟩ := Lib.mapM_at h r r (by simp [hr])
  rw [h2, List.getD_eq_getElem?_getD, h1]
  rfl

theorem spot_none {W : World} {a : Addr} {v : Value} (h : W.cell? a = some v) : a = ⟨a.block, a.off, none⟩ := by
  obtain ⟨b, o, s⟩ := a
  unfold World.cell? at h
  split at h
  · cases s with
    | none => rfl
    | some x => simp at h
  · cases h

theorem add_block (a : Addr) (m : Nat) : (a.add m).block = a.block := by unfold Addr.add; split <;> rfl
theorem add_offs (a : Addr) (m : Nat) : (a.add m).off = a.off + m := by
  unfold Addr.add
  split
  · rename_i h; rw [h]; rfl
  · rfl

theorem start_imm {W : World} {b o : Nat} {v : Value} (h : W.cell? ⟨b, o, none⟩ = some v) : (Gh.start W).imm b o := by
  unfold World.cell? at h
  unfold Gh.imm Gh.start
  simp only at h ⊢
  split at h
  · rename_i c t f hh
    rw [hh]
    simp only [Option.isSome_none, Bool.false_eq_true, if_false] at h ⊢
    exact (Array.getElem?_eq_some_iff.1 h).1
  · cases h

section
variable {H : Type} {enc : TypeId × Value → H} {P : Program} {W : World} {sp : Nat → Bool} {held : Bool} {S : List TypeId}

theorem all_app {l r : List Nat} {p : Nat → Bool} (h : (l ++ r).all p = true) : l.all p = true ∧ r.all p = true := by
  rw [List.all_append, Bool.and_eq_true] at h; exact h

/-- Elements, one behind the other. -/
theorem open_elems {e : TypeId} {c n : Nat} (hc : 0 < c) {a : Addr}
    (ih : ∀ (cs : List Value) (x : DataW H × List MemPlace), DataW.trod enc P W 0 sp held n e cs = some x → (x.1.weights P e).all (· ≤ reachBytes) = true → ∃ xs, CellsVR W xs cs ∧ Shape P e xs) :
    ∀ (l : List (DataW H × List MemPlace)) (k : Nat), (∀ i, i < l.length → (W.cells? 0 (a.add ((k + i) * c)) c).bind (DataW.trod enc P W 0 sp held n e) = l[i]?) →
      (DataW.weightsAll P e (l.map (·.1))).all (· ≤ reachBytes) = true →
      ∃ ys, ys.length = l.length * c ∧ Shapes P e ys l.length ∧ ∀ j, j < ys.length → ∃ v, W.cell? ⟨a.block, a.off + (k * c + j), none⟩ = some v ∧ VR (Gh.start W) W (ys.getD j .any) v
  | [], k, _, _ => ⟨[], by simp, .nil e, fun j hj => by cases hj⟩
  | x :: l, k, h, hw => by
    rw [List.map_cons, DataW.weightsAll] at hw
    obtain ⟨w1, w2⟩ := all_app hw
    have h0 := h 0 (by simp)
    rw [Nat.add_zero, List.getElem?_cons_zero, Option.bind_eq_some_iff] at h0
    obtain ⟨cs, hcs, ht⟩ := h0
    obtain ⟨xs, ⟨q1, q2⟩, q3⟩ := ih cs x ht w1
    obtain ⟨ys, r1, r2, r3⟩ := open_elems (a := a) hc ih l (k + 1) (fun i hi => by
      have := h (i + 1) (by simpa using hi)
      rw [List.getElem?_cons_succ] at this
      rw [← this, show k + 1 + i = k + (i + 1) from by omega]) w2
    obtain ⟨cl, cat⟩ := cells?_at hcs
    have hxl : xs.length = c := by rw [q1, cl]
    refine ⟨xs ++ ys, by rw [List.length_append, hxl, r1, List.length_cons, Nat.add_mul]; omega, by rw [List.length_cons]; exact .cons e xs ys _ q3 r2, fun j hj => ?_⟩
    rw [getD_app]
    by_cases hlt : j < xs.length
    · rw [if_pos hlt]
      have hcell := cat j (by omega)
      have hs : (a.add (k * c)).add j = ⟨a.block, a.off + (k * c + j), none⟩ := by
        have := spot_none hcell
        rw [add_block, add_block, add_offs, add_offs, Nat.add_assoc] at this
        exact this
      rw [hs] at hcell
      exact ⟨_, hcell, q2 j hlt⟩
    · rw [if_neg hlt]
      obtain ⟨v, v1, v2⟩ := r3 (j - xs.length) (by rw [List.length_append] at hj; omega)
      refine ⟨v, ?_, v2⟩
      rw [← v1]
      congr 2
      rw [hxl, Nat.add_mul]
      rw [hxl] at hlt
      omega

/-- Fields, one behind the other. -/
theorem open_fields {n : Nat}
    (ih : ∀ (t : TypeId) (cs : List Value) (x : DataW H × List MemPlace), t ∈ S → DataW.trod enc P W 0 sp held n t cs = some x → (x.1.weights P t).all (· ≤ reachBytes) = true → ∃ xs, CellsVR W xs cs ∧ Shape P t xs) (cs : List Value) :
    ∀ (fs : List Field) (l : List (DataW H × List MemPlace)) (o m : Nat), tiles P fs o = some m → (∀ f ∈ fs, f.type ∈ S) → m = cs.length → l.length = fs.length →
      (∀ (i : Nat) (f : Field), fs[i]? = some f → DataW.trod enc P W 0 sp held n f.type ((cs.drop f.offset).take (P.cellsOf f.type)) = l[i]?) →
      (DataW.weightsEach P (fs.map (·.type)) (l.map (·.1))).all (· ≤ reachBytes) = true → o ≤ m ∧ ∃ xs, CellsVR W xs (cs.drop o) ∧ Fields P fs xs
  | [], l, o, m, ht, _, hm, hl, _, _ => by
    simp only [tiles, Option.some.injEq] at ht
    refine ⟨by omega, [], ⟨by rw [List.drop_eq_nil_of_le (by omega)]; rfl, fun j hj => (by cases hj)⟩, .nil⟩
  | f :: r, [], o, m, ht, _, hm, hl, _, _ => by cases hl
  | f :: r, x :: l, o, m, ht, hS, hm, hl, h, hw => by
    simp only [tiles] at ht
    split at ht
    · rename_i ho
      subst ho
      rw [List.map_cons, List.map_cons, DataW.weightsEach] at hw
      obtain ⟨w1, w2⟩ := all_app hw
      have h0 := h 0 f rfl
      obtain ⟨xs, q1, q2⟩ := ih f.type _ x (hS f (by simp)) h0 w1
      obtain ⟨g1, ys, r1, r2⟩ := open_fields ih cs r l _ m ht (fun y hy => hS y (by simp [hy])) hm (by simpa using hl) (fun i y hy => by simpa using h (i + 1) y (by simpa using hy)) w2
      refine ⟨by omega, xs ++ ys, ?_, .cons f r xs ys q2 r2⟩
      have e : cs.drop f.offset = (cs.drop f.offset).take (P.cellsOf f.type) ++ cs.drop (f.offset + P.cellsOf f.type) := by
        rw [← List.drop_drop, List.take_append_drop]
      rw [e]
      exact cellsVR_app q1 r1
    · cases ht

theorem open_data (hS : shut P S = true) : ∀ (n : Nat) (t : TypeId) (cs : List Value) (x : DataW H × List MemPlace), t ∈ S → DataW.trod enc P W 0 sp held n t cs = some x → (x.1.weights P t).all (· ≤ reachBytes) = true →
    ∃ xs, CellsVR W xs cs ∧ Shape P t xs
  | 0, t, cs, x, _, h, _ => by simp [DataW.trod] at h
  | n + 1, t, cs, x, hm, h, hw => by
    have hs := List.all_eq_true.1 hS t hm
    split at hs
    · rename_i hu
      obtain ⟨b, rfl, rfl⟩ := DataW.trod_bool hu h
      exact ⟨[.b b], cellsVR_one (.b b), .b t b hu⟩
    · rename_i k hu
      obtain ⟨m, rfl, rfl, h3⟩ := DataW.trod_int hu h
      exact ⟨[.i k m], cellsVR_one (.i k m), .i t k m hu h3⟩
    · rename_i hu
      obtain ⟨s, rfl, rfl, h3⟩ := DataW.trod_string hu h
      exact ⟨[.s s.data.toList], cellsVR_one (.s _ s rfl), .s t _ hu (by simpa [DataW.weights] using hw)⟩
    · rename_i e hu
      simp only [Bool.and_eq_true] at hs
      have he : e ∈ S := by simpa using hs.1
      have hc : 0 < P.cellsOf e := blt_lt hs.2
      rcases DataW.trod_slice hu h with ⟨rfl, rfl⟩ | ⟨a, len, cap, elems, rest, n', hn', rfl, rfl, hb, hl, hm2, hlen, hel, hsp, hns⟩
      · exact ⟨[.sl [] 0 .no], cellsVR_one (.sl [] 0 .no none 0 0 0 (fun _ => undef) (Nat.le_refl _) (fun h => absurd rfl h) (fun j hj => by cases hj) (fun j hj => by cases hj) (fun j hj => by cases hj) trivial), .sl t e [] 0 hu (by simp) (.nil e)⟩
      · cases hn'
        simp only [DataW.weights, hu, List.all_cons, Bool.and_eq_true, decide_eq_true_eq] at hw
        obtain ⟨w1, w2⟩ := hw
        obtain ⟨w3, _⟩ := all_app w2
        obtain ⟨ys, y1, y2, y3⟩ := open_elems (a := a) hc (fun cs x h1 h2 => open_data hS n e cs x he h1 h2) elems 0 (fun i hi => by rw [Nat.zero_add]; exact hel i (by omega)) w3
        refine ⟨[.sl ys len .no], cellsVR_one ?_, .sl t e ys len hu ?_ (hlen ▸ y2)⟩
        · refine .sl ys len .no (some a) cap a.block a.off (fun j => (W.cell? ⟨a.block, a.off + j, none⟩).getD undef) hl (fun hne => ?_) (fun j hj => ?_) (fun j hj => ?_) (fun j hj => ?_) trivial
          · have h0 : 0 < elems.length := by
              rcases Nat.eq_zero_or_pos elems.length with h | h
              · rw [h, Nat.zero_mul] at y1; exact absurd (List.length_eq_zero_iff.1 y1) hne
              · exact h
            have := hel 0 (by omega)
            rw [Nat.zero_mul, List.getElem?_eq_getElem h0, Option.bind_eq_some_iff] at this
            obtain ⟨cs, hcs, _⟩ := this
            have := (cells?_at hcs).2 0 hc
            have e0 : (a.add 0).add 0 = a := by simp [Addr.add]
            rw [e0] at this
            rw [← spot_none this]
          · obtain ⟨v, v1, _⟩ := y3 j hj
            rw [Nat.zero_mul, Nat.zero_add] at v1
            exact start_imm v1
          · obtain ⟨v, v1, _⟩ := y3 j hj
            rw [Nat.zero_mul, Nat.zero_add] at v1
            rw [v1]; rfl
          · obtain ⟨v, v1, v2⟩ := y3 j hj
            rw [Nat.zero_mul, Nat.zero_add] at v1
            rw [v1]; exact v2
        · rw [List.length_map, hlen] at w1
          exact Nat.le_trans (Nat.mul_le_mul_right _ (Nat.le_add_right _ _)) w1
    · rename_i fs hu
      simp only [Bool.and_eq_true, List.all_eq_true, decide_eq_true_eq] at hs
      obtain ⟨l, n', hn', rfl, hcl, hll, hf⟩ := DataW.trod_struct hu h
      cases hn'
      simp only [DataW.weights, hu] at hw
      obtain ⟨_, xs, q1, q2⟩ := open_fields (S := S) (fun t cs x h0 h1 h2 => open_data hS n t cs x h0 h1 h2) cs fs.toList l 0 (P.cellsOf t) hs.2 (fun f hf => by simpa using hs.1 f hf) hcl.symm (by simpa using hll) (fun i f hfi => hf i f (by simpa using hfi)) hw
      rw [List.drop_zero] at q1
      exact ⟨xs, q1, .st t fs xs hu q2⟩
    · cases hs

/-- An argument. -/
def ArgV (P : Program) (t : TypeId) (v : V) : Prop := (∃ fs xs, P.underlying t = some (.struct fs) ∧ v = .agg xs ∧ Shape P t xs) ∨ ((∀ fs, P.underlying t ≠ some (.struct fs)) ∧ Shape P t [v])

theorem shape_one {t : TypeId} {xs : List V} (h : Shape P t xs) (hs : ∀ fs, P.underlying t ≠ some (.struct fs)) : ∃ v, xs = [v] := by
  cases h with
  | b _ _ _ => exact ⟨_, rfl⟩
  | i _ _ _ _ _ => exact ⟨_, rfl⟩
  | s _ _ _ _ => exact ⟨_, rfl⟩
  | sl _ _ _ _ _ _ _ => exact ⟨_, rfl⟩
  | st _ fs _ h _ => exact absurd h (hs fs)

theorem open_arg (hS : shut P S = true) {t : TypeId} (ht : t ∈ S) {v : Value} {d : DataW H} {p : List MemPlace} {base : Nat} (hk : Value.okWide P W .any base t v) (h : DataW.Trod enc P W 0 sp held t v d p) (hw : (d.weights P t).all (· ≤ reachBytes) = true) :
    ∃ x, VR (Gh.start W) W x v ∧ ArgV P t x := by
  obtain ⟨n, hn⟩ := h
  obtain ⟨xs, ⟨q1, q2⟩, q3⟩ := open_data hS n t _ _ ht hn hw
  by_cases hst : ∃ fs, P.underlying t = some (.struct fs)
  · obtain ⟨fs, hu⟩ := hst
    obtain ⟨cs, rfl, hsz⟩ := WideShapes.okWide_struct hu hk
    refine ⟨.agg xs, .agg xs cs ?_ (fun j hj => ?_), .inl ⟨fs, xs, hu, rfl, q3⟩⟩
    · simpa [Value.cells] using q1
    · have := q2 j hj
      simpa [Value.cells, List.getD_eq_getElem?_getD, Array.getD_eq_getD_getElem?] using this
  · have hst' : ∀ fs, P.underlying t ≠ some (.struct fs) := fun fs e => hst ⟨fs, e⟩
    obtain ⟨x, rfl⟩ := shape_one q3 hst'
    refine ⟨x, ?_, .inr ⟨hst', q3⟩⟩
    have := q2 0 (by simp)
    have hv : v.cells.toList.getD 0 undef = v := by
      cases v with
      | agg cs =>
        exfalso
        cases q3 with
        | b _ _ hu => simp [Value.okWide, hu, Cell.okWide, Cell.ok] at hk
        | i _ _ _ hu _ => simp [Value.okWide, hu, Cell.okWide, Cell.ok] at hk
        | s _ _ hu _ => simp [Value.okWide, hu, Cell.okWide, Cell.ok] at hk
        | sl _ _ _ _ hu _ _ => simp [Value.okWide, hu, Cell.okWide, Cell.ok] at hk
        | st _ fs _ hu _ => exact hst' fs hu
      | _ => rfl
    rw [hv] at this
    exact this
end
end Ai
