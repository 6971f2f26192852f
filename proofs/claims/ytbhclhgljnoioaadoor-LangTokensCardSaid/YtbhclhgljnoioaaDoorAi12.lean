/- Package variables that hold numbers: what is read of them, and what is told of them. More of the library's functions that are told. -/
import Derived.Test.YtbhclhgljnoioaaDoorAi10
import Derived.Lib.LaidU8T
import Derived.Shelf.Unicode.ValidAny
import Derived.Shelf.Unicode.DecodeLast
import Derived.Shelf.Unicode.DecodeAny
import Derived.Shelf.Small.Strs
namespace Ai
open Go Go.Lib

def ints (k : IntKind) (zs : List Int) : List V := zs.map (V.i k)

theorem ints_strip (k : IntKind) (zs : List Int) : stripL (ints k zs) = ints k zs := by
  induction zs with
  | nil => rfl
  | cons a r ih => simp only [ints, List.map_cons, stripL, V.strip]; exact congrArg _ ih

theorem ints_len (k : IntKind) (zs : List Int) : (ints k zs).length = zs.length := List.length_map ..

theorem ints_cell {G : Gh} {W : World} {k : IntKind} {zs : List Int} {g : Nat} (h : VR G W (.ip (ints k zs) 0) (.pointer (some ⟨g, 0, none⟩))) (j : Nat) (hj : j < zs.length) : W.cell? ⟨g, j, none⟩ = some (.int k zs[j]) := by
  cases h with
  | ip _ _ _ b o cs ha hi hc hv =>
    have hne : ints k zs ≠ [] := fun e => by
      have := congrArg List.length e
      rw [ints_len, List.length_nil] at this
      omega
    have e := ha hne
    simp only [Option.some.injEq, Addr.mk.injEq, Nat.add_zero, and_true] at e
    obtain ⟨rfl, rfl⟩ := e
    have h1 := hc j (by rw [ints_len]; exact hj)
    have h2 := hv j (by rw [ints_len]; exact hj)
    rw [Nat.zero_add] at h1
    rw [h1]
    have e : (ints k zs).getD j .any = .i k zs[j] := by simp [ints, List.getD, hj]
    rw [e] at h2
    generalize cs j = c at h2
    cases h2
    rfl

theorem start_ints {W : World} {k : IntKind} {zs : List Int} {g : Nat} (h : ∀ j (hj : j < zs.length), W.cell? ⟨g, j, none⟩ = some (.int k zs[j])) : VR (Gh.start W) W (.ip (ints k zs) 0) (.pointer (some ⟨g, 0, none⟩)) := by
  refine .ip _ 0 _ g 0 (fun j => .int k (zs.getD j 0)) (fun _ => rfl) (fun j hj => ?_) (fun j hj => ?_) (fun j hj => ?_)
  · rw [ints_len] at hj
    have := h j hj
    rw [Nat.zero_add]
    unfold World.cell? at this
    unfold Gh.imm Gh.start
    simp only
    split at this
    · rename_i cells t f hh
      simp only at hh
      rw [hh]
      simp only
      exact (Array.getElem?_eq_some_iff.1 this).1
    · cases this
  · rw [ints_len] at hj
    rw [Nat.zero_add, h j hj]
    simp [List.getD, hj]
  · rw [ints_len] at hj
    rw [show (ints k zs).getD j .any = .i k zs[j] from by simp [ints, List.getD, hj], show zs.getD j 0 = zs[j] from by simp [List.getD, hj]]
    exact .i k _

/-- A variable that is listed as an array of numbers. -/
theorem reads_ints {P : Program} {W : World} {n : String} {k : IntKind} {zs : List Int} {g t e m : Nat} (h : VarReads P W n (tabData k zs)) (hg : P.globalNamed n = some g) (hy : (P.globals[g]?).map (·.type) = some t) (ht : P.underlying t = some (.array m e))
    (he : P.underlying e = some (.int k)) (hce : P.cellsOf e = 1) (hct : P.cellsOf t = m) (j : Nat) (hj : j < zs.length) : W.cell? ⟨g, j, none⟩ = some (.int k zs[j]) := by
  obtain ⟨g', t', cs, fuel, p, hg', hty, hvar, hd⟩ := h
  obtain rfl := Option.some.inj (hg.symm.trans hg')
  obtain rfl := Option.some.inj (hy.symm.trans hty)
  have hcs := cells_of_tab ht he hce hct hd
  rw [World.var?_cell hg hvar j, ← Array.getElem?_toList, hcs]
  simp [hj]

/-- utf8's two tables. -/
def firstV : List Int := (List.range 256).map fun c => (firstT c : Int)
def acceptV : List Int := (List.range 32).map fun i => if i % 2 = 0 then (accLo (i / 2) : Int) else accHi (i / 2)
theorem tabs_of {G : Gh} {W : World} {g3 g4 : Nat} (h3 : VR G W (.ip (ints .u8 firstV) 0) (.pointer (some ⟨g3, 0, none⟩))) (h4 : VR G W (.ip (ints .u8 acceptV) 0) (.pointer (some ⟨g4, 0, none⟩))) : Lib.Utf8Tabs g3 g4 W := by
  refine ⟨fun c hc => ?_, fun i hi => ⟨?_, ?_⟩⟩
  · have := ints_cell h3 c (by simp [firstV, hc])
    rw [this]; simp [firstV]
  · have := ints_cell h4 (2 * i) (by simp [acceptV]; omega)
    rw [this]; simp [acceptV]
  · have := ints_cell h4 (2 * i + 1) (by simp [acceptV]; omega)
    rw [this]
    have e1 : (2 * i + 1) % 2 = 1 := by omega
    have e2 : (2 * i + 1) / 2 = i := by omega
    simp [acceptV, e1, e2]
theorem start_first {W : World} {g3 g4 : Nat} (h : Lib.Utf8Tabs g3 g4 W) : ∀ j (hj : j < firstV.length), W.cell? ⟨g3, j, none⟩ = some (.int .u8 firstV[j]) := fun j hj => by
  have := h.1 j (by simpa [firstV] using hj)
  rw [this]; simp [firstV]
theorem start_accept {W : World} {g3 g4 : Nat} (h : Lib.Utf8Tabs g3 g4 W) : ∀ j (hj : j < acceptV.length), W.cell? ⟨g4, j, none⟩ = some (.int .u8 acceptV[j]) := fun j hj => by
  have hj' : j < 32 := by simpa [acceptV] using hj
  have h2 := h.2 (j / 2) (by omega)
  by_cases e : j % 2 = 0
  · have := h2.1
    rw [show 2 * (j / 2) = j from by omega] at this
    rw [this]; simp [acceptV, e]
  · have := h2.2
    rw [show 2 * (j / 2) + 1 = j from by omega] at this
    rw [this]; simp [acceptV, e]

theorem decodeL_dec (l : List UInt8) : Lib.decodeL l = dec l := by rw [Lib.decodeL, dec_eq]; rfl

/-- A function of the library's that writes nothing that was there, and hands back what may stand anywhere. -/
theorem reach_plain {P : Program} {g : FuncId} {f : Func} (hf : P.funcs[g]? = some f) (hb : f.body.isSome = true) (hn : (f.name == "runtime.NumGoroutine") = false) {cs : Array Value} {G : Gh} {W : World} {v : V} {c : Value}
    (key : Calls P g cs W fun e W' => e = .returned c ∧ RowKit.Below W.heap.size W W') (hv : ∀ (G' : Gh) (W' : World), VR G' W' v c) :
    Reach P g cs W fun c W' => ∃ G', Keep G W G' W' ∧ (∀ id b, G'.obj id = some b → G.obj id = some b) ∧ G'.nt = G.nt ∧ VR G' W' v c := by
  obtain ⟨b, hb⟩ := Option.isSome_iff_exists.1 hb
  refine Reach.of_calls hf hb hn (key.mono ?_)
  rintro e W' ⟨rfl, bel⟩
  obtain ⟨G', k1, k2, k3⟩ := keep_below (G := G) bel
  exact ⟨G', k1, k2, k3, hv G' W'⟩

theorem vrs_string {G : Gh} {W : World} {l : List UInt8} {cs : Array Value} (h : VRs G W [.s l] cs) : cs = #[.string ⟨l.toArray⟩] := by
  obtain ⟨e1, e2⟩ := h
  have v0 := e2 0 (by simp)
  simp only [List.getD_cons_zero] at v0
  have hcs : cs = #[cs.getD 0 undef] := by
    apply Array.ext
    · simpa using e1.symm
    · intro i h1 h2
      have : i = 0 := by simp at h2; omega
      subst this
      simp [Array.getD_eq_getD_getElem?, h1]
  rw [hcs]
  generalize cs.getD 0 undef = c at v0
  cases v0 with | s _ s hs => rw [string_of hs]

theorem valid_ok {P : Program} {ρ : Go.Shelf.Ren} (L : Go.Proofs.Lays.n196 P ρ) {f : Func} (hf : P.funcs[ρ.f 196]? = some f) (hb : f.body.isSome = true) (hn : (f.name == "runtime.NumGoroutine") = false) (l : List UInt8) (hl : l.length ≤ 9223372036854775807)
    (G : Gh) (W : World) (cs : Array Value) (hv : VRs G W [.s l] cs) (hT : Lib.Utf8Tabs (ρ.g 3) (ρ.g 4) W) :
    Reach P (ρ.f 196) cs W fun c W' => ∃ G', Keep G W G' W' ∧ (∀ id b, G'.obj id = some b → G.obj id = some b) ∧ G'.nt = G.nt ∧ VR G' W' (.b (Lib.validD l)) c := by
  rw [vrs_string hv]
  have key := Go.Proofs.Any.utf8_ValidString L ⟨l.toArray⟩ W (by simpa [ByteArray.size] using hl) hT
  exact reach_plain hf hb hn key fun _ _ => by simpa using .b _

theorem last_ok {P : Program} {ρ : Go.Shelf.Ren} (L : Go.Proofs.Lays.n271 P ρ) {f : Func} (hf : P.funcs[ρ.f 271]? = some f) (hb : f.body.isSome = true) (hn : (f.name == "runtime.NumGoroutine") = false) (l : List UInt8) (hl : l.length ≤ 9223372036854775807)
    (G : Gh) (W : World) (cs : Array Value) (hv : VRs G W [.s l] cs) (hT : Lib.Utf8Tabs (ρ.g 3) (ρ.g 4) W) :
    Reach P (ρ.f 271) cs W fun c W' => ∃ G', Keep G W G' W' ∧ (∀ id b, G'.obj id = some b → G.obj id = some b) ∧ G'.nt = G.nt ∧ VR G' W' (.tup [.i .i32 (Lib.decodeLastL l).1, .i .i64 (Lib.decodeLastL l).2]) c := by
  rw [vrs_string hv]
  have key := Go.Proofs.Any.utf8_DecodeLastRuneInString L ⟨l.toArray⟩ W (by simpa [ByteArray.size] using hl) hT
  refine reach_plain hf hb hn key fun _ _ => ?_
  refine .tup _ _ (by simp) (fun j hj => ?_)
  match j, hj with
  | 0, _ => exact .i _ _
  | 1, _ => exact .i _ _
end Ai

namespace Ai
open Go Go.Lib

theorem vrs_string_int {G : Gh} {W : World} {k : IntKind} {l : List UInt8} {a : Int} {cs : Array Value} (h : VRs G W [.s l, .i k a] cs) : cs = #[.string ⟨l.toArray⟩, .int k a] := by
  obtain ⟨e1, e2⟩ := h
  have v0 := e2 0 (by simp)
  have v1 := e2 1 (by simp)
  simp only [List.getD_cons_zero, List.getD_cons_succ] at v0 v1
  have hcs : cs = #[cs.getD 0 undef, cs.getD 1 undef] := by
    apply Array.ext
    · simpa using e1.symm
    · intro i h1 h2
      simp at h2
      match i, h2 with
      | 0, _ => simp [Array.getD_eq_getD_getElem?, h1]
      | 1, _ => simp [Array.getD_eq_getD_getElem?, h1]
  rw [hcs]
  generalize cs.getD 0 undef = c at v0
  generalize cs.getD 1 undef = d at v1
  cases v0 with | s _ s hs =>
  cases v1
  rw [string_of hs]

theorem below_refl (W : World) : RowKit.Below W.heap.size W W := ⟨rfl, rfl, rfl, Nat.le_refl _, fun _ _ => rfl⟩

def indexV (a : List V) : Option V := match a with
  | [.s l, .i .u8 c] => some (.i .i64 (Lib.indexByte l c.toNat.toUInt8))
  | _ => none

/-- strings.IndexByte. -/
theorem index_ok {P : Program} {ρ : Go.Shelf.Ren} (L : Go.Proofs.Lays.n137 P ρ) {f : Func} (hf : P.funcs[ρ.f 137]? = some f) (hb : f.body.isSome = true) (hn : (f.name == "runtime.NumGoroutine") = false) {a : List V} {v : V} (h : indexV a = some v) :
    v.plain = true ∧ ∀ (G : Gh) (W : World) (cs : Array Value), VRs G W a cs →
    Reach P (ρ.f 137) cs W fun c W' => ∃ G', Keep G W G' W' ∧ (∀ id b, G'.obj id = some b → G.obj id = some b) ∧ G'.nt = G.nt ∧ VR G' W' v c := by
  unfold indexV at h
  split at h
  · rename_i l c
    cases h
    refine ⟨rfl, fun G W cs hv => ?_⟩
    rw [vrs_string_int hv]
    refine reach_plain hf hb hn (c := .int .i64 (Lib.indexByte l c.toNat.toUInt8)) ((Go.Proofs.Any.strings_IndexByte L ⟨l.toArray⟩ c W).mono ?_) fun _ _ => .i _ _
    rintro e W' ⟨rfl, rfl⟩
    exact ⟨by simp, below_refl W'⟩
  · cases h

/-- utf8.DecodeRuneInString. -/
def decV (a : List V) : Option V := match a with
  | [.s []] => some (.tup [.i .i32 65533, .i .i64 0])
  | [.s (x :: l)] => some (.tup [.i .i32 (dec (x :: l)).1, .i .i64 (dec (x :: l)).2])
  | _ => none
theorem decode_ok {P : Program} {ρ : Go.Shelf.Ren} (L : Go.Proofs.Lays.n197 P ρ) {f : Func} (hf : P.funcs[ρ.f 197]? = some f) (hb : f.body.isSome = true) (hn : (f.name == "runtime.NumGoroutine") = false) {a : List V} {v : V} (h : decV a = some v) :
    v.plain = true ∧ ∀ (G : Gh) (W : World) (cs : Array Value), VRs G W a cs → Lib.Utf8Tabs (ρ.g 3) (ρ.g 4) W →
    Reach P (ρ.f 197) cs W fun c W' => ∃ G', Keep G W G' W' ∧ (∀ id b, G'.obj id = some b → G.obj id = some b) ∧ G'.nt = G.nt ∧ VR G' W' v c := by
  have key : ∀ (l : List UInt8) (p : Nat × Nat), Lib.decodeGo ⟨l.toArray⟩ = p → ∀ (G : Gh) (W : World) (cs : Array Value), VRs G W [.s l] cs → Lib.Utf8Tabs (ρ.g 3) (ρ.g 4) W →
      Reach P (ρ.f 197) cs W fun c W' => ∃ G', Keep G W G' W' ∧ (∀ id b, G'.obj id = some b → G.obj id = some b) ∧ G'.nt = G.nt ∧ VR G' W' (.tup [.i .i32 p.1, .i .i64 p.2]) c := by
    intro l p hp G W cs hv hT
    rw [vrs_string hv]
    have := Go.Proofs.Any.utf8_DecodeRuneInString L ⟨l.toArray⟩ W hT
    rw [hp] at this
    refine reach_plain hf hb hn this fun _ _ => ?_
    refine .tup _ _ (by simp) (fun j hj => ?_)
    match j, hj with
    | 0, _ => exact .i _ _
    | 1, _ => exact .i _ _
  unfold decV at h
  split at h
  · cases h
    exact ⟨rfl, key [] (65533, 0) rfl⟩
  · rename_i x l
    cases h
    refine ⟨rfl, key (x :: l) (dec (x :: l)) ?_⟩
    have h0 : ¬ (⟨(x :: l).toArray⟩ : ByteArray).size = 0 := by simp [ByteArray.size]
    rw [Lib.decodeGo, if_neg h0, dec_eq]
    rfl
  · cases h

theorem index_miss (l : List UInt8) (c : UInt8) : Lib.indexByte l c = -1 ↔ c ∉ l := by
  induction l with
  | nil => simp [Lib.indexByte]
  | cons b r ih =>
    rw [Lib.indexByte]
    by_cases h : b = c
    · simp [h]
    · have h1 : (b == c) = false := by simpa using h
      rw [h1]
      have := Lib.indexByte_ge r c
      by_cases h2 : Lib.indexByte r c = -1
      · have h3 := ih.1 h2
        simp [h2, h3, Ne.symm h]
      · have h3 : c ∈ r := by
          by_cases h4 : c ∈ r
          · exact h4
          · exact absurd (ih.2 h4) h2
        have h5 : (Lib.indexByte r c == -1) = false := by simpa using h2
        simp only [h5, Bool.false_eq_true, if_false, List.mem_cons, h3, or_true, not_true, iff_false]
        omega
theorem index_neg (l : List UInt8) (c : UInt8) : decide (0 ≤ Lib.indexByte l c) = decide (c ∈ l) := by
  have h1 := index_miss l c
  have h2 := Lib.indexByte_ge l c
  rw [decide_eq_decide]
  constructor
  · intro h; by_cases h3 : c ∈ l
    · exact h3
    · have := h1.2 h3; omega
  · intro h; by_cases h3 : Lib.indexByte l c = -1
    · exact absurd h (h1.1 h3)
    · omega
end Ai
