/- The abstract interpreter: conversions, slices. -/
import Derived.Test.YtbhclhgljnoioaaDoorAiK
namespace Ai
open Go

def isInt (P : Program) (t : TypeId) : Bool := match P.underlying t with | some (.int _) => true | _ => false
def isKind (P : Program) (t : TypeId) (k : IntKind) : Bool := match P.underlying t with | some (.int k') => decide (k' = k) | _ => false
def isStr (P : Program) (t : TypeId) : Bool := match P.underlying t with | some .string => true | _ => false
def elemIs (P : Program) (t : TypeId) (k : IntKind) : Bool := match P.underlying t with | some (.slice e) => isKind P e k | _ => false

def ckOk (P : Program) (src dst : TypeId) : CK → Bool
  | .int k => isInt P src && isKind P dst k
  | .str => isStr P src && isStr P dst
  | .rune => isInt P src && isStr P dst
  | .bytes => isStr P src && elemIs P dst .u8
  | .runes => isStr P src && elemIs P dst .i32
  | .toStr => elemIs P src .u8 && isStr P dst
  | .fromRunes => elemIs P src .i32 && isStr P dst
  | .uns => match P.underlying src, P.underlying dst with
    | some (.pointer t), some .unsafePointer => (match szOf P t with | some (_ + 1) => true | _ => false)
    | _, _ => false
  | .toPtr u n => match P.underlying src, P.underlying dst with
    | some .unsafePointer, some (.pointer t) => Nat.beq t u && (match szOf P u with | some (_ + 1) => true | _ => false) && Nat.blt 0 n && liesAt P P.depth u (n / P.cellsOf u) 0 u 1
    | _, _ => false

theorem isInt_spec {P : Program} {t : TypeId} (h : isInt P t = true) : ∃ k, P.underlying t = some (.int k) := by
  unfold isInt at h
  split at h
  · exact ⟨_, by assumption⟩
  · cases h
theorem isKind_spec {P : Program} {t : TypeId} {k : IntKind} (h : isKind P t k = true) : P.underlying t = some (.int k) := by
  unfold isKind at h
  split at h
  · rename_i k' hu; have := of_decide_eq_true h; subst this; exact hu
  · cases h
theorem isStr_spec {P : Program} {t : TypeId} (h : isStr P t = true) : P.underlying t = some .string := by
  unfold isStr at h
  split at h
  · assumption
  · cases h
theorem elemIs_spec {P : Program} {t : TypeId} {k : IntKind} (h : elemIs P t k = true) : ∃ e, P.underlying t = some (.slice e) ∧ P.underlying e = some (.int k) := by
  unfold elemIs at h
  split at h
  · rename_i e hu; exact ⟨e, hu, isKind_spec h⟩
  · cases h

section
variable {P : Program} {kl : List (Nat × List Nat)} {G : Gh} {W : World} {st : St} {A : Act}

/-- A run of one of the model's small programs has come to this. -/
def Post (P : Program) (kl : List (Nat × List Nat)) (G : Gh) (W : World) (st' : St) (A : Act) (v : V) (r : Result Value) : Prop :=
  ∃ c G' W', r = .ok c W' ∧ Ext G W G' W' ∧ StRel P kl G' W' st' A ∧ VR G' W' v c

theorem Post.here (hs : StRel P kl G W st A) {v : V} {c : Value} {r : Result Value} (hr : r = .ok c W) (hv : VR G W v c) : Post P kl G W st A v r :=
  ⟨c, G, W, hr, Ext.refl G W, hs, hv⟩

theorem run_shape_some {b : Nat} {c : Array Value} {e : TypeId} {fz : Nat × Nat} (h : W.heap[b]? = some (.cells c e fz)) : (shape b).run P W = .ok (some (e, c.size)) W := by
  simp [shape, Sem.run, World.shape?, h]

theorem run_viewAt_none {b : Nat} {c : Array Value} {e : TypeId} {fz : Nat × Nat} (h : W.heap[b]? = some (.cells c e fz)) : (viewAt b).run P W = .ok none W := by
  simp [viewAt, run_shape_some h]

theorem VRs.map_conc {xs : List V} (h : ∀ v ∈ xs, ∃ k n, v = .i k n) : ∀ j, j < xs.length → VR G W (xs.getD j .any) ((xs.map conc).toArray.getD j undef) := by
  intro j hj
  obtain ⟨k, n, e⟩ := h _ (getD_mem hj)
  have : (xs.map conc).toArray.getD j undef = conc (xs.getD j .any) := by
    simp [Array.getD_eq_getD_getElem?, List.getD_eq_getElem?_getD, hj]
  rw [this, e]; exact .i k n

theorem getD_append_left {a b : Array Value} {j : Nat} (h : j < a.size) : (a ++ b).getD j undef = a.getD j undef := by
  simp [Array.getD_eq_getD_getElem?, Array.getElem?_append_left h]

theorem grownCap_le (w : World) (need old : Nat) (e : TypeId) : need ≤ grownCap w need old e := by
  exact Nat.le_add_right _ _

theorem keep_bytes (G : Gh) (W : World) (e : TypeId) (s : ByteArray) (x : BK) : Keep G W (G.at W.heap.size x) (Lib.bytesWorld W e s) where
  tape := by simp [Lib.bytesWorld, World.freeze, World.alloc, World.drew, -World.alloc_eq, -World.drew_eq]
  os := by simp [Lib.bytesWorld, World.freeze, World.alloc, World.drew, -World.alloc_eq, -World.drew_eq]
  out := by simp [Lib.bytesWorld, World.freeze, World.alloc, World.drew, -World.alloc_eq, -World.drew_eq]
  sz := by rw [Lib.bytesWorld_size]; omega
  own := fun b hb => own_at_ne G x (Nat.ne_of_lt hb)
  heap := fun b hb => Lib.bytesWorld_at_old W e s b hb
  obj := fun _ _ h => h
  nt := Nat.le_refl _
  tip := fun _ _ => ⟨rfl, rfl⟩
  lb := rfl
  ib := rfl

theorem keep_drew (G : Gh) (W : World) : Keep G W G W.drew where
  tape := rfl
  os := rfl
  out := rfl
  sz := Nat.le_refl _
  own := fun _ _ => rfl
  heap := fun _ _ => rfl
  obj := fun _ _ h => h
  nt := Nat.le_refl _
  tip := fun _ _ => ⟨rfl, rfl⟩
  lb := rfl
  ib := rfl

theorem forIn_runes (f : Value → ByteArray → Sem (ForInStep ByteArray)) : ∀ (ns : List Int) (s : ByteArray), (∀ n s, f (.int .i32 n) s = pure (.yield (s ++ Utf8.encode n))) →
    (forIn (ns.map (Value.int .i32)) s f).run P W = .ok (ns.foldl (fun r n => r ++ Utf8.encode n) s) W
  | [], s, _ => by simp
  | n :: ns, s, h => by
    simp only [List.map_cons, List.forIn_cons, h n s, Sem.run_bind, Sem.run_pure, Result.andThen_ok, List.foldl_cons]
    exact forIn_runes f ns _ h

theorem foldl_encode : ∀ (ns : List Int) (s : ByteArray), (ns.foldl (fun r n => r ++ Utf8.encode n) s).data.toList = s.data.toList ++ ns.flatMap fun n => (Utf8.encode n).data.toList
  | [], s => by simp
  | n :: ns, s => by
    simp only [List.foldl_cons, foldl_encode ns, List.flatMap_cons]
    simp

theorem ints_of {k : IntKind} {ns : List Int} {a : Array Value} (h : VRs G W (ns.map (V.i k)) a) : a = (ns.map (Value.int k)).toArray := by
  obtain ⟨h1, h2⟩ := h
  apply Array.ext
  · simpa using h1.symm
  · intro j hj hj'
    have h3 := h2 j (by rw [h1]; exact hj)
    have hn : j < ns.length := by simpa using hj'
    have e1 : (ns.map (V.i k)).getD j .any = .i k ns[j] := by simp [List.getD_eq_getElem?_getD, hn]
    have e2 : a.getD j undef = a[j] := by simp [Array.getD_eq_getD_getElem?, hj]
    rw [e1, e2] at h3
    generalize a[j] = c at *
    cases h3
    simp

theorem conv_sound (hs : StRel P kl G W st A) {src dst : TypeId} {ck : CK} {x v : V} {cx : Value} (hk : ckOk P src dst ck = true) (h : convV st ck x = some v) (hx : VR G W x cx) :
    Post P kl G W st A v ((convert src dst cx).run P W) ∧ v.plain = true := by
  unfold convV at h
  split at h
  · -- int
    simp only [ckOk, Bool.and_eq_true] at hk
    obtain ⟨k1, h1⟩ := isInt_spec hk.1
    have h2 := isKind_spec hk.2
    cases hx
    simp only [Option.some.injEq] at h
    subst h
    refine ⟨Post.here hs (c := .int _ (wr _ _)) ?_ (.i _ _), rfl⟩
    simp only [convert, Sem.run_bind, run_underlying' h1, run_underlying' h2, Result.andThen_ok, Conv.intToInt, wr_eq]
    rfl
  · -- string to string
    simp only [ckOk, Bool.and_eq_true] at hk
    have h1 := isStr_spec hk.1
    have h2 := isStr_spec hk.2
    simp only [Option.some.injEq] at h
    subst h
    generalize hcx : cx = c at hx
    cases hx with | s _ s hl =>
    refine ⟨Post.here hs (c := .string s) ?_ (.s _ s hl), rfl⟩
    simp only [convert, Sem.run_bind, run_underlying' h1, run_underlying' h2, Result.andThen_ok]
    rfl
  · -- a rune
    simp only [ckOk, Bool.and_eq_true] at hk
    obtain ⟨k1, h1⟩ := isInt_spec hk.1
    have h2 := isStr_spec hk.2
    cases hx
    simp only [Option.some.injEq] at h
    subst h
    refine ⟨Post.here hs (c := .string _) ?_ (.s _ _ rfl), rfl⟩
    simp only [convert, Sem.run_bind, run_underlying' h1, run_underlying' h2, Result.andThen_ok, Conv.intToString]
    rfl
  · -- bytes
    simp only [ckOk, Bool.and_eq_true] at hk
    have h1 := isStr_spec hk.1
    obtain ⟨e, h2, h3⟩ := elemIs_spec hk.2
    simp only [Option.some.injEq] at h
    subst h
    generalize hcx : cx = c at hx
    cases hx with | s _ s hl =>
    subst hl
    have kp := keep_bytes G W e s (.ro s.data.toList.length)
    refine ⟨⟨_, _, _, Lib.run_convert_string_bytes W src dst e s h1 h2 h3, kp.ext, hs.keep kp (fun _ _ h => h) rfl, ?_⟩, rfl⟩
    have hlen : s.data.toList.length = s.size := Array.length_toList
    rw [hlen]
    refine .sl _ _ _ _ _ W.heap.size 0 (fun j => .int .u8 (s.data.toList.getD j 0).toNat) (grownCap_le W _ _ _) (fun _ => rfl) (fun j hj => ?_) (fun j hj => ?_) (fun j hj => ?_) trivial
    · simp only [List.length_map] at hj
      unfold Gh.imm
      rw [own_at]; simp only; omega
    · simp only [List.length_map] at hj
      rw [Nat.zero_add]
      exact Lib.bytesWorld_cell W e s j (by omega)
    · simp only [List.length_map] at hj
      have : (s.data.toList.map byteV).getD j .any = byteV (s.data.toList.getD j 0) := by
        simp only [List.getD_eq_getElem?_getD, List.getElem?_map, List.getElem?_eq_getElem hj, Option.map_some, Option.getD_some]
      rw [this]; exact .i _ _
  · -- runes
    simp only [ckOk, Bool.and_eq_true] at hk
    have h1 := isStr_spec hk.1
    obtain ⟨e, h2, h3⟩ := elemIs_spec hk.2
    simp only [Option.some.injEq] at h
    subst h
    generalize hcx : cx = c at hx
    cases hx with | s _ s hl =>
    subst hl
    have hlen : s.data.toList.length = s.size := Array.length_toList
    have hru := runesFrom_eq s s.size 0 #[]
    simp only [List.drop_zero] at hru
    rw [hlen]
    generalize hrl : runesL s.size s.data.toList = rl at *
    have hints : ∀ v ∈ rl, ∃ k n, v = V.i k n := fun v hv => by
      subst hrl
      obtain ⟨n, e⟩ := runesL_i _ _ v hv
      exact ⟨_, n, e⟩
    have hru' : Conv.runesFrom s s.size 0 #[] = (rl.map conc).toArray := by rw [hru]; simp
    have kp := (keep_drew G W).ext.trans (Keep.alloc G W.drew (.cells ((rl.map conc).toArray ++ Array.replicate (grownCap W rl.length 0 e - rl.length) (.int .i32 0)) e) (.ro rl.length)).ext
    have hs' := (hs.keep (keep_drew G W) (fun _ _ h => h) rfl).keep (Keep.alloc G W.drew (.cells ((rl.map conc).toArray ++ Array.replicate (grownCap W rl.length 0 e - rl.length) (.int .i32 0)) e) (.ro rl.length)) (fun _ _ h => h) rfl
    refine ⟨⟨.slice (some ⟨W.heap.size, 0, none⟩) rl.length (grownCap W rl.length 0 e), _, _, ?_, kp, hs', ?_⟩, rfl⟩
    · simp only [convert, Sem.run_bind, run_underlying' h1, run_underlying' h2, run_underlying' h3, Result.andThen_ok, Conv.stringToRunes, hru']
      simp [choose, Sem.run, Question.forced, newRow, newObj, grownCap, World.alloc, World.drew, -World.alloc_eq, -World.drew_eq]
    · refine VR.newRo (G := G) (W := W.drew) (xs := rl) e (0, 0) (by simp) (grownCap_le W _ _ _) (fun j hj => ?_) .no (.ro rl.length) (.inl rfl) _ (Keep.alloc G W.drew _ _).ext (own_at _ _ _) trivial
      rw [getD_append_left (by simpa using hj)]
      exact VRs.map_conc hints j hj
  · -- unsafe pointer
    rename_i id o
    split at h
    · rename_i ty cs hl
      cases hb : Nat.blt o cs.length with
      | false => rw [hb] at h; cases h
      | true =>
        rw [hb] at h
        simp only [cond_true, Option.some.injEq] at h
        subst h
        cases hx with | p _ _ b hob =>
        obtain ⟨b', e1, _, hc⟩ := hs.mem.objs id _ hl
        rw [e1] at hob; cases hob
        obtain ⟨c, g1, g2, _⟩ := CellsRel.ex hc
        have hlt : o < cs.length := by simp [Nat.blt] at hb; omega
        simp only [ckOk] at hk
        split at hk
        · rename_i t hu1 hu2
          cases hz : szOf P t with
          | none => rw [hz] at hk; cases hk
          | some z =>
          rw [hz] at hk
          have hz0 : z ≠ 0 := by intro h0; subst h0; cases hk
          refine ⟨Post.here hs (c := .pointer (some ⟨b, o, none⟩)) ?_ (.p id o b e1), rfl⟩
          simp only [convert, Sem.run_bind, run_underlying' hu1, run_underlying' hu2, Result.andThen_ok, Conv.unsafePointer, Conv.seenAt, run_viewAt_none g1]
          have hsh : W.shape? b = some (ty, c.size) := by simp [World.shape?, g1]
          simp [cellsIn, shape, Sem.run, hsh, run_sizeOf' hz, hz0]
          omega
        · cases hk
    · cases h
  · -- back
    rename_i u n id
    split at h
    · rename_i ty cs hl
      cases hb : (Nat.beq ty u && Nat.beq cs.length n) with
      | false => rw [hb] at h; cases h
      | true =>
        rw [hb] at h
        simp only [cond_true, Option.some.injEq] at h
        subst h
        simp only [Bool.and_eq_true] at hb
        have e3 := Nat.eq_of_beq_eq_true hb.1
        have e4 := Nat.eq_of_beq_eq_true hb.2
        subst e3; subst e4
        cases hx with | p _ _ b hob =>
        obtain ⟨b', e1, _, hc⟩ := hs.mem.objs id _ hl
        rw [e1] at hob; cases hob
        obtain ⟨c, g1, g2, _⟩ := CellsRel.ex hc
        simp only [ckOk] at hk
        split at hk
        · rename_i t hu1 hu2
          simp only [Bool.and_eq_true] at hk
          obtain ⟨⟨⟨k1, k2⟩, k3⟩, k4⟩ := hk
          have := Nat.eq_of_beq_eq_true k1
          subst this
          cases hz : szOf P t with
          | none => rw [hz] at k2; cases k2
          | some z =>
          rw [hz] at k2
          have hz0 : z ≠ 0 := by intro h0; subst h0; cases k2
          refine ⟨Post.here hs (c := .pointer (some ⟨b, 0, none⟩)) ?_ (.p id 0 b e1), rfl⟩
          rw [g2] at k4
          simp only [convert, Sem.run_bind, run_underlying' hu1, run_underlying' hu2, Result.andThen_ok, Conv.unsafePointer, Conv.seenAt, run_viewAt_none g1]
          have hsh : W.shape? b = some (t, c.size) := by simp [World.shape?, g1]
          simp [run_sizeOf' hz, hz0, variablesAt, k4, program, Sem.run, shape, hsh]
        · cases hk
    · cases h
  · -- to a string
    simp only [ckOk, Bool.and_eq_true] at hk
    obtain ⟨e, h1, h3⟩ := elemIs_spec hk.1
    have h2 := isStr_spec hk.2
    split at h
    · rename_i cs n hrow
      cases hby : bytesOf? cs with
      | none => rw [hby] at h; cases h
      | some l =>
      rw [hby] at h
      simp only [Option.map_some, Option.some.injEq] at h
      subst h
      obtain ⟨ns, e1, e2⟩ := bytesOf?_spec hby
      obtain ⟨hl, hh⟩ := row_sound hs hrow hx (by omega)
      rcases hh with ⟨s, rfl, _, rfl, e5⟩ | ⟨a, cap, b, o, f, rfl, hn, ha, hc, hr⟩
      · refine ⟨Post.here hs (c := .string s) ?_ (.s _ s ?_), rfl⟩
        · simp only [convert, Sem.run_bind, run_underlying' h1, run_underlying' h2, Result.andThen_ok]
          rfl
        · rw [e2]
          have : s.data.toList.map byteV = ns.map (V.i .u8) := by rw [← e5, e1]
          have h6 : s.data.toList.map (fun b => (b.toNat : Int)) = ns := by
            have := congrArg (List.map fun v => match v with | V.i _ n => n | _ => 0) this
            simpa [List.map_map, Function.comp_def, byteV] using this
          rw [← h6]
          simp [List.map_map, Function.comp_def]
      · obtain ⟨arr, r1, r2, _⟩ := firstCells_sound hs hrow hx (by omega)
        rw [e1] at r2
        have harr := ints_of r2
        subst harr
        have hlc : cs.length = ns.length := by rw [e1]; simp
        cases a with
        | none =>
          have hx0 : cs = [] := by
            cases cs with
            | nil => rfl
            | cons y ys => have := ha (by simp); cases this
          have hns : ns = [] := by rw [hx0] at hlc; exact List.length_eq_zero_iff.1 hlc.symm
          subst hns
          refine ⟨Post.here hs (c := .string .empty) ?_ (.s _ _ (by rw [e2]; rfl)), rfl⟩
          simp only [convert, Sem.run_bind, run_underlying' h1, run_underlying' h2, run_underlying' h3, Result.andThen_ok, Conv.bytesToString]
          rfl
        | some a =>
          have hrun := run_bytesToString W a n cap ns (by simpa [Builtin.firstCells] using r1)
          refine ⟨Post.here hs (c := .string (ns.foldl (fun r n => r.push (UInt8.ofNat n.toNat)) ByteArray.empty)) ?_ (.s _ _ ?_), rfl⟩
          · simp only [convert, Sem.run_bind, run_underlying' h1, run_underlying' h2, run_underlying' h3, Result.andThen_ok]
            exact hrun
          · rw [foldl_push_bytes, e2]; simp
    · cases h
  · -- runes to a string
    simp only [ckOk, Bool.and_eq_true] at hk
    obtain ⟨e, h1, h3⟩ := elemIs_spec hk.1
    have h2 := isStr_spec hk.2
    split at h
    · rename_i cs n hrow
      cases hby : runesOf? cs with
      | none => rw [hby] at h; cases h
      | some l =>
      rw [hby] at h
      simp only [Option.map_some, Option.some.injEq] at h
      subst h
      obtain ⟨ns, e1, e2⟩ := runesOf?_spec hby
      obtain ⟨hl, hh⟩ := row_sound hs hrow hx (by omega)
      rcases hh with ⟨s, rfl, _, rfl, e5⟩ | ⟨a, cap, b, o, f, rfl, hn, ha, hc, hr⟩
      · have hns : ns = [] := by
          cases ns with
          | nil => rfl
          | cons m ms =>
            rw [e5] at e1
            cases hsd : s.data.toList with
            | nil => rw [hsd] at e1; cases e1
            | cons y ys => rw [hsd] at e1; simp [byteV] at e1
        subst hns
        have hsd : s.data.toList = [] := by
          have : s.data.toList.map byteV = [] := by rw [← e5, e1]; rfl
          simpa using this
        refine ⟨Post.here hs (c := .string s) ?_ (.s _ s (by rw [hsd, e2]; rfl)), rfl⟩
        simp only [convert, Sem.run_bind, run_underlying' h1, run_underlying' h2, Result.andThen_ok]
        rfl
      · obtain ⟨arr, r1, r2, _⟩ := firstCells_sound hs hrow hx (by omega)
        rw [e1] at r2
        have harr := ints_of r2
        subst harr
        have hlc : cs.length = ns.length := by rw [e1]; simp
        cases a with
        | none =>
          have hx0 : cs = [] := by
            cases cs with
            | nil => rfl
            | cons y ys => have := ha (by simp); cases this
          have hns : ns = [] := by rw [hx0] at hlc; exact List.length_eq_zero_iff.1 hlc.symm
          subst hns
          refine ⟨Post.here hs (c := .string .empty) ?_ (.s _ _ (by rw [e2]; rfl)), rfl⟩
          simp only [convert, Sem.run_bind, run_underlying' h1, run_underlying' h2, run_underlying' h3, Result.andThen_ok, Conv.runesToString]
          rfl
        | some a =>
          have hld : (loadCells a n).run P W = .ok (ns.map (Value.int .i32)).toArray W := by simpa [Builtin.firstCells] using r1
          refine ⟨Post.here hs (c := .string (ns.foldl (fun r n => r ++ Utf8.encode n) ByteArray.empty)) ?_ (.s _ _ ?_), rfl⟩
          · simp only [convert, Sem.run_bind, run_underlying' h1, run_underlying' h2, run_underlying' h3, Result.andThen_ok, Conv.runesToString, hld]
            rw [← Array.forIn_toList]
            simp only
            rw [forIn_runes _ ns _ (fun n s => rfl)]
            rfl
          · rw [foldl_encode, e2]; rfl
    · cases h
  · cases h

end
end Ai
