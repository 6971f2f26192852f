/- The abstract interpreter: copy, unsafe.SliceData, unsafe.String. -/
import Derived.Test.YtbhclhgljnoioaaDoorAiQ
namespace Ai
open Go

section
variable {P : Program} {kl : List (Nat × List Nat)} {G : Gh} {W : World} {st : St} {A : Act}

/-- The first cells of a slice are read. -/
theorem firstCells_prefix (hs : StRel P kl G W st A) {sz : Nat} {v : V} {c : Value} {xs : List V} {n k : Nat} (h : st.row sz v = some (xs, n)) (hv : VR G W v c) (hz : 0 < sz) (hk : k ≤ n) :
    ∃ a : Array Value, (Builtin.firstCells sz k c).run P W = .ok a W ∧ VRs G W (xs.take (k * sz)) a ∧ (Builtin.lenOf c).run P W = .ok n W := by
  obtain ⟨hl, hh⟩ := row_sound hs h hv hz
  have hmul : k * sz ≤ n * sz := Nat.mul_le_mul_right _ hk
  rcases hh with ⟨s, rfl, rfl, rfl, rfl⟩ | ⟨a, cap, b, o, cs, rfl, hn, ha, hc, hr⟩
  · have hss : s.data.size = s.size := rfl
    refine ⟨(s.extract 0 k).data.map fun b => .int .u8 b.toNat, rfl, ⟨by simp [hss], fun j hj => ?_⟩, rfl⟩
    simp only [List.length_take, List.length_map, Array.length_toList, Nat.mul_one] at hj
    have hjk : j < k := by omega
    have hjs : j < s.data.size := by omega
    rw [Nat.mul_one, getD_take _ _ hjk]
    have e1 : s.data[j]? = some s.data[j] := Array.getElem?_eq_getElem hjs
    have e2 : (s.extract 0 k).data[j]? = some s.data[j] := by
      rw [ByteArray.data_extract, Array.getElem?_extract_of_lt (by omega)]
      simp
    simp only [List.getD_eq_getElem?_getD, Array.getD_eq_getD_getElem?, List.getElem?_map, Array.getElem?_map, Array.getElem?_toList, e1, e2, Option.map_some, Option.getD_some]
    exact .i _ _
  · by_cases hx : xs = []
    · subst hx
      have hn0 : n = 0 := by
        rcases Nat.eq_zero_or_pos n with h | h
        · exact h
        · have := Nat.mul_pos h hz; simp at hl; omega
      subst hn0
      have hk0 : k = 0 := by omega
      subst hk0
      refine ⟨#[], ?_, ⟨by simp, fun j hj => by simp at hj⟩, rfl⟩
      cases a with
      | none => rfl
      | some a => simp only [Builtin.firstCells, Nat.zero_mul]; rfl
    · rw [ha hx]
      refine ⟨(stretch cs 0 (k * sz)).toArray, ?_, ⟨by rw [List.length_take, List.size_toArray, stretch_length]; omega, fun j hj => ?_⟩, rfl⟩
      · simp only [Builtin.firstCells]
        exact run_loadCells' b o (k * sz) cs (fun j hj => hc j (by omega))
      · simp only [List.length_take] at hj
        have e : (stretch cs 0 (k * sz)).toArray.getD j undef = cs j := by
          have := stretch_getD cs (k * sz) 0 j (by omega)
          simp only [Nat.zero_add] at this
          rw [← this]
          simp [Array.getD_eq_getD_getElem?, List.getD_eq_getElem?_getD]
        rw [e, getD_take _ _ (by omega)]; exact hr j (by omega)

def copyOk (P : Program) (argTypes : Array TypeId) (sz : Nat) : Bool :=
  match argTypes.toList with
  | t0 :: _ => (match P.underlying t0 with | some (.slice e) => decide (szOf P e = some sz) && Nat.blt 0 sz | _ => false)
  | _ => false

theorem copyOk_spec {argTypes : Array TypeId} {sz : Nat} (h : copyOk P argTypes sz = true) : ∃ t0 e, argTypes[0]? = some t0 ∧ P.underlying t0 = some (.slice e) ∧ szOf P e = some sz ∧ 0 < sz := by
  unfold copyOk at h
  split at h
  · rename_i t0 r hl
    split at h
    · rename_i e hu
      simp only [Bool.and_eq_true, decide_eq_true_eq] at h
      exact ⟨t0, e, by rw [← Array.getElem?_toList, hl]; rfl, hu, h.1, blt_lt h.2⟩
    · cases h
  · cases h

/-- copy into a row of the shared memory -/
theorem copy_sound (hs : StRel P kl G W st A) {argTypes : Array TypeId} {sz : Nat} (hk : copyOk P argTypes sz = true) {id off n : Nat} {y : V} {cx cy : Value} {ys : List V} {m : Nat} {ty : TypeId} {cs : List V}
    (hx : VR G W (.hs id off n sz) cx) (hy : VR G W y cy) (hrow : st.row sz y = some (ys, m)) (hob : al st.h.objs id = some (.cells ty cs)) (hle : off + min n m * sz ≤ cs.length) (hone : allOne ys = true) (t : TypeId) :
    Post P kl G W { st with h := st.h.setObj id (.cells ty (splice cs off (ys.take (min n m * sz)))) } A (.i .i64 (min n m : Nat)) ((Builtin.copy_ argTypes t #[cx, cy]).run P W) := by
  obtain ⟨t0, e, ht0, hu, hsz, hz⟩ := copyOk_spec hk
  obtain ⟨ay, r1, r2, r3⟩ := firstCells_prefix hs hrow hy hz (Nat.min_le_right n m)
  obtain ⟨hyl, _⟩ := row_sound hs hrow hy hz
  cases hx with | hs _ _ _ _ b cap ad hgb hn ha =>
  have hmin : Nat.min m n = min n m := Nat.min_comm m n
  have hmul : min n m * sz ≤ m * sz := Nat.mul_le_mul_right _ (Nat.min_le_right n m)
  have htl : (ys.take (min n m * sz)).length = min n m * sz := by rw [List.length_take]; omega
  obtain ⟨b', e1, e2, hc⟩ := hs.mem.objs id _ hob
  rw [e1] at hgb; cases hgb
  have hm : (G.own b).mine = true := by rw [e2]; rfl
  have hone' : ∀ v ∈ ys.take (min n m * sz), v.one = true := fun v hv => allOne_sound hone v (List.mem_of_mem_take hv)
  obtain ⟨W', w1, tn, w2⟩ := CellsRel.write (P := P) hc r2 (by rw [htl]; exact hle) hone' hm
  have hrun : (Builtin.copy_ argTypes t #[.slice ad n cap, cy]).run P W = (match ad with | some a => (storeCells a ay.toList).run P W | none => .ok () W).andThen fun _ w => .ok (.int .i64 (min n m : Nat)) w := by
    simp only [Builtin.copy_, ht0, List.getElem?_toArray, List.getElem?_cons_zero, List.getElem?_cons_succ, Sem.run_bind, run_underlying' hu, Result.andThen_ok, r3, hmin, run_sizeOf' hsz, r1]
    cases ad <;> first | rfl | simp only [Sem.run_bind, Sem.run_pure, goInt]
  rw [hrun]
  rcases Nat.eq_zero_or_pos n with hn0 | hn0
  · -- nothing is written
    subst hn0
    have hay : ay.toList = [] := by
      have h1 := r2.1
      rw [htl] at h1
      simp only [Nat.zero_min, Nat.zero_mul] at h1
      have : ay = #[] := Array.eq_empty_of_size_eq_zero h1.symm
      rw [this]
    have hstore : (match ad with | some a => (storeCells a ay.toList).run P W | none => .ok () W) = .ok () W := by
      cases ad with
      | none => rfl
      | some a => simp only [hay]; rfl
    rw [hstore]
    refine ⟨_, G, W, rfl, Ext.refl G W, ?_, .i _ _⟩
    have : splice cs off (ys.take (min 0 m * sz)) = cs := by simp [splice, List.take_append_drop]
    rw [this]
    obtain ⟨c, g1, g2, g3⟩ := CellsRel.ex hc
    exact hs.setObj (W' := W) ⟨rfl, rfl, rfl, rfl, fun _ _ => rfl⟩ e2 e1 hc
  · rw [ha hn0]
    simp only [w1, Result.andThen_ok]
    exact ⟨_, G, W', rfl, tn.ext hm, hs.setObj tn e2 e1 w2, .i _ _⟩

/-- A row is frozen up to its tip. -/
theorem StRel.turnRow (hs : StRel P kl G W st A) {W' : World} {b t f : Nat} {c : Array Value} {ty : TypeId} {fz fz' : Nat × Nat} (tn : Turn W b W') (ho : G.own b = .row t f) (h1 : W.heap[b]? = some (.cells c ty fz)) (h2 : W'.heap[b]? = some (.cells c ty fz'))
    (hf : fz'.1 = fz'.2 ∨ fz'.2 ≤ f) : Ext G W G W' ∧ StRel P kl G W' st A := by
  have hcell : ∀ o, W'.cell? ⟨b, o, none⟩ = W.cell? ⟨b, o, none⟩ := fun o => by rw [cell_of h1, cell_of h2]
  have e : Ext G W G W' := {
    tape := tn.tape, os := tn.os, out := tn.out
    sz := by rw [tn.sz]; exact Nat.le_refl _
    e1 := fun k _ hk => ⟨tn.other k (fun h => by subst h; rw [ho] at hk; cases hk), hk⟩
    ro := fun k f' hk _ => ⟨tn.other k (fun h => by subst h; rw [ho] at hk; cases hk), hk⟩
    row := fun k t' f' hk _ => by
      refine ⟨fun o _ => ?_, f', Nat.le_refl _, .inl hk⟩
      by_cases h : k = b
      · subst h; exact hcell o
      · exact cell?_congr (tn.other k h)
    obj := fun _ _ h => h
    nt := Nat.le_refl _
    tip := fun _ _ => ⟨Nat.le_refl _, fun _ => rfl⟩ }
  refine ⟨e, ?_⟩
  exact {
    T := fun i hi => (hs.T i hi).mono e
    L := hs.L
    I := hs.I
    loc := fun r cs hg => by
      obtain ⟨g1, ty', g2⟩ := hs.loc r cs hg
      exact ⟨g1, ty', g2.of_heap e (tn.other _ (fun h => by rw [h, ho] at g1; cases g1))⟩
    its := fun r l p hg => by
      obtain ⟨g1, s, g2, g3⟩ := hs.its r l p hg
      exact ⟨g1, s, (tn.other _ (fun h => by rw [h, ho] at g1; cases g1)).trans g2, g3⟩
    mem := {
      objs := fun id o hg => by
        obtain ⟨k, g1, g2, g3⟩ := hs.mem.objs id o hg
        exact ⟨k, g1, g2, g3.of_heap e (tn.other _ (fun h => by rw [h, ho] at g2; cases g2))⟩
      next := hs.mem.next
      nt := hs.mem.nt
      tips := fun t' n' ty' hg => by
        obtain ⟨g1, g2, g3⟩ := hs.mem.tips t' n' ty' hg
        refine ⟨g1, g2, ?_⟩
        rcases g3 with g3 | ⟨b', base', cap', c', fz0, k1, k2, k3, k4, k5, k6, k7⟩
        · exact .inl g3
        · by_cases h : b' = b
          · subst h
            rw [h1] at k3
            cases k3
            rw [ho] at k2
            have hff := (BK.row.inj k2).2
            refine .inr ⟨b', base', cap', c, fz', k1, by rw [ho]; exact k2, h2, k4, ?_, k6, k7⟩
            rw [← hff]; exact hf
          · exact .inr ⟨b', base', cap', c', fz0, k1, k2, (tn.other _ h).trans k3, k4, k5, k6, k7⟩ }
    gl := fun g => ⟨(hs.gl g).1, (hs.gl g).2.mono e⟩ }

theorem freeze_turn {b n : Nat} {c : Array Value} {ty : TypeId} {fz : Nat × Nat} (h : W.heap[b]? = some (.cells c ty fz)) (hn : 0 < n) {f : Nat} (hf : fz.1 = fz.2 ∨ fz.2 ≤ f) (hnf : n ≤ f) :
    Turn W b (W.freeze ⟨b, 0, none⟩ n) ∧ ∃ fz', (W.freeze ⟨b, 0, none⟩ n).heap[b]? = some (.cells c ty fz') ∧ (fz'.1 = fz'.2 ∨ fz'.2 ≤ f) := by
  have hn0 : n ≠ 0 := by omega
  unfold World.freeze
  rw [if_neg hn0]
  have hb := heap_lt h
  have hx : W.heap[b] = .cells c ty fz := (Array.getElem?_eq_some_iff.1 h).2
  refine ⟨⟨rfl, rfl, rfl, by simp, fun k hk => by simp [Array.getElem?_modify, Ne.symm hk]⟩, ?_⟩
  obtain ⟨lo, hi⟩ := fz
  refine ⟨if lo == hi then (0, 0 + n) else (min lo 0, max hi (0 + n)), ?_, ?_⟩
  · show (W.heap.modify b _)[b]? = _
    rw [Array.getElem?_modify, if_pos rfl, Array.getElem?_eq_getElem hb, hx]
    rfl
  · by_cases he : lo = hi
    · subst he; right; simp; omega
    · have : (lo == hi) = false := by simpa using he
      rw [this]
      simp only [Bool.false_eq_true, if_false]
      rcases hf with hf | hf
      · exact absurd hf he
      · right; simp only at hf ⊢; omega

def ustrOk (P : Program) (argTypes : Array TypeId) (ty : TypeId) : Bool :=
  match argTypes.toList with
  | [pt, _] => (match P.underlying pt with | some (.pointer e) => Nat.beq e ty | _ => false) && decide (szOf P ty = some 1)
  | _ => false

theorem run_loadBytes' (b : Nat) : ∀ (ns : List Int) (o : Nat) (acc : ByteArray), (∀ j, j < ns.length → W.cell? ⟨b, o + j, none⟩ = some (.int .u8 (ns.getD j 0))) →
    (loadBytes ⟨b, o, none⟩ acc ns.length).run P W = .ok ⟨acc.data ++ (ns.map fun n => UInt8.ofNat n.toNat).toArray⟩ W
  | [], o, acc, _ => by simp [loadBytes]
  | n :: ns, o, acc, h => by
    have h0 := h 0 (by simp)
    simp only [Nat.add_zero, List.getD_cons_zero] at h0
    simp only [List.length_cons, loadBytes, Sem.run_bind, run_load' h0, Result.andThen_ok, add_mk]
    rw [run_loadBytes' b ns (o + 1) _ (fun j hj => by
      have := h (j + 1) (by simp; omega)
      rw [show o + 1 + j = o + (j + 1) from by omega]
      simpa using this)]
    congr 1
    apply ByteArray.ext
    simp [ByteArray.push]

theorem ustr_sound (hs : StRel P kl G W st A) {argTypes : Array TypeId} {ty : TypeId} (hk : ustrOk P argTypes ty = true) {xs : List V} {n : Nat} {tk : Tk} {cx cn : Value} {x : V} {l : List UInt8}
    (hx : VR G W (.sd xs n tk) cx) (hn : VR G W x cn) (hnat : natOf x = some n) (hl : xs.length = n) (hmost : n ≤ most)
    (h : n = 0 ∧ l = [] ∨ ∃ t, 0 < n ∧ tk = .own t ∧ al st.h.tips t = some (n, ty) ∧ bytesOf? xs = some l) (t' : TypeId) :
    Post P kl G W st A (.s l) ((Builtin.unsafeString_ argTypes t' #[cx, cn]).run P W) := by
  unfold ustrOk at hk
  split at hk
  · rename_i pt it hat
    have hargs : argTypes = #[pt, it] := by rw [← hat]
    subst hargs
    simp only [Bool.and_eq_true, decide_eq_true_eq] at hk
    obtain ⟨k1, k2⟩ := hk
    split at k1
    · rename_i e hu
      have := Nat.eq_of_beq_eq_true k1
      subst this
      obtain ⟨k, rfl⟩ := natOf_sound hnat hn
      have hmost' : n ≤ 134217728 := hmost
      have hmax : ¬ ((n : Int) > IntKind.i64.max) := by
        have e3 : IntKind.i64.max = 9223372036854775807 := by decide
        rw [e3]; omega
      have hneg : ¬ ((n : Int) < 0) := by omega
      cases hx with | sd _ _ _ p b o cap cs ha hi hc hv ht =>
      have hdef : (Builtin.unsafeString_ #[pt, it] t' #[.pointer p, .int k (n : Int)]).run P W =
          (match p with
            | none => (if (n : Int) = 0 then pure (.string .empty) else runtimePanic (.error "unsafe.String: ptr is nil and len is not zero") : Sem Value)
            | some a => (if (n : Int) = 0 then pure (.string .empty) else (do
                let ok ← variablesAt a (← elemOf pt) n
                if ok then (do let s ← loadBytes a .empty n; freeze a n; pure (.string s)) else unsupported (.unsafePointer "String: not so many bytes at ptr")) : Sem Value)).run P W := by
        have h1 : (Builtin.unsafeString_ #[pt, it] t' #[.pointer p, .int k (n : Int)]) =
          (do
            let m ← asInt (.int k (n : Int))
            if m < 0 then runtimePanic (.error "unsafe.String: len out of range")
            if m > IntKind.i64.max then unsupported (.unsafePointer "String: a length above the largest int")
            match p with
            | none => if m = 0 then pure (.string .empty) else runtimePanic (.error "unsafe.String: ptr is nil and len is not zero")
            | some a => if m = 0 then pure (.string .empty) else (do
                let ok ← variablesAt a (← elemOf pt) m.toNat
                if ok then (do let s ← loadBytes a .empty m.toNat; freeze a m.toNat; pure (.string s)) else unsupported (.unsafePointer "String: not so many bytes at ptr"))) := rfl
        rw [h1]
        simp only [Sem.run_bind, asInt, asIntOf, Sem.run_pure, Result.andThen_ok]
        rw [if_neg hneg, if_neg hmax]
        cases p <;> simp
      rw [hdef]
      rcases h with ⟨rfl, rfl⟩ | ⟨t, hpos, rfl, htips, hby⟩
      · refine Post.here hs (c := .string .empty) ?_ (.s _ _ rfl)
        cases p <;> simp
      · have hne : xs ≠ [] := by intro h; subst h; simp at hl; omega
        rw [ha hne]
        obtain ⟨h1, h2, h3⟩ := ht hne
        obtain ⟨g1, g2, g3⟩ := hs.mem.tips t n e htips
        have hka := h3 g2.symm
        obtain ⟨ns, e1, e2⟩ := bytesOf?_spec hby
        have hcells1 : P.cellsOf e = 1 := by
          unfold szOf at k2
          unfold Program.cellsOf
          rw [k2]; rfl
        rcases g3 with ⟨g3, g30⟩ | ⟨b', base', cap', c', fz', q1, q2, q3, q4, q5, q6, q7⟩
        · omega
        · rw [hka] at q1
          cases q1
          subst q7
          rw [hcells1] at q2 q4 q5
          simp only [Nat.zero_add, Nat.mul_one] at q2 q4 q5
          have hnl : ns.length = n := by rw [← hl, e1]; simp
          have hcell : ∀ j, j < ns.length → W.cell? ⟨b, 0 + j, none⟩ = some (.int .u8 (ns.getD j 0)) := by
            intro j hj
            have h4 := hc j (by omega)
            have h5 := hv j (by omega)
            have h6 : xs.getD j .any = .i .u8 (ns.getD j 0) := by
              rw [e1]; simp [List.getD_eq_getElem?_getD, hj]
            rw [h6] at h5
            generalize cs j = cj at h4 h5
            cases h5
            exact h4
          have hlb := run_loadBytes' (P := P) (W := W) b ns 0 .empty hcell
          rw [hnl] at hlb
          have hsh : W.shape? b = some (e, c'.size) := by simp [World.shape?, q3]
          have hlies := Lib.liesAt_bytes (P := P) hcells1 (c'.size / P.cellsOf e) n (by rw [hcells1]; simp; omega)
          have hn0 : ¬ ((n : Int) = 0) := by omega
          obtain ⟨tn, fz2, f1, f2⟩ := freeze_turn q3 hpos q5 (Nat.le_refl n)
          obtain ⟨x1, x2⟩ := hs.turnRow tn q2 q3 f1 f2
          refine ⟨.string ⟨(ns.map fun n => UInt8.ofNat n.toNat).toArray⟩, G, W.freeze ⟨b, 0, none⟩ n, ?_, x1, x2, .s _ _ (by rw [e2])⟩
          simp only [if_neg hn0, Sem.run_bind, elemOf, run_underlying' hu, Result.andThen_ok, Sem.run_pure, variablesAt, program, shape, Sem.run, hsh, hlies, if_true, hlb]
          simp [freeze, Sem.run]
    · cases k1
  · cases hk

end
end Ai
