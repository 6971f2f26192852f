/- The abstract interpreter: composite slices, make, a nil slice to be appended to, copy, unsafe.String. -/
import Derived.Test.YtbhclhgljnoioaaDoorAiP
namespace Ai
open Go

theorem zeros_length (z : List V) : ∀ n, (zeros z n).length = n * z.length
  | 0 => by simp [zeros]
  | n + 1 => by simp [zeros, zeros_length z n, Nat.add_mul]; omega

theorem zeros_getD (z : List V) : ∀ (n j : Nat), j < n * z.length → (zeros z n).getD j .any = z.getD (j % z.length) .any
  | 0, j, h => by omega
  | n + 1, j, h => by
    simp only [zeros]
    rw [Nat.add_mul, Nat.one_mul] at h
    by_cases hj : j < z.length
    · rw [getD_append_lt _ _ _ hj, Nat.mod_eq_of_lt hj]
    · rw [getD_append_ge _ _ _ (by omega), zeros_getD z n (j - z.length) (by omega)]
      congr 1
      rw [← Nat.mod_eq_sub_mod (by omega)]

section
variable {P : Program} {kl : List (Nat × List Nat)} {G : Gh} {W : World} {st : St} {A : Act}

theorem zeros_rel {z : List V} {zc : Array Value} (h : VRs G W z zc) (hz : 0 < zc.size) (n : Nat) : VRs G W (zeros z n) ((Array.range (n * zc.size)).map (zc[· % zc.size]!)) := by
  refine ⟨by simp [zeros_length, h.1], fun j hj => ?_⟩
  rw [zeros_length] at hj
  rw [zeros_getD z n j hj]
  have hl : z.length = zc.size := h.1
  rw [hl] at hj ⊢
  have hm : j % zc.size < zc.size := Nat.mod_lt _ hz
  have e : ((Array.range (n * zc.size)).map (zc[· % zc.size]!)).getD j undef = zc.getD (j % zc.size) undef := by
    simp only [Array.getD_eq_getD_getElem?, Array.getElem?_map]
    rw [Array.getElem?_eq_getElem (by simpa using hj)]
    simp [hm]
  rw [e]
  exact h.2 _ (by omega)

def zOk (P : Program) (t : TypeId) (z : List V) (sz : Nat) : Bool :=
  match P.info? t with
  | some i => Nat.beq i.size sz && Nat.blt 0 sz && Nat.ble i.bytes 1048576 && (match i.zero with | some v => csOk z v.cells.toList && Nat.beq v.cells.size sz | none => false)
  | none => false

theorem zOk_spec {t : TypeId} {z : List V} {sz : Nat} (h : zOk P t z sz = true) :
    ∃ i v, P.info? t = some i ∧ i.size = sz ∧ 0 < sz ∧ i.bytes ≤ 1048576 ∧ i.zero = some v ∧ v.cells.size = sz ∧ (∀ G W, VRs G W z v.cells) ∧ szOf P t = some sz ∧ P.cellsOf t = sz := by
  unfold zOk at h
  split at h
  · rename_i i hi
    simp only [Bool.and_eq_true] at h
    obtain ⟨⟨⟨h1, h2⟩, h3⟩, h4⟩ := h
    have h1 := Nat.eq_of_beq_eq_true h1
    split at h4
    · rename_i v hv
      simp only [Bool.and_eq_true] at h4
      refine ⟨i, v, hi, h1, blt_lt h2, Nat.le_of_ble_eq_true h3, hv, Nat.eq_of_beq_eq_true h4.2, fun G W => ?_, by simp [szOf, hi, h1], by simp [Program.cellsOf, hi, h1]⟩
      obtain ⟨g1, g2⟩ := csOk_sound G W z v.cells.toList h4.1
      exact ⟨by simpa using g1, fun j hj => by simpa [Array.getD_eq_getD_getElem?, List.getD_eq_getElem?_getD] using g2 j hj⟩
    · cases h4
  · cases h

/-- A new token for a nil slice. -/
theorem movnil_sound (hs : StRel P kl G W st A) (ty : TypeId) :
    ∃ G', Ext G W G' W ∧ StRel P kl G' W { st with h := (st.h.tok 0 ty).2 } A ∧ VR G' W (.sl [] 0 (.own st.h.nt)) (.slice none 0 0) := by
  have hnt := hs.mem.nt
  have e : Ext G W { G with nt := G.nt + 1, tip := fun i => if i = st.h.nt then 0 else G.tip i, tka := fun i => if i = st.h.nt then (none, 0) else G.tka i } W := {
    tape := rfl, os := rfl, out := rfl
    sz := Nat.le_refl _
    e1 := fun b _ ho => ⟨rfl, ho⟩
    ro := fun b f ho _ => ⟨rfl, ho⟩
    row := fun b t f ho _ => ⟨fun _ _ => rfl, f, Nat.le_refl _, .inl ho⟩
    obj := fun _ _ h => h
    nt := Nat.le_succ _
    tip := fun t ht => by
      have : t ≠ st.h.nt := by omega
      simp [this] }
  refine ⟨_, e, ?_, ?_⟩
  · exact {
      T := fun i hi => (hs.T i hi).mono e
      L := hs.L
      I := hs.I
      loc := fun r cs hg => by
        obtain ⟨h1, ty', h2⟩ := hs.loc r cs hg
        exact ⟨h1, ty', h2.of_heap e rfl⟩
      its := hs.its
      mem := {
        objs := fun id o hg => by
          obtain ⟨b, h1, h2, h3⟩ := hs.mem.objs id o hg
          exact ⟨b, h1, h2, h3.of_heap e rfl⟩
        next := hs.mem.next
        nt := by show G.nt + 1 = st.h.nt + 1; rw [hnt]
        tips := fun t n ty' hg => by
          simp only [H.tok, al] at hg
          cases hb : Nat.beq st.h.nt t with
          | true =>
            rw [hb] at hg
            simp only [cond_true, Option.some.injEq, Prod.mk.injEq] at hg
            obtain ⟨rfl, rfl⟩ := hg
            have := Nat.eq_of_beq_eq_true hb
            subst this
            exact ⟨by simp [H.tok], by simp, .inl ⟨by simp, rfl⟩⟩
          | false =>
            rw [hb] at hg
            have hne : t ≠ st.h.nt := fun h => by subst h; simp at hb
            obtain ⟨h1, h2, h3⟩ := hs.mem.tips t n ty' hg
            refine ⟨by simp only [H.tok]; omega, by simp [hne, h2], ?_⟩
            rcases h3 with ⟨h3, h30⟩ | ⟨b', base', cap', c', fz', k1, k2, k3, k4, k5, k6, k7⟩
            · exact .inl ⟨by simp [hne, h3], h30⟩
            · exact .inr ⟨b', base', cap', c', fz', by simp [hne, k1], k2, k3, k4, k5, k6, k7⟩ }
      gl := fun g => ⟨(hs.gl g).1, (hs.gl g).2.mono e⟩ }
  · exact .sl [] 0 _ none 0 0 0 (fun _ => undef) (Nat.le_refl _) (fun h => absurd rfl h) (fun j hj => by cases hj) (fun j hj => by cases hj) (fun j hj => by cases hj) ⟨by show st.h.nt < G.nt + 1; omega, by simp, fun _ => by simp⟩

/-- make([]T, n, c) -/
theorem makeSlice_run {t ty sz : Nat} {i : TypeInfo} {v : Value} {n c : Nat} {k k' : IntKind} (hu : P.underlying t = some (.slice ty)) (hi : P.info? ty = some i) (hs : i.size = sz) (hz : i.zero = some v) (hv : v.cells.size = sz) (hsz : 0 < sz)
    (hby : i.bytes ≤ 1048576) (hnc : n ≤ c) (hc : c ≤ 134217728) :
    (Instr.makeSlice t (.int k (n : Int)) (.int k' (c : Int))).run P W =
      .ok (.slice (some ⟨W.heap.size, 0, none⟩) n c) (W.alloc (.cells ((Array.range (c * v.cells.size)).map (v.cells[· % v.cells.size]!)) ty)) := by
  have hw : ∀ m : Nat, m ≤ 134217728 → IntKind.i64.wrap (m : Int) = (m : Int) := fun m hm => by
    rw [wr_eq]; simp only [wr, lo]; split <;> omega
  have hmul : i.bytes * c ≤ 1048576 * 134217728 := Nat.mul_le_mul hby hc
  have h1 : ¬ ((i.bytes : Int) * (c : Int) > 2 ^ 48) := by
    have e48 : (2 : Int) ^ 48 = 281474976710656 := by decide
    have h2 : i.bytes * c ≤ 140737488355328 := Nat.le_trans hmul (by decide)
    rw [e48, ← Int.natCast_mul]
    generalize i.bytes * c = x at h2
    omega
  have hszof : szOf P ty = some sz := by simp [szOf, hi, hs]
  have hzv : ∀ w : World, (zeroValue ty).run P w = .ok v w := fun w => by simp [zeroValue, run_typeInfo' hi, hz]
  have hcond : (decide ((c : Int) < 0) || decide ((i.bytes : Int) * (c : Int) > 2 ^ 48)) = false := by
    rw [decide_eq_false (show ¬ ((c : Int) < 0) by omega), decide_eq_false h1]; rfl
  simp only [Instr.makeSlice, Sem.run_bind, run_underlying' hu, Result.andThen_ok, asInt, asIntOf, Sem.run_pure, run_typeInfo' hi, hw n (by omega), hw c hc]
  rw [if_neg (by
    intro hh
    simp only [Bool.or_eq_true, decide_eq_true_eq] at hh
    simp only [Bool.or_eq_false_iff, decide_eq_false_iff_not] at hcond
    omega)]
  simp only [Int.toNat_natCast, Sem.run_bind, run_askRoom, Result.andThen_ok, run_sizeOf' hszof]
  by_cases hc0 : c * sz = 0
  · have hc' : c = 0 := by
      rcases Nat.eq_zero_or_pos c with h | h
      · exact h
      · have := Nat.mul_pos h hsz; omega
    subst hc'
    simp [hv, newRow, newObj, Sem.run, World.alloc, -World.alloc_eq, show Array.range 0 = #[] from rfl]
  · rw [if_neg hc0]
    simp only [Sem.run_bind, hzv, Result.andThen_ok, Sem.run_pure, hv]
    rfl

end
end Ai
