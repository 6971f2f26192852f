/- The abstract interpreter: append. -/
import Derived.Test.YtbhclhgljnoioaaDoorAiM
namespace Ai
open Go

def appOk (P : Program) (argTypes : Array TypeId) (ty sz : Nat) : Bool :=
  match argTypes.toList with
  | [t0, t1] =>
    (match P.underlying t0 with | some (.slice e) => Nat.beq e ty | _ => false) &&
    (match P.underlying t1 with | some (.int _) => false | some _ => true | none => false) &&
    (match P.info? ty with
     | some i => Nat.beq i.size sz && Nat.blt 0 sz && Nat.ble i.bytes 1048576 && (match i.zero with | some z => Nat.beq z.cells.size sz | none => false)
     | none => false)
  | _ => false

def Gh.grown (G : Gh) (b t n f : Nat) (ac : Option Addr × Nat) : Gh :=
  { G with
    own := fun i => if i = b then .row t f else G.own i
    nt := max G.nt (t + 1)
    tip := fun i => if i = t then n else G.tip i
    tka := fun i => if i = t then ac else G.tka i }

section
variable {P : Program} {kl : List (Nat × List Nat)} {G : Gh} {W : World} {st : St} {A : Act}

theorem run_askRoom {n : Nat} : (askRoom n).run P W = .ok () W := by
  unfold askRoom
  split <;> rfl

/-- The state behind an append: the tokens. -/
theorem tips_alSet {h : H} {t n : Nat} {ty : TypeId} {t' n' : Nat} {ty' : TypeId} (hg : al (alSet h.tips t (n, ty)) t' = some (n', ty')) : (t' = t ∧ n' = n ∧ ty' = ty) ∨ (t' ≠ t ∧ al h.tips t' = some (n', ty')) := by
  rw [al_set] at hg
  split at hg
  · rename_i e; cases hg; exact .inl ⟨e, rfl, rfl⟩
  · rename_i e; exact .inr ⟨e, hg⟩

/-- A row is written behind its tip. -/
theorem app_room (hs : StRel P kl G W st A) {t n m cap b base : Nat} {ty : TypeId} {c : Array Value} {fz : Nat × Nat} {xs ys : List V} {a : Array Value} {sz : Nat} (hsz : P.cellsOf ty = sz)
    (ht : al st.h.tips t = some (n, ty)) (hka : G.tka t = (some ⟨b, base, none⟩, cap)) (hown : G.own b = .row t (base + n * sz)) (hheap : W.heap[b]? = some (.cells c ty fz))
    (hcap : base + cap * sz ≤ c.size) (hfz : fz.1 = fz.2 ∨ fz.2 ≤ base + n * sz) (hroom : n + m ≤ cap) (hx : VR G W (.sl xs n (.own t)) (.slice (some ⟨b, base, none⟩) n cap)) (hxl : xs.length = n * sz)
    (hy : VRs G W ys a) (hyl : ys.length = m * sz) (hone : ∀ c ∈ a.toList, one? c = true) (hm : 0 < m) (hb0 : base = 0) :
    ∃ G' W', (storeCells ⟨b, base + n * sz, none⟩ a.toList).run P W = .ok () W' ∧ Ext G W G' W' ∧
      StRel P kl G' W' { st with h := { st.h with tips := alSet st.h.tips t (n + m, ty) } } A ∧ VR G' W' (.sl (xs ++ ys) (n + m) (.own t)) (.slice (some ⟨b, base, none⟩) (n + m) cap) := by
  obtain ⟨htl, htip, htr⟩ := hs.mem.tips t n ty ht
  have hal : a.toList.length = m * sz := by rw [← hyl, hy.1]; simp
  have hmul : (n + m) * sz = n * sz + m * sz := Nat.add_mul _ _ _
  have hmulc : (n + m) * sz ≤ cap * sz := Nat.mul_le_mul_right _ hroom
  have htG : t < G.nt := by rw [hs.mem.nt]; exact htl
  have hrun := run_storeCells' (P := P) (base + n * sz) a.toList 0 W c hheap (by omega) (fun j h1 h2 hf => by rcases hfz with h | h <;> omega) hone
  simp only [Nat.add_zero] at hrun
  generalize hW' : World.row W b (setAll c (base + n * sz) a.toList) ty fz = W' at hrun
  have tn : Turn W b W' := by rw [← hW']; exact Turn.row b _ ty fz
  have hb : W'.heap[b]? = some (.cells (setAll c (base + n * sz) a.toList) ty fz) := by rw [← hW']; exact row_heap (heap_lt hheap)
  have hown' : ∀ k, k ≠ b → (G.grown b t (n + m) (base + (n + m) * sz) (some ⟨b, base, none⟩, cap)).own k = G.own k := fun k hk => by simp [Gh.grown, hk]
  have hownb : (G.grown b t (n + m) (base + (n + m) * sz) (some ⟨b, base, none⟩, cap)).own b = .row t (base + (n + m) * sz) := by simp [Gh.grown]
  have hold : ∀ j, j < base + n * sz → W'.cell? ⟨b, j, none⟩ = W.cell? ⟨b, j, none⟩ := by
    intro j hj
    rw [cell_getD hb (by rw [setAll_size]; omega), cell_getD hheap (by omega), setAll_getD _ _ _ _ (by omega), if_neg (by omega)]
  have e : Ext G W (G.grown b t (n + m) (base + (n + m) * sz) (some ⟨b, base, none⟩, cap)) W' := {
    tape := tn.tape
    os := tn.os
    out := tn.out
    sz := by rw [tn.sz]; exact Nat.le_refl _
    e1 := fun k _ ho => by
      have hk : k ≠ b := fun h => by subst h; rw [hown] at ho; cases ho
      exact ⟨tn.other k hk, by rw [hown' k hk]; exact ho⟩
    ro := fun k f ho _ => by
      have hk : k ≠ b := fun h => by subst h; rw [hown] at ho; cases ho
      exact ⟨tn.other k hk, by rw [hown' k hk]; exact ho⟩
    row := fun k t' f ho _ => by
      by_cases hk : k = b
      · subst hk
        rw [hown] at ho
        cases ho
        exact ⟨hold, _, by omega, .inl hownb⟩
      · exact ⟨fun o _ => cell?_congr (tn.other k hk), f, Nat.le_refl _, .inl (by rw [hown' k hk]; exact ho)⟩
    obj := fun _ _ h => h
    nt := Nat.le_max_left _ _
    tip := fun t' ht' => by
      by_cases h : t' = t
      · subst h
        simp only [Gh.grown, if_pos]
        refine ⟨by omega, fun _ => hka.symm⟩
      · simp [Gh.grown, h] }
  refine ⟨_, W', hrun, e, ?_, ?_⟩
  · exact {
      T := fun i hi => (hs.T i hi).mono e
      L := hs.L
      I := hs.I
      loc := fun d cs hg => by
        obtain ⟨h1, ty', h2⟩ := hs.loc d cs hg
        have hk : G.lb d ≠ b := fun h => by rw [h, hown] at h1; cases h1
        exact ⟨by show (G.grown _ _ _ _ _).own (G.lb d) = _; rw [hown' _ hk]; exact h1, ty', h2.of_heap e (tn.other _ hk)⟩
      its := fun d l p hg => by
        obtain ⟨h1, s, h2, h3⟩ := hs.its d l p hg
        have hk : G.ib d ≠ b := fun h => by rw [h, hown] at h1; cases h1
        exact ⟨by show (G.grown _ _ _ _ _).own (G.ib d) = _; rw [hown' _ hk]; exact h1, s, (tn.other _ hk).trans h2, h3⟩
      mem := {
        objs := fun id o hg => by
          obtain ⟨k, h1, h2, h3⟩ := hs.mem.objs id o hg
          have hk : k ≠ b := fun h => by subst h; rw [hown] at h2; cases h2
          exact ⟨k, h1, by rw [hown' _ hk]; exact h2, h3.of_heap e (tn.other _ hk)⟩
        next := hs.mem.next
        nt := by show max G.nt (t + 1) = st.h.nt; rw [hs.mem.nt]; omega
        tips := fun t' n' ty' hg => by
          rcases tips_alSet hg with ⟨rfl, rfl, rfl⟩ | ⟨hne, hg⟩
          · refine ⟨htl, by simp [Gh.grown], .inr ⟨b, base, cap, _, fz, by simp [Gh.grown], ?_, hb, ?_, ?_, hroom, hb0⟩⟩
            · rw [hownb, hsz]
            · rw [setAll_size, hsz]; exact hcap
            · rw [hsz]; rcases hfz with h | h
              · exact .inl h
              · exact .inr (by omega)
          · obtain ⟨g1, g2, g3⟩ := hs.mem.tips t' n' ty' hg
            refine ⟨g1, by simp [Gh.grown, hne, g2], ?_⟩
            rcases g3 with ⟨g3, g30⟩ | ⟨b', base', cap', c', fz', k1, k2, k3, k4, k5, k6, k7⟩
            · exact .inl ⟨by simp [Gh.grown, hne, g3], g30⟩
            · have hk : b' ≠ b := fun h => by subst h; rw [hown] at k2; exact hne (BK.row.inj k2).1.symm
              exact .inr ⟨b', base', cap', c', fz', by simp [Gh.grown, hne, k1], by rw [hown' _ hk]; exact k2, (tn.other _ hk).trans k3, k4, k5, k6, k7⟩ }
      gl := fun g => ⟨(hs.gl g).1, (hs.gl g).2.mono e⟩ }
  · -- the value
    have hx' := hx.mono e
    refine .sl _ _ _ _ _ b base (fun j => (setAll c (base + n * sz) a.toList).getD (base + j) undef) (by omega) (fun _ => rfl) (fun j hj => ?_) (fun j hj => ?_) (fun j hj => ?_) ⟨?_, by simp [Gh.grown], fun _ => by simp [Gh.grown]⟩
    · simp only [List.length_append] at hj
      unfold Gh.imm
      rw [hownb]; simp only; omega
    · simp only [List.length_append] at hj
      exact cell_getD hb (by rw [setAll_size]; omega)
    · simp only [List.length_append] at hj
      by_cases hjx : j < xs.length
      · rw [getD_append_lt _ _ _ hjx, setAll_getD _ _ _ _ (by omega), if_neg (by omega)]
        cases hx with | sl _ _ _ _ _ b' o' cs hn ha hi hc hv htk =>
        have hne : xs ≠ [] := by intro h; subst h; simp at hjx
        have := ha hne
        cases this
        have h1 := hc j hjx
        rw [cell_getD hheap (by omega)] at h1
        rw [Option.some.inj h1]
        exact (hv j hjx).mono e
      · rw [getD_append_ge _ _ _ (by omega), setAll_getD _ _ _ _ (by omega), if_pos ⟨by omega, by omega⟩]
        have h2 := (hy.2 (j - xs.length) (by omega)).mono e
        rw [show base + j - (base + n * sz) = j - xs.length from by omega]
        have e2 : a.toList.getD (j - xs.length) undef = a.getD (j - xs.length) undef := by
          simp [List.getD_eq_getElem?_getD, Array.getD_eq_getD_getElem?]
        rw [e2]; exact h2
    · show t < max G.nt (t + 1); omega

end
end Ai
