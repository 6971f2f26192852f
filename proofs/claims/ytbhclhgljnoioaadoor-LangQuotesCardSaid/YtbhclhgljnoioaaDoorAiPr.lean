/- The abstract interpreter: functions that are told, not walked: what the kit's library says of them. -/
import Derived.Test.YtbhclhgljnoioaaDoorAiZd
import Derived.Shelf.Strings.OnBuilder
namespace Ai
open Go Go.Proofs Go.Shelf

section
variable {P : Program}

theorem keep_below {G : Gh} {W W' : World} (h : RowKit.Below W.heap.size W W') : ∃ G', Keep G W G' W' ∧ (∀ id b, G'.obj id = some b → G.obj id = some b) ∧ G'.nt = G.nt :=
  ⟨G, ⟨h.tape, h.os, h.output, h.size, fun _ _ => rfl, h.block, fun _ _ h => h, Nat.le_refl _, fun _ _ => ⟨rfl, rfl⟩, rfl, rfl⟩, fun _ _ h => h, rfl⟩

def strsOf : List V → Option (List (List UInt8))
  | [] => some []
  | .s l :: r => (strsOf r).map (l :: ·)
  | _ => none

theorem strsOf_spec : ∀ {xs : List V} {l : List (List UInt8)}, strsOf xs = some l → xs = l.map V.s
  | [], l, h => by simp only [strsOf, Option.some.injEq] at h; subst h; rfl
  | x :: r, l, h => by
    cases x <;> simp only [strsOf, reduceCtorEq] at h
    rename_i s
    cases hr : strsOf r with
    | none => rw [hr] at h; cases h
    | some l' =>
      rw [hr] at h
      simp only [Option.map_some, Option.some.injEq] at h
      subst h
      rw [strsOf_spec hr]; rfl

/-- strings.Join. -/
def joinV (args : List V) : Option V :=
  match args with
  | [.sl xs n _, .s sep] => (match strsOf xs with
    | some l => bif Nat.beq xs.length n && Nat.ble n 140737488355328 && Nat.ble (Lib.join l sep).length 140737488355328 then some (.s (Lib.join l sep)) else none
    | none => none)
  | _ => none

theorem string_of {s : ByteArray} {l : List UInt8} (h : s.data.toList = l) : s = ⟨l.toArray⟩ := by
  cases s; subst h; simp

theorem join_ok {ρ : Ren} (L : Lays.n156 P ρ) (X : Builder.Extra P ρ) {f : Func} (hf : P.funcs[ρ.f 156]? = some f) (hb0 : f.body.isSome = true) (hn : (f.name == "runtime.NumGoroutine") = false) {args : List V} {v : V} (h : joinV args = some v) :
    v.plain = true ∧ ∀ (G : Gh) (W : World) (cs : Array Value), VRs G W args cs →
      Reach P (ρ.f 156) cs W fun c W' => ∃ G', Keep G W G' W' ∧ (∀ id b, G'.obj id = some b → G.obj id = some b) ∧ G'.nt = G.nt ∧ VR G' W' v c := by
  obtain ⟨b, hb⟩ := Option.isSome_iff_exists.1 hb0
  unfold joinV at h
  split at h
  · rename_i xs n tk sep
    split at h
    · rename_i l hl
      cases hc : (Nat.beq xs.length n && Nat.ble n 140737488355328 && Nat.ble (Lib.join l sep).length 140737488355328) with
      | false => rw [hc] at h; cases h
      | true =>
        rw [hc] at h
        simp only [cond_true, Option.some.injEq] at h
        subst h
        simp only [Bool.and_eq_true] at hc
        have h1 := Nat.eq_of_beq_eq_true hc.1.1
        have h2 := Nat.le_of_ble_eq_true hc.1.2
        have h3 := Nat.le_of_ble_eq_true hc.2
        have hx := strsOf_spec hl
        refine ⟨rfl, fun G W cs hv => ?_⟩
        obtain ⟨e1, e2⟩ := hv
        have v0 := e2 0 (by simp)
        have v1 := e2 1 (by simp)
        simp only [List.getD_cons_zero, List.getD_cons_succ] at v0 v1
        have hcs : cs = #[cs.getD 0 undef, cs.getD 1 undef] := by
          apply Array.ext
          · simpa using e1.symm
          · intro i h1 h2
            have : i = 0 ∨ i = 1 := by simp at h2; omega
            rcases this with rfl | rfl <;> simp [Array.getD_eq_getD_getElem?, h1]
        rw [hcs]
        generalize cs.getD 0 undef = c0 at v0
        generalize cs.getD 1 undef = c1 at v1
        cases v1 with | s _ sp hsp =>
        have hsp := string_of hsp
        subst hsp
        cases v0 with | sl _ _ _ a cap bk o cc hn' ha hi hcell hvv ht =>
        have hll : l.length = n := by rw [hx] at h1; simpa using h1
        refine Reach.of_calls hf hb hn ?_
        by_cases h0 : n = 0
        · subst h0
          have : l = [] := List.eq_nil_of_length_eq_zero hll
          subst this
          refine (Any.strings_Join_none L X a cap ⟨sep.toArray⟩ W).mono ?_
          rintro e W' ⟨rfl, rfl⟩
          exact ⟨G, ⟨rfl, rfl, rfl, Nat.le_refl _, fun _ _ => rfl, fun _ _ => rfl, fun _ _ h => h, Nat.le_refl _, fun _ _ => ⟨rfl, rfl⟩, rfl, rfl⟩, fun _ _ h => h, rfl, .s _ _ (by simp [Lib.join])⟩
        · have hxne : xs ≠ [] := by intro e; subst e; simp at h1; omega
          have := ha hxne
          subst this
          have hbk : bk < W.heap.size := cell?_lt (hcell 0 (by omega))
          have key := Any.strings_Join L X bk o cap (l.map fun x => (⟨x.toArray⟩ : ByteArray)) ⟨sep.toArray⟩ W (fun j x hj => by
            rw [List.getElem?_map] at hj
            cases hlj : l[j]? with
            | none => rw [hlj] at hj; cases hj
            | some y =>
              rw [hlj] at hj
              simp only [Option.map_some, Option.some.injEq] at hj
              subst hj
              have hjl := (List.getElem?_eq_some_iff.1 hlj).1
              have hjx : j < xs.length := by omega
              rw [hcell j hjx]
              have hvj := hvv j hjx
              have : xs.getD j .any = .s y := by rw [hx]; simp [List.getD_eq_getElem?_getD, hlj]
              rw [this] at hvj
              generalize cc j = cj at hvj
              cases hvj with | s _ s hs => rw [string_of hs]) hbk (by simp; omega) (by simp; omega) (by simpa [Function.comp_def] using h3)
          simp only [List.length_map, hll] at key
          refine key.mono ?_
          rintro e W' ⟨rfl, bel⟩
          obtain ⟨G', k1, k2, k3⟩ := keep_below (G := G) bel
          exact ⟨G', k1, k2, k3, .s _ _ (by simp [Function.comp_def])⟩
    · cases h
  · cases h

/-- A law's function, found true by the evaluator. -/
theorem runF_calls {K : Known} {tab : FuncId → Option AFunc} {pr : Prims} {xf : FuncId → List V → Option V} (hg : Good P K tab pr) (hx : ∀ g args v, xf g args = some v → pr.rel g args v) {gl : Nat → List V} (hok : pr.ok gl) {f : Nat} {g : FuncId}
    {args : List V} {v : V} (h : runF gl tab xf f g args = some v) {W : World} {cs : Array Value} (hv : VRs (Gh.start W) W args cs)
    (hgl : ∀ g, stripL (gl g) = gl g ∧ VR (Gh.start W) W (.ip (gl g) 0) (.pointer (some ⟨g, 0, none⟩))) :
    Calls P g cs W fun | .returned c, W' => Kept W W' ∧ ∃ G', VR G' W' v c | _, _ => False := by
  unfold runF at h
  split at h
  · cases h
  · rename_i fn ht
    cases hn : Nat.ble args.length fn.n with
    | false => rw [hn] at h; cases h
    | true =>
      rw [hn] at h
      simp only [cond_true] at h
      split at h
      · rename_i ex st1 hrun
        cases he : ex.ends with
        | false => rw [he] at h; cases h
        | true =>
          rw [he] at h
          simp only [cond_true] at h
          cases hl : leave fn true {} st1 with
          | none => rw [hl] at h; cases h
          | some q =>
            rw [hl] at h
            simp only [Option.map_some, Option.some.injEq] at h
            have hq : q = (v, {}) := by
              unfold leave at hl
              split at hl
              · cases hl
              · simp only [cond_true, Option.some.injEq] at hl
                rw [← hl] at h ⊢
                simp only at h
                rw [h]
            rw [hq] at hl
            exact calls_of_ev hg ht (Nat.le_of_ble_eq_true hn) (run_ev hx f (.code fn.body) _ _ _ (by rw [enter_gl]; exact hok) hrun) he hl hv hgl
      · cases h

/-- No global row is read. -/
theorem no_globals (G : Gh) (W : World) : ∀ g : Nat, stripL ([] : List V) = [] ∧ VR G W (.ip [] 0) (.pointer (some ⟨g, 0, none⟩)) :=
  fun g => ⟨rfl, .ip [] 0 _ g 0 (fun _ => undef) (fun h => absurd rfl h) (fun j hj => by cases hj) (fun j hj => by cases hj) (fun j hj => by cases hj)⟩

theorem Kept.below {W W' : World} (h : Kept W W') : RowKit.Below W.heap.size W W' := ⟨h.os, h.tape, h.out, h.sz, h.heap⟩

/-- It returns true, and writes nothing that was there. -/
theorem true_of_runF {K : Known} {tab : FuncId → Option AFunc} {pr : Prims} {xf : FuncId → List V → Option V} (hg : Good P K tab pr) (hx : ∀ g args v, xf g args = some v → pr.rel g args v) (hok : pr.ok fun _ => []) {f : Nat} {g : FuncId}
    {args : List V} (h : runF (fun _ => []) tab xf f g args = some (.b true)) {W : World} {cs : Array Value} (hv : VRs (Gh.start W) W args cs) :
    Calls P g cs W fun e W' => e = .returned (.bool true) ∧ RowKit.Below W.heap.size W W' := by
  refine (runF_calls hg hx hok h hv (no_globals _ _)).mono fun e W' he => ?_
  cases e with
  | panicked _ => exact he.elim
  | outgrown => exact he.elim
  | returned c =>
    obtain ⟨k, G', hvr⟩ := he
    cases hvr
    exact ⟨rfl, k.below⟩

end
end Ai
