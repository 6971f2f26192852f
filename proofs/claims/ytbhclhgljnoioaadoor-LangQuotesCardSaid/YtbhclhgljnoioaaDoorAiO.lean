/- The abstract interpreter: append, where a new row is made; make, alloc, box, copy. -/
import Derived.Test.YtbhclhgljnoioaaDoorAiN
namespace Ai
open Go

theorem VRs.append {G : Gh} {W : World} {xs ys : List V} {a b : Array Value} (h : VRs G W xs a) (k : VRs G W ys b) : VRs G W (xs ++ ys) (a ++ b) := by
  refine ⟨by simp [h.1, k.1], fun j hj => ?_⟩
  by_cases hx : j < xs.length
  · rw [getD_append_lt _ _ _ hx, getD_append_left (by rw [← h.1]; exact hx)]
    exact h.2 j hx
  · simp only [List.length_append] at hj
    rw [getD_append_ge _ _ _ (by omega)]
    have e : (a ++ b).getD j undef = b.getD (j - xs.length) undef := by
      simp only [Array.getD_eq_getD_getElem?]
      rw [Array.getElem?_append_right (by rw [← h.1]; omega), ← h.1]
    rw [e]; exact k.2 _ (by omega)

section
variable {P : Program} {kl : List (Nat × List Nat)} {G : Gh} {W : World} {st : St} {A : Act}

/-- A new row, and who may write behind its tip. -/
theorem new_row (hs : StRel P kl G W st A) {t n cap : Nat} {ty : TypeId} {c : Array Value} {xs : List V} {sz : Nat} (hsz : P.cellsOf ty = sz) (hn : n ≤ cap)
    (hx : ∀ j, j < xs.length → VR G W (xs.getD j .any) (c.getD j undef)) (hxl : xs.length = n * sz) (hc : cap * sz ≤ c.size)
    (htip : ∀ n' ty', al st.h.tips t = some (n', ty') → n' < n) (ht : t < st.h.nt ∧ (∃ x, al st.h.tips t = some x) ∨ t = st.h.nt) (w0 : World) (k0 : Keep G W G w0) (hw0 : w0.heap.size = W.heap.size)
    (h' : H) (h1 : h'.objs = st.h.objs) (h2 : h'.next = st.h.next) (h3 : h'.nt = max st.h.nt (t + 1)) (h4 : ∀ t' x, al h'.tips t' = some x → (t' = t ∧ x = (n, ty)) ∨ (t' ≠ t ∧ al st.h.tips t' = some x)) :
    ∃ G', Ext G W G' (w0.alloc (.cells c ty)) ∧ StRel P kl G' (w0.alloc (.cells c ty)) { st with h := h' } A ∧
      VR G' (w0.alloc (.cells c ty)) (.sl xs n (.own t)) (.slice (some ⟨W.heap.size, 0, none⟩) n cap) := by
  have hs0 := hs.keep k0 (fun _ _ h => h) rfl
  have hnt := hs.mem.nt
  have hsz1 : (w0.alloc (.cells c ty)).heap.size = W.heap.size + 1 := by rw [alloc_size, hw0]
  have hat : (w0.alloc (.cells c ty)).heap[W.heap.size]? = some (.cells c ty (0, 0)) := by rw [← hw0]; exact alloc_at w0 _
  have hne : ∀ b, b < W.heap.size → (w0.alloc (.cells c ty)).heap[b]? = W.heap[b]? := fun b hb => (alloc_ne w0 _ (by omega)).trans (k0.heap b hb)
  have hown : ∀ b, b < W.heap.size → (G.grown W.heap.size t n (n * sz) (some ⟨W.heap.size, 0, none⟩, cap)).own b = G.own b := fun b hb => by simp [Gh.grown, Nat.ne_of_lt hb]
  have e : Ext G W (G.grown W.heap.size t n (n * sz) (some ⟨W.heap.size, 0, none⟩, cap)) (w0.alloc (.cells c ty)) := {
    tape := k0.tape
    os := k0.os
    out := k0.out
    sz := by rw [hsz1]; omega
    e1 := fun b hb ho => ⟨hne b hb, by rw [hown b hb]; exact ho⟩
    ro := fun b f ho hb => ⟨hne b hb, by rw [hown b hb]; exact ho⟩
    row := fun b t' f ho hb => ⟨fun o _ => cell?_congr (hne b hb), f, Nat.le_refl _, .inl (by rw [hown b hb]; exact ho)⟩
    obj := fun _ _ h => h
    nt := Nat.le_max_left _ _
    tip := fun t' ht' => by
      by_cases h : t' = t
      · subst h
        rcases ht with ⟨hlt, x, hx⟩ | hx
        · obtain ⟨n', ty'⟩ := x
          have g := (hs.mem.tips t' n' ty' hx).2.1
          have := htip n' ty' hx
          simp only [Gh.grown, if_pos]
          exact ⟨by omega, fun h => by omega⟩
        · rw [hnt] at ht'; omega
      · simp [Gh.grown, h] }
  refine ⟨_, e, ?_, ?_⟩
  · exact {
      T := fun i hi => (hs.T i hi).mono e
      L := hs.L
      I := hs.I
      loc := fun d cs hg => by
        obtain ⟨g1, ty', g2⟩ := hs.loc d cs hg
        have hb : G.lb d < W.heap.size := by obtain ⟨c, g3, _⟩ := g2.ex; exact heap_lt g3
        exact ⟨by show (G.grown _ _ _ _ _).own (G.lb d) = _; rw [hown _ hb]; exact g1, ty', g2.of_heap e (hne _ hb)⟩
      its := fun d l p hg => by
        obtain ⟨g1, s, g2, g3⟩ := hs.its d l p hg
        exact ⟨by show (G.grown _ _ _ _ _).own (G.ib d) = _; rw [hown _ (heap_lt g2)]; exact g1, s, (hne _ (heap_lt g2)).trans g2, g3⟩
      mem := {
        objs := fun id o hg => by
          rw [h1] at hg
          obtain ⟨k, g1, g2, g3⟩ := hs.mem.objs id o hg
          exact ⟨k, g1, by rw [hown _ g3.lt]; exact g2, g3.of_heap e (hne _ g3.lt)⟩
        next := fun id b hg => by rw [h2]; exact hs.mem.next id b hg
        nt := by show max G.nt (t + 1) = h'.nt; rw [h3, hnt]
        tips := fun t' n' ty' hg => by
          rcases h4 t' _ hg with ⟨rfl, hx⟩ | ⟨hne', hg⟩
          · cases hx
            refine ⟨by rw [h3]; omega, by simp [Gh.grown], .inr ⟨W.heap.size, 0, cap, c, (0, 0), by simp [Gh.grown], ?_, hat, ?_, .inl rfl, hn, rfl⟩⟩
            · rw [hsz]; simp [Gh.grown]
            · rw [hsz]; omega
          · obtain ⟨g1, g2, g3⟩ := hs.mem.tips t' n' ty' hg
            refine ⟨by rw [h3]; omega, by simp [Gh.grown, hne', g2], ?_⟩
            rcases g3 with ⟨g3, g30⟩ | ⟨b', base', cap', c', fz', k1, k2, k3, k4, k5, k6, k7⟩
            · exact .inl ⟨by simp [Gh.grown, hne', g3], g30⟩
            · exact .inr ⟨b', base', cap', c', fz', by simp [Gh.grown, hne', k1], by rw [hown _ (heap_lt k3)]; exact k2, (hne _ (heap_lt k3)).trans k3, k4, k5, k6, k7⟩ }
      gl := fun g => ⟨(hs.gl g).1, (hs.gl g).2.mono e⟩ }
  · have hmul : n * sz ≤ cap * sz := Nat.mul_le_mul_right _ hn
    refine .sl _ _ _ _ _ W.heap.size 0 (fun j => c.getD j undef) hn (fun _ => rfl) (fun j hj => ?_) (fun j hj => ?_) (fun j hj => (hx j hj).mono e) ⟨?_, by simp [Gh.grown], fun _ => by simp [Gh.grown]⟩
    · unfold Gh.imm
      simp only [Gh.grown, if_pos]; omega
    · rw [Nat.zero_add]; exact cell_getD hat (by omega)
    · show t < max G.nt (t + 1); omega

theorem VR.of_drew {v : V} {c : Value} (h : VR G W.drew v c) : VR G W v c :=
  VR.mono (W := W.drew) (W' := W) (G := G) (G' := G) ⟨rfl, rfl, rfl, Nat.le_refl _, fun _ _ h => ⟨rfl, h⟩, fun _ _ h _ => ⟨rfl, h⟩, fun _ _ f h _ => ⟨fun _ _ => rfl, f, Nat.le_refl _, .inl h⟩, fun _ _ h => h, Nat.le_refl _, fun _ _ => ⟨Nat.le_refl _, fun _ => rfl⟩⟩ h

theorem appOk_spec {argTypes : Array TypeId} {ty sz : Nat} (h : appOk P argTypes ty sz = true) :
    ∃ t0 t1 d i z, argTypes = #[t0, t1] ∧ P.underlying t0 = some (.slice ty) ∧ P.underlying t1 = some d ∧ (∀ k, d ≠ .int k) ∧ P.info? ty = some i ∧ i.size = sz ∧ 0 < sz ∧ i.bytes ≤ 1048576 ∧ i.zero = some z ∧ z.cells.size = sz ∧
      P.cellsOf ty = sz ∧ szOf P ty = some sz := by
  unfold appOk at h
  split at h
  · rename_i t0 t1 hl
    simp only [Bool.and_eq_true] at h
    obtain ⟨⟨h1, h2⟩, h3⟩ := h
    have ha : argTypes = #[t0, t1] := by rw [← hl]
    split at h1
    · rename_i e hu0
      have := Nat.eq_of_beq_eq_true h1
      subst this
      cases hd : P.underlying t1 with
      | none => rw [hd] at h2; cases h2
      | some d =>
        split at h3
        · rename_i i hi
          simp only [Bool.and_eq_true] at h3
          obtain ⟨⟨⟨k1, k2⟩, k3⟩, k4⟩ := h3
          have k1 := Nat.eq_of_beq_eq_true k1
          cases hz : i.zero with
          | none => rw [hz] at k4; cases k4
          | some z =>
            rw [hz] at k4
            refine ⟨t0, t1, d, i, z, ha, hu0, hd, fun k hk => ?_, hi, k1, blt_lt k2, Nat.le_of_ble_eq_true k3, hz, Nat.eq_of_beq_eq_true k4, by simp [Program.cellsOf, hi, k1], by simp [szOf, hi, k1]⟩
            rw [hd, hk] at h2
            cases h2
        · cases h3
    · cases h1
  · cases h

theorem zeroCells_size (z : Array Value) (n : Nat) : (Builtin.zeroCells z n).size = n * z.size := by simp [Builtin.zeroCells]

theorem run_append_room' {t0 t1 t ty sz n m cap : Nat} {d : TypeDesc} {ad : Option Addr} {cy : Value} {ay : Array Value} (hu0 : P.underlying t0 = some (.slice ty)) (hu1 : P.underlying t1 = some d) (hd : ∀ k, d ≠ .int k)
    (hs : szOf P ty = some sz) (hl : (Builtin.lenOf cy).run P W = .ok m W) (hf : (Builtin.firstCells sz m cy).run P W = .ok ay W) (h : n + m ≤ cap) :
    (Builtin.append_ #[t0, t1] t #[.slice ad n cap, cy]).run P W =
      (match ad with | some a => (storeCells (a.add (n * sz)) ay.toList).run P W | none => .ok () W).andThen fun _ w => .ok (.slice ad (n + m) cap) w := by
  cases d <;> first
    | exact absurd rfl (hd _)
    | (simp only [Builtin.append_, List.getElem?_toArray, List.getElem?_cons_zero, List.getElem?_cons_succ, Sem.run_bind, run_underlying' hu0, run_underlying' hu1, Result.andThen_ok, run_sizeOf' hs, Sem.run_pure, Bool.false_eq_true, if_false, hl,
        h, if_true, Bool.not_false, hf]
       cases ad <;> first | rfl | simp only [Sem.run_bind, Sem.run_pure])

theorem run_append_grow' {t0 t1 t ty sz n m cap : Nat} {d : TypeDesc} {ad : Option Addr} {cy : Value} {ax ay : Array Value} {i : TypeInfo} {z : Value} (hu0 : P.underlying t0 = some (.slice ty)) (hu1 : P.underlying t1 = some d) (hd : ∀ k, d ≠ .int k)
    (hi : P.info? ty = some i) (hz : i.zero = some z) (hs : i.size = sz) (hl : (Builtin.lenOf cy).run P W = .ok m W) (hf : (Builtin.firstCells sz m cy).run P W.drew = .ok ay W.drew)
    (hfx : (Builtin.firstCells sz n (.slice ad n cap)).run P W.drew = .ok ax W.drew) (h : ¬ n + m ≤ cap) (h63 : ((n + m : Nat) : Int) ≤ 9223372036854775807) (hfit : Builtin.nextslicecap (n + m) cap * i.bytes ≤ 281474976710656) :
    (Builtin.append_ #[t0, t1] t #[.slice ad n cap, cy]).run P W =
      .ok (.slice (some ⟨W.heap.size, 0, none⟩) (n + m) (grownCap W (n + m) cap ty))
        (W.drew.alloc (.cells (ax ++ ay ++ Builtin.zeroCells z.cells (grownCap W (n + m) cap ty - (n + m))) ty)) := by
  have hsz : szOf P ty = some sz := by simp [szOf, hi, hs]
  have h63' : ¬ (((n + m : Nat) : Int) > IntKind.i64.max ∧ (false = true ∨ i.bytes = 0)) := by
    have e3 : IntKind.i64.max = 9223372036854775807 := by decide
    rw [e3]; omega
  have hfit' : ¬ (Builtin.nextslicecap (n + m) cap * i.bytes > 2 ^ 48) := by
    have : (2 : Nat) ^ 48 = 281474976710656 := by decide
    omega
  have hch : (choose (.appendCap (n + m) cap ty)).run P W = .ok (grownCap W (n + m) cap ty) W.drew := by
    simp [choose, Sem.run, Question.forced, grownCap, World.drew, -World.drew_eq]
  have hzv : ∀ w : World, (zeroValue ty).run P w = .ok z w := fun w => by simp [zeroValue, run_typeInfo' hi, hz]
  cases d <;> first
    | exact absurd rfl (hd _)
    | (simp only [Builtin.append_, List.getElem?_toArray, List.getElem?_cons_zero, List.getElem?_cons_succ, Sem.run_bind, run_underlying' hu0, run_underlying' hu1, Result.andThen_ok, run_sizeOf' hsz, Sem.run_pure, Bool.false_eq_true, if_false, hl,
        h, run_typeInfo' hi, false_or]
       rw [if_neg (by simpa using h63')]
       simp only [Sem.run_bind, run_typeInfo' hi, Result.andThen_ok]
       rw [if_neg hfit']
       simp only [Sem.run_bind, Sem.run_pure, hch, Result.andThen_ok, run_typeInfo' hi, run_askRoom, hfx, Bool.not_false, if_true, hf, hzv]
       rfl)

theorem app_sound (hs : StRel P kl G W st A) {argTypes : Array TypeId} {ty sz : Nat} (hk : appOk P argTypes ty sz = true) {x y v : V} {cx cy : Value} {st' : St} (h : st.app ty sz x y = some (v, st'))
    (hx : VR G W x cx) (hy : VR G W y cy) (t : TypeId) :
    Post P kl G W st' A v ((Builtin.append_ argTypes t #[cx, cy]).run P W) ∧ v.plain = true := by
  obtain ⟨t0, t1, d, i, z, rfl, hu0, hu1, hd, hi, hisz, hsz0, hby, hz, hzsz, hcells, hszof⟩ := appOk_spec hk
  unfold St.app at h
  split at h
  · rename_i xs n tk ys m hrow
    cases hao : allOne ys with
    | false => rw [hao] at h; cases h
    | true =>
    rw [hao] at h
    simp only [Bool.not_true, cond_false] at h
    obtain ⟨ay, r1, r2, r3⟩ := firstCells_sound hs hrow hy hsz0
    obtain ⟨hyl, _⟩ := row_sound hs hrow hy hsz0
    have hx0 := hx
    cases hx with | sl _ _ _ ad cap b o cs hn ha hi' hc hv htk =>
    cases hm0 : Nat.beq m 0 with
    | true =>
      rw [hm0] at h
      simp only [cond_true, Option.some.injEq, Prod.mk.injEq] at h
      obtain ⟨rfl, rfl⟩ := h
      have := Nat.eq_of_beq_eq_true hm0
      subst this
      have hys : ys = [] := by simpa using hyl
      subst hys
      have hay : ay = #[] := by have := r2.1; simp at this; exact Array.eq_empty_of_size_eq_zero this.symm
      subst hay
      refine ⟨Post.here hs (c := .slice ad n cap) ?_ hx0, rfl⟩
      rw [run_append_room' hu0 hu1 hd hszof r3 r1 (by omega)]
      cases ad <;> rfl
    | false =>
      rw [hm0] at h
      simp only [cond_false] at h
      have hm : 0 < m := by
        rcases Nat.eq_zero_or_pos m with h0 | h0
        · subst h0; simp at hm0
        · exact h0
      cases hcond : (Nat.beq xs.length (n * sz) && Nat.ble (n + m) most) with
      | false => rw [hcond] at h; cases h
      | true =>
        rw [hcond] at h
        simp only [cond_true] at h
        simp only [Bool.and_eq_true] at hcond
        have hxl := Nat.eq_of_beq_eq_true hcond.1
        have hle := Nat.le_of_ble_eq_true hcond.2
        have hmost : most = 134217728 := rfl
        rw [hmost] at hle
        have hlens : (xs ++ ys).length = (n + m) * sz := by rw [List.length_append, hxl, hyl, Nat.add_mul]
        have honec := r2.allOne hao
        -- a new row
        have hgrow : ∀ t', cap < n + m → (∀ n' ty', al st.h.tips t' = some (n', ty') → n' < n + m) → (t' < st.h.nt ∧ (∃ x, al st.h.tips t' = some x) ∨ t' = st.h.nt) →
            ∀ h' : H, h'.objs = st.h.objs → h'.next = st.h.next → h'.nt = max st.h.nt (t' + 1) → (∀ u x, al h'.tips u = some x → (u = t' ∧ x = (n + m, ty)) ∨ (u ≠ t' ∧ al st.h.tips u = some x)) →
            Post P kl G W { st with h := h' } A (.sl (xs ++ ys) (n + m) (.own t')) ((Builtin.append_ #[t0, t1] t #[.slice ad n cap, cy]).run P W) := by
          intro t' hcap htip ht' h' g1 g2 g3 g4
          have kd := keep_drew G W
          have hsd := hs.keep kd (fun _ _ h => h) rfl
          have hrowd : st.row sz y = some (ys, m) := hrow
          obtain ⟨ay', q1, q2, _⟩ := firstCells_sound hsd hrowd (hy.mono kd.ext) hsz0
          have hrx : st.row sz (.sl xs n tk) = some (xs, n) := by simp [St.row, hxl]
          obtain ⟨ax, p1, p2, _⟩ := firstCells_sound hsd hrx (hx0.mono kd.ext) hsz0
          have hfit : Builtin.nextslicecap (n + m) cap * i.bytes ≤ 281474976710656 := growslice_fits (by omega) (by
            have h1 : (n + m) * i.bytes ≤ 134217728 * 1048576 := Nat.mul_le_mul hle hby
            omega)
          rw [run_append_grow' hu0 hu1 hd hi hz hisz r3 q1 p1 (by omega) (by omega) hfit]
          have hcapge := grownCap_le W (n + m) cap ty
          have happ := p2.append q2
          have hasz : (ax ++ ay').size = (n + m) * sz := by rw [← happ.1, hlens]
          obtain ⟨G', e1, e2, e3⟩ := new_row (P := P) (kl := kl) (t := t') (n := n + m) (cap := grownCap W (n + m) cap ty) (ty := ty) (c := ax ++ ay' ++ Builtin.zeroCells z.cells (grownCap W (n + m) cap ty - (n + m))) (xs := xs ++ ys) hs hcells hcapge
            (fun j hj => by
              rw [getD_append_left (by rw [hasz, ← hlens]; exact hj)]
              have := happ.2 j hj
              -- what was read in the world behind the draw is there in this one
              exact VR.of_drew this)
            hlens (by
              rw [Array.size_append, hasz, zeroCells_size, hzsz, ← Nat.add_mul]
              exact Nat.mul_le_mul_right _ (by omega))
            htip ht' W.drew kd rfl h' g1 g2 g3 g4
          exact ⟨_, G', _, rfl, e1, e2, e3⟩
        cases tk with
        | no => cases h
        | full =>
          simp only [H.tok, Option.some.injEq, Prod.mk.injEq] at h
          obtain ⟨rfl, rfl⟩ := h
          have hcap : cap = n := htk
          refine ⟨hgrow st.h.nt (by omega) (fun n' ty' hg => by have := (hs.mem.tips _ _ _ hg).1; omega) (.inr rfl) _ rfl rfl (by simp) (fun u x hg => ?_), rfl⟩
          simp only [al] at hg
          cases hb : Nat.beq st.h.nt u with
          | true =>
            rw [hb] at hg
            simp only [cond_true, Option.some.injEq] at hg
            exact .inl ⟨(Nat.eq_of_beq_eq_true hb).symm, hg.symm⟩
          | false =>
            rw [hb] at hg
            exact .inr ⟨fun e => by subst e; simp at hb, hg⟩
        | nil =>
          simp only [H.tok, Option.some.injEq, Prod.mk.injEq] at h
          obtain ⟨rfl, rfl⟩ := h
          have hcap : cap = n := by have h1 := htk.2; omega
          refine ⟨hgrow st.h.nt (by omega) (fun n' ty' hg => by have := (hs.mem.tips _ _ _ hg).1; omega) (.inr rfl) _ rfl rfl (by simp) (fun u x hg => ?_), rfl⟩
          simp only [al] at hg
          cases hb : Nat.beq st.h.nt u with
          | true =>
            rw [hb] at hg
            simp only [cond_true, Option.some.injEq] at hg
            exact .inl ⟨(Nat.eq_of_beq_eq_true hb).symm, hg.symm⟩
          | false =>
            rw [hb] at hg
            exact .inr ⟨fun e => by subst e; simp at hb, hg⟩
        | own t' =>
          simp only at h
          split at h
          · rename_i c0 z0 htips
            cases hb : (Nat.beq c0 n && Nat.beq z0 ty) with
            | false => rw [hb] at h; cases h
            | true =>
              rw [hb] at h
              simp only [cond_true, Option.some.injEq, Prod.mk.injEq] at h
              obtain ⟨rfl, rfl⟩ := h
              simp only [Bool.and_eq_true] at hb
              have e1 := Nat.eq_of_beq_eq_true hb.1
              have e2 := Nat.eq_of_beq_eq_true hb.2
              subst e1; subst e2
              obtain ⟨g1, g2, g3⟩ := hs.mem.tips t' c0 z0 htips
              obtain ⟨k1, k2, k3⟩ := htk
              have hka := k3 g2.symm
              by_cases hroom : c0 + m ≤ cap
              · -- there is room
                rcases g3 with ⟨g3, g30⟩ | ⟨b', base', cap', c', fz', q1, q2, q3, q4, q5, q6, q7⟩
                · rw [hka] at g3; cases g3; omega
                · rw [hka] at q1
                  cases q1
                  rw [hcells] at q2 q4 q5
                  obtain ⟨G', W', w1, w2, w3, w4⟩ := app_room hs hcells htips hka q2 q3 q4 q5 hroom hx0 hxl r2 hyl honec hm q7
                  refine ⟨⟨.slice (some ⟨b', base', none⟩) (c0 + m) cap, G', W', ?_, w2, w3, w4⟩, rfl⟩
                  rw [run_append_room' hu0 hu1 hd hszof r3 r1 hroom]
                  simp only [add_mk, w1, Result.andThen_ok]
              · refine ⟨hgrow t' (by omega) (fun n' ty' hg => by rw [htips] at hg; cases hg; omega) (.inl ⟨g1, _, htips⟩) _ rfl rfl (by simp; omega) (fun u x hg => ?_), rfl⟩
                obtain ⟨xn, xt⟩ := x
                rcases tips_alSet hg with ⟨h1, h2, h3⟩ | h1
                · exact .inl ⟨h1, by rw [h2, h3]⟩
                · exact .inr h1
          · cases h
  · cases h

end
end Ai
