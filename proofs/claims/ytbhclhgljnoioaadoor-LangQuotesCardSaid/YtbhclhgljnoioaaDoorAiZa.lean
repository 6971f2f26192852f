/- The abstract interpreter: what goes into a call, and what comes out of it. -/
import Derived.Test.YtbhclhgljnoioaaDoorAiY
namespace Ai
open Go

theorem stripL_getD : ∀ (xs : List V) (j : Nat), (stripL xs).getD j .any = (xs.getD j .any).strip
  | [], j => by simp [stripL, V.strip]
  | x :: r, 0 => by simp [stripL]
  | x :: r, j + 1 => by simp only [stripL, List.getD_cons_succ]; exact stripL_getD r j

theorem stripL_length : ∀ xs : List V, (stripL xs).length = xs.length
  | [] => rfl
  | x :: r => by simp [stripL, stripL_length r]

theorem stripL_ne {xs : List V} (h : stripL xs ≠ []) : xs ≠ [] := by
  intro e; subst e; exact h rfl

/-- A call that is handed plain values alone: the ghost with which it begins. -/
def Gh.pureIn (G : Gh) : Gh :=
  { own := fun b => match G.own b with | .row _ f => .ro f | .ro f => .ro f | _ => .ext, obj := fun _ => none, nt := 0, tip := fun _ => 0, tka := fun _ => (none, 0), lb := G.lb, ib := G.ib }

theorem pureIn_imm {G : Gh} {b o : Nat} : G.pureIn.imm b o ↔ G.imm b o := by
  unfold Gh.imm Gh.pureIn
  simp only
  cases h : G.own b <;> simp

theorem TkOK.pureIn {G : Gh} {a : Option Addr} {n cap : Nat} {tk : Tk} (h : TkOK G a n cap tk) : TkOK G.pureIn a n cap tk.cp := by
  cases tk <;> first | exact h | trivial

theorem VR.pureIn {G : Gh} {W : World} {v : V} {c : Value} (h : VR G W v c) : VR G.pureIn W v.strip c := by
  induction h with
  | any c => exact .any c
  | it c => exact .any c
  | l d o c => exact .any c
  | b x => exact .b x
  | i k n => exact .i k n
  | s l s h => exact .s l s h
  | sl xs n tk a cap b o cs hn ha hi hc hv ht ih =>
    simp only [V.strip]
    refine .sl _ n _ a cap b o cs hn (fun h => ha (stripL_ne h)) (fun j hj => ?_) (fun j hj => ?_) (fun j hj => ?_) ht.pureIn
    · rw [stripL_length] at hj; exact pureIn_imm.2 (hi j hj)
    · rw [stripL_length] at hj; exact hc j hj
    · rw [stripL_length] at hj; rw [stripL_getD]; exact ih j hj
  | ip xs q p b o cs ha hi hc hv ih =>
    simp only [V.strip]
    refine .ip _ q p b o cs (fun h => ha (stripL_ne h)) (fun j hj => ?_) (fun j hj => ?_) (fun j hj => ?_)
    · rw [stripL_length] at hj; exact pureIn_imm.2 (hi j hj)
    · rw [stripL_length] at hj; exact hc j hj
    · rw [stripL_length] at hj; rw [stripL_getD]; exact ih j hj
  | sd xs n tk p b o cap cs ha hi hc hv ht ih => exact .any _
  | hs id off n sz b cap a h hn ha => exact .any _
  | p id o b h => exact .any _
  | nilp => exact .nilp
  | m0 => exact .m0
  | m id b h => exact .any _
  | fn f x y a c h1 h2 h3 h4 ih2 ih4 =>
    simp only [V.strip]
    exact .fn f _ _ a c (by rw [stripL_length]; exact h1) (fun j hj => by rw [stripL_length] at hj; rw [stripL_getD]; exact ih2 j hj)
      (by rw [stripL_length]; exact h3) (fun j hj => by rw [stripL_length] at hj; rw [stripL_getD]; exact ih4 j hj)
  | nilf => exact .nilf
  | ifc t v c h ih => exact .ifc t _ c ih
  | nili => exact .nili
  | agg x a h1 h2 ih =>
    simp only [V.strip]
    exact .agg _ a (by rw [stripL_length]; exact h1) (fun j hj => by rw [stripL_length] at hj; rw [stripL_getD]; exact ih j hj)
  | tup x a h1 h2 ih =>
    simp only [V.strip]
    exact .tup _ a (by rw [stripL_length]; exact h1) (fun j hj => by rw [stripL_length] at hj; rw [stripL_getD]; exact ih j hj)

theorem VRs.pureIn {G : Gh} {W : World} {x : List V} {a : Array Value} (h : VRs G W x a) : VRs G.pureIn W (stripL x) a :=
  ⟨by rw [stripL_length]; exact h.1, fun j hj => by rw [stripL_length] at hj; rw [stripL_getD]; exact (h.2 j hj).pureIn⟩

/-- The ghost behind a call that was handed plain values alone. -/
def Gh.frozen (G Gc : Gh) (sz : Nat) (h : H) : Gh :=
  { G with own := fun b => if b < sz then G.own b else match Gc.own b with
      | .row _ f => .ro f
      | .ro f => .ro f
      | .obj id => match al h.objs id with | some (.cells _ cs) => .ro cs.length | _ => .ext
      | _ => .ext }

theorem map_getD {f : V → V} {xs : List V} {j : Nat} (h : j < xs.length) : (xs.map f).getD j .any = f (xs.getD j .any) := by
  simp [List.getD_eq_getElem?_getD, h]

section
variable {P : Program} {G Gc : Gh} {W W' : World} {h : H}

theorem pureIn_old (e : Ext G.pureIn W Gc W') {b : Nat} (hb : b < W.heap.size) :
    W'.heap[b]? = W.heap[b]? ∧ ((∃ f, Gc.own b = .ro f ∧ (G.own b = .ro f ∨ ∃ t, G.own b = .row t f)) ∨ Gc.own b = .ext) := by
  cases ho : G.own b with
  | ext => have := e.e1 b hb (by simp [Gh.pureIn, ho]); exact ⟨this.1, .inr this.2⟩
  | obj id => have := e.e1 b hb (by simp [Gh.pureIn, ho]); exact ⟨this.1, .inr this.2⟩
  | loc d => have := e.e1 b hb (by simp [Gh.pureIn, ho]); exact ⟨this.1, .inr this.2⟩
  | it d => have := e.e1 b hb (by simp [Gh.pureIn, ho]); exact ⟨this.1, .inr this.2⟩
  | row t f => have := e.ro b f (by simp [Gh.pureIn, ho]) hb; exact ⟨this.1, .inl ⟨f, this.2, .inr ⟨t, rfl⟩⟩⟩
  | ro f => have := e.ro b f (by simp [Gh.pureIn, ho]) hb; exact ⟨this.1, .inl ⟨f, this.2, .inl rfl⟩⟩

theorem frozen_keep (e : Ext G.pureIn W Gc W') : Keep G W (G.frozen Gc W.heap.size h) W' where
  tape := e.tape
  os := e.os
  out := e.out
  sz := e.sz
  own := fun b hb => by simp [Gh.frozen, hb]
  heap := fun b hb => (pureIn_old e hb).1
  obj := fun _ _ h => h
  nt := Nat.le_refl _
  tip := fun _ _ => ⟨rfl, rfl⟩
  lb := rfl
  ib := rfl

theorem frozen_imm (e : Ext G.pureIn W Gc W') {b o : Nat} (hi : Gc.imm b o) : (G.frozen Gc W.heap.size h).imm b o := by
  by_cases hb : b < W.heap.size
  · rcases (pureIn_old e hb).2 with ⟨f, h1, h2⟩ | h1
    · unfold Gh.imm at hi ⊢
      rw [h1] at hi
      simp only [Gh.frozen, if_pos hb]
      rcases h2 with h2 | ⟨t, h2⟩ <;> rw [h2] <;> exact hi
    · unfold Gh.imm at hi
      rw [h1] at hi
      exact hi.elim
  · unfold Gh.imm at hi ⊢
    simp only [Gh.frozen, if_neg hb]
    cases ho : Gc.own b <;> rw [ho] at hi <;> simp only at hi ⊢ <;> first | exact hi | exact hi.elim

theorem frozen_obj (e : Ext G.pureIn W Gc W') {b id : Nat} (ho : Gc.own b = .obj id) {ty : TypeId} {cs : List V} (hg : al h.objs id = some (.cells ty cs)) {o : Nat} (hl : o < cs.length) :
    (G.frozen Gc W.heap.size h).imm b o := by
  have hb : ¬ b < W.heap.size := fun hb => by
    rcases (pureIn_old e hb).2 with ⟨f, h1, _⟩ | h1 <;> rw [h1] at ho <;> cases ho
  unfold Gh.imm
  simp only [Gh.frozen, if_neg hb, ho, hg]
  exact hl

theorem TkOK.frozen {a : Option Addr} {n cap : Nat} {tk : Tk} (ht : TkOK Gc a n cap tk) (G' : Gh) : TkOK G' a n cap tk.cp := by
  cases tk <;> first | exact ht | trivial

theorem frz_sound (e : Ext G.pureIn W Gc W') (hr : HRel P Gc W' h) : ∀ (f : Nat) (v : V) (c : Value), VR Gc W' v c → VR (G.frozen Gc W.heap.size h) W' (frz h f v) c
  | 0, v, c, _ => .any c
  | f + 1, v, c, hv => by
    have ih := frz_sound e hr f
    have lst : ∀ {x : List V} {a : Array Value}, x.length = a.size → (∀ j, j < x.length → VR Gc W' (x.getD j .any) (a.getD j undef)) →
        (x.map (frz h f)).length = a.size ∧ ∀ j, j < (x.map (frz h f)).length → VR (G.frozen Gc W.heap.size h) W' ((x.map (frz h f)).getD j .any) (a.getD j undef) := fun h1 h2 =>
      ⟨by simpa using h1, fun j hj => by
        have hj' := hj
        rw [List.length_map] at hj'
        rw [map_getD hj']; exact ih _ _ (h2 j hj')⟩
    cases hv with
    | any c => exact .any c
    | it c => exact .any c
    | l d o c => exact .any c
    | b x => exact .b x
    | i k n => exact .i k n
    | s l s h => exact .s l s h
    | sl xs n tk a cap b o cs hn ha hi hc hv ht =>
      simp only [frz]
      refine .sl _ n _ a cap b o cs hn (fun hx => ha (by intro e; subst e; exact hx rfl)) (fun j hj => ?_) (fun j hj => ?_) (fun j hj => ?_) (ht.frozen _)
      · rw [List.length_map] at hj; exact frozen_imm e (hi j hj)
      · rw [List.length_map] at hj; exact hc j hj
      · rw [List.length_map] at hj; rw [map_getD hj]; exact ih _ _ (hv j hj)
    | ip xs q p b o cs ha hi hc hv =>
      simp only [frz]
      refine .ip _ q p b o cs (fun hx => ha (by intro e; subst e; exact hx rfl)) (fun j hj => ?_) (fun j hj => ?_) (fun j hj => ?_)
      · rw [List.length_map] at hj; exact frozen_imm e (hi j hj)
      · rw [List.length_map] at hj; exact hc j hj
      · rw [List.length_map] at hj; rw [map_getD hj]; exact ih _ _ (hv j hj)
    | sd xs n tk p b o cap cs ha hi hc hv ht => exact .any _
    | hs id off n sz b cap a hob hn ha =>
      simp only [frz]
      split
      · rename_i ty cs hg
        split
        · rename_i xs hsub
          obtain ⟨b', h1, h2, h3⟩ := hr.objs id _ hg
          rw [hob] at h1
          cases h1
          obtain ⟨cc, k1, k2, k3⟩ := h3.ex
          obtain ⟨s1, s2, s3, s4⟩ := sub?_spec hsub
          refine .sl _ n _ a cap b off (fun j => cc.getD (off + j) undef) hn (fun hx => ?_) (fun j hj => ?_) (fun j hj => ?_) (fun j hj => ?_) trivial
          · refine ha ?_
            rcases Nat.eq_zero_or_pos n with h0 | h0
            · subst h0
              simp only [Nat.zero_mul] at s1
              exact absurd (by rw [List.map_eq_nil_iff]; exact List.eq_nil_of_length_eq_zero s1) hx
            · exact h0
          · rw [List.length_map, s1] at hj
            have := s4 (by omega)
            exact frozen_obj e h2 hg (by omega)
          · rw [List.length_map, s1] at hj
            have := s4 (by omega)
            exact cell_getD k1 (by omega)
          · rw [List.length_map] at hj
            rw [map_getD hj]
            rw [s1] at hj
            have := s4 (by omega)
            rw [s3 j hj]
            exact ih _ _ (k3 (off + j) (by omega))
        · exact .any _
      · exact .any _
    | p id o b hob =>
      simp only [frz]
      split
      · rename_i ty cs hg
        cases hlt : Nat.blt o cs.length with
        | false => exact .any _
        | true =>
          obtain ⟨b', h1, h2, h3⟩ := hr.objs id _ hg
          rw [hob] at h1
          cases h1
          obtain ⟨cc, k1, k2, k3⟩ := h3.ex
          refine .ip _ o _ b 0 (fun j => cc.getD j undef) (fun _ => by rw [Nat.zero_add]) (fun j hj => ?_) (fun j hj => ?_) (fun j hj => ?_)
          · rw [List.length_map] at hj
            rw [Nat.zero_add]; exact frozen_obj e h2 hg hj
          · rw [List.length_map] at hj
            rw [Nat.zero_add]; exact cell_getD k1 (by omega)
          · rw [List.length_map] at hj
            rw [map_getD hj]
            exact ih _ _ (k3 j hj)
      · exact .any _
    | nilp => exact .nilp
    | m0 => exact .m0
    | m id b h => exact .any _
    | fn g x y a c h1 h2 h3 h4 =>
      simp only [frz]
      obtain ⟨a1, a2⟩ := lst h1 h2
      obtain ⟨b1, b2⟩ := lst h3 h4
      exact .fn g _ _ a c a1 a2 b1 b2
    | nilf => exact .nilf
    | ifc t v c h => exact .ifc t _ c (ih _ _ h)
    | nili => exact .nili
    | agg x a h1 h2 =>
      simp only [frz]
      obtain ⟨a1, a2⟩ := lst h1 h2
      exact .agg _ a a1 a2
    | tup x a h1 h2 =>
      simp only [frz]
      obtain ⟨a1, a2⟩ := lst h1 h2
      exact .tup _ a a1 a2

theorem frz_plain (f : Nat) (v : V) : (frz h f v).plain = true := by
  cases f with
  | zero => rfl
  | succ f =>
    cases v <;> simp only [frz] <;> first | rfl | skip
    · split
      · split <;> rfl
      · rfl
    · split
      · rename_i cs _; cases Nat.blt _ _ <;> rfl
      · rfl
    · rename_i r; cases r <;> rfl

/-! ### A call that shares the memory -/
def Gh.impIn (G : Gh) : Gh := { G with own := fun b => match G.own b with | .loc _ => .ext | .it _ => .ext | x => x }

theorem impIn_imm {b o : Nat} : G.impIn.imm b o ↔ G.imm b o := by
  unfold Gh.imm Gh.impIn
  simp only
  cases h : G.own b <;> simp

theorem VR.impIn {v : V} {c : Value} (h : VR G W v c) : VR G.impIn W v c :=
  h.ghost (fun _ _ h => impIn_imm.2 h) (fun _ _ h => h) (fun a n cap tk ht => by cases tk <;> exact ht)

theorem VRs.impIn {x : List V} {a : Array Value} (h : VRs G W x a) : VRs G.impIn W x a := ⟨h.1, fun j hj => (h.2 j hj).impIn⟩

theorem HRel.ghost {G' : Gh} {hh : H} (hr : HRel P G W hh) (hv : ∀ v c, VR G W v c → VR G' W v c) (ho : ∀ id b, G.own b = .obj id → G'.own b = .obj id) (hw : ∀ t f b, G.own b = .row t f → G'.own b = .row t f)
    (h1 : G'.obj = G.obj) (h2 : G'.nt = G.nt) (h3 : G'.tip = G.tip) (h4 : G'.tka = G.tka) : HRel P G' W hh where
  objs := fun id o hg => by
    obtain ⟨b, k1, k2, k3⟩ := hr.objs id o hg
    refine ⟨b, by rw [h1]; exact k1, ho _ _ k2, ?_⟩
    cases o with
    | cells ty cs =>
      obtain ⟨c, e1, e2, e3⟩ := k3.ex
      exact ⟨c, e1, e2, fun j hj => hv _ _ (e3 j hj)⟩
    | map es =>
      obtain ⟨c, clock, e1, e2, e3⟩ := k3.ex
      exact ⟨c, clock, e1, e2, fun j hj => ⟨hv _ _ (e3 j hj).1, hv _ _ (e3 j hj).2⟩⟩
  next := fun id b hg => hr.next id b (by rw [← h1]; exact hg)
  nt := h2.trans hr.nt
  tips := fun t n ty hg => by
    obtain ⟨k1, k2, k3⟩ := hr.tips t n ty hg
    refine ⟨k1, by rw [h3]; exact k2, ?_⟩
    rcases k3 with ⟨k3, k4⟩ | ⟨b, base, cap, c, fz, e1, e2, e3, e4⟩
    · exact .inl ⟨by rw [h4]; exact k3, k4⟩
    · exact .inr ⟨b, base, cap, c, fz, by rw [h4]; exact e1, hw _ _ _ e2, e3, e4⟩

theorem HRel.impIn (hr : HRel P G W h) : HRel P G.impIn W h :=
  hr.ghost (fun _ _ h => h.impIn) (fun _ _ h => by simp [Gh.impIn, h]) (fun _ _ _ h => by simp [Gh.impIn, h]) rfl rfl rfl rfl

def Gh.impOut (G Gc : Gh) (sz : Nat) : Gh :=
  { Gc with
    own := fun b => match (if b < sz then G.own b else .ext) with
      | .loc d => .loc d
      | .it d => .it d
      | _ => match Gc.own b with | .loc _ => .ext | .it _ => .ext | x => x
    lb := G.lb
    ib := G.ib }

/-- Of the frame's own variables nothing has turned. -/
def Mine (G : Gh) (W : World) (G' : Gh) (W' : World) : Prop :=
  G'.lb = G.lb ∧ G'.ib = G.ib ∧ ∀ b, b < W.heap.size → ((∃ d, G.own b = .loc d) ∨ ∃ d, G.own b = .it d) → W'.heap[b]? = W.heap[b]? ∧ G'.own b = G.own b

theorem impOut_mine (e : Ext G.impIn W Gc W') : Mine G W (G.impOut Gc W.heap.size) W' := by
  refine ⟨rfl, rfl, fun b hb ho => ?_⟩
  rcases ho with ⟨d, ho⟩ | ⟨d, ho⟩
  · have := e.e1 b hb (by simp [Gh.impIn, ho])
    exact ⟨this.1, by simp [Gh.impOut, hb, ho]⟩
  · have := e.e1 b hb (by simp [Gh.impIn, ho])
    exact ⟨this.1, by simp [Gh.impOut, hb, ho]⟩

theorem impOut_own (_ : Ext G.impIn W Gc W') {b : Nat} {x : BK} (hx : Gc.own b = x) (h : x = .ext ∨ (∃ id, x = .obj id) ∨ (∃ t f, x = .row t f) ∨ ∃ f, x = .ro f) (hl : ∀ d, b < W.heap.size → G.own b ≠ .loc d ∧ G.own b ≠ .it d) :
    (G.impOut Gc W.heap.size).own b = x := by
  simp only [Gh.impOut]
  by_cases hb : b < W.heap.size
  · rw [if_pos hb]
    cases ho : G.own b with
    | loc d => exact absurd ho (hl d hb).1
    | it d => exact absurd ho (hl d hb).2
    | _ => simp only [hx]; rcases h with h | ⟨_, h⟩ | ⟨_, _, h⟩ | ⟨_, h⟩ <;> subst h <;> rfl
  · rw [if_neg hb]
    simp only [hx]; rcases h with h | ⟨_, h⟩ | ⟨_, _, h⟩ | ⟨_, h⟩ <;> subst h <;> rfl

/-- What the callee says is no frame variable of ours. -/
theorem impOut_not (e : Ext G.impIn W Gc W') {b : Nat} (hx : Gc.own b ≠ .ext) : ∀ d, b < W.heap.size → G.own b ≠ .loc d ∧ G.own b ≠ .it d := by
  intro d hb
  refine ⟨fun ho => hx (e.e1 b hb (by simp [Gh.impIn, ho])).2, fun ho => hx (e.e1 b hb (by simp [Gh.impIn, ho])).2⟩

theorem impOut_imm (e : Ext G.impIn W Gc W') {b o : Nat} (hi : Gc.imm b o) : (G.impOut Gc W.heap.size).imm b o := by
  unfold Gh.imm at hi ⊢
  cases ho : Gc.own b with
  | row t f => rw [ho] at hi; rw [impOut_own e ho (.inr (.inr (.inl ⟨t, f, rfl⟩))) (impOut_not e (by rw [ho]; simp))]; exact hi
  | ro f => rw [ho] at hi; rw [impOut_own e ho (.inr (.inr (.inr ⟨f, rfl⟩))) (impOut_not e (by rw [ho]; simp))]; exact hi
  | _ => rw [ho] at hi; exact hi.elim

theorem VR.impOut (e : Ext G.impIn W Gc W') {v : V} {c : Value} (h : VR Gc W' v c) : VR (G.impOut Gc W.heap.size) W' v c :=
  h.ghost (fun _ _ h => impOut_imm e h) (fun _ _ h => h) (fun a n cap tk ht => by cases tk <;> exact ht)

theorem HRel.impOut (e : Ext G.impIn W Gc W') {hh : H} (hr : HRel P Gc W' hh) : HRel P (G.impOut Gc W.heap.size) W' hh :=
  hr.ghost (fun _ _ h => h.impOut e) (fun id b h => impOut_own e h (.inr (.inl ⟨id, rfl⟩)) (impOut_not e (by rw [h]; simp)))
    (fun t f b h => impOut_own e h (.inr (.inr (.inl ⟨t, f, rfl⟩))) (impOut_not e (by rw [h]; simp))) rfl rfl rfl rfl

theorem impOut_ext (e : Ext G.impIn W Gc W') : Ext G W (G.impOut Gc W.heap.size) W' where
  tape := e.tape
  os := e.os
  out := e.out
  sz := e.sz
  e1 := fun b hb ho => by
    obtain ⟨a, c⟩ := e.e1 b hb (by simp [Gh.impIn, ho])
    exact ⟨a, impOut_own e c (.inl rfl) (fun d _ => by rw [ho]; simp)⟩
  ro := fun b f ho hb => by
    obtain ⟨a, c⟩ := e.ro b f (by simp [Gh.impIn, ho]) hb
    exact ⟨a, impOut_own e c (.inr (.inr (.inr ⟨f, rfl⟩))) (fun d _ => by rw [ho]; simp)⟩
  row := fun b t f ho hb => by
    obtain ⟨a, f', hf, c⟩ := e.row b t f (by simp [Gh.impIn, ho]) hb
    refine ⟨a, f', hf, ?_⟩
    rcases c with c | c
    · exact .inl (impOut_own e c (.inr (.inr (.inl ⟨t, f', rfl⟩))) (fun d _ => by rw [ho]; simp))
    · exact .inr (impOut_own e c (.inr (.inr (.inr ⟨f', rfl⟩))) (fun d _ => by rw [ho]; simp))
  obj := fun id b h => e.obj id b h
  nt := e.nt
  tip := fun t ht => e.tip t ht

/-- Behind a call. -/
theorem StRel.after {kl : List (Nat × List Nat)} {st : St} {A : Act} {G' : Gh} (hs : StRel P kl G W st A) (e : Ext G W G' W') {h' : H} (hr : HRel P G' W' h') (hm : Mine G W G' W') : StRel P kl G' W' { st with h := h' } A where
  T := fun i hi => (hs.T i hi).mono e
  L := fun i d o hi he => by rw [hm.1]; exact hs.L i d o hi he
  I := fun i hi he => by rw [hm.2.1]; exact hs.I i hi he
  loc := fun d cs hg => by
    obtain ⟨h1, ty, h2⟩ := hs.loc d cs hg
    have hb : G.lb d < W.heap.size := by obtain ⟨c, h3, _⟩ := h2.ex; exact heap_lt h3
    obtain ⟨k1, k2⟩ := hm.2.2 _ hb (.inl ⟨d, h1⟩)
    rw [hm.1]
    exact ⟨k2.trans h1, ty, h2.of_heap e k1⟩
  its := fun d l p hg => by
    obtain ⟨h1, s, h2, h3⟩ := hs.its d l p hg
    obtain ⟨k1, k2⟩ := hm.2.2 _ (heap_lt h2) (.inr ⟨d, h1⟩)
    rw [hm.2.1]
    exact ⟨k2.trans h1, s, k1.trans h2, h3⟩
  mem := hr
  gl := fun g => ⟨(hs.gl g).1, (hs.gl g).2.mono e⟩

theorem Keep.mine {G' : Gh} (k : Keep G W G' W') : Mine G W G' W' := ⟨k.lb, k.ib, fun b hb _ => ⟨k.heap b hb, k.own b hb⟩⟩

/-! ### A function begins -/
theorem T.get_mk : ∀ (d i : Nat), (T.mk d).get i = .any
  | 0, _ => rfl
  | d + 1, i => by
    simp only [T.mk, T.get]
    cases Nat.beq i 0 with
    | true => rfl
    | false => cases Nat.beq (i % 2) 1 <;> exact T.get_mk d _

theorem argsz_get : ∀ (vs : List V) (t : T) (k i : Nat), (args0 t k vs).get i = .any ∨ (k ≤ i ∧ i - k < vs.length ∧ (args0 t k vs).get i = (vs.getD (i - k) .any).val) ∨ ((args0 t k vs).get i = t.get i)
  | [], t, k, i => .inr (.inr rfl)
  | v :: r, t, k, i => by
    simp only [args0]
    rcases argsz_get r (t.set k v.val) (k + 1) i with h | ⟨h1, h2, h3⟩ | h
    · exact .inl h
    · refine .inr (.inl ⟨by omega, by simp; omega, ?_⟩)
      rw [h3, show i - k = (i - (k + 1)) + 1 from by omega]
      simp
    · rw [h]
      by_cases hik : i = k
      · subst hik
        rcases T.get_set_eq t i v.val with e | e
        · exact .inr (.inl ⟨Nat.le_refl _, by simp, by rw [e]; simp⟩)
        · exact .inl e
      · exact .inr (.inr (T.get_set_ne t _ hik))

theorem init_rel {gl : Nat → List V} {depth n : Nat} {vs : List V} {cs : Array Value} {hh : H} (kl : List (Nat × List Nat)) (hv : VRs G W vs cs) (hr : HRel P G W hh)
    (hg : ∀ g, stripL (gl g) = gl g ∧ VR G W (.ip (gl g) 0) (.pointer (some ⟨g, 0, none⟩))) :
    StRel P kl G W (St.init gl depth vs hh) { tmps := cs ++ Array.replicate (n - cs.size) undef, defers := [] } := by
  have key : ∀ i, (St.init gl depth vs hh).T.get i = .any ∨ (i < cs.size ∧ (St.init gl depth vs hh).T.get i = (vs.getD i .any).val) := fun i => by
    simp only [St.init]
    rcases argsz_get vs (T.mk depth) 0 i with h | ⟨h1, h2, h3⟩ | h
    · exact .inl h
    · exact .inr ⟨by rw [← hv.1]; omega, by simpa using h3⟩
    · exact .inl (h.trans (T.get_mk _ _))
  refine ⟨fun i hi => ?_, fun i d o hi he => ?_, fun i hi he => ?_, fun d c hg => by simp [St.init, al] at hg, fun d l p hg => by simp [St.init, al] at hg, hr, hg⟩
  · rcases key i with h | ⟨h1, h2⟩
    · rw [h]; exact .any _
    · rw [h2]
      have := hv.2 i (by rw [hv.1]; exact h1)
      have e : (cs ++ Array.replicate (n - cs.size) undef).getD i undef = cs.getD i undef := by
        simp [Array.getD_eq_getD_getElem?, Array.getElem?_append_left h1]
      show VR G W _ ((cs ++ Array.replicate (n - cs.size) undef).getD i undef)
      rw [e]; exact this.val
  · rcases key i with h | ⟨_, h⟩ <;> rw [h] at he
    · cases he
    · exact absurd he val_l
  · rcases key i with h | ⟨_, h⟩ <;> rw [h] at he
    · cases he
    · exact absurd he val_it

end
end Ai
