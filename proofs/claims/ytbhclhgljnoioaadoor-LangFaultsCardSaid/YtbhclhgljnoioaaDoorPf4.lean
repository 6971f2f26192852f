/- lang.Parse, walked, whole. -/
import Derived.Test.YtbhclhgljnoioaaDoorPf3
set_option linter.unusedSimpArgs false
set_option linter.unusedVariables false
namespace Go.Proofs.YtbhclhgljnoioaaDoor
open Ai
theorem x_fil : Tells tabx told X_fil := tells_cons o_Tokens tells_nil
theorem k_box {xf : FuncId → List V → Option V} {xh : FuncId → List V → H → Option (V × H)} (gl : Nat → List V) (T : T) (its : List (Nat × (List UInt8 × Nat))) (loc : List (Nat × List V)) (nx : Nat) (obs : List (Nat × Ai.Obj)) (nt : Nat) (tips : List (Nat × (Nat × TypeId))) (d : Nat) (ty : TypeId) (x : Opd) :
    Hp.stepK xf xh ⟨gl, T, its, loc, ⟨nx, obs, nt, tips⟩⟩ d (.box ty x) = (match (St.ev ⟨gl, T, its, loc, ⟨nx, obs, nt, tips⟩⟩ x).cells? with
      | some cs => some (.p nx 0, ⟨gl, T, its, loc, ⟨nx + 1, (nx, .cells ty cs) :: obs, nt, tips⟩⟩)
      | none => none) := rfl
def R_read (a : List V) (h : H) (v : V) (h' : H) : Prop := ∀ s : List UInt8, a = [.s s] → h = {} → match lx s 0 with
  | .bad a e => v = .tup [.nilp, .i .i64 (a : Nat), .i .i64 (e : Nat)] ∧ h' = {}
  | .ok ts => v = .tup [.p 0 0, .i .i64 0, .i .i64 0] ∧ h' = ⟨1, [(0, srcC ts 0 s.length)], 0, []⟩
theorem UH42 {xf : FuncId → List V → Option V} {xh : FuncId → List V → H → Option (V × H)} {kz : Nat → List Nat} {k : List Fr} {st : St} {Q : AEx → St → Prop} : Hp.M xf xh kz (.code B42) k st Q = Hp.M xf xh kz (.code (.seq (.reg [⟨some 2, .mov (.k .nilp), none⟩,
     ⟨some 3, .mov (.k (.i .i64 0)), none⟩,
     ⟨some 4, .mov (.k (.i .i64 0)), none⟩])
  (.seq (.reg [⟨some 9, .mov (.t 0), none⟩,
     ⟨some 10, .call true 21 [(.t 9)], none⟩,
     ⟨some 8, .mov (.t 10), none⟩,
     ⟨some 11, .ext (.t 8) 0, none⟩,
     ⟨some 12, .ext (.t 8) 1, none⟩,
     ⟨some 13, .ext (.t 8) 2, none⟩,
     ⟨some 5, .mov (.t 11), none⟩,
     ⟨some 6, .mov (.t 12), none⟩,
     ⟨some 7, .mov (.t 13), none⟩])
  (.seq (.seq (.reg [⟨some 14, .mov (.t 7), none⟩,
      ⟨some 15, .bin .neq (.t 14) (.k (.i .i64 0)), none⟩])
   (.cond (.t 15)
    (.seq (.reg [⟨some 16, .mov (.t 6), none⟩,
       ⟨some 17, .mov (.t 7), none⟩,
       ⟨some 2, .mov (.k .nilp), none⟩,
       ⟨some 3, .mov (.t 16), none⟩,
       ⟨some 4, .mov (.t 17), none⟩])
    .ret)
    .skip))
  (.seq (.reg [⟨some 18, .mov (.t 5), none⟩,
     ⟨some 19, .mov (.t 0), none⟩,
     ⟨some 20, .len .str (.t 19), none⟩,
     ⟨some 21, .build [(.sl [] 0 .nil), (.i .i64 0), (.i .i64 0), (.b false)] [(0, 1, (.t 18)), (2, 1, (.t 20)), (3, 1, (.k (.b true)))], none⟩,
     ⟨some 22, .box 41 (.t 21), none⟩,
     ⟨some 2, .mov (.t 22), none⟩,
     ⟨some 3, .mov (.k (.i .i64 0)), none⟩,
     ⟨some 4, .mov (.k (.i .i64 0)), none⟩])
  .ret))))) k st Q := rfl
def kz42 (_ : Nat) : List Nat := []
theorem read_bad {s : List UInt8} (hs : s.length ≤ 1048576) {a e : Nat} (hl : lx s 0 = .bad a e) : pick 42 R_read [.s s] {} = some (.tup [.nilp, .i .i64 (a : Nat), .i .i64 (e : Nat)], {}) := by
  have hc : Hp.CompI tabx told 42 [.s s] {} (.tup [.nilp, .i .i64 (a : Nat), .i .i64 (e : Nat)]) {} := Hp.compI_of (kz := kz42) x_fil tells_noY (fn := af42) rfl (Nat.le_of_ble_eq_true rfl) fun gl => by
    show Hp.M _ _ _ (.code B42) _ (St.init gl 5 _ _) (Hp.FinI [.tmp 2, .tmp 3, .tmp 4] _ _)
    rw [UH42]
    have y1 : X_fil 21 [.s s] = some (tokR [] (lx s 0)) := F_Tokens1 s hs
    rw [hl] at y1
    have he := (lx_bad _ s 0 a e (Nat.le_refl _) hl).1
    have f1 : decide ((e : Int) = 0) = false := decide_eq_false (by omega)
    simp only [tokR] at y1
    simp only [y1, f1, go_sem, ne_eq, not_false_eq_true, reduceIte, Nat.reduceMul, Nat.reduceAdd, Nat.reduceSub, Nat.reduceEqDiff, Nat.reduceLeDiff, Nat.reduceLT, List.take_succ_cons, List.take_zero, List.drop_succ_cons, List.cons_append]
  obtain ⟨v, h', e1, r⟩ := pick_spec (R := R_read) hc (by
    intro s' e1 _
    simp only [List.cons.injEq, V.s.injEq, and_true] at e1
    subst e1
    rw [hl]
    exact ⟨rfl, rfl⟩)
  have r := r s rfl rfl
  rw [hl] at r
  obtain ⟨rfl, rfl⟩ := r
  exact e1
theorem read_ok {s : List UInt8} (hs : s.length ≤ 1048576) {ts : List Tok} (hl : lx s 0 = .ok ts) : pick 42 R_read [.s s] {} = some (.tup [.p 0 0, .i .i64 0, .i .i64 0], ⟨1, [(0, srcC ts 0 s.length)], 0, []⟩) := by
  have hc : Hp.CompI tabx told 42 [.s s] {} (.tup [.p 0 0, .i .i64 0, .i .i64 0]) ⟨1, [(0, srcC ts 0 s.length)], 0, []⟩ := Hp.compI_of (kz := kz42) x_fil tells_noY (fn := af42) rfl (Nat.le_of_ble_eq_true rfl) fun gl => by
    show Hp.M _ _ _ (.code B42) _ (St.init gl 5 _ _) (Hp.FinI [.tmp 2, .tmp 3, .tmp 4] _ _)
    rw [UH42]
    have y1 : X_fil 21 [.s s] = some (tokR [] (lx s 0)) := F_Tokens1 s hs
    rw [hl] at y1
    simp only [tokR, List.nil_append] at y1
    simp only [y1, srcC, k_box, Int.cast_ofNat_Int, go_sem, ne_eq, not_false_eq_true, reduceIte, Nat.reduceMul, Nat.reduceAdd, Nat.reduceSub, Nat.reduceEqDiff, Nat.reduceLeDiff, Nat.reduceLT, List.take_succ_cons, List.take_zero, List.drop_succ_cons, List.cons_append]
  obtain ⟨v, h', e1, r⟩ := pick_spec (R := R_read) hc (by
    intro s' e1 _
    simp only [List.cons.injEq, V.s.injEq, and_true] at e1
    subst e1
    rw [hl]
    exact ⟨rfl, rfl⟩)
  have r := r s rfl rfl
  rw [hl] at r
  obtain ⟨rfl, rfl⟩ := r
  exact e1
noncomputable def Y_parse (ts : List Tok) (e : Nat) := ys [(42, pick 42 R_read), (22, pick 22 (R_fil ts e 0)), (23, pick 23 (R_peek ts e 0))]
theorem t_parse (ts : List Tok) (e : Nat) : Hp.TellsI tabx told (Y_parse ts e) := itells_cons pick_tells (itells_cons pick_tells (itells_cons pick_tells itells_nil))
def R_parseP (a : List V) (v : V) : Prop := ∀ s : List UInt8, a = [.s s] → ∃ c, v = .tup [.agg c, .i .i64 ((parseV s).2.1 : Nat), .i .i64 ((parseV s).2.2 : Nat)] ∧ FilR (parseV s).1 c
noncomputable def F_parse : List V → Option V := pickP 19 R_parseP
theorem o_parse : ∀ a v, F_parse a = some v → Comp tabx told 19 a v := pickP_tells
theorem fil0_ok : (bld fil0 1 0).1 = 0 := by decide
theorem filV_ok (ts : List Tok) (e : Nat) : (bld (filV ts e).1 1 0).1 = 0 := by
  unfold filV
  split
  · exact fil0_ok
  · split
    · exact fil0_ok
    · rename_i h; exact Decidable.not_not.1 h
theorem UH19 {xf : FuncId → List V → Option V} {xh : FuncId → List V → H → Option (V × H)} {kz : Nat → List Nat} {k : List Fr} {st : St} {Q : AEx → St → Prop} : Hp.M xf xh kz (.code B19) k st Q = Hp.M xf xh kz (.code (.seq (.reg [⟨some 2, .lalloc [(.i .i64 0), (.s []), (.s []), (.sl [] 0 .nil)] [2], none⟩,
     ⟨some 3, .mov (.k (.i .i64 0)), none⟩,
     ⟨some 4, .mov (.k (.i .i64 0)), none⟩])
  (.seq (.reg [⟨some 10, .mov (.t 0), none⟩,
     ⟨some 11, .call false 42 [(.t 10)], none⟩,
     ⟨some 9, .mov (.t 11), none⟩,
     ⟨some 12, .ext (.t 9) 0, none⟩,
     ⟨some 13, .ext (.t 9) 1, none⟩,
     ⟨some 14, .ext (.t 9) 2, none⟩,
     ⟨some 5, .mov (.t 12), none⟩,
     ⟨some 6, .mov (.t 13), none⟩,
     ⟨some 7, .mov (.t 14), none⟩])
  (.seq (.seq (.reg [⟨some 15, .mov (.t 7), none⟩,
      ⟨some 16, .bin .neq (.t 15) (.k (.i .i64 0)), none⟩])
   (.cond (.t 16)
    (.seq (.reg [⟨some 17, .build [(.i .i64 0), (.s []), (.s []), (.sl [] 0 .nil)] [], none⟩,
       ⟨some 18, .mov (.t 6), none⟩,
       ⟨some 19, .mov (.t 7), none⟩,
       ⟨none, .store 4 (.t 2) (.t 17), none⟩,
       ⟨some 3, .mov (.t 18), none⟩,
       ⟨some 4, .mov (.t 19), none⟩])
    .ret)
    .skip))
  (.seq (.reg [⟨some 21, .mov (.t 5), none⟩,
     ⟨some 22, .call false 22 [(.t 21)], none⟩,
     ⟨some 20, .mov (.t 22), none⟩,
     ⟨some 23, .ext (.t 20) 0, none⟩,
     ⟨some 24, .ext (.t 20) 1, none⟩,
     ⟨some 25, .ext (.t 20) 2, none⟩,
     ⟨some 8, .lalloc [(.i .i64 0), (.s []), (.s []), (.sl [] 0 .nil)] [8], none⟩,
     ⟨none, .store 4 (.t 8) (.t 23), none⟩,
     ⟨some 6, .mov (.t 24), none⟩,
     ⟨some 7, .mov (.t 25), none⟩])
  (.seq (.seq (.reg [⟨some 26, .mov (.t 7), none⟩,
      ⟨some 27, .bin .eql (.t 26) (.k (.i .i64 0)), none⟩,
      ⟨some 28, .mov (.t 27), none⟩,
      ⟨some 29, .mov (.t 5), some (28, true)⟩,
      ⟨some 30, .call false 23 [(.t 29)], some (28, true)⟩,
      ⟨some 31, .fld false 0 1 (.t 30), some (28, true)⟩,
      ⟨some 32, .bin .neq (.t 31) (.k (.i .i64 0)), some (28, true)⟩,
      ⟨some 33, .pick (.t 28) (.t 32) (.k (.b false)), none⟩])
   (.cond (.t 33)
    (.seq (.reg [⟨some 34, .build [(.i .i64 0), (.s []), (.s []), (.sl [] 0 .nil)] [], none⟩,
       ⟨some 35, .mov (.t 5), none⟩,
       ⟨some 36, .call false 23 [(.t 35)], none⟩,
       ⟨some 37, .fld false 2 1 (.t 36), none⟩,
       ⟨none, .store 4 (.t 2) (.t 34), none⟩,
       ⟨some 3, .mov (.t 37), none⟩,
       ⟨some 4, .mov (.k (.i .i64 3)), none⟩])
    .ret)
    .skip))
  (.seq (.reg [⟨some 38, .load true 4 (.t 8), none⟩,
     ⟨some 39, .mov (.t 6), none⟩,
     ⟨some 40, .mov (.t 7), none⟩,
     ⟨none, .store 4 (.t 2) (.t 38), none⟩,
     ⟨some 3, .mov (.t 39), none⟩,
     ⟨some 4, .mov (.t 40), none⟩])
  .ret))))))) k st Q := rfl
def kz19 (_ : Nat) : List Nat := []
theorem parse_eq (s : List UInt8) (hs : s.length ≤ 1048576) : ∃ c, F_parse [.s s] = some (.tup [.agg c, .i .i64 ((parseV s).2.1 : Nat), .i .i64 ((parseV s).2.2 : Nat)]) ∧ FilR (parseV s).1 c := by
  have key : ∃ v, Comp tabx told 19 [.s s] v ∧ ∃ c, v = .tup [.agg c, .i .i64 ((parseV s).2.1 : Nat), .i .i64 ((parseV s).2.2 : Nat)] ∧ FilR (parseV s).1 c := by
    unfold parseV
    cases hl : lx s 0 with
    | bad a e =>
      refine comp_ex (xf := noX) (xh := Y_parse [] 0) (kz := kz19) (fn := af19) tells_noX (t_parse _ _) rfl (Nat.le_of_ble_eq_true rfl) ?_
      show Hp.M _ _ _ (.code B19) _ (St.init gl0 6 [.s s] _) (fun ex st => ∃ v, Fin [.cell 2 true 4, .tmp 3, .tmp 4] v ex st ∧ _)
      rw [UH19]
      have y1 : Y_parse [] 0 42 [.s s] {} = _ := read_bad hs hl
      have he := (lx_bad _ s 0 a e (Nat.le_refl _) hl).1
      have f1 : decide ((e : Int) = 0) = false := decide_eq_false (by omega)
      simp only [y1, f1, go_sem, ne_eq, not_false_eq_true, reduceIte, Nat.reduceMul, Nat.reduceAdd, Nat.reduceSub, Nat.reduceEqDiff, Nat.reduceLeDiff, Nat.reduceLT, List.take_succ_cons, List.take_zero, List.drop_succ_cons, List.cons_append]
      exact ⟨_, rfl, _, rfl, fil0R⟩
    | ok ts =>
      have hk := lx_kind _ s 0 ts (Nat.le_refl _) hl
      have hlen := lx_len _ s 0 ts (Nat.le_refl _) hl
      have ho : SO ⟨1, [(0, srcC ts 0 s.length)], 0, []⟩ 0 ts s.length 0 := ⟨rfl, Nat.zero_le _, by omega, fun t ht => (hk t ht).1⟩
      obtain ⟨c, h', y2, q1, q2⟩ := fil_eq ho
      have hbo := filV_ok ts s.length
      have hfz := FilR.frz h' _ c 1 0 98 q1 hbo (by decide)
      refine comp_ex (xf := noX) (xh := Y_parse ts s.length) (kz := kz19) (fn := af19) tells_noX (t_parse _ _) rfl (Nat.le_of_ble_eq_true rfl) ?_
      show Hp.M _ _ _ (.code B19) _ (St.init gl0 6 [.s s] _) (fun ex st => ∃ v, Fin [.cell 2 true 4, .tmp 3, .tmp 4] v ex st ∧ _)
      rw [UH19]
      have y1 : Y_parse ts s.length 42 [.s s] {} = _ := read_ok hs hl
      replace y2 : Y_parse ts s.length 22 [.p 0 0] _ = _ := y2
      have y3 : Y_parse ts s.length 23 [.p 0 0] h' = some (.agg [.i .i64 (tokAt ts s.length (parR ts s.length).2.2).kind, .s (tokAt ts s.length (parR ts s.length).2.2).text, .i .i64 (tokAt ts s.length (parR ts s.length).2.2).at_], h') := peek_eq ts s.length 0 q2
      dsimp only
      generalize filV ts s.length = r at *
      obtain ⟨f, pos, er⟩ := r
      generalize tokAt ts s.length (parR ts s.length).2.2 = tk at *
      simp only at y2 q1 hfz ⊢
      by_cases he : er = 0
      · subst he
        by_cases hkk : tk.kind = 0
        · rw [if_neg (by omega)]
          have f1 : decide ((tk.kind : Int) = 0) = true := decide_eq_true (by omega)
          cases q1 with | mk k nm tx kids xs n tk1 hn hx =>
          simp only [y1, y2, y3, f1, Int.cast_ofNat_Int, go_sem, ne_eq, not_false_eq_true, reduceIte, Nat.reduceMul, Nat.reduceAdd, Nat.reduceSub, Nat.reduceEqDiff, Nat.reduceLeDiff, Nat.reduceLT, List.take_succ_cons, List.take_zero, List.drop_succ_cons, List.cons_append]
          exact ⟨_, rfl, _, rfl, hfz⟩
        · rw [if_pos ⟨rfl, hkk⟩]
          have f1 : decide ((tk.kind : Int) = 0) = false := decide_eq_false (by omega)
          cases q1 with | mk k nm tx kids xs n tk1 hn hx =>
          simp only [y1, y2, y3, f1, Int.cast_ofNat_Int, go_sem, ne_eq, not_false_eq_true, reduceIte, Nat.reduceMul, Nat.reduceAdd, Nat.reduceSub, Nat.reduceEqDiff, Nat.reduceLeDiff, Nat.reduceLT, List.take_succ_cons, List.take_zero, List.drop_succ_cons, List.cons_append]
          exact ⟨_, rfl, _, rfl, fil0R⟩
      · rw [if_neg (by omega)]
        have f1 : decide ((er : Int) = 0) = false := decide_eq_false (by omega)
        cases q1 with | mk k nm tx kids xs n tk1 hn hx =>
        simp only [y1, y2, y3, f1, Int.cast_ofNat_Int, go_sem, ne_eq, not_false_eq_true, reduceIte, Nat.reduceMul, Nat.reduceAdd, Nat.reduceSub, Nat.reduceEqDiff, Nat.reduceLeDiff, Nat.reduceLT, List.take_succ_cons, List.take_zero, List.drop_succ_cons, List.cons_append]
        exact ⟨_, rfl, _, rfl, hfz⟩
  obtain ⟨v, hc, hr⟩ := key
  obtain ⟨v, e1, r⟩ := pickP_spec (R := R_parseP) hc (by
    intro s' e1
    simp only [List.cons.injEq, V.s.injEq, and_true] at e1
    subst e1
    exact hr)
  obtain ⟨c, rfl, r1⟩ := r s rfl
  exact ⟨c, e1, r1⟩
end Go.Proofs.YtbhclhgljnoioaaDoor
