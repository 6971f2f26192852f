/- filter: whether a filter may be: walked. -/
import Derived.Test.YtbhclhgljnoioaaDoorPt2
set_option linter.unusedSimpArgs false
set_option linter.unusedVariables false
namespace Go.Proofs.YtbhclhgljnoioaaDoor
open Ai
mutual
theorem FilR.uniq : ∀ (f g : Fil) (c : List V), FilR f c → FilR g c → f = g
  | .mk k nm tx kids, g, c, h1, h2 => by
    cases h1 with | mk _ _ _ _ xs n tk hn hx =>
    cases h2 with | mk _ _ _ kids' _ _ _ hn' hx' =>
    rw [KidsR.uniq kids kids' xs hx hx']
theorem KidsR.uniq : ∀ (l m : List Fil) (xs : List V), KidsR l xs → KidsR m xs → l = m
  | [], m, xs, h1, h2 => by
    have e := h2.len
    cases h1
    cases m with
    | nil => rfl
    | cons g r => simp only [List.length_nil, List.length_cons] at e; omega
  | f :: r, m, xs, h1, h2 => by
    cases h1 with | cons _ _ c ys h3 h4 =>
    generalize he : c ++ ys = zs at h2
    cases h2 with
    | nil => have := h3.len; have := congrArg List.length he; simp only [List.length_append, List.length_nil] at this; omega
    | cons g r' c' ys' h5 h6 =>
      have hc : c = c' ∧ ys = ys' := List.append_inj he (by rw [h3.len, h5.len])
      obtain ⟨rfl, rfl⟩ := hc
      rw [FilR.uniq f g c h3 h5, KidsR.uniq r r' ys h4 h6]
end
def keyB (l : List UInt8) : Bool := allV plain 1 24 l
def valB (l : List UInt8) : Bool := allV plain 0 48 l
def namB (l : List UInt8) : Bool := allV letter 1 8 l
/-- May a part be, whatever its kids are? 'n': how many. -/
def mayB (k : Int) (nm tx : List UInt8) (n : Nat) : Bool :=
  if k = 0 ∨ k = 3 then decide (n = 0) && (decide (nm = []) && decide (tx = []))
  else if k = 1 then decide (n = 0) && (decide (nm = []) && keyB tx)
  else if k = 2 then decide (n = 0) && (namB nm && valB tx)
  else if k = 4 then decide (nm = []) && (decide (tx = []) && decide (n = 1))
  else if k = 5 ∨ k = 6 then decide (nm = []) && decide (tx = [])
  else false
mutual
/-- Whether a filter may be: the error, and how many parts were gone through. -/
def bld : Fil → Nat → Nat → Nat × Nat
  | .mk k nm tx kids, d, w => if 6 < d ∨ 24 < w + 1 then (51, w + 1) else if mayB k nm tx kids.length = false then (50, w + 1) else blds kids (d + 1) (w + 1)
def blds : List Fil → Nat → Nat → Nat × Nat
  | [], _, w => (0, w)
  | f :: r, d, w => if (bld f d w).1 = 0 then blds r d (bld f d w).2 else bld f d w
end
mutual
theorem bld_le : ∀ (f : Fil) (d w : Nat), w ≤ 24 → w ≤ (bld f d w).2 ∧ ((bld f d w).1 = 0 → (bld f d w).2 ≤ 24)
  | .mk k nm tx kids, d, w, h => by
    rw [bld]
    split
    · exact ⟨by simp only; omega, fun h => by simp only at h; omega⟩
    · split
      · exact ⟨by simp only; omega, fun h => by simp only at h; omega⟩
      · have := blds_le kids (d + 1) (w + 1) (by omega)
        exact ⟨by omega, this.2⟩
theorem blds_le : ∀ (l : List Fil) (d w : Nat), w ≤ 24 → w ≤ (blds l d w).2 ∧ ((blds l d w).1 = 0 → (blds l d w).2 ≤ 24)
  | [], d, w, h => by rw [blds]; exact ⟨Nat.le_refl _, fun _ => h⟩
  | f :: r, d, w, h => by
    rw [blds]
    have h1 := bld_le f d w h
    split
    · rename_i h0
      have h2 := blds_le r d (bld f d w).2 (h1.2 h0)
      exact ⟨by omega, h2.2⟩
    · exact h1
end
/-! ### The walk -/
def WB (h : H) (id w : Nat) : Prop := al h.objs id = some (.cells 3 [.i .i64 (w : Nat)])
def setW (h : H) (id w : Nat) : H := ⟨h.next, alSet h.objs id (.cells 3 [.i .i64 (w : Nat)]), h.nt, h.tips⟩
theorem WB.set (h : H) (id w : Nat) : WB (setW h id w) id w := al_alSet _ _ _
theorem WB.uniq {h : H} {id w w' : Nat} (h1 : WB h id w) (h2 : WB h id w') : w = w' := by
  have := h1.symm.trans h2
  simp only [Option.some.injEq, Ai.Obj.cells.injEq, List.cons.injEq, V.i.injEq, true_and, and_true] at this
  omega
theorem Hop.setW (h : H) (id w : Nat) : Hop h (setW h id w) id :=
  ⟨rfl, Nat.le_refl _, fun _ _ => rfl, fun j hj => by show al (alSet _ _ _) _ = _; rw [al_set, if_neg (fun h => hj h)]⟩
def isQ (t : Nat) : Bool := [132, 135, 137, 138, 142, 144, 145].contains t
def ResB (id : Nat) (h : H) (v : V) (h' : H) (q : Nat × Nat) : Prop := ∃ x, v = .tup [x, .i .i64 (q.1 : Nat)] ∧ ((q.1 = 0 ∧ ∃ t y, x = .ifc t y ∧ isQ t = true) ∨ (q.1 ≠ 0 ∧ x = .nili)) ∧ Hop h h' id ∧ WB h' id q.2
def R_build (id : Nat) (a : List V) (h : H) (v : V) (h' : H) : Prop := ∀ (f : Fil) (c : List V) (d w : Nat), a = [.agg c, .i .i64 (d : Nat), .p id 0] → FilR f c → WB h id w → ResB id h v h' (bld f d w)
def S_build (id D : Nat) : Prop := ∀ (f : Fil) (c : List V) (d w : Nat) (h : H), FilR f c → WB h id w → w ≤ 24 → 8 ≤ d + D → d ≤ 7 →
  ∃ v h', Hp.CompI tabx told 69 [.agg c, .i .i64 (d : Nat), .p id 0] h v h' ∧ ResB id h v h' (bld f d w)
noncomputable def Y_build (id : Nat) := ys [(69, pick 69 (R_build id))]
theorem t_build (id : Nat) : Hp.TellsI tabx told (Y_build id) := itells_cons pick_tells itells_nil
def X_build := xs [(90, F_Key), (92, F_Value), (91, F_Name)]
theorem x_build : Tells tabx told X_build := tells_cons o_Key (tells_cons o_Value (tells_cons o_Name tells_nil))
theorem call_build {id D : Nat} (S : S_build id D) {f : Fil} {c : List V} {d w : Nat} {h : H} (hf : FilR f c) (hw : WB h id w) (h1 : w ≤ 24) (h2 : 8 ≤ d + D) (h3 : d ≤ 7) :
    ∃ x h', Y_build id 69 [.agg c, .i .i64 (d : Nat), .p id 0] h = some (.tup [x, .i .i64 ((bld f d w).1 : Nat)], h') ∧ (((bld f d w).1 = 0 ∧ ∃ t y, x = .ifc t y ∧ isQ t = true) ∨ ((bld f d w).1 ≠ 0 ∧ x = .nili)) ∧ Hop h h' id ∧ WB h' id (bld f d w).2 := by
  obtain ⟨v, h', hc, hr⟩ := S f c d w h hf hw h1 h2 h3
  obtain ⟨v, h', e1, r1⟩ := pick_spec (R := R_build id) hc (by
    intro f' c' d' w' e1 hf' hw'
    simp only [List.cons.injEq, V.i.injEq, V.agg.injEq, true_and, and_true] at e1
    obtain ⟨e1, e2⟩ := e1
    have e2 : d = d' := by omega
    subst e1 e2
    rw [← FilR.uniq f f' c hf hf', ← hw.uniq hw']
    exact hr)
  obtain ⟨x, rfl, q1, q2, q3⟩ := r1 f c d w rfl hf hw
  exact ⟨x, h', e1, q1, q2, q3⟩
/-! Rows that are being built, of any type. -/
def TkH (h0 h : H) (ty m : Nat) (tk : Tk) : Prop := ∃ t, tk = .own t ∧ h0.nt ≤ t ∧ t < h.nt ∧ al h.tips t = some (m, ty)
theorem TkH.hop {h0 h h' : H} {ty m id : Nat} {tk : Tk} (g : TkH h0 h ty m tk) (hp : Hop h h' id) : TkH h0 h' ty m tk := by
  obtain ⟨t, g1, g2, g3, g4⟩ := g
  exact ⟨t, g1, g2, Nat.lt_of_lt_of_le g3 hp.nt, (hp.tips t g3).trans g4⟩
theorem app_tkH {h0 : H} {nx : Nat} {obs : List (Nat × Ai.Obj)} {nt : Nat} {tips : List (Nat × (Nat × TypeId))} {ty sz m id : Nat} {tk : Tk} (g : TkH h0 ⟨nx, obs, nt, tips⟩ ty m tk) {xs c : List V} (hx : xs.length = m * sz) (hc : c.length = 1 * sz) (h1 : allOne c = true) (hm : m + 1 ≤ most) (hp : Hop h0 ⟨nx, obs, nt, tips⟩ id) :
    ∃ tips', (∀ gl T its loc, St.app ⟨gl, T, its, loc, ⟨nx, obs, nt, tips⟩⟩ ty sz (.sl xs m tk) (.sl c 1 .full) = some (.sl (xs ++ c) (m + 1) tk, ⟨gl, T, its, loc, ⟨nx, obs, nt, tips'⟩⟩)) ∧ TkH h0 ⟨nx, obs, nt, tips'⟩ ty (m + 1) tk ∧ Hop h0 ⟨nx, obs, nt, tips'⟩ id := by
  obtain ⟨t, rfl, g2, g3, g4⟩ := g
  refine ⟨alSet tips t (m + 1, ty), fun gl T its loc => ?_, ⟨t, rfl, g2, g3, ?_⟩, ⟨hp.next, hp.nt, fun t' ht => ?_, hp.objs⟩⟩
  · simp only at g4
    simp only [hx, hc, h1, hm, g4, go_sem, ne_eq, not_false_eq_true, reduceIte, Nat.reduceMul, Nat.reduceAdd, Nat.reduceSub, Nat.reduceEqDiff, Nat.reduceLeDiff, Nat.reduceLT, List.take_succ_cons, List.take_zero, List.drop_succ_cons, List.cons_append]
  · simp only [go_sem, ne_eq, not_false_eq_true, reduceIte, Nat.reduceMul, Nat.reduceAdd, Nat.reduceSub, Nat.reduceEqDiff, Nat.reduceLeDiff, Nat.reduceLT, List.take_succ_cons, List.take_zero, List.drop_succ_cons, List.cons_append]
  · show al (alSet _ _ _) _ = _
    rw [al_set, if_neg (by omega)]
    exact hp.tips t' ht
theorem KidsR.split {l : List Fil} {xs : List V} (h : KidsR l xs) : ∀ (pre : List Fil) (f : Fil) (post : List Fil), l = pre ++ f :: post → ∃ c, FilR f c ∧ (xs.drop (pre.length * 4)).take 4 = c := by
  intro pre
  induction pre generalizing l xs with
  | nil =>
    intro f post e
    subst e
    cases h with | cons _ _ c ys h1 h2 =>
    refine ⟨c, h1, ?_⟩
    have := h1.len
    simp only [List.length_nil, Nat.zero_mul, List.drop_zero]
    rw [← this, List.take_left]
  | cons g pre ih =>
    intro f post e
    subst e
    cases h with | cons _ _ c ys h1 h2 =>
    obtain ⟨c', h3, h4⟩ := ih h2 f post rfl
    refine ⟨c', h3, ?_⟩
    have := h1.len
    rw [List.length_cons, show (pre.length + 1) * 4 = c.length + pre.length * 4 from by omega, ← List.drop_drop, List.drop_left, h4]
def K69_1 : List Fr := [.blk 1,
  .seq (.seq (.seq (.reg [⟨some 177, .faddr 0 (.t 3), none⟩,
        ⟨some 178, .load false 1 (.t 177), none⟩])
     (.blk 3 (.seq (.reg [⟨some 180, .bin .eql (.t 178) (.k (.i .i64 4)), none⟩,
         ⟨some 179, .mov (.t 180), none⟩])
      (.cond (.t 179)
       (.seq (.reg [⟨some 181, .mov (.t 9), none⟩,
          ⟨some 182, .iaddr (.slice 1) (.t 181) (.k (.i .i64 0)), none⟩,
          ⟨some 183, .load false 1 (.t 182), none⟩,
          ⟨some 184, .build [.nili] [(0, 1, (.t 183))], none⟩,
          ⟨some 185, .mkif 142 (.t 184), none⟩,
          ⟨some 6, .mov (.t 185), none⟩,
          ⟨some 7, .mov (.k (.i .i64 0)), none⟩])
       .ret)
       (.seq (.reg [⟨some 187, .bin .eql (.t 178) (.k (.i .i64 5)), none⟩,
          ⟨some 186, .mov (.t 187), none⟩])
       (.cond (.t 186)
        (.seq (.reg [⟨some 188, .mov (.t 9), none⟩,
           ⟨some 189, .build [(.sl [] 0 .nil)] [(0, 1, (.t 188))], none⟩,
           ⟨some 190, .mkif 144 (.t 189), none⟩,
           ⟨some 6, .mov (.t 190), none⟩,
           ⟨some 7, .mov (.k (.i .i64 0)), none⟩])
        .ret)
        .skip))))))
    (.seq (.reg [⟨some 191, .mov (.t 9), none⟩,
       ⟨some 192, .build [(.sl [] 0 .nil)] [(0, 1, (.t 191))], none⟩,
       ⟨some 193, .mkif 145 (.t 192), none⟩,
       ⟨some 6, .mov (.t 193), none⟩,
       ⟨some 7, .mov (.k (.i .i64 0)), none⟩])
    .ret))]
theorem UH69_1 {xf : FuncId → List V → Option V} {xh : FuncId → List V → H → Option (V × H)} {kz : Nat → List Nat} {k : List Fr} {st : St} {Q : AEx → St → Prop} : Hp.M xf xh kz (.code L69_1) k st Q = Hp.M xf xh kz (.code (.seq (.reg [⟨some 152, .bin .lss (.t 151) (.t 150), none⟩])
  (.seq (.cond (.t 152)
    .skip
    (.exit 1))
  (.seq (.blk 2 (.seq (.reg [⟨some 153, .iaddr (.slice 4) (.t 149) (.t 151), none⟩,
       ⟨some 154, .load true 4 (.t 153), none⟩,
       ⟨some 11, .lalloc [(.i .i64 0), (.s []), (.s []), (.sl [] 0 .nil)] [11], none⟩,
       ⟨none, .store 4 (.t 11) (.t 154), none⟩])
    (.seq (.reg [⟨some 156, .load true 4 (.t 11), none⟩,
       ⟨some 157, .mov (.t 1), none⟩,
       ⟨some 158, .bin .add (.t 157) (.k (.i .i64 1)), none⟩,
       ⟨some 159, .mov (.t 2), none⟩,
       ⟨some 160, .call false 69 [(.t 156), (.t 158), (.t 159)], none⟩,
       ⟨some 155, .mov (.t 160), none⟩,
       ⟨some 161, .ext (.t 155) 0, none⟩,
       ⟨some 162, .ext (.t 155) 1, none⟩,
       ⟨some 12, .mov (.t 161), none⟩,
       ⟨some 13, .mov (.t 162), none⟩])
    (.seq (.seq (.reg [⟨some 163, .mov (.t 13), none⟩,
        ⟨some 164, .bin .neq (.t 163) (.k (.i .i64 0)), none⟩])
     (.cond (.t 164)
      (.seq (.reg [⟨some 165, .mov (.t 13), none⟩,
         ⟨some 6, .mov (.k .nili), none⟩,
         ⟨some 7, .mov (.t 165), none⟩])
      .ret)
      .skip))
    (.seq (.reg [⟨some 167, .mov (.t 12), none⟩,
       ⟨some 168, .tas false [132, 135, 137, 138, 142, 144, 145] [9] .nili true (.t 167), none⟩,
       ⟨some 166, .mov (.t 168), none⟩,
       ⟨some 169, .ext (.t 166) 0, none⟩,
       ⟨some 170, .ext (.t 166) 1, none⟩,
       ⟨some 14, .mov (.t 169), none⟩,
       ⟨some 15, .mov (.t 170), none⟩])
    (.seq (.reg [⟨some 171, .mov (.t 15), none⟩])
    (.cond (.t 171)
     (.reg [⟨some 172, .mov (.t 9), none⟩,
       ⟨some 173, .mov (.t 14), none⟩,
       ⟨some 174, .bslice false 71 1 1 [.nili] [(0, (.t 173))], none⟩,
       ⟨some 175, .app 71 1 (.t 172) (.t 174), none⟩,
       ⟨some 9, .mov (.t 175), none⟩])
     .skip)))))))
  (.reg [⟨some 176, .bin .add (.t 151) (.k (.i .i64 1)), none⟩,
    ⟨some 151, .mov (.t 176), none⟩]))))) k st Q := rfl
theorem UH69 {xf : FuncId → List V → Option V} {xh : FuncId → List V → H → Option (V × H)} {kz : Nat → List Nat} {k : List Fr} {st : St} {Q : AEx → St → Prop} : Hp.M xf xh kz (.code B69) k st Q = Hp.M xf xh kz (.code (.seq (.reg [⟨some 3, .lbox (.t 0) [3, 29, 34, 41, 46, 53, 60, 65, 70, 75, 82, 88, 93, 95, 100, 107, 112, 119, 123, 128, 133, 138, 142, 148, 177], none⟩,
     ⟨some 6, .mov (.k .nili), none⟩,
     ⟨some 7, .mov (.k (.i .i64 0)), none⟩])
  (.seq (.reg [⟨some 16, .mov (.t 2), none⟩,
     ⟨some 17, .nilck (.t 16), none⟩,
     ⟨some 18, .load false 1 (.t 17), none⟩,
     ⟨some 19, .bin .add (.t 18) (.k (.i .i64 1)), none⟩,
     ⟨some 20, .nilck (.t 16), none⟩,
     ⟨none, .store 1 (.t 20) (.t 19), none⟩])
  (.seq (.seq (.reg [⟨some 21, .mov (.t 1), none⟩,
      ⟨some 22, .bin .gtr (.t 21) (.k (.i .i64 6)), none⟩,
      ⟨some 23, .mov (.t 22), none⟩,
      ⟨some 24, .mov (.t 2), some (23, false)⟩,
      ⟨some 25, .nilck (.t 24), some (23, false)⟩,
      ⟨some 26, .load false 1 (.t 25), some (23, false)⟩,
      ⟨some 27, .bin .gtr (.t 26) (.k (.i .i64 24)), some (23, false)⟩,
      ⟨some 28, .pick (.t 23) (.k (.b true)) (.t 27), none⟩])
   (.cond (.t 28)
    (.seq (.reg [⟨some 6, .mov (.k .nili), none⟩,
       ⟨some 7, .mov (.k (.i .i64 51)), none⟩])
    .ret)
    .skip))
  (.seq (.reg [⟨some 29, .faddr 3 (.t 3), none⟩,
     ⟨some 30, .load false 1 (.t 29), none⟩,
     ⟨some 31, .len .slice (.t 30), none⟩,
     ⟨some 32, .bin .eql (.t 31) (.k (.i .i64 0)), none⟩,
     ⟨some 8, .mov (.t 32), none⟩])
  (.seq (.blk 0 (.seq (.reg [⟨some 34, .faddr 0 (.t 3), none⟩,
       ⟨some 35, .load false 1 (.t 34), none⟩,
       ⟨some 36, .bin .eql (.t 35) (.k (.i .i64 0)), none⟩,
       ⟨some 37, .mov (.t 36), none⟩,
       ⟨some 38, .mov (.t 8), some (37, true)⟩,
       ⟨some 39, .pick (.t 37) (.t 38) (.k (.b false)), none⟩,
       ⟨some 40, .mov (.t 39), none⟩,
       ⟨some 41, .faddr 1 (.t 3), some (40, true)⟩,
       ⟨some 42, .load false 1 (.t 41), some (40, true)⟩,
       ⟨some 43, .bin .eql (.t 42) (.k (.s [])), some (40, true)⟩,
       ⟨some 44, .pick (.t 40) (.t 43) (.k (.b false)), none⟩,
       ⟨some 45, .mov (.t 44), none⟩,
       ⟨some 46, .faddr 2 (.t 3), some (45, true)⟩,
       ⟨some 47, .load false 1 (.t 46), some (45, true)⟩,
       ⟨some 48, .bin .eql (.t 47) (.k (.s [])), some (45, true)⟩,
       ⟨some 49, .pick (.t 45) (.t 48) (.k (.b false)), none⟩,
       ⟨some 33, .mov (.t 49), none⟩])
    (.cond (.t 33)
     (.seq (.reg [⟨some 50, .build [] [], none⟩,
        ⟨some 51, .mkif 132 (.t 50), none⟩,
        ⟨some 6, .mov (.t 51), none⟩,
        ⟨some 7, .mov (.k (.i .i64 0)), none⟩])
     .ret)
     (.seq (.reg [⟨some 53, .faddr 0 (.t 3), none⟩,
        ⟨some 54, .load false 1 (.t 53), none⟩,
        ⟨some 55, .bin .eql (.t 54) (.k (.i .i64 1)), none⟩,
        ⟨some 56, .mov (.t 55), none⟩,
        ⟨some 57, .mov (.t 8), some (56, true)⟩,
        ⟨some 58, .pick (.t 56) (.t 57) (.k (.b false)), none⟩,
        ⟨some 59, .mov (.t 58), none⟩,
        ⟨some 60, .faddr 1 (.t 3), some (59, true)⟩,
        ⟨some 61, .load false 1 (.t 60), some (59, true)⟩,
        ⟨some 62, .bin .eql (.t 61) (.k (.s [])), some (59, true)⟩,
        ⟨some 63, .pick (.t 59) (.t 62) (.k (.b false)), none⟩,
        ⟨some 64, .mov (.t 63), none⟩,
        ⟨some 65, .faddr 2 (.t 3), some (64, true)⟩,
        ⟨some 66, .load false 1 (.t 65), some (64, true)⟩,
        ⟨some 67, .call true 90 [(.t 66)], some (64, true)⟩,
        ⟨some 68, .bin .eql (.t 67) (.k (.i .i64 0)), some (64, true)⟩,
        ⟨some 69, .pick (.t 64) (.t 68) (.k (.b false)), none⟩,
        ⟨some 52, .mov (.t 69), none⟩])
     (.cond (.t 52)
      (.seq (.reg [⟨some 70, .faddr 2 (.t 3), none⟩,
         ⟨some 71, .load false 1 (.t 70), none⟩,
         ⟨some 72, .build [(.s [])] [(0, 1, (.t 71))], none⟩,
         ⟨some 73, .mkif 135 (.t 72), none⟩,
         ⟨some 6, .mov (.t 73), none⟩,
         ⟨some 7, .mov (.k (.i .i64 0)), none⟩])
      .ret)
      (.seq (.reg [⟨some 75, .faddr 0 (.t 3), none⟩,
         ⟨some 76, .load false 1 (.t 75), none⟩,
         ⟨some 77, .bin .eql (.t 76) (.k (.i .i64 2)), none⟩,
         ⟨some 78, .mov (.t 77), none⟩,
         ⟨some 79, .mov (.t 8), some (78, true)⟩,
         ⟨some 80, .pick (.t 78) (.t 79) (.k (.b false)), none⟩,
         ⟨some 81, .mov (.t 80), none⟩,
         ⟨some 82, .faddr 1 (.t 3), some (81, true)⟩,
         ⟨some 83, .load false 1 (.t 82), some (81, true)⟩,
         ⟨some 84, .call true 91 [(.t 83)], some (81, true)⟩,
         ⟨some 85, .bin .eql (.t 84) (.k (.i .i64 0)), some (81, true)⟩,
         ⟨some 86, .pick (.t 81) (.t 85) (.k (.b false)), none⟩,
         ⟨some 87, .mov (.t 86), none⟩,
         ⟨some 88, .faddr 2 (.t 3), some (87, true)⟩,
         ⟨some 89, .load false 1 (.t 88), some (87, true)⟩,
         ⟨some 90, .call true 92 [(.t 89)], some (87, true)⟩,
         ⟨some 91, .bin .eql (.t 90) (.k (.i .i64 0)), some (87, true)⟩,
         ⟨some 92, .pick (.t 87) (.t 91) (.k (.b false)), none⟩,
         ⟨some 74, .mov (.t 92), none⟩])
      (.cond (.t 74)
       (.seq (.reg [⟨some 93, .faddr 1 (.t 3), none⟩,
          ⟨some 94, .load false 1 (.t 93), none⟩,
          ⟨some 95, .faddr 2 (.t 3), none⟩,
          ⟨some 96, .load false 1 (.t 95), none⟩,
          ⟨some 97, .build [(.s []), (.s [])] [(0, 1, (.t 94)), (1, 1, (.t 96))], none⟩,
          ⟨some 98, .mkif 137 (.t 97), none⟩,
          ⟨some 6, .mov (.t 98), none⟩,
          ⟨some 7, .mov (.k (.i .i64 0)), none⟩])
       .ret)
       (.seq (.reg [⟨some 100, .faddr 0 (.t 3), none⟩,
          ⟨some 101, .load false 1 (.t 100), none⟩,
          ⟨some 102, .bin .eql (.t 101) (.k (.i .i64 3)), none⟩,
          ⟨some 103, .mov (.t 102), none⟩,
          ⟨some 104, .mov (.t 8), some (103, true)⟩,
          ⟨some 105, .pick (.t 103) (.t 104) (.k (.b false)), none⟩,
          ⟨some 106, .mov (.t 105), none⟩,
          ⟨some 107, .faddr 1 (.t 3), some (106, true)⟩,
          ⟨some 108, .load false 1 (.t 107), some (106, true)⟩,
          ⟨some 109, .bin .eql (.t 108) (.k (.s [])), some (106, true)⟩,
          ⟨some 110, .pick (.t 106) (.t 109) (.k (.b false)), none⟩,
          ⟨some 111, .mov (.t 110), none⟩,
          ⟨some 112, .faddr 2 (.t 3), some (111, true)⟩,
          ⟨some 113, .load false 1 (.t 112), some (111, true)⟩,
          ⟨some 114, .bin .eql (.t 113) (.k (.s [])), some (111, true)⟩,
          ⟨some 115, .pick (.t 111) (.t 114) (.k (.b false)), none⟩,
          ⟨some 99, .mov (.t 115), none⟩])
       (.cond (.t 99)
        (.seq (.reg [⟨some 116, .build [] [], none⟩,
           ⟨some 117, .mkif 138 (.t 116), none⟩,
           ⟨some 6, .mov (.t 117), none⟩,
           ⟨some 7, .mov (.k (.i .i64 0)), none⟩])
        .ret)
        (.seq (.reg [⟨some 119, .faddr 1 (.t 3), none⟩,
           ⟨some 120, .load false 1 (.t 119), none⟩,
           ⟨some 121, .bin .neq (.t 120) (.k (.s [])), none⟩,
           ⟨some 122, .mov (.t 121), none⟩,
           ⟨some 123, .faddr 2 (.t 3), some (122, false)⟩,
           ⟨some 124, .load false 1 (.t 123), some (122, false)⟩,
           ⟨some 125, .bin .neq (.t 124) (.k (.s [])), some (122, false)⟩,
           ⟨some 126, .pick (.t 122) (.k (.b true)) (.t 125), none⟩,
           ⟨some 127, .mov (.t 126), none⟩,
           ⟨some 128, .faddr 0 (.t 3), some (127, false)⟩,
           ⟨some 129, .load false 1 (.t 128), some (127, false)⟩,
           ⟨some 130, .bin .lss (.t 129) (.k (.i .i64 4)), some (127, false)⟩,
           ⟨some 131, .pick (.t 127) (.k (.b true)) (.t 130), none⟩,
           ⟨some 132, .mov (.t 131), none⟩,
           ⟨some 133, .faddr 0 (.t 3), some (132, false)⟩,
           ⟨some 134, .load false 1 (.t 133), some (132, false)⟩,
           ⟨some 135, .bin .gtr (.t 134) (.k (.i .i64 6)), some (132, false)⟩,
           ⟨some 136, .pick (.t 132) (.k (.b true)) (.t 135), none⟩,
           ⟨some 137, .mov (.t 136), none⟩,
           ⟨some 138, .faddr 0 (.t 3), some (137, false)⟩,
           ⟨some 139, .load false 1 (.t 138), some (137, false)⟩,
           ⟨some 140, .bin .eql (.t 139) (.k (.i .i64 4)), some (137, false)⟩,
           ⟨some 141, .mov (.t 140), some (137, false)⟩,
           ⟨some 142, .faddr 3 (.t 3), some (141, true)⟩,
           ⟨some 143, .load false 1 (.t 142), some (141, true)⟩,
           ⟨some 144, .len .slice (.t 143), some (141, true)⟩,
           ⟨some 145, .bin .neq (.t 144) (.k (.i .i64 1)), some (141, true)⟩,
           ⟨some 146, .pick (.t 141) (.t 145) (.k (.b false)), some (137, false)⟩,
           ⟨some 147, .pick (.t 137) (.k (.b true)) (.t 146), none⟩,
           ⟨some 118, .mov (.t 147), none⟩])
        (.cond (.t 118)
         (.seq (.reg [⟨some 6, .mov (.k .nili), none⟩,
            ⟨some 7, .mov (.k (.i .i64 50)), none⟩])
         .ret)
         .skip)))))))))))
  (.seq (.reg [⟨some 9, .movnil 71, none⟩])
  (.seq (.seq (.reg [⟨some 148, .faddr 3 (.t 3), none⟩,
      ⟨some 149, .load false 1 (.t 148), none⟩,
      ⟨some 150, .len .slice (.t 149), none⟩,
      ⟨some 151, .mov (.k (.i .i64 0)), none⟩])
   (.blk 1 (.loop L69_1)))
  (.seq (.seq (.reg [⟨some 177, .faddr 0 (.t 3), none⟩,
      ⟨some 178, .load false 1 (.t 177), none⟩])
   (.blk 3 (.seq (.reg [⟨some 180, .bin .eql (.t 178) (.k (.i .i64 4)), none⟩,
       ⟨some 179, .mov (.t 180), none⟩])
    (.cond (.t 179)
     (.seq (.reg [⟨some 181, .mov (.t 9), none⟩,
        ⟨some 182, .iaddr (.slice 1) (.t 181) (.k (.i .i64 0)), none⟩,
        ⟨some 183, .load false 1 (.t 182), none⟩,
        ⟨some 184, .build [.nili] [(0, 1, (.t 183))], none⟩,
        ⟨some 185, .mkif 142 (.t 184), none⟩,
        ⟨some 6, .mov (.t 185), none⟩,
        ⟨some 7, .mov (.k (.i .i64 0)), none⟩])
     .ret)
     (.seq (.reg [⟨some 187, .bin .eql (.t 178) (.k (.i .i64 5)), none⟩,
        ⟨some 186, .mov (.t 187), none⟩])
     (.cond (.t 186)
      (.seq (.reg [⟨some 188, .mov (.t 9), none⟩,
         ⟨some 189, .build [(.sl [] 0 .nil)] [(0, 1, (.t 188))], none⟩,
         ⟨some 190, .mkif 144 (.t 189), none⟩,
         ⟨some 6, .mov (.t 190), none⟩,
         ⟨some 7, .mov (.k (.i .i64 0)), none⟩])
      .ret)
      .skip))))))
  (.seq (.reg [⟨some 191, .mov (.t 9), none⟩,
     ⟨some 192, .build [(.sl [] 0 .nil)] [(0, 1, (.t 191))], none⟩,
     ⟨some 193, .mkif 145 (.t 192), none⟩,
     ⟨some 6, .mov (.t 193), none⟩,
     ⟨some 7, .mov (.k (.i .i64 0)), none⟩])
  .ret)))))))))) k st Q := rfl
def kz69 (_ : Nat) : List Nat := [0, 4, 5, 6, 7, 8, 10, 11, 12, 13, 14, 15, 16, 17, 18, 19, 20, 21, 22, 23, 24, 25, 26, 27, 28, 29, 30, 31, 32, 33, 34, 35, 36, 37, 38, 39, 40, 41, 42, 43, 44, 45, 46, 47, 48, 49, 50, 51, 52, 53, 54, 55, 56, 57, 58, 59, 60, 61, 62, 63, 64, 65, 66, 67, 68, 69, 70, 71, 72, 73, 74, 75, 76, 77, 78, 79, 80, 81, 82, 83, 84, 85, 86, 87, 88, 89, 90, 91, 92, 93, 94, 95, 96, 97, 98, 99, 100, 101, 102, 103, 104, 105, 106, 107, 108, 109, 110, 111, 112, 113, 114, 115, 116, 117, 118, 119, 120, 121, 122, 123, 124, 125, 126, 127, 128, 129, 130, 131, 132, 133, 134, 135, 136, 137, 138, 139, 140, 141, 142, 143, 144, 145, 146, 147, 148, 152, 153, 154, 155, 156, 157, 158, 159, 160, 161, 162, 163, 164, 165, 166, 167, 168, 169, 170, 171, 172, 173, 174, 175, 176, 177, 178, 179, 180, 181, 182, 183, 184, 185, 186, 187, 188, 189, 190, 191, 192, 193]
theorem isQ_c {t : Nat} (h : isQ t = true) : ([132, 135, 137, 138, 142, 144, 145] : List Nat).contains t = true := h
end Go.Proofs.YtbhclhgljnoioaaDoor
