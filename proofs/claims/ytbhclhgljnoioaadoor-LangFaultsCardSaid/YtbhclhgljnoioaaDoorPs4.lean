/- lang: the parser walked: parts. -/
import Derived.Test.YtbhclhgljnoioaaDoorPs3
set_option linter.unusedSimpArgs false
set_option linter.unusedVariables false
namespace Go.Proofs.YtbhclhgljnoioaaDoor
open Ai
theorem SO.objs {h h' : H} {id : Nat} {ts : List Tok} {e a : Nat} (ho : SO h id ts e a) (hh : h'.objs = h.objs) : SO h' id ts e a := by unfold SO; rw [hh]; exact ho
/-- Of a row that is being built. -/
def TkG (h0 h : H) (m : Nat) (tk : Tk) : Prop := tk = .nil ∨ tk = .full ∨ ∃ t, tk = .own t ∧ h0.nt ≤ t ∧ t < h.nt ∧ al h.tips t = some (m, 27)
theorem TkG.hop {h0 h h' : H} {m id : Nat} {tk : Tk} (g : TkG h0 h m tk) (hp : Hop h h' id) : TkG h0 h' m tk := by
  rcases g with g | g | ⟨t, g1, g2, g3, g4⟩
  · exact .inl g
  · exact .inr (.inl g)
  · exact .inr (.inr ⟨t, g1, g2, Nat.lt_of_lt_of_le g3 hp.nt, (hp.tips t g3).trans g4⟩)
theorem app_tk {h0 : H} {nx : Nat} {obs : List (Nat × Ai.Obj)} {nt : Nat} {tips : List (Nat × (Nat × TypeId))} {m id : Nat} {tk : Tk} (g : TkG h0 ⟨nx, obs, nt, tips⟩ m tk) {xs c : List V} (hx : xs.length = m * 4) (hc : c.length = 4) (h1 : allOne c = true) (hm : m + 1 ≤ most) (hp : Hop h0 ⟨nx, obs, nt, tips⟩ id) :
    ∃ tk' nt' tips', (∀ gl T its loc, St.app ⟨gl, T, its, loc, ⟨nx, obs, nt, tips⟩⟩ 27 4 (.sl xs m tk) (.sl c 1 .full) = some (.sl (xs ++ c) (m + 1) tk', ⟨gl, T, its, loc, ⟨nx, obs, nt', tips'⟩⟩)) ∧ TkG h0 ⟨nx, obs, nt', tips'⟩ (m + 1) tk' ∧ Hop h0 ⟨nx, obs, nt', tips'⟩ id := by
  rcases g with rfl | rfl | ⟨t, rfl, g2, g3, g4⟩
  · refine ⟨.own nt, nt + 1, (nt, (m + 1, 27)) :: tips, fun gl T its loc => ?_, .inr (.inr ⟨nt, rfl, hp.nt, Nat.lt_succ_self _, ?_⟩), ⟨hp.next, Nat.le_succ_of_le hp.nt, fun t ht => ?_, hp.objs⟩⟩
    · simp only [hx, hc, h1, hm, go_sem, ne_eq, not_false_eq_true, reduceIte, Nat.reduceMul, Nat.reduceAdd, Nat.reduceSub, Nat.reduceEqDiff, Nat.reduceLeDiff, Nat.reduceLT, List.take_succ_cons, List.take_zero, List.drop_succ_cons, List.cons_append]
    · simp only [al, go_sem, ne_eq, not_false_eq_true, reduceIte, Nat.reduceMul, Nat.reduceAdd, Nat.reduceSub, Nat.reduceEqDiff, Nat.reduceLeDiff, Nat.reduceLT, List.take_succ_cons, List.take_zero, List.drop_succ_cons, List.cons_append]
    · have := hp.tips t ht
      have hne : Nat.beq nt t = false := by
        cases hb : Nat.beq nt t with
        | true => have h1 := Nat.eq_of_beq_eq_true hb; have := hp.nt; simp only at this; omega
        | false => rfl
      show al ((nt, _) :: tips) t = _
      simp only [al, hne, cond_false]; exact this
  · refine ⟨.own nt, nt + 1, (nt, (m + 1, 27)) :: tips, fun gl T its loc => ?_, .inr (.inr ⟨nt, rfl, hp.nt, Nat.lt_succ_self _, ?_⟩), ⟨hp.next, Nat.le_succ_of_le hp.nt, fun t ht => ?_, hp.objs⟩⟩
    · simp only [hx, hc, h1, hm, go_sem, ne_eq, not_false_eq_true, reduceIte, Nat.reduceMul, Nat.reduceAdd, Nat.reduceSub, Nat.reduceEqDiff, Nat.reduceLeDiff, Nat.reduceLT, List.take_succ_cons, List.take_zero, List.drop_succ_cons, List.cons_append]
    · simp only [al, go_sem, ne_eq, not_false_eq_true, reduceIte, Nat.reduceMul, Nat.reduceAdd, Nat.reduceSub, Nat.reduceEqDiff, Nat.reduceLeDiff, Nat.reduceLT, List.take_succ_cons, List.take_zero, List.drop_succ_cons, List.cons_append]
    · have := hp.tips t ht
      have hne : Nat.beq nt t = false := by
        cases hb : Nat.beq nt t with
        | true => have h1 := Nat.eq_of_beq_eq_true hb; have := hp.nt; simp only at this; omega
        | false => rfl
      show al ((nt, _) :: tips) t = _
      simp only [al, hne, cond_false]; exact this
  · refine ⟨.own t, nt, alSet tips t (m + 1, 27), fun gl T its loc => ?_, .inr (.inr ⟨t, rfl, g2, g3, ?_⟩), ⟨hp.next, hp.nt, fun t' ht => ?_, hp.objs⟩⟩
    · simp only at g4
      simp only [hx, hc, h1, hm, g4, go_sem, ne_eq, not_false_eq_true, reduceIte, Nat.reduceMul, Nat.reduceAdd, Nat.reduceSub, Nat.reduceEqDiff, Nat.reduceLeDiff, Nat.reduceLT, List.take_succ_cons, List.take_zero, List.drop_succ_cons, List.cons_append]
    · simp only [go_sem, ne_eq, not_false_eq_true, reduceIte, Nat.reduceMul, Nat.reduceAdd, Nat.reduceSub, Nat.reduceEqDiff, Nat.reduceLeDiff, Nat.reduceLT, List.take_succ_cons, List.take_zero, List.drop_succ_cons, List.cons_append]
    · show al (alSet _ _ _) _ = _
      rw [al_set, if_neg (by omega)]
      exact hp.tips t' ht
section
variable {ts : List Tok} {e id N : Nat}
theorem UH72 {xf : FuncId → List V → Option V} {xh : FuncId → List V → H → Option (V × H)} {kz : Nat → List Nat} {k : List Fr} {st : St} {Q : AEx → St → Prop} : Hp.M xf xh kz (.code B72) k st Q = Hp.M xf xh kz (.code (.seq (.reg [⟨some 4, .lalloc [(.i .i64 0), (.s []), (.s []), (.sl [] 0 .nil)] [4], none⟩,
     ⟨some 5, .mov (.k (.i .i64 0)), none⟩])
  (.seq (.reg [⟨some 6, .lalloc [(.i .i64 0), (.s []), (.s []), (.sl [] 0 .nil)] [6, 31], none⟩])
  (.seq (.reg [⟨some 7, .mov (.k (.i .i64 0)), none⟩])
  (.seq (.seq (.reg [⟨some 9, .mov (.t 0), none⟩,
      ⟨some 10, .call false 23 [(.t 9)], none⟩,
      ⟨some 8, .lalloc [(.i .i64 0), (.s []), (.i .i64 0)] [8, 50], none⟩,
      ⟨none, .store 3 (.t 8) (.t 10), none⟩])
   (.blk 0 (.seq (.reg [⟨some 18, .mov (.t 0), none⟩,
       ⟨some 19, .call false 95 [(.t 18)], none⟩,
       ⟨some 17, .mov (.t 19), none⟩])
    (.cond (.t 17)
     (.seq (.reg [⟨some 20, .mov (.t 0), none⟩,
        ⟨some 21, .call false 24 [(.t 20)], none⟩,
        ⟨some 22, .fld false 1 1 (.t 21), none⟩,
        ⟨some 23, .build [(.i .i64 0), (.s []), (.s []), (.sl [] 0 .nil)] [(0, 1, (.k (.i .i64 2))), (1, 1, (.t 22))], none⟩,
        ⟨none, .store 4 (.t 6) (.t 23), none⟩])
     (.seq (.reg [⟨some 24, .mov (.t 0), none⟩,
        ⟨some 25, .call false 24 [(.t 24)], none⟩])
     (.reg [⟨some 27, .mov (.t 0), none⟩,
       ⟨some 28, .call false 96 [(.t 27)], none⟩,
       ⟨some 26, .mov (.t 28), none⟩,
       ⟨some 29, .ext (.t 26) 0, none⟩,
       ⟨some 30, .ext (.t 26) 1, none⟩,
       ⟨some 31, .faddr 2 (.t 6), none⟩,
       ⟨none, .store 1 (.t 31) (.t 29), none⟩,
       ⟨some 7, .mov (.t 30), none⟩])))
     (.seq (.reg [⟨some 33, .mov (.t 0), none⟩,
        ⟨some 34, .call false 25 [(.t 33), (.k (.i .i64 4)), (.k (.s [40]))], none⟩,
        ⟨some 32, .mov (.t 34), none⟩])
     (.cond (.t 32)
      (.seq (.reg [⟨some 36, .mov (.t 0), none⟩,
         ⟨some 37, .mov (.t 1), none⟩,
         ⟨some 38, .bin .add (.t 37) (.k (.i .i64 1)), none⟩,
         ⟨some 39, .call false 49 [(.t 36), (.k (.i .i64 1)), (.t 38)], none⟩,
         ⟨some 35, .mov (.t 39), none⟩,
         ⟨some 40, .ext (.t 35) 0, none⟩,
         ⟨some 41, .ext (.t 35) 1, none⟩,
         ⟨none, .store 4 (.t 6) (.t 40), none⟩,
         ⟨some 7, .mov (.t 41), none⟩])
      (.seq (.reg [⟨some 42, .mov (.t 7), none⟩,
         ⟨some 43, .bin .eql (.t 42) (.k (.i .i64 0)), none⟩,
         ⟨some 44, .mov (.t 43), none⟩,
         ⟨some 45, .mov (.t 0), some (44, true)⟩,
         ⟨some 46, .call false 25 [(.t 45), (.k (.i .i64 4)), (.k (.s [41]))], some (44, true)⟩,
         ⟨some 47, .un .not (.t 46), some (44, true)⟩,
         ⟨some 48, .pick (.t 44) (.t 47) (.k (.b false)), none⟩])
      (.cond (.t 48)
       (.reg [⟨some 7, .mov (.k (.i .i64 192)), none⟩])
       .skip)))
      (.seq (.reg [⟨some 50, .faddr 0 (.t 8), none⟩,
         ⟨some 51, .load false 1 (.t 50), none⟩,
         ⟨some 52, .bin .neq (.t 51) (.k (.i .i64 1)), none⟩,
         ⟨some 49, .mov (.t 52), none⟩])
      (.cond (.t 49)
       (.reg [⟨some 7, .mov (.k (.i .i64 192)), none⟩])
       (.reg [⟨some 12, .mov (.t 0), none⟩,
         ⟨some 13, .mov (.t 1), none⟩,
         ⟨some 14, .call false 97 [(.t 12), (.t 13)], none⟩,
         ⟨some 11, .mov (.t 14), none⟩,
         ⟨some 15, .ext (.t 11) 0, none⟩,
         ⟨some 16, .ext (.t 11) 1, none⟩,
         ⟨none, .store 4 (.t 6) (.t 15), none⟩,
         ⟨some 7, .mov (.t 16), none⟩])))))))))
  (.seq (.seq (.reg [⟨some 53, .mov (.t 7), none⟩,
      ⟨some 54, .bin .neq (.t 53) (.k (.i .i64 0)), none⟩])
   (.cond (.t 54)
    (.seq (.reg [⟨some 55, .build [(.i .i64 0), (.s []), (.s []), (.sl [] 0 .nil)] [], none⟩,
       ⟨some 56, .mov (.t 7), none⟩,
       ⟨none, .store 4 (.t 4) (.t 55), none⟩,
       ⟨some 5, .mov (.t 56), none⟩])
    .ret)
    .skip))
  (.seq (.reg [⟨some 57, .load true 4 (.t 6), none⟩,
     ⟨none, .store 4 (.t 4) (.t 57), none⟩,
     ⟨some 5, .mov (.k (.i .i64 0)), none⟩])
  .ret))))))) k st Q := rfl
def kz72 (_ : Nat) : List Nat := []
theorem s_unary (hps : S_parse ts e id N) (hw : S_one ts e id N 97 .word (fun a => (tokAt ts e a).kind = 1)) : S_one ts e id (N + 1) 72 .unary (fun _ => True) := by
  intro d a r h hd _ ho hp
  replace hp : pstep ts e (P ts e N) (.unary d) a = some r := hp
  simp only [pstep] at hp
  refine compI_ex (xf := noX) (kz := kz72) (fn := af72) tells_noX (t_YN ts e id N) rfl (Nat.le_of_ble_eq_true rfl) ?_
  show Hp.M _ _ _ (.code B72) _ (St.init gl0 6 _ _) (fun ex st => ∃ v h', Hp.FinI [.cell 4 true 4, .tmp 5] v h' ex st ∧ _)
  rw [UH72]
  have y1 := y_peek (N := N) ho
  have y2 := y_field (N := N) ho
  cases hF : isF ts e a with
  | true =>
    rw [hF] at y2
    rw [if_pos hF] at hp
    have hl := isF_lt hF
    have y3 := y_take (N := N) ho (by omega)
    have ho1 := ho.set (b := a + 1) (by omega)
    have y4 := y_take (N := N) ho1 (by omega)
    have ho2 := ho1.set (b := a + 1 + 1) (by omega)
    have y5 := y_text (N := N) ho2
    have hop : Hop h (setAt (setAt h id ts e (a + 1)) id ts e (a + 1 + 1)) id := (Hop.set h id ts e _).trans (Hop.set _ id ts e _)
    by_cases hk : (tokAt ts e (a + 2)).kind = 2
    · rw [if_pos hk] at hp
      cases hp
      have hl2 := kind_lt hk
      have hk' : (tokAt ts e (a + 1 + 1)).kind = 2 := hk
      rw [textV, if_pos hk', if_pos hk'] at y5
      simp only [y1, y2, y3, y4, y5, go_sem, ne_eq, not_false_eq_true, reduceIte, Nat.reduceMul, Nat.reduceAdd, Nat.reduceSub, Nat.reduceEqDiff, Nat.reduceLeDiff, Nat.reduceLT, List.take_succ_cons, List.take_zero, List.drop_succ_cons, List.cons_append]
      exact ⟨_, _, ⟨rfl, rfl⟩, _, rfl, .mk _ _ _ _ _ _ _ rfl .nil, hop.trans (Hop.set _ id ts e _), ho2.set (b := a + 1 + 1 + 1) (by omega)⟩
    · rw [if_neg hk] at hp
      cases hp
      have hk' : ¬ (tokAt ts e (a + 1 + 1)).kind = 2 := hk
      have f1 : decide ((192 : Int) = 0) = false := by decide
      rw [textV, if_neg hk', if_neg hk'] at y5
      simp only [y1, y2, y3, y4, y5, f1, go_sem, ne_eq, not_false_eq_true, reduceIte, Nat.reduceMul, Nat.reduceAdd, Nat.reduceSub, Nat.reduceEqDiff, Nat.reduceLeDiff, Nat.reduceLT, List.take_succ_cons, List.take_zero, List.drop_succ_cons, List.cons_append]
      exact ⟨_, _, ⟨rfl, rfl⟩, _, rfl, fil0R, hop, ho2⟩
  | false =>
    rw [hF] at y2
    rw [if_neg (by rw [hF]; decide)] at hp
    have y3 := y_is (N := N) ho [40]
    cases hT : isT ts e a [40] with
    | true =>
      rw [hT, cond_true] at y3
      rw [if_pos hT] at hp
      have hl := isT_lt hT
      have ho1 := ho.set (b := a + 1) (by omega)
      cases hp1 : P ts e N (.parse 1 (d + 1)) (a + 1) with
      | none => rw [hp1] at hp; cases hp
      | some r1 =>
        rw [hp1, Option.bind_some] at hp
        obtain ⟨c, h', y4, q1, q2, q3⟩ := call_parse hps (Nat.le_refl _) (by omega) (by omega) ho1 hp1
        obtain ⟨f1, er, a1⟩ := r1
        simp only at hp q3 y4 q1
        have w1 : wr .i64 ((d : Int) + 1) = ((d + 1 : Nat) : Int) := by rw [wr64] <;> omega
        cases q1 with | mk k nm tx kids xs n tk hn hx =>
        simp only [Int.cast_ofNat_Int] at y4
        by_cases he : er = 0
        · subst he
          rw [if_neg (by simp)] at hp
          have y5 := y_is (N := N) q3 [41]
          cases hT2 : isT ts e a1 [41] with
          | true =>
            rw [if_pos hT2] at hp
            cases hp
            rw [hT2, cond_true] at y5
            have hl2 := isT_lt hT2
            simp only [y1, y2, y3, w1, y4, y5, Int.cast_ofNat_Int, go_sem, ne_eq, not_false_eq_true, reduceIte, Nat.reduceMul, Nat.reduceAdd, Nat.reduceSub, Nat.reduceEqDiff, Nat.reduceLeDiff, Nat.reduceLT, List.take_succ_cons, List.take_zero, List.drop_succ_cons, List.cons_append]
            exact ⟨_, _, ⟨rfl, rfl⟩, _, rfl, .mk k nm tx kids xs n tk hn hx, ((Hop.set h id ts e _).trans q2).trans (Hop.set _ id ts e _), q3.set (b := a1 + 1) (by omega)⟩
          | false =>
            rw [if_neg (by rw [hT2]; decide)] at hp
            cases hp
            rw [hT2, cond_false] at y5
            have f1 : decide ((192 : Int) = 0) = false := by decide
            simp only [y1, y2, y3, w1, y4, y5, f1, Int.cast_ofNat_Int, go_sem, ne_eq, not_false_eq_true, reduceIte, Nat.reduceMul, Nat.reduceAdd, Nat.reduceSub, Nat.reduceEqDiff, Nat.reduceLeDiff, Nat.reduceLT, List.take_succ_cons, List.take_zero, List.drop_succ_cons, List.cons_append]
            exact ⟨_, _, ⟨rfl, rfl⟩, _, rfl, fil0R, (Hop.set h id ts e _).trans q2, q3⟩
        · rw [if_pos he] at hp
          cases hp
          have f1 : decide ((er : Int) = 0) = false := decide_eq_false (by omega)
          simp only [y1, y2, y3, w1, y4, f1, Int.cast_ofNat_Int, go_sem, ne_eq, not_false_eq_true, reduceIte, Nat.reduceMul, Nat.reduceAdd, Nat.reduceSub, Nat.reduceEqDiff, Nat.reduceLeDiff, Nat.reduceLT, List.take_succ_cons, List.take_zero, List.drop_succ_cons, List.cons_append]
          exact ⟨_, _, ⟨rfl, rfl⟩, _, rfl, fil0R, (Hop.set h id ts e _).trans q2, q3⟩
    | false =>
      rw [hT, cond_false] at y3
      rw [if_neg (by rw [hT]; decide)] at hp
      have k1 := kd (tokAt ts e a).kind 1
      simp only [Int.cast_ofNat_Int] at k1
      by_cases hk : (tokAt ts e a).kind = 1
      · have k2 : decide ((tokAt ts e a).kind = 1) = true := decide_eq_true hk
        rw [if_neg (Decidable.not_not.2 hk)] at hp
        cases hp1 : P ts e N (.word d) a with
        | none => rw [hp1] at hp; cases hp
        | some r1 =>
          rw [hp1, Option.bind_some] at hp
          obtain ⟨c, h', y4, q1, q2, q3⟩ := call_one hw hd hk ho hp1
          replace y4 : YN ts e id N 97 _ _ = _ := y4
          obtain ⟨f1, er, a1⟩ := r1
          simp only at hp q3 y4 q1
          cases q1 with | mk k nm tx kids xs n tk hn hx =>
          by_cases he : er = 0
          · subst he
            rw [if_neg (by simp)] at hp
            cases hp
            simp only [y1, y2, y3, k1, k2, y4, Int.cast_ofNat_Int, go_sem, ne_eq, not_false_eq_true, reduceIte, Nat.reduceMul, Nat.reduceAdd, Nat.reduceSub, Nat.reduceEqDiff, Nat.reduceLeDiff, Nat.reduceLT, List.take_succ_cons, List.take_zero, List.drop_succ_cons, List.cons_append]
            exact ⟨_, _, ⟨rfl, rfl⟩, _, rfl, .mk k nm tx kids xs n tk hn hx, q2, q3⟩
          · rw [if_pos he] at hp
            cases hp
            have f1 : decide ((er : Int) = 0) = false := decide_eq_false (by omega)
            simp only [y1, y2, y3, k1, k2, y4, f1, Int.cast_ofNat_Int, go_sem, ne_eq, not_false_eq_true, reduceIte, Nat.reduceMul, Nat.reduceAdd, Nat.reduceSub, Nat.reduceEqDiff, Nat.reduceLeDiff, Nat.reduceLT, List.take_succ_cons, List.take_zero, List.drop_succ_cons, List.cons_append]
            exact ⟨_, _, ⟨rfl, rfl⟩, _, rfl, fil0R, q2, q3⟩
      · have k2 : decide ((tokAt ts e a).kind = 1) = false := decide_eq_false hk
        rw [if_pos hk] at hp
        cases hp
        have f1 : decide ((192 : Int) = 0) = false := by decide
        simp only [y1, y2, y3, k1, k2, f1, go_sem, ne_eq, not_false_eq_true, reduceIte, Nat.reduceMul, Nat.reduceAdd, Nat.reduceSub, Nat.reduceEqDiff, Nat.reduceLeDiff, Nat.reduceLT, List.take_succ_cons, List.take_zero, List.drop_succ_cons, List.cons_append]
        exact ⟨_, _, ⟨rfl, rfl⟩, _, rfl, fil0R, Hop.refl _ _, ho⟩
end
end Go.Proofs.YtbhclhgljnoioaaDoor
