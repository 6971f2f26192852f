/- lang: the parser walked, whole. -/
import Derived.Test.YtbhclhgljnoioaaDoorPs5
set_option linter.unusedSimpArgs false
set_option linter.unusedVariables false
namespace Go.Proofs.YtbhclhgljnoioaaDoor
open Ai
section
variable {ts : List Tok} {e id N : Nat}
def K49_1 : List Fr := [.blk 0,
  .seq (.seq (.reg [⟨some 70, .load true 4 (.t 12), none⟩,
       ⟨none, .store 4 (.t 6) (.t 70), none⟩,
       ⟨some 7, .mov (.k (.i .i64 0)), none⟩])
    .ret)]
theorem UH49_1 {xf : FuncId → List V → Option V} {xh : FuncId → List V → H → Option (V × H)} {kz : Nat → List Nat} {k : List Fr} {st : St} {Q : AEx → St → Prop} : Hp.M xf xh kz (.code L49_1) k st Q = Hp.M xf xh kz (.code (.seq (.seq (.reg [⟨some 47, .mov (.t 0), none⟩,
      ⟨some 48, .mov (.t 8), none⟩,
      ⟨some 49, .call false 73 [(.t 47), (.t 48)], none⟩])
   (.cond (.t 49)
    .skip
    (.exit 0)))
  (.blk 1 (.seq (.reg [⟨some 50, .mov (.t 0), none⟩,
      ⟨some 51, .call false 24 [(.t 50)], none⟩])
   (.seq (.seq (.reg [⟨some 53, .mov (.t 0), none⟩,
       ⟨some 54, .mov (.t 1), none⟩,
       ⟨some 55, .bin .add (.t 54) (.k (.i .i64 1)), none⟩,
       ⟨some 56, .mov (.t 2), none⟩,
       ⟨some 57, .call false 49 [(.t 53), (.t 55), (.t 56)], none⟩,
       ⟨some 52, .mov (.t 57), none⟩,
       ⟨some 58, .ext (.t 52) 0, none⟩,
       ⟨some 59, .ext (.t 52) 1, none⟩,
       ⟨none, .store 4 (.t 10) (.t 58), none⟩,
       ⟨some 11, .mov (.t 59), none⟩])
    (.seq (.reg [⟨some 60, .mov (.t 11), none⟩,
       ⟨some 61, .bin .neq (.t 60) (.k (.i .i64 0)), none⟩])
    (.cond (.t 61)
     (.seq (.reg [⟨some 62, .load true 4 (.t 10), none⟩,
        ⟨some 63, .mov (.t 11), none⟩,
        ⟨none, .store 4 (.t 6) (.t 62), none⟩,
        ⟨some 7, .mov (.t 63), none⟩])
     .ret)
     .skip)))
   (.reg [⟨some 64, .faddr 3 (.t 12), none⟩,
     ⟨some 65, .load false 1 (.t 64), none⟩,
     ⟨some 66, .load true 4 (.t 10), none⟩,
     ⟨some 67, .bslice false 27 4 1 [(.i .i64 0), (.s []), (.s []), (.sl [] 0 .nil)] [(0, (.t 66))], none⟩,
     ⟨some 68, .app 27 4 (.t 65) (.t 67), none⟩,
     ⟨some 69, .faddr 3 (.t 12), none⟩,
     ⟨none, .store 1 (.t 69) (.t 68), none⟩])))))) k st Q := rfl
theorem UH49 {xf : FuncId → List V → Option V} {xh : FuncId → List V → H → Option (V × H)} {kz : Nat → List Nat} {k : List Fr} {st : St} {Q : AEx → St → Prop} : Hp.M xf xh kz (.code B49) k st Q = Hp.M xf xh kz (.code (.seq (.reg [⟨some 6, .lalloc [(.i .i64 0), (.s []), (.s []), (.sl [] 0 .nil)] [6], none⟩,
     ⟨some 7, .mov (.k (.i .i64 0)), none⟩])
  (.seq (.seq (.reg [⟨some 13, .mov (.t 2), none⟩,
      ⟨some 14, .bin .gtr (.t 13) (.k (.i .i64 40)), none⟩])
   (.cond (.t 14)
    (.seq (.reg [⟨some 15, .build [(.i .i64 0), (.s []), (.s []), (.sl [] 0 .nil)] [], none⟩,
       ⟨none, .store 4 (.t 6) (.t 15), none⟩,
       ⟨some 7, .mov (.k (.i .i64 51)), none⟩])
    .ret)
    .skip))
  (.seq (.seq (.reg [⟨some 16, .mov (.t 1), none⟩,
      ⟨some 17, .bin .gtr (.t 16) (.k (.i .i64 2)), none⟩])
   (.cond (.t 17)
    (.seq (.reg [⟨some 18, .mov (.t 0), none⟩,
       ⟨some 19, .mov (.t 2), none⟩,
       ⟨some 20, .call false 72 [(.t 18), (.t 19)], none⟩,
       ⟨some 21, .ext (.t 20) 0, none⟩,
       ⟨some 22, .ext (.t 20) 1, none⟩,
       ⟨none, .store 4 (.t 6) (.t 21), none⟩,
       ⟨some 7, .mov (.t 22), none⟩])
    .ret)
    .skip))
  (.seq (.reg [⟨some 8, .mov (.k (.s [111, 114])), none⟩,
     ⟨some 9, .mov (.k (.i .i64 6)), none⟩])
  (.seq (.seq (.reg [⟨some 23, .mov (.t 1), none⟩,
      ⟨some 24, .bin .eql (.t 23) (.k (.i .i64 2)), none⟩])
   (.cond (.t 24)
    (.reg [⟨some 8, .mov (.k (.s [97, 110, 100])), none⟩,
      ⟨some 9, .mov (.k (.i .i64 5)), none⟩])
    .skip))
  (.seq (.reg [⟨some 26, .mov (.t 0), none⟩,
     ⟨some 27, .mov (.t 1), none⟩,
     ⟨some 28, .bin .add (.t 27) (.k (.i .i64 1)), none⟩,
     ⟨some 29, .mov (.t 2), none⟩,
     ⟨some 30, .call false 49 [(.t 26), (.t 28), (.t 29)], none⟩,
     ⟨some 25, .mov (.t 30), none⟩,
     ⟨some 31, .ext (.t 25) 0, none⟩,
     ⟨some 32, .ext (.t 25) 1, none⟩,
     ⟨some 10, .lalloc [(.i .i64 0), (.s []), (.s []), (.sl [] 0 .nil)] [10], none⟩,
     ⟨none, .store 4 (.t 10) (.t 31), none⟩,
     ⟨some 11, .mov (.t 32), none⟩])
  (.seq (.seq (.reg [⟨some 33, .mov (.t 11), none⟩,
      ⟨some 34, .bin .neq (.t 33) (.k (.i .i64 0)), none⟩,
      ⟨some 35, .mov (.t 34), none⟩,
      ⟨some 36, .mov (.t 0), some (35, false)⟩,
      ⟨some 37, .mov (.t 8), some (35, false)⟩,
      ⟨some 38, .call false 73 [(.t 36), (.t 37)], some (35, false)⟩,
      ⟨some 39, .un .not (.t 38), some (35, false)⟩,
      ⟨some 40, .pick (.t 35) (.k (.b true)) (.t 39), none⟩])
   (.cond (.t 40)
    (.seq (.reg [⟨some 41, .load true 4 (.t 10), none⟩,
       ⟨some 42, .mov (.t 11), none⟩,
       ⟨none, .store 4 (.t 6) (.t 41), none⟩,
       ⟨some 7, .mov (.t 42), none⟩])
    .ret)
    .skip))
  (.seq (.reg [⟨some 43, .mov (.t 9), none⟩,
     ⟨some 44, .load true 4 (.t 10), none⟩,
     ⟨some 45, .bslice false 27 4 1 [(.i .i64 0), (.s []), (.s []), (.sl [] 0 .nil)] [(0, (.t 44))], none⟩,
     ⟨some 46, .build [(.i .i64 0), (.s []), (.s []), (.sl [] 0 .nil)] [(0, 1, (.t 43)), (3, 1, (.t 45))], none⟩,
     ⟨some 12, .lalloc [(.i .i64 0), (.s []), (.s []), (.sl [] 0 .nil)] [12, 64, 69], none⟩,
     ⟨none, .store 4 (.t 12) (.t 46), none⟩])
  (.seq (.blk 0 (.loop L49_1))
  (.seq (.reg [⟨some 70, .load true 4 (.t 12), none⟩,
     ⟨none, .store 4 (.t 6) (.t 70), none⟩,
     ⟨some 7, .mov (.k (.i .i64 0)), none⟩])
  .ret))))))))))) k st Q := rfl
def kz49 (_ : Nat) : List Nat := [3, 4, 5, 7, 9, 11, 13, 14, 15, 16, 17, 18, 19, 20, 21, 22, 23, 24, 25, 26, 27, 28, 29, 30, 31, 32, 33, 34, 35, 36, 37, 38, 39, 40, 41, 42, 43, 44, 45, 46, 47, 48, 49, 50, 51, 52, 53, 54, 55, 56, 57, 58, 59, 60, 61, 62, 63, 64, 65, 66, 67, 68, 69, 70]
theorem w_more (hps : S_parse ts e id N) (b d : Nat) (hb : 1 ≤ b ∧ b ≤ 2) (hd : d ≤ 41) (h0 : H) : ∀ (n : Nat) (acc : List Fil) (xs : List V) (m : Nat) (tk : Tk) (a : Nat) (h : H) (c10 : List V) (r : PR), c10.length = 4 → n ≤ N → P ts e n (.more b d acc) a = some r → SO h id ts e a → Hop h0 h id → KidsR acc xs → m = acc.length → TkG h0 h m tk → m ≤ a + 1 →
    Hp.M noX (YN ts e id N) (kz49) (.code L49_1) (.loop L49_1 :: K49_1) ⟨gl0, (.node (.node (.node (.node (.node (.node (.node .leaf .any .leaf) .any (.node .leaf .any .leaf)) .any (.node (.node .leaf .any .leaf) .any (.node .leaf .any .leaf))) .any (.node (.node (.node .leaf .any .leaf) .any (.node .leaf .any .leaf)) .any (.node (.node .leaf .any .leaf) .any (.node .leaf .any .leaf)))) .any (.node (.node (.node (.node .leaf .any .leaf) .any (.node .leaf .any .leaf)) .any (.node (.node .leaf .any .leaf) .any (.node .leaf .any .leaf))) .any (.node (.node (.node .leaf .any .leaf) .any (.node .leaf .any .leaf)) .any (.node (.node .leaf .any .leaf) .any (.node .leaf .any .leaf))))) (.i .i64 (b : Nat)) (.node (.node (.node (.node (.node .leaf .any .leaf) .any (.node .leaf .any .leaf)) .any (.node (.node .leaf .any .leaf) .any (.node .leaf .any .leaf))) .any (.node (.node (.node .leaf .any .leaf) .any (.node .leaf .any .leaf)) .any (.node (.node .leaf .any .leaf) .any (.node .leaf .any .leaf)))) .any (.node (.node (.node (.node .leaf .any .leaf) .any (.node .leaf .any .leaf)) .any (.node (.node .leaf .any .leaf) .any (.node .leaf .any .leaf))) .any (.node (.node (.node .leaf .any .leaf) .any (.node .leaf .any .leaf)) .any (.node (.node .leaf .any .leaf) .any (.node .leaf .any .leaf)))))) (.p id 0) (.node (.node (.node (.node (.node (.node .leaf .any .leaf) .any (.node .leaf .any .leaf)) .any (.node (.node .leaf .any .leaf) .any (.node .leaf .any .leaf))) (.s (wordOf b)) (.node (.node (.node .leaf .any .leaf) .any (.node .leaf .any .leaf)) .any (.node (.node .leaf .any .leaf) .any (.node .leaf .any .leaf)))) .any (.node (.node (.node (.node .leaf .any .leaf) .any (.node .leaf .any .leaf)) .any (.node (.node .leaf .any .leaf) .any (.node .leaf .any .leaf))) (.l 12 0) (.node (.node (.node .leaf .any .leaf) .any (.node .leaf .any .leaf)) .any (.node (.node .leaf .any .leaf) .any (.node .leaf .any .leaf))))) (.i .i64 (d : Nat)) (.node (.node (.node (.node (.node .leaf .any .leaf) .any (.node .leaf .any .leaf)) .any (.node (.node .leaf .any .leaf) .any (.node .leaf .any .leaf))) (.l 10 0) (.node (.node (.node .leaf .any .leaf) .any (.node .leaf .any .leaf)) .any (.node (.node .leaf .any .leaf) .any (.node .leaf .any .leaf)))) (.l 6 0) (.node (.node (.node (.node .leaf .any .leaf) .any (.node .leaf .any .leaf)) .any (.node (.node .leaf .any .leaf) .any (.node .leaf .any .leaf))) .any (.node (.node (.node .leaf .any .leaf) .any (.node .leaf .any .leaf)) .any (.node (.node .leaf .any .leaf) .any (.node .leaf .any .leaf))))))), [], [(6, [.i .i64 0, .s [], .s [], .sl [] 0 .nil]), (10, c10), (12, [.i .i64 (kindOf b), .s [], .s [], .sl xs m tk])], h⟩
      (fun ex st => ∃ v h', Hp.FinI [.cell 6 true 4, .tmp 7] v h' ex st ∧ Res ts e id h0 v h' r) := by
  intro n
  induction n with
  | zero => intro acc xs m tk a h c10 r _ _ hp; cases hp
  | succ n ih =>
    intro acc xs m tk a h c10 r hc10 hn hp ho hop hkd hm htk hma
    replace hp : pstep ts e (P ts e n) (.more b d acc) a = some r := hp
    simp only [pstep] at hp
    rw [UH49_1]
    have y3 := y_joins (N := N) ho (wordOf b)
    cases hW : isW ts e a (wordOf b) with
    | false =>
      rw [if_pos hW] at hp
      cases hp
      rw [hW] at y3
      simp only [y3, K49_1, Int.cast_ofNat_Int, go_sem, ne_eq, not_false_eq_true, reduceIte, Nat.reduceMul, Nat.reduceAdd, Nat.reduceSub, Nat.reduceEqDiff, Nat.reduceLeDiff, Nat.reduceLT, List.take_succ_cons, List.take_zero, List.drop_succ_cons, List.cons_append]
      exact ⟨_, _, ⟨rfl, rfl⟩, _, rfl, .mk _ _ _ _ _ _ _ hm hkd, hop, ho⟩
    | true =>
      rw [hW] at y3
      rw [if_neg (by rw [hW]; decide)] at hp
      have hl := isW_lt hW
      have y1 := y_take (N := N) ho hl
      have ho1 := ho.set (b := a + 1) (by omega)
      cases hp1 : P ts e n (.parse (b + 1) d) (a + 1) with
      | none => rw [hp1] at hp; cases hp
      | some r1 =>
        rw [hp1, Option.bind_some] at hp
        have hle := P_le ho1.2.1 (by simp only; omega) hp1
        obtain ⟨c, h', y4, q1, q2, q3⟩ := call_parse hps (by omega) (by omega) hd ho1 (P_mono (by omega) hp1)
        obtain ⟨f1, er, a1⟩ := r1
        simp only at hp q3 y4 q1 hle
        have w1 : wr .i64 ((b : Int) + 1) = ((b + 1 : Nat) : Int) := by rw [wr64] <;> omega
        have q1' := q1
        cases q1 with | mk k1 nm tx kids xs1 n1 tk1 hn1 hx1 =>
        obtain ⟨v0, v1, v2, v3, rfl⟩ : ∃ v0 v1 v2 v3, c10 = [v0, v1, v2, v3] := by
          match c10, hc10 with
          | [v0, v1, v2, v3], _ => exact ⟨_, _, _, _, rfl⟩
        by_cases he : er = 0
        · subst he
          rw [if_neg (by simp)] at hp
          have hml : m + 1 ≤ most := by have := ho.2.2.1; have := ho.2.1; unfold most; omega
          obtain ⟨nx, obs, nt, tips⟩ := h'
          have hxl := hkd.len
          rw [← hm] at hxl
          have hop2 := hop.trans ((Hop.set h id ts e (a + 1)).trans q2)
          obtain ⟨tk', nt', tips', hap, g1, g2⟩ := app_tk (htk.hop ((Hop.set h id ts e (a + 1)).trans q2)) hxl (c := [.i .i64 k1, .s nm, .s tx, .sl xs1 n1 tk1]) rfl rfl hml hop2
          have ho2 : SO ⟨nx, obs, nt', tips'⟩ id ts e a1 := q3.objs rfl
          have hkd2 := hkd.app q1'
          have := ih _ (xs ++ [.i .i64 k1, .s nm, .s tx, .sl xs1 n1 tk1]) (m + 1) tk' a1 ⟨nx, obs, nt', tips'⟩ [.i .i64 k1, .s nm, .s tx, .sl xs1 n1 tk1] r rfl (by omega) hp ho2 g2 hkd2 (by rw [hm]; simp) g1 (by omega)
          simp only [y3, y1, w1, y4, hap, splice, Int.cast_ofNat_Int, go_sem, ne_eq, not_false_eq_true, reduceIte, Nat.reduceMul, Nat.reduceAdd, Nat.reduceSub, Nat.reduceEqDiff, Nat.reduceLeDiff, Nat.reduceLT, List.take_succ_cons, List.take_zero, List.drop_succ_cons, List.cons_append]
          rw [Hp.M_loop]
          simp only [kz49, K49_1, List.length_cons, List.length_nil, go_sem, ne_eq, not_false_eq_true, reduceIte, Nat.reduceMul, Nat.reduceAdd, Nat.reduceSub, Nat.reduceEqDiff, Nat.reduceLeDiff, Nat.reduceLT, List.take_succ_cons, List.take_zero, List.drop_succ_cons, List.cons_append] at this ⊢
          exact this
        · rw [if_pos he] at hp
          cases hp
          have f1 : decide ((er : Int) = 0) = false := decide_eq_false (by omega)
          simp only [y3, y1, w1, y4, f1, splice, K49_1, go_sem, ne_eq, not_false_eq_true, reduceIte, Nat.reduceMul, Nat.reduceAdd, Nat.reduceSub, Nat.reduceEqDiff, Nat.reduceLeDiff, Nat.reduceLT, List.take_succ_cons, List.take_zero, List.drop_succ_cons, List.cons_append]
          exact ⟨_, _, ⟨rfl, rfl⟩, _, rfl, q1', hop.trans ((Hop.set h id ts e (a + 1)).trans q2), q3⟩
theorem s_parse (hps : S_parse ts e id N) (hu : S_one ts e id N 72 .unary (fun _ => True)) : S_parse ts e id (N + 1) := by
  intro b d a r h hb1 hb2 hd ho hp
  replace hp : pstep ts e (P ts e N) (.parse b d) a = some r := hp
  simp only [pstep] at hp
  refine compI_ex (xf := noX) (kz := kz49) (fn := af49) tells_noX (t_YN ts e id N) rfl (Nat.le_of_ble_eq_true rfl) ?_
  show Hp.M _ _ _ (.code B49) _ (St.init gl0 7 _ _) (fun ex st => ∃ v h', Hp.FinI [.cell 6 true 4, .tmp 7] v h' ex st ∧ _)
  rw [UH49]
  by_cases hd2 : 40 < d
  · rw [if_pos hd2] at hp
    cases hp
    have e1 : decide ((40 : Int) < (d : Int)) = true := decide_eq_true (by omega)
    simp only [e1, Int.cast_ofNat_Int, go_sem, ne_eq, not_false_eq_true, reduceIte, Nat.reduceMul, Nat.reduceAdd, Nat.reduceSub, Nat.reduceEqDiff, Nat.reduceLeDiff, Nat.reduceLT, List.take_succ_cons, List.take_zero, List.drop_succ_cons, List.cons_append]
    exact ⟨_, _, ⟨rfl, rfl⟩, _, rfl, fil0R, Hop.refl _ _, ho⟩
  · rw [if_neg hd2] at hp
    have e1 : decide ((40 : Int) < (d : Int)) = false := decide_eq_false (by omega)
    by_cases hb3 : 2 < b
    · rw [if_pos hb3] at hp
      have e2 : decide ((2 : Int) < (b : Int)) = true := decide_eq_true (by omega)
      obtain ⟨c, h', y4, q1, q2, q3⟩ := call_one hu (by omega) trivial ho hp
      replace y4 : YN ts e id N 72 _ _ = _ := y4
      obtain ⟨f1, er, a1⟩ := r
      simp only at q3 y4 q1
      have q1' := q1
      cases q1 with | mk k nm tx kids xs n tk hn hx =>
      simp only [e1, e2, y4, go_sem, ne_eq, not_false_eq_true, reduceIte, Nat.reduceMul, Nat.reduceAdd, Nat.reduceSub, Nat.reduceEqDiff, Nat.reduceLeDiff, Nat.reduceLT, List.take_succ_cons, List.take_zero, List.drop_succ_cons, List.cons_append]
      exact ⟨_, _, ⟨rfl, rfl⟩, _, rfl, q1', q2, q3⟩
    · rw [if_neg hb3] at hp
      have e2 : decide ((2 : Int) < (b : Int)) = false := decide_eq_false (by omega)
      have w1 : wr .i64 ((b : Int) + 1) = ((b + 1 : Nat) : Int) := by rw [wr64] <;> omega
      cases hp1 : P ts e N (.parse (b + 1) d) a with
      | none => rw [hp1] at hp; cases hp
      | some r1 =>
        rw [hp1, Option.bind_some] at hp
        obtain ⟨c, h', y4, q1, q2, q3⟩ := call_parse hps (by omega) (by omega) hd ho hp1
        obtain ⟨f1, er, a1⟩ := r1
        simp only at hp q3 y4 q1
        have q1' := q1
        cases q1 with | mk k1 nm tx kids xs1 n1 tk1 hn1 hx1 =>
        have y3 := y_joins (N := N) q3 (wordOf b)
        by_cases he : er = 0
        · subst he
          cases hW : isW ts e a1 (wordOf b) with
          | false =>
            rw [if_pos (.inr hW)] at hp
            cases hp
            rw [hW] at y3
            rcases (by omega : b = 1 ∨ b = 2) with rfl | rfl
            · replace y3 : YN ts e id N 73 [.p id 0, .s [111, 114]] h' = _ := y3
              simp only [Nat.reduceAdd, Int.cast_ofNat_Int] at e2 w1 y4
              have e3 : decide ((1 : Int) = 2) = false := by decide
              simp only [e1, e2, e3, w1, y4, y3, Int.cast_ofNat_Int, go_sem, ne_eq, not_false_eq_true, reduceIte, Nat.reduceMul, Nat.reduceAdd, Nat.reduceSub, Nat.reduceEqDiff, Nat.reduceLeDiff, Nat.reduceLT, List.take_succ_cons, List.take_zero, List.drop_succ_cons, List.cons_append]
              exact ⟨_, _, ⟨rfl, rfl⟩, _, rfl, q1', q2, q3⟩
            · replace y3 : YN ts e id N 73 [.p id 0, .s [97, 110, 100]] h' = _ := y3
              simp only [Nat.reduceAdd, Int.cast_ofNat_Int] at e2 w1 y4
              simp only [e1, e2, w1, y4, y3, Int.cast_ofNat_Int, go_sem, ne_eq, not_false_eq_true, reduceIte, Nat.reduceMul, Nat.reduceAdd, Nat.reduceSub, Nat.reduceEqDiff, Nat.reduceLeDiff, Nat.reduceLT, List.take_succ_cons, List.take_zero, List.drop_succ_cons, List.cons_append]
              exact ⟨_, _, ⟨rfl, rfl⟩, _, rfl, q1', q2, q3⟩
          | true =>
            rw [if_neg (by rw [hW]; simp)] at hp
            rw [hW] at y3
            have := w_more hps b d (by omega) hd h N _ [.i .i64 k1, .s nm, .s tx, .sl xs1 n1 tk1] 1 .full a1 h' [.i .i64 k1, .s nm, .s tx, .sl xs1 n1 tk1] r rfl (Nat.le_refl _) hp q3 q2 (KidsR.one q1') rfl (.inr (.inl rfl)) (by omega)
            rcases (by omega : b = 1 ∨ b = 2) with rfl | rfl
            · replace y3 : YN ts e id N 73 [.p id 0, .s [111, 114]] h' = _ := y3
              simp only [Nat.reduceAdd, Int.cast_ofNat_Int] at e2 w1 y4
              have e3 : decide ((1 : Int) = 2) = false := by decide
              rw [show wordOf 1 = [111, 114] from rfl, show kindOf 1 = 6 from rfl] at this
              simp only [e1, e2, e3, w1, y4, y3, Int.cast_ofNat_Int, go_sem, ne_eq, not_false_eq_true, reduceIte, Nat.reduceMul, Nat.reduceAdd, Nat.reduceSub, Nat.reduceEqDiff, Nat.reduceLeDiff, Nat.reduceLT, List.take_succ_cons, List.take_zero, List.drop_succ_cons, List.cons_append]
              rw [Hp.M_loop]
              simp only [kz49, K49_1, List.length_cons, List.length_nil, Int.cast_ofNat_Int, go_sem, ne_eq, not_false_eq_true, reduceIte, Nat.reduceMul, Nat.reduceAdd, Nat.reduceSub, Nat.reduceEqDiff, Nat.reduceLeDiff, Nat.reduceLT, List.take_succ_cons, List.take_zero, List.drop_succ_cons, List.cons_append] at this ⊢
              exact this
            · replace y3 : YN ts e id N 73 [.p id 0, .s [97, 110, 100]] h' = _ := y3
              simp only [Nat.reduceAdd, Int.cast_ofNat_Int] at e2 w1 y4
              rw [show wordOf 2 = [97, 110, 100] from rfl, show kindOf 2 = 5 from rfl] at this
              simp only [e1, e2, w1, y4, y3, Int.cast_ofNat_Int, go_sem, ne_eq, not_false_eq_true, reduceIte, Nat.reduceMul, Nat.reduceAdd, Nat.reduceSub, Nat.reduceEqDiff, Nat.reduceLeDiff, Nat.reduceLT, List.take_succ_cons, List.take_zero, List.drop_succ_cons, List.cons_append]
              rw [Hp.M_loop]
              simp only [kz49, K49_1, List.length_cons, List.length_nil, Int.cast_ofNat_Int, go_sem, ne_eq, not_false_eq_true, reduceIte, Nat.reduceMul, Nat.reduceAdd, Nat.reduceSub, Nat.reduceEqDiff, Nat.reduceLeDiff, Nat.reduceLT, List.take_succ_cons, List.take_zero, List.drop_succ_cons, List.cons_append] at this ⊢
              exact this
        · rw [if_pos (.inl he)] at hp
          cases hp
          have f1 : decide ((er : Int) = 0) = false := decide_eq_false (by omega)
          rcases (by omega : b = 1 ∨ b = 2) with rfl | rfl
          · simp only [Nat.reduceAdd, Int.cast_ofNat_Int] at e2 w1 y4
            have e3 : decide ((1 : Int) = 2) = false := by decide
            simp only [e1, e2, e3, w1, y4, f1, Int.cast_ofNat_Int, go_sem, ne_eq, not_false_eq_true, reduceIte, Nat.reduceMul, Nat.reduceAdd, Nat.reduceSub, Nat.reduceEqDiff, Nat.reduceLeDiff, Nat.reduceLT, List.take_succ_cons, List.take_zero, List.drop_succ_cons, List.cons_append]
            exact ⟨_, _, ⟨rfl, rfl⟩, _, rfl, q1', q2, q3⟩
          · simp only [Nat.reduceAdd, Int.cast_ofNat_Int] at e2 w1 y4
            simp only [e1, e2, w1, y4, f1, Int.cast_ofNat_Int, go_sem, ne_eq, not_false_eq_true, reduceIte, Nat.reduceMul, Nat.reduceAdd, Nat.reduceSub, Nat.reduceEqDiff, Nat.reduceLeDiff, Nat.reduceLT, List.take_succ_cons, List.take_zero, List.drop_succ_cons, List.cons_append]
            exact ⟨_, _, ⟨rfl, rfl⟩, _, rfl, q1', q2, q3⟩
end
/-- The parser does what the function says. -/
theorem s_all (ts : List Tok) (e id : Nat) : ∀ N, S_parse ts e id N ∧ S_one ts e id N 72 .unary (fun _ => True) ∧ S_one ts e id N 97 .word (fun a => (tokAt ts e a).kind = 1) ∧ S_one ts e id N 114 .nested (fun _ => True) ∧ S_list ts e id N := by
  intro N
  induction N with
  | zero => exact ⟨fun _ _ _ _ _ _ _ _ _ h => (by cases h), fun _ _ _ _ _ _ _ h => (by cases h), fun _ _ _ _ _ _ _ h => (by cases h), fun _ _ _ _ _ _ _ h => (by cases h), fun _ _ _ _ _ _ _ h => (by cases h)⟩
  | succ N ih => exact ⟨s_parse ih.1 ih.2.1, s_unary ih.1 ih.2.2.1, s_word ih.2.2.2.1 ih.2.2.2.2, s_nested ih.2.1, s_list ih.1⟩
end Go.Proofs.YtbhclhgljnoioaaDoor
