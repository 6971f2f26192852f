/- lang: the parser walked: words, lists. -/
import Derived.Test.YtbhclhgljnoioaaDoorPs4
set_option linter.unusedSimpArgs false
set_option linter.unusedVariables false
namespace Go.Proofs.YtbhclhgljnoioaaDoor
open Ai
section
variable {ts : List Tok} {e id N : Nat}
theorem UH97 {xf : FuncId → List V → Option V} {xh : FuncId → List V → H → Option (V × H)} {kz : Nat → List Nat} {k : List Fr} {st : St} {Q : AEx → St → Prop} : Hp.M xf xh kz (.code B97) k st Q = Hp.M xf xh kz (.code (.seq (.reg [⟨some 4, .lalloc [(.i .i64 0), (.s []), (.s []), (.sl [] 0 .nil)] [4], none⟩,
     ⟨some 5, .mov (.k (.i .i64 0)), none⟩])
  (.seq (.seq (.reg [⟨some 10, .mov (.t 0), none⟩,
      ⟨some 11, .call false 23 [(.t 10)], none⟩,
      ⟨some 12, .fld false 1 1 (.t 11), none⟩])
   (.blk 0 (.seq (.reg [⟨some 14, .bin .eql (.t 12) (.k (.s [97, 108, 108])), none⟩,
       ⟨some 13, .mov (.t 14), none⟩])
    (.cond (.t 13)
     (.seq (.reg [⟨some 15, .mov (.t 0), none⟩,
        ⟨some 16, .call false 24 [(.t 15)], none⟩])
     (.seq (.reg [⟨some 17, .build [(.i .i64 0), (.s []), (.s []), (.sl [] 0 .nil)] [], none⟩,
        ⟨none, .store 4 (.t 4) (.t 17), none⟩,
        ⟨some 5, .mov (.k (.i .i64 0)), none⟩])
     .ret))
     (.seq (.reg [⟨some 19, .bin .eql (.t 12) (.k (.s [112, 117, 116])), none⟩,
        ⟨some 18, .mov (.t 19), none⟩])
     (.cond (.t 18)
      (.seq (.reg [⟨some 20, .mov (.t 0), none⟩,
         ⟨some 21, .call false 24 [(.t 20)], none⟩])
      (.seq (.reg [⟨some 22, .build [(.i .i64 0), (.s []), (.s []), (.sl [] 0 .nil)] [(0, 1, (.k (.i .i64 3)))], none⟩,
         ⟨none, .store 4 (.t 4) (.t 22), none⟩,
         ⟨some 5, .mov (.k (.i .i64 0)), none⟩])
      .ret))
      (.seq (.reg [⟨some 24, .bin .eql (.t 12) (.k (.s [110, 111, 116])), none⟩,
         ⟨some 23, .mov (.t 24), none⟩])
      (.cond (.t 23)
       (.seq (.reg [⟨some 25, .mov (.t 0), none⟩,
          ⟨some 26, .call false 24 [(.t 25)], none⟩])
       (.seq (.reg [⟨some 28, .mov (.t 0), none⟩,
          ⟨some 29, .mov (.t 1), none⟩,
          ⟨some 30, .call false 114 [(.t 28), (.t 29)], none⟩,
          ⟨some 27, .mov (.t 30), none⟩,
          ⟨some 31, .ext (.t 27) 0, none⟩,
          ⟨some 32, .ext (.t 27) 1, none⟩,
          ⟨some 6, .lalloc [(.i .i64 0), (.s []), (.s []), (.sl [] 0 .nil)] [6], none⟩,
          ⟨none, .store 4 (.t 6) (.t 31), none⟩,
          ⟨some 7, .mov (.t 32), none⟩])
       (.seq (.reg [⟨some 33, .load true 4 (.t 6), none⟩,
          ⟨some 34, .bslice false 27 4 1 [(.i .i64 0), (.s []), (.s []), (.sl [] 0 .nil)] [(0, (.t 33))], none⟩,
          ⟨some 35, .build [(.i .i64 0), (.s []), (.s []), (.sl [] 0 .nil)] [(0, 1, (.k (.i .i64 4))), (3, 1, (.t 34))], none⟩,
          ⟨some 36, .mov (.t 7), none⟩,
          ⟨none, .store 4 (.t 4) (.t 35), none⟩,
          ⟨some 5, .mov (.t 36), none⟩])
       .ret)))
       (.seq (.reg [⟨some 38, .bin .eql (.t 12) (.k (.s [107, 101, 121])), none⟩,
          ⟨some 37, .mov (.t 38), none⟩])
       (.cond (.t 37)
        (.seq (.reg [⟨some 39, .mov (.t 0), none⟩,
           ⟨some 40, .call false 24 [(.t 39)], none⟩])
        (.seq (.seq (.reg [⟨some 41, .mov (.t 0), none⟩,
            ⟨some 42, .call false 25 [(.t 41), (.k (.i .i64 4)), (.k (.s [94]))], none⟩,
            ⟨some 43, .un .not (.t 42), none⟩])
         (.cond (.t 43)
          (.seq (.reg [⟨some 44, .build [(.i .i64 0), (.s []), (.s []), (.sl [] 0 .nil)] [], none⟩,
             ⟨none, .store 4 (.t 4) (.t 44), none⟩,
             ⟨some 5, .mov (.k (.i .i64 192)), none⟩])
          .ret)
          .skip))
        (.seq (.reg [⟨some 46, .mov (.t 0), none⟩,
           ⟨some 47, .call false 96 [(.t 46)], none⟩,
           ⟨some 45, .mov (.t 47), none⟩,
           ⟨some 48, .ext (.t 45) 0, none⟩,
           ⟨some 49, .ext (.t 45) 1, none⟩,
           ⟨some 8, .mov (.t 48), none⟩,
           ⟨some 9, .mov (.t 49), none⟩])
        (.seq (.reg [⟨some 50, .mov (.t 8), none⟩,
           ⟨some 51, .build [(.i .i64 0), (.s []), (.s []), (.sl [] 0 .nil)] [(0, 1, (.k (.i .i64 1))), (2, 1, (.t 50))], none⟩,
           ⟨some 52, .mov (.t 9), none⟩,
           ⟨none, .store 4 (.t 4) (.t 51), none⟩,
           ⟨some 5, .mov (.t 52), none⟩])
        .ret))))
        (.seq (.reg [⟨some 54, .bin .eql (.t 12) (.k (.s [97, 110, 121])), none⟩,
           ⟨some 53, .mov (.t 54), none⟩])
        (.cond (.t 53)
         (.seq (.reg [⟨some 55, .mov (.t 0), none⟩,
            ⟨some 56, .call false 24 [(.t 55)], none⟩])
         (.seq (.reg [⟨some 57, .mov (.t 0), none⟩,
            ⟨some 58, .mov (.t 1), none⟩,
            ⟨some 59, .call false 115 [(.t 57), (.k (.i .i64 6)), (.t 58)], none⟩,
            ⟨some 60, .ext (.t 59) 0, none⟩,
            ⟨some 61, .ext (.t 59) 1, none⟩,
            ⟨none, .store 4 (.t 4) (.t 60), none⟩,
            ⟨some 5, .mov (.t 61), none⟩])
         .ret))
         (.seq (.reg [⟨some 63, .bin .eql (.t 12) (.k (.s [101, 97, 99, 104])), none⟩,
            ⟨some 62, .mov (.t 63), none⟩])
         (.cond (.t 62)
          (.seq (.reg [⟨some 64, .mov (.t 0), none⟩,
             ⟨some 65, .call false 24 [(.t 64)], none⟩])
          (.seq (.reg [⟨some 66, .mov (.t 0), none⟩,
             ⟨some 67, .mov (.t 1), none⟩,
             ⟨some 68, .call false 115 [(.t 66), (.k (.i .i64 5)), (.t 67)], none⟩,
             ⟨some 69, .ext (.t 68) 0, none⟩,
             ⟨some 70, .ext (.t 68) 1, none⟩,
             ⟨none, .store 4 (.t 4) (.t 69), none⟩,
             ⟨some 5, .mov (.t 70), none⟩])
          .ret))
          .skip))))))))))))))
  (.seq (.reg [⟨some 71, .build [(.i .i64 0), (.s []), (.s []), (.sl [] 0 .nil)] [], none⟩,
     ⟨none, .store 4 (.t 4) (.t 71), none⟩,
     ⟨some 5, .mov (.k (.i .i64 192)), none⟩])
  .ret)))) k st Q := rfl
def kz97 (_ : Nat) : List Nat := []
theorem s_word (hn : S_one ts e id N 114 .nested (fun _ => True)) (hli : S_list ts e id N) : S_one ts e id (N + 1) 97 .word (fun a => (tokAt ts e a).kind = 1) := by
  intro d a r h hd hk ho hp
  replace hp : pstep ts e (P ts e N) (.word d) a = some r := hp
  simp only [pstep] at hp
  have hl := kind_lt1 hk
  refine compI_ex (xf := noX) (kz := kz97) (fn := af97) tells_noX (t_YN ts e id N) rfl (Nat.le_of_ble_eq_true rfl) ?_
  show Hp.M _ _ _ (.code B97) _ (St.init gl0 7 _ _) (fun ex st => ∃ v h', Hp.FinI [.cell 4 true 4, .tmp 5] v h' ex st ∧ _)
  rw [UH97]
  have y1 := y_peek (N := N) ho
  have y2 := y_take (N := N) ho hl
  have ho1 := ho.set (b := a + 1) (by omega)
  have hop := Hop.set h id ts e (a + 1)
  have s1 := strEq_dec (tokAt ts e a).text [97, 108, 108]
  have s2 := strEq_dec (tokAt ts e a).text [112, 117, 116]
  have s3 := strEq_dec (tokAt ts e a).text [110, 111, 116]
  have s4 := strEq_dec (tokAt ts e a).text [107, 101, 121]
  have s5 := strEq_dec (tokAt ts e a).text [97, 110, 121]
  have s6 := strEq_dec (tokAt ts e a).text [101, 97, 99, 104]
  by_cases c1 : (tokAt ts e a).text = [97, 108, 108]
  · rw [decide_eq_true c1] at s1
    rw [if_pos c1] at hp
    cases hp
    simp only [y1, y2, s1, go_sem, ne_eq, not_false_eq_true, reduceIte, Nat.reduceMul, Nat.reduceAdd, Nat.reduceSub, Nat.reduceEqDiff, Nat.reduceLeDiff, Nat.reduceLT, List.take_succ_cons, List.take_zero, List.drop_succ_cons, List.cons_append]
    exact ⟨_, _, ⟨rfl, rfl⟩, _, rfl, fil0R, hop, ho1⟩
  · rw [decide_eq_false c1] at s1
    rw [if_neg c1] at hp
    by_cases c2 : (tokAt ts e a).text = [112, 117, 116]
    · rw [decide_eq_true c2] at s2
      rw [if_pos c2] at hp
      cases hp
      simp only [y1, y2, s1, s2, go_sem, ne_eq, not_false_eq_true, reduceIte, Nat.reduceMul, Nat.reduceAdd, Nat.reduceSub, Nat.reduceEqDiff, Nat.reduceLeDiff, Nat.reduceLT, List.take_succ_cons, List.take_zero, List.drop_succ_cons, List.cons_append]
      exact ⟨_, _, ⟨rfl, rfl⟩, _, rfl, .mk _ _ _ _ _ _ _ rfl .nil, hop, ho1⟩
    · rw [decide_eq_false c2] at s2
      rw [if_neg c2] at hp
      by_cases c3 : (tokAt ts e a).text = [110, 111, 116]
      · rw [decide_eq_true c3] at s3
        rw [if_pos c3] at hp
        cases hp1 : P ts e N (.nested d) (a + 1) with
        | none => rw [hp1] at hp; cases hp
        | some r1 =>
          rw [hp1, Option.bind_some] at hp
          cases hp
          obtain ⟨c, h', y4, q1, q2, q3⟩ := call_one hn hd trivial ho1 hp1
          replace y4 : YN ts e id N 114 _ _ = _ := y4
          obtain ⟨f1, er, a1⟩ := r1
          simp only at q3 y4 q1
          have q1' := q1
          cases q1 with | mk k nm tx kids xs n tk hn hx =>
          simp only [y1, y2, s1, s2, s3, y4, go_sem, ne_eq, not_false_eq_true, reduceIte, Nat.reduceMul, Nat.reduceAdd, Nat.reduceSub, Nat.reduceEqDiff, Nat.reduceLeDiff, Nat.reduceLT, List.take_succ_cons, List.take_zero, List.drop_succ_cons, List.cons_append]
          exact ⟨_, _, ⟨rfl, rfl⟩, _, rfl, .mk _ _ _ _ _ _ _ rfl (KidsR.one q1'), hop.trans q2, q3⟩
      · rw [decide_eq_false c3] at s3
        rw [if_neg c3] at hp
        by_cases c4 : (tokAt ts e a).text = [107, 101, 121]
        · rw [decide_eq_true c4] at s4
          rw [if_pos c4] at hp
          have y3 := y_is (N := N) ho1 [94]
          cases hT : isT ts e (a + 1) [94] with
          | true =>
            rw [hT, cond_true] at y3
            rw [if_pos hT] at hp
            have hl2 := isT_lt hT
            have ho2 := ho1.set (b := a + 1 + 1) (by omega)
            have y5 := y_text (N := N) ho2
            have hop2 := hop.trans (Hop.set (setAt h id ts e (a + 1)) id ts e (a + 1 + 1))
            by_cases hk2 : (tokAt ts e (a + 2)).kind = 2
            · have hk' : (tokAt ts e (a + 1 + 1)).kind = 2 := hk2
              have hl3 := kind_lt hk2
              rw [textV, if_pos hk', if_pos hk'] at y5
              rw [if_pos hk2] at hp
              cases hp
              simp only [y1, y2, s1, s2, s3, s4, y3, y5, go_sem, ne_eq, not_false_eq_true, reduceIte, Nat.reduceMul, Nat.reduceAdd, Nat.reduceSub, Nat.reduceEqDiff, Nat.reduceLeDiff, Nat.reduceLT, List.take_succ_cons, List.take_zero, List.drop_succ_cons, List.cons_append]
              exact ⟨_, _, ⟨rfl, rfl⟩, _, rfl, .mk _ _ _ _ _ _ _ rfl .nil, hop2.trans (Hop.set _ id ts e _), ho2.set (b := a + 1 + 1 + 1) (by omega)⟩
            · have hk' : ¬ (tokAt ts e (a + 1 + 1)).kind = 2 := hk2
              rw [textV, if_neg hk', if_neg hk'] at y5
              rw [if_neg hk2] at hp
              cases hp
              simp only [y1, y2, s1, s2, s3, s4, y3, y5, go_sem, ne_eq, not_false_eq_true, reduceIte, Nat.reduceMul, Nat.reduceAdd, Nat.reduceSub, Nat.reduceEqDiff, Nat.reduceLeDiff, Nat.reduceLT, List.take_succ_cons, List.take_zero, List.drop_succ_cons, List.cons_append]
              exact ⟨_, _, ⟨rfl, rfl⟩, _, rfl, .mk _ _ _ _ _ _ _ rfl .nil, hop2, ho2⟩
          | false =>
            rw [hT, cond_false] at y3
            rw [if_neg (by rw [hT]; decide)] at hp
            cases hp
            simp only [y1, y2, s1, s2, s3, s4, y3, go_sem, ne_eq, not_false_eq_true, reduceIte, Nat.reduceMul, Nat.reduceAdd, Nat.reduceSub, Nat.reduceEqDiff, Nat.reduceLeDiff, Nat.reduceLT, List.take_succ_cons, List.take_zero, List.drop_succ_cons, List.cons_append]
            exact ⟨_, _, ⟨rfl, rfl⟩, _, rfl, fil0R, hop, ho1⟩
        · rw [decide_eq_false c4] at s4
          rw [if_neg c4] at hp
          by_cases c5 : (tokAt ts e a).text = [97, 110, 121]
          · rw [decide_eq_true c5] at s5
            rw [if_pos c5] at hp
            obtain ⟨c, h', y4, q1, q2, q3⟩ := call_list hli hd ho1 hp
            obtain ⟨f1, er, a1⟩ := r
            simp only at q3 y4 q1
            cases q1 with | mk k nm tx kids xs n tk hn hx =>
            simp only [y1, y2, s1, s2, s3, s4, s5, y4, go_sem, ne_eq, not_false_eq_true, reduceIte, Nat.reduceMul, Nat.reduceAdd, Nat.reduceSub, Nat.reduceEqDiff, Nat.reduceLeDiff, Nat.reduceLT, List.take_succ_cons, List.take_zero, List.drop_succ_cons, List.cons_append]
            exact ⟨_, _, ⟨rfl, rfl⟩, _, rfl, .mk _ _ _ _ _ _ _ hn hx, hop.trans q2, q3⟩
          · rw [decide_eq_false c5] at s5
            rw [if_neg c5] at hp
            by_cases c6 : (tokAt ts e a).text = [101, 97, 99, 104]
            · rw [decide_eq_true c6] at s6
              rw [if_pos c6] at hp
              obtain ⟨c, h', y4, q1, q2, q3⟩ := call_list hli hd ho1 hp
              obtain ⟨f1, er, a1⟩ := r
              simp only at q3 y4 q1
              cases q1 with | mk k nm tx kids xs n tk hn hx =>
              simp only [y1, y2, s1, s2, s3, s4, s5, s6, y4, go_sem, ne_eq, not_false_eq_true, reduceIte, Nat.reduceMul, Nat.reduceAdd, Nat.reduceSub, Nat.reduceEqDiff, Nat.reduceLeDiff, Nat.reduceLT, List.take_succ_cons, List.take_zero, List.drop_succ_cons, List.cons_append]
              exact ⟨_, _, ⟨rfl, rfl⟩, _, rfl, .mk _ _ _ _ _ _ _ hn hx, hop.trans q2, q3⟩
            · rw [decide_eq_false c6] at s6
              rw [if_neg c6] at hp
              cases hp
              simp only [y1, y2, s1, s2, s3, s4, s5, s6, go_sem, ne_eq, not_false_eq_true, reduceIte, Nat.reduceMul, Nat.reduceAdd, Nat.reduceSub, Nat.reduceEqDiff, Nat.reduceLeDiff, Nat.reduceLT, List.take_succ_cons, List.take_zero, List.drop_succ_cons, List.cons_append]
              exact ⟨_, _, ⟨rfl, rfl⟩, _, rfl, fil0R, Hop.refl _ _, ho⟩
def K115_1 : List Fr := [.blk 0]
theorem UH115_1 {xf : FuncId → List V → Option V} {xh : FuncId → List V → H → Option (V × H)} {kz : Nat → List Nat} {k : List Fr} {st : St} {Q : AEx → St → Prop} : Hp.M xf xh kz (.code L115_1) k st Q = Hp.M xf xh kz (.code (.blk 1 (.seq (.reg [⟨some 21, .mov (.t 0), none⟩,
      ⟨some 22, .mov (.t 2), none⟩,
      ⟨some 23, .bin .add (.t 22) (.k (.i .i64 1)), none⟩,
      ⟨some 24, .call false 49 [(.t 21), (.k (.i .i64 1)), (.t 23)], none⟩,
      ⟨some 20, .mov (.t 24), none⟩,
      ⟨some 25, .ext (.t 20) 0, none⟩,
      ⟨some 26, .ext (.t 20) 1, none⟩,
      ⟨some 9, .lalloc [(.i .i64 0), (.s []), (.s []), (.sl [] 0 .nil)] [9], none⟩,
      ⟨none, .store 4 (.t 9) (.t 25), none⟩,
      ⟨some 10, .mov (.t 26), none⟩])
   (.seq (.seq (.reg [⟨some 27, .mov (.t 10), none⟩,
       ⟨some 28, .bin .neq (.t 27) (.k (.i .i64 0)), none⟩])
    (.cond (.t 28)
     (.seq (.reg [⟨some 29, .load true 4 (.t 8), none⟩,
        ⟨some 30, .mov (.t 10), none⟩,
        ⟨none, .store 4 (.t 6) (.t 29), none⟩,
        ⟨some 7, .mov (.t 30), none⟩])
     .ret)
     .skip))
   (.seq (.reg [⟨some 31, .faddr 3 (.t 8), none⟩,
      ⟨some 32, .load false 1 (.t 31), none⟩,
      ⟨some 33, .load true 4 (.t 9), none⟩,
      ⟨some 34, .bslice false 27 4 1 [(.i .i64 0), (.s []), (.s []), (.sl [] 0 .nil)] [(0, (.t 33))], none⟩,
      ⟨some 35, .app 27 4 (.t 32) (.t 34), none⟩,
      ⟨some 36, .faddr 3 (.t 8), none⟩,
      ⟨none, .store 1 (.t 36) (.t 35), none⟩])
   (.seq (.seq (.reg [⟨some 37, .mov (.t 0), none⟩,
       ⟨some 38, .call false 25 [(.t 37), (.k (.i .i64 4)), (.k (.s [41]))], none⟩])
    (.cond (.t 38)
     (.seq (.reg [⟨some 39, .load true 4 (.t 8), none⟩,
        ⟨none, .store 4 (.t 6) (.t 39), none⟩,
        ⟨some 7, .mov (.k (.i .i64 0)), none⟩])
     .ret)
     .skip))
   (.seq (.reg [⟨some 40, .mov (.t 0), none⟩,
      ⟨some 41, .call false 25 [(.t 40), (.k (.i .i64 4)), (.k (.s [44]))], none⟩,
      ⟨some 42, .un .not (.t 41), none⟩])
   (.cond (.t 42)
    (.seq (.reg [⟨some 43, .load true 4 (.t 8), none⟩,
       ⟨none, .store 4 (.t 6) (.t 43), none⟩,
       ⟨some 7, .mov (.k (.i .i64 192)), none⟩])
    .ret)
    .skip)))))))) k st Q := rfl
theorem UH115 {xf : FuncId → List V → Option V} {xh : FuncId → List V → H → Option (V × H)} {kz : Nat → List Nat} {k : List Fr} {st : St} {Q : AEx → St → Prop} : Hp.M xf xh kz (.code B115) k st Q = Hp.M xf xh kz (.code (.seq (.reg [⟨some 6, .lalloc [(.i .i64 0), (.s []), (.s []), (.sl [] 0 .nil)] [6], none⟩,
     ⟨some 7, .mov (.k (.i .i64 0)), none⟩])
  (.seq (.reg [⟨some 11, .mov (.t 1), none⟩,
     ⟨some 12, .build [(.i .i64 0), (.s []), (.s []), (.sl [] 0 .nil)] [(0, 1, (.t 11))], none⟩,
     ⟨some 8, .lalloc [(.i .i64 0), (.s []), (.s []), (.sl [] 0 .nil)] [8, 31, 36], none⟩,
     ⟨none, .store 4 (.t 8) (.t 12), none⟩])
  (.seq (.seq (.reg [⟨some 13, .mov (.t 0), none⟩,
      ⟨some 14, .call false 25 [(.t 13), (.k (.i .i64 4)), (.k (.s [40]))], none⟩,
      ⟨some 15, .un .not (.t 14), none⟩])
   (.cond (.t 15)
    (.seq (.reg [⟨some 16, .load true 4 (.t 8), none⟩,
       ⟨none, .store 4 (.t 6) (.t 16), none⟩,
       ⟨some 7, .mov (.k (.i .i64 192)), none⟩])
    .ret)
    .skip))
  (.seq (.seq (.reg [⟨some 17, .mov (.t 0), none⟩,
      ⟨some 18, .call false 25 [(.t 17), (.k (.i .i64 4)), (.k (.s [41]))], none⟩])
   (.cond (.t 18)
    (.seq (.reg [⟨some 19, .load true 4 (.t 8), none⟩,
       ⟨none, .store 4 (.t 6) (.t 19), none⟩,
       ⟨some 7, .mov (.k (.i .i64 0)), none⟩])
    .ret)
    .skip))
  (.blk 0 (.loop L115_1))))))) k st Q := rfl
def kz115 (_ : Nat) : List Nat := [1, 3, 4, 5, 7, 9, 10, 11, 12, 13, 14, 15, 16, 17, 18, 19, 20, 21, 22, 23, 24, 25, 26, 27, 28, 29, 30, 31, 32, 33, 34, 35, 36, 37, 38, 39, 40, 41, 42, 43]
theorem w_items (hps : S_parse ts e id N) (k : Int) (d : Nat) (hd : d ≤ 40) (h0 : H) : ∀ (n : Nat) (acc : List Fil) (xs : List V) (m : Nat) (tk : Tk) (a : Nat) (h : H) (l9 : List (Nat × List V)) (r : PR), n ≤ N → P ts e n (.items k d acc) a = some r → SO h id ts e a → Hop h0 h id → KidsR acc xs → m = acc.length → TkG h0 h m tk → m ≤ a →
    Hp.M noX (YN ts e id N) (kz115) (.code L115_1) (.loop L115_1 :: K115_1) ⟨gl0, (.node (.node (.node (.node (.node (.node .leaf .any .leaf) .any (.node .leaf .any .leaf)) .any (.node (.node .leaf .any .leaf) .any (.node .leaf .any .leaf))) .any (.node (.node (.node .leaf .any .leaf) .any (.node .leaf .any .leaf)) .any (.node (.node .leaf .any .leaf) .any (.node .leaf .any .leaf)))) .any (.node (.node (.node (.node .leaf .any .leaf) .any (.node .leaf .any .leaf)) .any (.node (.node .leaf .any .leaf) .any (.node .leaf .any .leaf))) .any (.node (.node (.node .leaf .any .leaf) .any (.node .leaf .any .leaf)) .any (.node (.node .leaf .any .leaf) .any (.node .leaf .any .leaf))))) (.p id 0) (.node (.node (.node (.node (.node .leaf .any .leaf) .any (.node .leaf .any .leaf)) (.l 8 0) (.node (.node .leaf .any .leaf) .any (.node .leaf .any .leaf))) .any (.node (.node (.node .leaf .any .leaf) .any (.node .leaf .any .leaf)) .any (.node (.node .leaf .any .leaf) .any (.node .leaf .any .leaf)))) (.i .i64 (d : Nat)) (.node (.node (.node (.node .leaf .any .leaf) .any (.node .leaf .any .leaf)) .any (.node (.node .leaf .any .leaf) .any (.node .leaf .any .leaf))) (.l 6 0) (.node (.node (.node .leaf .any .leaf) .any (.node .leaf .any .leaf)) .any (.node (.node .leaf .any .leaf) .any (.node .leaf .any .leaf)))))), [], (6, [.i .i64 0, .s [], .s [], .sl [] 0 .nil]) :: (8, [.i .i64 k, .s [], .s [], .sl xs m tk]) :: l9, h⟩
      (fun ex st => ∃ v h', Hp.FinI [.cell 6 true 4, .tmp 7] v h' ex st ∧ Res ts e id h0 v h' r) := by
  intro n
  induction n with
  | zero => intro acc xs m tk a h l9 r _ hp; cases hp
  | succ n ih =>
    intro acc xs m tk a h l9 r hn hp ho hop hkd hm htk hma
    replace hp : pstep ts e (P ts e n) (.items k d acc) a = some r := hp
    simp only [pstep] at hp
    rw [UH115_1]
    cases hp1 : P ts e n (.parse 1 (d + 1)) a with
    | none => rw [hp1] at hp; cases hp
    | some r1 =>
      rw [hp1, Option.bind_some] at hp
      have hle := P_le ho.2.1 (by simp only; omega) hp1
      obtain ⟨c, h', y4, q1, q2, q3⟩ := call_parse hps (Nat.le_refl _) (by omega) (by omega) ho (P_mono (by omega) hp1)
      obtain ⟨f1, er, a1⟩ := r1
      simp only at hp q3 y4 q1 hle
      have w1 : wr .i64 ((d : Int) + 1) = ((d + 1 : Nat) : Int) := by rw [wr64] <;> omega
      have q1' := q1
      cases q1 with | mk k1 nm tx kids xs1 n1 tk1 hn1 hx1 =>
      simp only [Int.cast_ofNat_Int] at y4
      by_cases he : er = 0
      · subst he
        rw [if_neg (by simp)] at hp
        have hml : m + 1 ≤ most := by have := ho.2.2.1; have := ho.2.1; unfold most; omega
        obtain ⟨nx, obs, nt, tips⟩ := h'
        have hxl := hkd.len
        rw [← hm] at hxl
        obtain ⟨tk', nt', tips', hap, g1, g2⟩ := app_tk (htk.hop q2) hxl (c := [.i .i64 k1, .s nm, .s tx, .sl xs1 n1 tk1]) rfl rfl hml (hop.trans q2)
        have ho2 : SO ⟨nx, obs, nt', tips'⟩ id ts e a1 := q3.objs rfl
        have hkd2 := hkd.app q1'
        have y5 := y_is (N := N) ho2 [41]
        cases hT : isT ts e a1 [41] with
        | true =>
          rw [if_pos hT] at hp
          cases hp
          rw [hT, cond_true] at y5
          have hl2 := isT_lt hT
          simp only [w1, y4, hap, y5, splice, Int.cast_ofNat_Int, K115_1, go_sem, ne_eq, not_false_eq_true, reduceIte, Nat.reduceMul, Nat.reduceAdd, Nat.reduceSub, Nat.reduceEqDiff, Nat.reduceLeDiff, Nat.reduceLT, List.take_succ_cons, List.take_zero, List.drop_succ_cons, List.cons_append]
          exact ⟨_, _, ⟨rfl, rfl⟩, _, rfl, .mk _ _ _ _ _ _ _ (by rw [hm]; simp) hkd2, g2.trans (Hop.set _ id ts e _), ho2.set (b := a1 + 1) (by omega)⟩
        | false =>
          rw [if_neg (by rw [hT]; decide)] at hp
          rw [hT, cond_false] at y5
          have y6 := y_is (N := N) ho2 [44]
          cases hT2 : isT ts e a1 [44] with
          | true =>
            rw [if_pos hT2] at hp
            rw [hT2, cond_true] at y6
            have hl2 := isT_lt hT2
            have := fun l9 => ih _ (xs ++ [.i .i64 k1, .s nm, .s tx, .sl xs1 n1 tk1]) (m + 1) tk' (a1 + 1) (setAt ⟨nx, obs, nt', tips'⟩ id ts e (a1 + 1)) l9 r (by omega) hp (ho2.set (b := a1 + 1) (by omega)) (g2.trans (Hop.set _ id ts e _)) hkd2 (by rw [hm]; simp) (g1.hop (Hop.set _ id ts e _)) (by omega)
            simp only [w1, y4, hap, y5, y6, splice, Int.cast_ofNat_Int, K115_1, go_sem, ne_eq, not_false_eq_true, reduceIte, Nat.reduceMul, Nat.reduceAdd, Nat.reduceSub, Nat.reduceEqDiff, Nat.reduceLeDiff, Nat.reduceLT, List.take_succ_cons, List.take_zero, List.drop_succ_cons, List.cons_append]
            rw [Hp.M_loop]
            simp only [kz115, K115_1, List.length_cons, List.length_nil, go_sem, ne_eq, not_false_eq_true, reduceIte, Nat.reduceMul, Nat.reduceAdd, Nat.reduceSub, Nat.reduceEqDiff, Nat.reduceLeDiff, Nat.reduceLT, List.take_succ_cons, List.take_zero, List.drop_succ_cons, List.cons_append] at this ⊢
            exact this _
          | false =>
            rw [if_neg (by rw [hT2]; decide)] at hp
            cases hp
            rw [hT2, cond_false] at y6
            simp only [w1, y4, hap, y5, y6, splice, Int.cast_ofNat_Int, K115_1, go_sem, ne_eq, not_false_eq_true, reduceIte, Nat.reduceMul, Nat.reduceAdd, Nat.reduceSub, Nat.reduceEqDiff, Nat.reduceLeDiff, Nat.reduceLT, List.take_succ_cons, List.take_zero, List.drop_succ_cons, List.cons_append]
            exact ⟨_, _, ⟨rfl, rfl⟩, _, rfl, .mk _ _ _ _ _ _ _ (by rw [hm]; simp) hkd2, g2, ho2⟩
      · rw [if_pos he] at hp
        cases hp
        have f1 : decide ((er : Int) = 0) = false := decide_eq_false (by omega)
        simp only [w1, y4, f1, K115_1, go_sem, ne_eq, not_false_eq_true, reduceIte, Nat.reduceMul, Nat.reduceAdd, Nat.reduceSub, Nat.reduceEqDiff, Nat.reduceLeDiff, Nat.reduceLT, List.take_succ_cons, List.take_zero, List.drop_succ_cons, List.cons_append]
        exact ⟨_, _, ⟨rfl, rfl⟩, _, rfl, .mk _ _ _ _ _ _ _ hm hkd, hop.trans q2, q3⟩
theorem s_list (hps : S_parse ts e id N) : S_list ts e id (N + 1) := by
  intro k d a r h hd ho hp
  replace hp : pstep ts e (P ts e N) (.list k d) a = some r := hp
  simp only [pstep] at hp
  refine compI_ex (xf := noX) (kz := kz115) (fn := af115) tells_noX (t_YN ts e id N) rfl (Nat.le_of_ble_eq_true rfl) ?_
  show Hp.M _ _ _ (.code B115) _ (St.init gl0 6 _ _) (fun ex st => ∃ v h', Hp.FinI [.cell 6 true 4, .tmp 7] v h' ex st ∧ _)
  rw [UH115]
  have y3 := y_is (N := N) ho [40]
  cases hT : isT ts e a [40] with
  | false =>
    rw [hT, cond_false] at y3
    rw [if_pos hT] at hp
    cases hp
    simp only [y3, go_sem, ne_eq, not_false_eq_true, reduceIte, Nat.reduceMul, Nat.reduceAdd, Nat.reduceSub, Nat.reduceEqDiff, Nat.reduceLeDiff, Nat.reduceLT, List.take_succ_cons, List.take_zero, List.drop_succ_cons, List.cons_append]
    exact ⟨_, _, ⟨rfl, rfl⟩, _, rfl, .mk _ _ _ _ _ _ _ rfl .nil, Hop.refl _ _, ho⟩
  | true =>
    rw [hT, cond_true] at y3
    rw [if_neg (by rw [hT]; decide)] at hp
    have hl := isT_lt hT
    have ho1 := ho.set (b := a + 1) (by omega)
    have hop := Hop.set h id ts e (a + 1)
    have y4 := y_is (N := N) ho1 [41]
    cases hT2 : isT ts e (a + 1) [41] with
    | true =>
      rw [hT2, cond_true] at y4
      rw [if_pos hT2] at hp
      cases hp
      have hl2 := isT_lt hT2
      simp only [y3, y4, go_sem, ne_eq, not_false_eq_true, reduceIte, Nat.reduceMul, Nat.reduceAdd, Nat.reduceSub, Nat.reduceEqDiff, Nat.reduceLeDiff, Nat.reduceLT, List.take_succ_cons, List.take_zero, List.drop_succ_cons, List.cons_append]
      exact ⟨_, _, ⟨rfl, rfl⟩, _, rfl, .mk _ _ _ _ _ _ _ rfl .nil, hop.trans (Hop.set _ id ts e _), ho1.set (b := a + 1 + 1) (by omega)⟩
    | false =>
      rw [hT2, cond_false] at y4
      rw [if_neg (by rw [hT2]; decide)] at hp
      have := w_items hps k d hd h N [] [] 0 .nil (a + 1) (setAt h id ts e (a + 1)) [] r (Nat.le_refl _) hp ho1 hop .nil rfl (.inl rfl) (Nat.zero_le _)
      simp only [y3, y4, go_sem, ne_eq, not_false_eq_true, reduceIte, Nat.reduceMul, Nat.reduceAdd, Nat.reduceSub, Nat.reduceEqDiff, Nat.reduceLeDiff, Nat.reduceLT, List.take_succ_cons, List.take_zero, List.drop_succ_cons, List.cons_append]
      rw [Hp.M_loop]
      simp only [kz115, K115_1, List.length_cons, List.length_nil, go_sem, ne_eq, not_false_eq_true, reduceIte, Nat.reduceMul, Nat.reduceAdd, Nat.reduceSub, Nat.reduceEqDiff, Nat.reduceLeDiff, Nat.reduceLT, List.take_succ_cons, List.take_zero, List.drop_succ_cons, List.cons_append] at this ⊢
      exact this
end
end Go.Proofs.YtbhclhgljnoioaaDoor
