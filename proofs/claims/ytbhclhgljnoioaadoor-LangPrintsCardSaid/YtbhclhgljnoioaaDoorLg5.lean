/- strings.Builder: WriteRune, where something is written already. -/
import Derived.Test.YtbhclhgljnoioaaDoorLg4
set_option linter.unusedSimpArgs false
set_option linter.unusedVariables false
namespace Go.Proofs.YtbhclhgljnoioaaDoor
open Ai
/-- The rune's bytes are written behind; the memory with the tokens that nobody uses. -/
def arT (c nt : Nat) (tips : List (Nat × (Nat × TypeId))) : List (Nat × (Nat × TypeId)) := if c < 128 then (nt, (0, 5)) :: tips else (nt + 1, (0, 5)) :: (nt, (0, 5)) :: tips
def arN (c nt : Nat) : Nat := if c < 128 then nt + 1 else nt + 2
open Classical in
noncomputable def H_NA (a : List V) (h : H) : Option (V × H) := match a with
  | [.sl xs n (.own t), .i .i32 (Int.ofNat c)] => if oks c ∧ 128 ≤ c ∧ xs.length = n ∧ n + 4 ≤ most ∧ al h.tips t = some (n, 5) ∧ ¬ h.nt = t then
      some (.sl (xs ++ (enc c).map byteV) (n + (enc c).length) (.own t), ⟨h.next, h.objs, h.nt + 1, (h.nt, (0, 5)) :: alSet h.tips t (n + (enc c).length, 5)⟩) else none
  | _ => none
theorem H_NA1 {xs : List V} {n t c : Nat} {h : H} (hc : oks c ∧ 128 ≤ c ∧ xs.length = n ∧ n + 4 ≤ most ∧ al h.tips t = some (n, 5) ∧ ¬ h.nt = t) :
    H_NA [.sl xs n (.own t), .i .i32 (c : Int)] h = some (.sl (xs ++ (enc c).map byteV) (n + (enc c).length) (.own t), ⟨h.next, h.objs, h.nt + 1, (h.nt, (0, 5)) :: alSet h.tips t (n + (enc c).length, 5)⟩) := if_pos hc
theorem i_NA : ∀ a h v h', H_NA a h = some (v, h') → Hp.CompI tabx told 83 a h v h' := fun a h v h' e => by
  unfold H_NA at e
  split at e
  · rename_i xs n t c
    obtain ⟨nx, obs, nt, tips⟩ := h
    split at e
    · rename_i hc
      obtain ⟨h1, h2, h3, h4, h5, h6⟩ := hc
      cases e
      exact Hp.compI_of tells_noX tells_noY (fn := af83) rfl (Nat.le_of_ble_eq_true rfl) fun gl => w_NA_own nx obs nt tips xs n t c h3 h4 h5 h6 h1 h2 gl
    · cases e
  · cases e
noncomputable def Y_AR := ys [(83, H_NA)]
theorem t_AR : Hp.TellsI tabx told Y_AR := itells_cons i_NA itells_nil

theorem UH63 {xf : FuncId → List V → Option V} {xh : FuncId → List V → H → Option (V × H)} {kz : Nat → List Nat} {k : List Fr} {st : St} {Q : AEx → St → Prop} : Hp.M xf xh kz (.code B63) k st Q = Hp.M xf xh kz (.code (.seq (.reg [⟨some 4, .movnil 5, none⟩])
  (.seq (.seq (.reg [⟨some 5, .mov (.t 1), none⟩,
      ⟨some 6, .conv (.int .u32) (.t 5), none⟩,
      ⟨some 7, .bin .leq (.t 6) (.k (.i .u32 127)), none⟩])
   (.cond (.t 7)
    (.seq (.reg [⟨some 8, .mov (.t 0), none⟩,
       ⟨some 9, .mov (.t 1), none⟩,
       ⟨some 10, .conv (.int .u8) (.t 9), none⟩,
       ⟨some 11, .bslice false 5 1 1 [(.i .u8 0)] [(0, (.t 10))], none⟩,
       ⟨some 12, .app 5 1 (.t 8) (.t 11), none⟩,
       ⟨some 4, .mov (.t 12), none⟩])
    .ret)
    .skip))
  (.seq (.reg [⟨some 13, .mov (.t 0), none⟩,
     ⟨some 14, .mov (.t 1), none⟩,
     ⟨some 15, .call false 83 [(.t 13), (.t 14)], none⟩,
     ⟨some 4, .mov (.t 15), none⟩])
  .ret)))) k st Q := rfl
def kz63 (_ : Nat) : List Nat := []
theorem w_AR_own (nx : Nat) (obs : List (Nat × Ai.Obj)) (nt : Nat) (tips : List (Nat × (Nat × TypeId))) (xs : List V) (n t c : Nat) (hx : xs.length = n) (hm : n + 4 ≤ most) (ht : al tips t = some (n, 5)) (hne : t < nt) (ho : oks c) (gl : Nat → List V) :
    Hp.M noX Y_AR (kz63) (.code B63) [] (St.init gl 5 [.sl xs n (.own t), .i .i32 c] ⟨nx, obs, nt, tips⟩)
      (Hp.FinI [.tmp 4] (.sl (xs ++ (enc c).map byteV) (n + (enc c).length) (.own t)) ⟨nx, obs, arN c nt, arT c nt (alSet tips t (n + (enc c).length, 5))⟩) := by
  rw [UH63]
  have hc2 : c ≤ 1114111 := by unfold oks at ho; omega
  have w0 : wr .u32 (c : Int) = (c : Int) := wru32 (by omega)
  have d1 : decide ((c : Int) ≤ 127) = decide (c < 128) := decide_eq_decide.2 (by omega)
  have hn1 : ¬ nt = t := by omega
  have hn2 : ¬ nt + 1 = t := by omega
  by_cases k : c < 128
  · have e := enc1 k
    have l : (enc c).length = 1 := by have := congrArg List.length e; simpa using this
    have f1 : decide (c < 128) = true := by simpa using k
    have n1 : n + 1 ≤ most := by omega
    have w1 : c % 256 = c := by omega
    rw [e, l, arN, arT, if_pos k, if_pos k]
    simp only [w0, d1, f1, wru8, w1, hx, n1, ht, hn1, go_sem, ne_eq, not_false_eq_true, reduceIte, Nat.reduceMul, Nat.reduceAdd, Nat.reduceSub, Nat.reduceEqDiff, Nat.reduceLeDiff, Nat.reduceLT, List.take_succ_cons, List.take_zero, List.drop_succ_cons, List.cons_append]
  · have f1 : decide (c < 128) = false := by simpa using k
    have hal : al ((nt, (0, 5)) :: tips) t = some (n, 5) := by simp only [al, nat_beq, hn1, decide_false, cond_false, ht]
    have hset : ∀ m : Nat × TypeId, alSet ((nt, (0, 5)) :: tips) t m = (nt, (0, 5)) :: alSet tips t m := fun m => by simp only [alSet, nat_beq, hn1, decide_false, cond_false]
    have hna := H_NA1 (xs := xs) (n := n) (t := t) (c := c) (h := ⟨nx, obs, nt + 1, (nt, (0, 5)) :: tips⟩) ⟨ho, by omega, hx, hm, hal, hn2⟩
    simp only [hset] at hna
    rw [arN, arT, if_neg k, if_neg k]
    simp only [w0, d1, f1, Y_AR, ys_hit, hna, go_sem, ne_eq, not_false_eq_true, reduceIte, Nat.reduceMul, Nat.reduceAdd, Nat.reduceSub, Nat.reduceEqDiff, Nat.reduceLeDiff, Nat.reduceLT, List.take_succ_cons, List.take_zero, List.drop_succ_cons, List.cons_append]
open Classical in
noncomputable def H_AR (a : List V) (h : H) : Option (V × H) := match a with
  | [.sl xs n (.own t), .i .i32 (Int.ofNat c)] => if oks c ∧ xs.length = n ∧ n + 4 ≤ most ∧ al h.tips t = some (n, 5) ∧ t < h.nt then
      some (.sl (xs ++ (enc c).map byteV) (n + (enc c).length) (.own t), ⟨h.next, h.objs, arN c h.nt, arT c h.nt (alSet h.tips t (n + (enc c).length, 5))⟩) else none
  | _ => none
theorem H_AR1 {xs : List V} {n t c : Nat} {h : H} (hc : oks c ∧ xs.length = n ∧ n + 4 ≤ most ∧ al h.tips t = some (n, 5) ∧ t < h.nt) :
    H_AR [.sl xs n (.own t), .i .i32 (c : Int)] h = some (.sl (xs ++ (enc c).map byteV) (n + (enc c).length) (.own t), ⟨h.next, h.objs, arN c h.nt, arT c h.nt (alSet h.tips t (n + (enc c).length, 5))⟩) := if_pos hc
theorem i_AR : ∀ a h v h', H_AR a h = some (v, h') → Hp.CompI tabx told 63 a h v h' := fun a h v h' e => by
  unfold H_AR at e
  split at e
  · rename_i xs n t c
    obtain ⟨nx, obs, nt, tips⟩ := h
    split at e
    · rename_i hc
      obtain ⟨h1, h3, h4, h5, h6⟩ := hc
      cases e
      exact Hp.compI_of tells_noX t_AR (fn := af63) rfl (Nat.le_of_ble_eq_true rfl) fun gl => w_AR_own nx obs nt tips xs n t c h3 h4 h5 h6 h1 gl
    · cases e
  · cases e

noncomputable def Y_WR := ys [(62, H_cc), (63, H_AR)]
theorem t_WR : Hp.TellsI tabx told Y_WR := itells_cons i_cc (itells_cons i_AR itells_nil)
theorem UH32 {xf : FuncId → List V → Option V} {xh : FuncId → List V → H → Option (V × H)} {kz : Nat → List Nat} {k : List Fr} {st : St} {Q : AEx → St → Prop} : Hp.M xf xh kz (.code B32) k st Q = Hp.M xf xh kz (.code (.seq (.reg [⟨some 4, .mov (.k (.i .i64 0)), none⟩,
     ⟨some 5, .mov (.k .nili), none⟩])
  (.seq (.reg [⟨some 7, .mov (.t 0), none⟩,
     ⟨some 8, .call false 62 [(.t 7)], none⟩])
  (.seq (.reg [⟨some 9, .mov (.t 0), none⟩,
     ⟨some 10, .nilck (.t 9), none⟩,
     ⟨some 11, .faddr 1 (.t 10), none⟩,
     ⟨some 12, .load false 1 (.t 11), none⟩,
     ⟨some 13, .len .slice (.t 12), none⟩,
     ⟨some 6, .mov (.t 13), none⟩])
  (.seq (.reg [⟨some 14, .mov (.t 0), none⟩,
     ⟨some 15, .mov (.t 0), none⟩,
     ⟨some 16, .nilck (.t 15), none⟩,
     ⟨some 17, .faddr 1 (.t 16), none⟩,
     ⟨some 18, .load false 1 (.t 17), none⟩,
     ⟨some 19, .mov (.t 1), none⟩,
     ⟨some 20, .call false 63 [(.t 18), (.t 19)], none⟩,
     ⟨some 21, .nilck (.t 14), none⟩,
     ⟨some 22, .faddr 1 (.t 21), none⟩,
     ⟨none, .store 1 (.t 22) (.t 20), none⟩])
  (.seq (.reg [⟨some 23, .mov (.t 0), none⟩,
     ⟨some 24, .nilck (.t 23), none⟩,
     ⟨some 25, .faddr 1 (.t 24), none⟩,
     ⟨some 26, .load false 1 (.t 25), none⟩,
     ⟨some 27, .len .slice (.t 26), none⟩,
     ⟨some 28, .mov (.t 6), none⟩,
     ⟨some 29, .bin .sub (.t 27) (.t 28), none⟩,
     ⟨some 4, .mov (.t 29), none⟩,
     ⟨some 5, .mov (.k .nili), none⟩])
  .ret)))))) k st Q := rfl
def kz32 (_ : Nat) : List Nat := []
theorem w_WR_own (nx : Nat) (obs : List (Nat × Ai.Obj)) (nt : Nat) (tips : List (Nat × (Nat × TypeId))) (id : Nat) (xs : List V) (n t c : Nat) (hx : xs.length = n) (hm : n + 4 ≤ most) (ht : al tips t = some (n, 5)) (hne : t < nt) (hoc : oks c)
    (ho : al obs id = some (Ai.Obj.cells 57 [.p id 0, .sl xs n (.own t)])) (gl : Nat → List V) :
    Hp.M noX Y_WR (kz32) (.code B32) [] (St.init gl 5 [.p id 0, .i .i32 c] ⟨nx, obs, nt, tips⟩)
      (Hp.FinI [.tmp 4, .tmp 5] (.tup [.i .i64 (enc c).length, .nili]) ⟨nx, alSet obs id (.cells 57 [.p id 0, .sl (xs ++ (enc c).map byteV) (n + (enc c).length) (.own t)]), arN c nt, arT c nt (alSet tips t (n + (enc c).length, 5))⟩) := by
  rw [UH32]
  have har := H_AR1 (xs := xs) (n := n) (t := t) (c := c) (h := ⟨nx, obs, nt, tips⟩) ⟨hoc, hx, hm, ht, hne⟩
  have hel := enc_len c
  have w1 : wr .i64 (((n + (enc c).length : Nat) : Int) - (n : Int)) = ((enc c).length : Int) := by unfold most at hm; rw [wr64] <;> omega
  simp only [Y_WR, ys_hit, ys_miss, H_cc_old _ _ _ _ _ _ ho, ho, har, w1, go_sem, ne_eq, not_false_eq_true, reduceIte, Nat.reduceMul, Nat.reduceAdd, Nat.reduceSub, Nat.reduceEqDiff, Nat.reduceLeDiff, Nat.reduceLT, List.take_succ_cons, List.take_zero, List.drop_succ_cons, List.cons_append]
open Classical in
noncomputable def H_WR (a : List V) (h : H) : Option (V × H) := match a with
  | [.p id 0, .i .i32 (Int.ofNat c)] => if e : oks c ∧ ∃ (bs : List UInt8) (t : Nat), bs.length + 4 ≤ most ∧ al h.objs id = some (Ai.Obj.cells 57 [.p id 0, .sl (bs.map byteV) bs.length (.own t)]) ∧ al h.tips t = some (bs.length, 5) ∧ t < h.nt then
      (let bs := Classical.choose e.2; let t := Classical.choose (Classical.choose_spec e.2)
       some (.tup [.i .i64 (enc c).length, .nili], ⟨h.next, alSet h.objs id (.cells 57 [.p id 0, .sl (bs.map byteV ++ (enc c).map byteV) (bs.length + (enc c).length) (.own t)]), arN c h.nt, arT c h.nt (alSet h.tips t (bs.length + (enc c).length, 5))⟩)) else none
  | _ => none
theorem i_WR : ∀ a h v h', H_WR a h = some (v, h') → Hp.CompI tabx told 32 a h v h' := fun a h v h' e => by
  unfold H_WR at e
  split at e
  · rename_i id c
    obtain ⟨nx, obs, nt, tips⟩ := h
    split at e
    · rename_i hc
      have hs := Classical.choose_spec (Classical.choose_spec hc.2)
      simp only at e hs
      generalize Classical.choose (Classical.choose_spec hc.2) = t at e hs
      generalize Classical.choose hc.2 = bs at e hs
      obtain ⟨h1, h2, h3, h4⟩ := hs
      cases e
      exact Hp.compI_of tells_noX t_WR (fn := af32) rfl (Nat.le_of_ble_eq_true rfl) fun gl => w_WR_own nx obs nt tips id _ _ t c (List.length_map ..) h1 h3 h4 hc.1 h2 gl
    · cases e
  · cases e
theorem arT_al {c nt t : Nat} {tips : List (Nat × (Nat × TypeId))} (h : t < nt) : al (arT c nt tips) t = al tips t := by
  unfold arT
  split
  · simp only [al, nat_beq]; rw [decide_eq_false (by omega)]; rfl
  · simp only [al, nat_beq]; rw [decide_eq_false (by omega), decide_eq_false (by omega)]; rfl
theorem H_WR1 {h : H} {id : Nat} {bs : List UInt8} (hi : BI h id bs) (hb : bs ≠ []) (hm : bs.length + 4 ≤ most) {c : Nat} (ho : oks c) :
    ∃ h', H_WR [.p id 0, .i .i32 (c : Int)] h = some (.tup [.i .i64 (enc c).length, .nili], h') ∧ BI h' id (bs ++ enc c) ∧ h'.next = h.next := by
  rcases hi with ⟨rfl, _⟩ | ⟨t, h1, h2, h3⟩
  · exact absurd rfl hb
  · have e : oks c ∧ ∃ (bs : List UInt8) (t : Nat), bs.length + 4 ≤ most ∧ al h.objs id = some (Ai.Obj.cells 57 [.p id 0, .sl (bs.map byteV) bs.length (.own t)]) ∧ al h.tips t = some (bs.length, 5) ∧ t < h.nt := ⟨ho, bs, t, hm, h1, h2, h3⟩
    have hs := Classical.choose_spec (Classical.choose_spec e.2)
    have hd : H_WR [.p id 0, .i .i32 (c : Int)] h = some (.tup [.i .i64 (enc c).length, .nili], ⟨h.next, alSet h.objs id (.cells 57 [.p id 0, .sl ((Classical.choose e.2).map byteV ++ (enc c).map byteV) ((Classical.choose e.2).length + (enc c).length) (.own (Classical.choose (Classical.choose_spec e.2)))]), arN c h.nt, arT c h.nt (alSet h.tips (Classical.choose (Classical.choose_spec e.2)) ((Classical.choose e.2).length + (enc c).length, 5))⟩) := dif_pos e
    refine ⟨_, hd, ?_, rfl⟩
    generalize Classical.choose (Classical.choose_spec e.2) = u at hs
    generalize Classical.choose e.2 = bs2 at hs
    obtain ⟨g1, g2, g3, g4⟩ := hs
    have : bs2 = bs := bi_uniq (.inr ⟨u, g2, g3, g4⟩ : BI h id bs2) (.inr ⟨t, h1, h2, h3⟩)
    subst this
    refine .inr ⟨u, ?_, ?_, ?_⟩
    · show al (alSet h.objs id _) id = _
      rw [al_alSet, List.map_append, List.length_append]
    · show al (arT c h.nt _) u = _
      rw [arT_al g4, al_alSet, List.length_append]
    · show u < arN c h.nt
      unfold arN
      split <;> omega
end Go.Proofs.YtbhclhgljnoioaaDoor
