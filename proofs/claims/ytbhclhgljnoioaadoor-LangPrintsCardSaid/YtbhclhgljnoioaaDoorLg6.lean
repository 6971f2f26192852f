/- A text in quotes: the program's way. -/
import Derived.Test.YtbhclhgljnoioaaDoorLg5
set_option linter.unusedSimpArgs false
set_option linter.unusedVariables false
namespace Go.Proofs.YtbhclhgljnoioaaDoor
open Ai
def isS (o : Option V) (l : List UInt8) : Bool := match o with
  | some (.s m) => strEq m l
  | _ => false
theorem isS_spec {o : Option V} {l : List UInt8} (h : isS o l = true) : o = some (.s l) := by
  unfold isS at h
  split at h
  · rw [strEq_iff] at h
    rw [of_decide_eq_true h]
  · cases h
set_option maxRecDepth 100000 in
theorem r_hex : (ctl.all fun c => isS (runF gl0 tabx xf 3000 34 [.i .i64 (c : Int), .i .i64 16]) (hexs c)) = true := by kernel_rfl
set_option maxRecDepth 100000 in
theorem r_rhex : (ctl.all fun c => isS (runF gl0 tabx xf 3000 36 [.i .i32 (c : Int)]) (hexs c)) = true := by kernel_rfl
theorem c_hex {c : Nat} (h : c ∈ ctl) : Comp tabx told 34 [.i .i64 (c : Int), .i .i64 16] (.s (hexs c)) :=
  comp_runF (fun _ _ _ h => h) 3000 fun gl hgl => by
    have : gl = gl0 := hgl
    subst this
    exact isS_spec (List.all_eq_true.1 r_hex c h)
theorem c_rhex {c : Nat} (h : c ∈ ctl) : Comp tabx told 36 [.i .i32 (c : Int)] (.s (hexs c)) :=
  comp_runF (fun _ _ _ h => h) 3000 fun gl hgl => by
    have : gl = gl0 := hgl
    subst this
    exact isS_spec (List.all_eq_true.1 r_rhex c h)
theorem mem_ctl {c : Nat} : c ∈ ctl ↔ c < 32 ∨ c = 127 ∨ c = 65533 := by
  simp only [ctl, List.mem_cons, List.mem_range]
  omega
def F_hex (a : List V) : Option V := match a with
  | [.i .i64 (Int.ofNat c), .i .i64 16] => if c < 32 ∨ c = 127 ∨ c = 65533 then some (.s (hexs c)) else none
  | _ => none
theorem F_hex1 {c : Nat} (h : c < 32 ∨ c = 127 ∨ c = 65533) : F_hex [.i .i64 (c : Int), .i .i64 16] = some (.s (hexs c)) := if_pos h
theorem o_hex : ∀ a v, F_hex a = some v → Comp tabx told 34 a v := fun a v e => by
  unfold F_hex at e
  split at e
  · split at e
    · rename_i h; cases e; exact c_hex (mem_ctl.2 h)
    · cases e
  · cases e
def F_rhex (a : List V) : Option V := match a with
  | [.i .i32 (Int.ofNat c)] => if c < 32 ∨ c = 127 ∨ c = 65533 then some (.s (hexs c)) else none
  | _ => none
theorem F_rhex1 {c : Nat} (h : c < 32 ∨ c = 127 ∨ c = 65533) : F_rhex [.i .i32 (c : Int)] = some (.s (hexs c)) := if_pos h
theorem o_rhex : ∀ a v, F_rhex a = some v → Comp tabx told 36 a v := fun a v e => by
  unfold F_rhex at e
  split at e
  · split at e
    · rename_i h; cases e; exact c_rhex (mem_ctl.2 h)
    · cases e
  · cases e
theorem hexs_len (c : Nat) : 1 ≤ (hexs c).length ∧ (hexs c).length ≤ 4 := by
  unfold hexs
  repeat' split
  all_goals simp
/-- A rune within quotes. -/
def qt (c : Nat) : List UInt8 := if c = 34 ∨ c = 92 then 92 :: enc c else if c < 32 ∨ c = 127 ∨ c = 65533 then [92, 117, 123] ++ hexs c ++ [125] else enc c
theorem qt_len (c : Nat) : (qt c).length ≤ 10 := by
  have h1 := hexs_len c
  have h2 := enc_len c
  unfold qt
  repeat' split
  all_goals (try simp only [List.length_cons, List.length_append, List.length_nil])
  all_goals omega
theorem dec_oks (l : List UInt8) : oks (dec l).1 := by
  unfold dec oks
  simp only
  repeat' split
  all_goals simp_all [Utf8.valid, Utf8.runeError]
  all_goals omega
def X_quote := xs [(34, F_hex)]
theorem t_quote : Tells tabx told X_quote := tells_cons o_hex tells_nil
noncomputable def Y_quote := ys [(31, H_WB), (32, H_WR), (33, H_WS), (35, H_BS)]
theorem u_quote : Hp.TellsI tabx told Y_quote := itells_cons i_WB (itells_cons i_WR (itells_cons i_WS (itells_cons i_BS itells_nil)))

def K12_1 : List Fr := [.blk 0,
  .seq (.seq (.reg [⟨some 41, .call false 31 [(.t 3), (.k (.i .u8 34))], none⟩])
    (.seq (.reg [⟨some 42, .call false 35 [(.t 3)], none⟩,
       ⟨some 2, .mov (.t 42), none⟩])
    .ret))]
theorem UH12_1 {xf : FuncId → List V → Option V} {xh : FuncId → List V → H → Option (V × H)} {kz : Nat → List Nat} {k : List Fr} {st : St} {Q : AEx → St → Prop} : Hp.M xf xh kz (.code L12_1) k st Q = Hp.M xf xh kz (.code (.seq (.reg [⟨some 9, .next 8, none⟩,
     ⟨some 10, .ext (.t 9) 0, none⟩])
  (.seq (.cond (.t 10)
    .skip
    (.exit 0))
  (.blk 1 (.seq (.reg [⟨some 11, .ext (.t 9) 2, none⟩,
      ⟨some 5, .mov (.t 11), none⟩])
   (.blk 2 (.seq (.reg [⟨some 15, .mov (.t 5), none⟩,
       ⟨some 16, .bin .eql (.t 15) (.k (.i .i32 34)), none⟩,
       ⟨some 17, .mov (.t 16), none⟩,
       ⟨some 18, .mov (.t 5), some (17, false)⟩,
       ⟨some 19, .bin .eql (.t 18) (.k (.i .i32 92)), some (17, false)⟩,
       ⟨some 20, .pick (.t 17) (.k (.b true)) (.t 19), none⟩,
       ⟨some 14, .mov (.t 20), none⟩])
    (.cond (.t 14)
     (.seq (.reg [⟨some 21, .call false 31 [(.t 3), (.k (.i .u8 92))], none⟩])
     (.reg [⟨some 22, .mov (.t 5), none⟩,
       ⟨some 23, .call false 32 [(.t 3), (.t 22)], none⟩]))
     (.seq (.reg [⟨some 25, .mov (.t 5), none⟩,
        ⟨some 26, .bin .lss (.t 25) (.k (.i .i32 32)), none⟩,
        ⟨some 27, .mov (.t 26), none⟩,
        ⟨some 28, .mov (.t 5), some (27, false)⟩,
        ⟨some 29, .bin .eql (.t 28) (.k (.i .i32 127)), some (27, false)⟩,
        ⟨some 30, .pick (.t 27) (.k (.b true)) (.t 29), none⟩,
        ⟨some 31, .mov (.t 30), none⟩,
        ⟨some 32, .mov (.t 5), some (31, false)⟩,
        ⟨some 33, .bin .eql (.t 32) (.k (.i .i32 65533)), some (31, false)⟩,
        ⟨some 34, .pick (.t 31) (.k (.b true)) (.t 33), none⟩,
        ⟨some 24, .mov (.t 34), none⟩])
     (.cond (.t 24)
      (.reg [⟨some 35, .mov (.t 5), none⟩,
        ⟨some 36, .conv (.int .i64) (.t 35), none⟩,
        ⟨some 37, .call true 34 [(.t 36), (.k (.i .i64 16))], none⟩,
        ⟨some 38, .bin .add (.k (.s [92, 117, 123])) (.t 37), none⟩,
        ⟨some 39, .bin .add (.t 38) (.k (.s [125])), none⟩,
        ⟨some 40, .call false 33 [(.t 3), (.t 39)], none⟩])
      (.reg [⟨some 12, .mov (.t 5), none⟩,
        ⟨some 13, .call false 32 [(.t 3), (.t 12)], none⟩]))))))))))) k st Q := rfl
theorem UH12 {xf : FuncId → List V → Option V} {xh : FuncId → List V → H → Option (V × H)} {kz : Nat → List Nat} {k : List Fr} {st : St} {Q : AEx → St → Prop} : Hp.M xf xh kz (.code B12) k st Q = Hp.M xf xh kz (.code (.seq (.reg [⟨some 2, .mov (.k (.s [])), none⟩])
  (.seq (.reg [⟨some 3, .alloc 57 [.nilp, (.sl [] 0 .nil)], none⟩])
  (.seq (.reg [⟨some 6, .call false 31 [(.t 3), (.k (.i .u8 34))], none⟩])
  (.seq (.seq (.reg [⟨some 7, .mov (.t 0), none⟩,
      ⟨some 8, .range (.t 7), none⟩])
   (.blk 0 (.loop L12_1)))
  (.seq (.reg [⟨some 41, .call false 31 [(.t 3), (.k (.i .u8 34))], none⟩])
  (.seq (.reg [⟨some 42, .call false 35 [(.t 3)], none⟩,
     ⟨some 2, .mov (.t 42), none⟩])
  .ret))))))) k st Q := rfl
def kz12 (_ : Nat) : List Nat := [0, 1, 2, 4, 5, 6, 7, 9, 10, 11, 12, 13, 14, 15, 16, 17, 18, 19, 20, 21, 22, 23, 24, 25, 26, 27, 28, 29, 30, 31, 32, 33, 34, 35, 36, 37, 38, 39, 40, 41, 42]
theorem w_Quote_loop (gl : Nat → List V) : ∀ (l bs : List UInt8) (h : H) (pos : Nat), BI h 0 bs → bs ≠ [] → bs.length + 10 * l.length + 1 ≤ most →
    Hp.M X_quote Y_quote (kz12) (.code L12_1) (.loop L12_1 :: K12_1) ⟨gl, (.node (.node (.node (.node (.node (.node .leaf .any .leaf) .any (.node .leaf .any .leaf)) .any (.node (.node .leaf .any .leaf) .any (.node .leaf .any .leaf))) (.p 0 0) (.node (.node (.node .leaf .any .leaf) .any (.node .leaf .any .leaf)) .any (.node (.node .leaf .any .leaf) .any (.node .leaf .any .leaf)))) .any (.node (.node (.node (.node .leaf .any .leaf) .any (.node .leaf .any .leaf)) .any (.node (.node .leaf .any .leaf) .any (.node .leaf .any .leaf))) .any (.node (.node (.node .leaf .any .leaf) .any (.node .leaf .any .leaf)) .any (.node (.node .leaf .any .leaf) .any (.node .leaf .any .leaf))))) .any (.node (.node (.node (.node (.node .leaf .any .leaf) .any (.node .leaf .any .leaf)) (.it) (.node (.node .leaf .any .leaf) .any (.node .leaf .any .leaf))) .any (.node (.node (.node .leaf .any .leaf) .any (.node .leaf .any .leaf)) .any (.node (.node .leaf .any .leaf) .any (.node .leaf .any .leaf)))) .any (.node (.node (.node (.node .leaf .any .leaf) .any (.node .leaf .any .leaf)) .any (.node (.node .leaf .any .leaf) .any (.node .leaf .any .leaf))) .any (.node (.node (.node .leaf .any .leaf) .any (.node .leaf .any .leaf)) .any (.node (.node .leaf .any .leaf) .any (.node .leaf .any .leaf)))))), [(8, (l, pos))], [], h⟩
      (Fin [.tmp 2] (.s (bs ++ ((rns l).flatMap qt ++ [34])))) := by
  intro l
  induction l using rune_ind with
  | h0 =>
    intro bs h pos hi hne hm
    rw [UH12_1]
    obtain ⟨h1, e1, i1, _⟩ := H_WB1 hi (by omega) 34
    have e1' : H_WB [.p 0 0, .i .u8 34] h = some (.nili, h1) := e1
    have e2 := H_BS1 i1 (by simp) (by simp only [List.length_append, List.length_cons, List.length_nil] at *; omega)
    simp only [K12_1, Y_quote, ys_hit, ys_miss, e1', e2, go_sem, ne_eq, not_false_eq_true, reduceIte, Nat.reduceMul, Nat.reduceAdd, Nat.reduceSub, Nat.reduceEqDiff, Nat.reduceLeDiff, Nat.reduceLT, List.take_succ_cons, List.take_zero, List.drop_succ_cons, List.cons_append]
    simp [rns_nil]
  | h1 a r ih =>
    intro bs h pos hi hne hm
    have hlt := dec_nil_free a r
    have hok := dec_oks (a :: r)
    rw [UH12_1, rns_cons, List.flatMap_cons]
    generalize hc : (dec (a :: r)).1 = c at *
    have hql := qt_len c
    simp only [List.length_cons] at hm hlt
    have hm4 : bs.length + 4 ≤ most := by omega
    have fin : ∀ h', BI h' 0 (bs ++ qt c) → Hp.M X_quote Y_quote (kz12) (.code L12_1) (.loop L12_1 :: K12_1) ⟨gl, (.node (.node (.node (.node (.node (.node .leaf .any .leaf) .any (.node .leaf .any .leaf)) .any (.node (.node .leaf .any .leaf) .any (.node .leaf .any .leaf))) (.p 0 0) (.node (.node (.node .leaf .any .leaf) .any (.node .leaf .any .leaf)) .any (.node (.node .leaf .any .leaf) .any (.node .leaf .any .leaf)))) .any (.node (.node (.node (.node .leaf .any .leaf) .any (.node .leaf .any .leaf)) .any (.node (.node .leaf .any .leaf) .any (.node .leaf .any .leaf))) .any (.node (.node (.node .leaf .any .leaf) .any (.node .leaf .any .leaf)) .any (.node (.node .leaf .any .leaf) .any (.node .leaf .any .leaf))))) .any (.node (.node (.node (.node (.node .leaf .any .leaf) .any (.node .leaf .any .leaf)) (.it) (.node (.node .leaf .any .leaf) .any (.node .leaf .any .leaf))) .any (.node (.node (.node .leaf .any .leaf) .any (.node .leaf .any .leaf)) .any (.node (.node .leaf .any .leaf) .any (.node .leaf .any .leaf)))) .any (.node (.node (.node (.node .leaf .any .leaf) .any (.node .leaf .any .leaf)) .any (.node (.node .leaf .any .leaf) .any (.node .leaf .any .leaf))) .any (.node (.node (.node .leaf .any .leaf) .any (.node .leaf .any .leaf)) .any (.node (.node .leaf .any .leaf) .any (.node .leaf .any .leaf)))))), [(8, ((a :: r).drop (dec (a :: r)).2, pos + (dec (a :: r)).2))], [], h'⟩
        (Fin [.tmp 2] (.s (bs ++ (qt c ++ (rns ((a :: r).drop (dec (a :: r)).2)).flatMap qt ++ [34])))) := by
      intro h' hi'
      have := ih (bs ++ qt c) h' (pos + (dec (a :: r)).2) hi' (by simp [hne]) (by simp only [List.length_append]; omega)
      simpa using this
    have d1 : decide ((c : Int) = 34) = decide (c = 34) := decide_eq_decide.2 (by omega)
    have d2 : decide ((c : Int) = 92) = decide (c = 92) := decide_eq_decide.2 (by omega)
    have d3 : decide ((c : Int) < 32) = decide (c < 32) := decide_eq_decide.2 (by omega)
    have d4 : decide ((c : Int) = 127) = decide (c = 127) := decide_eq_decide.2 (by omega)
    have d5 : decide ((c : Int) = 65533) = decide (c = 65533) := decide_eq_decide.2 (by omega)
    by_cases q1 : c = 34 ∨ c = 92
    · have hq : qt c = 92 :: enc c := if_pos q1
      obtain ⟨h1, e1, i1, _⟩ := H_WB1 hi (by omega) 92
      have e1' : H_WB [.p 0 0, .i .u8 92] h = some (.nili, h1) := e1
      obtain ⟨h2, e2, i2, _⟩ := H_WR1 i1 (by simp) (by simp only [List.length_append, List.length_cons, List.length_nil]; omega) hok
      have hf := fin h2 (by rw [hq]; simpa using i2)
      rcases q1 with q | q
      · have f1 : decide (c = 34) = true := by simpa using q
        simp only [hc, d1, f1, Y_quote, ys_hit, ys_miss, e1', e2, go_sem, ne_eq, not_false_eq_true, reduceIte, Nat.reduceMul, Nat.reduceAdd, Nat.reduceSub, Nat.reduceEqDiff, Nat.reduceLeDiff, Nat.reduceLT, List.take_succ_cons, List.take_zero, List.drop_succ_cons, List.cons_append]
        rw [Hp.M_loop]
        simp only [kz12, K12_1, Y_quote, List.length_cons, List.length_nil, go_sem, ne_eq, not_false_eq_true, reduceIte, Nat.reduceMul, Nat.reduceAdd, Nat.reduceSub, Nat.reduceEqDiff, Nat.reduceLeDiff, Nat.reduceLT, List.take_succ_cons, List.take_zero, List.drop_succ_cons, List.cons_append] at hf ⊢
        exact hf
      · have f1 : decide (c = 34) = false := by simp; omega
        have f2 : decide (c = 92) = true := by simpa using q
        simp only [hc, d1, f1, d2, f2, Y_quote, ys_hit, ys_miss, e1', e2, go_sem, ne_eq, not_false_eq_true, reduceIte, Nat.reduceMul, Nat.reduceAdd, Nat.reduceSub, Nat.reduceEqDiff, Nat.reduceLeDiff, Nat.reduceLT, List.take_succ_cons, List.take_zero, List.drop_succ_cons, List.cons_append]
        rw [Hp.M_loop]
        simp only [kz12, K12_1, Y_quote, List.length_cons, List.length_nil, go_sem, ne_eq, not_false_eq_true, reduceIte, Nat.reduceMul, Nat.reduceAdd, Nat.reduceSub, Nat.reduceEqDiff, Nat.reduceLeDiff, Nat.reduceLT, List.take_succ_cons, List.take_zero, List.drop_succ_cons, List.cons_append] at hf ⊢
        exact hf
    · have f1 : decide (c = 34) = false := by simp; omega
      have f2 : decide (c = 92) = false := by simp; omega
      by_cases q2 : c < 32 ∨ c = 127 ∨ c = 65533
      · have hq : qt c = [92, 117, 123] ++ hexs c ++ [125] := by unfold qt; rw [if_neg q1, if_pos q2]
        have hhl := hexs_len c
        have g1 : wr .i64 (c : Int) = (c : Int) := by unfold oks at hok; rw [wr64] <;> omega
        have g2 : 3 + (hexs c).length ≤ 4611686018427387904 := by omega
        have g3 : (3 + (hexs c).length) + 1 ≤ 4611686018427387904 := by omega
        have g4 : (hexs c).length + 3 + 1 ≤ 4611686018427387904 := by omega
        obtain ⟨h1, e1, i1, _⟩ := H_WS1 hi ([92, 117, 123] ++ hexs c ++ [125]) (by simp) (by simp only [List.length_append, List.length_cons, List.length_nil]; omega)
        have hf := fin h1 (by rw [hq]; exact i1)
        have hx := F_hex1 q2
        have e1' : H_WS [.p 0 0, .s (92 :: 117 :: 123 :: (hexs c ++ [125]))] h = some (.tup [.i .i64 ([92, 117, 123] ++ hexs c ++ [125]).length, .nili], h1) := e1
        rcases q2 with q | q | q
        · have f3 : decide (c < 32) = true := by simpa using q
          simp only [hc, d1, f1, d2, f2, d3, d4, d5, f3, X_quote, Y_quote, ys_hit, ys_miss, hx, g1, g2, g3, g4, e1', go_sem, ne_eq, not_false_eq_true, reduceIte, Nat.reduceMul, Nat.reduceAdd, Nat.reduceSub, Nat.reduceEqDiff, Nat.reduceLeDiff, Nat.reduceLT, List.take_succ_cons, List.take_zero, List.drop_succ_cons, List.cons_append]
          rw [Hp.M_loop]
          simp only [kz12, K12_1, X_quote, Y_quote, List.length_cons, List.length_nil, go_sem, ne_eq, not_false_eq_true, reduceIte, Nat.reduceMul, Nat.reduceAdd, Nat.reduceSub, Nat.reduceEqDiff, Nat.reduceLeDiff, Nat.reduceLT, List.take_succ_cons, List.take_zero, List.drop_succ_cons, List.cons_append] at hf ⊢
          exact hf
        · have f3 : decide (c < 32) = false := by simp; omega
          have f4 : decide (c = 127) = true := by simpa using q
          simp only [hc, d1, f1, d2, f2, d3, d4, d5, f3, f4, X_quote, Y_quote, ys_hit, ys_miss, hx, g1, g2, g3, g4, e1', go_sem, ne_eq, not_false_eq_true, reduceIte, Nat.reduceMul, Nat.reduceAdd, Nat.reduceSub, Nat.reduceEqDiff, Nat.reduceLeDiff, Nat.reduceLT, List.take_succ_cons, List.take_zero, List.drop_succ_cons, List.cons_append]
          rw [Hp.M_loop]
          simp only [kz12, K12_1, X_quote, Y_quote, List.length_cons, List.length_nil, go_sem, ne_eq, not_false_eq_true, reduceIte, Nat.reduceMul, Nat.reduceAdd, Nat.reduceSub, Nat.reduceEqDiff, Nat.reduceLeDiff, Nat.reduceLT, List.take_succ_cons, List.take_zero, List.drop_succ_cons, List.cons_append] at hf ⊢
          exact hf
        · have f3 : decide (c < 32) = false := by simp; omega
          have f4 : decide (c = 127) = false := by simp; omega
          have f5 : decide (c = 65533) = true := by simpa using q
          simp only [hc, d1, f1, d2, f2, d3, d4, d5, f3, f4, f5, X_quote, Y_quote, ys_hit, ys_miss, hx, g1, g2, g3, g4, e1', go_sem, ne_eq, not_false_eq_true, reduceIte, Nat.reduceMul, Nat.reduceAdd, Nat.reduceSub, Nat.reduceEqDiff, Nat.reduceLeDiff, Nat.reduceLT, List.take_succ_cons, List.take_zero, List.drop_succ_cons, List.cons_append]
          rw [Hp.M_loop]
          simp only [kz12, K12_1, X_quote, Y_quote, List.length_cons, List.length_nil, go_sem, ne_eq, not_false_eq_true, reduceIte, Nat.reduceMul, Nat.reduceAdd, Nat.reduceSub, Nat.reduceEqDiff, Nat.reduceLeDiff, Nat.reduceLT, List.take_succ_cons, List.take_zero, List.drop_succ_cons, List.cons_append] at hf ⊢
          exact hf
      · have hq : qt c = enc c := by unfold qt; rw [if_neg q1, if_neg q2]
        have f3 : decide (c < 32) = false := by simp; omega
        have f4 : decide (c = 127) = false := by simp; omega
        have f5 : decide (c = 65533) = false := by simp; omega
        obtain ⟨h1, e1, i1, _⟩ := H_WR1 hi hne (by omega) hok
        have hf := fin h1 (by rw [hq]; exact i1)
        simp only [hc, d1, f1, d2, f2, d3, f3, d4, f4, d5, f5, Y_quote, ys_hit, ys_miss, e1, go_sem, ne_eq, not_false_eq_true, reduceIte, Nat.reduceMul, Nat.reduceAdd, Nat.reduceSub, Nat.reduceEqDiff, Nat.reduceLeDiff, Nat.reduceLT, List.take_succ_cons, List.take_zero, List.drop_succ_cons, List.cons_append]
        rw [Hp.M_loop]
        simp only [kz12, K12_1, Y_quote, List.length_cons, List.length_nil, go_sem, ne_eq, not_false_eq_true, reduceIte, Nat.reduceMul, Nat.reduceAdd, Nat.reduceSub, Nat.reduceEqDiff, Nat.reduceLeDiff, Nat.reduceLT, List.take_succ_cons, List.take_zero, List.drop_succ_cons, List.cons_append] at hf ⊢
        exact hf
def quoteV (l : List UInt8) : List UInt8 := 34 :: ((rns l).flatMap qt ++ [34])
theorem w_Quote (l : List UInt8) (hl : l.length ≤ 8192) (gl : Nat → List V) : Hp.M X_quote Y_quote (kz12) (.code B12) [] (St.init gl 6 [.s l] {}) (Fin [.tmp 2] (.s (quoteV l))) := by
  rw [UH12]
  have i0 : BI ⟨1, [(0, .cells 57 [.nilp, .sl [] 0 .nil])], 0, []⟩ 0 [] := .inl ⟨rfl, rfl⟩
  obtain ⟨h1, e1, i1, _⟩ := H_WB1 i0 (by decide) 34
  have e1' : H_WB [.p 0 0, .i .u8 34] ⟨1, [(0, .cells 57 [.nilp, .sl [] 0 .nil])], 0, []⟩ = some (.nili, h1) := e1
  simp only [Y_quote, ys_hit, ys_miss, e1', go_sem, ne_eq, not_false_eq_true, reduceIte, Nat.reduceMul, Nat.reduceAdd, Nat.reduceSub, Nat.reduceEqDiff, Nat.reduceLeDiff, Nat.reduceLT, List.take_succ_cons, List.take_zero, List.drop_succ_cons, List.cons_append]
  rw [Hp.M_loop]
  have := w_Quote_loop gl l [34] h1 0 i1 (by simp) (by unfold most; simp only [List.length_cons, List.length_nil]; omega)
  simp only [kz12, K12_1, Y_quote, List.length_cons, List.length_nil, go_sem, ne_eq, not_false_eq_true, reduceIte, Nat.reduceMul, Nat.reduceAdd, Nat.reduceSub, Nat.reduceEqDiff, Nat.reduceLeDiff, Nat.reduceLT, List.take_succ_cons, List.take_zero, List.drop_succ_cons, List.cons_append] at this ⊢
  exact this
theorem c_Quote (l : List UInt8) (hl : l.length ≤ 8192) : Comp tabx told 12 [.s l] (.s (quoteV l)) :=
  Hp.comp_of t_quote u_quote (fn := af12) rfl (Nat.le_of_ble_eq_true rfl) fun gl => w_Quote l hl gl
end Go.Proofs.YtbhclhgljnoioaaDoor
