/- A text in quotes: the program's way. -/
import Derived.Test.YtbhclhgljnoioaaDoorLx3
import Derived.Test.YtbhclhgljnoioaaDoorAi10
import Derived.Lib.MapLaws
set_option linter.unusedSimpArgs false
set_option linter.unusedVariables false
namespace Go.Proofs.YtbhclhgljnoioaaDoor
open Ai
def isS (o : Option V) (l : List UInt8) : Bool := match o with
  | some (.s m) => strEq m l
  | _ => false
theorem isS_spec {o : Option V} {l : List UInt8} (h : isS o l = true) : o = some (.s l) := by
  unfold isS at h
  split at h
  · rw [strEq_iff] at h
    rw [of_decide_eq_true h]
  · cases h
set_option maxRecDepth 100000 in
theorem r_hex : (ctl.all fun c => isS (runF gl0 tabx xf 3000 34 [.i .i64 (c : Int), .i .i64 16]) (hexs c)) = true := by kernel_rfl
theorem c_hex {c : Nat} (h : c ∈ ctl) : Comp tabx told 34 [.i .i64 (c : Int), .i .i64 16] (.s (hexs c)) :=
  comp_runF (fun _ _ _ h => h) 3000 fun gl hgl => by
    have : gl = gl0 := hgl
    subst this
    exact isS_spec (List.all_eq_true.1 r_hex c h)
theorem mem_ctl {c : Nat} : c ∈ ctl ↔ c < 32 ∨ c = 127 ∨ c = 65533 := by
  simp only [ctl, List.mem_cons, List.mem_range]
  omega
def F_hex (a : List V) : Option V := match a with
  | [.i .i64 (Int.ofNat c), .i .i64 16] => if c < 32 ∨ c = 127 ∨ c = 65533 then some (.s (hexs c)) else none
  | _ => none
theorem F_hex1 {c : Nat} (h : c < 32 ∨ c = 127 ∨ c = 65533) : F_hex [.i .i64 (c : Int), .i .i64 16] = some (.s (hexs c)) := if_pos h
theorem o_hex : ∀ a v, F_hex a = some v → Comp tabx told 34 a v := fun a v e => by
  unfold F_hex at e
  split at e
  · split at e
    · rename_i h; cases e; exact c_hex (mem_ctl.2 h)
    · cases e
  · cases e
theorem hexs_len (c : Nat) : 1 ≤ (hexs c).length ∧ (hexs c).length ≤ 4 := by
  unfold hexs
  repeat' split
  all_goals simp
/-- A rune within quotes. -/
def qt (c : Nat) : List UInt8 := if c = 34 ∨ c = 92 then 92 :: enc c else if c < 32 ∨ c = 127 ∨ c = 65533 then [92, 117, 123] ++ hexs c ++ [125] else enc c
theorem qt_len (c : Nat) : (qt c).length ≤ 10 := by
  have h1 := hexs_len c
  have h2 := enc_len c
  unfold qt
  repeat' split
  all_goals (try simp only [List.length_cons, List.length_append, List.length_nil])
  all_goals omega
theorem dec_oks (l : List UInt8) : oks (dec l).1 := by
  unfold dec oks
  simp only
  repeat' split
  all_goals simp_all [Utf8.valid, Utf8.runeError]
  all_goals omega
def X_quote := xs [(34, F_hex)]
theorem t_quote : Tells tabx told X_quote := tells_cons o_hex tells_nil
noncomputable def Y_quote := ys [(31, H_WB), (32, H_WR), (33, H_WS), (35, H_BS)]
theorem u_quote : Hp.TellsI tabx told Y_quote := itells_cons i_WB (itells_cons i_WR (itells_cons i_WS (itells_cons i_BS itells_nil)))

def K12_1 : List Fr := [.blk 0,
 .seq (.seq (.reg [⟨some 41, .call false 31 [(.t 3), (.k (.i .u8 34))], none⟩])
 (.seq (.reg [⟨some 42, .call false 35 [(.t 3)], none⟩, ⟨some 2, .mov (.t 42), none⟩])
 .ret))]
theorem UH12_1 : type_of% (@Hp_open _ _ L12_1.eq_1) := @Hp_open _ _ L12_1.eq_1
theorem UH12 : type_of% (@Hp_open _ _ B12.eq_1) := @Hp_open _ _ B12.eq_1
def kz12 (_ : Nat) : List Nat := [0, 1, 2, 4, 5, 6, 7, 9, 10, 11, 12, 13, 14, 15, 16, 17, 18, 19, 20, 21, 22, 23, 24, 25, 26, 27, 28, 29, 30, 31, 32, 33, 34, 35, 36, 37, 38, 39, 40, 41, 42]
theorem w_Quote_loop (gl : Nat → List V) : ∀ (l bs : List UInt8) (h : H) (pos : Nat), BI h 0 bs → bs ≠ [] → bs.length + 10 * l.length + 1 ≤ most →
    Hp.M X_quote Y_quote (kz12) (.code L12_1) (.loop L12_1 :: K12_1) ⟨gl, (.node (.node (.node (.node (.node (.node .leaf .any .leaf) .any (.node .leaf .any .leaf)) .any (.node (.node .leaf .any .leaf) .any (.node .leaf .any .leaf))) (.p 0 0) (.node (.node (.node .leaf .any .leaf) .any (.node .leaf .any .leaf)) .any (.node (.node .leaf .any .leaf) .any (.node .leaf .any .leaf)))) .any (.node (.node (.node (.node .leaf .any .leaf) .any (.node .leaf .any .leaf)) .any (.node (.node .leaf .any .leaf) .any (.node .leaf .any .leaf))) .any (.node (.node (.node .leaf .any .leaf) .any (.node .leaf .any .leaf)) .any (.node (.node .leaf .any .leaf) .any (.node .leaf .any .leaf))))) .any (.node (.node (.node (.node (.node .leaf .any .leaf) .any (.node .leaf .any .leaf)) (.it) (.node (.node .leaf .any .leaf) .any (.node .leaf .any .leaf))) .any (.node (.node (.node .leaf .any .leaf) .any (.node .leaf .any .leaf)) .any (.node (.node .leaf .any .leaf) .any (.node .leaf .any .leaf)))) .any (.node (.node (.node (.node .leaf .any .leaf) .any (.node .leaf .any .leaf)) .any (.node (.node .leaf .any .leaf) .any (.node .leaf .any .leaf))) .any (.node (.node (.node .leaf .any .leaf) .any (.node .leaf .any .leaf)) .any (.node (.node .leaf .any .leaf) .any (.node .leaf .any .leaf)))))), [(8, (l, pos))], [], h⟩
      (Fin [.tmp 2] (.s (bs ++ ((rns l).flatMap qt ++ [34])))) := by
  intro l
  induction l using rune_ind with
  | h0 =>
    intro bs h pos hi hne hm
    rw [UH12_1]
    obtain ⟨h1, e1, i1, _⟩ := H_WB1 hi (by omega) 34
    have e1' : H_WB [.p 0 0, .i .u8 34] h = some (.nili, h1) := e1
    have e2 := H_BS1 i1 (by simp) (by simp only [List.length_append, List.length_cons, List.length_nil] at *; omega)
    simp only [K12_1, Y_quote, ys_hit, ys_miss, e1', e2, go_sem, ne_eq, not_false_eq_true, reduceIte, Nat.reduceMul, Nat.reduceAdd, Nat.reduceSub, Nat.reduceEqDiff, Nat.reduceLeDiff, Nat.reduceLT, List.take_succ_cons, List.take_zero, List.drop_succ_cons, List.cons_append]
    simp [rns_nil]
  | h1 a r ih =>
    intro bs h pos hi hne hm
    have hlt := dec_nil_free a r
    have hok := dec_oks (a :: r)
    rw [UH12_1, rns_cons, List.flatMap_cons]
    generalize hc : (dec (a :: r)).1 = c at *
    have hql := qt_len c
    simp only [List.length_cons] at hm hlt
    have hm4 : bs.length + 4 ≤ most := by omega
    have fin : ∀ h', BI h' 0 (bs ++ qt c) → Hp.M X_quote Y_quote (kz12) (.code L12_1) (.loop L12_1 :: K12_1) ⟨gl, (.node (.node (.node (.node (.node (.node .leaf .any .leaf) .any (.node .leaf .any .leaf)) .any (.node (.node .leaf .any .leaf) .any (.node .leaf .any .leaf))) (.p 0 0) (.node (.node (.node .leaf .any .leaf) .any (.node .leaf .any .leaf)) .any (.node (.node .leaf .any .leaf) .any (.node .leaf .any .leaf)))) .any (.node (.node (.node (.node .leaf .any .leaf) .any (.node .leaf .any .leaf)) .any (.node (.node .leaf .any .leaf) .any (.node .leaf .any .leaf))) .any (.node (.node (.node .leaf .any .leaf) .any (.node .leaf .any .leaf)) .any (.node (.node .leaf .any .leaf) .any (.node .leaf .any .leaf))))) .any (.node (.node (.node (.node (.node .leaf .any .leaf) .any (.node .leaf .any .leaf)) (.it) (.node (.node .leaf .any .leaf) .any (.node .leaf .any .leaf))) .any (.node (.node (.node .leaf .any .leaf) .any (.node .leaf .any .leaf)) .any (.node (.node .leaf .any .leaf) .any (.node .leaf .any .leaf)))) .any (.node (.node (.node (.node .leaf .any .leaf) .any (.node .leaf .any .leaf)) .any (.node (.node .leaf .any .leaf) .any (.node .leaf .any .leaf))) .any (.node (.node (.node .leaf .any .leaf) .any (.node .leaf .any .leaf)) .any (.node (.node .leaf .any .leaf) .any (.node .leaf .any .leaf)))))), [(8, ((a :: r).drop (dec (a :: r)).2, pos + (dec (a :: r)).2))], [], h'⟩
        (Fin [.tmp 2] (.s (bs ++ (qt c ++ (rns ((a :: r).drop (dec (a :: r)).2)).flatMap qt ++ [34])))) := by
      intro h' hi'
      have := ih (bs ++ qt c) h' (pos + (dec (a :: r)).2) hi' (by simp [hne]) (by simp only [List.length_append]; omega)
      simpa using this
    have d1 : decide ((c : Int) = 34) = decide (c = 34) := decide_eq_decide.2 (by omega)
    have d2 : decide ((c : Int) = 92) = decide (c = 92) := decide_eq_decide.2 (by omega)
    have d3 : decide ((c : Int) < 32) = decide (c < 32) := decide_eq_decide.2 (by omega)
    have d4 : decide ((c : Int) = 127) = decide (c = 127) := decide_eq_decide.2 (by omega)
    have d5 : decide ((c : Int) = 65533) = decide (c = 65533) := decide_eq_decide.2 (by omega)
    by_cases q1 : c = 34 ∨ c = 92
    · have hq : qt c = 92 :: enc c := if_pos q1
      obtain ⟨h1, e1, i1, _⟩ := H_WB1 hi (by omega) 92
      have e1' : H_WB [.p 0 0, .i .u8 92] h = some (.nili, h1) := e1
      obtain ⟨h2, e2, i2, _⟩ := H_WR1 i1 (by simp) (by simp only [List.length_append, List.length_cons, List.length_nil]; omega) hok
      have hf := fin h2 (by rw [hq]; simpa using i2)
      rcases q1 with q | q
      · have f1 : decide (c = 34) = true := by simpa using q
        simp only [hc, d1, f1, Y_quote, ys_hit, ys_miss, e1', e2, go_sem, ne_eq, not_false_eq_true, reduceIte, Nat.reduceMul, Nat.reduceAdd, Nat.reduceSub, Nat.reduceEqDiff, Nat.reduceLeDiff, Nat.reduceLT, List.take_succ_cons, List.take_zero, List.drop_succ_cons, List.cons_append]
        rw [Hp.M_loop]
        simp only [kz12, K12_1, Y_quote, List.length_cons, List.length_nil, go_sem, ne_eq, not_false_eq_true, reduceIte, Nat.reduceMul, Nat.reduceAdd, Nat.reduceSub, Nat.reduceEqDiff, Nat.reduceLeDiff, Nat.reduceLT, List.take_succ_cons, List.take_zero, List.drop_succ_cons, List.cons_append] at hf ⊢
        exact hf
      · have f1 : decide (c = 34) = false := by simp; omega
        have f2 : decide (c = 92) = true := by simpa using q
        simp only [hc, d1, f1, d2, f2, Y_quote, ys_hit, ys_miss, e1', e2, go_sem, ne_eq, not_false_eq_true, reduceIte, Nat.reduceMul, Nat.reduceAdd, Nat.reduceSub, Nat.reduceEqDiff, Nat.reduceLeDiff, Nat.reduceLT, List.take_succ_cons, List.take_zero, List.drop_succ_cons, List.cons_append]
        rw [Hp.M_loop]
        simp only [kz12, K12_1, Y_quote, List.length_cons, List.length_nil, go_sem, ne_eq, not_false_eq_true, reduceIte, Nat.reduceMul, Nat.reduceAdd, Nat.reduceSub, Nat.reduceEqDiff, Nat.reduceLeDiff, Nat.reduceLT, List.take_succ_cons, List.take_zero, List.drop_succ_cons, List.cons_append] at hf ⊢
        exact hf
    · have f1 : decide (c = 34) = false := by simp; omega
      have f2 : decide (c = 92) = false := by simp; omega
      by_cases q2 : c < 32 ∨ c = 127 ∨ c = 65533
      · have hq : qt c = [92, 117, 123] ++ hexs c ++ [125] := by unfold qt; rw [if_neg q1, if_pos q2]
        have hhl := hexs_len c
        have g1 : wr .i64 (c : Int) = (c : Int) := by unfold oks at hok; rw [wr64] <;> omega
        have g2 : 3 + (hexs c).length ≤ 4611686018427387904 := by omega
        have g3 : (3 + (hexs c).length) + 1 ≤ 4611686018427387904 := by omega
        have g4 : (hexs c).length + 3 + 1 ≤ 4611686018427387904 := by omega
        obtain ⟨h1, e1, i1, _⟩ := H_WS1 hi ([92, 117, 123] ++ hexs c ++ [125]) (by simp) (by simp only [List.length_append, List.length_cons, List.length_nil]; omega)
        have hf := fin h1 (by rw [hq]; exact i1)
        have hx := F_hex1 q2
        have e1' : H_WS [.p 0 0, .s (92 :: 117 :: 123 :: (hexs c ++ [125]))] h = some (.tup [.i .i64 ([92, 117, 123] ++ hexs c ++ [125]).length, .nili], h1) := e1
        rcases q2 with q | q | q
        · have f3 : decide (c < 32) = true := by simpa using q
          simp only [hc, d1, f1, d2, f2, d3, d4, d5, f3, X_quote, Y_quote, ys_hit, ys_miss, hx, g1, g2, g3, g4, e1', go_sem, ne_eq, not_false_eq_true, reduceIte, Nat.reduceMul, Nat.reduceAdd, Nat.reduceSub, Nat.reduceEqDiff, Nat.reduceLeDiff, Nat.reduceLT, List.take_succ_cons, List.take_zero, List.drop_succ_cons, List.cons_append]
          rw [Hp.M_loop]
          simp only [kz12, K12_1, X_quote, Y_quote, List.length_cons, List.length_nil, go_sem, ne_eq, not_false_eq_true, reduceIte, Nat.reduceMul, Nat.reduceAdd, Nat.reduceSub, Nat.reduceEqDiff, Nat.reduceLeDiff, Nat.reduceLT, List.take_succ_cons, List.take_zero, List.drop_succ_cons, List.cons_append] at hf ⊢
          exact hf
        · have f3 : decide (c < 32) = false := by simp; omega
          have f4 : decide (c = 127) = true := by simpa using q
          simp only [hc, d1, f1, d2, f2, d3, d4, d5, f3, f4, X_quote, Y_quote, ys_hit, ys_miss, hx, g1, g2, g3, g4, e1', go_sem, ne_eq, not_false_eq_true, reduceIte, Nat.reduceMul, Nat.reduceAdd, Nat.reduceSub, Nat.reduceEqDiff, Nat.reduceLeDiff, Nat.reduceLT, List.take_succ_cons, List.take_zero, List.drop_succ_cons, List.cons_append]
          rw [Hp.M_loop]
          simp only [kz12, K12_1, X_quote, Y_quote, List.length_cons, List.length_nil, go_sem, ne_eq, not_false_eq_true, reduceIte, Nat.reduceMul, Nat.reduceAdd, Nat.reduceSub, Nat.reduceEqDiff, Nat.reduceLeDiff, Nat.reduceLT, List.take_succ_cons, List.take_zero, List.drop_succ_cons, List.cons_append] at hf ⊢
          exact hf
        · have f3 : decide (c < 32) = false := by simp; omega
          have f4 : decide (c = 127) = false := by simp; omega
          have f5 : decide (c = 65533) = true := by simpa using q
          simp only [hc, d1, f1, d2, f2, d3, d4, d5, f3, f4, f5, X_quote, Y_quote, ys_hit, ys_miss, hx, g1, g2, g3, g4, e1', go_sem, ne_eq, not_false_eq_true, reduceIte, Nat.reduceMul, Nat.reduceAdd, Nat.reduceSub, Nat.reduceEqDiff, Nat.reduceLeDiff, Nat.reduceLT, List.take_succ_cons, List.take_zero, List.drop_succ_cons, List.cons_append]
          rw [Hp.M_loop]
          simp only [kz12, K12_1, X_quote, Y_quote, List.length_cons, List.length_nil, go_sem, ne_eq, not_false_eq_true, reduceIte, Nat.reduceMul, Nat.reduceAdd, Nat.reduceSub, Nat.reduceEqDiff, Nat.reduceLeDiff, Nat.reduceLT, List.take_succ_cons, List.take_zero, List.drop_succ_cons, List.cons_append] at hf ⊢
          exact hf
      · have hq : qt c = enc c := by unfold qt; rw [if_neg q1, if_neg q2]
        have f3 : decide (c < 32) = false := by simp; omega
        have f4 : decide (c = 127) = false := by simp; omega
        have f5 : decide (c = 65533) = false := by simp; omega
        obtain ⟨h1, e1, i1, _⟩ := H_WR1 hi hne (by omega) hok
        have hf := fin h1 (by rw [hq]; exact i1)
        simp only [hc, d1, f1, d2, f2, d3, f3, d4, f4, d5, f5, Y_quote, ys_hit, ys_miss, e1, go_sem, ne_eq, not_false_eq_true, reduceIte, Nat.reduceMul, Nat.reduceAdd, Nat.reduceSub, Nat.reduceEqDiff, Nat.reduceLeDiff, Nat.reduceLT, List.take_succ_cons, List.take_zero, List.drop_succ_cons, List.cons_append]
        rw [Hp.M_loop]
        simp only [kz12, K12_1, Y_quote, List.length_cons, List.length_nil, go_sem, ne_eq, not_false_eq_true, reduceIte, Nat.reduceMul, Nat.reduceAdd, Nat.reduceSub, Nat.reduceEqDiff, Nat.reduceLeDiff, Nat.reduceLT, List.take_succ_cons, List.take_zero, List.drop_succ_cons, List.cons_append] at hf ⊢
        exact hf
def quoteV (l : List UInt8) : List UInt8 := 34 :: ((rns l).flatMap qt ++ [34])
theorem w_Quote (l : List UInt8) (hl : l.length ≤ 8192) (gl : Nat → List V) : Hp.M X_quote Y_quote (kz12) (.code B12) [] (St.init gl 6 [.s l] {}) (Fin [.tmp 2] (.s (quoteV l))) := by
  rw [UH12]
  have i0 : BI ⟨1, [(0, .cells 57 [.nilp, .sl [] 0 .nil])], 0, []⟩ 0 [] := .inl ⟨rfl, rfl⟩
  obtain ⟨h1, e1, i1, _⟩ := H_WB1 i0 (by decide) 34
  have e1' : H_WB [.p 0 0, .i .u8 34] ⟨1, [(0, .cells 57 [.nilp, .sl [] 0 .nil])], 0, []⟩ = some (.nili, h1) := e1
  simp only [Y_quote, ys_hit, ys_miss, e1', go_sem, ne_eq, not_false_eq_true, reduceIte, Nat.reduceMul, Nat.reduceAdd, Nat.reduceSub, Nat.reduceEqDiff, Nat.reduceLeDiff, Nat.reduceLT, List.take_succ_cons, List.take_zero, List.drop_succ_cons, List.cons_append]
  rw [Hp.M_loop]
  have := w_Quote_loop gl l [34] h1 0 i1 (by simp) (by unfold most; simp only [List.length_cons, List.length_nil]; omega)
  simp only [kz12, K12_1, Y_quote, List.length_cons, List.length_nil, go_sem, ne_eq, not_false_eq_true, reduceIte, Nat.reduceMul, Nat.reduceAdd, Nat.reduceSub, Nat.reduceEqDiff, Nat.reduceLeDiff, Nat.reduceLT, List.take_succ_cons, List.take_zero, List.drop_succ_cons, List.cons_append] at this ⊢
  exact this
theorem c_Quote (l : List UInt8) (hl : l.length ≤ 8192) : Comp tabx told 12 [.s l] (.s (quoteV l)) :=
  Hp.comp_of t_quote u_quote (fn := af12) rfl (Nat.le_of_ble_eq_true rfl) fun gl => w_Quote l hl gl
end Go.Proofs.YtbhclhgljnoioaaDoor
set_option linter.unusedSimpArgs false
set_option linter.unusedVariables false
namespace Go.Proofs.YtbhclhgljnoioaaDoor
open Ai
/-- What is in quotes, from a place on: what is written, how far it goes. -/
def qscan (l out : List UInt8) (k : Nat) : Option (List UInt8 × Nat) :=
  match l with
  | [] => none
  | a :: r =>
    if (dec (a :: r)).1 = 34 then some (out, k + 1) else
    if (dec (a :: r)).1 = 65533 ∧ (dec (a :: r)).2 = 1 then none else
    if (dec (a :: r)).1 ≠ 92 then qscan ((a :: r).drop (dec (a :: r)).2) (out ++ enc (dec (a :: r)).1) (k + (dec (a :: r)).2) else
    match r with
    | [] => none
    | b :: t =>
      if b = 34 ∨ b = 92 then qscan t (out ++ [b]) (k + 2) else
      if b = 117 then (if (hexV t).2 = 0 then none else qscan (t.drop (hexV t).2) (out ++ enc (hexV t).1) (k + 2 + (hexV t).2)) else none
termination_by l.length
decreasing_by
  · exact dec_nil_free a r
  · simp only [List.length_cons]; omega
  · simp only [List.length_drop, List.length_cons]; omega
theorem qscan_nil (out : List UInt8) (k : Nat) : qscan [] out k = none := by rw [qscan]
theorem qscan_end {a : UInt8} {r out : List UInt8} {k : Nat} (h : (dec (a :: r)).1 = 34) : qscan (a :: r) out k = some (out, k + 1) := by rw [qscan.eq_def]; dsimp only; rw [if_pos h]
theorem qscan_bad {a : UInt8} {r out : List UInt8} {k : Nat} (h : (dec (a :: r)).1 = 65533) (h1 : (dec (a :: r)).2 = 1) : qscan (a :: r) out k = none := by rw [qscan.eq_def]; dsimp only; rw [if_neg (by omega), if_pos ⟨h, h1⟩]
theorem qscan_rune {a : UInt8} {r out : List UInt8} {k : Nat} (h : (dec (a :: r)).1 ≠ 34) (h1 : ¬ ((dec (a :: r)).1 = 65533 ∧ (dec (a :: r)).2 = 1)) (h2 : (dec (a :: r)).1 ≠ 92) :
    qscan (a :: r) out k = qscan ((a :: r).drop (dec (a :: r)).2) (out ++ enc (dec (a :: r)).1) (k + (dec (a :: r)).2) := by rw [qscan.eq_def]; dsimp only; rw [if_neg h, if_neg h1, if_pos h2]
theorem dec92 (r : List UInt8) : dec (92 :: r) = (92, 1) := dec_ascii (by decide) r
theorem qscan_esc0 {out : List UInt8} {k : Nat} : qscan [92] out k = none := by
  rw [qscan.eq_def]; dsimp only; rw [if_neg (by rw [dec92]; decide), if_neg (by rw [dec92]; decide), if_neg (by rw [dec92]; simp)]
theorem qscan_esc {b : UInt8} {t out : List UInt8} {k : Nat} : qscan (92 :: b :: t) out k = if b = 34 ∨ b = 92 then qscan t (out ++ [b]) (k + 2) else
      if b = 117 then (if (hexV t).2 = 0 then none else qscan (t.drop (hexV t).2) (out ++ enc (hexV t).1) (k + 2 + (hexV t).2)) else none := by
  rw [qscan.eq_def]; dsimp only; rw [if_neg (by rw [dec92]; decide), if_neg (by rw [dec92]; decide), if_neg (by rw [dec92]; simp)]
theorem dec_92 {a : UInt8} {r : List UInt8} (h : (dec (a :: r)).1 = 92) : a = 92 := by
  obtain ⟨h1, h2⟩ := dec_low (a := a) (r := r) (by omega)
  rw [h2] at h
  exact UInt8.toNat_inj.1 h
theorem hexV_ok (s : List UInt8) (h : (hexV s).2 ≠ 0) : oks (hexV s).1 ∧ (hexV s).2 ≤ s.length ∧ (hexV s).2 ≤ 8 := by
  unfold hexV at h ⊢
  by_cases hc : s.length < 3 ∨ s.head? ≠ some 123 ∨ Lib.indexByte s 125 < 2 ∨ 7 < Lib.indexByte s 125
  · rw [if_pos hc] at h; exact absurd rfl h
  · rw [if_neg hc] at h ⊢
    have i3 : Lib.indexByte s 125 < s.length := index_lt s 125 (by omega)
    cases hm : hexN 0 ((s.drop 1).take ((Lib.indexByte s 125).toNat - 1)) with
    | none => rw [hm] at h; exact absurd rfl h
    | some m =>
      rw [hm] at h
      simp only at h ⊢
      by_cases ho : okB m = true
      · rw [if_pos ho]
        refine ⟨(okB_iff m).1 ho, ?_, ?_⟩ <;> simp only <;> omega
      · rw [if_neg ho] at h; exact absurd rfl h
def X_quoted := xs [(43, decV), (71, F_lhex)]
theorem t_quoted : Tells tabx told X_quoted := tells_cons o_decode (tells_cons o_lhex tells_nil)
noncomputable def Y_quoted := ys [(31, H_WB), (32, H_WR0), (35, H_BS0)]
theorem u_quoted : Hp.TellsI tabx told Y_quoted := itells_cons i_WB (itells_cons i_WR0 (itells_cons i_BS0 itells_nil))
theorem qd_dec (a : UInt8) (r : List UInt8) : X_quoted 43 [.s (a :: r)] = some (.tup [.i .i32 (dec (a :: r)).1, .i .i64 (dec (a :: r)).2]) := rfl
theorem qd_hex (s : List UInt8) : X_quoted 71 [.s s] = some (pairV (hexV s)) := rfl
theorem qd_rune (id c : Nat) (h : H) : Y_quoted 32 [.p id 0, .i .i32 (c : Int)] h = H_WR0 [.p id 0, .i .i32 (c : Int)] h := rfl
theorem qd_byte (id : Nat) (b : Int) (h : H) : Y_quoted 31 [.p id 0, .i .u8 b] h = H_WB [.p id 0, .i .u8 b] h := rfl
theorem qd_str (id : Nat) (h : H) : Y_quoted 35 [.p id 0] h = H_BS0 [.p id 0] h := rfl
def qres (o : Option (List UInt8 × Nat)) : V := match o with
  | some (x, k) => .tup [.s x, .i .i64 k]
  | none => .tup [.s [], .i .i64 0]
theorem get_drop {s l : List UInt8} {i : Nat} {a : UInt8} (h : s.drop i = a :: l) : s[i]? = some a := by
  have := congrArg (fun x => x[0]?) h
  simpa using this
def K44_1 : List Fr := [.blk 0,
 .seq (.seq (.reg [⟨some 2, .mov (.k (.s [])), none⟩, ⟨some 3, .mov (.k (.i .i64 0)), none⟩])
 .ret)]
theorem UH44_1 : type_of% (@Hp_open _ _ L44_1.eq_1) := @Hp_open _ _ L44_1.eq_1
theorem UH44 : type_of% (@Hp_open _ _ B44.eq_1) := @Hp_open _ _ B44.eq_1
def kz44 (_ : Nat) : List Nat := [1, 2, 3, 6, 7, 8, 9, 10, 11, 12, 13, 14, 15, 16, 17, 18, 19, 20, 21, 22, 23, 24, 25, 26, 27, 28, 29, 30, 31, 32, 33, 34, 35, 36, 37, 38, 39, 40, 41, 42, 43, 44, 45, 46, 47, 48, 49, 50, 51, 52, 53, 54, 55, 56, 57, 58, 59, 60, 61, 62, 63, 64, 65, 66, 67, 68, 69, 70, 71, 72, 73, 74, 75, 76, 77, 78, 79]
theorem w_quoted_loop (s : List UInt8) (hs : s.length ≤ 1048576) (gl : Nat → List V) : ∀ (n : Nat) (l bs : List UInt8) (i : Nat) (h : H), l.length ≤ n → s.drop i = l → i ≤ s.length → BF h 0 bs → bs.length ≤ 4 * i →
    Hp.M X_quoted Y_quoted (kz44) (.code L44_1) (.loop L44_1 :: K44_1) ⟨gl, (.node (.node (.node (.node (.node (.node (.node .leaf .any .leaf) .any (.node .leaf .any .leaf)) .any (.node (.node .leaf .any .leaf) .any (.node .leaf .any .leaf))) .any (.node (.node (.node .leaf .any .leaf) .any (.node .leaf .any .leaf)) .any (.node (.node .leaf .any .leaf) .any (.node .leaf .any .leaf)))) .any (.node (.node (.node (.node .leaf .any .leaf) .any (.node .leaf .any .leaf)) .any (.node (.node .leaf .any .leaf) .any (.node .leaf .any .leaf))) .any (.node (.node (.node .leaf .any .leaf) .any (.node .leaf .any .leaf)) .any (.node (.node .leaf .any .leaf) .any (.node .leaf .any .leaf))))) .any (.node (.node (.node (.node (.node .leaf .any .leaf) .any (.node .leaf .any .leaf)) .any (.node (.node .leaf .any .leaf) .any (.node .leaf .any .leaf))) .any (.node (.node (.node .leaf .any .leaf) .any (.node .leaf .any .leaf)) .any (.node (.node .leaf .any .leaf) .any (.node .leaf .any .leaf)))) (.i .i64 i) (.node (.node (.node (.node .leaf .any .leaf) .any (.node .leaf .any .leaf)) .any (.node (.node .leaf .any .leaf) .any (.node .leaf .any .leaf))) .any (.node (.node (.node .leaf .any .leaf) .any (.node .leaf .any .leaf)) .any (.node (.node .leaf .any .leaf) .any (.node .leaf .any .leaf)))))) (.s s) (.node (.node (.node (.node (.node (.node .leaf .any .leaf) .any (.node .leaf .any .leaf)) .any (.node (.node .leaf .any .leaf) .any (.node .leaf .any .leaf))) .any (.node (.node (.node .leaf .any .leaf) .any (.node .leaf .any .leaf)) .any (.node (.node .leaf .any .leaf) .any (.node .leaf .any .leaf)))) (.p 0 0) (.node (.node (.node (.node .leaf .any .leaf) .any (.node .leaf .any .leaf)) .any (.node (.node .leaf .any .leaf) .any (.node .leaf .any .leaf))) .any (.node (.node (.node .leaf .any .leaf) .any (.node .leaf .any .leaf)) .any (.node (.node .leaf .any .leaf) .any (.node .leaf .any .leaf))))) .any (.node (.node (.node (.node (.node .leaf .any .leaf) .any (.node .leaf .any .leaf)) .any (.node (.node .leaf .any .leaf) .any (.node .leaf .any .leaf))) .any (.node (.node (.node .leaf .any .leaf) .any (.node .leaf .any .leaf)) .any (.node (.node .leaf .any .leaf) .any (.node .leaf .any .leaf)))) .any (.node (.node (.node (.node .leaf .any .leaf) .any (.node .leaf .any .leaf)) .any (.node (.node .leaf .any .leaf) .any (.node .leaf .any .leaf))) .any (.node (.node (.node .leaf .any .leaf) .any (.node .leaf .any .leaf)) .any (.node (.node .leaf .any .leaf) .any (.node .leaf .any .leaf))))))), [], [], h⟩
      (Fin [.tmp 2, .tmp 3] (qres (qscan l bs i))) := by
  intro n
  induction n with
  | zero =>
    intro l bs i h hn hd hi hB hb
    obtain rfl : l = [] := List.length_eq_zero_iff.1 (by omega)
    have hl := drop_len hd hi
    simp only [List.length_nil, Nat.add_zero] at hl
    have e1 : decide ((i : Int) < (s.length : Int)) = false := decide_eq_false (by omega)
    rw [UH44_1, qscan_nil]
    simp only [e1, K44_1, qres, go_sem, ne_eq, not_false_eq_true, reduceIte, Nat.reduceMul, Nat.reduceAdd, Nat.reduceSub, Nat.reduceEqDiff, Nat.reduceLeDiff, Nat.reduceLT, List.take_succ_cons, List.take_zero, List.drop_succ_cons, List.cons_append]
  | succ n ih =>
    intro l bs i h hn hd hi hB hb
    cases l with
    | nil =>
      have hl := drop_len hd hi
      simp only [List.length_nil, Nat.add_zero] at hl
      have e1 : decide ((i : Int) < (s.length : Int)) = false := decide_eq_false (by omega)
      rw [UH44_1, qscan_nil]
      simp only [e1, K44_1, qres, go_sem, ne_eq, not_false_eq_true, reduceIte, Nat.reduceMul, Nat.reduceAdd, Nat.reduceSub, Nat.reduceEqDiff, Nat.reduceLeDiff, Nat.reduceLT, List.take_succ_cons, List.take_zero, List.drop_succ_cons, List.cons_append]
    | cons a r =>
      have hl := drop_len hd hi
      simp only [List.length_cons] at hl hn
      have hw := dec_pos (a :: r)
      have hw2 := dec_le a r
      have hw3 := dec_nil_free a r
      simp only [List.length_cons] at hw2 hw3
      have e1 : decide ((i : Int) < (s.length : Int)) = true := decide_eq_true (by omega)
      have e2 : (s.drop i).take (s.length - i) = a :: r := by rw [List.take_of_length_le (by simp), hd]
      have hm : bs.length + 4 ≤ most := by unfold most; omega
      have hok := dec_oks (a :: r)
      rw [UH44_1]
      by_cases c1 : (dec (a :: r)).1 = 34
      · have f1 : decide (((dec (a :: r)).1 : Int) = 34) = true := decide_eq_true (by omega)
        have w1 : wr .i64 ((i : Int) + 1) = ((i + 1 : Nat) : Int) := by rw [wr64] <;> omega
        have hs2 := H_BS01 hB (by omega)
        rw [qscan_end c1]
        simp only [e1, e2, hi, Nat.le_refl, qd_dec, f1, qd_str, hs2, w1, K44_1, qres, go_sem, ne_eq, not_false_eq_true, reduceIte, Nat.reduceMul, Nat.reduceAdd, Nat.reduceSub, Nat.reduceEqDiff, Nat.reduceLeDiff, Nat.reduceLT, List.take_succ_cons, List.take_zero, List.drop_succ_cons, List.cons_append]
      · have f1 : decide (((dec (a :: r)).1 : Int) = 34) = false := decide_eq_false (by omega)
        by_cases c2 : (dec (a :: r)).1 = 65533 ∧ (dec (a :: r)).2 = 1
        · have f2 : decide (((dec (a :: r)).1 : Int) = 65533) = true := decide_eq_true (by omega)
          have f3 : decide (((dec (a :: r)).2 : Int) = 1) = true := decide_eq_true (by omega)
          rw [qscan_bad c2.1 c2.2]
          simp only [e1, e2, hi, Nat.le_refl, qd_dec, f1, f2, f3, K44_1, qres, go_sem, ne_eq, not_false_eq_true, reduceIte, Nat.reduceMul, Nat.reduceAdd, Nat.reduceSub, Nat.reduceEqDiff, Nat.reduceLeDiff, Nat.reduceLT, List.take_succ_cons, List.take_zero, List.drop_succ_cons, List.cons_append]
        · by_cases c3 : (dec (a :: r)).1 = 92
          · have ha := dec_92 c3
            subst ha
            have hdc : dec (92 :: r) = (92, 1) := dec92 r
            cases r with
            | nil =>
              rw [qscan_esc0]
              have f4 : decide ((s.length : Int) ≤ ((i + 1 : Nat) : Int)) = true := decide_eq_true (by simp only [List.length_nil] at hl; omega)
              have w1 : wr .i64 ((i : Int) + 1) = ((i + 1 : Nat) : Int) := by rw [wr64] <;> omega
              simp only [e1, e2, hi, Nat.le_refl, qd_dec, hdc, w1, f4, Int.reduceEq, Int.cast_ofNat_Int, K44_1, qres, go_sem, ne_eq, not_false_eq_true, reduceIte, Nat.reduceMul, Nat.reduceAdd, Nat.reduceSub, Nat.reduceEqDiff, Nat.reduceLeDiff, Nat.reduceLT, List.take_succ_cons, List.take_zero, List.drop_succ_cons, List.cons_append]
            | cons b t =>
              simp only [List.length_cons] at hl hn
              have f4 : decide ((s.length : Int) ≤ ((i + 1 : Nat) : Int)) = false := decide_eq_false (by omega)
              have w1 : wr .i64 ((i : Int) + 1) = ((i + 1 : Nat) : Int) := by rw [wr64] <;> omega
              have w2 : wr .i64 ((i : Int) + 2) = ((i + 2 : Nat) : Int) := by rw [wr64] <;> omega
              have hd1 : s.drop (i + 1) = b :: t := by rw [← List.drop_drop, hd]; rfl
              have hd2 : s.drop (i + 2) = t := by rw [← List.drop_drop, hd]; rfl
              have hg := get_drop hd1
              have i1 : i + 1 < s.length := by omega
              have i2 : i + 2 ≤ s.length := by omega
              have b34 : decide (((b.toNat : Nat) : Int) = 34) = decide (b = 34) := decide_eq_decide.2 ⟨fun h => UInt8.toNat_inj.1 (by show b.toNat = 34; omega), fun h => by rw [h]; rfl⟩
              have b92 : decide (((b.toNat : Nat) : Int) = 92) = decide (b = 92) := decide_eq_decide.2 ⟨fun h => UInt8.toNat_inj.1 (by show b.toNat = 92; omega), fun h => by rw [h]; rfl⟩
              have b117 : decide (((b.toNat : Nat) : Int) = 117) = decide (b = 117) := decide_eq_decide.2 ⟨fun h => UInt8.toNat_inj.1 (by show b.toNat = 117; omega), fun h => by rw [h]; rfl⟩
              rw [qscan_esc]
              obtain ⟨h1, q1, q2, _⟩ := H_WB0 hB (by omega) b
              by_cases k1 : b = 34
              · have g1 : decide (b = 34) = true := decide_eq_true k1
                rw [if_pos (.inl k1)]
                have := ih t (bs ++ [b]) (i + 2) h1 (by omega) hd2 i2 q2 (by simp; omega)
                simp only [e1, e2, hi, Nat.le_refl, qd_dec, hdc, w1, w2, f4, hg, i1, b34, g1, qd_byte, q1, Int.reduceEq, Int.cast_ofNat_Int, go_sem, ne_eq, not_false_eq_true, reduceIte, Nat.reduceMul, Nat.reduceAdd, Nat.reduceSub, Nat.reduceEqDiff, Nat.reduceLeDiff, Nat.reduceLT, List.take_succ_cons, List.take_zero, List.drop_succ_cons, List.cons_append]
                rw [Hp.M_loop]
                simp only [kz44, K44_1, List.length_cons, List.length_nil, go_sem, ne_eq, not_false_eq_true, reduceIte, Nat.reduceMul, Nat.reduceAdd, Nat.reduceSub, Nat.reduceEqDiff, Nat.reduceLeDiff, Nat.reduceLT, List.take_succ_cons, List.take_zero, List.drop_succ_cons, List.cons_append] at this ⊢
                exact this
              · have g1 : decide (b = 34) = false := decide_eq_false k1
                by_cases k2 : b = 92
                · have g2 : decide (b = 92) = true := decide_eq_true k2
                  rw [if_pos (.inr k2)]
                  have := ih t (bs ++ [b]) (i + 2) h1 (by omega) hd2 i2 q2 (by simp; omega)
                  simp only [e1, e2, hi, Nat.le_refl, qd_dec, hdc, w1, w2, f4, hg, i1, b34, g1, b92, g2, qd_byte, q1, Int.reduceEq, Int.cast_ofNat_Int, go_sem, ne_eq, not_false_eq_true, reduceIte, Nat.reduceMul, Nat.reduceAdd, Nat.reduceSub, Nat.reduceEqDiff, Nat.reduceLeDiff, Nat.reduceLT, List.take_succ_cons, List.take_zero, List.drop_succ_cons, List.cons_append]
                  rw [Hp.M_loop]
                  simp only [kz44, K44_1, List.length_cons, List.length_nil, go_sem, ne_eq, not_false_eq_true, reduceIte, Nat.reduceMul, Nat.reduceAdd, Nat.reduceSub, Nat.reduceEqDiff, Nat.reduceLeDiff, Nat.reduceLT, List.take_succ_cons, List.take_zero, List.drop_succ_cons, List.cons_append] at this ⊢
                  exact this
                · have g2 : decide (b = 92) = false := decide_eq_false k2
                  rw [if_neg (by rintro (h | h); exact k1 h; exact k2 h)]
                  by_cases k3 : b = 117
                  · have g3 : decide (b = 117) = true := decide_eq_true k3
                    have e3 : (s.drop (i + 2)).take (s.length - (i + 2)) = t := by rw [List.take_of_length_le (by simp), hd2]
                    rw [if_pos k3]
                    by_cases k4 : (hexV t).2 = 0
                    · have g4 : decide (((hexV t).2 : Int) = 0) = true := decide_eq_true (by omega)
                      rw [if_pos k4]
                      simp only [e1, e2, e3, hi, i2, Nat.le_refl, qd_dec, hdc, w1, w2, f4, hg, i1, b34, g1, b92, g2, b117, g3, qd_hex, pairV, g4, Int.reduceEq, Int.cast_ofNat_Int, K44_1, qres, go_sem, ne_eq, not_false_eq_true, reduceIte, Nat.reduceMul, Nat.reduceAdd, Nat.reduceSub, Nat.reduceEqDiff, Nat.reduceLeDiff, Nat.reduceLT, List.take_succ_cons, List.take_zero, List.drop_succ_cons, List.cons_append]
                    · have g4 : decide (((hexV t).2 : Int) = 0) = false := decide_eq_false (by omega)
                      obtain ⟨v1, v2, v3⟩ := hexV_ok t k4
                      rw [if_neg k4]
                      obtain ⟨h2, r1, r2, _⟩ := H_WR01 hB hm v1
                      have w3 : wr .i64 (2 + ((hexV t).2 : Int)) = ((2 + (hexV t).2 : Nat) : Int) := by rw [wr64] <;> omega
                      have w4 : wr .i64 ((i : Int) + ((2 + (hexV t).2 : Nat) : Int)) = ((i + 2 + (hexV t).2 : Nat) : Int) := by rw [wr64] <;> omega
                      have hel := enc_len (hexV t).1
                      have := ih (t.drop (hexV t).2) (bs ++ enc (hexV t).1) (i + 2 + (hexV t).2) h2 (by rw [List.length_drop]; omega) (by rw [← List.drop_drop, hd2]) (by omega) r2 (by simp; omega)
                      simp only [e1, e2, e3, hi, i2, Nat.le_refl, qd_dec, hdc, w1, w2, w3, w4, f4, hg, i1, b34, g1, b92, g2, b117, g3, qd_hex, pairV, g4, qd_rune, r1, Int.reduceEq, Int.cast_ofNat_Int, go_sem, ne_eq, not_false_eq_true, reduceIte, Nat.reduceMul, Nat.reduceAdd, Nat.reduceSub, Nat.reduceEqDiff, Nat.reduceLeDiff, Nat.reduceLT, List.take_succ_cons, List.take_zero, List.drop_succ_cons, List.cons_append]
                      rw [Hp.M_loop]
                      simp only [kz44, K44_1, List.length_cons, List.length_nil, go_sem, ne_eq, not_false_eq_true, reduceIte, Nat.reduceMul, Nat.reduceAdd, Nat.reduceSub, Nat.reduceEqDiff, Nat.reduceLeDiff, Nat.reduceLT, List.take_succ_cons, List.take_zero, List.drop_succ_cons, List.cons_append] at this ⊢
                      exact this
                  · have g3 : decide (b = 117) = false := decide_eq_false k3
                    rw [if_neg k3]
                    simp only [e1, e2, hi, Nat.le_refl, qd_dec, hdc, w1, w2, f4, hg, i1, b34, g1, b92, g2, b117, g3, Int.reduceEq, Int.cast_ofNat_Int, K44_1, qres, go_sem, ne_eq, not_false_eq_true, reduceIte, Nat.reduceMul, Nat.reduceAdd, Nat.reduceSub, Nat.reduceEqDiff, Nat.reduceLeDiff, Nat.reduceLT, List.take_succ_cons, List.take_zero, List.drop_succ_cons, List.cons_append]
          · have f4 : decide (((dec (a :: r)).1 : Int) = 92) = false := decide_eq_false (by omega)
            rw [qscan_rune c1 c2 c3]
            obtain ⟨h1, q1, q2, _⟩ := H_WR01 hB hm hok
            have hel := enc_len (dec (a :: r)).1
            have w1 : wr .i64 ((i : Int) + ((dec (a :: r)).2 : Int)) = ((i + (dec (a :: r)).2 : Nat) : Int) := by rw [wr64] <;> omega
            have := ih ((a :: r).drop (dec (a :: r)).2) (bs ++ enc (dec (a :: r)).1) (i + (dec (a :: r)).2) h1 (by omega) (by rw [← List.drop_drop, hd]) (by omega) q2 (by simp; omega)
            by_cases k1 : (dec (a :: r)).1 = 65533
            · have f2 : decide (((dec (a :: r)).1 : Int) = 65533) = true := decide_eq_true (by omega)
              have f3 : decide (((dec (a :: r)).2 : Int) = 1) = false := decide_eq_false (by omega)
              simp only [e1, e2, hi, Nat.le_refl, qd_dec, f1, f2, f3, f4, qd_rune, q1, w1, go_sem, ne_eq, not_false_eq_true, reduceIte, Nat.reduceMul, Nat.reduceAdd, Nat.reduceSub, Nat.reduceEqDiff, Nat.reduceLeDiff, Nat.reduceLT, List.take_succ_cons, List.take_zero, List.drop_succ_cons, List.cons_append]
              rw [Hp.M_loop]
              simp only [kz44, K44_1, List.length_cons, List.length_nil, go_sem, ne_eq, not_false_eq_true, reduceIte, Nat.reduceMul, Nat.reduceAdd, Nat.reduceSub, Nat.reduceEqDiff, Nat.reduceLeDiff, Nat.reduceLT, List.take_succ_cons, List.take_zero, List.drop_succ_cons, List.cons_append] at this ⊢
              exact this
            · have f2 : decide (((dec (a :: r)).1 : Int) = 65533) = false := decide_eq_false (by omega)
              simp only [e1, e2, hi, Nat.le_refl, qd_dec, f1, f2, f4, qd_rune, q1, w1, go_sem, ne_eq, not_false_eq_true, reduceIte, Nat.reduceMul, Nat.reduceAdd, Nat.reduceSub, Nat.reduceEqDiff, Nat.reduceLeDiff, Nat.reduceLT, List.take_succ_cons, List.take_zero, List.drop_succ_cons, List.cons_append]
              rw [Hp.M_loop]
              simp only [kz44, K44_1, List.length_cons, List.length_nil, go_sem, ne_eq, not_false_eq_true, reduceIte, Nat.reduceMul, Nat.reduceAdd, Nat.reduceSub, Nat.reduceEqDiff, Nat.reduceLeDiff, Nat.reduceLT, List.take_succ_cons, List.take_zero, List.drop_succ_cons, List.cons_append] at this ⊢
              exact this
end Go.Proofs.YtbhclhgljnoioaaDoor
set_option linter.unusedSimpArgs false
set_option linter.unusedVariables false
namespace Go.Proofs.YtbhclhgljnoioaaDoor
open Ai
theorem w_quoted (a : UInt8) (r : List UInt8) (hs : (a :: r).length ≤ 1048576) (gl : Nat → List V) : Hp.M X_quoted Y_quoted (kz44) (.code B44) [] (St.init gl 7 [.s (a :: r)] {}) (Fin [.tmp 2, .tmp 3] (qres (qscan r [] 1))) := by
  rw [UH44]
  simp only [go_sem, ne_eq, not_false_eq_true, reduceIte, Nat.reduceMul, Nat.reduceAdd, Nat.reduceSub, Nat.reduceEqDiff, Nat.reduceLeDiff, Nat.reduceLT, List.take_succ_cons, List.take_zero, List.drop_succ_cons, List.cons_append]
  rw [Hp.M_loop]
  have := w_quoted_loop (a :: r) hs gl r.length r [] 1 ⟨1, [(0, .cells 57 [.nilp, .sl [] 0 .nil])], 0, []⟩ (Nat.le_refl _) rfl (by simp) (bf_new rfl) (by simp)
  simp only [kz44, K44_1, List.length_cons, List.length_nil, Int.cast_ofNat_Int, go_sem, ne_eq, not_false_eq_true, reduceIte, Nat.reduceMul, Nat.reduceAdd, Nat.reduceSub, Nat.reduceEqDiff, Nat.reduceLeDiff, Nat.reduceLT, List.take_succ_cons, List.take_zero, List.drop_succ_cons, List.cons_append] at this ⊢
  exact this
def F_quoted (a : List V) : Option V := match a with
  | [.s (a :: r)] => if (a :: r).length ≤ 1048576 then some (qres (qscan r [] 1)) else none
  | _ => none
theorem F_quoted1 (a : UInt8) (r : List UInt8) (h : (a :: r).length ≤ 1048576) : F_quoted [.s (a :: r)] = some (qres (qscan r [] 1)) := if_pos h
theorem o_quoted : ∀ a v, F_quoted a = some v → Comp tabx told 44 a v := fun a v e => by
  unfold F_quoted at e
  split at e
  · split at e
    · rename_i h; cases e; exact Hp.comp_of t_quoted u_quoted (fn := af44) rfl (Nat.le_of_ble_eq_true rfl) fun gl => w_quoted _ _ h gl
    · cases e
  · cases e
/-- A token. -/
structure Tok where
  kind : Nat
  text : List UInt8
  at_ : Nat
def Tok.cells (t : Tok) : List V := [.i .i64 t.kind, .s t.text, .i .i64 t.at_]
/-- Tokens, or where there is none, and why. -/
inductive Lx where
  | ok (l : List Tok)
  | bad (at_ e : Nat)
def Lx.cons (t : Tok) : Lx → Lx
  | .ok l => .ok (t :: l)
  | x => x
def headDig : List UInt8 → Bool
  | [] => false
  | b :: _ => digB b.toNat
def lx (l : List UInt8) (k : Nat) : Lx :=
  match l with
  | [] => .ok []
  | a :: r =>
    if a = 32 then lx r (k + 1) else
    if a = 34 then (match qscan r [] 1 with
      | none => .bad k 191
      | some (x, n) => (lx (r.drop (n - 1)) (k + n)).cons ⟨2, x, k⟩) else
    if letB a.toNat then (lx (r.drop (wh letB r)) (k + 1 + wh letB r)).cons ⟨1, a :: r.take (wh letB r), k⟩ else
    if digB a.toNat then (lx (r.drop (wh digB r)) (k + 1 + wh digB r)).cons ⟨3, a :: r.take (wh digB r), k⟩ else
    if a = 45 ∧ headDig r = true then (lx (r.drop (wh digB r)) (k + 1 + wh digB r)).cons ⟨3, a :: r.take (wh digB r), k⟩ else
    if sgnB a.toNat then (lx r (k + 1)).cons ⟨4, [a], k⟩ else .bad k 190
termination_by l.length
decreasing_by all_goals (simp only [List.length_drop, List.length_cons]; omega)
theorem lx_nil (k : Nat) : lx [] k = .ok [] := by rw [lx]
theorem lx_cons (a : UInt8) (r : List UInt8) (k : Nat) : lx (a :: r) k =
    if a = 32 then lx r (k + 1) else
    if a = 34 then (match qscan r [] 1 with
      | none => .bad k 191
      | some (x, n) => (lx (r.drop (n - 1)) (k + n)).cons ⟨2, x, k⟩) else
    if letB a.toNat then (lx (r.drop (wh letB r)) (k + 1 + wh letB r)).cons ⟨1, a :: r.take (wh letB r), k⟩ else
    if digB a.toNat then (lx (r.drop (wh digB r)) (k + 1 + wh digB r)).cons ⟨3, a :: r.take (wh digB r), k⟩ else
    if a = 45 ∧ headDig r = true then (lx (r.drop (wh digB r)) (k + 1 + wh digB r)).cons ⟨3, a :: r.take (wh digB r), k⟩ else
    if sgnB a.toNat then (lx r (k + 1)).cons ⟨4, [a], k⟩ else .bad k 190 := by
  rw [lx.eq_def]
/-- How far a text in quotes goes. -/
theorem qscan_k : ∀ (n : Nat) (l out : List UInt8) (k : Nat), l.length ≤ n → ∀ x m, qscan l out k = some (x, m) → k + 1 ≤ m ∧ m ≤ k + l.length := by
  intro n
  induction n with
  | zero =>
    intro l out k hn x m h
    obtain rfl : l = [] := List.length_eq_zero_iff.1 (by omega)
    rw [qscan_nil] at h; cases h
  | succ n ih =>
    intro l out k hn x m h
    cases l with
    | nil => rw [qscan_nil] at h; cases h
    | cons a r =>
      simp only [List.length_cons] at hn ⊢
      have hw := dec_pos (a :: r)
      have hw2 := dec_le a r
      simp only [List.length_cons] at hw2
      by_cases c1 : (dec (a :: r)).1 = 34
      · rw [qscan_end c1] at h; cases h; omega
      · by_cases c2 : (dec (a :: r)).1 = 65533 ∧ (dec (a :: r)).2 = 1
        · rw [qscan_bad c2.1 c2.2] at h; cases h
        · by_cases c3 : (dec (a :: r)).1 = 92
          · have ha := dec_92 c3
            subst ha
            cases r with
            | nil => rw [qscan_esc0] at h; cases h
            | cons b t =>
              simp only [List.length_cons] at hn ⊢
              rw [qscan_esc] at h
              split at h
              · have := ih t _ _ (by omega) x m h; omega
              · split at h
                · split at h
                  · cases h
                  · rename_i k4
                    obtain ⟨v1, v2, v3⟩ := hexV_ok t k4
                    have := ih (t.drop (hexV t).2) _ _ (by rw [List.length_drop]; omega) x m h
                    rw [List.length_drop] at this
                    omega
                · cases h
          · rw [qscan_rune c1 c2 c3] at h
            have := ih _ _ _ (by simp only [List.length_drop, List.length_cons]; omega) x m h
            simp only [List.length_drop, List.length_cons] at this
            omega
def tokR (acc : List Tok) : Lx → V
  | .ok l => .tup [.sl ((acc ++ l).flatMap Tok.cells) (acc ++ l).length .no, .i .i64 0, .i .i64 0]
  | .bad a e => .tup [.sl [] 0 .no, .i .i64 a, .i .i64 e]
theorem tokR_cons (acc : List Tok) (t : Tok) (x : Lx) : tokR acc (x.cons t) = tokR (acc ++ [t]) x := by
  cases x with
  | ok l => simp [Lx.cons, tokR]
  | bad a e => rfl
theorem toks_len (l : List Tok) : (l.flatMap Tok.cells).length = l.length * 3 := by
  induction l with
  | nil => rfl
  | cons t r ih => simp only [List.flatMap_cons, List.length_append, Tok.cells, List.length_cons, List.length_nil, ih]; omega
theorem frz_toks (h : H) (f : Nat) (l : List Tok) : (l.flatMap Tok.cells).map (frz h (f + 1)) = l.flatMap Tok.cells := by
  induction l with
  | nil => rfl
  | cons t r ih => simp only [List.flatMap_cons, List.map_append, ih]; rfl
theorem wh_pos {p : Nat → Bool} {a : UInt8} {r : List UInt8} (h : p a.toNat = true) : wh p (a :: r) = wh p r + 1 := by simp [wh, h]
def X_toks := xs [(43, decV), (44, F_quoted), (45, F_let), (47, F_dig), (48, F_sgn), (46, F_while)]
theorem t_toks : Tells tabx told X_toks := tells_cons o_decode (tells_cons o_quoted (tells_cons o_let (tells_cons o_dig (tells_cons o_sgn (tells_cons o_while tells_nil)))))
theorem tk_dec (a : UInt8) (r : List UInt8) : X_toks 43 [.s (a :: r)] = some (.tup [.i .i32 (dec (a :: r)).1, .i .i64 (dec (a :: r)).2]) := rfl
theorem tk_quo (a : UInt8) (r : List UInt8) (h : (a :: r).length ≤ 1048576) : X_toks 44 [.s (a :: r)] = some (qres (qscan r [] 1)) := F_quoted1 a r h
theorem tk_let (c : Nat) : X_toks 45 [.i .i32 (c : Int)] = some (.b (letB c)) := rfl
theorem tk_dig (c : Nat) : X_toks 47 [.i .i32 (c : Int)] = some (.b (digB c)) := rfl
theorem tk_sgn (c : Nat) : X_toks 48 [.i .i32 (c : Int)] = some (.b (sgnB c)) := rfl
theorem tk_whL (s : List UInt8) : X_toks 46 [.s s, .fn 45 [] []] = some (.i .i64 (wh letB s : Nat)) := rfl
theorem tk_whD (s : List UInt8) : X_toks 46 [.s s, .fn 47 [] []] = some (.i .i64 (wh digB s : Nat)) := rfl
theorem sgn_hi (c : Nat) (h : 128 ≤ c) : sgnB c = false := by
  have : ∀ k, k < 128 → (c == k) = false := fun k hk => by simp; omega
  simp only [sgnB, this 40 (by omega), this 41 (by omega), this 61 (by omega), this 94 (by omega), this 60 (by omega), this 62 (by omega), this 44 (by omega), Bool.or_false]
theorem take_cat {s : List UInt8} {k : Nat} {a : UInt8} {r : List UInt8} (h : s.drop k = a :: r) (m : Nat) : (s.drop k).take (k + (m + 1) - k) = a :: r.take m := by
  rw [h, show k + (m + 1) - k = m + 1 from by omega, List.take_succ_cons]
def K21_1 : List Fr := [.blk 0,
 .seq (.seq (.reg [⟨some 128, .mov (.t 5), none⟩, ⟨some 2, .mov (.t 128), none⟩, ⟨some 3, .mov (.k (.i .i64 0)), none⟩, ⟨some 4, .mov (.k (.i .i64 0)), none⟩])
 .ret)]
theorem U21_1 : type_of% (@M_open _ _ L21_1.eq_1) := @M_open _ _ L21_1.eq_1
theorem U21 : type_of% (@M_open _ _ B21.eq_1) := @M_open _ _ B21.eq_1
def kz21 (_ : Nat) : List Nat := [1, 2, 3, 4, 7, 8, 9, 10, 11, 12, 13, 14, 15, 16, 17, 18, 19, 20, 21, 22, 23, 24, 25, 26, 27, 28, 29, 30, 31, 32, 33, 34, 35, 36, 37, 38, 39, 40, 41, 42, 43, 44, 45, 46, 47, 48, 49, 50, 51, 52, 53, 54, 55, 56, 57, 58, 59, 60, 61, 62, 63, 64, 65, 66, 67, 68, 69, 70, 71, 72, 73, 74, 75, 76, 77, 78, 79, 80, 81, 82, 83, 84, 85, 86, 87, 88, 89, 90, 91, 92, 93, 94, 95, 96, 97, 98, 99, 100, 101, 102, 103, 104, 105, 106, 107, 108, 109, 110, 111, 112, 113, 114, 115, 116, 117, 118, 119, 120, 121, 122, 123, 124, 125, 126, 127, 128]
def tokH (n : Nat) : H := ⟨0, [], 2, [(1, (n, 45)), (0, (0, 45))]⟩
theorem w_Tokens_loop (s : List UInt8) (hs : s.length ≤ 1048576) (gl : Nat → List V) : ∀ (n : Nat) (l : List UInt8) (k : Nat) (acc : List Tok) (loc : List (Nat × List V)), l.length ≤ n → s.drop k = l → k ≤ s.length → acc.length ≤ k →
    M X_toks (kz21) (.code L21_1) (.loop L21_1 :: K21_1) ⟨gl, (.node (.node (.node (.node (.node (.node (.node (.node .leaf .any .leaf) .any (.node .leaf .any .leaf)) .any (.node (.node .leaf .any .leaf) .any (.node .leaf .any .leaf))) .any (.node (.node (.node .leaf .any .leaf) .any (.node .leaf .any .leaf)) .any (.node (.node .leaf .any .leaf) .any (.node .leaf .any .leaf)))) .any (.node (.node (.node (.node .leaf .any .leaf) .any (.node .leaf .any .leaf)) .any (.node (.node .leaf .any .leaf) .any (.node .leaf .any .leaf))) .any (.node (.node (.node .leaf .any .leaf) .any (.node .leaf .any .leaf)) .any (.node (.node .leaf .any .leaf) .any (.node .leaf .any .leaf))))) .any (.node (.node (.node (.node (.node .leaf .any .leaf) .any (.node .leaf .any .leaf)) .any (.node (.node .leaf .any .leaf) .any (.node .leaf .any .leaf))) .any (.node (.node (.node .leaf .any .leaf) .any (.node .leaf .any .leaf)) .any (.node (.node .leaf .any .leaf) .any (.node .leaf .any .leaf)))) .any (.node (.node (.node (.node .leaf .any .leaf) .any (.node .leaf .any .leaf)) .any (.node (.node .leaf .any .leaf) .any (.node .leaf .any .leaf))) .any (.node (.node (.node .leaf .any .leaf) .any (.node .leaf .any .leaf)) .any (.node (.node .leaf .any .leaf) .any (.node .leaf .any .leaf)))))) .any (.node (.node (.node (.node (.node (.node .leaf .any .leaf) .any (.node .leaf .any .leaf)) .any (.node (.node .leaf .any .leaf) .any (.node .leaf .any .leaf))) .any (.node (.node (.node .leaf .any .leaf) .any (.node .leaf .any .leaf)) .any (.node (.node .leaf .any .leaf) .any (.node .leaf .any .leaf)))) .any (.node (.node (.node (.node .leaf .any .leaf) .any (.node .leaf .any .leaf)) .any (.node (.node .leaf .any .leaf) .any (.node .leaf .any .leaf))) .any (.node (.node (.node .leaf .any .leaf) .any (.node .leaf .any .leaf)) .any (.node (.node .leaf .any .leaf) .any (.node .leaf .any .leaf))))) (.sl (acc.flatMap Tok.cells) acc.length (.own 1)) (.node (.node (.node (.node (.node .leaf .any .leaf) .any (.node .leaf .any .leaf)) .any (.node (.node .leaf .any .leaf) .any (.node .leaf .any .leaf))) .any (.node (.node (.node .leaf .any .leaf) .any (.node .leaf .any .leaf)) .any (.node (.node .leaf .any .leaf) .any (.node .leaf .any .leaf)))) .any (.node (.node (.node (.node .leaf .any .leaf) .any (.node .leaf .any .leaf)) .any (.node (.node .leaf .any .leaf) .any (.node .leaf .any .leaf))) .any (.node (.node (.node .leaf .any .leaf) .any (.node .leaf .any .leaf)) .any (.node (.node .leaf .any .leaf) .any (.node .leaf .any .leaf))))))) (.s s) (.node (.node (.node (.node (.node (.node (.node .leaf .any .leaf) .any (.node .leaf .any .leaf)) .any (.node (.node .leaf .any .leaf) .any (.node .leaf .any .leaf))) .any (.node (.node (.node .leaf .any .leaf) .any (.node .leaf .any .leaf)) .any (.node (.node .leaf .any .leaf) .any (.node .leaf .any .leaf)))) .any (.node (.node (.node (.node .leaf .any .leaf) .any (.node .leaf .any .leaf)) .any (.node (.node .leaf .any .leaf) .any (.node .leaf .any .leaf))) .any (.node (.node (.node .leaf .any .leaf) .any (.node .leaf .any .leaf)) .any (.node (.node .leaf .any .leaf) .any (.node .leaf .any .leaf))))) .any (.node (.node (.node (.node (.node .leaf .any .leaf) .any (.node .leaf .any .leaf)) .any (.node (.node .leaf .any .leaf) .any (.node .leaf .any .leaf))) .any (.node (.node (.node .leaf .any .leaf) .any (.node .leaf .any .leaf)) .any (.node (.node .leaf .any .leaf) .any (.node .leaf .any .leaf)))) .any (.node (.node (.node (.node .leaf .any .leaf) .any (.node .leaf .any .leaf)) .any (.node (.node .leaf .any .leaf) .any (.node .leaf .any .leaf))) .any (.node (.node (.node .leaf .any .leaf) .any (.node .leaf .any .leaf)) .any (.node (.node .leaf .any .leaf) .any (.node .leaf .any .leaf)))))) .any (.node (.node (.node (.node (.node (.node .leaf .any .leaf) .any (.node .leaf .any .leaf)) .any (.node (.node .leaf .any .leaf) .any (.node .leaf .any .leaf))) .any (.node (.node (.node .leaf .any .leaf) .any (.node .leaf .any .leaf)) .any (.node (.node .leaf .any .leaf) .any (.node .leaf .any .leaf)))) .any (.node (.node (.node (.node .leaf .any .leaf) .any (.node .leaf .any .leaf)) .any (.node (.node .leaf .any .leaf) .any (.node .leaf .any .leaf))) .any (.node (.node (.node .leaf .any .leaf) .any (.node .leaf .any .leaf)) .any (.node (.node .leaf .any .leaf) .any (.node .leaf .any .leaf))))) (.i .i64 k) (.node (.node (.node (.node (.node .leaf .any .leaf) .any (.node .leaf .any .leaf)) .any (.node (.node .leaf .any .leaf) .any (.node .leaf .any .leaf))) .any (.node (.node (.node .leaf .any .leaf) .any (.node .leaf .any .leaf)) .any (.node (.node .leaf .any .leaf) .any (.node .leaf .any .leaf)))) .any (.node (.node (.node (.node .leaf .any .leaf) .any (.node .leaf .any .leaf)) .any (.node (.node .leaf .any .leaf) .any (.node .leaf .any .leaf))) .any (.node (.node (.node .leaf .any .leaf) .any (.node .leaf .any .leaf)) .any (.node (.node .leaf .any .leaf) .any (.node .leaf .any .leaf)))))))), [], loc, tokH acc.length⟩
      (Fin [.tmp 2, .tmp 3, .tmp 4] (tokR acc (lx l k))) := by
  intro n
  induction n with
  | zero =>
    intro l k acc loc hn hd hk ha
    obtain rfl : l = [] := List.length_eq_zero_iff.1 (by omega)
    have hl := drop_len hd hk
    simp only [List.length_nil, Nat.add_zero] at hl
    have e1 : decide ((k : Int) < (s.length : Int)) = false := decide_eq_false (by omega)
    rw [U21_1, lx_nil]
    simp only [e1, K21_1, tokR, List.append_nil, frz_toks, go_sem, ne_eq, not_false_eq_true, reduceIte, Nat.reduceMul, Nat.reduceAdd, Nat.reduceSub, Nat.reduceEqDiff, Nat.reduceLeDiff, Nat.reduceLT, List.take_succ_cons, List.take_zero, List.drop_succ_cons, List.cons_append]
  | succ n ih =>
    intro l k acc loc hn hd hk ha
    cases l with
    | nil =>
      have hl := drop_len hd hk
      simp only [List.length_nil, Nat.add_zero] at hl
      have e1 : decide ((k : Int) < (s.length : Int)) = false := decide_eq_false (by omega)
      rw [U21_1, lx_nil]
      simp only [e1, K21_1, tokR, List.append_nil, frz_toks, go_sem, ne_eq, not_false_eq_true, reduceIte, Nat.reduceMul, Nat.reduceAdd, Nat.reduceSub, Nat.reduceEqDiff, Nat.reduceLeDiff, Nat.reduceLT, List.take_succ_cons, List.take_zero, List.drop_succ_cons, List.cons_append]
    | cons a r =>
      have hl := drop_len hd hk
      simp only [List.length_cons] at hl hn
      have e1 : decide ((k : Int) < (s.length : Int)) = true := decide_eq_true (by omega)
      have e2 : (s.drop k).take (s.length - k) = a :: r := by rw [List.take_of_length_le (by simp), hd]
      have hm : acc.length + 1 ≤ most := by unfold most; omega
      have hcl := toks_len acc
      have w1 : wr .i64 ((k : Int) + 1) = ((k + 1 : Nat) : Int) := by rw [wr64] <;> omega
      -- a token is written behind
      have step : ∀ (t : Tok) (m : Nat) (loc' : List (Nat × List V)), 1 ≤ m → m ≤ r.length + 1 → t.at_ = k → M X_toks (kz21) (.code L21_1) (.loop L21_1 :: K21_1) ⟨gl, (.node (.node (.node (.node (.node (.node (.node (.node .leaf .any .leaf) .any (.node .leaf .any .leaf)) .any (.node (.node .leaf .any .leaf) .any (.node .leaf .any .leaf))) .any (.node (.node (.node .leaf .any .leaf) .any (.node .leaf .any .leaf)) .any (.node (.node .leaf .any .leaf) .any (.node .leaf .any .leaf)))) .any (.node (.node (.node (.node .leaf .any .leaf) .any (.node .leaf .any .leaf)) .any (.node (.node .leaf .any .leaf) .any (.node .leaf .any .leaf))) .any (.node (.node (.node .leaf .any .leaf) .any (.node .leaf .any .leaf)) .any (.node (.node .leaf .any .leaf) .any (.node .leaf .any .leaf))))) .any (.node (.node (.node (.node (.node .leaf .any .leaf) .any (.node .leaf .any .leaf)) .any (.node (.node .leaf .any .leaf) .any (.node .leaf .any .leaf))) .any (.node (.node (.node .leaf .any .leaf) .any (.node .leaf .any .leaf)) .any (.node (.node .leaf .any .leaf) .any (.node .leaf .any .leaf)))) .any (.node (.node (.node (.node .leaf .any .leaf) .any (.node .leaf .any .leaf)) .any (.node (.node .leaf .any .leaf) .any (.node .leaf .any .leaf))) .any (.node (.node (.node .leaf .any .leaf) .any (.node .leaf .any .leaf)) .any (.node (.node .leaf .any .leaf) .any (.node .leaf .any .leaf)))))) .any (.node (.node (.node (.node (.node (.node .leaf .any .leaf) .any (.node .leaf .any .leaf)) .any (.node (.node .leaf .any .leaf) .any (.node .leaf .any .leaf))) .any (.node (.node (.node .leaf .any .leaf) .any (.node .leaf .any .leaf)) .any (.node (.node .leaf .any .leaf) .any (.node .leaf .any .leaf)))) .any (.node (.node (.node (.node .leaf .any .leaf) .any (.node .leaf .any .leaf)) .any (.node (.node .leaf .any .leaf) .any (.node .leaf .any .leaf))) .any (.node (.node (.node .leaf .any .leaf) .any (.node .leaf .any .leaf)) .any (.node (.node .leaf .any .leaf) .any (.node .leaf .any .leaf))))) (.sl ((acc ++ [t]).flatMap Tok.cells) (acc ++ [t]).length (.own 1)) (.node (.node (.node (.node (.node .leaf .any .leaf) .any (.node .leaf .any .leaf)) .any (.node (.node .leaf .any .leaf) .any (.node .leaf .any .leaf))) .any (.node (.node (.node .leaf .any .leaf) .any (.node .leaf .any .leaf)) .any (.node (.node .leaf .any .leaf) .any (.node .leaf .any .leaf)))) .any (.node (.node (.node (.node .leaf .any .leaf) .any (.node .leaf .any .leaf)) .any (.node (.node .leaf .any .leaf) .any (.node .leaf .any .leaf))) .any (.node (.node (.node .leaf .any .leaf) .any (.node .leaf .any .leaf)) .any (.node (.node .leaf .any .leaf) .any (.node .leaf .any .leaf))))))) (.s s) (.node (.node (.node (.node (.node (.node (.node .leaf .any .leaf) .any (.node .leaf .any .leaf)) .any (.node (.node .leaf .any .leaf) .any (.node .leaf .any .leaf))) .any (.node (.node (.node .leaf .any .leaf) .any (.node .leaf .any .leaf)) .any (.node (.node .leaf .any .leaf) .any (.node .leaf .any .leaf)))) .any (.node (.node (.node (.node .leaf .any .leaf) .any (.node .leaf .any .leaf)) .any (.node (.node .leaf .any .leaf) .any (.node .leaf .any .leaf))) .any (.node (.node (.node .leaf .any .leaf) .any (.node .leaf .any .leaf)) .any (.node (.node .leaf .any .leaf) .any (.node .leaf .any .leaf))))) .any (.node (.node (.node (.node (.node .leaf .any .leaf) .any (.node .leaf .any .leaf)) .any (.node (.node .leaf .any .leaf) .any (.node .leaf .any .leaf))) .any (.node (.node (.node .leaf .any .leaf) .any (.node .leaf .any .leaf)) .any (.node (.node .leaf .any .leaf) .any (.node .leaf .any .leaf)))) .any (.node (.node (.node (.node .leaf .any .leaf) .any (.node .leaf .any .leaf)) .any (.node (.node .leaf .any .leaf) .any (.node .leaf .any .leaf))) .any (.node (.node (.node .leaf .any .leaf) .any (.node .leaf .any .leaf)) .any (.node (.node .leaf .any .leaf) .any (.node .leaf .any .leaf)))))) .any (.node (.node (.node (.node (.node (.node .leaf .any .leaf) .any (.node .leaf .any .leaf)) .any (.node (.node .leaf .any .leaf) .any (.node .leaf .any .leaf))) .any (.node (.node (.node .leaf .any .leaf) .any (.node .leaf .any .leaf)) .any (.node (.node .leaf .any .leaf) .any (.node .leaf .any .leaf)))) .any (.node (.node (.node (.node .leaf .any .leaf) .any (.node .leaf .any .leaf)) .any (.node (.node .leaf .any .leaf) .any (.node .leaf .any .leaf))) .any (.node (.node (.node .leaf .any .leaf) .any (.node .leaf .any .leaf)) .any (.node (.node .leaf .any .leaf) .any (.node .leaf .any .leaf))))) (.i .i64 ((k + m : Nat) : Int)) (.node (.node (.node (.node (.node .leaf .any .leaf) .any (.node .leaf .any .leaf)) .any (.node (.node .leaf .any .leaf) .any (.node .leaf .any .leaf))) .any (.node (.node (.node .leaf .any .leaf) .any (.node .leaf .any .leaf)) .any (.node (.node .leaf .any .leaf) .any (.node .leaf .any .leaf)))) .any (.node (.node (.node (.node .leaf .any .leaf) .any (.node .leaf .any .leaf)) .any (.node (.node .leaf .any .leaf) .any (.node .leaf .any .leaf))) .any (.node (.node (.node .leaf .any .leaf) .any (.node .leaf .any .leaf)) .any (.node (.node .leaf .any .leaf) .any (.node .leaf .any .leaf)))))))), [], loc', tokH (acc ++ [t]).length⟩
          (Fin [.tmp 2, .tmp 3, .tmp 4] (tokR (acc ++ [t]) (lx (r.drop (m - 1)) (k + m)))) := by
        intro t m loc' h1 h2 h3
        refine ih (r.drop (m - 1)) (k + m) (acc ++ [t]) loc' (by rw [List.length_drop]; omega) ?_ (by omega) (by simp; omega)
        rw [← List.drop_drop, hd]
        cases m with
        | zero => omega
        | succ m => rfl
      have cells_app : ∀ t : Tok, (acc ++ [t]).flatMap Tok.cells = acc.flatMap Tok.cells ++ [.i .i64 t.kind, .s t.text, .i .i64 t.at_] := fun t => by simp [Tok.cells]
      rw [U21_1]
      by_cases hlow : a.toNat < 128
      · have hdc : dec (a :: r) = (a.toNat, 1) := dec_ascii hlow r
        have i32 : decide (((a.toNat : Nat) : Int) = 32) = decide (a = 32) := decide_eq_decide.2 ⟨fun h => UInt8.toNat_inj.1 (by show a.toNat = 32; omega), fun h => by rw [h]; rfl⟩
        have i34 : decide (((a.toNat : Nat) : Int) = 34) = decide (a = 34) := decide_eq_decide.2 ⟨fun h => UInt8.toNat_inj.1 (by show a.toNat = 34; omega), fun h => by rw [h]; rfl⟩
        have i45 : decide (((a.toNat : Nat) : Int) = 45) = decide (a = 45) := decide_eq_decide.2 ⟨fun h => UInt8.toNat_inj.1 (by show a.toNat = 45; omega), fun h => by rw [h]; rfl⟩
        rw [lx_cons]
        by_cases c1 : a = 32
        · have f1 : decide (a = 32) = true := decide_eq_true c1
          rw [if_pos c1]
          have := ih r (k + 1) acc (lset loc 9 [.i .i64 0, .s [], .i .i64 k]) (by omega) (by rw [← List.drop_drop, hd]; rfl) (by omega) (by omega)
          simp only [e1, e2, hk, Nat.le_refl, tk_dec, hdc, i32, f1, w1, go_sem, ne_eq, not_false_eq_true, reduceIte, Nat.reduceMul, Nat.reduceAdd, Nat.reduceSub, Nat.reduceEqDiff, Nat.reduceLeDiff, Nat.reduceLT, List.take_succ_cons, List.take_zero, List.drop_succ_cons, List.cons_append]
          rw [M_loop]
          simp only [kz21, K21_1, List.length_cons, List.length_nil, go_sem, ne_eq, not_false_eq_true, reduceIte, Nat.reduceMul, Nat.reduceAdd, Nat.reduceSub, Nat.reduceEqDiff, Nat.reduceLeDiff, Nat.reduceLT, List.take_succ_cons, List.take_zero, List.drop_succ_cons, List.cons_append] at this ⊢
          exact this
        · have f1 : decide (a = 32) = false := decide_eq_false c1
          rw [if_neg c1]
          by_cases c2 : a = 34
          · have f2 : decide (a = 34) = true := decide_eq_true c2
            have hq := tk_quo a r (by simp only [List.length_cons]; omega)
            rw [if_pos c2]
            cases hqs : qscan r [] 1 with
            | none =>
              rw [hqs] at hq
              simp only [qres] at hq
              simp only [e1, e2, hk, Nat.le_refl, tk_dec, hdc, i32, f1, i34, f2, hq, K21_1, tokR, tokH, Int.cast_ofNat_Int, go_sem, ne_eq, not_false_eq_true, reduceIte, Nat.reduceMul, Nat.reduceAdd, Nat.reduceSub, Nat.reduceEqDiff, Nat.reduceLeDiff, Nat.reduceLT, List.take_succ_cons, List.take_zero, List.drop_succ_cons, List.cons_append]
            | some p =>
              obtain ⟨x, m⟩ := p
              rw [hqs] at hq
              simp only [qres] at hq
              obtain ⟨m1, m2⟩ := qscan_k r.length r [] 1 (Nat.le_refl _) x m hqs
              have f3 : decide ((m : Int) = 0) = false := decide_eq_false (by omega)
              have w2 : wr .i64 ((k : Int) + (m : Int)) = ((k + m : Nat) : Int) := by rw [wr64] <;> omega
              dsimp only
              rw [tokR_cons]
              have := step ⟨2, x, k⟩ m (lset loc 9 [.i .i64 2, .s x, .i .i64 k]) (by omega) (by omega) rfl
              rw [cells_app] at this
              simp only [List.length_append, List.length_cons, List.length_nil, Nat.zero_add] at this
              simp only [e1, e2, hk, Nat.le_refl, tk_dec, hdc, i32, f1, i34, f2, hq, f3, w2, hcl, hm, tokH, splice, List.take_zero, go_sem, ne_eq, not_false_eq_true, reduceIte, Nat.reduceMul, Nat.reduceAdd, Nat.reduceSub, Nat.reduceEqDiff, Nat.reduceLeDiff, Nat.reduceLT, List.take_succ_cons, List.take_zero, List.drop_succ_cons, List.cons_append]
              rw [M_loop]
              simp only [kz21, K21_1, tokH, List.length_cons, List.length_nil, Int.cast_ofNat_Int, go_sem, ne_eq, not_false_eq_true, reduceIte, Nat.reduceMul, Nat.reduceAdd, Nat.reduceSub, Nat.reduceEqDiff, Nat.reduceLeDiff, Nat.reduceLT, List.take_succ_cons, List.take_zero, List.drop_succ_cons, List.cons_append] at this ⊢
              exact this
          · have f2 : decide (a = 34) = false := decide_eq_false c2
            rw [if_neg c2]
            have hcat : ∀ m, (s.drop k).take (k + (m + 1) - k) = a :: r.take m := fun m => take_cat hd m
            by_cases c3 : letB a.toNat = true
            · rw [if_pos c3]
              have hw : wh letB (a :: r) = wh letB r + 1 := wh_pos c3
              have hle := wh_le letB r
              generalize wh letB r = w at hw hle ⊢
              have := step ⟨1, a :: r.take w, k⟩ (w + 1) (lset loc 9 [.i .i64 1, .s (a :: r.take w), .i .i64 k]) (by omega) (by omega) rfl
              rw [cells_app, Nat.add_sub_cancel] at this
              simp only [List.length_append, List.length_cons, List.length_nil, Nat.zero_add] at this
              have w2 : wr .i64 ((k : Int) + ((w + 1 : Nat) : Int)) = ((k + (w + 1) : Nat) : Int) := by rw [wr64] <;> omega
              have g1 : k + (w + 1) ≤ s.length := by omega
              have g2 : k ≤ k + (w + 1) := by omega
              rw [show k + 1 + w = k + (w + 1) from by omega, tokR_cons]
              simp only [e1, e2, hk, Nat.le_refl, tk_dec, hdc, i32, f1, i34, f2, tk_let, c3, tk_whL, hw, w2, g1, g2, hcat, hcl, hm, tokH, splice, List.take_zero, go_sem, ne_eq, not_false_eq_true, reduceIte, Nat.reduceMul, Nat.reduceAdd, Nat.reduceSub, Nat.reduceEqDiff, Nat.reduceLeDiff, Nat.reduceLT, List.take_succ_cons, List.take_zero, List.drop_succ_cons, List.cons_append]
              rw [M_loop]
              simp only [kz21, K21_1, tokH, List.length_cons, List.length_nil, Int.cast_ofNat_Int, go_sem, ne_eq, not_false_eq_true, reduceIte, Nat.reduceMul, Nat.reduceAdd, Nat.reduceSub, Nat.reduceEqDiff, Nat.reduceLeDiff, Nat.reduceLT, List.take_succ_cons, List.take_zero, List.drop_succ_cons, List.cons_append] at this ⊢
              exact this
            · rw [if_neg c3]
              have c3' : letB a.toNat = false := by simpa using c3
              by_cases c4 : digB a.toNat = true
              · rw [if_pos c4]
                have hw : wh digB (a :: r) = wh digB r + 1 := wh_pos c4
                have hle := wh_le digB r
                generalize wh digB r = w at hw hle ⊢
                have := step ⟨3, a :: r.take w, k⟩ (w + 1) (lset loc 9 [.i .i64 3, .s (a :: r.take w), .i .i64 k]) (by omega) (by omega) rfl
                rw [cells_app, Nat.add_sub_cancel] at this
                simp only [List.length_append, List.length_cons, List.length_nil, Nat.zero_add] at this
                have w2 : wr .i64 ((k : Int) + ((w + 1 : Nat) : Int)) = ((k + (w + 1) : Nat) : Int) := by rw [wr64] <;> omega
                have g1 : k + (w + 1) ≤ s.length := by omega
                have g2 : k ≤ k + (w + 1) := by omega
                rw [show k + 1 + w = k + (w + 1) from by omega, tokR_cons]
                simp only [e1, e2, hk, Nat.le_refl, tk_dec, hdc, i32, f1, i34, f2, tk_let, c3', tk_dig, c4, tk_whD, hw, w2, g1, g2, hcat, hcl, hm, tokH, splice, List.take_zero, go_sem, ne_eq, not_false_eq_true, reduceIte, Nat.reduceMul, Nat.reduceAdd, Nat.reduceSub, Nat.reduceEqDiff, Nat.reduceLeDiff, Nat.reduceLT, List.take_succ_cons, List.take_zero, List.drop_succ_cons, List.cons_append]
                rw [M_loop]
                simp only [kz21, K21_1, tokH, List.length_cons, List.length_nil, Int.cast_ofNat_Int, go_sem, ne_eq, not_false_eq_true, reduceIte, Nat.reduceMul, Nat.reduceAdd, Nat.reduceSub, Nat.reduceEqDiff, Nat.reduceLeDiff, Nat.reduceLT, List.take_succ_cons, List.take_zero, List.drop_succ_cons, List.cons_append] at this ⊢
                exact this
              · rw [if_neg c4]
                have c4' : digB a.toNat = false := by simpa using c4
                have w0 : wr .i64 ((k : Int) + 1) = ((k + 1 : Nat) : Int) := by rw [wr64] <;> omega
                by_cases c5 : a = 45 ∧ headDig r = true
                · rw [if_pos c5]
                  obtain ⟨c5, c6⟩ := c5
                  cases r with
                  | nil => cases c6
                  | cons b r2 =>
                    have f3 : decide (a = 45) = true := decide_eq_true c5
                    have c6' : digB b.toNat = true := c6
                    have hget : s[k + 1]? = some b := get_drop (by rw [← List.drop_drop, hd]; rfl)
                    have e3 : decide ((k + 1 : Nat) < (s.length : Int)) = true := decide_eq_true (by simp only [List.length_cons] at hl; omega)
                    have hb : wr .i32 ((b.toNat : Nat) : Int) = (b.toNat : Int) := by have := b.toNat_lt; simp only [wr, lo]; split <;> omega
                    have e4 : (s.drop (k + 1)).take (s.length - (k + 1)) = b :: r2 := by rw [List.take_of_length_le (by simp), ← List.drop_drop, hd]; rfl
                    have g0 : k + 1 ≤ s.length := by simp only [List.length_cons] at hl; omega
                    have hle := wh_le digB (b :: r2)
                    have hwD := tk_whD (b :: r2)
                    generalize wh digB (b :: r2) = w at hle hwD ⊢
                    generalize hr : b :: r2 = r at *
                    have w3 : wr .i64 (1 + (w : Int)) = ((w + 1 : Nat) : Int) := by rw [wr64] <;> omega
                    have := step ⟨3, a :: r.take w, k⟩ (w + 1) (lset loc 9 [.i .i64 3, .s (a :: r.take w), .i .i64 k]) (by omega) (by omega) rfl
                    rw [cells_app, Nat.add_sub_cancel] at this
                    simp only [List.length_append, List.length_cons, List.length_nil, Nat.zero_add] at this
                    have w2 : wr .i64 ((k : Int) + ((w + 1 : Nat) : Int)) = ((k + (w + 1) : Nat) : Int) := by rw [wr64] <;> omega
                    have g1 : k + (w + 1) ≤ s.length := by omega
                    have g2 : k ≤ k + (w + 1) := by omega
                    rw [show k + 1 + w = k + (w + 1) from by omega, tokR_cons]
                    simp only [e1, e2, hk, Nat.le_refl, tk_dec, hdc, i32, f1, i34, f2, tk_let, c3', tk_dig, c4', i45, f3, w0, e3, byteV, hget, hb, c6', e4, g0, hwD, w3, Int.cast_ofNat_Int, w2, g1, g2, hcat, hcl, hm, tokH, splice, List.take_zero, go_sem, ne_eq, not_false_eq_true, reduceIte, Nat.reduceMul, Nat.reduceAdd, Nat.reduceSub, Nat.reduceEqDiff, Nat.reduceLeDiff, Nat.reduceLT, List.take_succ_cons, List.take_zero, List.drop_succ_cons, List.cons_append]
                    rw [M_loop]
                    simp only [kz21, K21_1, tokH, List.length_cons, List.length_nil, Int.cast_ofNat_Int, go_sem, ne_eq, not_false_eq_true, reduceIte, Nat.reduceMul, Nat.reduceAdd, Nat.reduceSub, Nat.reduceEqDiff, Nat.reduceLeDiff, Nat.reduceLT, List.take_succ_cons, List.take_zero, List.drop_succ_cons, List.cons_append] at this ⊢
                    exact this
                · rw [if_neg c5]
                  by_cases c8 : a = 45
                  · have c7 : ¬ sgnB a.toNat = true := by rw [c8]; decide
                    have c7' : sgnB a.toNat = false := by simpa using c7
                    have f3 : decide (a = 45) = true := decide_eq_true c8
                    rw [if_neg c7]
                    cases r with
                    | nil =>
                      have e3 : decide ((k + 1 : Nat) < (s.length : Int)) = false := decide_eq_false (by simp only [List.length_nil] at hl; omega)
                      simp only [e1, e2, hk, Nat.le_refl, tk_dec, hdc, i32, f1, i34, f2, tk_let, c3', tk_dig, c4', i45, f3, w0, e3, tk_sgn, c7', K21_1, tokR, tokH, Int.cast_ofNat_Int, go_sem, ne_eq, not_false_eq_true, reduceIte, Nat.reduceMul, Nat.reduceAdd, Nat.reduceSub, Nat.reduceEqDiff, Nat.reduceLeDiff, Nat.reduceLT, List.take_succ_cons, List.take_zero, List.drop_succ_cons, List.cons_append]
                    | cons b r2 =>
                      have c6' : digB b.toNat = false := by
                        cases h : digB b.toNat with
                        | false => rfl
                        | true => exact absurd ⟨c8, h⟩ c5
                      have hget : s[k + 1]? = some b := get_drop (by rw [← List.drop_drop, hd]; rfl)
                      have e3 : decide ((k + 1 : Nat) < (s.length : Int)) = true := decide_eq_true (by simp only [List.length_cons] at hl; omega)
                      have hb : wr .i32 ((b.toNat : Nat) : Int) = (b.toNat : Int) := by have := b.toNat_lt; simp only [wr, lo]; split <;> omega
                      simp only [e1, e2, hk, Nat.le_refl, tk_dec, hdc, i32, f1, i34, f2, tk_let, c3', tk_dig, c4', i45, f3, w0, e3, byteV, hget, hb, c6', tk_sgn, c7', K21_1, tokR, tokH, Int.cast_ofNat_Int, go_sem, ne_eq, not_false_eq_true, reduceIte, Nat.reduceMul, Nat.reduceAdd, Nat.reduceSub, Nat.reduceEqDiff, Nat.reduceLeDiff, Nat.reduceLT, List.take_succ_cons, List.take_zero, List.drop_succ_cons, List.cons_append]
                  · have f3 : decide (a = 45) = false := decide_eq_false c8
                    by_cases c7 : sgnB a.toNat = true
                    · rw [if_pos c7]
                      have := step ⟨4, [a], k⟩ 1 (lset loc 9 [.i .i64 4, .s [a], .i .i64 k]) (by omega) (by omega) rfl
                      rw [cells_app, Nat.sub_self, List.drop_zero] at this
                      simp only [List.length_append, List.length_cons, List.length_nil, Nat.zero_add] at this
                      have g1 : k + 1 ≤ s.length := by omega
                      have g2 : k ≤ k + 1 := by omega
                      have hc0 : (s.drop k).take (k + 1 - k) = [a] := hcat 0
                      rw [tokR_cons]
                      simp only [e1, e2, hk, Nat.le_refl, tk_dec, hdc, i32, f1, i34, f2, tk_let, c3', tk_dig, c4', i45, f3, w0, tk_sgn, c7, g1, g2, hc0, hcl, hm, tokH, splice, List.take_zero, Int.cast_ofNat_Int, go_sem, ne_eq, not_false_eq_true, reduceIte, Nat.reduceMul, Nat.reduceAdd, Nat.reduceSub, Nat.reduceEqDiff, Nat.reduceLeDiff, Nat.reduceLT, List.take_succ_cons, List.take_zero, List.drop_succ_cons, List.cons_append]
                      rw [M_loop]
                      simp only [kz21, K21_1, tokH, List.length_cons, List.length_nil, Int.cast_ofNat_Int, go_sem, ne_eq, not_false_eq_true, reduceIte, Nat.reduceMul, Nat.reduceAdd, Nat.reduceSub, Nat.reduceEqDiff, Nat.reduceLeDiff, Nat.reduceLT, List.take_succ_cons, List.take_zero, List.drop_succ_cons, List.cons_append] at this ⊢
                      exact this
                    · have c7' : sgnB a.toNat = false := by simpa using c7
                      rw [if_neg c7]
                      simp only [e1, e2, hk, Nat.le_refl, tk_dec, hdc, i32, f1, i34, f2, tk_let, c3', tk_dig, c4', i45, f3, tk_sgn, c7', K21_1, tokR, tokH, Int.cast_ofNat_Int, go_sem, ne_eq, not_false_eq_true, reduceIte, Nat.reduceMul, Nat.reduceAdd, Nat.reduceSub, Nat.reduceEqDiff, Nat.reduceLeDiff, Nat.reduceLT, List.take_succ_cons, List.take_zero, List.drop_succ_cons, List.cons_append]
      · have hh := dec_high (r := r) hlow
        have h1 : decide (((dec (a :: r)).1 : Int) = 32) = false := decide_eq_false (by omega)
        have h2 : decide (((dec (a :: r)).1 : Int) = 34) = false := decide_eq_false (by omega)
        have h3 : decide (((dec (a :: r)).1 : Int) = 45) = false := decide_eq_false (by omega)
        have l1 := let_hi _ hh
        have l2 := dig_hi _ hh
        have l3 := sgn_hi _ hh
        have n1 : a ≠ 32 := fun h => hlow (by rw [h]; decide)
        have n2 : a ≠ 34 := fun h => hlow (by rw [h]; decide)
        have n3 : ¬ (a = 45 ∧ headDig r = true) := fun h => hlow (by rw [h.1]; decide)
        rw [lx_cons, if_neg n1, if_neg n2, let_hi a.toNat (by omega), dig_hi a.toNat (by omega), sgn_hi a.toNat (by omega), if_neg n3]
        simp only [e1, e2, hk, Nat.le_refl, tk_dec, h1, h2, h3, tk_let, l1, tk_dig, l2, tk_sgn, l3, Bool.false_eq_true, if_false, K21_1, tokR, tokH, Int.cast_ofNat_Int, go_sem, ne_eq, not_false_eq_true, reduceIte, Nat.reduceMul, Nat.reduceAdd, Nat.reduceSub, Nat.reduceEqDiff, Nat.reduceLeDiff, Nat.reduceLT, List.take_succ_cons, List.take_zero, List.drop_succ_cons, List.cons_append]
/-- The tokens of a text. -/
theorem w_Tokens (s : List UInt8) (hs : s.length ≤ 1048576) (gl : Nat → List V) : M X_toks (kz21) (.code B21) [] (St.init gl 8 [.s s] {}) (Fin [.tmp 2, .tmp 3, .tmp 4] (tokR [] (lx s 0))) := by
  rw [U21]
  simp only [go_sem, ne_eq, not_false_eq_true, reduceIte, Nat.reduceMul, Nat.reduceAdd, Nat.reduceSub, Nat.reduceEqDiff, Nat.reduceLeDiff, Nat.reduceLT, List.take_succ_cons, List.take_zero, List.drop_succ_cons, List.cons_append]
  rw [M_loop]
  have := w_Tokens_loop s hs gl s.length s 0 [] [] (Nat.le_refl _) rfl (by omega) (by simp)
  simp only [kz21, K21_1, tokH, List.flatMap_nil, List.length_cons, List.length_nil, Int.cast_ofNat_Int, go_sem, ne_eq, not_false_eq_true, reduceIte, Nat.reduceMul, Nat.reduceAdd, Nat.reduceSub, Nat.reduceEqDiff, Nat.reduceLeDiff, Nat.reduceLT, List.take_succ_cons, List.take_zero, List.drop_succ_cons, List.cons_append] at this ⊢
  exact this
def F_Tokens (a : List V) : Option V := match a with
  | [.s s] => if s.length ≤ 1048576 then some (tokR [] (lx s 0)) else none
  | _ => none
theorem F_Tokens1 (s : List UInt8) (h : s.length ≤ 1048576) : F_Tokens [.s s] = some (tokR [] (lx s 0)) := if_pos h
theorem o_Tokens : ∀ a v, F_Tokens a = some v → Comp tabx told 21 a v := fun a v e => by
  unfold F_Tokens at e
  split at e
  · split at e
    · rename_i h; cases e; exact comp_of t_toks (fn := af21) rfl (Nat.le_of_ble_eq_true rfl) fun gl => w_Tokens _ h gl
    · cases e
  · cases e
end Go.Proofs.YtbhclhgljnoioaaDoor
set_option linter.unusedSimpArgs false
set_option linter.unusedVariables false
namespace Go.Proofs.YtbhclhgljnoioaaDoor
open Ai
theorem t8 {n : Nat} (h : n < 256) : (UInt8.ofNat n).toNat = n := by rw [UInt8.toNat_ofNat']; omega
theorem dec_enc {c : Nat} (h : oks c) (t : List UInt8) : dec (enc c ++ t) = (c, (enc c).length) := by
  have hc : c < 55296 ∨ (57343 < c ∧ c ≤ 1114111) := h
  unfold enc
  by_cases k1 : c < 128
  · rw [if_pos k1]
    have := dec_ascii (a := UInt8.ofNat c) (by rw [t8 (by omega)]; omega) t
    rw [t8 (by omega)] at this
    exact this
  · rw [if_neg k1]
    by_cases k2 : c < 2048
    · rw [if_pos k2, dec_F]
      simp only [List.cons_append, List.nil_append, List.getD_cons_zero, List.getD_cons_succ, contB, List.length_cons, List.length_nil]
      rw [t8 (show 192 + c / 64 < 256 by omega), t8 (show 128 + c % 64 < 256 by omega)]
      unfold decF
      rw [if_neg (by omega)]
      have e1 : (192 + c / 64) / 32 = 6 := by omega
      have e2 : (128 + c % 64) / 64 = 2 := by omega
      have e3 : (192 + c / 64) % 32 * 64 + (128 + c % 64) % 64 = c := by omega
      have e4 : decide (1 < t.length + 1 + 1) = true := decide_eq_true (by omega)
      simp only [e1, e2, e3, e4, beq_self_eq_true, Bool.and_self, if_true]
      rw [if_pos (by omega)]
    · rw [if_neg k2]
      by_cases k3 : c < 65536
      · rw [if_pos k3, dec_F]
        simp only [List.cons_append, List.nil_append, List.getD_cons_zero, List.getD_cons_succ, contB, List.length_cons, List.length_nil]
        rw [t8 (show 224 + c / 4096 < 256 by omega), t8 (show 128 + c / 64 % 64 < 256 by omega), t8 (show 128 + c % 64 < 256 by omega)]
        unfold decF
        rw [if_neg (by omega)]
        have e0 : ((224 + c / 4096) / 32 == 6) = false := by simp; omega
        have e1 : (224 + c / 4096) / 16 = 14 := by omega
        have e2 : (128 + c / 64 % 64) / 64 = 2 := by omega
        have e2' : (128 + c % 64) / 64 = 2 := by omega
        have e3 : (224 + c / 4096) % 16 * 4096 + (128 + c / 64 % 64) % 64 * 64 + (128 + c % 64) % 64 = c := by omega
        have e4 : decide (1 < t.length + 1 + 1 + 1) = true := decide_eq_true (by omega)
        have e5 : decide (2 < t.length + 1 + 1 + 1) = true := decide_eq_true (by omega)
        have e6 : Utf8.valid c = true := by simp [Utf8.valid]; omega
        have e7 : decide (c ≥ 2048) = true := decide_eq_true (by omega)
        simp only [e0, e1, e2, e2', e3, e4, e5, e6, e7, beq_self_eq_true, Bool.and_self, Bool.false_and, Bool.false_eq_true, if_false, if_true]
      · rw [if_neg k3, dec_F]
        simp only [List.cons_append, List.nil_append, List.getD_cons_zero, List.getD_cons_succ, contB, List.length_cons, List.length_nil]
        rw [t8 (show 240 + c / 262144 < 256 by omega), t8 (show 128 + c / 4096 % 64 < 256 by omega), t8 (show 128 + c / 64 % 64 < 256 by omega), t8 (show 128 + c % 64 < 256 by omega)]
        unfold decF
        rw [if_neg (by omega)]
        have e0 : ((240 + c / 262144) / 32 == 6) = false := by simp; omega
        have e0' : ((240 + c / 262144) / 16 == 14) = false := by simp; omega
        have e1 : (240 + c / 262144) / 8 = 30 := by omega
        have e2 : (128 + c / 4096 % 64) / 64 = 2 := by omega
        have e2' : (128 + c / 64 % 64) / 64 = 2 := by omega
        have e2'' : (128 + c % 64) / 64 = 2 := by omega
        have e3 : (240 + c / 262144) % 8 * 262144 + (128 + c / 4096 % 64) % 64 * 4096 + (128 + c / 64 % 64) % 64 * 64 + (128 + c % 64) % 64 = c := by omega
        have e4 : decide (1 < t.length + 1 + 1 + 1 + 1) = true := decide_eq_true (by omega)
        have e5 : decide (2 < t.length + 1 + 1 + 1 + 1) = true := decide_eq_true (by omega)
        have e5' : decide (3 < t.length + 1 + 1 + 1 + 1) = true := decide_eq_true (by omega)
        have e6 : Utf8.valid c = true := by simp [Utf8.valid]; omega
        have e7 : decide (c ≥ 65536) = true := decide_eq_true (by omega)
        simp only [e0, e0', e1, e2, e2', e2'', e3, e4, e5, e5', e6, e7, beq_self_eq_true, Bool.and_self, Bool.false_and, Bool.false_eq_true, if_false, if_true]
theorem enc_dec {a : UInt8} {r : List UInt8} (h : ¬ ((dec (a :: r)).1 = 65533 ∧ (dec (a :: r)).2 = 1)) : enc (dec (a :: r)).1 = (a :: r).take (dec (a :: r)).2 := by
  have e := Lib.encode_decode (a :: r) (by simp) (by rw [decodeL_dec]; exact h)
  rw [decodeL_dec] at e
  rw [← e]
  have ho : (dec (a :: r)).1 < 55296 ∨ (57343 < (dec (a :: r)).1 ∧ (dec (a :: r)).1 ≤ 1114111) := dec_oks (a :: r)
  generalize (dec (a :: r)).1 = c at ho
  have b8 : ∀ z : Int, (z.toNat).toUInt8 = UInt8.ofNat z.toNat := fun z => rfl
  have n8 : ∀ (z : Int) (n : Nat), z = (n : Int) → (z.toNat).toUInt8 = UInt8.ofNat n := fun z n hz => by rw [b8, hz]; rfl
  unfold enc
  by_cases k1 : c < 128
  · rw [if_pos k1]
    unfold Lib.encodeRune Lib.encodeRuneZ
    rw [if_pos (by omega)]
    simp only [List.map_cons, List.map_nil]
    rw [n8 _ c (by omega)]
  · rw [if_neg k1]
    by_cases k2 : c < 2048
    · rw [if_pos k2]
      unfold Lib.encodeRune Lib.encodeRuneZ
      rw [if_neg (by omega), if_pos (by omega)]
      simp only [List.map_cons, List.map_nil]
      rw [n8 _ (192 + c / 64) (by omega), n8 _ (128 + c % 64) (by omega)]
    · rw [if_neg k2]
      by_cases k3 : c < 65536
      · rw [if_pos k3]
        unfold Lib.encodeRune Lib.encodeRuneZ
        rw [if_neg (by omega), if_neg (by omega), if_pos (by omega)]
        simp only [List.map_cons, List.map_nil]
        rw [n8 _ (224 + c / 4096) (by omega), n8 _ (128 + c / 64 % 64) (by omega), n8 _ (128 + c % 64) (by omega)]
      · rw [if_neg k3]
        unfold Lib.encodeRune Lib.encodeRuneZ
        rw [if_neg (by omega), if_neg (by omega), if_neg (by omega), if_pos (by omega)]
        simp only [List.map_cons, List.map_nil]
        rw [n8 _ (240 + c / 262144) (by omega), n8 _ (128 + c / 4096 % 64) (by omega), n8 _ (128 + c / 64 % 64) (by omega), n8 _ (128 + c % 64) (by omega)]
/-! ### A text in quotes -/
theorem index_at : ∀ (p t : List UInt8), (125 : UInt8) ∉ p → Lib.indexByte (p ++ 125 :: t) 125 = p.length := by
  intro p
  induction p with
  | nil => intro t _; simp [Lib.indexByte]
  | cons a r ih =>
    intro t h
    simp only [List.mem_cons, not_or] at h
    have := ih t h.2
    rw [List.cons_append, Lib.indexByte]
    have hne : (a == 125) = false := by simpa using fun e : a = 125 => h.1 e.symm
    simp only [hne, Bool.false_eq_true, if_false, this]
    simp
/-! ### Texts put together -/
theorem dec_sp (a : UInt8) (r t : List UInt8) : dec (a :: (r ++ 32 :: t)) = dec (a :: r) := by
  have a2 := a.toNat_lt
  rw [dec_F, dec_F]
  match r with
  | [] => simp [contB, decF]
  | [b] => simp [contB, decF]
  | [b, c] => simp [contB, decF]
  | b :: c :: d :: r => simp [contB, decF]
theorem index_sp (c : UInt8) (u : List UInt8) : ∀ s : List UInt8, 0 ≤ Lib.indexByte s c → Lib.indexByte (s ++ u) c = Lib.indexByte s c := by
  intro s
  induction s with
  | nil => intro h; simp [Lib.indexByte] at h
  | cons a r ih =>
    intro h
    rw [List.cons_append, Lib.indexByte]
    rw [Lib.indexByte] at h ⊢
    split
    · rfl
    · rename_i hne
      rw [if_neg hne] at h
      by_cases hr : (Lib.indexByte r c == -1) = true
      · rw [if_pos hr] at h; omega
      · have hm : c ∈ r := by
          apply Decidable.byContradiction
          intro hm
          exact hr (by rw [(index_miss r c).2 hm]; rfl)
        have h0 := index_neg r c
        rw [decide_eq_true hm] at h0
        rw [ih (of_decide_eq_true h0)]
theorem hexV_app {s : List UInt8} (h : (hexV s).2 ≠ 0) (u : List UInt8) : hexV (s ++ u) = hexV s := by
  unfold hexV at h ⊢
  by_cases hc : s.length < 3 ∨ s.head? ≠ some 123 ∨ Lib.indexByte s 125 < 2 ∨ 7 < Lib.indexByte s 125
  · rw [if_pos hc] at h; exact absurd rfl h
  · have i3 : Lib.indexByte s 125 < s.length := index_lt s 125 (by omega)
    have e := index_sp 125 u s (by omega)
    have hh : (s ++ u).head? = s.head? := by cases s with | nil => simp at hc | cons a r => rfl
    have ht : ((s ++ u).drop 1).take ((Lib.indexByte s 125).toNat - 1) = (s.drop 1).take ((Lib.indexByte s 125).toNat - 1) := by
      rw [List.drop_append_of_le_length (by omega), List.take_append_of_le_length (by rw [List.length_drop]; omega)]
    rw [e, hh, ht, if_neg (fun h => hc (h.imp (fun h => by rw [List.length_append] at h; omega) id)), if_neg hc]
theorem qscan_sp (u : List UInt8) : ∀ (n : Nat) (l out : List UInt8) (k : Nat) (p : List UInt8 × Nat), l.length ≤ n → qscan l out k = some p → qscan (l ++ 32 :: u) out k = some p := by
  intro n
  induction n with
  | zero =>
    intro l out k p hn h
    obtain rfl : l = [] := List.length_eq_zero_iff.1 (by omega)
    rw [qscan_nil] at h; cases h
  | succ n ih =>
    intro l out k p hn h
    cases l with
    | nil => rw [qscan_nil] at h; cases h
    | cons a r =>
      simp only [List.length_cons] at hn
      have hd := dec_sp a r u
      have hle := dec_le a r
      rw [List.cons_append]
      by_cases c1 : (dec (a :: r)).1 = 34
      · rw [qscan_end c1] at h; rw [qscan_end (by rw [hd]; exact c1)]; exact h
      · by_cases c2 : (dec (a :: r)).1 = 65533 ∧ (dec (a :: r)).2 = 1
        · rw [qscan_bad c2.1 c2.2] at h; cases h
        · by_cases c3 : (dec (a :: r)).1 = 92
          · have ha := dec_92 c3
            subst ha
            cases r with
            | nil => rw [qscan_esc0] at h; cases h
            | cons b t =>
              simp only [List.length_cons] at hn
              rw [List.cons_append, qscan_esc]
              rw [qscan_esc] at h
              split at h
              · rename_i hb; rw [if_pos hb]; exact ih t _ _ p (by omega) h
              · rename_i hb
                rw [if_neg hb]
                split at h
                · rename_i h7
                  rw [if_pos h7]
                  split at h
                  · cases h
                  · rename_i k4
                    obtain ⟨v1, v2, v3⟩ := hexV_ok t k4
                    rw [hexV_app k4, if_neg k4, List.drop_append_of_le_length v2]
                    exact ih (t.drop (hexV t).2) _ _ p (by rw [List.length_drop]; omega) h
                · cases h
          · rw [qscan_rune c1 c2 c3] at h
            rw [qscan_rune (by rw [hd]; exact c1) (by rw [hd]; exact c2) (by rw [hd]; exact c3), hd, ← List.cons_append, List.drop_append_of_le_length hle]
            have := dec_nil_free a r
            exact ih _ _ _ p (by simp only [List.length_cons] at this; omega) h
def Lx.app (m : List Tok) : Lx → Lx
  | .ok l => .ok (m ++ l)
  | x => x
theorem Lx.cons_ok {t : Tok} {x : Lx} {m : List Tok} (h : x.cons t = .ok m) : ∃ m', x = .ok m' ∧ m = t :: m' := by
  cases x with
  | ok l => simp only [Lx.cons, Lx.ok.injEq] at h; exact ⟨l, rfl, h.symm⟩
  | bad a e => cases h
end Go.Proofs.YtbhclhgljnoioaaDoor
set_option linter.unusedSimpArgs false
set_option linter.unusedVariables false
namespace Go.Proofs.YtbhclhgljnoioaaDoor
open Ai
theorem tok_drop (pre post : List Tok) : ((pre ++ post).flatMap Tok.cells).drop (pre.length * 3) = post.flatMap Tok.cells := by
  rw [List.flatMap_append, ← toks_len pre, List.drop_left]
theorem quoteV_len (l : List UInt8) : (quoteV l).length ≤ 10 * l.length + 2 := by
  unfold quoteV
  have h1 := rns_le l
  have h2 : ∀ cs : List Nat, (cs.flatMap qt).length ≤ 10 * cs.length := by
    intro cs
    induction cs with
    | nil => simp
    | cons c cs ih => have := qt_len c; simp only [List.flatMap_cons, List.length_append, List.length_cons]; omega
  have := h2 (rns l)
  simp only [List.length_cons, List.length_append, List.length_nil]; omega
theorem lx_len : ∀ (n : Nat) (l : List UInt8) (k : Nat) (m : List Tok), l.length ≤ n → lx l k = .ok m → m.length ≤ l.length := by
  intro n
  induction n with
  | zero =>
    intro l k m hn h
    obtain rfl : l = [] := List.length_eq_zero_iff.1 (by omega)
    rw [lx_nil] at h; cases h; exact Nat.le_refl _
  | succ n ih =>
    intro l k m hn h
    cases l with
    | nil => rw [lx_nil] at h; cases h; exact Nat.le_refl _
    | cons a r =>
      simp only [List.length_cons] at hn ⊢
      rw [lx_cons] at h
      split at h
      · have := ih r _ _ (by omega) h; omega
      · split at h
        · cases hq : qscan r [] 1 with
          | none => rw [hq] at h; cases h
          | some p =>
            obtain ⟨x, j⟩ := p
            rw [hq] at h
            obtain ⟨m', e1, rfl⟩ := Lx.cons_ok h
            have := ih _ _ _ (by rw [List.length_drop]; omega) e1
            rw [List.length_drop] at this
            simp only [List.length_cons]; omega
        · split at h
          · obtain ⟨m', e1, rfl⟩ := Lx.cons_ok h
            have := ih _ _ _ (by rw [List.length_drop]; omega) e1
            rw [List.length_drop] at this
            simp only [List.length_cons]; omega
          · split at h
            · obtain ⟨m', e1, rfl⟩ := Lx.cons_ok h
              have := ih _ _ _ (by rw [List.length_drop]; omega) e1
              rw [List.length_drop] at this
              simp only [List.length_cons]; omega
            · split at h
              · obtain ⟨m', e1, rfl⟩ := Lx.cons_ok h
                have := ih _ _ _ (by rw [List.length_drop]; omega) e1
                rw [List.length_drop] at this
                simp only [List.length_cons]; omega
              · split at h
                · obtain ⟨m', e1, rfl⟩ := Lx.cons_ok h
                  have := ih _ _ _ (by omega) e1
                  simp only [List.length_cons]; omega
                · cases h
theorem Lx.cons_bad {t : Tok} {x : Lx} {a e : Nat} (h : x.cons t = .bad a e) : x = .bad a e := by
  cases x with
  | ok l => cases h
  | bad b f => exact h
/-- Where a text is no tokens: within it, and why. -/
theorem lx_bad : ∀ (n : Nat) (l : List UInt8) (k a e : Nat), l.length ≤ n → lx l k = .bad a e → (e = 190 ∨ e = 191) ∧ k ≤ a ∧ a < k + l.length := by
  intro n
  induction n with
  | zero =>
    intro l k a e hn h
    obtain rfl : l = [] := List.length_eq_zero_iff.1 (by omega)
    rw [lx_nil] at h; cases h
  | succ n ih =>
    intro l k b e hn h
    cases l with
    | nil => rw [lx_nil] at h; cases h
    | cons a r =>
      simp only [List.length_cons] at hn ⊢
      rw [lx_cons] at h
      have wl := wh_le letB r
      have wd := wh_le digB r
      split at h
      · have := ih r _ _ _ (by omega) h; omega
      · split at h
        · cases hq : qscan r [] 1 with
          | none => rw [hq] at h; cases h; omega
          | some p =>
            obtain ⟨x, j⟩ := p
            rw [hq] at h
            obtain ⟨m1, m2⟩ := qscan_k r.length r [] 1 (Nat.le_refl _) x j hq
            have := ih _ _ _ _ (by rw [List.length_drop]; omega) (Lx.cons_bad h)
            rw [List.length_drop] at this
            omega
        · split at h
          · have := ih _ _ _ _ (by rw [List.length_drop]; omega) (Lx.cons_bad h)
            rw [List.length_drop] at this
            omega
          · split at h
            · have := ih _ _ _ _ (by rw [List.length_drop]; omega) (Lx.cons_bad h)
              rw [List.length_drop] at this
              omega
            · split at h
              · have := ih _ _ _ _ (by rw [List.length_drop]; omega) (Lx.cons_bad h)
                rw [List.length_drop] at this
                omega
              · split at h
                · have := ih _ _ _ _ (by omega) (Lx.cons_bad h)
                  omega
                · cases h; omega
end Go.Proofs.YtbhclhgljnoioaaDoor
set_option linter.unusedSimpArgs false
set_option linter.unusedVariables false
namespace Go.Proofs.YtbhclhgljnoioaaDoor
open Ai
def F_Quote (a : List V) : Option V := match a with
  | [.s l] => if l.length ≤ 8192 then some (.s (quoteV l)) else none
  | _ => none
theorem F_Quote1 (l : List UInt8) (h : l.length ≤ 8192) : F_Quote [.s l] = some (.s (quoteV l)) := if_pos h
theorem o_Quote : ∀ a v, F_Quote a = some v → Comp tabx told 12 a v := fun a v e => by
  unfold F_Quote at e
  split at e
  · split at e
    · rename_i h; cases e; exact c_Quote _ h
    · cases e
  · cases e
end Go.Proofs.YtbhclhgljnoioaaDoor
