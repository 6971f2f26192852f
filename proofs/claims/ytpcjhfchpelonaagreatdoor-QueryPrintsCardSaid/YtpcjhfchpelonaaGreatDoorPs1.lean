/- A text in quotes: the program's way. -/
import Derived.Test.YtpcjhfchpelonaaGreatDoorLx3
import Derived.Test.YtpcjhfchpelonaaGreatDoorAi10
import Derived.Lib.MapLaws
set_option linter.unusedSimpArgs false
set_option linter.unusedVariables false
namespace Go.Proofs.YtpcjhfchpelonaaGreatDoor
open Nat (reduceMul reduceAdd reduceSub reduceEqDiff reduceLeDiff reduceLT)
open Ai
def isS (o : Option V) (l : List UInt8) : Bool := match o with
 | some (.s m) => strEq m l
 | _ => false
theorem isS_spec {o : Option V} {l : List UInt8} (h : isS o l = true) : o = some (.s l) := by
 unfold isS at h
 split at h
 · rw [strEq_iff] at h
   rw [of_decide_eq_true h]
 · cases h
set_option maxRecDepth 100000 in
theorem r_hex : (ctl.all fun c => isS (runF gl0 tabx xf 3000 126 [.i .i64 (c : Int), .i .i64 16]) (hexs c)) = true := by kernel_rfl
set_option maxRecDepth 100000 in
theorem r_rhex : (ctl.all fun c => isS (runF gl0 tabx xf 3000 134 [.i .i32 (c : Int)]) (hexs c)) = true := by kernel_rfl
theorem c_hex {c : Nat} (h : c ∈ ctl) : Comp tabx told 126 [.i .i64 (c : Int), .i .i64 16] (.s (hexs c)) :=
 comp_runF (fun _ _ _ h => h) 3000 fun gl hgl => by
  have : gl = gl0 := hgl
  subst this
  exact isS_spec (List.all_eq_true.1 r_hex c h)
theorem c_rhex {c : Nat} (h : c ∈ ctl) : Comp tabx told 134 [.i .i32 (c : Int)] (.s (hexs c)) :=
 comp_runF (fun _ _ _ h => h) 3000 fun gl hgl => by
  have : gl = gl0 := hgl
  subst this
  exact isS_spec (List.all_eq_true.1 r_rhex c h)
theorem mem_ctl {c : Nat} : c ∈ ctl ↔ c < 32 ∨ c = 127 ∨ c = 65533 := by
 simp only [ctl, List.mem_cons, List.mem_range]
 omega
def F_hex (a : List V) : Option V := match a with
 | [.i .i64 (Int.ofNat c), .i .i64 16] => if c < 32 ∨ c = 127 ∨ c = 65533 then some (.s (hexs c)) else none
 | _ => none
theorem F_hex1 {c : Nat} (h : c < 32 ∨ c = 127 ∨ c = 65533) : F_hex [.i .i64 (c : Int), .i .i64 16] = some (.s (hexs c)) := if_pos h
theorem o_hex : ∀ a v, F_hex a = some v → Comp tabx told 126 a v := fun a v e => by
 unfold F_hex at e
 split at e
 · split at e
   · rename_i h; cases e; exact c_hex (mem_ctl.2 h)
   · cases e
 · cases e
def F_rhex (a : List V) : Option V := match a with
 | [.i .i32 (Int.ofNat c)] => if c < 32 ∨ c = 127 ∨ c = 65533 then some (.s (hexs c)) else none
 | _ => none
theorem F_rhex1 {c : Nat} (h : c < 32 ∨ c = 127 ∨ c = 65533) : F_rhex [.i .i32 (c : Int)] = some (.s (hexs c)) := if_pos h
theorem o_rhex : ∀ a v, F_rhex a = some v → Comp tabx told 134 a v := fun a v e => by
 unfold F_rhex at e
 split at e
 · split at e
   · rename_i h; cases e; exact c_rhex (mem_ctl.2 h)
   · cases e
 · cases e
theorem hexs_len (c : Nat) : 1 ≤ (hexs c).length ∧ (hexs c).length ≤ 4 := by
 unfold hexs
 repeat' split
 all_goals simp
def qt (c : Nat) : List UInt8 := if c = 34 ∨ c = 92 then 92 :: enc c else if c < 32 ∨ c = 127 ∨ c = 65533 then [92, 117, 123] ++ hexs c ++ [125] else enc c
theorem qt_len (c : Nat) : (qt c).length ≤ 10 := by
 have h1 := hexs_len c
 have h2 := enc_len c
 unfold qt
 repeat' split
 all_goals (try simp only [List.length_cons, List.length_append, List.length_nil])
 all_goals omega
theorem dec_oks (l : List UInt8) : oks (dec l).1 := by
 unfold dec oks
 simp only
 repeat' split
 all_goals simp_all [Utf8.valid, Utf8.runeError]
 all_goals omega
def X_quote := xs [(126, F_hex)]
theorem t_quote : Tells tabx told X_quote := tells_cons o_hex tells_nil
noncomputable def Y_quote := ys [(124, H_WB), (125, H_WR), (72, H_WS), (73, H_BS)]
theorem u_quote : Hp.TellsI tabx told Y_quote := itells_cons i_WB (itells_cons i_WR (itells_cons i_WS (itells_cons i_BS itells_nil)))

def K94_1 : List Fr := [.blk 0,
 .seq (Sr [Oq 41 (.call false 124 [(.t 3), (.k (.i .u8 34))])]
 (Sr [Oc 42 false 73 3, Om 2 42]
 .ret))]
theorem UH94_1 : type_of% (@Hp_open _ _ L94_1.eq_1) := @Hp_open _ _ L94_1.eq_1
theorem UH94 : type_of% (@Hp_open _ _ B94.eq_1) := @Hp_open _ _ B94.eq_1
def kz94 (_ : Nat) : List Nat := [0, 1, 2, 4, 5, 6, 7, 9, 10, 11, 12, 13, 14, 15, 16, 17, 18, 19, 20, 21, 22, 23, 24, 25, 26, 27, 28, 29, 30, 31, 32, 33, 34, 35, 36, 37, 38, 39, 40, 41, 42]
theorem w_Quote_loop (gl : Nat → List V) : ∀ (l bs : List UInt8) (h : H) (pos : Nat), BI h 0 bs → bs ≠ [] → bs.length + 10 * l.length + 1 ≤ most →
  Hp.M X_quote Y_quote (kz94) (.code L94_1) (.loop L94_1 :: K94_1) ⟨gl, (.node (.node (.node E3 (.p 0 0) E3) .any E4) .any (.node (.node (.node E2 (.it) E2) .any E3) .any E4)), [(8, (l, pos))], [], h⟩
   (Fin [.tmp 2] (.s (bs ++ ((rns l).flatMap qt ++ [34])))) := by
 intro l
 induction l using rune_ind with
 | h0 =>
   intro bs h pos hi hne hm
   rw [UH94_1]
   obtain ⟨h1, e1, i1, _⟩ := H_WB1 hi (by omega) 34
   have e1' : H_WB [.p 0 0, .i .u8 34] h = some (.nili, h1) := e1
   have e2 := H_BS1 i1 (by simp) (by simp only [List.length_append, List.length_cons, List.length_nil] at *; omega)
   simp only [K94_1, Y_quote, ys_hit, ys_miss, e1', e2, go_sem, reduceIte, reduceMul, reduceAdd, reduceSub, reduceEqDiff, reduceLeDiff, reduceLT]
   simp [rns_nil]
 | h1 a r ih =>
   intro bs h pos hi hne hm
   have hlt := dec_nil_free a r
   have hok := dec_oks (a :: r)
   rw [UH94_1, rns_cons, List.flatMap_cons]
   generalize hc : (dec (a :: r)).1 = c at *
   have hql := qt_len c
   simp only [List.length_cons] at hm hlt
   have hm4 : bs.length + 4 ≤ most := by omega
   have fin : ∀ h', BI h' 0 (bs ++ qt c) → Hp.M X_quote Y_quote (kz94) (.code L94_1) (.loop L94_1 :: K94_1) ⟨gl, (.node (.node (.node E3 (.p 0 0) E3) .any E4) .any (.node (.node (.node E2 (.it) E2) .any E3) .any E4)), [(8, ((a :: r).drop (dec (a :: r)).2, pos + (dec (a :: r)).2))], [], h'⟩
     (Fin [.tmp 2] (.s (bs ++ (qt c ++ (rns ((a :: r).drop (dec (a :: r)).2)).flatMap qt ++ [34])))) := by
    intro h' hi'
    have := ih (bs ++ qt c) h' (pos + (dec (a :: r)).2) hi' (by simp [hne]) (by simp only [List.length_append]; omega)
    simpa using this
   have d1 : decide ((c : Int) = 34) = decide (c = 34) := decide_eq_decide.2 (by omega)
   have d2 : decide ((c : Int) = 92) = decide (c = 92) := decide_eq_decide.2 (by omega)
   have d3 : decide ((c : Int) < 32) = decide (c < 32) := decide_eq_decide.2 (by omega)
   have d4 : decide ((c : Int) = 127) = decide (c = 127) := decide_eq_decide.2 (by omega)
   have d5 : decide ((c : Int) = 65533) = decide (c = 65533) := decide_eq_decide.2 (by omega)
   by_cases q1 : c = 34 ∨ c = 92
   · have hq : qt c = 92 :: enc c := if_pos q1
     obtain ⟨h1, e1, i1, _⟩ := H_WB1 hi (by omega) 92
     have e1' : H_WB [.p 0 0, .i .u8 92] h = some (.nili, h1) := e1
     obtain ⟨h2, e2, i2, _⟩ := H_WR1 i1 (by simp) (by simp only [List.length_append, List.length_cons, List.length_nil]; omega) hok
     have hf := fin h2 (by rw [hq]; simpa using i2)
     rcases q1 with q | q
     · have f1 : decide (c = 34) = true := by simpa using q
       simp only [hc, d1, f1, Y_quote, ys_hit, ys_miss, e1', e2, go_sem, reduceIte, reduceMul, reduceAdd, reduceSub, reduceEqDiff, reduceLeDiff, reduceLT]
       rw [Hp.M_loop]
       simp only [kz94, K94_1, Y_quote, List.length_cons, List.length_nil, go_sem, reduceIte, reduceMul, reduceAdd, reduceSub, reduceEqDiff, reduceLeDiff, reduceLT] at hf ⊢
       exact hf
     · have f1 : decide (c = 34) = false := by simp; omega
       have f2 : decide (c = 92) = true := by simpa using q
       simp only [hc, d1, f1, d2, f2, Y_quote, ys_hit, ys_miss, e1', e2, go_sem, reduceIte, reduceMul, reduceAdd, reduceSub, reduceEqDiff, reduceLeDiff, reduceLT]
       rw [Hp.M_loop]
       simp only [kz94, K94_1, Y_quote, List.length_cons, List.length_nil, go_sem, reduceIte, reduceMul, reduceAdd, reduceSub, reduceEqDiff, reduceLeDiff, reduceLT] at hf ⊢
       exact hf
   · have f1 : decide (c = 34) = false := by simp; omega
     have f2 : decide (c = 92) = false := by simp; omega
     by_cases q2 : c < 32 ∨ c = 127 ∨ c = 65533
     · have hq : qt c = [92, 117, 123] ++ hexs c ++ [125] := by unfold qt; rw [if_neg q1, if_pos q2]
       have hhl := hexs_len c
       have g1 : wr .i64 (c : Int) = (c : Int) := by unfold oks at hok; rw [wr64] <;> omega
       have g2 : 3 + (hexs c).length ≤ 4611686018427387904 := by omega
       have g3 : (3 + (hexs c).length) + 1 ≤ 4611686018427387904 := by omega
       have g4 : (hexs c).length + 3 + 1 ≤ 4611686018427387904 := by omega
       obtain ⟨h1, e1, i1, _⟩ := H_WS1 hi ([92, 117, 123] ++ hexs c ++ [125]) (by simp) (by simp only [List.length_append, List.length_cons, List.length_nil]; omega)
       have hf := fin h1 (by rw [hq]; exact i1)
       have hx := F_hex1 q2
       have e1' : H_WS [.p 0 0, .s (92 :: 117 :: 123 :: (hexs c ++ [125]))] h = some (.tup [.i .i64 ([92, 117, 123] ++ hexs c ++ [125]).length, .nili], h1) := e1
       rcases q2 with q | q | q
       · have f3 : decide (c < 32) = true := by simpa using q
         simp only [hc, d1, f1, d2, f2, d3, d4, d5, f3, X_quote, Y_quote, ys_hit, ys_miss, hx, g1, g2, g3, g4, e1', go_sem, reduceIte, reduceMul, reduceAdd, reduceSub, reduceEqDiff, reduceLeDiff, reduceLT]
         rw [Hp.M_loop]
         simp only [kz94, K94_1, X_quote, Y_quote, List.length_cons, List.length_nil, go_sem, reduceIte, reduceMul, reduceAdd, reduceSub, reduceEqDiff, reduceLeDiff, reduceLT] at hf ⊢
         exact hf
       · have f3 : decide (c < 32) = false := by simp; omega
         have f4 : decide (c = 127) = true := by simpa using q
         simp only [hc, d1, f1, d2, f2, d3, d4, d5, f3, f4, X_quote, Y_quote, ys_hit, ys_miss, hx, g1, g2, g3, g4, e1', go_sem, reduceIte, reduceMul, reduceAdd, reduceSub, reduceEqDiff, reduceLeDiff, reduceLT]
         rw [Hp.M_loop]
         simp only [kz94, K94_1, X_quote, Y_quote, List.length_cons, List.length_nil, go_sem, reduceIte, reduceMul, reduceAdd, reduceSub, reduceEqDiff, reduceLeDiff, reduceLT] at hf ⊢
         exact hf
       · have f3 : decide (c < 32) = false := by simp; omega
         have f4 : decide (c = 127) = false := by simp; omega
         have f5 : decide (c = 65533) = true := by simpa using q
         simp only [hc, d1, f1, d2, f2, d3, d4, d5, f3, f4, f5, X_quote, Y_quote, ys_hit, ys_miss, hx, g1, g2, g3, g4, e1', go_sem, reduceIte, reduceMul, reduceAdd, reduceSub, reduceEqDiff, reduceLeDiff, reduceLT]
         rw [Hp.M_loop]
         simp only [kz94, K94_1, X_quote, Y_quote, List.length_cons, List.length_nil, go_sem, reduceIte, reduceMul, reduceAdd, reduceSub, reduceEqDiff, reduceLeDiff, reduceLT] at hf ⊢
         exact hf
     · have hq : qt c = enc c := by unfold qt; rw [if_neg q1, if_neg q2]
       have f3 : decide (c < 32) = false := by simp; omega
       have f4 : decide (c = 127) = false := by simp; omega
       have f5 : decide (c = 65533) = false := by simp; omega
       obtain ⟨h1, e1, i1, _⟩ := H_WR1 hi hne (by omega) hok
       have hf := fin h1 (by rw [hq]; exact i1)
       simp only [hc, d1, f1, d2, f2, d3, f3, d4, f4, d5, f5, Y_quote, ys_hit, ys_miss, e1, go_sem, reduceIte, reduceMul, reduceAdd, reduceSub, reduceEqDiff, reduceLeDiff, reduceLT]
       rw [Hp.M_loop]
       simp only [kz94, K94_1, Y_quote, List.length_cons, List.length_nil, go_sem, reduceIte, reduceMul, reduceAdd, reduceSub, reduceEqDiff, reduceLeDiff, reduceLT] at hf ⊢
       exact hf
def quoteV (l : List UInt8) : List UInt8 := 34 :: ((rns l).flatMap qt ++ [34])
theorem w_Quote (l : List UInt8) (hl : l.length ≤ 8192) (gl : Nat → List V) : Hp.M X_quote Y_quote (kz94) (.code B94) [] (St.init gl 6 [.s l] {}) (Fin [.tmp 2] (.s (quoteV l))) := by
 rw [UH94]
 have i0 : BI ⟨1, [(0, .cells 130 [.nilp, .sl [] 0 .nil])], 0, []⟩ 0 [] := .inl ⟨rfl, rfl⟩
 obtain ⟨h1, e1, i1, _⟩ := H_WB1 i0 (by decide) 34
 have e1' : H_WB [.p 0 0, .i .u8 34] ⟨1, [(0, .cells 130 [.nilp, .sl [] 0 .nil])], 0, []⟩ = some (.nili, h1) := e1
 simp only [Y_quote, ys_hit, ys_miss, e1', go_sem, reduceIte, reduceMul, reduceAdd, reduceSub, reduceEqDiff, reduceLeDiff, reduceLT]
 rw [Hp.M_loop]
 have := w_Quote_loop gl l [34] h1 0 i1 (by simp) (by unfold most; simp only [List.length_cons, List.length_nil]; omega)
 simp only [kz94, K94_1, Y_quote, List.length_cons, List.length_nil, go_sem, reduceIte, reduceMul, reduceAdd, reduceSub, reduceEqDiff, reduceLeDiff, reduceLT] at this ⊢
 exact this
theorem c_Quote (l : List UInt8) (hl : l.length ≤ 8192) : Comp tabx told 94 [.s l] (.s (quoteV l)) :=
 Hp.comp_of t_quote u_quote (fn := af94) rfl (Nat.le_of_ble_eq_true rfl) fun gl => w_Quote l hl gl
def qscan (l out : List UInt8) (k : Nat) : Option (List UInt8 × Nat) :=
 match l with
 | [] => none
 | a :: r =>
   if (dec (a :: r)).1 = 34 then some (out, k + 1) else
   if (dec (a :: r)).1 = 65533 ∧ (dec (a :: r)).2 = 1 then none else
   if (dec (a :: r)).1 ≠ 92 then qscan ((a :: r).drop (dec (a :: r)).2) (out ++ enc (dec (a :: r)).1) (k + (dec (a :: r)).2) else
   match r with
   | [] => none
   | b :: t =>
     if b = 34 ∨ b = 92 then qscan t (out ++ [b]) (k + 2) else
     if b = 117 then (if (hexV t).2 = 0 then none else qscan (t.drop (hexV t).2) (out ++ enc (hexV t).1) (k + 2 + (hexV t).2)) else none
termination_by l.length
decreasing_by
 · exact dec_nil_free a r
 · simp only [List.length_cons]; omega
 · simp only [List.length_drop, List.length_cons]; omega
theorem qscan_nil (out : List UInt8) (k : Nat) : qscan [] out k = none := by rw [qscan]
theorem qscan_end {a : UInt8} {r out : List UInt8} {k : Nat} (h : (dec (a :: r)).1 = 34) : qscan (a :: r) out k = some (out, k + 1) := by rw [qscan.eq_def]; dsimp only; rw [if_pos h]
theorem qscan_bad {a : UInt8} {r out : List UInt8} {k : Nat} (h : (dec (a :: r)).1 = 65533) (h1 : (dec (a :: r)).2 = 1) : qscan (a :: r) out k = none := by rw [qscan.eq_def]; dsimp only; rw [if_neg (by omega), if_pos ⟨h, h1⟩]
theorem qscan_rune {a : UInt8} {r out : List UInt8} {k : Nat} (h : (dec (a :: r)).1 ≠ 34) (h1 : ¬ ((dec (a :: r)).1 = 65533 ∧ (dec (a :: r)).2 = 1)) (h2 : (dec (a :: r)).1 ≠ 92) :
  qscan (a :: r) out k = qscan ((a :: r).drop (dec (a :: r)).2) (out ++ enc (dec (a :: r)).1) (k + (dec (a :: r)).2) := by rw [qscan.eq_def]; dsimp only; rw [if_neg h, if_neg h1, if_pos h2]
theorem dec92 (r : List UInt8) : dec (92 :: r) = (92, 1) := dec_ascii (by decide) r
theorem qscan_esc0 {out : List UInt8} {k : Nat} : qscan [92] out k = none := by
 rw [qscan.eq_def]; dsimp only; rw [if_neg (by rw [dec92]; decide), if_neg (by rw [dec92]; decide), if_neg (by rw [dec92]; simp)]
theorem qscan_esc {b : UInt8} {t out : List UInt8} {k : Nat} : qscan (92 :: b :: t) out k = if b = 34 ∨ b = 92 then qscan t (out ++ [b]) (k + 2) else
      if b = 117 then (if (hexV t).2 = 0 then none else qscan (t.drop (hexV t).2) (out ++ enc (hexV t).1) (k + 2 + (hexV t).2)) else none := by
  rw [qscan.eq_def]; dsimp only; rw [if_neg (by rw [dec92]; decide), if_neg (by rw [dec92]; decide), if_neg (by rw [dec92]; simp)]
theorem dec_92 {a : UInt8} {r : List UInt8} (h : (dec (a :: r)).1 = 92) : a = 92 := by
 obtain ⟨h1, h2⟩ := dec_low (a := a) (r := r) (by omega)
 rw [h2] at h
 exact UInt8.toNat_inj.1 h
theorem hexV_ok (s : List UInt8) (h : (hexV s).2 ≠ 0) : oks (hexV s).1 ∧ (hexV s).2 ≤ s.length ∧ (hexV s).2 ≤ 8 := by
 unfold hexV at h ⊢
 by_cases hc : s.length < 3 ∨ s.head? ≠ some 123 ∨ Lib.indexByte s 125 < 2 ∨ 7 < Lib.indexByte s 125
 · rw [if_pos hc] at h; exact absurd rfl h
 · rw [if_neg hc] at h ⊢
   have i3 : Lib.indexByte s 125 < s.length := index_lt s 125 (by omega)
   cases hm : hexN 0 ((s.drop 1).take ((Lib.indexByte s 125).toNat - 1)) with
   | none => rw [hm] at h; exact absurd rfl h
   | some m =>
     rw [hm] at h
     simp only at h ⊢
     by_cases ho : okB m = true
     · rw [if_pos ho]
       refine ⟨(okB_iff m).1 ho, ?_, ?_⟩ <;> simp only <;> omega
     · rw [if_neg ho] at h; exact absurd rfl h
def X_quoted := xs [(101, decV), (136, F_lhex)]
theorem t_quoted : Tells tabx told X_quoted := tells_cons o_decode (tells_cons o_lhex tells_nil)
noncomputable def Y_quoted := ys [(124, H_WB), (125, H_WR0), (73, H_BS0)]
theorem u_quoted : Hp.TellsI tabx told Y_quoted := itells_cons i_WB (itells_cons i_WR0 (itells_cons i_BS0 itells_nil))
theorem qd_dec (a : UInt8) (r : List UInt8) : X_quoted 101 [.s (a :: r)] = some (.tup [.i .i32 (dec (a :: r)).1, .i .i64 (dec (a :: r)).2]) := rfl
theorem qd_hex (s : List UInt8) : X_quoted 136 [.s s] = some (pairV (hexV s)) := rfl
theorem qd_rune (id c : Nat) (h : H) : Y_quoted 125 [.p id 0, .i .i32 (c : Int)] h = H_WR0 [.p id 0, .i .i32 (c : Int)] h := rfl
theorem qd_byte (id : Nat) (b : Int) (h : H) : Y_quoted 124 [.p id 0, .i .u8 b] h = H_WB [.p id 0, .i .u8 b] h := rfl
theorem qd_str (id : Nat) (h : H) : Y_quoted 73 [.p id 0] h = H_BS0 [.p id 0] h := rfl
def qres (o : Option (List UInt8 × Nat)) : V := match o with
 | some (x, k) => .tup [.s x, .i .i64 k]
 | none => .tup [.s [], .i .i64 0]
theorem get_drop {s l : List UInt8} {i : Nat} {a : UInt8} (h : s.drop i = a :: l) : s[i]? = some a := by
 have := congrArg (fun x => x[0]?) h
 simpa using this
def K102_1 : List Fr := [.blk 0,
 .seq (Sr [Ox 2 (.s []), On 3 0]
 .ret)]
theorem UH102_1 : type_of% (@Hp_open _ _ L102_1.eq_1) := @Hp_open _ _ L102_1.eq_1
theorem UH102 : type_of% (@Hp_open _ _ B102.eq_1) := @Hp_open _ _ B102.eq_1
def kz102 (_ : Nat) : List Nat := [1, 2, 3, 6, 7, 8, 9, 10, 11, 12, 13, 14, 15, 16, 17, 18, 19, 20, 21, 22, 23, 24, 25, 26, 27, 28, 29, 30, 31, 32, 33, 34, 35, 36, 37, 38, 39, 40, 41, 42, 43, 44, 45, 46, 47, 48, 49, 50, 51, 52, 53, 54, 55, 56, 57, 58, 59, 60, 61, 62, 63, 64, 65, 66, 67, 68, 69, 70, 71, 72, 73, 74, 75, 76, 77, 78, 79]
theorem w_quoted_loop (s : List UInt8) (hs : s.length ≤ 1048576) (gl : Nat → List V) : ∀ (n : Nat) (l bs : List UInt8) (i : Nat) (h : H), l.length ≤ n → s.drop i = l → i ≤ s.length → BF h 0 bs → bs.length ≤ 4 * i →
  Hp.M X_quoted Y_quoted (kz102) (.code L102_1) (.loop L102_1 :: K102_1) ⟨gl, (.node (.node E5 .any (.node E4 (.i .i64 i) E4)) (.s s) (.node (.node E4 (.p 0 0) E4) .any E5)), [], [], h⟩
   (Fin [.tmp 2, .tmp 3] (qres (qscan l bs i))) := by
 intro n
 induction n with
 | zero =>
   intro l bs i h hn hd hi hB hb
   obtain rfl : l = [] := List.length_eq_zero_iff.1 (by omega)
   have hl := drop_len hd hi
   simp only [List.length_nil, Nat.add_zero] at hl
   have e1 : decide ((i : Int) < (s.length : Int)) = false := decide_eq_false (by omega)
   rw [UH102_1, qscan_nil]
   simp only [e1, K102_1, qres, go_sem, reduceIte, reduceMul, reduceAdd, reduceSub, reduceEqDiff, reduceLeDiff, reduceLT]
 | succ n ih =>
   intro l bs i h hn hd hi hB hb
   cases l with
   | nil =>
     have hl := drop_len hd hi
     simp only [List.length_nil, Nat.add_zero] at hl
     have e1 : decide ((i : Int) < (s.length : Int)) = false := decide_eq_false (by omega)
     rw [UH102_1, qscan_nil]
     simp only [e1, K102_1, qres, go_sem, reduceIte, reduceMul, reduceAdd, reduceSub, reduceEqDiff, reduceLeDiff, reduceLT]
   | cons a r =>
     have hl := drop_len hd hi
     simp only [List.length_cons] at hl hn
     have hw := dec_pos (a :: r)
     have hw2 := dec_le a r
     have hw3 := dec_nil_free a r
     simp only [List.length_cons] at hw2 hw3
     have e1 : decide ((i : Int) < (s.length : Int)) = true := decide_eq_true (by omega)
     have e2 : (s.drop i).take (s.length - i) = a :: r := by rw [List.take_of_length_le (by simp), hd]
     have hm : bs.length + 4 ≤ most := by unfold most; omega
     have hok := dec_oks (a :: r)
     rw [UH102_1]
     by_cases c1 : (dec (a :: r)).1 = 34
     · have f1 : decide (((dec (a :: r)).1 : Int) = 34) = true := decide_eq_true (by omega)
       have w1 : wr .i64 ((i : Int) + 1) = ((i + 1 : Nat) : Int) := by rw [wr64] <;> omega
       have hs2 := H_BS01 hB (by omega)
       rw [qscan_end c1]
       simp only [e1, e2, hi, Nat.le_refl, qd_dec, f1, qd_str, hs2, w1, K102_1, qres, go_sem, reduceIte, reduceMul, reduceAdd, reduceSub, reduceEqDiff, reduceLeDiff, reduceLT]
     · have f1 : decide (((dec (a :: r)).1 : Int) = 34) = false := decide_eq_false (by omega)
       by_cases c2 : (dec (a :: r)).1 = 65533 ∧ (dec (a :: r)).2 = 1
       · have f2 : decide (((dec (a :: r)).1 : Int) = 65533) = true := decide_eq_true (by omega)
         have f3 : decide (((dec (a :: r)).2 : Int) = 1) = true := decide_eq_true (by omega)
         rw [qscan_bad c2.1 c2.2]
         simp only [e1, e2, hi, Nat.le_refl, qd_dec, f1, f2, f3, K102_1, qres, go_sem, reduceIte, reduceMul, reduceAdd, reduceSub, reduceEqDiff, reduceLeDiff, reduceLT]
       · by_cases c3 : (dec (a :: r)).1 = 92
         · have ha := dec_92 c3
           subst ha
           have hdc : dec (92 :: r) = (92, 1) := dec92 r
           cases r with
           | nil =>
             rw [qscan_esc0]
             have f4 : decide ((s.length : Int) ≤ ((i + 1 : Nat) : Int)) = true := decide_eq_true (by simp only [List.length_nil] at hl; omega)
             have w1 : wr .i64 ((i : Int) + 1) = ((i + 1 : Nat) : Int) := by rw [wr64] <;> omega
             simp only [e1, e2, hi, Nat.le_refl, qd_dec, hdc, w1, f4, Int.reduceEq, Int.cast_ofNat_Int, K102_1, qres, go_sem, reduceIte, reduceMul, reduceAdd, reduceSub, reduceEqDiff, reduceLeDiff, reduceLT]
           | cons b t =>
             simp only [List.length_cons] at hl hn
             have f4 : decide ((s.length : Int) ≤ ((i + 1 : Nat) : Int)) = false := decide_eq_false (by omega)
             have w1 : wr .i64 ((i : Int) + 1) = ((i + 1 : Nat) : Int) := by rw [wr64] <;> omega
             have w2 : wr .i64 ((i : Int) + 2) = ((i + 2 : Nat) : Int) := by rw [wr64] <;> omega
             have hd1 : s.drop (i + 1) = b :: t := by rw [← List.drop_drop, hd]; rfl
             have hd2 : s.drop (i + 2) = t := by rw [← List.drop_drop, hd]; rfl
             have hg := get_drop hd1
             have i1 : i + 1 < s.length := by omega
             have i2 : i + 2 ≤ s.length := by omega
             have b34 : decide (((b.toNat : Nat) : Int) = 34) = decide (b = 34) := decide_eq_decide.2 ⟨fun h => UInt8.toNat_inj.1 (by show b.toNat = 34; omega), fun h => by rw [h]; rfl⟩
             have b92 : decide (((b.toNat : Nat) : Int) = 92) = decide (b = 92) := decide_eq_decide.2 ⟨fun h => UInt8.toNat_inj.1 (by show b.toNat = 92; omega), fun h => by rw [h]; rfl⟩
             have b117 : decide (((b.toNat : Nat) : Int) = 117) = decide (b = 117) := decide_eq_decide.2 ⟨fun h => UInt8.toNat_inj.1 (by show b.toNat = 117; omega), fun h => by rw [h]; rfl⟩
             rw [qscan_esc]
             obtain ⟨h1, q1, q2, _⟩ := H_WB0 hB (by omega) b
             by_cases k1 : b = 34
             · have g1 : decide (b = 34) = true := decide_eq_true k1
               rw [if_pos (.inl k1)]
               have := ih t (bs ++ [b]) (i + 2) h1 (by omega) hd2 i2 q2 (by simp; omega)
               simp only [e1, e2, hi, Nat.le_refl, qd_dec, hdc, w1, w2, f4, hg, i1, b34, g1, qd_byte, q1, Int.reduceEq, Int.cast_ofNat_Int, go_sem, reduceIte, reduceMul, reduceAdd, reduceSub, reduceEqDiff, reduceLeDiff, reduceLT]
               rw [Hp.M_loop]
               simp only [kz102, K102_1, List.length_cons, List.length_nil, go_sem, reduceIte, reduceMul, reduceAdd, reduceSub, reduceEqDiff, reduceLeDiff, reduceLT] at this ⊢
               exact this
             · have g1 : decide (b = 34) = false := decide_eq_false k1
               by_cases k2 : b = 92
               · have g2 : decide (b = 92) = true := decide_eq_true k2
                 rw [if_pos (.inr k2)]
                 have := ih t (bs ++ [b]) (i + 2) h1 (by omega) hd2 i2 q2 (by simp; omega)
                 simp only [e1, e2, hi, Nat.le_refl, qd_dec, hdc, w1, w2, f4, hg, i1, b34, g1, b92, g2, qd_byte, q1, Int.reduceEq, Int.cast_ofNat_Int, go_sem, reduceIte, reduceMul, reduceAdd, reduceSub, reduceEqDiff, reduceLeDiff, reduceLT]
                 rw [Hp.M_loop]
                 simp only [kz102, K102_1, List.length_cons, List.length_nil, go_sem, reduceIte, reduceMul, reduceAdd, reduceSub, reduceEqDiff, reduceLeDiff, reduceLT] at this ⊢
                 exact this
               · have g2 : decide (b = 92) = false := decide_eq_false k2
                 rw [if_neg (by rintro (h | h); exact k1 h; exact k2 h)]
                 by_cases k3 : b = 117
                 · have g3 : decide (b = 117) = true := decide_eq_true k3
                   have e3 : (s.drop (i + 2)).take (s.length - (i + 2)) = t := by rw [List.take_of_length_le (by simp), hd2]
                   rw [if_pos k3]
                   by_cases k4 : (hexV t).2 = 0
                   · have g4 : decide (((hexV t).2 : Int) = 0) = true := decide_eq_true (by omega)
                     rw [if_pos k4]
                     simp only [e1, e2, e3, hi, i2, Nat.le_refl, qd_dec, hdc, w1, w2, f4, hg, i1, b34, g1, b92, g2, b117, g3, qd_hex, pairV, g4, Int.reduceEq, Int.cast_ofNat_Int, K102_1, qres, go_sem, reduceIte, reduceMul, reduceAdd, reduceSub, reduceEqDiff, reduceLeDiff, reduceLT]
                   · have g4 : decide (((hexV t).2 : Int) = 0) = false := decide_eq_false (by omega)
                     obtain ⟨v1, v2, v3⟩ := hexV_ok t k4
                     rw [if_neg k4]
                     obtain ⟨h2, r1, r2, _⟩ := H_WR01 hB hm v1
                     have w3 : wr .i64 (2 + ((hexV t).2 : Int)) = ((2 + (hexV t).2 : Nat) : Int) := by rw [wr64] <;> omega
                     have w4 : wr .i64 ((i : Int) + ((2 + (hexV t).2 : Nat) : Int)) = ((i + 2 + (hexV t).2 : Nat) : Int) := by rw [wr64] <;> omega
                     have hel := enc_len (hexV t).1
                     have := ih (t.drop (hexV t).2) (bs ++ enc (hexV t).1) (i + 2 + (hexV t).2) h2 (by rw [List.length_drop]; omega) (by rw [← List.drop_drop, hd2]) (by omega) r2 (by simp; omega)
                     simp only [e1, e2, e3, hi, i2, Nat.le_refl, qd_dec, hdc, w1, w2, w3, w4, f4, hg, i1, b34, g1, b92, g2, b117, g3, qd_hex, pairV, g4, qd_rune, r1, Int.reduceEq, Int.cast_ofNat_Int, go_sem, reduceIte, reduceMul, reduceAdd, reduceSub, reduceEqDiff, reduceLeDiff, reduceLT]
                     rw [Hp.M_loop]
                     simp only [kz102, K102_1, List.length_cons, List.length_nil, go_sem, reduceIte, reduceMul, reduceAdd, reduceSub, reduceEqDiff, reduceLeDiff, reduceLT] at this ⊢
                     exact this
                 · have g3 : decide (b = 117) = false := decide_eq_false k3
                   rw [if_neg k3]
                   simp only [e1, e2, hi, Nat.le_refl, qd_dec, hdc, w1, w2, f4, hg, i1, b34, g1, b92, g2, b117, g3, Int.reduceEq, Int.cast_ofNat_Int, K102_1, qres, go_sem, reduceIte, reduceMul, reduceAdd, reduceSub, reduceEqDiff, reduceLeDiff, reduceLT]
         · have f4 : decide (((dec (a :: r)).1 : Int) = 92) = false := decide_eq_false (by omega)
           rw [qscan_rune c1 c2 c3]
           obtain ⟨h1, q1, q2, _⟩ := H_WR01 hB hm hok
           have hel := enc_len (dec (a :: r)).1
           have w1 : wr .i64 ((i : Int) + ((dec (a :: r)).2 : Int)) = ((i + (dec (a :: r)).2 : Nat) : Int) := by rw [wr64] <;> omega
           have := ih ((a :: r).drop (dec (a :: r)).2) (bs ++ enc (dec (a :: r)).1) (i + (dec (a :: r)).2) h1 (by omega) (by rw [← List.drop_drop, hd]) (by omega) q2 (by simp; omega)
           by_cases k1 : (dec (a :: r)).1 = 65533
           · have f2 : decide (((dec (a :: r)).1 : Int) = 65533) = true := decide_eq_true (by omega)
             have f3 : decide (((dec (a :: r)).2 : Int) = 1) = false := decide_eq_false (by omega)
             simp only [e1, e2, hi, Nat.le_refl, qd_dec, f1, f2, f3, f4, qd_rune, q1, w1, go_sem, reduceIte, reduceMul, reduceAdd, reduceSub, reduceEqDiff, reduceLeDiff, reduceLT]
             rw [Hp.M_loop]
             simp only [kz102, K102_1, List.length_cons, List.length_nil, go_sem, reduceIte, reduceMul, reduceAdd, reduceSub, reduceEqDiff, reduceLeDiff, reduceLT] at this ⊢
             exact this
           · have f2 : decide (((dec (a :: r)).1 : Int) = 65533) = false := decide_eq_false (by omega)
             simp only [e1, e2, hi, Nat.le_refl, qd_dec, f1, f2, f4, qd_rune, q1, w1, go_sem, reduceIte, reduceMul, reduceAdd, reduceSub, reduceEqDiff, reduceLeDiff, reduceLT]
             rw [Hp.M_loop]
             simp only [kz102, K102_1, List.length_cons, List.length_nil, go_sem, reduceIte, reduceMul, reduceAdd, reduceSub, reduceEqDiff, reduceLeDiff, reduceLT] at this ⊢
             exact this
theorem w_quoted (a : UInt8) (r : List UInt8) (hs : (a :: r).length ≤ 1048576) (gl : Nat → List V) : Hp.M X_quoted Y_quoted (kz102) (.code B102) [] (St.init gl 7 [.s (a :: r)] {}) (Fin [.tmp 2, .tmp 3] (qres (qscan r [] 1))) := by
 rw [UH102]
 simp only [go_sem, reduceIte, reduceMul, reduceAdd, reduceSub, reduceEqDiff, reduceLeDiff, reduceLT]
 rw [Hp.M_loop]
 have := w_quoted_loop (a :: r) hs gl r.length r [] 1 ⟨1, [(0, .cells 130 [.nilp, .sl [] 0 .nil])], 0, []⟩ (Nat.le_refl _) rfl (by simp) (bf_new rfl) (by simp)
 simp only [kz102, K102_1, List.length_cons, List.length_nil, Int.cast_ofNat_Int, go_sem, reduceIte, reduceMul, reduceAdd, reduceSub, reduceEqDiff, reduceLeDiff, reduceLT] at this ⊢
 exact this
def F_quoted (a : List V) : Option V := match a with
 | [.s (a :: r)] => if (a :: r).length ≤ 1048576 then some (qres (qscan r [] 1)) else none
 | _ => none
theorem F_quoted1 (a : UInt8) (r : List UInt8) (h : (a :: r).length ≤ 1048576) : F_quoted [.s (a :: r)] = some (qres (qscan r [] 1)) := if_pos h
theorem o_quoted : ∀ a v, F_quoted a = some v → Comp tabx told 102 a v := fun a v e => by
 unfold F_quoted at e
 split at e
 · split at e
   · rename_i h; cases e; exact Hp.comp_of t_quoted u_quoted (fn := af102) rfl (Nat.le_of_ble_eq_true rfl) fun gl => w_quoted _ _ h gl
   · cases e
 · cases e
structure Tok where
 kind : Nat
 text : List UInt8
 at_ : Nat
def Tok.cells (t : Tok) : List V := [.i .i64 t.kind, .s t.text, .i .i64 t.at_]
inductive Lx where
 | ok (l : List Tok)
 | bad (at_ e : Nat)
def Lx.cons (t : Tok) : Lx → Lx
 | .ok l => .ok (t :: l)
 | x => x
def headDig : List UInt8 → Bool
 | [] => false
 | b :: _ => digB b.toNat
def lx (l : List UInt8) (k : Nat) : Lx :=
 match l with
 | [] => .ok []
 | a :: r =>
   if a = 32 then lx r (k + 1) else
   if a = 34 then (match qscan r [] 1 with
    | none => .bad k 191
    | some (x, n) => (lx (r.drop (n - 1)) (k + n)).cons ⟨2, x, k⟩) else
   if letB a.toNat then (lx (r.drop (wh letB r)) (k + 1 + wh letB r)).cons ⟨1, a :: r.take (wh letB r), k⟩ else
   if digB a.toNat then (lx (r.drop (wh digB r)) (k + 1 + wh digB r)).cons ⟨3, a :: r.take (wh digB r), k⟩ else
   if a = 45 ∧ headDig r = true then (lx (r.drop (wh digB r)) (k + 1 + wh digB r)).cons ⟨3, a :: r.take (wh digB r), k⟩ else
   if sgnB a.toNat then (lx r (k + 1)).cons ⟨4, [a], k⟩ else .bad k 190
termination_by l.length
decreasing_by all_goals (simp only [List.length_drop, List.length_cons]; omega)
theorem lx_nil (k : Nat) : lx [] k = .ok [] := by rw [lx]
theorem lx_cons (a : UInt8) (r : List UInt8) (k : Nat) : lx (a :: r) k =
  if a = 32 then lx r (k + 1) else
  if a = 34 then (match qscan r [] 1 with
   | none => .bad k 191
   | some (x, n) => (lx (r.drop (n - 1)) (k + n)).cons ⟨2, x, k⟩) else
  if letB a.toNat then (lx (r.drop (wh letB r)) (k + 1 + wh letB r)).cons ⟨1, a :: r.take (wh letB r), k⟩ else
  if digB a.toNat then (lx (r.drop (wh digB r)) (k + 1 + wh digB r)).cons ⟨3, a :: r.take (wh digB r), k⟩ else
  if a = 45 ∧ headDig r = true then (lx (r.drop (wh digB r)) (k + 1 + wh digB r)).cons ⟨3, a :: r.take (wh digB r), k⟩ else
  if sgnB a.toNat then (lx r (k + 1)).cons ⟨4, [a], k⟩ else .bad k 190 := by
 rw [lx.eq_def]
theorem qscan_k : ∀ (n : Nat) (l out : List UInt8) (k : Nat), l.length ≤ n → ∀ x m, qscan l out k = some (x, m) → k + 1 ≤ m ∧ m ≤ k + l.length := by
 intro n
 induction n with
 | zero =>
   intro l out k hn x m h
   obtain rfl : l = [] := List.length_eq_zero_iff.1 (by omega)
   rw [qscan_nil] at h; cases h
 | succ n ih =>
   intro l out k hn x m h
   cases l with
   | nil => rw [qscan_nil] at h; cases h
   | cons a r =>
     simp only [List.length_cons] at hn ⊢
     have hw := dec_pos (a :: r)
     have hw2 := dec_le a r
     simp only [List.length_cons] at hw2
     by_cases c1 : (dec (a :: r)).1 = 34
     · rw [qscan_end c1] at h; cases h; omega
     · by_cases c2 : (dec (a :: r)).1 = 65533 ∧ (dec (a :: r)).2 = 1
       · rw [qscan_bad c2.1 c2.2] at h; cases h
       · by_cases c3 : (dec (a :: r)).1 = 92
         · have ha := dec_92 c3
           subst ha
           cases r with
           | nil => rw [qscan_esc0] at h; cases h
           | cons b t =>
             simp only [List.length_cons] at hn ⊢
             rw [qscan_esc] at h
             split at h
             · have := ih t _ _ (by omega) x m h; omega
             · split at h
               · split at h
                 · cases h
                 · rename_i k4
                   obtain ⟨v1, v2, v3⟩ := hexV_ok t k4
                   have := ih (t.drop (hexV t).2) _ _ (by rw [List.length_drop]; omega) x m h
                   rw [List.length_drop] at this
                   omega
               · cases h
         · rw [qscan_rune c1 c2 c3] at h
           have := ih _ _ _ (by simp only [List.length_drop, List.length_cons]; omega) x m h
           simp only [List.length_drop, List.length_cons] at this
           omega
def tokR (acc : List Tok) : Lx → V
 | .ok l => .tup [.sl ((acc ++ l).flatMap Tok.cells) (acc ++ l).length .no, .i .i64 0, .i .i64 0]
 | .bad a e => .tup [.sl [] 0 .no, .i .i64 a, .i .i64 e]
theorem tokR_cons (acc : List Tok) (t : Tok) (x : Lx) : tokR acc (x.cons t) = tokR (acc ++ [t]) x := by
 cases x with
 | ok l => simp [Lx.cons, tokR]
 | bad a e => rfl
theorem toks_len (l : List Tok) : (l.flatMap Tok.cells).length = l.length * 3 := by
 induction l with
 | nil => rfl
 | cons t r ih => simp only [List.flatMap_cons, List.length_append, Tok.cells, List.length_cons, List.length_nil, ih]; omega
theorem frz_toks (h : H) (f : Nat) (l : List Tok) : (l.flatMap Tok.cells).map (frz h (f + 1)) = l.flatMap Tok.cells := by
 induction l with
 | nil => rfl
 | cons t r ih => simp only [List.flatMap_cons, List.map_append, ih]; rfl
theorem wh_pos {p : Nat → Bool} {a : UInt8} {r : List UInt8} (h : p a.toNat = true) : wh p (a :: r) = wh p r + 1 := by simp [wh, h]
def X_toks := xs [(101, decV), (102, F_quoted), (103, F_let), (105, F_dig), (106, F_sgn), (104, F_while)]
theorem t_toks : Tells tabx told X_toks := tells_cons o_decode (tells_cons o_quoted (tells_cons o_let (tells_cons o_dig (tells_cons o_sgn (tells_cons o_while tells_nil)))))
theorem tk_dec (a : UInt8) (r : List UInt8) : X_toks 101 [.s (a :: r)] = some (.tup [.i .i32 (dec (a :: r)).1, .i .i64 (dec (a :: r)).2]) := rfl
theorem tk_quo (a : UInt8) (r : List UInt8) (h : (a :: r).length ≤ 1048576) : X_toks 102 [.s (a :: r)] = some (qres (qscan r [] 1)) := F_quoted1 a r h
theorem tk_let (c : Nat) : X_toks 103 [.i .i32 (c : Int)] = some (.b (letB c)) := rfl
theorem tk_dig (c : Nat) : X_toks 105 [.i .i32 (c : Int)] = some (.b (digB c)) := rfl
theorem tk_sgn (c : Nat) : X_toks 106 [.i .i32 (c : Int)] = some (.b (sgnB c)) := rfl
theorem tk_whL (s : List UInt8) : X_toks 104 [.s s, .fn 103 [] []] = some (.i .i64 (wh letB s : Nat)) := rfl
theorem tk_whD (s : List UInt8) : X_toks 104 [.s s, .fn 105 [] []] = some (.i .i64 (wh digB s : Nat)) := rfl
theorem sgn_hi (c : Nat) (h : 128 ≤ c) : sgnB c = false := by
 have : ∀ k, k < 128 → (c == k) = false := fun k hk => by simp; omega
 simp only [sgnB, this 40 (by omega), this 41 (by omega), this 61 (by omega), this 94 (by omega), this 60 (by omega), this 62 (by omega), this 44 (by omega), Bool.or_false]
theorem take_cat {s : List UInt8} {k : Nat} {a : UInt8} {r : List UInt8} (h : s.drop k = a :: r) (m : Nat) : (s.drop k).take (k + (m + 1) - k) = a :: r.take m := by
 rw [h, show k + (m + 1) - k = m + 1 from by omega, List.take_succ_cons]
def K75_1 : List Fr := [.blk 0,
 .seq (Sr [Om 128 5, Om 2 128, On 3 0, On 4 0]
 .ret)]
theorem U75_1 : type_of% (@M_open _ _ L75_1.eq_1) := @M_open _ _ L75_1.eq_1
theorem U75 : type_of% (@M_open _ _ B75.eq_1) := @M_open _ _ B75.eq_1
def kz75 (_ : Nat) : List Nat := [1, 2, 3, 4, 7, 8, 9, 10, 11, 12, 13, 14, 15, 16, 17, 18, 19, 20, 21, 22, 23, 24, 25, 26, 27, 28, 29, 30, 31, 32, 33, 34, 35, 36, 37, 38, 39, 40, 41, 42, 43, 44, 45, 46, 47, 48, 49, 50, 51, 52, 53, 54, 55, 56, 57, 58, 59, 60, 61, 62, 63, 64, 65, 66, 67, 68, 69, 70, 71, 72, 73, 74, 75, 76, 77, 78, 79, 80, 81, 82, 83, 84, 85, 86, 87, 88, 89, 90, 91, 92, 93, 94, 95, 96, 97, 98, 99, 100, 101, 102, 103, 104, 105, 106, 107, 108, 109, 110, 111, 112, 113, 114, 115, 116, 117, 118, 119, 120, 121, 122, 123, 124, 125, 126, 127, 128]
def tokH (n : Nat) : H := ⟨0, [], 2, [(1, (n, 143)), (0, (0, 143))]⟩
theorem w_Tokens_loop (s : List UInt8) (hs : s.length ≤ 1048576) (gl : Nat → List V) : ∀ (n : Nat) (l : List UInt8) (k : Nat) (acc : List Tok) (loc : List (Nat × List V)), l.length ≤ n → s.drop k = l → k ≤ s.length → acc.length ≤ k →
  M X_toks (kz75) (.code L75_1) (.loop L75_1 :: K75_1) ⟨gl, (.node (.node E6 .any (.node E5 (.sl (acc.flatMap Tok.cells) acc.length (.own 1)) E5)) (.s s) (.node E6 .any (.node E5 (.i .i64 k) E5))), [], loc, tokH acc.length⟩
   (Fin [.tmp 2, .tmp 3, .tmp 4] (tokR acc (lx l k))) := by
 intro n
 induction n with
 | zero =>
   intro l k acc loc hn hd hk ha
   obtain rfl : l = [] := List.length_eq_zero_iff.1 (by omega)
   have hl := drop_len hd hk
   simp only [List.length_nil, Nat.add_zero] at hl
   have e1 : decide ((k : Int) < (s.length : Int)) = false := decide_eq_false (by omega)
   rw [U75_1, lx_nil]
   simp only [e1, K75_1, tokR, List.append_nil, frz_toks, go_sem, reduceIte, reduceMul, reduceAdd, reduceSub, reduceEqDiff, reduceLeDiff, reduceLT]
 | succ n ih =>
   intro l k acc loc hn hd hk ha
   cases l with
   | nil =>
     have hl := drop_len hd hk
     simp only [List.length_nil, Nat.add_zero] at hl
     have e1 : decide ((k : Int) < (s.length : Int)) = false := decide_eq_false (by omega)
     rw [U75_1, lx_nil]
     simp only [e1, K75_1, tokR, List.append_nil, frz_toks, go_sem, reduceIte, reduceMul, reduceAdd, reduceSub, reduceEqDiff, reduceLeDiff, reduceLT]
   | cons a r =>
     have hl := drop_len hd hk
     simp only [List.length_cons] at hl hn
     have e1 : decide ((k : Int) < (s.length : Int)) = true := decide_eq_true (by omega)
     have e2 : (s.drop k).take (s.length - k) = a :: r := by rw [List.take_of_length_le (by simp), hd]
     have hm : acc.length + 1 ≤ most := by unfold most; omega
     have hcl := toks_len acc
     have w1 : wr .i64 ((k : Int) + 1) = ((k + 1 : Nat) : Int) := by rw [wr64] <;> omega
     -- a token is written behind
     have step : ∀ (t : Tok) (m : Nat) (loc' : List (Nat × List V)), 1 ≤ m → m ≤ r.length + 1 → t.at_ = k → M X_toks (kz75) (.code L75_1) (.loop L75_1 :: K75_1) ⟨gl, (.node (.node E6 .any (.node E5 (.sl ((acc ++ [t]).flatMap Tok.cells) (acc ++ [t]).length (.own 1)) E5)) (.s s) (.node E6 .any (.node E5 (.i .i64 ((k + m : Nat) : Int)) E5))), [], loc', tokH (acc ++ [t]).length⟩
       (Fin [.tmp 2, .tmp 3, .tmp 4] (tokR (acc ++ [t]) (lx (r.drop (m - 1)) (k + m)))) := by
      intro t m loc' h1 h2 h3
      refine ih (r.drop (m - 1)) (k + m) (acc ++ [t]) loc' (by rw [List.length_drop]; omega) ?_ (by omega) (by simp; omega)
      rw [← List.drop_drop, hd]
      cases m with
      | zero => omega
      | succ m => rfl
     have cells_app : ∀ t : Tok, (acc ++ [t]).flatMap Tok.cells = acc.flatMap Tok.cells ++ [.i .i64 t.kind, .s t.text, .i .i64 t.at_] := fun t => by simp [Tok.cells]
     rw [U75_1]
     by_cases hlow : a.toNat < 128
     · have hdc : dec (a :: r) = (a.toNat, 1) := dec_ascii hlow r
       have i32 : decide (((a.toNat : Nat) : Int) = 32) = decide (a = 32) := decide_eq_decide.2 ⟨fun h => UInt8.toNat_inj.1 (by show a.toNat = 32; omega), fun h => by rw [h]; rfl⟩
       have i34 : decide (((a.toNat : Nat) : Int) = 34) = decide (a = 34) := decide_eq_decide.2 ⟨fun h => UInt8.toNat_inj.1 (by show a.toNat = 34; omega), fun h => by rw [h]; rfl⟩
       have i45 : decide (((a.toNat : Nat) : Int) = 45) = decide (a = 45) := decide_eq_decide.2 ⟨fun h => UInt8.toNat_inj.1 (by show a.toNat = 45; omega), fun h => by rw [h]; rfl⟩
       rw [lx_cons]
       by_cases c1 : a = 32
       · have f1 : decide (a = 32) = true := decide_eq_true c1
         rw [if_pos c1]
         have := ih r (k + 1) acc (lset loc 9 [.i .i64 0, .s [], .i .i64 k]) (by omega) (by rw [← List.drop_drop, hd]; rfl) (by omega) (by omega)
         simp only [e1, e2, hk, Nat.le_refl, tk_dec, hdc, i32, f1, w1, go_sem, reduceIte, reduceMul, reduceAdd, reduceSub, reduceEqDiff, reduceLeDiff, reduceLT]
         rw [M_loop]
         simp only [kz75, K75_1, List.length_cons, List.length_nil, go_sem, reduceIte, reduceMul, reduceAdd, reduceSub, reduceEqDiff, reduceLeDiff, reduceLT] at this ⊢
         exact this
       · have f1 : decide (a = 32) = false := decide_eq_false c1
         rw [if_neg c1]
         by_cases c2 : a = 34
         · have f2 : decide (a = 34) = true := decide_eq_true c2
           have hq := tk_quo a r (by simp only [List.length_cons]; omega)
           rw [if_pos c2]
           cases hqs : qscan r [] 1 with
           | none =>
             rw [hqs] at hq
             simp only [qres] at hq
             simp only [e1, e2, hk, Nat.le_refl, tk_dec, hdc, i32, f1, i34, f2, hq, K75_1, tokR, tokH, Int.cast_ofNat_Int, go_sem, reduceIte, reduceMul, reduceAdd, reduceSub, reduceEqDiff, reduceLeDiff, reduceLT]
           | some p =>
             obtain ⟨x, m⟩ := p
             rw [hqs] at hq
             simp only [qres] at hq
             obtain ⟨m1, m2⟩ := qscan_k r.length r [] 1 (Nat.le_refl _) x m hqs
             have f3 : decide ((m : Int) = 0) = false := decide_eq_false (by omega)
             have w2 : wr .i64 ((k : Int) + (m : Int)) = ((k + m : Nat) : Int) := by rw [wr64] <;> omega
             dsimp only
             rw [tokR_cons]
             have := step ⟨2, x, k⟩ m (lset loc 9 [.i .i64 2, .s x, .i .i64 k]) (by omega) (by omega) rfl
             rw [cells_app] at this
             simp only [List.length_append, List.length_cons, List.length_nil, Nat.zero_add] at this
             simp only [e1, e2, hk, Nat.le_refl, tk_dec, hdc, i32, f1, i34, f2, hq, f3, w2, hcl, hm, tokH, splice, List.take_zero, go_sem, reduceIte, reduceMul, reduceAdd, reduceSub, reduceEqDiff, reduceLeDiff, reduceLT]
             rw [M_loop]
             simp only [kz75, K75_1, tokH, List.length_cons, List.length_nil, Int.cast_ofNat_Int, go_sem, reduceIte, reduceMul, reduceAdd, reduceSub, reduceEqDiff, reduceLeDiff, reduceLT] at this ⊢
             exact this
         · have f2 : decide (a = 34) = false := decide_eq_false c2
           rw [if_neg c2]
           have hcat : ∀ m, (s.drop k).take (k + (m + 1) - k) = a :: r.take m := fun m => take_cat hd m
           by_cases c3 : letB a.toNat = true
           · rw [if_pos c3]
             have hw : wh letB (a :: r) = wh letB r + 1 := wh_pos c3
             have hle := wh_le letB r
             generalize wh letB r = w at hw hle ⊢
             have := step ⟨1, a :: r.take w, k⟩ (w + 1) (lset loc 9 [.i .i64 1, .s (a :: r.take w), .i .i64 k]) (by omega) (by omega) rfl
             rw [cells_app, Nat.add_sub_cancel] at this
             simp only [List.length_append, List.length_cons, List.length_nil, Nat.zero_add] at this
             have w2 : wr .i64 ((k : Int) + ((w + 1 : Nat) : Int)) = ((k + (w + 1) : Nat) : Int) := by rw [wr64] <;> omega
             have g1 : k + (w + 1) ≤ s.length := by omega
             have g2 : k ≤ k + (w + 1) := by omega
             rw [show k + 1 + w = k + (w + 1) from by omega, tokR_cons]
             simp only [e1, e2, hk, Nat.le_refl, tk_dec, hdc, i32, f1, i34, f2, tk_let, c3, tk_whL, hw, w2, g1, g2, hcat, hcl, hm, tokH, splice, List.take_zero, go_sem, reduceIte, reduceMul, reduceAdd, reduceSub, reduceEqDiff, reduceLeDiff, reduceLT]
             rw [M_loop]
             simp only [kz75, K75_1, tokH, List.length_cons, List.length_nil, Int.cast_ofNat_Int, go_sem, reduceIte, reduceMul, reduceAdd, reduceSub, reduceEqDiff, reduceLeDiff, reduceLT] at this ⊢
             exact this
           · rw [if_neg c3]
             have c3' : letB a.toNat = false := by simpa using c3
             by_cases c4 : digB a.toNat = true
             · rw [if_pos c4]
               have hw : wh digB (a :: r) = wh digB r + 1 := wh_pos c4
               have hle := wh_le digB r
               generalize wh digB r = w at hw hle ⊢
               have := step ⟨3, a :: r.take w, k⟩ (w + 1) (lset loc 9 [.i .i64 3, .s (a :: r.take w), .i .i64 k]) (by omega) (by omega) rfl
               rw [cells_app, Nat.add_sub_cancel] at this
               simp only [List.length_append, List.length_cons, List.length_nil, Nat.zero_add] at this
               have w2 : wr .i64 ((k : Int) + ((w + 1 : Nat) : Int)) = ((k + (w + 1) : Nat) : Int) := by rw [wr64] <;> omega
               have g1 : k + (w + 1) ≤ s.length := by omega
               have g2 : k ≤ k + (w + 1) := by omega
               rw [show k + 1 + w = k + (w + 1) from by omega, tokR_cons]
               simp only [e1, e2, hk, Nat.le_refl, tk_dec, hdc, i32, f1, i34, f2, tk_let, c3', tk_dig, c4, tk_whD, hw, w2, g1, g2, hcat, hcl, hm, tokH, splice, List.take_zero, go_sem, reduceIte, reduceMul, reduceAdd, reduceSub, reduceEqDiff, reduceLeDiff, reduceLT]
               rw [M_loop]
               simp only [kz75, K75_1, tokH, List.length_cons, List.length_nil, Int.cast_ofNat_Int, go_sem, reduceIte, reduceMul, reduceAdd, reduceSub, reduceEqDiff, reduceLeDiff, reduceLT] at this ⊢
               exact this
             · rw [if_neg c4]
               have c4' : digB a.toNat = false := by simpa using c4
               have w0 : wr .i64 ((k : Int) + 1) = ((k + 1 : Nat) : Int) := by rw [wr64] <;> omega
               by_cases c5 : a = 45 ∧ headDig r = true
               · rw [if_pos c5]
                 obtain ⟨c5, c6⟩ := c5
                 cases r with
                 | nil => cases c6
                 | cons b r2 =>
                   have f3 : decide (a = 45) = true := decide_eq_true c5
                   have c6' : digB b.toNat = true := c6
                   have hget : s[k + 1]? = some b := get_drop (by rw [← List.drop_drop, hd]; rfl)
                   have e3 : decide ((k + 1 : Nat) < (s.length : Int)) = true := decide_eq_true (by simp only [List.length_cons] at hl; omega)
                   have hb : wr .i32 ((b.toNat : Nat) : Int) = (b.toNat : Int) := by have := b.toNat_lt; simp only [wr, lo]; split <;> omega
                   have e4 : (s.drop (k + 1)).take (s.length - (k + 1)) = b :: r2 := by rw [List.take_of_length_le (by simp), ← List.drop_drop, hd]; rfl
                   have g0 : k + 1 ≤ s.length := by simp only [List.length_cons] at hl; omega
                   have hle := wh_le digB (b :: r2)
                   have hwD := tk_whD (b :: r2)
                   generalize wh digB (b :: r2) = w at hle hwD ⊢
                   generalize hr : b :: r2 = r at *
                   have w3 : wr .i64 (1 + (w : Int)) = ((w + 1 : Nat) : Int) := by rw [wr64] <;> omega
                   have := step ⟨3, a :: r.take w, k⟩ (w + 1) (lset loc 9 [.i .i64 3, .s (a :: r.take w), .i .i64 k]) (by omega) (by omega) rfl
                   rw [cells_app, Nat.add_sub_cancel] at this
                   simp only [List.length_append, List.length_cons, List.length_nil, Nat.zero_add] at this
                   have w2 : wr .i64 ((k : Int) + ((w + 1 : Nat) : Int)) = ((k + (w + 1) : Nat) : Int) := by rw [wr64] <;> omega
                   have g1 : k + (w + 1) ≤ s.length := by omega
                   have g2 : k ≤ k + (w + 1) := by omega
                   rw [show k + 1 + w = k + (w + 1) from by omega, tokR_cons]
                   simp only [e1, e2, hk, Nat.le_refl, tk_dec, hdc, i32, f1, i34, f2, tk_let, c3', tk_dig, c4', i45, f3, w0, e3, byteV, hget, hb, c6', e4, g0, hwD, w3, Int.cast_ofNat_Int, w2, g1, g2, hcat, hcl, hm, tokH, splice, List.take_zero, go_sem, reduceIte, reduceMul, reduceAdd, reduceSub, reduceEqDiff, reduceLeDiff, reduceLT]
                   rw [M_loop]
                   simp only [kz75, K75_1, tokH, List.length_cons, List.length_nil, Int.cast_ofNat_Int, go_sem, reduceIte, reduceMul, reduceAdd, reduceSub, reduceEqDiff, reduceLeDiff, reduceLT] at this ⊢
                   exact this
               · rw [if_neg c5]
                 by_cases c8 : a = 45
                 · have c7 : ¬ sgnB a.toNat = true := by rw [c8]; decide
                   have c7' : sgnB a.toNat = false := by simpa using c7
                   have f3 : decide (a = 45) = true := decide_eq_true c8
                   rw [if_neg c7]
                   cases r with
                   | nil =>
                     have e3 : decide ((k + 1 : Nat) < (s.length : Int)) = false := decide_eq_false (by simp only [List.length_nil] at hl; omega)
                     simp only [e1, e2, hk, Nat.le_refl, tk_dec, hdc, i32, f1, i34, f2, tk_let, c3', tk_dig, c4', i45, f3, w0, e3, tk_sgn, c7', K75_1, tokR, tokH, Int.cast_ofNat_Int, go_sem, reduceIte, reduceMul, reduceAdd, reduceSub, reduceEqDiff, reduceLeDiff, reduceLT]
                   | cons b r2 =>
                     have c6' : digB b.toNat = false := by
                      cases h : digB b.toNat with
                      | false => rfl
                      | true => exact absurd ⟨c8, h⟩ c5
                     have hget : s[k + 1]? = some b := get_drop (by rw [← List.drop_drop, hd]; rfl)
                     have e3 : decide ((k + 1 : Nat) < (s.length : Int)) = true := decide_eq_true (by simp only [List.length_cons] at hl; omega)
                     have hb : wr .i32 ((b.toNat : Nat) : Int) = (b.toNat : Int) := by have := b.toNat_lt; simp only [wr, lo]; split <;> omega
                     simp only [e1, e2, hk, Nat.le_refl, tk_dec, hdc, i32, f1, i34, f2, tk_let, c3', tk_dig, c4', i45, f3, w0, e3, byteV, hget, hb, c6', tk_sgn, c7', K75_1, tokR, tokH, Int.cast_ofNat_Int, go_sem, reduceIte, reduceMul, reduceAdd, reduceSub, reduceEqDiff, reduceLeDiff, reduceLT]
                 · have f3 : decide (a = 45) = false := decide_eq_false c8
                   by_cases c7 : sgnB a.toNat = true
                   · rw [if_pos c7]
                     have := step ⟨4, [a], k⟩ 1 (lset loc 9 [.i .i64 4, .s [a], .i .i64 k]) (by omega) (by omega) rfl
                     rw [cells_app, Nat.sub_self, List.drop_zero] at this
                     simp only [List.length_append, List.length_cons, List.length_nil, Nat.zero_add] at this
                     have g1 : k + 1 ≤ s.length := by omega
                     have g2 : k ≤ k + 1 := by omega
                     have hc0 : (s.drop k).take (k + 1 - k) = [a] := hcat 0
                     rw [tokR_cons]
                     simp only [e1, e2, hk, Nat.le_refl, tk_dec, hdc, i32, f1, i34, f2, tk_let, c3', tk_dig, c4', i45, f3, w0, tk_sgn, c7, g1, g2, hc0, hcl, hm, tokH, splice, List.take_zero, Int.cast_ofNat_Int, go_sem, reduceIte, reduceMul, reduceAdd, reduceSub, reduceEqDiff, reduceLeDiff, reduceLT]
                     rw [M_loop]
                     simp only [kz75, K75_1, tokH, List.length_cons, List.length_nil, Int.cast_ofNat_Int, go_sem, reduceIte, reduceMul, reduceAdd, reduceSub, reduceEqDiff, reduceLeDiff, reduceLT] at this ⊢
                     exact this
                   · have c7' : sgnB a.toNat = false := by simpa using c7
                     rw [if_neg c7]
                     simp only [e1, e2, hk, Nat.le_refl, tk_dec, hdc, i32, f1, i34, f2, tk_let, c3', tk_dig, c4', i45, f3, tk_sgn, c7', K75_1, tokR, tokH, Int.cast_ofNat_Int, go_sem, reduceIte, reduceMul, reduceAdd, reduceSub, reduceEqDiff, reduceLeDiff, reduceLT]
     · have hh := dec_high (r := r) hlow
       have h1 : decide (((dec (a :: r)).1 : Int) = 32) = false := decide_eq_false (by omega)
       have h2 : decide (((dec (a :: r)).1 : Int) = 34) = false := decide_eq_false (by omega)
       have h3 : decide (((dec (a :: r)).1 : Int) = 45) = false := decide_eq_false (by omega)
       have l1 := let_hi _ hh
       have l2 := dig_hi _ hh
       have l3 := sgn_hi _ hh
       have n1 : a ≠ 32 := fun h => hlow (by rw [h]; decide)
       have n2 : a ≠ 34 := fun h => hlow (by rw [h]; decide)
       have n3 : ¬ (a = 45 ∧ headDig r = true) := fun h => hlow (by rw [h.1]; decide)
       rw [lx_cons, if_neg n1, if_neg n2, let_hi a.toNat (by omega), dig_hi a.toNat (by omega), sgn_hi a.toNat (by omega), if_neg n3]
       simp only [e1, e2, hk, Nat.le_refl, tk_dec, h1, h2, h3, tk_let, l1, tk_dig, l2, tk_sgn, l3, Bool.false_eq_true, if_false, K75_1, tokR, tokH, Int.cast_ofNat_Int, go_sem, reduceIte, reduceMul, reduceAdd, reduceSub, reduceEqDiff, reduceLeDiff, reduceLT]
theorem w_Tokens (s : List UInt8) (hs : s.length ≤ 1048576) (gl : Nat → List V) : M X_toks (kz75) (.code B75) [] (St.init gl 8 [.s s] {}) (Fin [.tmp 2, .tmp 3, .tmp 4] (tokR [] (lx s 0))) := by
 rw [U75]
 simp only [go_sem, reduceIte, reduceMul, reduceAdd, reduceSub, reduceEqDiff, reduceLeDiff, reduceLT]
 rw [M_loop]
 have := w_Tokens_loop s hs gl s.length s 0 [] [] (Nat.le_refl _) rfl (by omega) (by simp)
 simp only [kz75, K75_1, tokH, List.flatMap_nil, List.length_cons, List.length_nil, Int.cast_ofNat_Int, go_sem, reduceIte, reduceMul, reduceAdd, reduceSub, reduceEqDiff, reduceLeDiff, reduceLT] at this ⊢
 exact this
def F_Tokens (a : List V) : Option V := match a with
 | [.s s] => if s.length ≤ 1048576 then some (tokR [] (lx s 0)) else none
 | _ => none
theorem F_Tokens1 (s : List UInt8) (h : s.length ≤ 1048576) : F_Tokens [.s s] = some (tokR [] (lx s 0)) := if_pos h
theorem o_Tokens : ∀ a v, F_Tokens a = some v → Comp tabx told 75 a v := fun a v e => by
 unfold F_Tokens at e
 split at e
 · split at e
   · rename_i h; cases e; exact comp_of t_toks (fn := af75) rfl (Nat.le_of_ble_eq_true rfl) fun gl => w_Tokens _ h gl
   · cases e
 · cases e
end Go.Proofs.YtpcjhfchpelonaaGreatDoor
set_option linter.unusedSimpArgs false
set_option linter.unusedVariables false
namespace Go.Proofs.YtpcjhfchpelonaaGreatDoor
open Ai
theorem t8 {n : Nat} (h : n < 256) : (UInt8.ofNat n).toNat = n := by rw [UInt8.toNat_ofNat']; omega
theorem dec_enc {c : Nat} (h : oks c) (t : List UInt8) : dec (enc c ++ t) = (c, (enc c).length) := by
 have hc : c < 55296 ∨ (57343 < c ∧ c ≤ 1114111) := h
 unfold enc
 by_cases k1 : c < 128
 · rw [if_pos k1]
   have := dec_ascii (a := UInt8.ofNat c) (by rw [t8 (by omega)]; omega) t
   rw [t8 (by omega)] at this
   exact this
 · rw [if_neg k1]
   by_cases k2 : c < 2048
   · rw [if_pos k2, dec_F]
     simp only [List.cons_append, List.nil_append, List.getD_cons_zero, List.getD_cons_succ, contB, List.length_cons, List.length_nil]
     rw [t8 (show 192 + c / 64 < 256 by omega), t8 (show 128 + c % 64 < 256 by omega)]
     unfold decF
     rw [if_neg (by omega)]
     have e1 : (192 + c / 64) / 32 = 6 := by omega
     have e2 : (128 + c % 64) / 64 = 2 := by omega
     have e3 : (192 + c / 64) % 32 * 64 + (128 + c % 64) % 64 = c := by omega
     have e4 : decide (1 < t.length + 1 + 1) = true := decide_eq_true (by omega)
     simp only [e1, e2, e3, e4, beq_self_eq_true, Bool.and_self, if_true]
     rw [if_pos (by omega)]
   · rw [if_neg k2]
     by_cases k3 : c < 65536
     · rw [if_pos k3, dec_F]
       simp only [List.cons_append, List.nil_append, List.getD_cons_zero, List.getD_cons_succ, contB, List.length_cons, List.length_nil]
       rw [t8 (show 224 + c / 4096 < 256 by omega), t8 (show 128 + c / 64 % 64 < 256 by omega), t8 (show 128 + c % 64 < 256 by omega)]
       unfold decF
       rw [if_neg (by omega)]
       have e0 : ((224 + c / 4096) / 32 == 6) = false := by simp; omega
       have e1 : (224 + c / 4096) / 16 = 14 := by omega
       have e2 : (128 + c / 64 % 64) / 64 = 2 := by omega
       have e2' : (128 + c % 64) / 64 = 2 := by omega
       have e3 : (224 + c / 4096) % 16 * 4096 + (128 + c / 64 % 64) % 64 * 64 + (128 + c % 64) % 64 = c := by omega
       have e4 : decide (1 < t.length + 1 + 1 + 1) = true := decide_eq_true (by omega)
       have e5 : decide (2 < t.length + 1 + 1 + 1) = true := decide_eq_true (by omega)
       have e6 : Utf8.valid c = true := by simp [Utf8.valid]; omega
       have e7 : decide (c ≥ 2048) = true := decide_eq_true (by omega)
       simp only [e0, e1, e2, e2', e3, e4, e5, e6, e7, beq_self_eq_true, Bool.and_self, Bool.false_and, Bool.false_eq_true, if_false, if_true]
     · rw [if_neg k3, dec_F]
       simp only [List.cons_append, List.nil_append, List.getD_cons_zero, List.getD_cons_succ, contB, List.length_cons, List.length_nil]
       rw [t8 (show 240 + c / 262144 < 256 by omega), t8 (show 128 + c / 4096 % 64 < 256 by omega), t8 (show 128 + c / 64 % 64 < 256 by omega), t8 (show 128 + c % 64 < 256 by omega)]
       unfold decF
       rw [if_neg (by omega)]
       have e0 : ((240 + c / 262144) / 32 == 6) = false := by simp; omega
       have e0' : ((240 + c / 262144) / 16 == 14) = false := by simp; omega
       have e1 : (240 + c / 262144) / 8 = 30 := by omega
       have e2 : (128 + c / 4096 % 64) / 64 = 2 := by omega
       have e2' : (128 + c / 64 % 64) / 64 = 2 := by omega
       have e2'' : (128 + c % 64) / 64 = 2 := by omega
       have e3 : (240 + c / 262144) % 8 * 262144 + (128 + c / 4096 % 64) % 64 * 4096 + (128 + c / 64 % 64) % 64 * 64 + (128 + c % 64) % 64 = c := by omega
       have e4 : decide (1 < t.length + 1 + 1 + 1 + 1) = true := decide_eq_true (by omega)
       have e5 : decide (2 < t.length + 1 + 1 + 1 + 1) = true := decide_eq_true (by omega)
       have e5' : decide (3 < t.length + 1 + 1 + 1 + 1) = true := decide_eq_true (by omega)
       have e6 : Utf8.valid c = true := by simp [Utf8.valid]; omega
       have e7 : decide (c ≥ 65536) = true := decide_eq_true (by omega)
       simp only [e0, e0', e1, e2, e2', e2'', e3, e4, e5, e5', e6, e7, beq_self_eq_true, Bool.and_self, Bool.false_and, Bool.false_eq_true, if_false, if_true]
theorem enc_dec {a : UInt8} {r : List UInt8} (h : ¬ ((dec (a :: r)).1 = 65533 ∧ (dec (a :: r)).2 = 1)) : enc (dec (a :: r)).1 = (a :: r).take (dec (a :: r)).2 := by
 have e := Lib.encode_decode (a :: r) (by simp) (by rw [decodeL_dec]; exact h)
 rw [decodeL_dec] at e
 rw [← e]
 have ho : (dec (a :: r)).1 < 55296 ∨ (57343 < (dec (a :: r)).1 ∧ (dec (a :: r)).1 ≤ 1114111) := dec_oks (a :: r)
 generalize (dec (a :: r)).1 = c at ho
 have b8 : ∀ z : Int, (z.toNat).toUInt8 = UInt8.ofNat z.toNat := fun z => rfl
 have n8 : ∀ (z : Int) (n : Nat), z = (n : Int) → (z.toNat).toUInt8 = UInt8.ofNat n := fun z n hz => by rw [b8, hz]; rfl
 unfold enc
 by_cases k1 : c < 128
 · rw [if_pos k1]
   unfold Lib.encodeRune Lib.encodeRuneZ
   rw [if_pos (by omega)]
   simp only [List.map_cons, List.map_nil]
   rw [n8 _ c (by omega)]
 · rw [if_neg k1]
   by_cases k2 : c < 2048
   · rw [if_pos k2]
     unfold Lib.encodeRune Lib.encodeRuneZ
     rw [if_neg (by omega), if_pos (by omega)]
     simp only [List.map_cons, List.map_nil]
     rw [n8 _ (192 + c / 64) (by omega), n8 _ (128 + c % 64) (by omega)]
   · rw [if_neg k2]
     by_cases k3 : c < 65536
     · rw [if_pos k3]
       unfold Lib.encodeRune Lib.encodeRuneZ
       rw [if_neg (by omega), if_neg (by omega), if_pos (by omega)]
       simp only [List.map_cons, List.map_nil]
       rw [n8 _ (224 + c / 4096) (by omega), n8 _ (128 + c / 64 % 64) (by omega), n8 _ (128 + c % 64) (by omega)]
     · rw [if_neg k3]
       unfold Lib.encodeRune Lib.encodeRuneZ
       rw [if_neg (by omega), if_neg (by omega), if_neg (by omega), if_pos (by omega)]
       simp only [List.map_cons, List.map_nil]
       rw [n8 _ (240 + c / 262144) (by omega), n8 _ (128 + c / 4096 % 64) (by omega), n8 _ (128 + c / 64 % 64) (by omega), n8 _ (128 + c % 64) (by omega)]
def txt (l : List UInt8) : List UInt8 := (rns l).flatMap enc
/-! ### A text in quotes -/
theorem index_at : ∀ (p t : List UInt8), (125 : UInt8) ∉ p → Lib.indexByte (p ++ 125 :: t) 125 = p.length := by
 intro p
 induction p with
 | nil => intro t _; simp [Lib.indexByte]
 | cons a r ih =>
   intro t h
   simp only [List.mem_cons, not_or] at h
   have := ih t h.2
   rw [List.cons_append, Lib.indexByte]
   have hne : (a == 125) = false := by simpa using fun e : a = 125 => h.1 e.symm
   simp only [hne, Bool.false_eq_true, if_false, this]
   simp
set_option maxRecDepth 100000 in
theorem hexs_ctl : ∀ c ∈ ctl, hexN 0 (hexs c) = some c ∧ (125 : UInt8) ∉ hexs c ∧ okB c = true := by decide
theorem hexV_hexs {c : Nat} (h : c ∈ ctl) (t : List UInt8) : hexV (123 :: (hexs c ++ 125 :: t)) = (c, (hexs c).length + 2) := by
 obtain ⟨h1, h2, h3⟩ := hexs_ctl c h
 have hl := hexs_len c
 have hi : Lib.indexByte (123 :: (hexs c ++ 125 :: t)) 125 = ((hexs c).length + 1 : Nat) := by
  have := index_at (123 :: hexs c) t (by simp only [List.mem_cons, not_or]; exact ⟨by decide, h2⟩)
  simpa using this
 unfold hexV
 rw [hi, if_neg (by simp; omega)]
 have e : ((123 :: (hexs c ++ 125 :: t)).drop 1).take ((((hexs c).length + 1 : Nat) : Int).toNat - 1) = hexs c := by
  rw [Int.toNat_natCast, Nat.add_sub_cancel]
  simp
 rw [e, h1]
 simp [h3]
theorem qscan_quote : ∀ (cs : List Nat), (∀ c ∈ cs, oks c) → ∀ (t out : List UInt8) (k : Nat), qscan (cs.flatMap qt ++ 34 :: t) out k = some (out ++ cs.flatMap enc, k + (cs.flatMap qt).length + 1) := by
 intro cs
 induction cs with
 | nil =>
   intro _ t out k
   simp only [List.flatMap_nil, List.nil_append, List.append_nil, List.length_nil, Nat.add_zero]
   exact qscan_end (by rw [dec_ascii (by decide)]; rfl)
 | cons c cs ih =>
   intro hcs t out k
   have ho := hcs c (by simp)
   have ho' : c < 55296 ∨ (57343 < c ∧ c ≤ 1114111) := ho
   have ih := ih (fun x hx => hcs x (by simp [hx])) t
   rw [List.flatMap_cons, List.flatMap_cons, List.append_assoc, List.length_append]
   generalize cs.flatMap qt ++ 34 :: t = rest at ih ⊢
   by_cases q : c = 34 ∨ c = 92
   · have hq : qt c = [92, UInt8.ofNat c] := by rcases q with q | q <;> rw [q] <;> decide
     have he : enc c = [UInt8.ofNat c] := by rcases q with q | q <;> rw [q] <;> decide
     rw [hq, he]
     simp only [List.cons_append, List.nil_append]
     rw [qscan_esc, if_pos (by rcases q with q | q <;> rw [q] <;> decide)]
     rw [ih]
     simp only [List.append_assoc, List.cons_append, List.nil_append, List.length_cons, List.length_nil, Option.some.injEq, Prod.mk.injEq, true_and]
     omega
   · by_cases q3 : c < 32 ∨ c = 127 ∨ c = 65533
     · have hq : qt c = 92 :: 117 :: 123 :: (hexs c ++ [125]) := by unfold qt; rw [if_neg q, if_pos q3]; simp
       have hv := hexV_hexs (mem_ctl.2 q3) rest
       rw [hq]
       simp only [List.cons_append, List.append_assoc, List.nil_append]
       rw [qscan_esc, if_neg (by decide), if_pos rfl, hv, if_neg (by simp)]
       have hd : (123 :: (hexs c ++ 125 :: rest)).drop ((hexs c).length + 2) = rest := by
        rw [List.drop_succ_cons, ← List.drop_drop, List.drop_left]; rfl
       rw [hd, ih]
       simp only [List.append_assoc, List.length_cons, List.length_append, List.length_nil, Option.some.injEq, Prod.mk.injEq, true_and]
       omega
     · have hq : qt c = enc c := by unfold qt; rw [if_neg q, if_neg q3]
       rw [hq]
       have hd := dec_enc ho rest
       have hel := enc_len c
       have hdr : (enc c ++ rest).drop (enc c).length = rest := List.drop_left
       obtain ⟨a, r, e⟩ : ∃ a r, enc c ++ rest = a :: r := by
        cases he : enc c with
        | nil => rw [he] at hel; simp at hel
        | cons a r => exact ⟨a, r ++ rest, rfl⟩
       rw [e] at hd hdr ⊢
       have h1 : (dec (a :: r)).1 = c := by rw [hd]
       have h2 : (dec (a :: r)).2 = (enc c).length := by rw [hd]
       rw [qscan_rune (by rw [h1]; omega) (by rw [h1]; omega) (by rw [h1]; omega), h1, h2, hdr, ih]
       simp only [List.append_assoc, Option.some.injEq, Prod.mk.injEq, true_and]
       omega
theorem rns_oks (l : List UInt8) : ∀ c ∈ rns l, oks c := by
 induction l using rune_ind with
 | h0 => intro c h; rw [rns_nil] at h; cases h
 | h1 a r ih =>
   intro c h
   rw [rns_cons, List.mem_cons] at h
   rcases h with rfl | h
   · exact dec_oks _
   · exact ih c h
/-! ### Texts put together -/
def Lx.app (m : List Tok) : Lx → Lx
 | .ok l => .ok (m ++ l)
 | x => x
theorem Lx.cons_ok {t : Tok} {x : Lx} {m : List Tok} (h : x.cons t = .ok m) : ∃ m', x = .ok m' ∧ m = t :: m' := by
 cases x with
 | ok l => simp only [Lx.cons, Lx.ok.injEq] at h; exact ⟨l, rfl, h.symm⟩
 | bad a e => cases h
theorem tok_drop (pre post : List Tok) : ((pre ++ post).flatMap Tok.cells).drop (pre.length * 3) = post.flatMap Tok.cells := by
 rw [List.flatMap_append, ← toks_len pre, List.drop_left]
theorem quoteV_len (l : List UInt8) : (quoteV l).length ≤ 10 * l.length + 2 := by
 unfold quoteV
 have h1 := rns_le l
 have h2 : ∀ cs : List Nat, (cs.flatMap qt).length ≤ 10 * cs.length := by
  intro cs
  induction cs with
  | nil => simp
  | cons c cs ih => have := qt_len c; simp only [List.flatMap_cons, List.length_append, List.length_cons]; omega
 have := h2 (rns l)
 simp only [List.length_cons, List.length_append, List.length_nil]; omega
theorem lx_len : ∀ (n : Nat) (l : List UInt8) (k : Nat) (m : List Tok), l.length ≤ n → lx l k = .ok m → m.length ≤ l.length := by
 intro n
 induction n with
 | zero =>
   intro l k m hn h
   obtain rfl : l = [] := List.length_eq_zero_iff.1 (by omega)
   rw [lx_nil] at h; cases h; exact Nat.le_refl _
 | succ n ih =>
   intro l k m hn h
   cases l with
   | nil => rw [lx_nil] at h; cases h; exact Nat.le_refl _
   | cons a r =>
     simp only [List.length_cons] at hn ⊢
     rw [lx_cons] at h
     split at h
     · have := ih r _ _ (by omega) h; omega
     · split at h
       · cases hq : qscan r [] 1 with
         | none => rw [hq] at h; cases h
         | some p =>
           obtain ⟨x, j⟩ := p
           rw [hq] at h
           obtain ⟨m', e1, rfl⟩ := Lx.cons_ok h
           have := ih _ _ _ (by rw [List.length_drop]; omega) e1
           rw [List.length_drop] at this
           simp only [List.length_cons]; omega
       · split at h
         · obtain ⟨m', e1, rfl⟩ := Lx.cons_ok h
           have := ih _ _ _ (by rw [List.length_drop]; omega) e1
           rw [List.length_drop] at this
           simp only [List.length_cons]; omega
         · split at h
           · obtain ⟨m', e1, rfl⟩ := Lx.cons_ok h
             have := ih _ _ _ (by rw [List.length_drop]; omega) e1
             rw [List.length_drop] at this
             simp only [List.length_cons]; omega
           · split at h
             · obtain ⟨m', e1, rfl⟩ := Lx.cons_ok h
               have := ih _ _ _ (by rw [List.length_drop]; omega) e1
               rw [List.length_drop] at this
               simp only [List.length_cons]; omega
             · split at h
               · obtain ⟨m', e1, rfl⟩ := Lx.cons_ok h
                 have := ih _ _ _ (by omega) e1
                 simp only [List.length_cons]; omega
               · cases h
end Go.Proofs.YtpcjhfchpelonaaGreatDoor
set_option linter.unusedSimpArgs false
set_option linter.unusedVariables false
namespace Go.Proofs.YtpcjhfchpelonaaGreatDoor
open Nat (reduceMul reduceAdd reduceSub reduceEqDiff reduceLeDiff reduceLT)
open Ai
def X_rq := xs [(134, F_rhex)]
theorem t_rq : Tells tabx told X_rq := tells_cons o_rhex tells_nil
def K99_1 : List Fr := [.blk 0,
 .seq (Sr [Om 42 3, Oq 43 (.bin .add (.t 42) (.k (.s [34]))), Om 2 43]
 .ret)]
theorem U99_1 : type_of% (@M_open _ _ L99_1.eq_1) := @M_open _ _ L99_1.eq_1
theorem U99 : type_of% (@M_open _ _ B99.eq_1) := @M_open _ _ B99.eq_1
def kz99 (_ : Nat) : List Nat := [0, 1, 2, 4, 5, 6, 8, 9, 10, 11, 12, 13, 14, 15, 16, 17, 18, 19, 20, 21, 22, 23, 24, 25, 26, 27, 28, 29, 30, 31, 32, 33, 34, 35, 36, 37, 38, 39, 40, 41, 42, 43]
theorem w_rQuote_loop (gl : Nat → List V) : ∀ (l bs : List UInt8) (pos : Nat), bs.length + 10 * l.length ≤ 1000000 →
  M X_rq (kz99) (.code L99_1) (.loop L99_1 :: K99_1) ⟨gl, (.node (.node (.node (.node E2 (.it) E2) (.s bs) E3) .any E4) .any E5), [(7, (l, pos))], [], {}⟩
   (Fin [.tmp 2] (.s (bs ++ ((rns l).flatMap qt ++ [34])))) := by
 intro l
 induction l using rune_ind with
 | h0 =>
   intro bs pos hm
   rw [U99_1]
   have g : bs.length + 1 ≤ 4611686018427387904 := by omega
   simp only [K99_1, g, go_sem, reduceIte, reduceMul, reduceAdd, reduceSub, reduceEqDiff, reduceLeDiff, reduceLT]
   simp [rns_nil]
 | h1 a r ih =>
   intro bs pos hm
   have hlt := dec_nil_free a r
   have hok := dec_oks (a :: r)
   rw [U99_1, rns_cons, List.flatMap_cons]
   generalize hc : (dec (a :: r)).1 = c at *
   have hql := qt_len c
   simp only [List.length_cons] at hm hlt
   have fin : M X_rq (kz99) (.code L99_1) (.loop L99_1 :: K99_1) ⟨gl, (.node (.node (.node (.node E2 (.it) E2) (.s (bs ++ qt c)) E3) .any E4) .any E5), [(7, ((a :: r).drop (dec (a :: r)).2, pos + (dec (a :: r)).2))], [], {}⟩
     (Fin [.tmp 2] (.s (bs ++ (qt c ++ (rns ((a :: r).drop (dec (a :: r)).2)).flatMap qt ++ [34])))) := by
    have := ih (bs ++ qt c) (pos + (dec (a :: r)).2) (by simp only [List.length_append]; omega)
    rw [show bs ++ (qt c ++ (rns ((a :: r).drop (dec (a :: r)).2)).flatMap qt ++ [34]) = bs ++ qt c ++ ((rns ((a :: r).drop (dec (a :: r)).2)).flatMap qt ++ [34]) from by simp]
    exact this
   have d1 : decide ((c : Int) = 34) = decide (c = 34) := decide_eq_decide.2 (by omega)
   have d2 : decide ((c : Int) = 92) = decide (c = 92) := decide_eq_decide.2 (by omega)
   have d3 : decide ((c : Int) < 32) = decide (c < 32) := decide_eq_decide.2 (by omega)
   have d4 : decide ((c : Int) = 127) = decide (c = 127) := decide_eq_decide.2 (by omega)
   have d5 : decide ((c : Int) = 65533) = decide (c = 65533) := decide_eq_decide.2 (by omega)
   have g2 : bs.length + 2 ≤ 4611686018427387904 := by omega
   by_cases q : c = 34
   · have hq : qt c = [92, 34] := by rw [q]; decide
     have f1 : decide (c = 34) = true := by simpa using q
     simp only [hc, d1, f1, g2, go_sem, reduceIte, reduceMul, reduceAdd, reduceSub, reduceEqDiff, reduceLeDiff, reduceLT]
     rw [M_loop]
     rw [hq] at fin ⊢
     simp only [kz99, K99_1, List.length_cons, List.length_nil, go_sem, reduceIte, reduceMul, reduceAdd, reduceSub, reduceEqDiff, reduceLeDiff, reduceLT] at fin ⊢
     exact fin
   · have f1 : decide (c = 34) = false := by simpa using q
     by_cases q2 : c = 92
     · have hq : qt c = [92, 92] := by rw [q2]; decide
       have f2 : decide (c = 92) = true := by simpa using q2
       simp only [hc, d1, f1, d2, f2, g2, go_sem, reduceIte, reduceMul, reduceAdd, reduceSub, reduceEqDiff, reduceLeDiff, reduceLT]
       rw [M_loop]
       rw [hq] at fin ⊢
       simp only [kz99, K99_1, List.length_cons, List.length_nil, go_sem, reduceIte, reduceMul, reduceAdd, reduceSub, reduceEqDiff, reduceLeDiff, reduceLT] at fin ⊢
       exact fin
     · have f2 : decide (c = 92) = false := by simpa using q2
       by_cases q3 : c < 32 ∨ c = 127 ∨ c = 65533
       · have hq : qt c = [92, 117, 123] ++ hexs c ++ [125] := by unfold qt; rw [if_neg (by omega), if_pos q3]
         have hhl := hexs_len c
         have g3 : bs.length + 3 ≤ 4611686018427387904 := by omega
         have g4 : bs.length + 3 + (hexs c).length ≤ 4611686018427387904 := by omega
         have g5 : bs.length + 3 + (hexs c).length + 1 ≤ 4611686018427387904 := by omega
         have hx := F_rhex1 q3
         have e : bs ++ qt c = bs ++ [92, 117, 123] ++ hexs c ++ [125] := by rw [hq]; simp
         rw [e] at fin
         rcases q3 with q | q | q
         · have f3 : decide (c < 32) = true := by simpa using q
           simp only [hc, d1, f1, d2, f2, d3, f3, X_rq, hx, List.length_append, g3, g4, g5, go_sem, reduceIte, reduceMul, reduceAdd, reduceSub, reduceEqDiff, reduceLeDiff, reduceLT]
           rw [M_loop]
           simp only [kz99, K99_1, X_rq, List.length_cons, List.length_nil, go_sem, reduceIte, reduceMul, reduceAdd, reduceSub, reduceEqDiff, reduceLeDiff, reduceLT] at fin ⊢
           exact fin
         · have f3 : decide (c < 32) = false := by simp; omega
           have f4 : decide (c = 127) = true := by simpa using q
           simp only [hc, d1, f1, d2, f2, d3, f3, d4, f4, X_rq, hx, List.length_append, g3, g4, g5, go_sem, reduceIte, reduceMul, reduceAdd, reduceSub, reduceEqDiff, reduceLeDiff, reduceLT]
           rw [M_loop]
           simp only [kz99, K99_1, X_rq, List.length_cons, List.length_nil, go_sem, reduceIte, reduceMul, reduceAdd, reduceSub, reduceEqDiff, reduceLeDiff, reduceLT] at fin ⊢
           exact fin
         · have f3 : decide (c < 32) = false := by simp; omega
           have f4 : decide (c = 127) = false := by simp; omega
           have f5 : decide (c = 65533) = true := by simpa using q
           simp only [hc, d1, f1, d2, f2, d3, f3, d4, f4, d5, f5, X_rq, hx, List.length_append, g3, g4, g5, go_sem, reduceIte, reduceMul, reduceAdd, reduceSub, reduceEqDiff, reduceLeDiff, reduceLT]
           rw [M_loop]
           simp only [kz99, K99_1, X_rq, List.length_cons, List.length_nil, go_sem, reduceIte, reduceMul, reduceAdd, reduceSub, reduceEqDiff, reduceLeDiff, reduceLT] at fin ⊢
           exact fin
       · have hq : qt c = enc c := by unfold qt; rw [if_neg (by omega), if_neg q3]
         have hel := enc_len c
         have f3 : decide (c < 32) = false := by simp; omega
         have f4 : decide (c = 127) = false := by simp; omega
         have f5 : decide (c = 65533) = false := by simp; omega
         have g6 : bs.length + (enc c).length ≤ 4611686018427387904 := by omega
         simp only [hc, d1, f1, d2, f2, d3, f3, d4, f4, d5, f5, encode_enc hok, g6, go_sem, reduceIte, reduceMul, reduceAdd, reduceSub, reduceEqDiff, reduceLeDiff, reduceLT]
         rw [M_loop]
         rw [hq] at fin ⊢
         simp only [kz99, K99_1, List.length_cons, List.length_nil, go_sem, reduceIte, reduceMul, reduceAdd, reduceSub, reduceEqDiff, reduceLeDiff, reduceLT] at fin ⊢
         exact fin
theorem w_rQuote (l : List UInt8) (hl : l.length ≤ 8192) (gl : Nat → List V) : M X_rq (kz99) (.code B99) [] (St.init gl 6 [.s l] {}) (Fin [.tmp 2] (.s (quoteV l))) := by
 rw [U99]
 simp only [go_sem, reduceIte, reduceMul, reduceAdd, reduceSub, reduceEqDiff, reduceLeDiff, reduceLT]
 rw [M_loop]
 have := w_rQuote_loop gl l [34] 0 (by simp only [List.length_cons, List.length_nil]; omega)
 simp only [kz99, K99_1, List.length_cons, List.length_nil, go_sem, reduceIte, reduceMul, reduceAdd, reduceSub, reduceEqDiff, reduceLeDiff, reduceLT] at this ⊢
 exact this
def F_Quote (a : List V) : Option V := match a with
 | [.s l] => if l.length ≤ 8192 then some (.s (quoteV l)) else none
 | _ => none
theorem F_Quote1 (l : List UInt8) (h : l.length ≤ 8192) : F_Quote [.s l] = some (.s (quoteV l)) := if_pos h
theorem o_Quote : ∀ a v, F_Quote a = some v → Comp tabx told 94 a v := fun a v e => by
 unfold F_Quote at e
 split at e
 · split at e
   · rename_i h; cases e; exact c_Quote _ h
   · cases e
 · cases e
theorem o_rQuote : ∀ a v, F_Quote a = some v → Comp tabx told 99 a v := fun a v e => by
 unfold F_Quote at e
 split at e
 · split at e
   · rename_i h; cases e; exact comp_of t_rq (fn := af99) rfl (Nat.le_of_ble_eq_true rfl) fun gl => w_rQuote _ h gl
   · cases e
 · cases e
/-! ### Functions that write, told by what they do -/
noncomputable def pick (g : FuncId) (R : List V → H → V → H → Prop) (a : List V) (h : H) : Option (V × H) := open Classical in if e : ∃ p : V × H, Hp.CompI tabx told g a h p.1 p.2 ∧ R a h p.1 p.2 then some e.choose else none
theorem pick_tells {g : FuncId} {R : List V → H → V → H → Prop} : ∀ a h v h', pick g R a h = some (v, h') → Hp.CompI tabx told g a h v h' := fun a h v h' e => by
 unfold pick at e
 split at e
 · rename_i hp
   have hs := hp.choose_spec
   simp only [Option.some.injEq] at e
   rw [e] at hs
   exact hs.1
 · cases e
theorem pick_spec {g : FuncId} {R : List V → H → V → H → Prop} {a : List V} {h : H} {v : V} {h' : H} (hc : Hp.CompI tabx told g a h v h') (hr : R a h v h') : ∃ v h', pick g R a h = some (v, h') ∧ R a h v h' := by
 have hp : ∃ p : V × H, Hp.CompI tabx told g a h p.1 p.2 ∧ R a h p.1 p.2 := ⟨(v, h'), hc, hr⟩
 exact ⟨hp.choose.1, hp.choose.2, dif_pos hp, hp.choose_spec.2⟩
theorem compI_ex {xf : FuncId → List V → Option V} {xh : FuncId → List V → H → Option (V × H)} {kz : Nat → List Nat} (hx : Tells tabx told xf) (hy : Hp.TellsI tabx told xh) {g : FuncId} {fn : AFunc} {args : List V} {h0 : H} {Q : V → H → Prop} (ht : tabx g = some fn) (hn : args.length ≤ fn.n)
  (h : Hp.M xf xh kz (.code fn.body) [] (St.init gl0 fn.depth args h0) (fun ex st => ∃ v h', Hp.FinI fn.res v h' ex st ∧ Q v h')) : ∃ v h', Hp.CompI tabx told g args h0 v h' ∧ Q v h' := by
 obtain ⟨f, ex, st', e, v, h', hf, q⟩ := h
 refine ⟨v, h', fun gl hok => ?_, q⟩
 have hgl : gl = gl0 := hok
 subst hgl
 obtain ⟨he, hl⟩ := hf
 obtain ⟨ex1, st1, f1, _, _, hr, hev⟩ := Hp.runK_ev hx hy f f (Nat.le_refl _) _ _ _ _ _ hok e
 simp only at hev
 have : ex1 = ex ∧ st1 = st' := by
  match f1, hr with
  | 0, hr => simp [Hp.runK] at hr
  | f1 + 1, hr => simp only [Hp.runK, Option.some.injEq, Prod.mk.injEq] at hr; exact hr
 obtain ⟨rfl, rfl⟩ := this
 have hl' : leave fn false h0 st1 = some (v, h') := by
  unfold leave
  cases hv : resV st1 fn.res with
  | none => rw [hv] at hl; cases hl
  | some vs =>
    rw [hv] at hl
    simp only [Option.map_some, Option.some.injEq] at hl
    simp only [cond_false, hl]
 exact .fn ht hn hev he hl'
/-! ### The tokens, and where one stands -/
def srcC (ts : List Tok) (a e : Nat) : Ai.Obj := .cells 141 [.sl (ts.flatMap Tok.cells) ts.length .no, .i .i64 a, .i .i64 e, .b true]
def SO (h : H) (id : Nat) (ts : List Tok) (e a : Nat) : Prop := al h.objs id = some (srcC ts a e) ∧ a ≤ ts.length ∧ ts.length ≤ 1048576 ∧ ∀ t ∈ ts, 1 ≤ t.kind
def setAt (h : H) (id : Nat) (ts : List Tok) (e a : Nat) : H := ⟨h.next, alSet h.objs id (srcC ts a e), h.nt, h.tips⟩
def tokAt (ts : List Tok) (e a : Nat) : Tok := (ts[a]?).getD ⟨0, [], e⟩
theorem SO.set {h : H} {id : Nat} {ts : List Tok} {e a : Nat} (ho : SO h id ts e a) {b : Nat} (hb : b ≤ ts.length) : SO (setAt h id ts e b) id ts e b :=
 ⟨al_alSet _ _ _, hb, ho.2.2⟩
theorem SO.uniq {h : H} {id : Nat} {ts : List Tok} {e a b : Nat} (h1 : SO h id ts e a) (h2 : SO h id ts e b) : a = b := by
 have := h1.1.symm.trans h2.1
 simp only [srcC, Option.some.injEq, Ai.Obj.cells.injEq, List.cons.injEq, V.i.injEq] at this
 omega
theorem tok_at {ts : List Tok} {i : Nat} {t : Tok} (h : ts[i]? = some t) : ((ts.flatMap Tok.cells).drop (i * 3)).take 3 = t.cells := by
 have hi := (List.getElem?_eq_some_iff.1 h).1
 have e : ts = ts.take i ++ t :: ts.drop (i + 1) := by
  have := (List.getElem?_eq_some_iff.1 h).2
  rw [← this, List.getElem_cons_drop, List.take_append_drop]
 have := tok_drop (ts.take i) (t :: ts.drop (i + 1))
 rw [← e, List.length_take, Nat.min_eq_left (by omega)] at this
 rw [this]; rfl
section
variable (ts : List Tok) (e id : Nat)
def R_ahead (a : List V) (h : H) (v : V) (h' : H) : Prop := ∀ k at_ : Nat, a = [.p id 0, .i .i64 (k : Nat)] → k ≤ 1 → SO h id ts e at_ → v = .agg (tokAt ts e (at_ + k)).cells ∧ h' = h
theorem UH107 : type_of% (@Hp_open _ _ B107.eq_1) := @Hp_open _ _ B107.eq_1
def kz107 (_ : Nat) : List Nat := []
theorem w_ahead (nx : Nat) (obs : List (Nat × Ai.Obj)) (nt : Nat) (tips : List (Nat × (Nat × TypeId))) (k at_ : Nat) (hk : k ≤ 1) (ho : SO ⟨nx, obs, nt, tips⟩ id ts e at_) (gl : Nat → List V) :
  Hp.M noX noY (kz107) (.code B107) [] (St.init gl 6 [.p id 0, .i .i64 (k : Nat)] ⟨nx, obs, nt, tips⟩) (Hp.FinI [.cell 4 true 3] (.agg (tokAt ts e (at_ + k)).cells) ⟨nx, obs, nt, tips⟩) := by
 rw [UH107]
 obtain ⟨h1, h2, h3, _⟩ := ho
 simp only [srcC] at h1
 have w1 : wr .i64 ((ts.length : Int) - (at_ : Int)) = (ts.length : Int) - (at_ : Int) := by rw [wr64] <;> omega
 have w2 : wr .i64 ((ts.length : Int) - (at_ : Int) - 1) = (ts.length : Int) - (at_ : Int) - 1 := by rw [wr64] <;> omega
 have w3 : wr .i64 ((at_ : Int) + (k : Int)) = ((at_ + k : Nat) : Int) := by rw [wr64] <;> omega
 have hc := toks_len ts
 by_cases hl : at_ + k < ts.length
 · have e1 : decide ((ts.length : Int) - (at_ : Int) - 1 < (k : Int)) = false := decide_eq_false (by omega)
   have hg : ts[at_ + k]? = some ts[at_ + k] := List.getElem?_eq_getElem hl
   have ht := tok_at hg
   have g2 : (at_ + k + 1) * 3 ≤ ts.length * 3 := by omega
   have et : tokAt ts e (at_ + k) = ts[at_ + k] := by unfold tokAt; rw [hg]; rfl
   rw [et]
   simp only [Tok.cells] at ht
   simp only [h1, w1, w2, e1, w3, hl, g2, hc, rd_ip, ht, Tok.cells, go_sem, reduceIte, reduceMul, reduceAdd, reduceSub, reduceEqDiff, reduceLeDiff, reduceLT]
 · have e1 : decide ((ts.length : Int) - (at_ : Int) - 1 < (k : Int)) = true := decide_eq_true (by omega)
   have et : tokAt ts e (at_ + k) = ⟨0, [], e⟩ := by unfold tokAt; rw [List.getElem?_eq_none (by omega)]; rfl
   rw [et]
   simp only [h1, w1, w2, e1, Tok.cells, Int.cast_ofNat_Int, go_sem, reduceIte, reduceMul, reduceAdd, reduceSub, reduceEqDiff, reduceLeDiff, reduceLT]
theorem ahead_eq {h : H} {k at_ : Nat} (hk : k ≤ 1) (ho : SO h id ts e at_) : pick 107 (R_ahead ts e id) [.p id 0, .i .i64 (k : Nat)] h = some (.agg (tokAt ts e (at_ + k)).cells, h) := by
 obtain ⟨nx, obs, nt, tips⟩ := h
 have hc : Hp.CompI tabx told 107 [.p id 0, .i .i64 (k : Nat)] ⟨nx, obs, nt, tips⟩ (.agg (tokAt ts e (at_ + k)).cells) ⟨nx, obs, nt, tips⟩ := Hp.compI_of tells_noX tells_noY (fn := af107) rfl (Nat.le_of_ble_eq_true rfl) fun gl => w_ahead ts e id nx obs nt tips k at_ hk ho gl
 obtain ⟨v, h', e1, r⟩ := pick_spec (R := R_ahead ts e id) hc (by
  intro k' at' e1 hk' ho'
  simp only [List.cons.injEq, V.i.injEq, true_and, and_true] at e1
  have e1 : k = k' := by omega
  subst e1
  rw [ho.uniq ho']; exact ⟨rfl, rfl⟩)
 obtain ⟨rfl, rfl⟩ := r k at_ rfl hk ho
 exact e1
noncomputable def Y_peek := ys [(107, pick 107 (R_ahead ts e id))]
theorem t_peek : Hp.TellsI tabx told (Y_peek ts e id) := itells_cons pick_tells itells_nil
def R_peek (a : List V) (h : H) (v : V) (h' : H) : Prop := ∀ at_ : Nat, a = [.p id 0] → SO h id ts e at_ → v = .agg (tokAt ts e at_).cells ∧ h' = h
theorem UH76 : type_of% (@Hp_open _ _ B76.eq_1) := @Hp_open _ _ B76.eq_1
def kz76 (_ : Nat) : List Nat := []
theorem peek_eq {h : H} {at_ : Nat} (ho : SO h id ts e at_) : pick 76 (R_peek ts e id) [.p id 0] h = some (.agg (tokAt ts e at_).cells, h) := by
 obtain ⟨nx, obs, nt, tips⟩ := h
 have ha := ahead_eq ts e id (k := 0) (Nat.zero_le _) ho
 have hc : Hp.CompI tabx told 76 [.p id 0] ⟨nx, obs, nt, tips⟩ (.agg (tokAt ts e at_).cells) ⟨nx, obs, nt, tips⟩ := Hp.compI_of tells_noX (t_peek ts e id) (fn := af76) (kz := kz76) rfl (Nat.le_of_ble_eq_true rfl) fun gl => by
  show Hp.M _ _ _ (.code B76) _ (St.init gl 3 _ _) (Hp.FinI [.cell 2 true 3] _ _)
  rw [UH76]
  simp only [Nat.add_zero, Int.cast_ofNat_Int, Tok.cells] at ha
  simp only [Y_peek, ys_hit, ha, Tok.cells, go_sem, reduceIte, reduceMul, reduceAdd, reduceSub, reduceEqDiff, reduceLeDiff, reduceLT]
 obtain ⟨v, h', e1, r⟩ := pick_spec (R := R_peek ts e id) hc (by
  intro at' e1 ho'
  rw [ho.uniq ho']; exact ⟨rfl, rfl⟩)
 obtain ⟨rfl, rfl⟩ := r at_ rfl ho
 exact e1
noncomputable def Y_take := ys [(76, pick 76 (R_peek ts e id))]
theorem t_take : Hp.TellsI tabx told (Y_take ts e id) := itells_cons pick_tells itells_nil
theorem tok_kind {h : H} {at_ : Nat} (ho : SO h id ts e at_) (hl : at_ < ts.length) : 1 ≤ (tokAt ts e at_).kind := by
 unfold tokAt
 rw [List.getElem?_eq_getElem hl]
 exact ho.2.2.2 _ (List.getElem_mem _)
def R_take (a : List V) (h : H) (v : V) (h' : H) : Prop := ∀ at_ : Nat, a = [.p id 0] → SO h id ts e at_ → at_ < ts.length → v = .agg (tokAt ts e at_).cells ∧ h' = setAt h id ts e (at_ + 1)
theorem UH78 : type_of% (@Hp_open _ _ B78.eq_1) := @Hp_open _ _ B78.eq_1
def kz78 (_ : Nat) : List Nat := []
theorem take_eq {h : H} {at_ : Nat} (ho : SO h id ts e at_) (hl : at_ < ts.length) : pick 78 (R_take ts e id) [.p id 0] h = some (.agg (tokAt ts e at_).cells, setAt h id ts e (at_ + 1)) := by
 obtain ⟨nx, obs, nt, tips⟩ := h
 have ha := peek_eq ts e id ho
 have hk := tok_kind ts e id ho hl
 obtain ⟨h1, h2, h3, _⟩ := ho
 have hc : Hp.CompI tabx told 78 [.p id 0] ⟨nx, obs, nt, tips⟩ (.agg (tokAt ts e at_).cells) (setAt ⟨nx, obs, nt, tips⟩ id ts e (at_ + 1)) := Hp.compI_of tells_noX (t_take ts e id) (fn := af78) (kz := kz78) rfl (Nat.le_of_ble_eq_true rfl) fun gl => by
  show Hp.M _ _ _ (.code B78) _ (St.init gl 5 _ _) (Hp.FinI [.cell 2 true 3] _ _)
  rw [UH78]
  have e1 : decide (((tokAt ts e at_).kind : Int) = 0) = false := decide_eq_false (by omega)
  have w1 : wr .i64 ((at_ : Int) + 1) = ((at_ + 1 : Nat) : Int) := by rw [wr64] <;> omega
  simp only [Tok.cells] at ha
  simp only [srcC] at h1
  simp only [Y_take, ys_hit, ha, h1, e1, w1, Tok.cells, setAt, srcC, splice, go_sem, reduceIte, reduceMul, reduceAdd, reduceSub, reduceEqDiff, reduceLeDiff, reduceLT]
 obtain ⟨v, h', e1, r⟩ := pick_spec (R := R_take ts e id) hc (by
  intro at' e1 ho' _
  rw [SO.uniq ⟨h1, h2, h3, ‹_›⟩ ho']; exact ⟨rfl, rfl⟩)
 obtain ⟨rfl, rfl⟩ := r at_ rfl ⟨h1, h2, h3, ‹_›⟩ hl
 exact e1
end
def isT (ts : List Tok) (e a : Nat) (tx : List UInt8) : Bool := decide ((tokAt ts e a).kind = 4) && strEq (tokAt ts e a).text tx
def isW (ts : List Tok) (e a : Nat) (tx : List UInt8) : Bool := decide ((tokAt ts e a).kind = 1) && strEq (tokAt ts e a).text tx
def isF (ts : List Tok) (e a : Nat) : Bool := decide ((tokAt ts e a).kind = 1) && isT ts e (a + 1) [61]
theorem tokAt_lt {ts : List Tok} {e a : Nat} (h : (tokAt ts e a).kind ≠ 0) : a < ts.length := by
 rcases Nat.lt_or_ge a ts.length with h1 | h1
 · exact h1
 · unfold tokAt at h; rw [List.getElem?_eq_none h1] at h; exact absurd rfl h
theorem isT_lt {ts : List Tok} {e a : Nat} {tx : List UInt8} (h : isT ts e a tx = true) : a < ts.length := by
 unfold isT at h
 rw [Bool.and_eq_true, decide_eq_true_eq] at h
 exact tokAt_lt (e := e) (by omega)
theorem isW_lt {ts : List Tok} {e a : Nat} {tx : List UInt8} (h : isW ts e a tx = true) : a < ts.length := by
 unfold isW at h
 rw [Bool.and_eq_true, decide_eq_true_eq] at h
 exact tokAt_lt (e := e) (by omega)
theorem kd (n k : Nat) : decide ((n : Int) = (k : Int)) = decide (n = k) := decide_eq_decide.2 Int.ofNat_inj
section
variable (ts : List Tok) (e id : Nat)
noncomputable def Y_is := ys [(76, pick 76 (R_peek ts e id)), (78, pick 78 (R_take ts e id))]
theorem t_is : Hp.TellsI tabx told (Y_is ts e id) := itells_cons pick_tells (itells_cons pick_tells itells_nil)
def R_is (a : List V) (h : H) (v : V) (h' : H) : Prop := ∀ (at_ : Nat) (tx : List UInt8), a = [.p id 0, .i .i64 4, .s tx] → SO h id ts e at_ → v = .b (isT ts e at_ tx) ∧ h' = bif isT ts e at_ tx then setAt h id ts e (at_ + 1) else h
theorem UH80 : type_of% (@Hp_open _ _ B80.eq_1) := @Hp_open _ _ B80.eq_1
def kz80 (_ : Nat) : List Nat := []
theorem is_eq {h : H} {at_ : Nat} (ho : SO h id ts e at_) (tx : List UInt8) : pick 80 (R_is ts e id) [.p id 0, .i .i64 4, .s tx] h = some (.b (isT ts e at_ tx), bif isT ts e at_ tx then setAt h id ts e (at_ + 1) else h) := by
 obtain ⟨nx, obs, nt, tips⟩ := h
 have ha := peek_eq ts e id ho
 have hc : Hp.CompI tabx told 80 [.p id 0, .i .i64 4, .s tx] ⟨nx, obs, nt, tips⟩ (.b (isT ts e at_ tx)) (bif isT ts e at_ tx then setAt ⟨nx, obs, nt, tips⟩ id ts e (at_ + 1) else ⟨nx, obs, nt, tips⟩) := Hp.compI_of tells_noX (t_is ts e id) (fn := af80) (kz := kz80) rfl (Nat.le_of_ble_eq_true rfl) fun gl => by
  show Hp.M _ _ _ (.code B80) _ (St.init gl 5 _ _) (Hp.FinI [.tmp 6] _ _)
  rw [UH80]
  have e1 := kd (tokAt ts e at_).kind 4
  have e0 : decide ((4 : Int) = 0) = false := by decide
  simp only [Int.cast_ofNat_Int] at e1
  simp only [Tok.cells] at ha
  by_cases hk : (tokAt ts e at_).kind = 4
  · have e2 : decide ((tokAt ts e at_).kind = 4) = true := decide_eq_true hk
    have ht := take_eq ts e id ho (tokAt_lt (e := e) (by omega))
    simp only [Tok.cells] at ht
    cases hs : strEq (tokAt ts e at_).text tx with
    | true =>
      have hi : isT ts e at_ tx = true := by unfold isT; rw [e2, hs]; rfl
      rw [hi]
      simp only [Y_is, ys_hit, ys_miss, ha, e1, e2, e0, hs, ht, setAt, go_sem, reduceIte, reduceMul, reduceAdd, reduceSub, reduceEqDiff, reduceLeDiff, reduceLT]
    | false =>
      have hi : isT ts e at_ tx = false := by unfold isT; rw [e2, hs]; rfl
      rw [hi]
      simp only [Y_is, ys_hit, ys_miss, ha, e1, e2, e0, hs, go_sem, reduceIte, reduceMul, reduceAdd, reduceSub, reduceEqDiff, reduceLeDiff, reduceLT]
  · have e2 : decide ((tokAt ts e at_).kind = 4) = false := decide_eq_false hk
    have hi : isT ts e at_ tx = false := by unfold isT; rw [e2]; rfl
    rw [hi]
    simp only [Y_is, ys_hit, ys_miss, ha, e1, e2, go_sem, reduceIte, reduceMul, reduceAdd, reduceSub, reduceEqDiff, reduceLeDiff, reduceLT]
 obtain ⟨v, h', e1, r⟩ := pick_spec (R := R_is ts e id) hc (by
  intro at' tx' e1 ho'
  simp only [List.cons.injEq, V.s.injEq, true_and, and_true] at e1
  subst e1
  rw [ho.uniq ho']; exact ⟨rfl, rfl⟩)
 obtain ⟨rfl, rfl⟩ := r at_ tx rfl ho
 exact e1
def R_joins (a : List V) (h : H) (v : V) (h' : H) : Prop := ∀ (at_ : Nat) (tx : List UInt8), a = [.p id 0, .s tx] → SO h id ts e at_ → v = .b (isW ts e at_ tx) ∧ h' = h
theorem UH138 : type_of% (@Hp_open _ _ B138.eq_1) := @Hp_open _ _ B138.eq_1
def kz138 (_ : Nat) : List Nat := []
theorem joins_eq {h : H} {at_ : Nat} (ho : SO h id ts e at_) (tx : List UInt8) : pick 138 (R_joins ts e id) [.p id 0, .s tx] h = some (.b (isW ts e at_ tx), h) := by
 obtain ⟨nx, obs, nt, tips⟩ := h
 have ha := peek_eq ts e id ho
 have hc : Hp.CompI tabx told 138 [.p id 0, .s tx] ⟨nx, obs, nt, tips⟩ (.b (isW ts e at_ tx)) ⟨nx, obs, nt, tips⟩ := Hp.compI_of tells_noX (t_is ts e id) (fn := af138) (kz := kz138) rfl (Nat.le_of_ble_eq_true rfl) fun gl => by
  show Hp.M _ _ _ (.code B138) _ (St.init gl 5 _ _) (Hp.FinI [.tmp 4] _ _)
  rw [UH138]
  have e1 := kd (tokAt ts e at_).kind 1
  simp only [Int.cast_ofNat_Int] at e1
  simp only [Tok.cells] at ha
  by_cases hk : (tokAt ts e at_).kind = 1
  · have e2 : decide ((tokAt ts e at_).kind = 1) = true := decide_eq_true hk
    have hi : isW ts e at_ tx = strEq (tokAt ts e at_).text tx := by unfold isW; rw [e2]; rfl
    rw [hi]
    simp only [Y_is, ys_hit, ys_miss, ha, e1, e2, go_sem, reduceIte, reduceMul, reduceAdd, reduceSub, reduceEqDiff, reduceLeDiff, reduceLT]
  · have e2 : decide ((tokAt ts e at_).kind = 1) = false := decide_eq_false hk
    have hi : isW ts e at_ tx = false := by unfold isW; rw [e2]; rfl
    rw [hi]
    simp only [Y_is, ys_hit, ys_miss, ha, e1, e2, go_sem, reduceIte, reduceMul, reduceAdd, reduceSub, reduceEqDiff, reduceLeDiff, reduceLT]
 obtain ⟨v, h', e1, r⟩ := pick_spec (R := R_joins ts e id) hc (by
  intro at' tx' e1 ho'
  simp only [List.cons.injEq, V.s.injEq, true_and, and_true] at e1
  subst e1
  rw [ho.uniq ho']; exact ⟨rfl, rfl⟩)
 obtain ⟨rfl, rfl⟩ := r at_ tx rfl ho
 exact e1
noncomputable def Y_field := ys [(76, pick 76 (R_peek ts e id)), (107, pick 107 (R_ahead ts e id))]
theorem t_field : Hp.TellsI tabx told (Y_field ts e id) := itells_cons pick_tells (itells_cons pick_tells itells_nil)
def R_field (a : List V) (h : H) (v : V) (h' : H) : Prop := ∀ (at_ : Nat), a = [.p id 0] → SO h id ts e at_ → v = .b (isF ts e at_) ∧ h' = h
theorem UH162 : type_of% (@Hp_open _ _ B162.eq_1) := @Hp_open _ _ B162.eq_1
def kz162 (_ : Nat) : List Nat := []
theorem field_eq {h : H} {at_ : Nat} (ho : SO h id ts e at_) : pick 162 (R_field ts e id) [.p id 0] h = some (.b (isF ts e at_), h) := by
 obtain ⟨nx, obs, nt, tips⟩ := h
 have ha := peek_eq ts e id ho
 have hb := ahead_eq ts e id (k := 1) (Nat.le_refl _) ho
 have hc : Hp.CompI tabx told 162 [.p id 0] ⟨nx, obs, nt, tips⟩ (.b (isF ts e at_)) ⟨nx, obs, nt, tips⟩ := Hp.compI_of tells_noX (t_field ts e id) (fn := af162) (kz := kz162) rfl (Nat.le_of_ble_eq_true rfl) fun gl => by
  show Hp.M _ _ _ (.code B162) _ (St.init gl 5 _ _) (Hp.FinI [.tmp 2] _ _)
  rw [UH162]
  have e1 := kd (tokAt ts e at_).kind 1
  have e3 := kd (tokAt ts e (at_ + 1)).kind 4
  simp only [Int.cast_ofNat_Int] at e1 e3
  simp only [Tok.cells, Int.cast_ofNat_Int] at ha hb
  by_cases hk : (tokAt ts e at_).kind = 1
  · have e2 : decide ((tokAt ts e at_).kind = 1) = true := decide_eq_true hk
    have hi : isF ts e at_ = isT ts e (at_ + 1) [61] := by unfold isF; rw [e2]; rfl
    rw [hi]
    by_cases hk2 : (tokAt ts e (at_ + 1)).kind = 4
    · have e4 : decide ((tokAt ts e (at_ + 1)).kind = 4) = true := decide_eq_true hk2
      have hi : isT ts e (at_ + 1) [61] = strEq (tokAt ts e (at_ + 1)).text [61] := by unfold isT; rw [e4]; rfl
      rw [hi]
      simp only [Y_field, ys_hit, ys_miss, ha, hb, e1, e2, e3, e4, go_sem, reduceIte, reduceMul, reduceAdd, reduceSub, reduceEqDiff, reduceLeDiff, reduceLT]
    · have e4 : decide ((tokAt ts e (at_ + 1)).kind = 4) = false := decide_eq_false hk2
      have hi : isT ts e (at_ + 1) [61] = false := by unfold isT; rw [e4]; rfl
      rw [hi]
      simp only [Y_field, ys_hit, ys_miss, ha, hb, e1, e2, e3, e4, go_sem, reduceIte, reduceMul, reduceAdd, reduceSub, reduceEqDiff, reduceLeDiff, reduceLT]
  · have e2 : decide ((tokAt ts e at_).kind = 1) = false := decide_eq_false hk
    have hi : isF ts e at_ = false := by unfold isF; rw [e2]; rfl
    rw [hi]
    simp only [Y_field, ys_hit, ys_miss, ha, hb, e1, e2, go_sem, reduceIte, reduceMul, reduceAdd, reduceSub, reduceEqDiff, reduceLeDiff, reduceLT]
 obtain ⟨v, h', e1, r⟩ := pick_spec (R := R_field ts e id) hc (by
  intro at' e1 ho'
  rw [ho.uniq ho']; exact ⟨rfl, rfl⟩)
 obtain ⟨rfl, rfl⟩ := r at_ rfl ho
 exact e1
def textV (ts : List Tok) (e a : Nat) : V := if (tokAt ts e a).kind = 2 then .tup [.s (tokAt ts e a).text, .i .i64 0] else .tup [.s [], .i .i64 192]
def R_text (a : List V) (h : H) (v : V) (h' : H) : Prop := ∀ (at_ : Nat), a = [.p id 0] → SO h id ts e at_ → v = textV ts e at_ ∧ h' = if (tokAt ts e at_).kind = 2 then setAt h id ts e (at_ + 1) else h
theorem UH163 : type_of% (@Hp_open _ _ B163.eq_1) := @Hp_open _ _ B163.eq_1
def kz163 (_ : Nat) : List Nat := []
theorem text_eq {h : H} {at_ : Nat} (ho : SO h id ts e at_) : pick 163 (R_text ts e id) [.p id 0] h = some (textV ts e at_, if (tokAt ts e at_).kind = 2 then setAt h id ts e (at_ + 1) else h) := by
 obtain ⟨nx, obs, nt, tips⟩ := h
 have ha := peek_eq ts e id ho
 have hc : Hp.CompI tabx told 163 [.p id 0] ⟨nx, obs, nt, tips⟩ (textV ts e at_) (if (tokAt ts e at_).kind = 2 then setAt ⟨nx, obs, nt, tips⟩ id ts e (at_ + 1) else ⟨nx, obs, nt, tips⟩) := Hp.compI_of tells_noX (t_is ts e id) (fn := af163) (kz := kz163) rfl (Nat.le_of_ble_eq_true rfl) fun gl => by
  show Hp.M _ _ _ (.code B163) _ (St.init gl 4 _ _) (Hp.FinI [.tmp 2, .tmp 3] _ _)
  rw [UH163]
  have e1 := kd (tokAt ts e at_).kind 2
  simp only [Int.cast_ofNat_Int] at e1
  simp only [Tok.cells] at ha
  by_cases hk : (tokAt ts e at_).kind = 2
  · have e2 : decide ((tokAt ts e at_).kind = 2) = true := decide_eq_true hk
    have ht := take_eq ts e id ho (tokAt_lt (e := e) (by omega))
    simp only [Tok.cells] at ht
    rw [textV, if_pos hk, if_pos hk]
    simp only [Y_is, ys_hit, ys_miss, ha, e1, e2, ht, setAt, go_sem, reduceIte, reduceMul, reduceAdd, reduceSub, reduceEqDiff, reduceLeDiff, reduceLT]
  · have e2 : decide ((tokAt ts e at_).kind = 2) = false := decide_eq_false hk
    rw [textV, if_neg hk, if_neg hk]
    simp only [Y_is, ys_hit, ys_miss, ha, e1, e2, go_sem, reduceIte, reduceMul, reduceAdd, reduceSub, reduceEqDiff, reduceLeDiff, reduceLT]
 obtain ⟨v, h', e1, r⟩ := pick_spec (R := R_text ts e id) hc (by
  intro at' e1 ho'
  rw [ho.uniq ho']; exact ⟨rfl, rfl⟩)
 obtain ⟨rfl, rfl⟩ := r at_ rfl ho
 exact e1
end
end Go.Proofs.YtpcjhfchpelonaaGreatDoor
