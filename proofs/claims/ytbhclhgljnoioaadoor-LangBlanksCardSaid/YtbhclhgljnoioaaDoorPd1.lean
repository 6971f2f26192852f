/- 'LangBlanks': its function walked. -/
import Derived.Test.YtbhclhgljnoioaaDoorPd0
set_option linter.unusedSimpArgs false
set_option linter.unusedVariables false
namespace Go.Proofs.YtbhclhgljnoioaaDoor
open Ai Go.Shelf
/-! ### strings.TrimRight, with a blank -/
def K58_1 : List Fr := [.blk 0,
 .seq (.seq (.reg [⟨some 22, .mov (.t 0), none⟩, ⟨some 4, .mov (.t 22), none⟩])
 .ret)]
theorem U58_1 : type_of% (@M_open _ _ L58_1.eq_1) := @M_open _ _ L58_1.eq_1
theorem U58 : type_of% (@M_open _ _ B58.eq_1) := @M_open _ _ B58.eq_1
def kz58 (_ : Nat) : List Nat := [2, 3, 4, 5, 6, 7, 8, 9, 10, 11, 12, 13, 14, 15, 16, 17, 18, 19, 20, 21, 22]
theorem w_trb_loop (gl : Nat → List V) : ∀ (n : Nat) (l : List UInt8), l.length ≤ n → l.length ≤ 1048576 →
    M noX (kz58) (.code L58_1) (.loop L58_1 :: K58_1) ⟨gl, (.node (.node (.node (.node (.node .leaf .any .leaf) .any (.node .leaf .any .leaf)) .any (.node (.node .leaf .any .leaf) .any (.node .leaf .any .leaf))) (.i .u8 32) (.node (.node (.node .leaf .any .leaf) .any (.node .leaf .any .leaf)) .any (.node (.node .leaf .any .leaf) .any (.node .leaf .any .leaf)))) (.s l) (.node (.node (.node (.node .leaf .any .leaf) .any (.node .leaf .any .leaf)) .any (.node (.node .leaf .any .leaf) .any (.node .leaf .any .leaf))) .any (.node (.node (.node .leaf .any .leaf) .any (.node .leaf .any .leaf)) .any (.node (.node .leaf .any .leaf) .any (.node .leaf .any .leaf))))), [], [], {}⟩ (Fin [.tmp 4] (.s (trimR l))) := by
  intro n
  induction n with
  | zero =>
    intro l hn _
    obtain rfl : l = [] := List.length_eq_zero_iff.1 (by omega)
    rw [U58_1]
    have e1 : decide ((0 : Int) < 0) = false := by decide
    simp only [e1, K58_1, Int.natCast_zero, Int.cast_ofNat_Int, go_sem, ne_eq, not_false_eq_true, reduceIte, Nat.reduceMul, Nat.reduceAdd, Nat.reduceSub, Nat.reduceEqDiff, Nat.reduceLeDiff, Nat.reduceLT, List.take_succ_cons, List.take_zero, List.drop_succ_cons, List.cons_append]
    rfl
  | succ n ih =>
    intro l hn hm
    rcases List.eq_nil_or_concat l with rfl | ⟨v, c, rfl⟩
    · rw [U58_1]
      have e1 : decide ((0 : Int) < 0) = false := by decide
      simp only [e1, K58_1, Int.natCast_zero, Int.cast_ofNat_Int, go_sem, ne_eq, not_false_eq_true, reduceIte, Nat.reduceMul, Nat.reduceAdd, Nat.reduceSub, Nat.reduceEqDiff, Nat.reduceLeDiff, Nat.reduceLT, List.take_succ_cons, List.take_zero, List.drop_succ_cons, List.cons_append]
      rfl
    · rw [List.concat_eq_append] at hn hm ⊢
      rw [trimR_snoc]
      have hvl : (v ++ [c]).length = v.length + 1 := by simp
      have hix : (v ++ [c])[v.length]? = some c := by simp
      have htk : (v ++ [c]).take v.length = v := List.take_left
      rw [hvl] at hn hm
      generalize hw : v ++ [c] = w at *
      have e1 : decide ((0 : Int) < ((v.length + 1 : Nat) : Int)) = true := decide_eq_true (by omega)
      have w1 : wr .i64 (((v.length + 1 : Nat) : Int) - 1) = (v.length : Int) := by rw [wr64] <;> omega
      have g1 : v.length ≤ v.length + 1 := by omega
      have g2 : v.length < v.length + 1 := by omega
      rw [U58_1]
      by_cases hc : c = 32
      · have e2 : decide ((c.toNat : Int) = 32) = true := decide_eq_true (by rw [hc]; rfl)
        rw [if_pos hc]
        have := ih v (by omega) (by omega)
        simp only [hvl, e1, e2, w1, hix, htk, g1, g2, byteV, Nat.zero_le, Nat.le_refl, Nat.sub_zero, List.drop_zero, Int.cast_ofNat_Int, go_sem, ne_eq, not_false_eq_true, reduceIte, Nat.reduceMul, Nat.reduceAdd, Nat.reduceSub, Nat.reduceEqDiff, Nat.reduceLeDiff, Nat.reduceLT, List.take_succ_cons, List.take_zero, List.drop_succ_cons, List.cons_append]
        rw [M_loop]
        simp only [kz58, K58_1, List.length_cons, List.length_nil, go_sem, ne_eq, not_false_eq_true, reduceIte, Nat.reduceMul, Nat.reduceAdd, Nat.reduceSub, Nat.reduceEqDiff, Nat.reduceLeDiff, Nat.reduceLT, List.take_succ_cons, List.take_zero, List.drop_succ_cons, List.cons_append] at this ⊢
        exact this
      · have e2 : decide ((c.toNat : Int) = 32) = false := decide_eq_false (fun h => hc (UInt8.toNat_inj.1 (by rw [show (32 : UInt8).toNat = 32 from rfl]; omega)))
        rw [if_neg hc]
        simp only [hvl, e1, e2, w1, hix, htk, g1, g2, byteV, K58_1, Int.cast_ofNat_Int, go_sem, ne_eq, not_false_eq_true, reduceIte, Nat.reduceMul, Nat.reduceAdd, Nat.reduceSub, Nat.reduceEqDiff, Nat.reduceLeDiff, Nat.reduceLT, List.take_succ_cons, List.take_zero, List.drop_succ_cons, List.cons_append]
theorem c_trb (l : List UInt8) (h : l.length ≤ 1048576) : Comp tabx told 58 [.s l, .i .u8 32] (.s (trimR l)) := comp_of tells_noX (fn := af58) (kz := kz58) rfl (Nat.le_of_ble_eq_true rfl) fun gl => by
  show M _ _ (.code B58) _ (St.init gl 5 [.s l, .i .u8 32] {}) (Fin [.tmp 4] _)
  have := w_trb_loop gl l.length l (Nat.le_refl _) h
  rw [U58]
  simp only [go_sem, ne_eq, not_false_eq_true, reduceIte, Nat.reduceMul, Nat.reduceAdd, Nat.reduceSub, Nat.reduceEqDiff, Nat.reduceLeDiff, Nat.reduceLT, List.take_succ_cons, List.take_zero, List.drop_succ_cons, List.cons_append]
  rw [M_loop]
  simp only [kz58, K58_1, List.length_cons, List.length_nil, go_sem, ne_eq, not_false_eq_true, reduceIte, Nat.reduceMul, Nat.reduceAdd, Nat.reduceSub, Nat.reduceEqDiff, Nat.reduceLeDiff, Nat.reduceLT, List.take_succ_cons, List.take_zero, List.drop_succ_cons, List.cons_append] at this ⊢
  exact this
def F_trb (a : List V) : Option V := match a with
  | [.s l, .i .u8 32] => if l.length ≤ 1048576 then some (.s (trimR l)) else none
  | _ => none
theorem o_trb : ∀ a v, F_trb a = some v → Comp tabx told 58 a v := fun a v e => by
  unfold F_trb at e
  split at e
  · split at e
    · rename_i h; cases e; exact c_trb _ h
    · cases e
  · cases e
def X_trim := xs [(58, F_trb)]
theorem t_trim : Tells tabx told X_trim := tells_cons o_trb tells_nil
theorem U30 : type_of% (@M_open _ _ B30.eq_1) := @M_open _ _ B30.eq_1
def kz30 (_ : Nat) : List Nat := []
set_option maxRecDepth 100000 in
theorem c_trim (l : List UInt8) (h : l.length ≤ 1048576) : Comp tabx told 30 [.s l, .s [32]] (.s (trimR l)) := comp_of t_trim (fn := af30) (kz := kz30) rfl (Nat.le_of_ble_eq_true rfl) fun gl => by
  show M _ _ (.code B30) _ (St.init gl 6 [.s l, .s [32]] {}) (Fin [.tmp 4] _)
  rw [U30]
  have y1 : X_trim 58 [.s l, .i .u8 32] = some (.s (trimR l)) := if_pos h
  have eE := strEq_dec l []
  have e2 : strEq [32] [] = false := by decide
  have e3 : decide ((32 : Int) < 128) = true := by decide
  have e4 : UInt8.toNat 32 = 32 := rfl
  cases hl : decide (l = []) with
  | true =>
    rw [hl] at eE
    have : trimR l = l := by rw [of_decide_eq_true hl]; rfl
    rw [this]
    simp only [eE, e2, e3, go_sem, ne_eq, not_false_eq_true, reduceIte, Nat.reduceMul, Nat.reduceAdd, Nat.reduceSub, Nat.reduceEqDiff, Nat.reduceLeDiff, Nat.reduceLT, List.take_succ_cons, List.take_zero, List.drop_succ_cons, List.cons_append]
  | false =>
    rw [hl] at eE
    simp only [eE, e2, e3, e4, y1, List.getElem?_cons_zero, Int.cast_ofNat_Int, go_sem, ne_eq, not_false_eq_true, reduceIte, Nat.reduceMul, Nat.reduceAdd, Nat.reduceSub, Nat.reduceEqDiff, Nat.reduceLeDiff, Nat.reduceLT, List.take_succ_cons, List.take_zero, List.drop_succ_cons, List.cons_append]
def F_trim (a : List V) : Option V := match a with
  | [.s l, .s [32]] => if l.length ≤ 1048576 then some (.s (trimR l)) else none
  | _ => none
theorem o_trim : ∀ a v, F_trim a = some v → Comp tabx told 30 a v := fun a v e => by
  unfold F_trim at e
  split at e
  · split at e
    · rename_i h; cases e; exact c_trim _ h
    · cases e
  · cases e
/-! ### strings.Repeat, of a blank -/
theorem r_rep : ((List.range 5).all fun n => isS (runF gl0 tabx xf 3000 29 [.s [32], .i .i64 ((n + 1 : Nat) : Int)]) (List.replicate (n + 1) 32)) = true := by kernel_rfl
theorem c_rep {n : Nat} (h : n < 5) : Comp tabx told 29 [.s [32], .i .i64 ((n + 1 : Nat) : Int)] (.s (List.replicate (n + 1) 32)) :=
  comp_runF (fun _ _ _ h => h) 3000 fun gl hgl => by
    have : gl = gl0 := hgl
    subst this
    exact isS_spec (List.all_eq_true.1 r_rep n (List.mem_range.2 h))
def F_rep (a : List V) : Option V := match a with
  | [.s [32], .i .i64 (Int.ofNat (n + 1))] => if n < 5 then some (.s (List.replicate (n + 1) 32)) else none
  | _ => none
theorem F_rep1 {n : Nat} (h : n < 5) : F_rep [.s [32], .i .i64 ((n + 1 : Nat) : Int)] = some (.s (List.replicate (n + 1) 32)) := if_pos h
theorem o_rep : ∀ a v, F_rep a = some v → Comp tabx told 29 a v := fun a v e => by
  unfold F_rep at e
  split at e
  · split at e
    · rename_i h; cases e; exact c_rep h
    · cases e
  · cases e
/-! ### The law -/
noncomputable def X_blanks := xs [(14, F_awake), (21, F_Tokens), (29, F_rep), (30, F_trim), (19, F_parse), (20, F_same)]
theorem t_LangBlanks : Tells tabx told X_blanks := tells_cons o_awake (tells_cons o_Tokens (tells_cons o_rep (tells_cons o_trim (tells_cons o_parse (tells_cons o_same tells_nil)))))
def K11_1 : List Fr := [.blk 0,
 .seq (.seq (.reg [⟨some 74, .mov (.t 9), none⟩, ⟨some 75, .call true 21 [(.t 74)], none⟩, ⟨some 73, .mov (.t 75), none⟩, ⟨some 76, .ext (.t 73) 0, none⟩, ⟨some 77, .ext (.t 73) 1, none⟩, ⟨some 78, .ext (.t 73) 2, none⟩, ⟨some 13, .mov (.t 76), none⟩, ⟨some 14, .mov (.t 77), none⟩, ⟨some 15, .mov (.t 78), none⟩])
 (.seq (.seq (.reg [⟨some 79, .mov (.t 15), none⟩, ⟨some 80, .bin .neq (.t 79) (.k (.i .i64 0)), none⟩, ⟨some 81, .mov (.t 80), none⟩, ⟨some 82, .mov (.t 13), some (81, false)⟩,
 ⟨some 83, .len .slice (.t 82), some (81, false)⟩,
 ⟨some 84, .mov (.t 5), some (81, false)⟩,
 ⟨some 85, .len .slice (.t 84), some (81, false)⟩,
 ⟨some 86, .bin .neq (.t 83) (.t 85), some (81, false)⟩,
 ⟨some 87, .pick (.t 81) (.k (.b true)) (.t 86), none⟩])
 (.cond (.t 87)
 (.seq (.reg [⟨some 4, .mov (.k (.b false)), none⟩])
 .ret)
 .skip))
 (.seq (.reg [⟨some 89, .mov (.t 0), none⟩, ⟨some 90, .call true 19 [(.t 89)], none⟩, ⟨some 88, .mov (.t 90), none⟩, ⟨some 91, .ext (.t 88) 0, none⟩, ⟨some 92, .ext (.t 88) 1, none⟩, ⟨some 93, .ext (.t 88) 2, none⟩, ⟨some 16, .lalloc [(.i .i64 0), (.s []), (.s []), (.sl [] 0 .nil)] [16], none⟩, ⟨none, .store 4 (.t 16) (.t 91), none⟩, ⟨some 17, .mov (.t 92), none⟩, ⟨some 18, .mov (.t 93), none⟩])
 (.seq (.reg [⟨some 95, .mov (.t 9), none⟩, ⟨some 96, .call true 19 [(.t 95)], none⟩, ⟨some 94, .mov (.t 96), none⟩, ⟨some 97, .ext (.t 94) 0, none⟩, ⟨some 98, .ext (.t 94) 1, none⟩, ⟨some 99, .ext (.t 94) 2, none⟩, ⟨some 19, .lalloc [(.i .i64 0), (.s []), (.s []), (.sl [] 0 .nil)] [19], none⟩, ⟨none, .store 4 (.t 19) (.t 97), none⟩, ⟨some 20, .mov (.t 98), none⟩, ⟨some 21, .mov (.t 99), none⟩])
 (.seq (.reg [⟨some 100, .mov (.t 18), none⟩, ⟨some 101, .mov (.t 21), none⟩, ⟨some 102, .bin .eql (.t 100) (.t 101), none⟩, ⟨some 103, .mov (.t 102), none⟩, ⟨some 104, .load true 4 (.t 16), some (103, true)⟩,
 ⟨some 105, .load true 4 (.t 19), some (103, true)⟩,
 ⟨some 106, .call true 20 [(.t 104), (.t 105)], some (103, true)⟩,
 ⟨some 107, .pick (.t 103) (.t 106) (.k (.b false)), none⟩, ⟨some 108, .mov (.t 107), none⟩, ⟨some 109, .call true 14 [], some (108, true)⟩,
 ⟨some 110, .pick (.t 108) (.t 109) (.k (.b false)), none⟩, ⟨some 4, .mov (.t 110), none⟩])
 .ret)))))]
theorem U11_1 : type_of% (@M_open _ _ L11_1.eq_1) := @M_open _ _ L11_1.eq_1
theorem U11 : type_of% (@M_open _ _ B11.eq_1) := @M_open _ _ B11.eq_1
def kz11 (_ : Nat) : List Nat := [1, 2, 3, 4, 6, 7, 10, 11, 12, 13, 14, 15, 16, 17, 18, 19, 20, 21, 22, 23, 24, 25, 26, 27, 28, 29, 30, 31, 32, 33, 34, 35, 36, 37, 38, 39, 40, 41, 45, 46, 47, 48, 49, 50, 51, 52, 53, 54, 55, 56, 57, 58, 59, 60, 61, 62, 63, 64, 65, 66, 67, 68, 69, 70, 71, 72, 73, 74, 75, 76, 77, 78, 79, 80, 81, 82, 83, 84, 85, 86, 87, 88, 89, 90, 91, 92, 93, 94, 95, 96, 97, 98, 99, 100, 101, 102, 103, 104, 105, 106, 107, 108, 109, 110]
theorem lsum_app (a b : List (List UInt8)) (n : Nat) : lsum (a ++ b) n = lsum a n + lsum b n := by
  induction a with
  | nil => simp [lsum]
  | cons x r ih => rw [List.cons_append, lsum, lsum, ih]; omega
theorem gaps_len (g : Nat) (hg : g < 5) : ∀ rs : List (List UInt8), (rs.flatMap fun u => u ++ List.replicate (g + 1) (32 : UInt8)).length ≤ lsum rs 5 := by
  intro rs
  induction rs with
  | nil => exact Nat.zero_le _
  | cons x r ih => rw [List.flatMap_cons, List.length_append, List.length_append, List.length_replicate, lsum]; omega
set_option maxRecDepth 100000 in
set_option maxHeartbeats 1000000 in
theorem w_bl_loop (s : List UInt8) (hs : s.length ≤ 4096) (ts : List Tok) (rs : List (List UInt8)) (hl : lx s 0 = .ok ts) (hr : Rw s 0 ts rs) (g : Nat) (hg : g < 5) (gl : Nat → List V) (v5 : Tk) : ∀ (k i : Nat) (l11 : List (Nat × List V)), i + k = ts.length →
    M X_blanks (kz11) (.code L11_1) (.loop L11_1 :: K11_1) ⟨gl, (.node (.node (.node (.node (.node (.node (.node .leaf .any .leaf) .any (.node .leaf .any .leaf)) .any (.node (.node .leaf .any .leaf) .any (.node .leaf .any .leaf))) .any (.node (.node (.node .leaf .any .leaf) .any (.node .leaf .any .leaf)) .any (.node (.node .leaf .any .leaf) .any (.node .leaf .any .leaf)))) .any (.node (.node (.node (.node .leaf .any .leaf) .any (.node .leaf .any .leaf)) .any (.node (.node .leaf .any .leaf) .any (.node .leaf .any .leaf))) .any (.node (.node (.node .leaf .any .leaf) (.i .i64 (ts.length : Nat)) (.node .leaf .any .leaf)) .any (.node (.node .leaf .any .leaf) .any (.node .leaf .any .leaf))))) .any (.node (.node (.node (.node (.node .leaf .any .leaf) .any (.node .leaf .any .leaf)) .any (.node (.node .leaf .any .leaf) .any (.node .leaf .any .leaf))) (.s (List.replicate (g + 1) 32 ++ (rs.take i).flatMap fun u => u ++ List.replicate (g + 1) 32)) (.node (.node (.node .leaf .any .leaf) .any (.node .leaf .any .leaf)) .any (.node (.node .leaf .any .leaf) .any (.node .leaf .any .leaf)))) (.sl (ts.flatMap Tok.cells) ts.length v5) (.node (.node (.node (.node .leaf .any .leaf) .any (.node .leaf .any .leaf)) .any (.node (.node .leaf .any .leaf) .any (.node .leaf .any .leaf))) .any (.node (.node (.node .leaf .any .leaf) .any (.node .leaf .any .leaf)) .any (.node (.node .leaf .any .leaf) .any (.node .leaf .any .leaf)))))) (.s s) (.node (.node (.node (.node (.node (.node .leaf .any .leaf) .any (.node .leaf .any .leaf)) .any (.node (.node .leaf .any .leaf) .any (.node .leaf .any .leaf))) (.s (List.replicate (g + 1) 32)) (.node (.node (.node .leaf .any .leaf) .any (.node .leaf .any .leaf)) .any (.node (.node .leaf .any .leaf) .any (.node .leaf .any .leaf)))) .any (.node (.node (.node (.node .leaf .any .leaf) .any (.node .leaf .any .leaf)) .any (.node (.node .leaf .any .leaf) .any (.node .leaf .any .leaf))) .any (.node (.node (.node .leaf .any .leaf) (.i .i64 (i : Nat)) (.node .leaf .any .leaf)) .any (.node (.node .leaf .any .leaf) .any (.node .leaf .any .leaf))))) .any (.node (.node (.node (.node (.node .leaf .any .leaf) .any (.node .leaf .any .leaf)) .any (.node (.node .leaf .any .leaf) .any (.node .leaf .any .leaf))) .any (.node (.node (.node .leaf .any .leaf) (.sl (ts.flatMap Tok.cells) ts.length v5) (.node .leaf .any .leaf)) .any (.node (.node .leaf .any .leaf) .any (.node .leaf .any .leaf)))) .any (.node (.node (.node (.node .leaf .any .leaf) .any (.node .leaf .any .leaf)) .any (.node (.node .leaf .any .leaf) .any (.node .leaf .any .leaf))) .any (.node (.node (.node .leaf .any .leaf) .any (.node .leaf .any .leaf)) .any (.node (.node .leaf .any .leaf) .any (.node .leaf .any .leaf))))))), [], l11, {}⟩
      (Fin [.tmp 4] (.b true)) := by
  have y0 : X_blanks 14 [] = some (.b true) := rfl
  obtain ⟨hlr, hls⟩ := hr.len
  have htl := lx_len _ s 0 ts (Nat.le_refl _) hl
  have hcl := toks_len ts
  have hrep : (List.replicate (g + 1) (32 : UInt8)).length = g + 1 := List.length_replicate
  intro k
  induction k with
  | zero =>
    intro i l11 hi
    have hi : i = ts.length := by omega
    subst hi
    have e1 : decide ((ts.length : Int) < (ts.length : Int)) = false := decide_eq_false (by omega)
    rw [List.take_of_length_le (by omega)]
    have hgl := gaps_len g hg rs
    obtain ⟨m1, h1, h2⟩ := lx_gaps hr g [] (0 + (List.replicate (g + 1) (32 : UInt8)).length) [] (lx_nil _)
    have hsp : lx (List.replicate (g + 1) 32 ++ rs.flatMap fun u => u ++ List.replicate (g + 1) 32) 0 = .ok m1 := by
      have : ∀ (n k : Nat) (t : List UInt8), lx (List.replicate n 32 ++ t) k = lx t (k + n) := by
        intro n
        induction n with
        | zero => intro k t; rfl
        | succ n ih => intro k t; rw [List.replicate_succ, List.cons_append, lx_cons, if_pos rfl, ih, show k + 1 + n = k + (n + 1) by omega]
      rw [this, hrep] at *
      simpa using h1
    have hT : (List.replicate (g + 1) (32 : UInt8) ++ rs.flatMap fun u => u ++ List.replicate (g + 1) 32).length ≤ 1048576 := by rw [List.length_append, hrep]; omega
    generalize List.replicate (g + 1) (32 : UInt8) ++ rs.flatMap (fun u => u ++ List.replicate (g + 1) (32 : UInt8)) = T at hsp hT
    have hml : m1.length = ts.length := by have := congrArg List.length h2; simpa using this
    have y1 : X_blanks 21 [.s T] = some (tokR [] (lx T 0)) := F_Tokens1 T hT
    rw [hsp] at y1
    simp only [tokR, List.nil_append, hml] at y1
    obtain ⟨pk1, pk2⟩ := parse_kt hl hsp h2.symm
    obtain ⟨c1, z1, hc1⟩ := parse_eq s (by omega)
    obtain ⟨c2, z2, hc2⟩ := parse_eq T hT
    have hch := parseV_chk s
    rw [← pk1] at hc2
    rw [← pk2] at z2
    have y4 : X_blanks 20 [.agg c1, .agg c2] = some (.b true) := same_eq hc1 hc2 hch
    replace z1 : X_blanks 19 [.s s] = _ := z1
    replace z2 : X_blanks 19 [.s T] = _ := z2
    have e8 : ∀ A B : List V, al (lset (lset l11 16 A) 19 B) 16 = some A := fun A B => by rw [al_lset, if_neg (by decide), al_lset, if_pos rfl]
    have e0 : decide ((0 : Int) = 0) = true := by decide
    have e5 : decide ((ts.length : Int) = (ts.length : Int)) = true := decide_eq_true rfl
    have e6 : decide (((parseV s).2.2 : Int) = ((parseV s).2.2 : Int)) = true := decide_eq_true rfl
    generalize (parseV s).2.2 = er at *
    generalize (parseV s).2.1 = p1 at *
    generalize (parseV T).2.1 = p2 at *
    generalize (parseV s).1 = f at *
    rw [U11_1]
    cases hc1 with | mk k nm tx kids xs n tk hn hx =>
    cases hc2 with | mk _ _ _ _ xs' n' tk' hn' hx' =>
    simp only [e1, e0, e5, e6, e8, y0, y1, z1, z2, y4, splice, K11_1, Int.natCast_zero, Int.cast_ofNat_Int, go_sem, ne_eq, not_false_eq_true, reduceIte, Nat.reduceMul, Nat.reduceAdd, Nat.reduceSub, Nat.reduceEqDiff, Nat.reduceLeDiff, Nat.reduceLT, List.take_succ_cons, List.take_zero, List.drop_succ_cons, List.cons_append]
  | succ k ih =>
    intro i l11 hi
    have hil : i < ts.length := by omega
    obtain ⟨t, ht⟩ : ∃ t, ts[i]? = some t := ⟨ts[i], List.getElem?_eq_getElem hil⟩
    obtain ⟨q1, q2, q3, u, q4, q5⟩ := hr.piece i t ht
    rw [Nat.zero_add] at q2 q3 q5
    rw [Nat.sub_zero] at q5
    have htc := tok_at ht
    have e1 : decide ((i : Int) < (ts.length : Int)) = true := decide_eq_true (by omega)
    have w1 : wr .i64 ((i : Int) + 1) = ((i + 1 : Nat) : Int) := by rw [wr64] <;> omega
    have g2 : (i + 1) * 3 ≤ ts.length * 3 := by omega
    have y3 : X_blanks 30 [.s ((s.drop t.at_).take (endAt ts i s.length - t.at_)), .s [32]] = some (.s u) := by
      rw [← q5]
      exact if_pos (by rw [List.length_take, List.length_drop]; omega)
    have htake : (rs.take (i + 1)).flatMap (fun u => u ++ List.replicate (g + 1) (32 : UInt8)) = (rs.take i).flatMap (fun u => u ++ List.replicate (g + 1) 32) ++ (u ++ List.replicate (g + 1) 32) := by
      rw [List.take_add_one, q4, List.flatMap_append]; simp
    have hsum : lsum (rs.take i) 5 + lsum (rs.drop i) 5 = lsum rs 5 := by rw [← lsum_app, List.take_append_drop]
    have hgl := gaps_len g hg (rs.take i)
    have hul : u.length ≤ 4096 := by
      rw [← q5]
      unfold trimR
      rw [List.length_reverse]
      have := (List.dropWhile_suffix (l := (List.take (endAt ts i s.length - t.at_) (List.drop t.at_ s)).reverse) (fun x => x == 32)).length_le
      rw [List.length_reverse, List.length_take, List.length_drop] at this
      omega
    have := fun l11 => ih (i + 1) l11 (by omega)
    rw [htake] at this
    generalize (rs.take i).flatMap (fun u => u ++ List.replicate (g + 1) (32 : UInt8)) = A at *
    generalize List.replicate (g + 1) (32 : UInt8) = G at *
    have hA : A.length ≤ 30000 := by omega
    have b1 : u.length + G.length ≤ 4611686018427387904 := by omega
    have b2 : G.length + A.length + (u.length + G.length) ≤ 4611686018427387904 := by omega
    have b3 : u.length + (g + 1) ≤ 4611686018427387904 := by omega
    have b4 : (g + 1) + A.length + (u.length + (g + 1)) ≤ 4611686018427387904 := by omega
    have hassoc : G ++ A ++ (u ++ G) = G ++ (A ++ (u ++ G)) := List.append_assoc _ _ _
    rw [U11_1]
    by_cases hnx : i + 1 < ts.length
    · have e2 : decide (((i + 1 : Nat) : Int) < (ts.length : Int)) = true := decide_eq_true (by omega)
      obtain ⟨t2, ht2⟩ : ∃ t2, ts[i + 1]? = some t2 := ⟨ts[i + 1], List.getElem?_eq_getElem hnx⟩
      have hen : endAt ts i s.length = t2.at_ := by unfold endAt; rw [if_pos hnx, List.getD_eq_getElem?_getD, ht2]; rfl
      have htc2 := tok_at ht2
      have hget : ((ts.flatMap Tok.cells).drop ((i + 1) * 3 + 2)).take 1 = [.i .i64 (t2.at_ : Nat)] := by
        have h2 := congrArg (List.drop 2) htc2
        rw [List.drop_take, List.drop_drop] at h2
        exact h2
      rw [hen] at q2 q3 y3
      have g3 : (i + 1 + 1) * 3 ≤ ts.length * 3 := by omega
      have g4 : t.at_ ≤ t2.at_ := q2
      have g5 : t2.at_ ≤ s.length := q3
      obtain ⟨z0, zs, hz⟩ : ∃ x xs, ts.flatMap Tok.cells = x :: xs := by
        cases h : ts.flatMap Tok.cells with
        | nil => rw [h] at hcl; simp at hcl; omega
        | cons x xs => exact ⟨x, xs, rfl⟩
      rw [hz] at htc hget hcl this ⊢
      rw [show (i + 1) * 3 + 2 = ((i + 1) * 3 + 1) + 1 from rfl, List.drop_succ_cons] at hget
      rw [List.length_cons] at hcl
      simp only [Tok.cells] at htc
      simp only [e1, e2, hil, hnx, hcl, hrep, rd_ip, htc, hget, w1, g2, g3, g4, g5, y3, b1, b2, b3, b4, List.length_append, Nat.le_refl, hassoc, splice, Int.cast_ofNat_Int, go_sem, ne_eq, not_false_eq_true, reduceIte, Nat.reduceMul, Nat.reduceAdd, Nat.reduceSub, Nat.reduceEqDiff, Nat.reduceLeDiff, Nat.reduceLT, List.take_succ_cons, List.take_zero, List.drop_succ_cons, List.cons_append]
      rw [M_loop]
      simp only [kz11, K11_1, List.length_append, List.length_cons, List.length_nil, Nat.zero_add, go_sem, ne_eq, not_false_eq_true, reduceIte, Nat.reduceMul, Nat.reduceAdd, Nat.reduceSub, Nat.reduceEqDiff, Nat.reduceLeDiff, Nat.reduceLT, List.take_succ_cons, List.take_zero, List.drop_succ_cons, List.cons_append] at this ⊢
      exact this _
    · have e2 : decide (((i + 1 : Nat) : Int) < (ts.length : Int)) = false := decide_eq_false (by omega)
      have hen : endAt ts i s.length = s.length := by unfold endAt; rw [if_neg hnx]
      rw [hen] at q2 q3 y3
      have g4 : t.at_ ≤ s.length := q2
      obtain ⟨z0, zs, hz⟩ : ∃ x xs, ts.flatMap Tok.cells = x :: xs := by
        cases h : ts.flatMap Tok.cells with
        | nil => rw [h] at hcl; simp at hcl; omega
        | cons x xs => exact ⟨x, xs, rfl⟩
      rw [hz] at htc hcl this ⊢
      rw [List.length_cons] at hcl
      simp only [Tok.cells] at htc
      simp only [e1, e2, hil, hcl, hrep, rd_ip, htc, w1, g2, g4, y3, b1, b2, b3, b4, List.length_append, Nat.le_refl, hassoc, splice, Int.cast_ofNat_Int, go_sem, ne_eq, not_false_eq_true, reduceIte, Nat.reduceMul, Nat.reduceAdd, Nat.reduceSub, Nat.reduceEqDiff, Nat.reduceLeDiff, Nat.reduceLT, List.take_succ_cons, List.take_zero, List.drop_succ_cons, List.cons_append]
      rw [M_loop]
      simp only [kz11, K11_1, List.length_append, List.length_cons, List.length_nil, Nat.zero_add, go_sem, ne_eq, not_false_eq_true, reduceIte, Nat.reduceMul, Nat.reduceAdd, Nat.reduceSub, Nat.reduceEqDiff, Nat.reduceLeDiff, Nat.reduceLT, List.take_succ_cons, List.take_zero, List.drop_succ_cons, List.cons_append] at this ⊢
      exact this _
theorem w_LangBlanks (s : List UInt8) (n : Int) (gl : Nat → List V) : M X_blanks (kz11) (.code B11) [] (St.init gl 7 [.s s, .i .i64 n] {}) (Fin [.tmp 4] (.b true)) := by
  rw [U11]
  have y0 : X_blanks 14 [] = some (.b true) := rfl
  by_cases h1 : s.length ≤ 4096
  · have e1 : decide ((4096 : Int) < (s.length : Int)) = false := decide_eq_false (by omega)
    have y1 : X_blanks 21 [.s s] = some (tokR [] (lx s 0)) := F_Tokens1 s (by omega)
    cases hl : lx s 0 with
    | bad a e =>
      rw [hl] at y1
      have he := (lx_bad _ s 0 a e (Nat.le_refl _) hl).1
      have f1 : decide ((e : Int) = 0) = false := decide_eq_false (by omega)
      simp only [tokR] at y1
      simp only [e1, y0, y1, f1, go_sem, ne_eq, not_false_eq_true, reduceIte, Nat.reduceMul, Nat.reduceAdd, Nat.reduceSub, Nat.reduceEqDiff, Nat.reduceLeDiff, Nat.reduceLT, List.take_succ_cons, List.take_zero, List.drop_succ_cons, List.cons_append]
    | ok ts =>
      rw [hl] at y1
      simp only [tokR, List.nil_append] at y1
      obtain ⟨rs, hr⟩ := lx_rw s.length s 0 ts (Nat.le_refl _) hl
      obtain ⟨g, hg, e3⟩ : ∃ g : Nat, g < 5 ∧ (wr .u64 n).tmod 5 = (g : Int) := by
        have hp : 0 ≤ wr .u64 n := by simp only [wr]; omega
        refine ⟨((wr .u64 n).tmod 5).toNat, ?_, ?_⟩
        · have := Int.tmod_lt_of_pos (wr .u64 n) (show (0 : Int) < 5 by decide)
          have := Int.tmod_nonneg 5 hp
          omega
        · have := Int.tmod_nonneg 5 hp
          omega
      have e4 : wr .i64 (g : Int) = (g : Int) := by rw [wr64] <;> omega
      have e5 : wr .i64 (1 + (g : Int)) = ((g + 1 : Nat) : Int) := by rw [wr64] <;> omega
      have y2 : X_blanks 29 [.s [32], .i .i64 ((g + 1 : Nat) : Int)] = some (.s (List.replicate (g + 1) 32)) := F_rep1 hg
      have e6 : decide ((0 : Int) = 0) = true := by decide
      have e7 : ¬ ((5 : Int) = 0) := by decide
      have key := fun v5 l11 => w_bl_loop s h1 ts rs hl hr g hg gl v5 ts.length 0 l11 (by omega)
      simp only [List.take_zero, List.flatMap_nil, List.append_nil] at key
      simp only [e1, e3, e4, e5, e6, e7, y0, y1, y2, Int.cast_ofNat_Int, go_sem, ne_eq, not_false_eq_true, reduceIte, Nat.reduceMul, Nat.reduceAdd, Nat.reduceSub, Nat.reduceEqDiff, Nat.reduceLeDiff, Nat.reduceLT, List.take_succ_cons, List.take_zero, List.drop_succ_cons, List.cons_append]
      rw [M_loop]
      simp only [kz11, K11_1, List.length_cons, List.length_nil, Int.natCast_zero, Int.cast_ofNat_Int, go_sem, ne_eq, not_false_eq_true, reduceIte, Nat.reduceMul, Nat.reduceAdd, Nat.reduceSub, Nat.reduceEqDiff, Nat.reduceLeDiff, Nat.reduceLT, List.take_succ_cons, List.take_zero, List.drop_succ_cons, List.cons_append] at key ⊢
      exact key _ _
  · have e1 : decide ((4096 : Int) < (s.length : Int)) = true := decide_eq_true (by omega)
    simp only [e1, y0, go_sem, ne_eq, not_false_eq_true, reduceIte, Nat.reduceMul, Nat.reduceAdd, Nat.reduceSub, Nat.reduceEqDiff, Nat.reduceLeDiff, Nat.reduceLT, List.take_succ_cons, List.take_zero, List.drop_succ_cons, List.cons_append]
end Go.Proofs.YtbhclhgljnoioaaDoor
