/- lang.tell: walked, whole; Print. -/
import Derived.Test.YtpcjhfchpelonaaGreatDoorPg4
set_option linter.unusedSimpArgs false
set_option linter.unusedVariables false
namespace Go.Proofs.YtpcjhfchpelonaaGreatDoor
open Nat (reduceMul reduceAdd reduceSub reduceEqDiff reduceLeDiff reduceLT)
open Ai Go.Shelf
section
variable {D : Nat}
set_option maxRecDepth 100000 in
theorem w_t1 (S : S_tell D) (k : Int) (nm tx : List UInt8) (kids : List Fil) (ys : List V) (tk0 : Tk) (hy : KidsR kids ys) (d : Nat) (hfi : Fine (.mk k nm tx kids) d) (hD : 8 ≤ d + 1 + D) (word li : List UInt8) (hwo : word.length = 4 ∨ word.length = 5) (hli : li.length = 4 ∨ li.length = 5) (b : Nat) (hb1 : b ≤ 2) (gl : Nat → List V) :
  ∀ (post pre : List Fil) (l : List (List UInt8)) (v : V) (h : H) (l8 : List (Nat × List V)), kids = pre ++ post → l = tellW pre (b + 1) → LB h v l →
  Hp.M X_tell Y_tell (kz69) (.code L69_1) (.loop L69_1 :: K69_1) ⟨gl, (.node (.node (.node E4 (.s word) E4) (.l 1 0) (.node E4 (.i .i64 (b : Nat)) (.node E3 .any (.node (.node E1 (.i .i64 (kids.length : Nat)) E1) .any E2)))) .any (.node (.node E4 (.s li) (.node E3 .any (.node (.node E1 (.sl ys kids.length tk0) E1) .any E2))) .any (.node E4 (v) (.node E3 .any (.node (.node E1 (.i .i64 (pre.length : Nat)) E1) .any E2))))), [], (1, [.i .i64 k, .s nm, .s tx, .sl ys kids.length tk0]) :: l8, h⟩
   (Fin [.tmp 2] (.s (if 1 < kids.length then Lib.join (tellW kids (b + 1)) word else li ++ Lib.join (tellL kids) [44, 32] ++ [41]))) := by
 obtain ⟨m1, m2, m3, m4, m5, m6, m7⟩ := hfi.may
 intro post
 induction post with
 | nil =>
   intro pre l v h l8 hk1 hl hb
   have hkl : kids.length = pre.length := by rw [hk1]; simp
   rw [List.append_nil] at hk1
   have hll : l.length = kids.length := by rw [hl, tellW_len, hkl]
   have e1 : decide ((pre.length : Int) < (kids.length : Int)) = false := decide_eq_false (by omega)
   rw [UH69_1]
   by_cases hk2 : 1 < kids.length
   · rw [if_pos hk2]
     rcases hb with ⟨rfl, rfl⟩ | ⟨hne, id, rfl, hid, ho⟩
     · simp only [List.length_nil] at hll; omega
     · have e2 : decide ((1 : Int) < (l.length : Int)) = true := decide_eq_true (by omega)
       have yj : Y_tell 39 [.hs id 0 l.length 1, .s word] h = some (.s (Lib.join l word), h) := H_JoinH word ho rfl (by omega) (by
        rw [hl]; have := tellW_le pre (b + 1) word (by omega) (hk1 ▸ m7); rw [hk1] at m6; omega)
       have hjl : Lib.join l word = Lib.join (tellW kids (b + 1)) word := by rw [hl, hk1]
       rw [hjl] at yj
       simp only [e1, e2, yj, K69_1, go_sem, reduceIte, reduceMul, reduceAdd, reduceSub, reduceEqDiff, reduceLeDiff, reduceLT]
   · rw [if_neg hk2]
     have key := fun x1 x3 x5 x44 x45 x46 => w_t2 S kids ys tk0 hy d (hfi.kid) hD li hli gl l hll (by omega) v h hb ((1, [.i .i64 k, .s nm, .s tx, .sl ys kids.length tk0]) :: l8) x1 x3 x5 x44 x45 x46
     rcases hb with ⟨rfl, rfl⟩ | ⟨hne, id, rfl, hid, ho⟩
     · have e2 : decide ((1 : Int) < 0) = false := by decide
       simp only [e1, e2, K69_1, Int.cast_ofNat_Int, Int.natCast_zero, go_sem, reduceIte, reduceMul, reduceAdd, reduceSub, reduceEqDiff, reduceLeDiff, reduceLT]
       rw [Hp.M_loop]
       simp only [kz69, K69_2, List.length_cons, List.length_nil, go_sem, reduceIte, reduceMul, reduceAdd, reduceSub, reduceEqDiff, reduceLeDiff, reduceLT] at key ⊢
       exact key _ _ _ _ _ _
     · have e2 : decide ((1 : Int) < (l.length : Int)) = false := decide_eq_false (by omega)
       simp only [e1, e2, K69_1, go_sem, reduceIte, reduceMul, reduceAdd, reduceSub, reduceEqDiff, reduceLeDiff, reduceLT]
       rw [Hp.M_loop]
       simp only [kz69, K69_2, List.length_cons, List.length_nil, go_sem, reduceIte, reduceMul, reduceAdd, reduceSub, reduceEqDiff, reduceLeDiff, reduceLT] at key ⊢
       exact key _ _ _ _ _ _
 | cons f post ih =>
   intro pre l v h l8 hk1 hl hb
   have hkl : kids.length = pre.length + post.length + 1 := by rw [hk1]; simp; omega
   have hll : l.length = pre.length := by rw [hl, tellW_len]
   have e1 : decide ((pre.length : Int) < (kids.length : Int)) = true := decide_eq_true (by omega)
   have g1 : pre.length < kids.length := by omega
   have hyl := hy.len
   have g2 : (pre.length + 1) * 4 ≤ kids.length * 4 := by omega
   obtain ⟨c, hc, ht⟩ := hy.split pre f post hk1
   have w1 : wr .i64 ((b : Int) + 1) = ((b + 1 : Nat) : Int) := by rw [wr64] <;> omega
   have w2 : wr .i64 ((pre.length : Int) + 1) = ((pre.length + 1 : Nat) : Int) := by rw [wr64] <;> omega
   have y1 : X_tell 95 [.agg c, .i .i64 ((b + 1 : Nat) : Int)] = some (.s (withinF f (b + 1))) := call_within (s_within S) hc (hfi.kid pre f post hk1) hD (by omega)
   obtain ⟨nx, obs, nt, tips⟩ := h
   obtain ⟨v', h', hap, hb'⟩ := hb.step (withinF f (b + 1)) (by unfold most; omega)
   have hl' : l ++ [withinF f (b + 1)] = tellW (pre ++ [f]) (b + 1) := by rw [tellW_app, tellW_one, hl]
   have hb2 := hb'
   rcases hb' with ⟨h0, _⟩ | ⟨_, id', rfl, _, _⟩
   · simp at h0
   · have := fun l8 => ih (pre ++ [f]) _ _ h' l8 (by rw [hk1]; simp) hl' hb2
     rw [UH69_1]
     cases hc with | mk k1 nm1 tx1 kids1 xs1 n1 tk1 hn1 hx1 =>
     rcases hb with ⟨rfl, rfl⟩ | ⟨hne, id, rfl, hid, ho⟩
     · simp only [e1, g1, hyl, g2, rd_ip, ht, w1, w2, y1, k_bsliceT, hap, splice, Int.cast_ofNat_Int, go_sem, reduceIte, reduceMul, reduceAdd, reduceSub, reduceEqDiff, reduceLeDiff, reduceLT]
       rw [Hp.M_loop]
       simp only [kz69, K69_1, List.length_append, List.length_cons, List.length_nil, Nat.zero_add, go_sem, reduceIte, reduceMul, reduceAdd, reduceSub, reduceEqDiff, reduceLeDiff, reduceLT] at this ⊢
       exact this _
     · simp only [e1, g1, hyl, g2, rd_ip, ht, w1, w2, y1, k_bsliceT, hap, splice, Int.cast_ofNat_Int, go_sem, reduceIte, reduceMul, reduceAdd, reduceSub, reduceEqDiff, reduceLeDiff, reduceLT]
       rw [Hp.M_loop]
       simp only [kz69, K69_1, List.length_append, List.length_cons, List.length_nil, Nat.zero_add, go_sem, reduceIte, reduceMul, reduceAdd, reduceSub, reduceEqDiff, reduceLeDiff, reduceLT] at this ⊢
       exact this _
set_option maxRecDepth 100000 in
set_option maxHeartbeats 1000000 in
theorem s_tell (S : S_tell D) : S_tell (D + 1) := by
 intro f c d hf hfi hD
 have hs := FilR.strip f c hf
 refine Hp.comp_of (kz := kz69) t_tell u_tell (fn := af69) rfl (Nat.le_of_ble_eq_true rfl) fun gl => ?_
 show Hp.M _ _ _ (.code B69) _ (St.init gl 7 [.agg (stripL c)] _) (Fin [.tmp 2] _)
 rw [UH69]
 generalize stripL c = c2 at hs
 clear hf c
 cases hs with | mk k nm tx kids xs n tk hn hx =>
 subst hn
 obtain ⟨m1, m2, m3, m4, m5, m6, m7⟩ := hfi.may
 obtain ⟨q1, q2, q3⟩ := may_kind m1
 have y1 : X_tell 94 [.s tx] = some (.s (quoteV tx)) := F_Quote1 tx (by omega)
 have hql := quoteV_len tx
 rw [tellF]
 by_cases k0 : k = 0
 · have d0 : decide (k = 0) = true := decide_eq_true k0
   rw [if_pos k0]
   simp only [d0, go_sem, reduceIte, reduceMul, reduceAdd, reduceSub, reduceEqDiff, reduceLeDiff, reduceLT]
 · have d0 : decide (k = 0) = false := decide_eq_false k0
   rw [if_neg k0]
   by_cases k1 : k = 1
   · have d1 : decide (k = 1) = true := decide_eq_true k1
     have g1 : 6 + (quoteV tx).length ≤ 4611686018427387904 := by omega
     rw [if_pos k1]
     generalize quoteV tx = q at *
     simp only [d0, d1, y1, g1, go_sem, reduceIte, reduceMul, reduceAdd, reduceSub, reduceEqDiff, reduceLeDiff, reduceLT]
   · have d1 : decide (k = 1) = false := decide_eq_false k1
     rw [if_neg k1]
     by_cases k2 : k = 2
     · have d2 : decide (k = 2) = true := decide_eq_true k2
       have g1 : nm.length + 3 ≤ 4611686018427387904 := by omega
       have g2 : nm.length + 3 + (quoteV tx).length ≤ 4611686018427387904 := by omega
       rw [if_pos k2]
       generalize quoteV tx = q at *
       simp only [d0, d1, d2, y1, g1, g2, List.length_append, go_sem, reduceIte, reduceMul, reduceAdd, reduceSub, reduceEqDiff, reduceLeDiff, reduceLT]
     · have d2 : decide (k = 2) = false := decide_eq_false k2
       rw [if_neg k2]
       by_cases k3 : k = 3
       · have d3 : decide (k = 3) = true := decide_eq_true k3
         rw [if_pos k3]
         simp only [d0, d1, d2, d3, go_sem, reduceIte, reduceMul, reduceAdd, reduceSub, reduceEqDiff, reduceLeDiff, reduceLT]
       · have d3 : decide (k = 3) = false := decide_eq_false k3
         rw [if_neg k3]
         by_cases k4 : k = 4
         · have d4 : decide (k = 4) = true := decide_eq_true k4
           rw [if_pos k4]
           obtain ⟨g, rfl⟩ : ∃ g, kids = [g] := by
            match kids, q3 k4 with
            | [g], _ => exact ⟨g, rfl⟩
           have hfk := hfi.kid [] g [] rfl
           obtain ⟨c, hc, ht⟩ := hx.split [] g [] rfl
           have y2 : X_tell 95 [.agg c, .i .i64 ((3 : Nat) : Int)] = some (.s (withinF g 3)) := call_within (s_within S) hc hfk (by omega) (by omega)
           have hwl : (withinF g 3).length ≤ 2500002 := by
            have := hfk.len
            unfold withinF
            split
            · simp only [List.length_append, List.length_cons, List.length_nil]; omega
            · omega
           have hyl := hx.len
           have g3 : 4 ≤ xs.length := by simp only [List.length_cons, List.length_nil] at hyl; omega
           rw [tellW_one, List.headD_cons]
           generalize withinF g 3 = w at *
           have g1 : 4 + w.length ≤ 4611686018427387904 := by omega
           cases hc with | mk k1 nm1 tx1 kids1 xs1 n1 tk1 hn1 hx1 =>
           simp only [List.length_cons, List.length_nil, Nat.zero_add, Nat.zero_mul, Nat.one_mul, List.drop_zero, Int.cast_ofNat_Int] at hyl ht y2 ⊢
           simp only [d0, d1, d2, d3, d4, hyl, g3, rd_ip, ht, y2, g1, Int.cast_ofNat_Int, go_sem, reduceIte, reduceMul, reduceAdd, reduceSub, reduceEqDiff, reduceLeDiff, reduceLT]
         · have d4 : decide (k = 4) = false := decide_eq_false k4
           rw [if_neg k4]
           by_cases k5 : k = 5
           · have d5 : decide (k = 5) = true := decide_eq_true k5
             have key := w_t1 S k nm tx kids xs tk hx d hfi (by omega) [32, 97, 110, 100, 32] [101, 97, 99, 104, 40] (.inr rfl) (.inr rfl) 2 (by decide) gl kids [] [] (.sl [] 0 .nil) ⟨0, [], 0, []⟩ [] rfl (by rw [tellW]) (.inl ⟨rfl, rfl⟩)
             rw [if_pos k5, if_pos k5, if_pos k5]
             simp only [d0, d1, d2, d3, d4, d5, splice, go_sem, reduceIte, reduceMul, reduceAdd, reduceSub, reduceEqDiff, reduceLeDiff, reduceLT]
             rw [Hp.M_loop]
             simp only [kz69, K69_1, List.length_cons, List.length_nil, Int.cast_ofNat_Int, Int.natCast_zero, go_sem, reduceIte, reduceMul, reduceAdd, reduceSub, reduceEqDiff, reduceLeDiff, reduceLT] at key ⊢
             exact key
           · have d5 : decide (k = 5) = false := decide_eq_false k5
             have key := w_t1 S k nm tx kids xs tk hx d hfi (by omega) [32, 111, 114, 32] [97, 110, 121, 40] (.inl rfl) (.inl rfl) 1 (by decide) gl kids [] [] (.sl [] 0 .nil) ⟨0, [], 0, []⟩ [] rfl (by rw [tellW]) (.inl ⟨rfl, rfl⟩)
             rw [if_neg k5, if_neg k5, if_neg k5]
             simp only [d0, d1, d2, d3, d4, d5, splice, go_sem, reduceIte, reduceMul, reduceAdd, reduceSub, reduceEqDiff, reduceLeDiff, reduceLT]
             rw [Hp.M_loop]
             simp only [kz69, K69_1, List.length_cons, List.length_nil, Int.cast_ofNat_Int, Int.natCast_zero, go_sem, reduceIte, reduceMul, reduceAdd, reduceSub, reduceEqDiff, reduceLeDiff, reduceLT] at key ⊢
             exact key
theorem s_tell_all : ∀ D, S_tell D
 | 0 => fun f c d _ hfi h => by
   obtain ⟨w, h1, h2⟩ := hfi.b
   cases f with | mk k nm tx kids =>
   have := hfi.may
   omega
 | D + 1 => s_tell (s_tell_all D)
end
theorem bind3 {k : Int} {n : Nat} (h : 0 ≤ k ∧ k ≤ 6) : bindV k n < 3 ↔ 4 < k ∧ 1 < n := by
 unfold bindV
 split
 · omega
 · split <;> omega
theorem bind2 {k : Int} {n : Nat} : bindV k n < 2 ↔ k = 6 ∧ 1 < n := by
 unfold bindV
 split
 · omega
 · split <;> omega
theorem join_snoc (l : List (List UInt8)) (x sep : List UInt8) : Lib.join (l ++ [x]) sep = (if l = [] then [] else Lib.join l sep ++ sep) ++ x := by
 induction l with
 | nil => rw [if_pos rfl, List.nil_append, Lib.join_one]; rfl
 | cons y r ih =>
   rw [if_neg (by simp)]
   cases r with
   | nil => simp [Lib.join, List.intercalate]
   | cons z r =>
     rw [if_neg (by simp)] at ih
     have e : ∀ m : List (List UInt8), Lib.join (y :: z :: m) sep = y ++ (sep ++ Lib.join (z :: m) sep) := fun m => by simp [Lib.join, List.intercalate]
     rw [List.cons_append, List.cons_append, e, e, ← List.cons_append, ih]
     simp only [List.append_assoc]
theorem cnts_app (a b : List Fil) : cnts (a ++ b) = cnts a + cnts b := by
 induction a with
 | nil => rw [List.nil_append, cnts, Nat.zero_add]
 | cons f r ih => rw [List.cons_append, cnts, cnts, ih, Nat.add_assoc]
theorem okLs_app : ∀ (a b : List Fil), okLs (a ++ b) → okLs a
 | [], _, _ => by rw [okLs]; trivial
 | f :: r, b, h => by
   rw [List.cons_append, okLs] at h
   rw [okLs]
   exact ⟨h.1, okLs_app r b h.2⟩
/-! ### several -/
theorem U100 : type_of% (@M_open _ _ B100.eq_1) := @M_open _ _ B100.eq_1
def kz100 (_ : Nat) : List Nat := []
theorem w_several (k : Int) (nm tx : List UInt8) (xs : List V) (n : Nat) (tk : Tk) (gl : Nat → List V) :
  M noX (kz100) (.code B100) [] (St.init gl 4 [.agg [.i .i64 k, .s nm, .s tx, .sl xs n tk]] {}) (Fin [.tmp 2] (.b (decide (4 < k) && decide (1 < n)))) := by
 rw [U100]
 have e1 : decide ((1 : Int) < (n : Int)) = decide (1 < n) := decide_eq_decide.2 (by omega)
 cases h4 : decide (4 < k) <;> simp only [h4, e1, go_sem, reduceIte, reduceMul, reduceAdd, reduceSub, reduceEqDiff, reduceLeDiff, reduceLT]
def F_several (a : List V) : Option V := match a with
 | [.agg [.i .i64 k, .s nm, .s tx, .sl xs n tk]] => some (.b (decide (4 < k) && decide (1 < n)))
 | _ => none
theorem o_several : ∀ a v, F_several a = some v → Comp tabx told 100 a v := fun a v e => by
 unfold F_several at e
 split at e
 · cases e; exact comp_of tells_noX (fn := af100) rfl (Nat.le_of_ble_eq_true rfl) fun gl => w_several _ _ _ _ _ _ gl
 · cases e
/-! ### tell -/
noncomputable def F_rtell : List V → Option V := pickP 74 R_tell
def S_rtell (D : Nat) : Prop := ∀ (f : Fil) (c : List V) (d : Nat), FilR f c → Fine f d → 8 ≤ d + D → Comp tabx told 74 [.agg c] (.s (tellF f))
theorem call_rtell {D : Nat} (S : S_rtell D) {f : Fil} {c : List V} {d : Nat} (hf : FilR f c) (h1 : Fine f d) (h2 : 8 ≤ d + D) : F_rtell [.agg c] = some (.s (tellF f)) := by
 obtain ⟨v, e1, r⟩ := pickP_spec (R := R_tell) (S f c d hf h1 h2) (by
  intro f' c' e1 hf'
  simp only [List.cons.injEq, V.agg.injEq, and_true] at e1
  subst e1
  rw [← FilR.uniq f f' c hf hf'])
 rw [r f c rfl hf] at e1
 exact e1
noncomputable def X_rtell := xs [(99, F_Quote), (100, F_several), (74, F_rtell)]
theorem t_rtell : Tells tabx told X_rtell := tells_cons o_rQuote (tells_cons o_several (tells_cons pickP_tells tells_nil))
def K74_2 : List Fr := [.blk 3,
 .seq (Sr [Om 120 6, Om 2 120]
 .ret)]
theorem U74_2 : type_of% (@M_open _ _ L74_2.eq_1) := @M_open _ _ L74_2.eq_1
def K74_1 : List Fr := [.blk 1,
 .seq (Sr [Om 69 3, Oq 70 (.bin .add (.t 69) (.k (.s [41]))), Om 2 70]
 .ret),
 .seq (Sr [Ox 6 (.s [])]
 (.seq (Sr [Of 71 3 1, Ol 72 1 71, Ow 73 72, On 74 0]
 (.blk 3 (.loop L74_2)))
 (Sr [Om 120 6, Om 2 120]
 .ret)))]
theorem U74_1 : type_of% (@M_open _ _ L74_1.eq_1) := @M_open _ _ L74_1.eq_1
theorem U74 : type_of% (@M_open _ _ B74.eq_1) := @M_open _ _ B74.eq_1
def kz74 (n : Nat) : List Nat := if n = 2 then [0, 2, 3, 4, 5, 7, 8, 9, 10, 11, 12, 13, 14, 15, 16, 17, 18, 19, 20, 21, 22, 23, 24, 25, 26, 27, 28, 29, 30, 31, 32, 33, 34, 35, 36, 37, 38, 39, 40, 41, 42, 43, 44, 45, 46, 47, 48, 49, 50, 51, 52, 53, 54, 55, 56, 57, 58, 59, 60, 61, 62, 63, 64, 65, 66, 67, 68, 69, 70, 71, 75, 76, 77, 78, 79, 80, 81, 82, 83, 84, 85, 86, 87, 88, 89, 90, 91, 92, 93, 94, 95, 96, 97, 98, 99, 100, 101, 102, 103, 104, 105, 106, 107, 108, 109, 110, 111, 112, 113, 114, 115, 116, 117, 118, 119, 120] else if n = 3 then [0, 1, 2, 4, 5, 6, 7, 8, 9, 10, 11, 12, 13, 14, 15, 16, 17, 18, 19, 20, 21, 22, 23, 24, 25, 26, 27, 28, 29, 30, 31, 32, 33, 34, 35, 36, 37, 38, 39, 40, 41, 42, 43, 44, 45, 46, 47, 48, 49, 50, 51, 52, 53, 54, 55, 56, 57, 61, 62, 63, 64, 65, 66, 67, 68, 69, 70, 71, 72, 73, 74, 75, 76, 77, 78, 79, 80, 81, 82, 83, 84, 85, 86, 87, 88, 89, 90, 91, 92, 93, 94, 95, 96, 97, 98, 99, 100, 101, 102, 103, 104, 105, 106, 107, 108, 109, 110, 111, 112, 113, 114, 115, 116, 117, 118, 119, 120] else []
section
variable {D : Nat}
set_option maxRecDepth 100000 in
theorem w_r1 (S : S_rtell D) (kids : List Fil) (ys : List V) (tk0 : Tk) (hy : KidsR kids ys) (d : Nat) (hk : ∀ (pre : List Fil) (f : Fil) (post : List Fil), kids = pre ++ f :: post → Fine f (d + 1)) (hD : 8 ≤ d + 1 + D) (li : List UInt8) (hli : li.length = 4 ∨ li.length = 5) (gl : Nat → List V)
  (hk1 : kids.length ≤ 1) (loc : List (Nat × List V)) :
  M X_rtell (kz74) (.code L74_1) (.loop L74_1 :: K74_1) ⟨gl, (.node (.node (.node E4 (.s li) (.node E3 .any (.node E2 .any (.node E1 (.i .i64 (kids.length : Nat)) E1)))) .any E5) .any (.node (.node E4 .any (.node E3 .any (.node E2 .any (.node E1 (.i .i64 0) E1)))) .any (.node (.node E3 .any (.node E2 .any (.node E1 (.sl ys kids.length tk0) E1))) .any E4))), [], loc, {}⟩
   (Fin [.tmp 2] (.s (li ++ Lib.join (tellL kids) [44, 32] ++ [41]))) := by
 match kids, hk1 with
 | [], _ =>
   have e1 : decide ((0 : Int) < 0) = false := by decide
   have g2 : li.length + 1 ≤ 4611686018427387904 := by omega
   rw [U74_1, tellL, Lib.join_nil]
   simp only [e1, g2, K74_1, List.append_nil, Int.cast_ofNat_Int, Int.natCast_zero, go_sem, reduceIte, reduceMul, reduceAdd, reduceSub, reduceEqDiff, reduceLeDiff, reduceLT]
 | [g], _ =>
   have hfi := hk [] g [] rfl
   obtain ⟨c, hc, ht⟩ := hy.split [] g [] rfl
   have y1 : X_rtell 74 [.agg c] = some (.s (tellF g)) := call_rtell S hc hfi hD
   have hlen := hfi.len
   have hyl := hy.len
   have e1 : decide ((0 : Int) < 1) = true := by decide
   have e2 : decide ((1 : Int) < 1) = false := by decide
   have w1 : wr .i64 ((0 : Int) + 1) = 1 := by decide
   rw [tellL, tellL, Lib.join_one]
   cases hc with | mk k1 nm1 tx1 kids1 xs1 n1 tk1 hn1 hx1 =>
   generalize tellF (.mk k1 nm1 tx1 kids1) = t at *
   have g1 : li.length + t.length ≤ 4611686018427387904 := by omega
   have g2 : li.length + t.length + 1 ≤ 4611686018427387904 := by omega
   have g3 : 4 ≤ ys.length := by simp only [List.length_cons, List.length_nil] at hyl; omega
   rw [U74_1]
   simp only [List.length_cons, List.length_nil, Nat.zero_add, Nat.zero_mul, Nat.one_mul, List.drop_zero] at hyl ht ⊢
   simp only [e1, hyl, g1, g3, rd_ip, ht, y1, w1, splice, Int.cast_ofNat_Int, go_sem, reduceIte, reduceMul, reduceAdd, reduceSub, reduceEqDiff, reduceLeDiff, reduceLT]
   rw [M_loop]
   rw [U74_1]
   simp only [kz74, K74_1, List.length_cons, List.length_nil, go_sem, reduceIte, reduceMul, reduceAdd, reduceSub, reduceEqDiff, reduceLeDiff, reduceLT]
   simp only [e2, g2, K74_1, List.length_append, List.length_cons, List.length_nil, Int.cast_ofNat_Int, go_sem, reduceIte, reduceMul, reduceAdd, reduceSub, reduceEqDiff, reduceLeDiff, reduceLT]
 | _ :: _ :: _, h => simp only [List.length_cons] at h; omega
set_option maxRecDepth 100000 in
set_option maxHeartbeats 1000000 in
theorem w_r2 (S : S_rtell D) (k : Int) (nm tx : List UInt8) (kids : List Fil) (ys : List V) (tk0 : Tk) (hy : KidsR kids ys) (d : Nat) (hfi : Fine (.mk k nm tx kids) d) (hD : 8 ≤ d + 1 + D) (hk : k = 5 ∨ k = 6) (gl : Nat → List V) :
  ∀ (post pre : List Fil) (s : List UInt8) (l8 : List (Nat × List V)), kids = pre ++ post → s = Lib.join (tellW pre (if k = 5 then 3 else 2)) (if k = 5 then [32, 97, 110, 100, 32] else [32, 111, 114, 32]) →
  M X_rtell (kz74) (.code L74_2) (.loop L74_2 :: K74_2) ⟨gl, (.node (.node E5 (.l 1 0) (.node (.node E3 .any (.node (.node (.node .leaf (.i .i64 (kids.length : Nat)) .leaf) .any E1) .any E2)) .any E4)) .any (.node (.node (.node E3 .any (.node (.node (.node .leaf (.sl ys kids.length tk0) .leaf) .any E1) .any E2)) .any E4) .any (.node (.node E3 .any (.node (.node (.node .leaf (.i .i64 (pre.length : Nat)) .leaf) .any E1) .any E2)) (.s s) E4))), [], (1, [.i .i64 k, .s nm, .s tx, .sl ys kids.length tk0]) :: l8, {}⟩
   (Fin [.tmp 2] (.s (Lib.join (tellW kids (if k = 5 then 3 else 2)) (if k = 5 then [32, 97, 110, 100, 32] else [32, 111, 114, 32])))) := by
 obtain ⟨m1, m2, m3, m4, m5, m6, m7⟩ := hfi.may
 intro post
 induction post with
 | nil =>
   intro pre s l8 hk1 hs
   have hkl : kids.length = pre.length := by rw [hk1]; simp
   rw [List.append_nil] at hk1
   have e1 : decide ((pre.length : Int) < (kids.length : Int)) = false := decide_eq_false (by omega)
   rw [← hk1] at hs
   rw [U74_2, ← hs]
   simp only [e1, K74_2, go_sem, reduceIte, reduceMul, reduceAdd, reduceSub, reduceEqDiff, reduceLeDiff, reduceLT]
 | cons f post ih =>
   intro pre s l8 hk1 hs
   have hkl : kids.length = pre.length + post.length + 1 := by rw [hk1]; simp; omega
   have e1 : decide ((pre.length : Int) < (kids.length : Int)) = true := decide_eq_true (by omega)
   have g1 : pre.length < kids.length := by omega
   have hyl := hy.len
   have g2 : (pre.length + 1) * 4 ≤ kids.length * 4 := by omega
   obtain ⟨c, hc, ht⟩ := hy.split pre f post hk1
   have hff := hfi.kid pre f post hk1
   have hlen := hff.len
   have w2 : wr .i64 ((pre.length : Int) + 1) = ((pre.length + 1 : Nat) : Int) := by rw [wr64] <;> omega
   have y1 : X_rtell 74 [.agg c] = some (.s (tellF f)) := call_rtell S hc hff hD
   have hsl : s.length ≤ 2400000 := by
    have ho : okLs pre := okLs_app pre (f :: post) (hk1 ▸ m7)
    have hc : cnts kids = cnts pre + cnts (f :: post) := by rw [hk1, cnts_app]
    have := tellW_le pre (if k = 5 then 3 else 2) (if k = 5 then [32, 97, 110, 100, 32] else [32, 111, 114, 32]) (by split <;> simp) ho
    rw [← hs] at this
    omega
   have next := fun s l8 hs => ih (pre ++ [f]) s l8 (by rw [hk1]; simp) hs
   rw [tellW_app, tellW_one, join_snoc, ← hs] at next
   have hpe : (tellW pre (if k = 5 then 3 else 2) = []) ↔ pre = [] := by
    constructor
    · intro e; have := tellW_len (if k = 5 then 3 else 2) pre; rw [e] at this; exact List.eq_nil_of_length_eq_zero this.symm
    · intro e; rw [e, tellW]
   cases hc with | mk k1 nm1 tx1 kids1 xs1 n1 tk1 hn1 hx1 =>
   subst hn1
   obtain ⟨q1, q2, _⟩ := may_kind hff.may.1
   have y2 : X_rtell 100 [.agg [.i .i64 k1, .s nm1, .s tx1, .sl xs1 kids1.length tk1]] = some (.b (decide (4 < k1) && decide (1 < kids1.length))) := rfl
   have hb : bindF (.mk k1 nm1 tx1 kids1) = bindV k1 kids1.length := rfl
   have hwf : withinF (.mk k1 nm1 tx1 kids1) (if k = 5 then 3 else 2) = if (decide (4 < k1) && decide (1 < kids1.length)) = true ∧ (k = 5 ∨ k1 = 6) then [40] ++ tellF (.mk k1 nm1 tx1 kids1) ++ [41] else tellF (.mk k1 nm1 tx1 kids1) := by
    unfold withinF
    rw [hb]
    have hiff : bindV k1 kids1.length < (if k = 5 then 3 else 2) ↔ ((decide (4 < k1) && decide (1 < kids1.length)) = true ∧ (k = 5 ∨ k1 = 6)) := by
     simp only [Bool.and_eq_true, decide_eq_true_eq]
     by_cases h5 : k = 5
     · rw [if_pos h5, bind3 ⟨q1, q2⟩]
       constructor
       · intro h; exact ⟨h, .inl h5⟩
       · exact fun h => h.1
     · rw [if_neg h5, bind2]
       constructor
       · intro h; exact ⟨⟨by omega, h.2⟩, .inr h.1⟩
       · intro h; exact ⟨by omega, h.1.2⟩
    by_cases hcc : bindV k1 kids1.length < (if k = 5 then 3 else 2)
    · rw [if_pos hcc, if_pos (hiff.1 hcc)]
    · rw [if_neg hcc, if_neg (fun h => hcc (hiff.2 h))]
   rw [hwf] at next
   generalize tellF (.mk k1 nm1 tx1 kids1) = t at *
   have b1 : s.length + 5 ≤ 4611686018427387904 := by omega
   have b2 : s.length + 4 ≤ 4611686018427387904 := by omega
   have b3 : s.length + 5 + 1 ≤ 4611686018427387904 := by omega
   have b4 : s.length + 4 + 1 ≤ 4611686018427387904 := by omega
   have b5 : s.length + 5 + 1 + t.length ≤ 4611686018427387904 := by omega
   have b6 : s.length + 4 + 1 + t.length ≤ 4611686018427387904 := by omega
   have b7 : s.length + 5 + 1 + t.length + 1 ≤ 4611686018427387904 := by omega
   have b8 : s.length + 4 + 1 + t.length + 1 ≤ 4611686018427387904 := by omega
   have b9 : s.length + 5 + t.length ≤ 4611686018427387904 := by omega
   have b10 : s.length + 4 + t.length ≤ 4611686018427387904 := by omega
   have b11 : s.length + 1 ≤ 4611686018427387904 := by omega
   have b12 : s.length + 1 + t.length ≤ 4611686018427387904 := by omega
   have b13 : s.length + 1 + t.length + 1 ≤ 4611686018427387904 := by omega
   have b14 : s.length + t.length ≤ 4611686018427387904 := by omega
   rw [U74_2]
   by_cases hp : pre = []
   · rw [if_pos (hpe.2 hp)] at next
     have hs0 : s = [] := by rw [hs, hp, tellW]; rfl
     have e0 : decide ((0 : Int) < (pre.length : Int)) = false := decide_eq_false (by rw [hp]; simp)
     have a1 : 1 + t.length ≤ 4611686018427387904 := by omega
     have a2 : 1 + t.length + 1 ≤ 4611686018427387904 := by omega
     have a3 : t.length ≤ 4611686018427387904 := by omega
     have a4 : t.length + 1 ≤ 4611686018427387904 := by omega
     have a5 : t.length + 1 + 1 ≤ 4611686018427387904 := by omega
     subst hs0
     cases hsv : (decide (4 < k1) && decide (1 < kids1.length)) <;> rcases hk with rfl | rfl <;> by_cases d16 : k1 = 6 <;> rw [hsv] at y2 next <;> (first | (subst d16; have d16 : decide ((6 : Int) = 6) = true := by decide) | skip) <;>
      simp only [d16, show ¬ ((6 : Int) = 5) by decide, and_true, and_false, or_true, or_false, true_or, false_or, true_and, false_and, reduceIte, Bool.false_eq_true] at next <;>
      simp only [e0, e1, g1, hyl, g2, rd_ip, ht, w2, y1, y2, d16, show decide ((6 : Int) = 5) = false by decide, show decide ((5 : Int) = 5) = true by decide, show decide ((6 : Int) = 6) = true by decide, show decide ((5 : Int) = 6) = false by decide, decide_true, decide_false, a1, a2, a3, a4, a5, List.length_append, splice, Int.cast_ofNat_Int, go_sem, reduceIte, reduceMul, reduceAdd, reduceSub, reduceEqDiff, reduceLeDiff, reduceLT] <;> rw [M_loop] <;>
      simp only [kz74, K74_2, List.length_append, List.length_cons, List.length_nil, Nat.zero_add, go_sem, reduceIte, reduceMul, reduceAdd, reduceSub, reduceEqDiff, reduceLeDiff, reduceLT] at next ⊢ <;>
      exact next _ _ (by simp)
   · rw [if_neg (fun h => hp (hpe.1 h))] at next
     have e0 : decide ((0 : Int) < (pre.length : Int)) = true := decide_eq_true (by have := List.length_pos_iff.2 hp; omega)
     cases hsv : (decide (4 < k1) && decide (1 < kids1.length)) <;> rcases hk with rfl | rfl <;> by_cases d16 : k1 = 6 <;> rw [hsv] at y2 next <;> (first | (subst d16; have d16 : decide ((6 : Int) = 6) = true := by decide) | skip) <;>
      simp only [d16, and_true, and_false, or_true, or_false, true_or, false_or, true_and, false_and, reduceIte, Bool.false_eq_true, show ¬ ((6 : Int) = 5) by decide] at next <;>
      simp only [e0, e1, g1, hyl, g2, rd_ip, ht, w2, y1, y2, d16, show decide ((6 : Int) = 5) = false by decide, show decide ((5 : Int) = 5) = true by decide, show decide ((6 : Int) = 6) = true by decide, show decide ((5 : Int) = 6) = false by decide, decide_true, decide_false, b1, b2, b3, b4, b5, b6, b7, b8, b9, b10, b11, b12, b13, b14, List.length_append, List.length_cons, List.length_nil, Nat.zero_add, splice, Int.cast_ofNat_Int, go_sem, reduceIte, reduceMul, reduceAdd, reduceSub, reduceEqDiff, reduceLeDiff, reduceLT] <;> rw [M_loop] <;>
      simp only [kz74, K74_2, List.length_append, List.length_cons, List.length_nil, Nat.zero_add, go_sem, reduceIte, reduceMul, reduceAdd, reduceSub, reduceEqDiff, reduceLeDiff, reduceLT] at next ⊢ <;>
      exact next _ _ (by simp)
end
section
variable {D : Nat}
set_option maxRecDepth 100000 in
set_option maxHeartbeats 1000000 in
theorem s_rtell (S : S_rtell D) : S_rtell (D + 1) := by
 intro f c d hf hfi hD
 have hs := FilR.strip f c hf
 refine comp_of (kz := kz74) t_rtell (fn := af74) rfl (Nat.le_of_ble_eq_true rfl) fun gl => ?_
 show M _ _ (.code B74) _ (St.init gl 7 [.agg (stripL c)] _) (Fin [.tmp 2] _)
 rw [U74]
 generalize stripL c = c2 at hs
 clear hf c
 cases hs with | mk k nm tx kids xs n tk hn hx =>
 subst hn
 obtain ⟨m1, m2, m3, m4, m5, m6, m7⟩ := hfi.may
 obtain ⟨q1, q2, q3⟩ := may_kind m1
 have y1 : X_rtell 99 [.s tx] = some (.s (quoteV tx)) := F_Quote1 tx (by omega)
 have hql := quoteV_len tx
 rw [tellF]
 by_cases k0 : k = 0
 · have d0 : decide (k = 0) = true := decide_eq_true k0
   rw [if_pos k0]
   simp only [d0, go_sem, reduceIte, reduceMul, reduceAdd, reduceSub, reduceEqDiff, reduceLeDiff, reduceLT]
 · have d0 : decide (k = 0) = false := decide_eq_false k0
   rw [if_neg k0]
   by_cases k1 : k = 1
   · have d1 : decide (k = 1) = true := decide_eq_true k1
     have g1 : 6 + (quoteV tx).length ≤ 4611686018427387904 := by omega
     rw [if_pos k1]
     generalize quoteV tx = q at *
     simp only [d0, d1, y1, g1, go_sem, reduceIte, reduceMul, reduceAdd, reduceSub, reduceEqDiff, reduceLeDiff, reduceLT]
   · have d1 : decide (k = 1) = false := decide_eq_false k1
     rw [if_neg k1]
     by_cases k2 : k = 2
     · have d2 : decide (k = 2) = true := decide_eq_true k2
       have g1 : nm.length + 3 ≤ 4611686018427387904 := by omega
       have g2 : nm.length + 3 + (quoteV tx).length ≤ 4611686018427387904 := by omega
       rw [if_pos k2]
       generalize quoteV tx = q at *
       simp only [d0, d1, d2, y1, g1, g2, List.length_append, go_sem, reduceIte, reduceMul, reduceAdd, reduceSub, reduceEqDiff, reduceLeDiff, reduceLT]
     · have d2 : decide (k = 2) = false := decide_eq_false k2
       rw [if_neg k2]
       by_cases k3 : k = 3
       · have d3 : decide (k = 3) = true := decide_eq_true k3
         rw [if_pos k3]
         simp only [d0, d1, d2, d3, go_sem, reduceIte, reduceMul, reduceAdd, reduceSub, reduceEqDiff, reduceLeDiff, reduceLT]
       · have d3 : decide (k = 3) = false := decide_eq_false k3
         rw [if_neg k3]
         by_cases k4 : k = 4
         · have d4 : decide (k = 4) = true := decide_eq_true k4
           rw [if_pos k4]
           obtain ⟨g, rfl⟩ : ∃ g, kids = [g] := by
            match kids, q3 k4 with
            | [g], _ => exact ⟨g, rfl⟩
           have hfk := hfi.kid [] g [] rfl
           obtain ⟨c, hc, ht⟩ := hx.split [] g [] rfl
           have y2 : X_rtell 74 [.agg c] = some (.s (tellF g)) := call_rtell S hc hfk (by omega)
           have hwl := hfk.len
           have hyl := hx.len
           have g3 : 4 ≤ xs.length := by simp only [List.length_cons, List.length_nil] at hyl; omega
           rw [tellW_one, List.headD_cons]
           cases hc with | mk k1 nm1 tx1 kids1 xs1 n1 tk1 hn1 hx1 =>
           subst hn1
           obtain ⟨p1, p2, _⟩ := may_kind hfk.may.1
           have y3 : X_rtell 100 [.agg [.i .i64 k1, .s nm1, .s tx1, .sl xs1 kids1.length tk1]] = some (.b (decide (4 < k1) && decide (1 < kids1.length))) := rfl
           have hwf : withinF (.mk k1 nm1 tx1 kids1) 3 = if (decide (4 < k1) && decide (1 < kids1.length)) = true then [40] ++ tellF (.mk k1 nm1 tx1 kids1) ++ [41] else tellF (.mk k1 nm1 tx1 kids1) := by
            unfold withinF
            have hiff : bindF (.mk k1 nm1 tx1 kids1) < 3 ↔ (decide (4 < k1) && decide (1 < kids1.length)) = true := by
             rw [show bindF (.mk k1 nm1 tx1 kids1) = bindV k1 kids1.length from rfl, bind3 ⟨p1, p2⟩, Bool.and_eq_true, decide_eq_true_eq, decide_eq_true_eq]
            by_cases hcc : bindF (.mk k1 nm1 tx1 kids1) < 3
            · rw [if_pos hcc, if_pos (hiff.1 hcc)]
            · rw [if_neg hcc, if_neg (fun h => hcc (hiff.2 h))]
           rw [hwf]
           generalize tellF (.mk k1 nm1 tx1 kids1) = w at *
           have g1 : 4 + w.length ≤ 4611686018427387904 := by omega
           have g2 : 5 + w.length ≤ 4611686018427387904 := by omega
           have g4 : 5 + w.length + 1 ≤ 4611686018427387904 := by omega
           have g5 : w.length + 5 ≤ 4611686018427387904 := by omega
           have g6 : w.length + 5 + 1 ≤ 4611686018427387904 := by omega
           simp only [List.length_cons, List.length_nil, Nat.zero_add, Nat.zero_mul, Nat.one_mul, List.drop_zero, Int.cast_ofNat_Int] at hyl ht y2 ⊢
           cases hsv : (decide (4 < k1) && decide (1 < kids1.length)) <;> rw [hsv] at y3
           · simp only [d0, d1, d2, d3, d4, hyl, g3, rd_ip, ht, y2, y3, g1, Int.cast_ofNat_Int, Bool.false_eq_true, go_sem, reduceIte, reduceMul, reduceAdd, reduceSub, reduceEqDiff, reduceLeDiff, reduceLT]
           · simp only [d0, d1, d2, d3, d4, hyl, g3, rd_ip, ht, y2, y3, g1, g2, g4, g5, g6, List.length_append, Int.cast_ofNat_Int, go_sem, reduceIte, reduceMul, reduceAdd, reduceSub, reduceEqDiff, reduceLeDiff, reduceLT]
         · have d4 : decide (k = 4) = false := decide_eq_false k4
           rw [if_neg k4]
           by_cases hk2 : 1 < kids.length
           · have e2 : decide ((kids.length : Int) < 2) = false := decide_eq_false (by omega)
             rw [if_pos hk2]
             have key := w_r2 S k nm tx kids xs tk hx d hfi (by omega) (by omega) gl kids [] [] [] rfl (by rw [tellW, Lib.join_nil])
             simp only [d0, d1, d2, d3, d4, e2, splice, go_sem, reduceIte, reduceMul, reduceAdd, reduceSub, reduceEqDiff, reduceLeDiff, reduceLT]
             rw [M_loop]
             simp only [kz74, K74_2, List.length_cons, List.length_nil, Int.cast_ofNat_Int, Int.natCast_zero, go_sem, reduceIte, reduceMul, reduceAdd, reduceSub, reduceEqDiff, reduceLeDiff, reduceLT] at key ⊢
             exact key
           · have e2 : decide ((kids.length : Int) < 2) = true := decide_eq_true (by omega)
             rw [if_neg hk2]
             by_cases k5 : k = 5
             · have d5 : decide (k = 5) = true := decide_eq_true k5
               rw [if_pos k5]
               have key := fun loc => w_r1 S kids xs tk hx d hfi.kid (by omega) [101, 97, 99, 104, 40] (.inr rfl) gl (by omega) loc
               simp only [d0, d1, d2, d3, d4, d5, e2, splice, go_sem, reduceIte, reduceMul, reduceAdd, reduceSub, reduceEqDiff, reduceLeDiff, reduceLT]
               rw [M_loop]
               simp only [kz74, K74_1, List.length_cons, List.length_nil, Int.cast_ofNat_Int, Int.natCast_zero, go_sem, reduceIte, reduceMul, reduceAdd, reduceSub, reduceEqDiff, reduceLeDiff, reduceLT] at key ⊢
               exact key _
             · have d5 : decide (k = 5) = false := decide_eq_false k5
               rw [if_neg k5]
               have key := fun loc => w_r1 S kids xs tk hx d hfi.kid (by omega) [97, 110, 121, 40] (.inl rfl) gl (by omega) loc
               simp only [d0, d1, d2, d3, d4, d5, e2, splice, go_sem, reduceIte, reduceMul, reduceAdd, reduceSub, reduceEqDiff, reduceLeDiff, reduceLT]
               rw [M_loop]
               simp only [kz74, K74_1, List.length_cons, List.length_nil, Int.cast_ofNat_Int, Int.natCast_zero, go_sem, reduceIte, reduceMul, reduceAdd, reduceSub, reduceEqDiff, reduceLeDiff, reduceLT] at key ⊢
               exact key _
theorem s_rtell_all : ∀ D, S_rtell D
 | 0 => fun f c d _ hfi h => by
   obtain ⟨w, h1, h2⟩ := hfi.b
   cases f with | mk k nm tx kids =>
   have := hfi.may
   omega
 | D + 1 => s_rtell (s_rtell_all D)
end
/-! ### Print -/
def printV (f : Fil) : List UInt8 := if chk f = 0 then tellF f else []
theorem fine1 {f : Fil} (h : okL f) (hc : chk f = 0) : Fine f 1 := ⟨h, 0, by decide, hc⟩
theorem printV_len {f : Fil} (h : okL f) : (printV f).length ≤ 2500000 := by
 unfold printV
 split
 · rename_i hc; exact (fine1 h hc).len
 · exact Nat.zero_le _
def R_print (a : List V) (v : V) : Prop := ∀ (f : Fil) (c : List V), a = [.agg c] → FilR f c → v = .tup [.s (printV f), .i .i64 (chk f : Nat)]
noncomputable def F_print : List V → Option V := pickP 37 R_print
noncomputable def F_rprint : List V → Option V := pickP 41 R_print
theorem o_print : ∀ a v, F_print a = some v → Comp tabx told 37 a v := pickP_tells
theorem o_rprint : ∀ a v, F_rprint a = some v → Comp tabx told 41 a v := pickP_tells
noncomputable def X_print := xs [(23, F_check), (69, F_tell)]
theorem t_print : Tells tabx told X_print := tells_cons o_check (tells_cons pickP_tells tells_nil)
noncomputable def X_rprint := xs [(26, F_rcheck), (74, F_rtell)]
theorem t_rprint : Tells tabx told X_rprint := tells_cons o_rcheck (tells_cons pickP_tells tells_nil)
theorem U37 : type_of% (@M_open _ _ B37.eq_1) := @M_open _ _ B37.eq_1
def kz37 (_ : Nat) : List Nat := []
theorem U41 : type_of% (@M_open _ _ B41.eq_1) := @M_open _ _ B41.eq_1
def kz41 (_ : Nat) : List Nat := []
theorem c_print (f : Fil) (c : List V) (hf : FilR f c) (hok : okL f) : Comp tabx told 37 [.agg c] (.tup [.s (printV f), .i .i64 (chk f : Nat)]) := by
 have hs := FilR.strip f c hf
 refine comp_of (kz := kz37) t_print (fn := af37) rfl (Nat.le_of_ble_eq_true rfl) fun gl => ?_
 show M _ _ (.code B37) _ (St.init gl 4 [.agg (stripL c)] _) (Fin [.tmp 2, .tmp 3] _)
 rw [U37]
 have y1 : X_print 23 [.agg (stripL c)] = some (.i .i64 (chk f : Nat)) := check_eq f _ hs
 have y2 : chk f = 0 → X_print 69 [.agg (stripL c)] = some (.s (tellF f)) := fun h => call_tell (s_tell_all 8) hs (fine1 hok h) (by decide)
 unfold printV
 generalize stripL c = c2 at hs y1 y2
 generalize tellF f = t at *
 generalize chk f = e at *
 cases hs with | mk k nm tx kids xs n tk hn hx =>
 by_cases he : e = 0
 · have y2 := y2 he
   subst he
   have f0 : decide (((0 : Nat) : Int) = 0) = true := by decide
   rw [if_pos rfl]
   simp only [y1, y2, f0, go_sem, reduceIte, reduceMul, reduceAdd, reduceSub, reduceEqDiff, reduceLeDiff, reduceLT]
   rfl
 · have f1 : decide ((e : Int) = 0) = false := decide_eq_false (by omega)
   rw [if_neg he]
   simp only [y1, f1, go_sem, reduceIte, reduceMul, reduceAdd, reduceSub, reduceEqDiff, reduceLeDiff, reduceLT]
theorem c_rprint (f : Fil) (c : List V) (hf : FilR f c) (hok : okL f) : Comp tabx told 41 [.agg c] (.tup [.s (printV f), .i .i64 (chk f : Nat)]) := by
 have hs := FilR.strip f c hf
 refine comp_of (kz := kz41) t_rprint (fn := af41) rfl (Nat.le_of_ble_eq_true rfl) fun gl => ?_
 show M _ _ (.code B41) _ (St.init gl 4 [.agg (stripL c)] _) (Fin [.tmp 2, .tmp 3] _)
 rw [U41]
 have y1 : X_rprint 26 [.agg (stripL c)] = some (.i .i64 (chk f : Nat)) := rcheck_eq f _ hs hok
 have y2 : chk f = 0 → X_rprint 74 [.agg (stripL c)] = some (.s (tellF f)) := fun h => call_rtell (s_rtell_all 8) hs (fine1 hok h) (by decide)
 unfold printV
 generalize stripL c = c2 at hs y1 y2
 generalize tellF f = t at *
 generalize chk f = e at *
 cases hs with | mk k nm tx kids xs n tk hn hx =>
 by_cases he : e = 0
 · have y2 := y2 he
   subst he
   have f0 : decide (((0 : Nat) : Int) = 0) = true := by decide
   rw [if_pos rfl]
   simp only [y1, y2, f0, go_sem, reduceIte, reduceMul, reduceAdd, reduceSub, reduceEqDiff, reduceLeDiff, reduceLT]
   rfl
 · have f1 : decide ((e : Int) = 0) = false := decide_eq_false (by omega)
   rw [if_neg he]
   simp only [y1, f1, go_sem, reduceIte, reduceMul, reduceAdd, reduceSub, reduceEqDiff, reduceLeDiff, reduceLT]
theorem R_print_ok {f : Fil} {c : List V} (hf : FilR f c) : R_print [.agg c] (.tup [.s (printV f), .i .i64 (chk f : Nat)]) := by
 intro f' c' e1 hf'
 simp only [List.cons.injEq, V.agg.injEq, and_true] at e1
 subst e1
 rw [← FilR.uniq f f' c hf hf']
theorem print_eq (f : Fil) (c : List V) (hf : FilR f c) (hok : okL f) : F_print [.agg c] = some (.tup [.s (printV f), .i .i64 (chk f : Nat)]) := by
 obtain ⟨v, e1, r⟩ := pickP_spec (R := R_print) (c_print f c hf hok) (R_print_ok hf)
 rw [r f c rfl hf] at e1
 exact e1
theorem rprint_eq (f : Fil) (c : List V) (hf : FilR f c) (hok : okL f) : F_rprint [.agg c] = some (.tup [.s (printV f), .i .i64 (chk f : Nat)]) := by
 obtain ⟨v, e1, r⟩ := pickP_spec (R := R_print) (c_rprint f c hf hok) (R_print_ok hf)
 rw [r f c rfl hf] at e1
 exact e1
end Go.Proofs.YtpcjhfchpelonaaGreatDoor
set_option linter.unusedSimpArgs false
set_option linter.unusedVariables false
namespace Go.Proofs.YtpcjhfchpelonaaGreatDoor
open Nat (reduceMul reduceAdd reduceSub reduceEqDiff reduceLeDiff reduceLT)
open Ai
def qC (k : Int) (of_ : List UInt8) (c : List V) (by_ : List UInt8) (dn : Bool) (sk fi : Int) : List V := .i .i64 k :: .s of_ :: (c ++ [.s by_, .b dn, .i .i64 sk, .i .i64 fi])
/-! ### light -/
theorem UH7 : type_of% (@Hp_open _ _ B7.eq_1) := @Hp_open _ _ B7.eq_1
def kz7 (_ : Nat) : List Nat := []
def R_light (a : List V) (v : V) : Prop := ∀ (k : Int) (of_ : List UInt8) (f : Fil) (c : List V) (by_ : List UInt8) (dn : Bool) (sk fi : Int), a = [.agg (qC k of_ c by_ dn sk fi)] → FilR f c → v = .b (wgh f 0 (min of_.length 8192 + min by_.length 8192)).1
noncomputable def F_light : List V → Option V := pickP 7 R_light
theorem o_light : ∀ a v, F_light a = some v → Comp tabx told 7 a v := pickP_tells
theorem qC_inj {k k' : Int} {of_ of' : List UInt8} {f f' : Fil} {c c' : List V} {by_ by' : List UInt8} {dn dn' : Bool} {sk sk' fi fi' : Int} (hf : FilR f c) (hf' : FilR f' c') (h : qC k of_ c by_ dn sk fi = qC k' of' c' by' dn' sk' fi') :
  k = k' ∧ of_ = of' ∧ f = f' ∧ c = c' ∧ by_ = by' ∧ dn = dn' ∧ sk = sk' ∧ fi = fi' := by
 unfold qC at h
 simp only [List.cons.injEq, V.i.injEq, V.s.injEq, true_and] at h
 obtain ⟨h1, h2, h3⟩ := h
 have := List.append_inj h3 (by rw [hf.len, hf'.len])
 obtain ⟨h4, h5⟩ := this
 simp only [List.cons.injEq, V.i.injEq, V.s.injEq, V.b.injEq, true_and, and_true] at h5
 subst h4
 exact ⟨h1, h2, FilR.uniq f f' c hf hf', rfl, h5.1, h5.2.1, h5.2.2.1, h5.2.2.2⟩
theorem qC_strip (k : Int) (of_ : List UInt8) (c : List V) (by_ : List UInt8) (dn : Bool) (sk fi : Int) : stripL [.agg (qC k of_ c by_ dn sk fi)] = [.agg (qC k of_ (stripL c) by_ dn sk fi)] := by
 unfold qC
 simp only [stripL, V.strip, stripL_app]
set_option maxRecDepth 100000 in
theorem light_eq (k : Int) (of_ : List UInt8) (f : Fil) (c : List V) (by_ : List UInt8) (dn : Bool) (sk fi : Int) (hf : FilR f c) : F_light [.agg (qC k of_ c by_ dn sk fi)] = some (.b (wgh f 0 (min of_.length 8192 + min by_.length 8192)).1) := by
 have ha : min of_.length 8192 ≤ 8192 := Nat.min_le_right _ _
 have hb : min by_.length 8192 ≤ 8192 := Nat.min_le_right _ _
 have hc : Comp tabx told 7 [.agg (qC k of_ c by_ dn sk fi)] (.b (wgh f 0 (min of_.length 8192 + min by_.length 8192)).1) := by
  have hs := FilR.strip f c hf
  obtain ⟨v, hv, rfl⟩ := comp_ex (Q := fun v => v = .b (wgh f 0 (min of_.length 8192 + min by_.length 8192)).1) (xf := noX) (xh := Y_weigh 0) (kz := kz7) (g := 7) (args := [.agg (qC k of_ c by_ dn sk fi)]) (fn := af7) tells_noX (t_weigh 0) rfl (Nat.le_of_ble_eq_true rfl) (by
   obtain ⟨h', y4, q2, q3⟩ := call_weigh (s_weigh_all 0 52) (d := 0) (w := min of_.length 8192 + min by_.length 8192) (h := ⟨1, [(0, .cells 3 [.i .i64 ((min of_.length 8192 + min by_.length 8192 : Nat) : Int)])], 0, []⟩) hs rfl (by omega) (by decide) (by decide)
   rw [qC_strip]
   show Hp.M _ _ _ (.code B7) _ (St.init gl0 5 [.agg (qC k of_ (stripL c) by_ dn sk fi)] _) (fun ex st => ∃ v, Fin [.tmp 2] v ex st ∧ _)
   rw [UH7]
   generalize stripL c = c2 at hs y4 ⊢
   have m1 : (if (8192 : Int) < (of_.length : Int) then (8192 : Int) else (of_.length : Int)) = ((min of_.length 8192 : Nat) : Int) := by split <;> omega
   have m2 : (if (8192 : Int) < (by_.length : Int) then (8192 : Int) else (by_.length : Int)) = ((min by_.length 8192 : Nat) : Int) := by split <;> omega
   generalize min of_.length 8192 = a at *
   generalize min by_.length 8192 = b at *
   have w1 : wr .i64 ((a : Int) + (b : Int)) = ((a + b : Nat) : Int) := by rw [wr64] <;> omega
   cases hs with | mk k1 nm tx kids xs n tk hn hx =>
   simp only [Int.cast_ofNat_Int] at y4
   simp only [qC, m1, m2, w1, y4, splice, Int.cast_ofNat_Int, go_sem, reduceIte, reduceMul, reduceAdd, reduceSub, reduceEqDiff, reduceLeDiff, reduceLT]
   exact ⟨_, rfl, rfl⟩)
  exact hv
 obtain ⟨v, e1, r⟩ := pickP_spec (R := R_light) hc (by
  intro k' of' f' c' by' dn' sk' fi' e1 hf'
  simp only [List.cons.injEq, V.agg.injEq, and_true] at e1
  obtain ⟨rfl, rfl, rfl, rfl, rfl, rfl, rfl, rfl⟩ := qC_inj hf hf' e1
  rfl)
 rw [r k of_ f c by_ dn sk fi rfl hf] at e1
 exact e1
/-! ### Names -/
def nmQ (l : List UInt8) : Bool := decide (l = []) || namB l
def X_nm := xs [(25, F_Name)]
theorem t_nm : Tells tabx told X_nm := tells_cons o_Name tells_nil
theorem U24 : type_of% (@M_open _ _ B24.eq_1) := @M_open _ _ B24.eq_1
def kz24 (_ : Nat) : List Nat := []
theorem w_nm (l : List UInt8) (gl : Nat → List V) : M X_nm (kz24) (.code B24) [] (St.init gl 4 [.s l] {}) (Fin [.tmp 2] (.b (nmQ l))) := by
 rw [U24]
 have eE := strEq_dec l []
 have xn : X_nm 25 [.s l] = some (.i .i64 (errV (namB l) 22)) := rfl
 have en : decide (errV (namB l) 22 = 0) = namB l := errB (namB l) 22 (by decide)
 unfold nmQ
 cases hl : decide (l = []) <;> rw [hl] at eE <;> simp only [eE, xn, en, go_sem, reduceIte, reduceMul, reduceAdd, reduceSub, reduceEqDiff, reduceLeDiff, reduceLT]
def F_nm (a : List V) : Option V := match a with
 | [.s l] => some (.b (nmQ l))
 | _ => none
theorem o_nm : ∀ a v, F_nm a = some v → Comp tabx told 24 a v := fun a v e => by
 unfold F_nm at e
 split at e
 · cases e; exact comp_of t_nm (fn := af24) rfl (Nat.le_of_ble_eq_true rfl) fun gl => w_nm _ gl
 · cases e
def X_rnm := xs [(50, F_rName)]
theorem t_rnm : Tells tabx told X_rnm := tells_cons o_rName tells_nil
theorem U27 : type_of% (@M_open _ _ B27.eq_1) := @M_open _ _ B27.eq_1
def kz27 (_ : Nat) : List Nat := []
theorem w_rnm (l : List UInt8) (h : l.length ≤ 16384) (gl : Nat → List V) : M X_rnm (kz27) (.code B27) [] (St.init gl 4 [.s l] {}) (Fin [.tmp 2] (.b (nmQ l))) := by
 rw [U27]
 have eE := strEq_dec l []
 have xn : X_rnm 50 [.s l] = some (.i .i64 (errV (namB l) 22)) := by
  have := F_rName1 l h
  rw [← name_eq] at this
  exact this
 have en : decide (errV (namB l) 22 = 0) = namB l := errB (namB l) 22 (by decide)
 unfold nmQ
 cases hl : decide (l = []) <;> rw [hl] at eE <;> simp only [eE, xn, en, go_sem, reduceIte, reduceMul, reduceAdd, reduceSub, reduceEqDiff, reduceLeDiff, reduceLT]
def F_rnm (a : List V) : Option V := match a with
 | [.s l] => if l.length ≤ 16384 then some (.b (nmQ l)) else none
 | _ => none
theorem o_rnm : ∀ a v, F_rnm a = some v → Comp tabx told 27 a v := fun a v e => by
 unfold F_rnm at e
 split at e
 · split at e
   · rename_i h; cases e; exact comp_of t_rnm (fn := af27) rfl (Nat.le_of_ble_eq_true rfl) fun gl => w_rnm _ h gl
   · cases e
 · cases e
/-! ### Check -/
def qok (b1 b2 dn o4 s1 s2 f1 f2 k0 k4 k2 oo : Bool) : Int := bif b1 && (b2 && (!(dn && o4) && (!s1 && (!s2 && (!f1 && (!f2 && (!k0 && (!k4 && (k2 == !oo))))))))) then 0 else 230
def qcode (k : Int) (of_ : List UInt8) (by_ : List UInt8) (dn : Bool) (sk fi : Int) : Int :=
 qok (nmQ by_) (nmQ of_) dn (decide (by_ = [])) (decide (sk < 0)) (decide (1099511627776 < sk)) (decide (fi < 0)) (decide (1099511627776 < fi)) (decide (k < 0)) (decide (4 < k)) (decide (2 ≤ k)) (decide (of_ = []))
def qchk (k : Int) (of_ : List UInt8) (f : Fil) (by_ : List UInt8) (dn : Bool) (sk fi : Int) : Int := if chk f = 0 then qcode k of_ by_ dn sk fi else (chk f : Nat)
noncomputable def X_qc := xs [(23, F_check), (24, F_nm)]
theorem t_qc : Tells tabx told X_qc := tells_cons o_check (tells_cons o_nm tells_nil)
theorem U8 : type_of% (@M_open _ _ B8.eq_1) := @M_open _ _ B8.eq_1
def kz8 (_ : Nat) : List Nat := []
set_option maxRecDepth 100000 in
set_option maxHeartbeats 4000000 in
theorem w_qc (k : Int) (of_ : List UInt8) (f : Fil) (c : List V) (by_ : List UInt8) (dn : Bool) (sk fi : Int) (hf : FilR f c) (gl : Nat → List V) :
  M X_qc (kz8) (.code B8) [] (St.init gl 7 [.agg (qC k of_ c by_ dn sk fi)] {}) (Fin [.tmp 2] (.i .i64 (qchk k of_ f by_ dn sk fi))) := by
 rw [U8]
 have y1 : X_qc 23 [.agg c] = some (.i .i64 (chk f : Nat)) := check_eq f c hf
 have y2 : X_qc 24 [.s by_] = some (.b (nmQ by_)) := rfl
 have y3 : X_qc 24 [.s of_] = some (.b (nmQ of_)) := rfl
 have eB := strEq_dec by_ []
 have eO := strEq_dec of_ []
 have ek : decide (k < 2) = !decide (2 ≤ k) := by
  by_cases h : 2 ≤ k
  · rw [decide_eq_true h, decide_eq_false (by omega)]; rfl
  · rw [decide_eq_false h, decide_eq_true (by omega)]; rfl
 unfold qchk qcode
 cases hf with | mk k1 nm tx kids xs n tk hn hx =>
 generalize chk (.mk k1 nm tx kids) = e at *
 by_cases he : e = 0
 · subst he
   rw [if_pos rfl]
   have f0 : decide (((0 : Nat) : Int) = 0) = true := by decide
   cases hb1 : nmQ by_ with
   | false => rw [hb1] at y2; simp only [qC, y1, f0, qok, y2, List.append_nil, go_sem, reduceIte, reduceMul, reduceAdd, reduceSub, reduceEqDiff, reduceLeDiff, reduceLT]
   | true =>
   rw [hb1] at y2
   cases hb2 : nmQ of_ with
   | false => rw [hb2] at y3; simp only [qC, y1, f0, qok, y2, y3, List.append_nil, go_sem, reduceIte, reduceMul, reduceAdd, reduceSub, reduceEqDiff, reduceLeDiff, reduceLT]
   | true =>
   rw [hb2] at y3
   cases dn
   · skip
     cases hs1 : decide (sk < 0) with
     | true => simp only [qC, y1, f0, qok, y2, y3, hs1, List.append_nil, go_sem, reduceIte, reduceMul, reduceAdd, reduceSub, reduceEqDiff, reduceLeDiff, reduceLT]
     | false =>
     cases hs2 : decide (1099511627776 < sk) with
     | true => simp only [qC, y1, f0, qok, y2, y3, hs1, hs2, List.append_nil, go_sem, reduceIte, reduceMul, reduceAdd, reduceSub, reduceEqDiff, reduceLeDiff, reduceLT]
     | false =>
     cases hf1 : decide (fi < 0) with
     | true => simp only [qC, y1, f0, qok, y2, y3, hs1, hs2, hf1, List.append_nil, go_sem, reduceIte, reduceMul, reduceAdd, reduceSub, reduceEqDiff, reduceLeDiff, reduceLT]
     | false =>
     cases hf2 : decide (1099511627776 < fi) with
     | true => simp only [qC, y1, f0, qok, y2, y3, hs1, hs2, hf1, hf2, List.append_nil, go_sem, reduceIte, reduceMul, reduceAdd, reduceSub, reduceEqDiff, reduceLeDiff, reduceLT]
     | false =>
     cases hk0 : decide (k < 0) with
     | true => simp only [qC, y1, f0, qok, y2, y3, hs1, hs2, hf1, hf2, hk0, List.append_nil, go_sem, reduceIte, reduceMul, reduceAdd, reduceSub, reduceEqDiff, reduceLeDiff, reduceLT]
     | false =>
     cases hk4 : decide (4 < k) with
     | true => simp only [qC, y1, f0, qok, y2, y3, hs1, hs2, hf1, hf2, hk0, hk4, List.append_nil, go_sem, reduceIte, reduceMul, reduceAdd, reduceSub, reduceEqDiff, reduceLeDiff, reduceLT]
     | false =>
     cases hk2 : decide (2 ≤ k) <;> cases hO : decide (of_ = []) <;> rw [hO] at eO <;> rw [hk2] at ek <;> simp only [qC, y1, f0, qok, y2, y3, hs1, hs2, hf1, hf2, hk0, hk4, hk2, ek, eO, List.append_nil, go_sem, reduceIte, reduceMul, reduceAdd, reduceSub, reduceEqDiff, reduceLeDiff, reduceLT]
   · skip
     cases hB : decide (by_ = []) with
     | true => rw [hB] at eB; simp only [qC, y1, f0, qok, y2, y3, eB, List.append_nil, go_sem, reduceIte, reduceMul, reduceAdd, reduceSub, reduceEqDiff, reduceLeDiff, reduceLT]
     | false =>
     rw [hB] at eB
     cases hs1 : decide (sk < 0) with
     | true => simp only [qC, y1, f0, qok, y2, y3, eB, hs1, List.append_nil, go_sem, reduceIte, reduceMul, reduceAdd, reduceSub, reduceEqDiff, reduceLeDiff, reduceLT]
     | false =>
     cases hs2 : decide (1099511627776 < sk) with
     | true => simp only [qC, y1, f0, qok, y2, y3, eB, hs1, hs2, List.append_nil, go_sem, reduceIte, reduceMul, reduceAdd, reduceSub, reduceEqDiff, reduceLeDiff, reduceLT]
     | false =>
     cases hf1 : decide (fi < 0) with
     | true => simp only [qC, y1, f0, qok, y2, y3, eB, hs1, hs2, hf1, List.append_nil, go_sem, reduceIte, reduceMul, reduceAdd, reduceSub, reduceEqDiff, reduceLeDiff, reduceLT]
     | false =>
     cases hf2 : decide (1099511627776 < fi) with
     | true => simp only [qC, y1, f0, qok, y2, y3, eB, hs1, hs2, hf1, hf2, List.append_nil, go_sem, reduceIte, reduceMul, reduceAdd, reduceSub, reduceEqDiff, reduceLeDiff, reduceLT]
     | false =>
     cases hk0 : decide (k < 0) with
     | true => simp only [qC, y1, f0, qok, y2, y3, eB, hs1, hs2, hf1, hf2, hk0, List.append_nil, go_sem, reduceIte, reduceMul, reduceAdd, reduceSub, reduceEqDiff, reduceLeDiff, reduceLT]
     | false =>
     cases hk4 : decide (4 < k) with
     | true => simp only [qC, y1, f0, qok, y2, y3, eB, hs1, hs2, hf1, hf2, hk0, hk4, List.append_nil, go_sem, reduceIte, reduceMul, reduceAdd, reduceSub, reduceEqDiff, reduceLeDiff, reduceLT]
     | false =>
     cases hk2 : decide (2 ≤ k) <;> cases hO : decide (of_ = []) <;> rw [hO] at eO <;> rw [hk2] at ek <;> simp only [qC, y1, f0, qok, y2, y3, eB, hs1, hs2, hf1, hf2, hk0, hk4, hk2, ek, eO, List.append_nil, go_sem, reduceIte, reduceMul, reduceAdd, reduceSub, reduceEqDiff, reduceLeDiff, reduceLT]
 · rw [if_neg he]
   have f1 : decide ((e : Int) = 0) = false := decide_eq_false (by omega)
   simp only [qC, y1, f1, go_sem, reduceIte, reduceMul, reduceAdd, reduceSub, reduceEqDiff, reduceLeDiff, reduceLT]
noncomputable def X_rqc := xs [(26, F_rcheck), (27, F_rnm)]
theorem t_rqc : Tells tabx told X_rqc := tells_cons o_rcheck (tells_cons o_rnm tells_nil)
theorem U9 : type_of% (@M_open _ _ B9.eq_1) := @M_open _ _ B9.eq_1
def kz9 (_ : Nat) : List Nat := []
set_option maxRecDepth 100000 in
set_option maxHeartbeats 4000000 in
theorem w_rqc (k : Int) (of_ : List UInt8) (f : Fil) (c : List V) (by_ : List UInt8) (dn : Bool) (sk fi : Int) (hf : FilR f c) (hok : okL f) (ho : of_.length ≤ 16384) (hbl : by_.length ≤ 16384) (gl : Nat → List V) :
  M X_rqc (kz9) (.code B9) [] (St.init gl 7 [.agg (qC k of_ c by_ dn sk fi)] {}) (Fin [.tmp 2] (.i .i64 (qchk k of_ f by_ dn sk fi))) := by
 rw [U9]
 have y1 : X_rqc 26 [.agg c] = some (.i .i64 (chk f : Nat)) := rcheck_eq f c hf hok
 have y2 : X_rqc 27 [.s by_] = some (.b (nmQ by_)) := if_pos hbl
 have y3 : X_rqc 27 [.s of_] = some (.b (nmQ of_)) := if_pos ho
 have eB := strEq_dec by_ []
 have eO := strEq_dec of_ []
 have ek : decide (1 < k) = decide (2 ≤ k) := decide_eq_decide.2 (by omega)
 have e0 : decide (0 ≤ k) = !decide (k < 0) := by
  by_cases h : k < 0
  · rw [decide_eq_true h, decide_eq_false (by omega)]; rfl
  · rw [decide_eq_false h, decide_eq_true (by omega)]; rfl
 have e4 : decide (k ≤ 4) = !decide (4 < k) := by
  by_cases h : 4 < k
  · rw [decide_eq_true h, decide_eq_false (by omega)]; rfl
  · rw [decide_eq_false h, decide_eq_true (by omega)]; rfl
 unfold qchk qcode
 cases hf with | mk k1 nm tx kids xs n tk hn hx =>
 generalize chk (.mk k1 nm tx kids) = e at *
 by_cases he : e = 0
 · subst he
   rw [if_pos rfl]
   have f0 : decide (((0 : Nat) : Int) = 0) = true := by decide
   cases hk0 : decide (k < 0) with
   | true => rw [hk0] at e0; simp only [qC, y1, f0, qok, e0, hk0, List.append_nil, go_sem, reduceIte, reduceMul, reduceAdd, reduceSub, reduceEqDiff, reduceLeDiff, reduceLT]
   | false =>
   rw [hk0] at e0
   cases hk4 : decide (4 < k) with
   | true => rw [hk4] at e4; simp only [qC, y1, f0, qok, e0, e4, hk0, hk4, List.append_nil, go_sem, reduceIte, reduceMul, reduceAdd, reduceSub, reduceEqDiff, reduceLeDiff, reduceLT]
   | false =>
   rw [hk4] at e4
   cases hb2 : nmQ of_ with
   | false => rw [hb2] at y3; simp only [qC, y1, f0, qok, e0, e4, hk0, hk4, y3, List.append_nil, go_sem, reduceIte, reduceMul, reduceAdd, reduceSub, reduceEqDiff, reduceLeDiff, reduceLT]
   | true =>
   rw [hb2] at y3
   cases hb1 : nmQ by_ with
   | false => rw [hb1] at y2; simp only [qC, y1, f0, qok, e0, e4, hk0, hk4, y2, y3, List.append_nil, go_sem, reduceIte, reduceMul, reduceAdd, reduceSub, reduceEqDiff, reduceLeDiff, reduceLT]
   | true =>
   rw [hb1] at y2
   cases hk2 : decide (2 ≤ k) <;> cases hO : decide (of_ = []) <;> rw [hO] at eO <;> rw [hk2] at ek
   · simp only [qC, y1, f0, qok, e0, e4, hk0, hk4, y2, y3, hk2, ek, eO, List.append_nil, go_sem, reduceIte, reduceMul, reduceAdd, reduceSub, reduceEqDiff, reduceLeDiff, reduceLT]
   · cases hB : decide (by_ = [])
     · rw [hB] at eB
       cases hs1 : decide (sk < 0) with
       | true => simp only [qC, y1, f0, qok, e0, e4, hk0, hk4, y2, y3, hk2, ek, eO, eB, hs1, List.append_nil, go_sem, reduceIte, reduceMul, reduceAdd, reduceSub, reduceEqDiff, reduceLeDiff, reduceLT]
       | false =>
       cases hs2 : decide (1099511627776 < sk) with
       | true => simp only [qC, y1, f0, qok, e0, e4, hk0, hk4, y2, y3, hk2, ek, eO, eB, hs1, hs2, List.append_nil, go_sem, reduceIte, reduceMul, reduceAdd, reduceSub, reduceEqDiff, reduceLeDiff, reduceLT]
       | false =>
       cases hf1 : decide (fi < 0) with
       | true => simp only [qC, y1, f0, qok, e0, e4, hk0, hk4, y2, y3, hk2, ek, eO, eB, hs1, hs2, hf1, List.append_nil, go_sem, reduceIte, reduceMul, reduceAdd, reduceSub, reduceEqDiff, reduceLeDiff, reduceLT]
       | false =>
       cases hf2 : decide (1099511627776 < fi) with
       | true => simp only [qC, y1, f0, qok, e0, e4, hk0, hk4, y2, y3, hk2, ek, eO, eB, hs1, hs2, hf1, hf2, List.append_nil, go_sem, reduceIte, reduceMul, reduceAdd, reduceSub, reduceEqDiff, reduceLeDiff, reduceLT]
       | false =>
       simp only [qC, y1, f0, qok, e0, e4, hk0, hk4, y2, y3, hk2, ek, eO, eB, hs1, hs2, hf1, hf2, List.append_nil, go_sem, reduceIte, reduceMul, reduceAdd, reduceSub, reduceEqDiff, reduceLeDiff, reduceLT]
     · rw [hB] at eB
       cases dn
       · skip
         cases hs1 : decide (sk < 0) with
         | true => simp only [qC, y1, f0, qok, e0, e4, hk0, hk4, y2, y3, hk2, ek, eO, eB, hs1, List.append_nil, go_sem, reduceIte, reduceMul, reduceAdd, reduceSub, reduceEqDiff, reduceLeDiff, reduceLT]
         | false =>
         cases hs2 : decide (1099511627776 < sk) with
         | true => simp only [qC, y1, f0, qok, e0, e4, hk0, hk4, y2, y3, hk2, ek, eO, eB, hs1, hs2, List.append_nil, go_sem, reduceIte, reduceMul, reduceAdd, reduceSub, reduceEqDiff, reduceLeDiff, reduceLT]
         | false =>
         cases hf1 : decide (fi < 0) with
         | true => simp only [qC, y1, f0, qok, e0, e4, hk0, hk4, y2, y3, hk2, ek, eO, eB, hs1, hs2, hf1, List.append_nil, go_sem, reduceIte, reduceMul, reduceAdd, reduceSub, reduceEqDiff, reduceLeDiff, reduceLT]
         | false =>
         cases hf2 : decide (1099511627776 < fi) with
         | true => simp only [qC, y1, f0, qok, e0, e4, hk0, hk4, y2, y3, hk2, ek, eO, eB, hs1, hs2, hf1, hf2, List.append_nil, go_sem, reduceIte, reduceMul, reduceAdd, reduceSub, reduceEqDiff, reduceLeDiff, reduceLT]
         | false =>
         simp only [qC, y1, f0, qok, e0, e4, hk0, hk4, y2, y3, hk2, ek, eO, eB, hs1, hs2, hf1, hf2, List.append_nil, go_sem, reduceIte, reduceMul, reduceAdd, reduceSub, reduceEqDiff, reduceLeDiff, reduceLT]
       · simp only [qC, y1, f0, qok, e0, e4, hk0, hk4, y2, y3, hk2, ek, eO, eB, List.append_nil, go_sem, reduceIte, reduceMul, reduceAdd, reduceSub, reduceEqDiff, reduceLeDiff, reduceLT]
   · cases hB : decide (by_ = [])
     · rw [hB] at eB
       cases hs1 : decide (sk < 0) with
       | true => simp only [qC, y1, f0, qok, e0, e4, hk0, hk4, y2, y3, hk2, ek, eO, eB, hs1, List.append_nil, go_sem, reduceIte, reduceMul, reduceAdd, reduceSub, reduceEqDiff, reduceLeDiff, reduceLT]
       | false =>
       cases hs2 : decide (1099511627776 < sk) with
       | true => simp only [qC, y1, f0, qok, e0, e4, hk0, hk4, y2, y3, hk2, ek, eO, eB, hs1, hs2, List.append_nil, go_sem, reduceIte, reduceMul, reduceAdd, reduceSub, reduceEqDiff, reduceLeDiff, reduceLT]
       | false =>
       cases hf1 : decide (fi < 0) with
       | true => simp only [qC, y1, f0, qok, e0, e4, hk0, hk4, y2, y3, hk2, ek, eO, eB, hs1, hs2, hf1, List.append_nil, go_sem, reduceIte, reduceMul, reduceAdd, reduceSub, reduceEqDiff, reduceLeDiff, reduceLT]
       | false =>
       cases hf2 : decide (1099511627776 < fi) with
       | true => simp only [qC, y1, f0, qok, e0, e4, hk0, hk4, y2, y3, hk2, ek, eO, eB, hs1, hs2, hf1, hf2, List.append_nil, go_sem, reduceIte, reduceMul, reduceAdd, reduceSub, reduceEqDiff, reduceLeDiff, reduceLT]
       | false =>
       simp only [qC, y1, f0, qok, e0, e4, hk0, hk4, y2, y3, hk2, ek, eO, eB, hs1, hs2, hf1, hf2, List.append_nil, go_sem, reduceIte, reduceMul, reduceAdd, reduceSub, reduceEqDiff, reduceLeDiff, reduceLT]
     · rw [hB] at eB
       cases dn
       · skip
         cases hs1 : decide (sk < 0) with
         | true => simp only [qC, y1, f0, qok, e0, e4, hk0, hk4, y2, y3, hk2, ek, eO, eB, hs1, List.append_nil, go_sem, reduceIte, reduceMul, reduceAdd, reduceSub, reduceEqDiff, reduceLeDiff, reduceLT]
         | false =>
         cases hs2 : decide (1099511627776 < sk) with
         | true => simp only [qC, y1, f0, qok, e0, e4, hk0, hk4, y2, y3, hk2, ek, eO, eB, hs1, hs2, List.append_nil, go_sem, reduceIte, reduceMul, reduceAdd, reduceSub, reduceEqDiff, reduceLeDiff, reduceLT]
         | false =>
         cases hf1 : decide (fi < 0) with
         | true => simp only [qC, y1, f0, qok, e0, e4, hk0, hk4, y2, y3, hk2, ek, eO, eB, hs1, hs2, hf1, List.append_nil, go_sem, reduceIte, reduceMul, reduceAdd, reduceSub, reduceEqDiff, reduceLeDiff, reduceLT]
         | false =>
         cases hf2 : decide (1099511627776 < fi) with
         | true => simp only [qC, y1, f0, qok, e0, e4, hk0, hk4, y2, y3, hk2, ek, eO, eB, hs1, hs2, hf1, hf2, List.append_nil, go_sem, reduceIte, reduceMul, reduceAdd, reduceSub, reduceEqDiff, reduceLeDiff, reduceLT]
         | false =>
         simp only [qC, y1, f0, qok, e0, e4, hk0, hk4, y2, y3, hk2, ek, eO, eB, hs1, hs2, hf1, hf2, List.append_nil, go_sem, reduceIte, reduceMul, reduceAdd, reduceSub, reduceEqDiff, reduceLeDiff, reduceLT]
       · simp only [qC, y1, f0, qok, e0, e4, hk0, hk4, y2, y3, hk2, ek, eO, eB, List.append_nil, go_sem, reduceIte, reduceMul, reduceAdd, reduceSub, reduceEqDiff, reduceLeDiff, reduceLT]
   · simp only [qC, y1, f0, qok, e0, e4, hk0, hk4, y2, y3, hk2, ek, eO, List.append_nil, go_sem, reduceIte, reduceMul, reduceAdd, reduceSub, reduceEqDiff, reduceLeDiff, reduceLT]
 · rw [if_neg he]
   have f1 : decide ((e : Int) = 0) = false := decide_eq_false (by omega)
   simp only [qC, y1, f1, go_sem, reduceIte, reduceMul, reduceAdd, reduceSub, reduceEqDiff, reduceLeDiff, reduceLT]
end Go.Proofs.YtpcjhfchpelonaaGreatDoor
