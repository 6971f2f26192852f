/- The parts, with the rune between each two, are the text; the law. -/
import Derived.Test.YtkibkodlbjhjfaaTx4
import Derived.SizedLaws
import Derived.Test.YtkibkodlbjhjfaaAiTy
set_option linter.unusedSimpArgs false
set_option linter.unusedVariables false
namespace Go.Proofs.Ytkibkodlbjhjfaa
open Ai
theorem joinTail_cons (sep y : List UInt8) (r : List (List UInt8)) : Lib.joinTail sep (y :: r) = sep ++ (y ++ Lib.joinTail sep r) := by simp [Lib.joinTail]
theorem join_prt (c : UInt8) (hc : c.toNat < 128) (l : List UInt8) : ∀ acc, Lib.join (prt c.toNat acc l) [c] = acc ++ l := by
  induction l using rune_ind with
  | h0 => intro acc; rw [prt_nil, Lib.join_one]; simp
  | h1 a r ih =>
    intro acc
    rw [prt_cons]
    split
    · rename_i h
      obtain ⟨h1, h2⟩ := dec_low (a := a) (r := r) (by omega)
      have e : a = c := by
        apply UInt8.toNat_inj.1
        rw [h2] at h
        simp only at h
        omega
      have := ih []
      rw [h2] at this ⊢
      simp only [List.drop_succ_cons, List.drop_zero, List.nil_append] at this ⊢
      rw [Lib.join_cons]
      have hn := prt_ne c.toNat r []
      cases hq : prt c.toNat [] r with
      | nil => rw [hq] at hn; simp at hn
      | cons q qs =>
        rw [hq, Lib.join_cons] at this
        rw [joinTail_cons, this, e]
        rfl
    · rw [ih, List.append_assoc, List.take_append_drop]
theorem joinV1 (ps : List (List UInt8)) (sep : List UInt8) (t : Tk) (h1 : ps.length ≤ 140737488355328) (h2 : (Lib.join ps sep).length ≤ 140737488355328) : joinV [.sl (ps.map V.s) ps.length t, .s sep] = some (.s (Lib.join ps sep)) := by
  simp only [joinV, strsOf_map, List.length_map, nat_beq, nat_ble, h1, h2, decide_true, Bool.and_self, cond_true]
theorem o_join : ∀ a v, joinV a = some v → Comp tabx told 27 a v := fun a v e => comp_prim e

def X_joined := xs [(11, F_awake), (16, F_Parts), (27, joinV)]
theorem t_TextJoined : Tells tabx told X_joined := tells_cons o_awake (tells_cons o_Parts (tells_cons o_join tells_nil))
theorem U9 {xf : FuncId → List V → Option V} {kz : Nat → List Nat} {k : List Fr} {st : St} {Q : AEx → St → Prop} : M xf kz (.code B9) k st Q = M xf kz (.code (.seq (.reg [⟨some 4, .mov (.k (.b false)), none⟩])
  (.seq (.seq (.reg [⟨some 5, .mov (.t 0), none⟩,
      ⟨some 6, .len .str (.t 5), none⟩,
      ⟨some 7, .bin .gtr (.t 6) (.k (.i .i64 16384)), none⟩])
   (.cond (.t 7)
    (.seq (.reg [⟨some 8, .call true 11 [], none⟩,
       ⟨some 4, .mov (.t 8), none⟩])
    .ret)
    .skip))
  (.seq (.reg [⟨some 9, .mov (.t 1), none⟩,
     ⟨some 10, .bin .rem (.t 9) (.k (.i .u8 128)), none⟩,
     ⟨some 1, .mov (.t 10), none⟩])
  (.seq (.reg [⟨some 11, .mov (.t 0), none⟩,
     ⟨some 12, .mov (.t 1), none⟩,
     ⟨some 13, .conv (.int .i32) (.t 12), none⟩,
     ⟨some 14, .call true 16 [(.t 11), (.t 13)], none⟩,
     ⟨some 15, .mov (.t 1), none⟩,
     ⟨some 16, .bslice false 5 1 1 [(.i .u8 0)] [(0, (.t 15))], none⟩,
     ⟨some 17, .conv .toStr (.t 16), none⟩,
     ⟨some 18, .call true 27 [(.t 14), (.t 17)], none⟩,
     ⟨some 19, .mov (.t 0), none⟩,
     ⟨some 20, .bin .eql (.t 18) (.t 19), none⟩,
     ⟨some 21, .mov (.t 20), none⟩,
     ⟨some 22, .call true 11 [], some (21, true)⟩,
     ⟨some 23, .pick (.t 21) (.t 22) (.k (.b false)), none⟩,
     ⟨some 4, .mov (.t 23), none⟩])
  .ret))))) k st Q := rfl
def kz9 (_ : Nat) : List Nat := []
theorem w_TextJoined (s : List UInt8) (hs : s.length ≤ reachBytes) (b : Int) (hb : (Lit.int .u8 b).wf = true) (gl : Nat → List V) : M X_joined (kz9) (.code B9) [] (St.init gl 5 [.s s, .i .u8 b] {}) (Fin [.tmp 4] (.b true)) := by
  rw [U9]
  simp only [go_sem, ne_eq, not_false_eq_true, reduceIte, Nat.reduceMul, Nat.reduceAdd, Nat.reduceSub, Nat.reduceEqDiff, Nat.reduceLeDiff]
  refine B_split _ _ _ ?_ ?_ <;> intro h <;> simp only [h, X_joined, F_awake1, go_sem, ne_eq, not_false_eq_true, reduceIte, Nat.reduceMul, Nat.reduceAdd, Nat.reduceSub, Nat.reduceEqDiff, Nat.reduceLeDiff]
  have hl : s.length ≤ 16384 := by simp only [decide_eq_false_iff_not] at h; omega
  have h1 : 0 ≤ b ∧ b ≤ 255 := by simpa [Lit.wf, IntKind.min, IntKind.max, IntKind.signed, IntKind.bits] using hb
  obtain ⟨n, rfl⟩ : ∃ n : Nat, b = n := ⟨b.toNat, by omega⟩
  have e0 : ¬ ((128 : Int) = 0) := by decide
  have e1 : (n : Int).tmod 128 = ((n % 128 : Nat) : Int) := by rw [Int.tmod_eq_emod_of_nonneg (by omega)]; omega
  have e2 : wr .i32 ((n % 128 : Nat) : Int) = ((n % 128 : Nat) : Int) := by rw [wr32] <;> omega
  have e3 : ((n % 128 : Nat) : Int).toNat = n % 128 := by omega
  have e4 : (UInt8.ofNat (n % 128)).toNat = n % 128 := by simp; omega
  have hj := join_prt (UInt8.ofNat (n % 128)) (by omega) s []
  rw [e4] at hj
  simp only [List.nil_append] at hj
  have hp : (prt ((n % 128 : Nat) : Int) [] s).length ≤ 140737488355328 := by have := prt_len ((n % 128 : Nat) : Int) s []; omega
  have hv := joinV1 (prt ((n % 128 : Nat) : Int) [] s) [UInt8.ofNat (n % 128)] .no hp (by rw [hj]; omega)
  rw [hj] at hv
  simp only [e0, e1, e2, e3, F_Parts1 s hl, bytesOf?, hv, F_awake1, strEq_self, go_sem, ne_eq, not_false_eq_true, reduceIte, Nat.reduceMul, Nat.reduceAdd, Nat.reduceSub, Nat.reduceEqDiff, Nat.reduceLeDiff]
end Go.Proofs.Ytkibkodlbjhjfaa
