/- utf8.AppendRune; strings.Builder: WriteRune. -/
import Derived.Test.YtbhclhgljnoioaaDoorLg3
set_option linter.unusedSimpArgs false
set_option linter.unusedVariables false
namespace Go.Proofs.YtbhclhgljnoioaaDoor
open Ai
theorem UH83 {xf : FuncId → List V → Option V} {xh : FuncId → List V → H → Option (V × H)} {kz : Nat → List Nat} {k : List Fr} {st : St} {Q : AEx → St → Prop} : Hp.M xf xh kz (.code B83) k st Q = Hp.M xf xh kz (.code (.seq (.reg [⟨some 4, .movnil 5, none⟩])
  (.seq (.reg [⟨some 6, .mov (.t 1), none⟩,
     ⟨some 7, .conv (.int .u32) (.t 6), none⟩,
     ⟨some 5, .mov (.t 7), none⟩])
  (.blk 0 (.seq (.reg [⟨some 12, .mov (.t 5), none⟩,
      ⟨some 13, .bin .leq (.t 12) (.k (.i .u32 2047)), none⟩,
      ⟨some 11, .mov (.t 13), none⟩])
   (.cond (.t 11)
    (.seq (.reg [⟨some 14, .mov (.t 0), none⟩,
       ⟨some 15, .mov (.t 1), none⟩,
       ⟨some 16, .bin .shr (.t 15) (.k (.i .u64 6)), none⟩,
       ⟨some 17, .conv (.int .u8) (.t 16), none⟩,
       ⟨some 18, .bin .or (.k (.i .u8 192)) (.t 17), none⟩,
       ⟨some 19, .mov (.t 1), none⟩,
       ⟨some 20, .conv (.int .u8) (.t 19), none⟩,
       ⟨some 21, .bin .and (.t 20) (.k (.i .u8 63)), none⟩,
       ⟨some 22, .bin .or (.k (.i .u8 128)) (.t 21), none⟩,
       ⟨some 23, .bslice false 5 1 2 [(.i .u8 0)] [(0, (.t 18)), (1, (.t 22))], none⟩,
       ⟨some 24, .app 5 1 (.t 14) (.t 23), none⟩,
       ⟨some 4, .mov (.t 24), none⟩])
    .ret)
    (.seq (.seq (.reg [⟨some 26, .mov (.t 5), none⟩,
        ⟨some 27, .bin .lss (.t 26) (.k (.i .u32 55296)), none⟩,
        ⟨some 25, .mov (.t 27), none⟩])
     (.cond (.t 25)
      .skip
      (.reg [⟨some 28, .mov (.t 5), none⟩,
        ⟨some 29, .bin .lss (.k (.i .u32 57343)) (.t 28), none⟩,
        ⟨some 30, .mov (.t 29), none⟩,
        ⟨some 31, .mov (.t 5), some (30, true)⟩,
        ⟨some 32, .bin .leq (.t 31) (.k (.i .u32 65535)), some (30, true)⟩,
        ⟨some 33, .pick (.t 30) (.t 32) (.k (.b false)), none⟩,
        ⟨some 25, .mov (.t 33), none⟩])))
    (.cond (.t 25)
     (.seq (.reg [⟨some 34, .mov (.t 0), none⟩,
        ⟨some 35, .mov (.t 1), none⟩,
        ⟨some 36, .bin .shr (.t 35) (.k (.i .u64 12)), none⟩,
        ⟨some 37, .conv (.int .u8) (.t 36), none⟩,
        ⟨some 38, .bin .or (.k (.i .u8 224)) (.t 37), none⟩,
        ⟨some 39, .mov (.t 1), none⟩,
        ⟨some 40, .bin .shr (.t 39) (.k (.i .u64 6)), none⟩,
        ⟨some 41, .conv (.int .u8) (.t 40), none⟩,
        ⟨some 42, .bin .and (.t 41) (.k (.i .u8 63)), none⟩,
        ⟨some 43, .bin .or (.k (.i .u8 128)) (.t 42), none⟩,
        ⟨some 44, .mov (.t 1), none⟩,
        ⟨some 45, .conv (.int .u8) (.t 44), none⟩,
        ⟨some 46, .bin .and (.t 45) (.k (.i .u8 63)), none⟩,
        ⟨some 47, .bin .or (.k (.i .u8 128)) (.t 46), none⟩,
        ⟨some 48, .bslice false 5 1 3 [(.i .u8 0)] [(0, (.t 38)), (1, (.t 43)), (2, (.t 47))], none⟩,
        ⟨some 49, .app 5 1 (.t 34) (.t 48), none⟩,
        ⟨some 4, .mov (.t 49), none⟩])
     .ret)
     (.seq (.reg [⟨some 51, .mov (.t 5), none⟩,
        ⟨some 52, .bin .gtr (.t 51) (.k (.i .u32 65535)), none⟩,
        ⟨some 53, .mov (.t 52), none⟩,
        ⟨some 54, .mov (.t 5), some (53, true)⟩,
        ⟨some 55, .bin .leq (.t 54) (.k (.i .u32 1114111)), some (53, true)⟩,
        ⟨some 56, .pick (.t 53) (.t 55) (.k (.b false)), none⟩,
        ⟨some 50, .mov (.t 56), none⟩])
     (.cond (.t 50)
      (.seq (.reg [⟨some 57, .mov (.t 0), none⟩,
         ⟨some 58, .mov (.t 1), none⟩,
         ⟨some 59, .bin .shr (.t 58) (.k (.i .u64 18)), none⟩,
         ⟨some 60, .conv (.int .u8) (.t 59), none⟩,
         ⟨some 61, .bin .or (.k (.i .u8 240)) (.t 60), none⟩,
         ⟨some 62, .mov (.t 1), none⟩,
         ⟨some 63, .bin .shr (.t 62) (.k (.i .u64 12)), none⟩,
         ⟨some 64, .conv (.int .u8) (.t 63), none⟩,
         ⟨some 65, .bin .and (.t 64) (.k (.i .u8 63)), none⟩,
         ⟨some 66, .bin .or (.k (.i .u8 128)) (.t 65), none⟩,
         ⟨some 67, .mov (.t 1), none⟩,
         ⟨some 68, .bin .shr (.t 67) (.k (.i .u64 6)), none⟩,
         ⟨some 69, .conv (.int .u8) (.t 68), none⟩,
         ⟨some 70, .bin .and (.t 69) (.k (.i .u8 63)), none⟩,
         ⟨some 71, .bin .or (.k (.i .u8 128)) (.t 70), none⟩,
         ⟨some 72, .mov (.t 1), none⟩,
         ⟨some 73, .conv (.int .u8) (.t 72), none⟩,
         ⟨some 74, .bin .and (.t 73) (.k (.i .u8 63)), none⟩,
         ⟨some 75, .bin .or (.k (.i .u8 128)) (.t 74), none⟩,
         ⟨some 76, .bslice false 5 1 4 [(.i .u8 0)] [(0, (.t 61)), (1, (.t 66)), (2, (.t 71)), (3, (.t 75))], none⟩,
         ⟨some 77, .app 5 1 (.t 57) (.t 76), none⟩,
         ⟨some 4, .mov (.t 77), none⟩])
      .ret)
      (.seq (.reg [⟨some 8, .mov (.t 0), none⟩,
         ⟨some 9, .bslice false 5 1 3 [(.i .u8 0)] [(0, (.k (.i .u8 239))), (1, (.k (.i .u8 191))), (2, (.k (.i .u8 189)))], none⟩,
         ⟨some 10, .app 5 1 (.t 8) (.t 9), none⟩,
         ⟨some 4, .mov (.t 10), none⟩])
      .ret))))))))))) k st Q := rfl
def kz83 (_ : Nat) : List Nat := []
theorem w_NA_own (nx : Nat) (obs : List (Nat × Ai.Obj)) (nt : Nat) (tips : List (Nat × (Nat × TypeId))) (xs : List V) (n t c : Nat) (hx : xs.length = n) (hm : n + 4 ≤ most) (ht : al tips t = some (n, 5)) (hne : ¬ nt = t) (ho : oks c) (hc : 128 ≤ c) (gl : Nat → List V) :
    Hp.M noX noY (kz83) (.code B83) [] (St.init gl 7 [.sl xs n (.own t), .i .i32 c] ⟨nx, obs, nt, tips⟩)
      (Hp.FinI [.tmp 4] (.sl (xs ++ (enc c).map byteV) (n + (enc c).length) (.own t)) ⟨nx, obs, nt + 1, (nt, (0, 5)) :: alSet tips t (n + (enc c).length, 5)⟩) := by
  rw [UH83]
  have hc2 : c ≤ 1114111 := by unfold oks at ho; omega
  have w0 : wr .u32 (c : Int) = (c : Int) := wru32 (by omega)
  have d1 : decide ((c : Int) ≤ 2047) = decide (c < 2048) := decide_eq_decide.2 (by omega)
  have r0 : c % 256 % 64 = c % 64 := by omega
  have r1 : c / 64 % 256 % 64 = c / 64 % 64 := by omega
  have r2 : c / 4096 % 256 % 64 = c / 4096 % 64 := by omega
  have a0 : c % 256 < 256 := Nat.mod_lt _ (by decide)
  have a1 : c / 64 % 256 < 256 := Nat.mod_lt _ (by decide)
  have a2 : c / 4096 % 256 < 256 := Nat.mod_lt _ (by decide)
  have m0 : c % 64 < 64 := Nat.mod_lt _ (by decide)
  have m1 : c / 64 % 64 < 64 := Nat.mod_lt _ (by decide)
  have m2 : c / 4096 % 64 < 64 := Nat.mod_lt _ (by decide)
  by_cases k2 : c < 2048
  · have e := enc2 hc k2
    have l : (enc c).length = 2 := by have := congrArg List.length e; simpa using this
    have n2 : n + 2 ≤ most := by omega
    have f1 : decide (c < 2048) = true := by simpa using k2
    have q0 : c / 64 % 256 = c / 64 := by omega
    have q1 : c / 64 < 32 := by omega
    rw [e, l]
    simp only [w0, d1, f1, shf6, wru8, q0, q1, a0, r0, m0, hx, n2, ht, hne, go_sem, ne_eq, not_false_eq_true, reduceIte, Nat.reduceMul, Nat.reduceAdd, Nat.reduceSub, Nat.reduceEqDiff, Nat.reduceLeDiff, Nat.reduceLT, List.take_succ_cons, List.take_zero, List.drop_succ_cons, List.cons_append]
  · have f1 : decide (c < 2048) = false := by simpa using k2
    by_cases k3 : c < 65536
    · have e := enc3 (by omega) k3
      have l : (enc c).length = 3 := by have := congrArg List.length e; simpa using this
      have n3 : n + 3 ≤ most := by omega
      have q0 : c / 4096 % 256 = c / 4096 := by omega
      have q1 : c / 4096 < 16 := by omega
      rw [e, l]
      by_cases k4 : c < 55296
      · have f2 : decide ((c : Int) < 55296) = true := decide_eq_true (by omega)
        simp only [w0, d1, f1, f2, shf6, shf12, wru8, q0, q1, a0, a1, r0, r1, m0, m1, hx, n3, ht, hne, go_sem, ne_eq, not_false_eq_true, reduceIte, Nat.reduceMul, Nat.reduceAdd, Nat.reduceSub, Nat.reduceEqDiff, Nat.reduceLeDiff, Nat.reduceLT, List.take_succ_cons, List.take_zero, List.drop_succ_cons, List.cons_append]
      · have f2 : decide ((c : Int) < 55296) = false := decide_eq_false (by omega)
        have f3 : decide ((57343 : Int) < (c : Int)) = true := decide_eq_true (by unfold oks at ho; omega)
        have f4 : decide ((c : Int) ≤ 65535) = true := decide_eq_true (by omega)
        simp only [w0, d1, f1, f2, f3, f4, shf6, shf12, wru8, q0, q1, a0, a1, r0, r1, m0, m1, hx, n3, ht, hne, go_sem, ne_eq, not_false_eq_true, reduceIte, Nat.reduceMul, Nat.reduceAdd, Nat.reduceSub, Nat.reduceEqDiff, Nat.reduceLeDiff, Nat.reduceLT, List.take_succ_cons, List.take_zero, List.drop_succ_cons, List.cons_append]
    · have e := enc4 ho (by omega)
      have l : (enc c).length = 4 := by have := congrArg List.length e; simpa using this
      have q0 : c / 262144 % 256 = c / 262144 := by omega
      have q1 : c / 262144 < 8 := by omega
      have f2 : decide ((c : Int) < 55296) = false := decide_eq_false (by omega)
      have f3 : decide ((57343 : Int) < (c : Int)) = true := decide_eq_true (by omega)
      have f4 : decide ((c : Int) ≤ 65535) = false := decide_eq_false (by omega)
      have f5 : decide ((65535 : Int) < (c : Int)) = true := decide_eq_true (by omega)
      have f6 : decide ((c : Int) ≤ 1114111) = true := decide_eq_true (by omega)
      rw [e, l]
      simp only [w0, d1, f1, f2, f3, f4, f5, f6, shf6, shf12, shf18, wru8, q0, q1, a0, a1, a2, r0, r1, r2, m0, m1, m2, hx, hm, ht, hne, go_sem, ne_eq, not_false_eq_true, reduceIte, Nat.reduceMul, Nat.reduceAdd, Nat.reduceSub, Nat.reduceEqDiff, Nat.reduceLeDiff, Nat.reduceLT, List.take_succ_cons, List.take_zero, List.drop_succ_cons, List.cons_append]
end Go.Proofs.YtbhclhgljnoioaaDoor
