/- The abstract interpreter's code of the functions that the laws of this seat reach, and that it is the program's: each by the kernel. Printed by a program. -/
import Derived.Test.YtlicphklkpbkdaaGreatTab1
import Derived.Test.YtlicphklkpbkdaaGreatProg
import Derived.KernelRfl
namespace Go.Proofs.YtlicphklkpbkdaaGreat
open Go Ai

def B309 : AC := (.seq (.reg [⟨some 2, .mov (.k (.i .i64 0)), none⟩])
  (.seq (.seq (.reg [⟨some 3, .mov (.t 0), none⟩,
      ⟨some 4, .call true 250 [(.t 3), (.k (.i .i64 0)), (.k (.i .i64 48)), (.f 356)], none⟩,
      ⟨some 5, .un .not (.t 4), none⟩])
   (.cond (.t 5)
    (.seq (.reg [⟨some 2, .mov (.k (.i .i64 21)), none⟩])
    .ret)
    .skip))
  (.seq (.reg [⟨some 2, .mov (.k (.i .i64 0)), none⟩])
  .ret)))
/-- tidemark/text.Value -/
def af309 : AFunc := { n := 6, depth := 3, kl := [], res := [.tmp 2], body := B309 }

def L310_1 : AC := (.seq (.seq (.reg [⟨some 5, .mov (.t 0), none⟩,
      ⟨some 6, .eq true .ptr (.t 5) (.k .nilp), none⟩,
      ⟨some 7, .mov (.t 6), none⟩,
      ⟨some 8, .mov (.t 0), some (7, true)⟩,
      ⟨some 9, .nilck (.t 8), some (7, true)⟩,
      ⟨some 10, .faddr 0 (.t 9), some (7, true)⟩,
      ⟨some 11, .faddr 0 (.t 10), some (7, true)⟩,
      ⟨some 12, .load false 1 (.t 11), some (7, true)⟩,
      ⟨some 13, .mov (.t 1), some (7, true)⟩,
      ⟨some 14, .bin .neq (.t 12) (.t 13), some (7, true)⟩,
      ⟨some 15, .pick (.t 7) (.t 14) (.k (.b false)), none⟩])
   (.cond (.t 15)
    .skip
    (.exit 0)))
  (.blk 1 (.seq (.reg [⟨some 16, .mov (.t 1), none⟩,
      ⟨some 17, .mov (.t 0), none⟩,
      ⟨some 18, .nilck (.t 17), none⟩,
      ⟨some 19, .faddr 0 (.t 18), none⟩,
      ⟨some 20, .faddr 0 (.t 19), none⟩,
      ⟨some 21, .load false 1 (.t 20), none⟩,
      ⟨some 22, .bin .lss (.t 16) (.t 21), none⟩])
   (.cond (.t 22)
    (.reg [⟨some 23, .mov (.t 0), none⟩,
      ⟨some 24, .nilck (.t 23), none⟩,
      ⟨some 25, .faddr 2 (.t 24), none⟩,
      ⟨some 26, .load false 1 (.t 25), none⟩,
      ⟨some 0, .mov (.t 26), none⟩])
    (.reg [⟨some 27, .mov (.t 0), none⟩,
      ⟨some 28, .nilck (.t 27), none⟩,
      ⟨some 29, .faddr 3 (.t 28), none⟩,
      ⟨some 30, .load false 1 (.t 29), none⟩,
      ⟨some 0, .mov (.t 30), none⟩])))))
def B310 : AC := (.seq (.reg [⟨some 4, .mov (.k .nilp), none⟩])
  (.seq (.blk 0 (.loop L310_1))
  (.seq (.reg [⟨some 31, .mov (.t 0), none⟩,
     ⟨some 4, .mov (.t 31), none⟩])
  .ret)))
/-- tidemark/tree.find -/
def af310 : AFunc := { n := 32, depth := 6, kl := [], res := [.tmp 4], body := B310 }

def B311 : AC := (.seq (.reg [⟨some 3, .lbox (.t 1) [3, 11, 35], none⟩,
     ⟨some 4, .mov (.k .nilp), none⟩])
  (.seq (.blk 0 (.seq (.reg [⟨some 6, .mov (.t 0), none⟩,
       ⟨some 7, .eq false .ptr (.t 6) (.k .nilp), none⟩,
       ⟨some 5, .mov (.t 7), none⟩])
    (.cond (.t 5)
     (.seq (.reg [⟨some 8, .load true 2 (.t 3), none⟩,
        ⟨some 9, .call false 357 [(.k .nilp), (.t 8), (.k .nilp)], none⟩,
        ⟨some 4, .mov (.t 9), none⟩])
     .ret)
     (.seq (.reg [⟨some 11, .faddr 0 (.t 3), none⟩,
        ⟨some 12, .load false 1 (.t 11), none⟩,
        ⟨some 13, .mov (.t 0), none⟩,
        ⟨some 14, .nilck (.t 13), none⟩,
        ⟨some 15, .faddr 0 (.t 14), none⟩,
        ⟨some 16, .faddr 0 (.t 15), none⟩,
        ⟨some 17, .load false 1 (.t 16), none⟩,
        ⟨some 18, .bin .lss (.t 12) (.t 17), none⟩,
        ⟨some 10, .mov (.t 18), none⟩])
     (.cond (.t 10)
      (.seq (.regd [(⟨some 19, .mov (.t 0), none⟩, []),
         (⟨some 20, .nilck (.t 19), none⟩, []),
         (⟨some 21, .faddr 2 (.t 20), none⟩, []),
         (⟨some 22, .load false 1 (.t 21), none⟩, []),
         (⟨some 23, .load true 2 (.t 3), none⟩, [0, 1, 2, 3]),
         (⟨some 24, .call false 311 [(.t 22), (.t 23)], none⟩, []),
         (⟨some 25, .mov (.t 0), none⟩, [0, 1, 2, 3, 4, 5]),
         (⟨some 26, .nilck (.t 25), none⟩, [0, 1, 2, 3, 4, 5]),
         (⟨some 27, .faddr 0 (.t 26), none⟩, [0, 1, 2, 3, 4, 5]),
         (⟨some 28, .load true 2 (.t 27), none⟩, [0, 1, 2, 3, 4, 5]),
         (⟨some 29, .mov (.t 0), none⟩, [0, 1, 2, 3, 4, 5, 6, 7, 8, 9]),
         (⟨some 30, .nilck (.t 29), none⟩, [0, 1, 2, 3, 4, 5, 6, 7, 8, 9]),
         (⟨some 31, .faddr 3 (.t 30), none⟩, [0, 1, 2, 3, 4, 5, 6, 7, 8, 9]),
         (⟨some 32, .load false 1 (.t 31), none⟩, [0, 1, 2, 3, 4, 5, 6, 7, 8, 9]),
         (⟨some 33, .call false 358 [(.t 24), (.t 28), (.t 32)], none⟩, []),
         (⟨some 4, .mov (.t 33), none⟩, [])])
      .ret)
      (.seq (.reg [⟨some 35, .faddr 0 (.t 3), none⟩,
         ⟨some 36, .load false 1 (.t 35), none⟩,
         ⟨some 37, .mov (.t 0), none⟩,
         ⟨some 38, .nilck (.t 37), none⟩,
         ⟨some 39, .faddr 0 (.t 38), none⟩,
         ⟨some 40, .faddr 0 (.t 39), none⟩,
         ⟨some 41, .load false 1 (.t 40), none⟩,
         ⟨some 42, .bin .gtr (.t 36) (.t 41), none⟩,
         ⟨some 34, .mov (.t 42), none⟩])
      (.cond (.t 34)
       (.seq (.regd [(⟨some 43, .mov (.t 0), none⟩, []),
          (⟨some 44, .nilck (.t 43), none⟩, []),
          (⟨some 45, .faddr 2 (.t 44), none⟩, []),
          (⟨some 46, .load false 1 (.t 45), none⟩, []),
          (⟨some 47, .mov (.t 0), none⟩, [0, 1, 2, 3]),
          (⟨some 48, .nilck (.t 47), none⟩, [0, 1, 2, 3]),
          (⟨some 49, .faddr 0 (.t 48), none⟩, [0, 1, 2, 3]),
          (⟨some 50, .load true 2 (.t 49), none⟩, [0, 1, 2, 3]),
          (⟨some 51, .mov (.t 0), none⟩, [0, 1, 2, 3, 4, 5, 6, 7]),
          (⟨some 52, .nilck (.t 51), none⟩, [0, 1, 2, 3, 4, 5, 6, 7]),
          (⟨some 53, .faddr 3 (.t 52), none⟩, [0, 1, 2, 3, 4, 5, 6, 7]),
          (⟨some 54, .load false 1 (.t 53), none⟩, [0, 1, 2, 3, 4, 5, 6, 7]),
          (⟨some 55, .load true 2 (.t 3), none⟩, [0, 1, 2, 3, 4, 5, 6, 7, 8, 9, 10, 11]),
          (⟨some 56, .call false 311 [(.t 54), (.t 55)], none⟩, [0, 1, 2, 3, 4, 5, 6, 7]),
          (⟨some 57, .call false 358 [(.t 46), (.t 50), (.t 56)], none⟩, []),
          (⟨some 4, .mov (.t 57), none⟩, [])])
       .ret)
       .skip)))))))
  (.seq (.reg [⟨some 58, .mov (.t 0), none⟩,
     ⟨some 59, .nilck (.t 58), none⟩,
     ⟨some 60, .faddr 2 (.t 59), none⟩,
     ⟨some 61, .load false 1 (.t 60), none⟩,
     ⟨some 62, .load true 2 (.t 3), none⟩,
     ⟨some 63, .mov (.t 0), none⟩,
     ⟨some 64, .nilck (.t 63), none⟩,
     ⟨some 65, .faddr 3 (.t 64), none⟩,
     ⟨some 66, .load false 1 (.t 65), none⟩,
     ⟨some 67, .call false 357 [(.t 61), (.t 62), (.t 66)], none⟩,
     ⟨some 4, .mov (.t 67), none⟩])
  .ret)))
/-- tidemark/tree.put -/
def af311 : AFunc := { n := 68, depth := 7, kl := [(3, [3, 11, 35])], res := [.tmp 4], body := B311 }

def L320_1 : AC := (.seq (.reg [⟨some 9, .bin .lss (.t 8) (.t 7), none⟩])
  (.seq (.cond (.t 9)
    .skip
    (.exit 0))
  (.seq (.blk 1 (.seq (.reg [⟨some 10, .mov (.t 8), none⟩,
       ⟨some 5, .mov (.t 10), none⟩])
    (.seq (.reg [⟨some 11, .mov (.t 1), none⟩,
       ⟨some 12, .mov (.t 0), none⟩,
       ⟨some 13, .mov (.t 5), none⟩,
       ⟨some 14, .iaddr (.slice 1) (.t 12) (.t 13), none⟩,
       ⟨some 15, .load false 1 (.t 14), none⟩,
       ⟨some 16, .callv false (.t 11) [(.t 15)], none⟩])
    (.cond (.t 16)
     (.seq (.reg [⟨some 17, .mov (.t 5), none⟩,
        ⟨some 4, .mov (.t 17), none⟩])
     .ret)
     .skip))))
  (.reg [⟨some 18, .bin .add (.t 8) (.k (.i .i64 1)), none⟩,
    ⟨some 8, .mov (.t 18), none⟩]))))
def B320 : AC := (.seq (.reg [⟨some 4, .mov (.k (.i .i64 0)), none⟩])
  (.seq (.seq (.reg [⟨some 6, .mov (.t 0), none⟩,
      ⟨some 7, .len .slice (.t 6), none⟩,
      ⟨some 8, .mov (.k (.i .i64 0)), none⟩])
   (.blk 0 (.loop L320_1)))
  (.seq (.reg [⟨some 4, .mov (.k (.i .i64 (-1))), none⟩])
  .ret)))
/-- slices.IndexFunc[[]int,int] -/
def af320 : AFunc := { n := 19, depth := 5, kl := [], res := [.tmp 4], body := B320 }

def L332_1 : AC := (.seq (.reg [⟨some 9, .bin .lss (.t 8) (.t 7), none⟩])
  (.seq (.cond (.t 9)
    .skip
    (.exit 0))
  (.seq (.blk 1 (.seq (.reg [⟨some 10, .mov (.t 8), none⟩,
       ⟨some 5, .mov (.t 10), none⟩])
    (.seq (.reg [⟨some 11, .mov (.t 1), none⟩,
       ⟨some 12, .mov (.t 0), none⟩,
       ⟨some 13, .mov (.t 5), none⟩,
       ⟨some 14, .iaddr (.slice 6) (.t 12) (.t 13), none⟩,
       ⟨some 15, .load true 6 (.t 14), none⟩,
       ⟨some 16, .callv false (.t 11) [(.t 15)], none⟩])
    (.cond (.t 16)
     (.seq (.reg [⟨some 17, .mov (.t 5), none⟩,
        ⟨some 4, .mov (.t 17), none⟩])
     .ret)
     .skip))))
  (.reg [⟨some 18, .bin .add (.t 8) (.k (.i .i64 1)), none⟩,
    ⟨some 8, .mov (.t 18), none⟩]))))
def B332 : AC := (.seq (.reg [⟨some 4, .mov (.k (.i .i64 0)), none⟩])
  (.seq (.seq (.reg [⟨some 6, .mov (.t 0), none⟩,
      ⟨some 7, .len .slice (.t 6), none⟩,
      ⟨some 8, .mov (.k (.i .i64 0)), none⟩])
   (.blk 0 (.loop L332_1)))
  (.seq (.reg [⟨some 4, .mov (.k (.i .i64 (-1))), none⟩])
  .ret)))
/-- slices.IndexFunc[[]tidemark/api.Event,tidemark/api.Event] -/
def af332 : AFunc := { n := 19, depth := 5, kl := [], res := [.tmp 4], body := B332 }

def B334 : AC := (.seq (.reg [⟨some 2, .mov (.k .nilp), none⟩])
  (.seq (.seq (.reg [⟨some 3, .mov (.t 0), none⟩,
      ⟨some 4, .call false 164 [(.t 3)], none⟩,
      ⟨some 5, .un .not (.t 4), none⟩])
   (.cond (.t 5)
    (.seq (.reg [⟨some 2, .mov (.k .nilp), none⟩])
    .ret)
    .skip))
  (.seq (.reg [⟨some 6, .mov (.t 0), none⟩,
     ⟨some 7, .nilck (.t 6), none⟩,
     ⟨some 8, .faddr 0 (.t 7), none⟩,
     ⟨some 9, .load false 1 (.t 8), none⟩,
     ⟨some 10, .build [.nilp] [(0, 1, (.t 9))], none⟩,
     ⟨some 11, .box 231 (.t 10), none⟩,
     ⟨some 2, .mov (.t 11), none⟩])
  .ret)))
/-- (*tidemark/kv.Map).Clone -/
def af334 : AFunc := { n := 12, depth := 4, kl := [], res := [.tmp 2], body := B334 }

def B335 : AC := (.seq (.reg [⟨some 8, .mov (.k (.sl [] 0 .nil)), none⟩,
     ⟨some 9, .mov (.k (.i .i64 0)), none⟩])
  (.seq (.reg [⟨some 13, .mov (.t 0), none⟩,
     ⟨some 14, .mov (.t 1), none⟩,
     ⟨some 15, .mov (.t 2), none⟩,
     ⟨some 16, .mov (.t 3), none⟩,
     ⟨some 17, .call false 293 [(.t 13), (.t 14), (.t 15), (.t 16)], none⟩,
     ⟨some 12, .mov (.t 17), none⟩,
     ⟨some 18, .ext (.t 12) 0, none⟩,
     ⟨some 19, .ext (.t 12) 1, none⟩,
     ⟨some 10, .mov (.t 18), none⟩,
     ⟨some 11, .mov (.t 19), none⟩])
  (.seq (.seq (.reg [⟨some 20, .mov (.t 11), none⟩,
      ⟨some 21, .bin .eql (.t 20) (.k (.i .i64 0)), none⟩])
   (.cond (.t 21)
    (.reg [⟨some 22, .mov (.t 0), none⟩,
      ⟨some 23, .mov (.t 10), none⟩,
      ⟨some 24, .call false 337 [(.t 22), (.t 23)], none⟩])
    .skip))
  (.seq (.reg [⟨some 25, .mov (.t 10), none⟩,
     ⟨some 26, .mov (.t 11), none⟩,
     ⟨some 8, .mov (.t 25), none⟩,
     ⟨some 9, .mov (.t 26), none⟩])
  .ret))))
/-- (*tidemark/kv.Map).Do -/
def af335 : AFunc := { n := 27, depth := 5, kl := [], res := [.tmp 8, .tmp 9], body := B335 }

def L336_2 : AC := (.seq (.reg [⟨some 30, .bin .lss (.t 29) (.t 28), none⟩])
  (.seq (.cond (.t 30)
    .skip
    (.exit 2))
  (.seq (.blk 3 (.seq (.reg [⟨some 31, .iaddr (.slice 6) (.t 27) (.t 29), none⟩,
       ⟨some 32, .load true 6 (.t 31), none⟩,
       ⟨some 9, .lalloc [(.i .i64 0), (.s []), (.b false), (.s []), (.b false), (.s [])] [9, 33, 35, 37, 40, 42, 44], none⟩,
       ⟨none, .store 6 (.t 9) (.t 32), none⟩])
    (.seq (.seq (.reg [⟨some 33, .faddr 2 (.t 9), none⟩,
        ⟨some 34, .load false 1 (.t 33), none⟩])
     (.cond (.t 34)
      (.reg [⟨some 35, .faddr 1 (.t 9), none⟩,
        ⟨some 36, .load false 1 (.t 35), none⟩,
        ⟨some 37, .faddr 3 (.t 9), none⟩,
        ⟨some 38, .load false 1 (.t 37), none⟩,
        ⟨some 39, .call false 359 [(.t 7), (.t 36), (.t 38), (.k (.b false))], none⟩])
      .skip))
    (.seq (.reg [⟨some 40, .faddr 4 (.t 9), none⟩,
       ⟨some 41, .load false 1 (.t 40), none⟩])
    (.cond (.t 41)
     (.reg [⟨some 42, .faddr 1 (.t 9), none⟩,
       ⟨some 43, .load false 1 (.t 42), none⟩,
       ⟨some 44, .faddr 5 (.t 9), none⟩,
       ⟨some 45, .load false 1 (.t 44), none⟩,
       ⟨some 46, .call false 359 [(.t 7), (.t 43), (.t 45), (.k (.b true))], none⟩])
     .skip)))))
  (.reg [⟨some 47, .bin .add (.t 29) (.k (.i .i64 1)), none⟩,
    ⟨some 29, .mov (.t 47), none⟩]))))
def L336_1 : AC := (.seq (.reg [⟨some 18, .bin .lss (.t 17) (.t 16), none⟩])
  (.seq (.cond (.t 18)
    .skip
    (.exit 0))
  (.seq (.blk 1 (.seq (.reg [⟨some 19, .mov (.t 17), none⟩,
       ⟨some 6, .mov (.t 19), none⟩])
    (.seq (.reg [⟨some 20, .mov (.t 0), none⟩,
       ⟨some 21, .nilck (.t 20), none⟩,
       ⟨some 22, .faddr 0 (.t 21), none⟩,
       ⟨some 23, .load false 1 (.t 22), none⟩,
       ⟨some 24, .mov (.t 6), none⟩,
       ⟨some 25, .iaddr (.slice 5) (.t 23) (.t 24), none⟩,
       ⟨some 26, .call false 369 [(.t 25)], none⟩,
       ⟨some 7, .alloc 249 [(.s []), (.i .i64 0), (.s []), (.s []), (.m none)], none⟩,
       ⟨none, .store 5 (.t 7) (.t 26), none⟩])
    (.seq (.seq (.reg [⟨some 27, .mov (.t 1), none⟩,
        ⟨some 28, .len .slice (.t 27), none⟩,
        ⟨some 29, .mov (.k (.i .i64 0)), none⟩])
     (.blk 2 (.loop L336_2)))
    (.seq (.seq (.reg [⟨some 48, .call false 360 [(.t 7)], none⟩,
        ⟨some 49, .un .not (.t 48), none⟩])
     (.cond (.t 49)
      (.seq (.reg [⟨some 4, .mov (.k (.i .i64 72)), none⟩])
      .ret)
      .skip))
    (.reg [⟨some 50, .mov (.t 5), none⟩,
      ⟨some 51, .load true 5 (.t 7), none⟩,
      ⟨some 52, .bslice false 249 5 1 [(.s []), (.i .i64 0), (.s []), (.s []), (.m none)] [(0, (.t 51))], none⟩,
      ⟨some 53, .app 249 5 (.t 50) (.t 52), none⟩,
      ⟨some 5, .mov (.t 53), none⟩]))))))
  (.reg [⟨some 54, .bin .add (.t 17) (.k (.i .i64 1)), none⟩,
    ⟨some 17, .mov (.t 54), none⟩]))))
def B336 : AC := (.seq (.reg [⟨some 4, .mov (.k (.i .i64 0)), none⟩])
  (.seq (.seq (.reg [⟨some 10, .mov (.t 0), none⟩,
      ⟨some 11, .call false 171 [(.t 10)], none⟩])
   (.cond (.t 11)
    (.seq (.reg [⟨some 4, .mov (.k (.i .i64 6)), none⟩])
    .ret)
    .skip))
  (.seq (.reg [⟨some 5, .mov (.k (.sl [] 0 .nil)), none⟩])
  (.seq (.seq (.reg [⟨some 12, .mov (.t 0), none⟩,
      ⟨some 13, .nilck (.t 12), none⟩,
      ⟨some 14, .faddr 0 (.t 13), none⟩,
      ⟨some 15, .load false 1 (.t 14), none⟩,
      ⟨some 16, .len .slice (.t 15), none⟩,
      ⟨some 17, .mov (.k (.i .i64 0)), none⟩])
   (.blk 0 (.loop L336_1)))
  (.seq (.reg [⟨some 55, .mov (.t 0), none⟩,
     ⟨some 56, .mov (.t 5), none⟩,
     ⟨some 57, .nilck (.t 55), none⟩,
     ⟨some 58, .faddr 0 (.t 57), none⟩,
     ⟨none, .store 1 (.t 58) (.t 56), none⟩])
  (.seq (.reg [⟨some 4, .mov (.k (.i .i64 0)), none⟩])
  .ret))))))
/-- (*tidemark/views.Views).Take -/
def af336 : AFunc := { n := 59, depth := 6, kl := [(9, [9, 33, 35, 37, 40, 42, 44])], res := [.tmp 4], body := B336 }

def L337_1 : AC := (.seq (.reg [⟨some 12, .bin .lss (.t 11) (.t 10), none⟩])
  (.seq (.cond (.t 12)
    .skip
    (.exit 0))
  (.seq (.blk 1 (.seq (.reg [⟨some 13, .iaddr (.slice 6) (.t 9) (.t 11), none⟩,
       ⟨some 14, .load true 6 (.t 13), none⟩,
       ⟨some 5, .lalloc [(.i .i64 0), (.s []), (.b false), (.s []), (.b false), (.s [])] [5, 15, 22, 24, 34], none⟩,
       ⟨none, .store 6 (.t 5) (.t 14), none⟩])
    (.seq (.reg [⟨some 15, .faddr 4 (.t 5), none⟩,
       ⟨some 16, .load false 1 (.t 15), none⟩])
    (.cond (.t 16)
     (.regd [(⟨some 17, .mov (.t 0), none⟩, []),
       (⟨some 18, .mov (.t 0), none⟩, [0]),
       (⟨some 19, .nilck (.t 18), none⟩, [0]),
       (⟨some 20, .faddr 0 (.t 19), none⟩, [0]),
       (⟨some 21, .load false 1 (.t 20), none⟩, [0]),
       (⟨some 22, .faddr 1 (.t 5), none⟩, [0, 1, 2, 3, 4]),
       (⟨some 23, .load false 1 (.t 22), none⟩, [0, 1, 2, 3, 4]),
       (⟨some 24, .faddr 5 (.t 5), none⟩, [0, 1, 2, 3, 4, 5, 6]),
       (⟨some 25, .load false 1 (.t 24), none⟩, [0, 1, 2, 3, 4, 5, 6]),
       (⟨some 26, .call false 227 [(.t 21), (.t 23), (.t 25)], none⟩, [0]),
       (⟨some 27, .nilck (.t 17), none⟩, []),
       (⟨some 28, .faddr 0 (.t 27), none⟩, []),
       (⟨none, .store 1 (.t 28) (.t 26), none⟩, [])])
     (.regd [(⟨some 29, .mov (.t 0), none⟩, []),
       (⟨some 30, .mov (.t 0), none⟩, [0]),
       (⟨some 31, .nilck (.t 30), none⟩, [0]),
       (⟨some 32, .faddr 0 (.t 31), none⟩, [0]),
       (⟨some 33, .load false 1 (.t 32), none⟩, [0]),
       (⟨some 34, .faddr 1 (.t 5), none⟩, [0, 1, 2, 3, 4]),
       (⟨some 35, .load false 1 (.t 34), none⟩, [0, 1, 2, 3, 4]),
       (⟨some 36, .call false 370 [(.t 33), (.t 35)], none⟩, [0]),
       (⟨some 37, .nilck (.t 29), none⟩, []),
       (⟨some 38, .faddr 0 (.t 37), none⟩, []),
       (⟨none, .store 1 (.t 38) (.t 36), none⟩, [])])))))
  (.reg [⟨some 39, .bin .add (.t 11) (.k (.i .i64 1)), none⟩,
    ⟨some 11, .mov (.t 39), none⟩]))))
def B337 : AC := (.seq (.seq (.reg [⟨some 6, .mov (.t 0), none⟩,
      ⟨some 7, .call false 164 [(.t 6)], none⟩,
      ⟨some 8, .un .not (.t 7), none⟩])
   (.cond (.t 8)
    .ret
    .skip))
  (.seq (.reg [⟨some 9, .mov (.t 1), none⟩,
     ⟨some 10, .len .slice (.t 9), none⟩,
     ⟨some 11, .mov (.k (.i .i64 0)), none⟩])
  (.blk 0 (.loop L337_1))))
/-- (*tidemark/kv.Map).Take -/
def af337 : AFunc := { n := 40, depth := 6, kl := [(5, [5, 15, 22, 24, 34])], res := [], body := B337 }

def L338_1 : AC := (.seq (.seq (.reg [⟨some 15, .mov (.t 9), none⟩,
      ⟨some 16, .mov (.t 10), none⟩,
      ⟨some 17, .bin .lss (.t 15) (.t 16), none⟩])
   (.cond (.t 17)
    .skip
    (.exit 0)))
  (.blk 1 (.seq (.reg [⟨some 18, .mov (.t 9), none⟩,
      ⟨some 19, .mov (.t 10), none⟩,
      ⟨some 20, .bin .add (.t 18) (.t 19), none⟩,
      ⟨some 21, .conv (.int .u64) (.t 20), none⟩,
      ⟨some 22, .bin .shr (.t 21) (.k (.i .u64 1)), none⟩,
      ⟨some 23, .conv (.int .i64) (.t 22), none⟩,
      ⟨some 11, .mov (.t 23), none⟩])
   (.seq (.reg [⟨some 24, .mov (.t 2), none⟩,
      ⟨some 25, .mov (.t 0), none⟩,
      ⟨some 26, .mov (.t 11), none⟩,
      ⟨some 27, .iaddr (.slice 4) (.t 25) (.t 26), none⟩,
      ⟨some 28, .load true 4 (.t 27), none⟩,
      ⟨some 29, .mov (.t 1), none⟩,
      ⟨some 30, .callv false (.t 24) [(.t 28), (.t 29)], none⟩,
      ⟨some 31, .bin .lss (.t 30) (.k (.i .i64 0)), none⟩])
   (.cond (.t 31)
    (.reg [⟨some 32, .mov (.t 11), none⟩,
      ⟨some 33, .bin .add (.t 32) (.k (.i .i64 1)), none⟩,
      ⟨some 9, .mov (.t 33), none⟩])
    (.reg [⟨some 34, .mov (.t 11), none⟩,
      ⟨some 10, .mov (.t 34), none⟩]))))))
def B338 : AC := (.seq (.reg [⟨some 6, .mov (.k (.i .i64 0)), none⟩,
     ⟨some 7, .mov (.k (.b false)), none⟩])
  (.seq (.reg [⟨some 12, .mov (.t 0), none⟩,
     ⟨some 13, .len .slice (.t 12), none⟩,
     ⟨some 8, .mov (.t 13), none⟩])
  (.seq (.reg [⟨some 14, .mov (.t 8), none⟩,
     ⟨some 9, .mov (.k (.i .i64 0)), none⟩,
     ⟨some 10, .mov (.t 14), none⟩])
  (.seq (.blk 0 (.loop L338_1))
  (.seq (.reg [⟨some 35, .mov (.t 9), none⟩,
     ⟨some 36, .mov (.t 9), none⟩,
     ⟨some 37, .mov (.t 8), none⟩,
     ⟨some 38, .bin .lss (.t 36) (.t 37), none⟩,
     ⟨some 39, .mov (.t 38), none⟩,
     ⟨some 40, .mov (.t 2), some (39, true)⟩,
     ⟨some 41, .mov (.t 0), some (39, true)⟩,
     ⟨some 42, .mov (.t 9), some (39, true)⟩,
     ⟨some 43, .iaddr (.slice 4) (.t 41) (.t 42), some (39, true)⟩,
     ⟨some 44, .load true 4 (.t 43), some (39, true)⟩,
     ⟨some 45, .mov (.t 1), some (39, true)⟩,
     ⟨some 46, .callv false (.t 40) [(.t 44), (.t 45)], some (39, true)⟩,
     ⟨some 47, .bin .eql (.t 46) (.k (.i .i64 0)), some (39, true)⟩,
     ⟨some 48, .pick (.t 39) (.t 47) (.k (.b false)), none⟩,
     ⟨some 6, .mov (.t 35), none⟩,
     ⟨some 7, .mov (.t 48), none⟩])
  .ret)))))
/-- slices.BinarySearchFunc[[]tidemark/api.Seat,tidemark/api.Seat,int] -/
def af338 : AFunc := { n := 49, depth := 6, kl := [], res := [.tmp 6, .tmp 7], body := B338 }

def B339 : AC := (.seq (.reg [⟨some 2, .lbox (.t 0) [2, 5], none⟩,
     ⟨some 4, .mov (.k (.i .i64 0)), none⟩])
  (.seq (.reg [⟨some 5, .faddr 0 (.t 2), none⟩,
     ⟨some 6, .load false 1 (.t 5), none⟩,
     ⟨some 7, .mov (.t 1), none⟩,
     ⟨some 8, .bin .sub (.t 6) (.t 7), none⟩,
     ⟨some 4, .mov (.t 8), none⟩])
  .ret))
/-- (*tidemark/sess.Table).find$1 -/
def af339 : AFunc := { n := 9, depth := 4, kl := [(2, [2, 5])], res := [.tmp 4], body := B339 }

def B340 : AC := (.seq (.reg [⟨some 4, .mov (.k (.s [])), none⟩,
     ⟨some 5, .mov (.k (.b false)), none⟩])
  (.seq (.seq (.reg [⟨some 7, .mov (.t 0), none⟩,
      ⟨some 8, .call false 257 [(.t 7)], none⟩,
      ⟨some 9, .mov (.t 1), none⟩,
      ⟨some 10, .call false 310 [(.t 8), (.t 9)], none⟩,
      ⟨some 6, .mov (.t 10), none⟩])
   (.seq (.reg [⟨some 11, .mov (.t 6), none⟩,
      ⟨some 12, .eq true .ptr (.t 11) (.k .nilp), none⟩])
   (.cond (.t 12)
    (.seq (.reg [⟨some 13, .mov (.t 6), none⟩,
       ⟨some 14, .nilck (.t 13), none⟩,
       ⟨some 15, .faddr 0 (.t 14), none⟩,
       ⟨some 16, .faddr 1 (.t 15), none⟩,
       ⟨some 17, .load false 1 (.t 16), none⟩,
       ⟨some 4, .mov (.t 17), none⟩,
       ⟨some 5, .mov (.k (.b true)), none⟩])
    .ret)
    .skip)))
  (.seq (.reg [⟨some 4, .mov (.k (.s [])), none⟩,
     ⟨some 5, .mov (.k (.b false)), none⟩])
  .ret)))
/-- (*tidemark/tree.Tree).Get -/
def af340 : AFunc := { n := 18, depth := 5, kl := [], res := [.tmp 4, .tmp 5], body := B340 }

def B356 : AC := (.seq (.reg [⟨some 2, .mov (.k (.b false)), none⟩])
  (.seq (.reg [⟨some 3, .mov (.t 0), none⟩,
     ⟨some 4, .bin .geq (.t 3) (.k (.i .i32 32)), none⟩,
     ⟨some 5, .mov (.t 4), none⟩,
     ⟨some 6, .mov (.t 0), some (5, true)⟩,
     ⟨some 7, .bin .neq (.t 6) (.k (.i .i32 127)), some (5, true)⟩,
     ⟨some 8, .pick (.t 5) (.t 7) (.k (.b false)), none⟩,
     ⟨some 9, .mov (.t 8), none⟩,
     ⟨some 10, .mov (.t 0), some (9, true)⟩,
     ⟨some 11, .bin .neq (.t 10) (.k (.i .i32 65533)), some (9, true)⟩,
     ⟨some 12, .pick (.t 9) (.t 11) (.k (.b false)), none⟩,
     ⟨some 2, .mov (.t 12), none⟩])
  .ret))
/-- tidemark/text.plain -/
def af356 : AFunc := { n := 13, depth := 4, kl := [], res := [.tmp 2], body := B356 }

def B357 : AC := (.seq (.reg [⟨some 4, .lbox (.t 1) [4], none⟩,
     ⟨some 6, .mov (.k .nilp), none⟩])
  (.seq (.regd [(⟨some 7, .load true 2 (.t 4), none⟩, []),
     (⟨some 8, .mov (.t 0), none⟩, [0]),
     (⟨some 9, .mov (.t 2), none⟩, [0, 1]),
     (⟨some 10, .mov (.t 0), none⟩, [0, 1, 2]),
     (⟨some 11, .call false 377 [(.t 10)], none⟩, [0, 1, 2]),
     (⟨some 12, .mov (.t 2), none⟩, [0, 1, 2, 3, 4]),
     (⟨some 13, .call false 377 [(.t 12)], none⟩, [0, 1, 2]),
     (⟨some 14, .minmax true (.t 11) (.t 13), none⟩, [0, 1, 2]),
     (⟨some 15, .bin .add (.k (.i .i64 1)) (.t 14), none⟩, [0, 1, 2]),
     (⟨some 16, .mov (.t 0), none⟩, [0, 1, 2, 3, 4, 5, 6, 7, 8]),
     (⟨some 17, .call false 258 [(.t 16)], none⟩, [0, 1, 2, 7, 8]),
     (⟨some 18, .bin .add (.k (.i .i64 1)) (.t 17), none⟩, [0, 1, 2, 7, 8]),
     (⟨some 19, .mov (.t 2), none⟩, [0, 1, 2, 3, 4, 5, 6, 7, 8, 9, 10, 11]),
     (⟨some 20, .call false 258 [(.t 19)], none⟩, [0, 1, 2, 7, 8, 11]),
     (⟨some 21, .bin .add (.t 18) (.t 20), none⟩, [0, 1, 2, 7, 8]),
     (⟨some 22, .build [(.s []), (.s []), .nilp, .nilp, (.i .i64 0), (.i .i64 0)] [(0, 2, (.t 7)), (2, 1, (.t 8)), (3, 1, (.t 9)), (4, 1, (.t 15)), (5, 1, (.t 21))], none⟩, []),
     (⟨some 23, .box 350 (.t 22), none⟩, []),
     (⟨some 6, .mov (.t 23), none⟩, [])])
  .ret))
/-- tidemark/tree.over -/
def af357 : AFunc := { n := 24, depth := 5, kl := [(4, [4])], res := [.tmp 6], body := B357 }

def B358 : AC := (.seq (.reg [⟨some 4, .lbox (.t 1) [4], none⟩,
     ⟨some 6, .mov (.k .nilp), none⟩])
  (.seq (.blk 0 (.seq (.reg [⟨some 8, .mov (.t 0), none⟩,
       ⟨some 9, .call false 377 [(.t 8)], none⟩,
       ⟨some 10, .mov (.t 2), none⟩,
       ⟨some 11, .call false 377 [(.t 10)], none⟩,
       ⟨some 12, .bin .add (.t 11) (.k (.i .i64 1)), none⟩,
       ⟨some 13, .bin .gtr (.t 9) (.t 12), none⟩,
       ⟨some 7, .mov (.t 13), none⟩])
    (.cond (.t 7)
     (.seq (.reg [⟨some 14, .mov (.t 0), none⟩,
        ⟨some 15, .load true 2 (.t 4), none⟩,
        ⟨some 16, .mov (.t 2), none⟩,
        ⟨some 17, .call false 378 [(.t 14), (.t 15), (.t 16)], none⟩,
        ⟨some 6, .mov (.t 17), none⟩])
     .ret)
     (.seq (.reg [⟨some 19, .mov (.t 2), none⟩,
        ⟨some 20, .call false 377 [(.t 19)], none⟩,
        ⟨some 21, .mov (.t 0), none⟩,
        ⟨some 22, .call false 377 [(.t 21)], none⟩,
        ⟨some 23, .bin .add (.t 22) (.k (.i .i64 1)), none⟩,
        ⟨some 24, .bin .gtr (.t 20) (.t 23), none⟩,
        ⟨some 18, .mov (.t 24), none⟩])
     (.cond (.t 18)
      (.seq (.reg [⟨some 25, .mov (.t 0), none⟩,
         ⟨some 26, .load true 2 (.t 4), none⟩,
         ⟨some 27, .mov (.t 2), none⟩,
         ⟨some 28, .call false 379 [(.t 25), (.t 26), (.t 27)], none⟩,
         ⟨some 6, .mov (.t 28), none⟩])
      .ret)
      .skip)))))
  (.seq (.reg [⟨some 29, .mov (.t 0), none⟩,
     ⟨some 30, .load true 2 (.t 4), none⟩,
     ⟨some 31, .mov (.t 2), none⟩,
     ⟨some 32, .call false 357 [(.t 29), (.t 30), (.t 31)], none⟩,
     ⟨some 6, .mov (.t 32), none⟩])
  .ret)))
/-- tidemark/tree.join -/
def af358 : AFunc := { n := 33, depth := 6, kl := [(4, [4])], res := [.tmp 6], body := B358 }

def B377 : AC := (.seq (.reg [⟨some 2, .mov (.k (.i .i64 0)), none⟩])
  (.seq (.seq (.reg [⟨some 3, .mov (.t 0), none⟩,
      ⟨some 4, .eq false .ptr (.t 3) (.k .nilp), none⟩])
   (.cond (.t 4)
    (.seq (.reg [⟨some 2, .mov (.k (.i .i64 0)), none⟩])
    .ret)
    .skip))
  (.seq (.reg [⟨some 5, .mov (.t 0), none⟩,
     ⟨some 6, .nilck (.t 5), none⟩,
     ⟨some 7, .faddr 4 (.t 6), none⟩,
     ⟨some 8, .load false 1 (.t 7), none⟩,
     ⟨some 2, .mov (.t 8), none⟩])
  .ret)))
/-- tidemark/tree.depth -/
def af377 : AFunc := { n := 9, depth := 4, kl := [], res := [.tmp 2], body := B377 }

def B447 : AC := (.seq (.reg [⟨some 2, .lbox (.t 0) [2], none⟩,
     ⟨some 3, .lbox (.t 1) [3], none⟩,
     ⟨some 4, .mov (.k (.b false)), none⟩])
  (.seq (.reg [⟨some 4, .mov (.k (.b true)), none⟩])
  .ret))
/-- (tidemark/filter.always).holds -/
def af447 : AFunc := { n := 5, depth := 3, kl := [(2, [2]), (3, [3])], res := [.tmp 4], body := B447 }

def kn : Known := ⟨[]⟩

def lst : List (Nat × AFunc) := [(10, af10), (15, af15), (17, af17), (22, af22), (24, af24), (25, af25), (26, af26), (28, af28), (30, af30), (32, af32), (34, af34), (36, af36), (37, af37), (39, af39), (40, af40), (50, af50), (51, af51), (52, af52), (57, af57), (61, af61), (62, af62), (63, af63), (64, af64), (65, af65), (66, af66), (67, af67), (68, af68), (69, af69), (78, af78), (79, af79), (80, af80), (81, af81), (82, af82), (83, af83), (84, af84), (85, af85), (86, af86), (87, af87), (88, af88), (89, af89), (93, af93), (108, af108), (109, af109), (110, af110), (111, af111), (115, af115), (128, af128), (132, af132), (133, af133), (135, af135), (136, af136), (137, af137), (138, af138), (139, af139), (140, af140), (141, af141), (142, af142), (143, af143), (147, af147), (160, af160), (161, af161), (162, af162), (163, af163), (164, af164), (165, af165), (166, af166), (169, af169), (170, af170), (171, af171), (172, af172), (173, af173), (174, af174), (210, af210), (211, af211), (212, af212), (213, af213), (214, af214), (215, af215), (216, af216), (218, af218), (219, af219), (220, af220), (226, af226), (227, af227), (237, af237), (248, af248), (249, af249), (250, af250), (256, af256), (257, af257), (258, af258), (260, af260), (261, af261), (286, af286), (287, af287), (289, af289), (290, af290), (291, af291), (293, af293), (308, af308), (309, af309), (310, af310), (311, af311), (320, af320), (332, af332), (334, af334), (335, af335), (336, af336), (337, af337), (338, af338), (339, af339), (340, af340), (356, af356), (357, af357), (358, af358), (377, af377), (447, af447)]
theorem lst_ok : lst.all (fun x => fnOk Tryz.prog kn x.1 x.2) = true := by kernel_rfl
def tab (g : FuncId) : Option AFunc := al lst g

end Go.Proofs.YtlicphklkpbkdaaGreat
