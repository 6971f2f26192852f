/- The abstract interpreter's code of the functions that the laws of this seat reach, and that it is the program's: each by the kernel. Printed by a program. -/
import Derived.Test.YtkibkodlbjhjfaaAi08
import Derived.Test.YtkibkodlbjhjfaaProg
import Derived.KernelRfl
namespace Go.Proofs.Ytkibkodlbjhjfaa
open Go Ai

def B3 : AC := (.seq (.reg [⟨some 4, .mov (.k (.b false)), none⟩])
  (.seq (.seq (.reg [⟨some 9, .mov (.t 0), none⟩,
      ⟨some 10, .len .str (.t 9), none⟩,
      ⟨some 11, .bin .gtr (.t 10) (.k (.i .i64 16384)), none⟩,
      ⟨some 12, .mov (.t 11), none⟩,
      ⟨some 13, .mov (.t 1), some (12, false)⟩,
      ⟨some 14, .len .str (.t 13), some (12, false)⟩,
      ⟨some 15, .bin .gtr (.t 14) (.k (.i .i64 16384)), some (12, false)⟩,
      ⟨some 16, .pick (.t 12) (.k (.b true)) (.t 15), none⟩])
   (.cond (.t 16)
    (.seq (.reg [⟨some 17, .call true 11 [], none⟩,
       ⟨some 4, .mov (.t 17), none⟩])
    .ret)
    .skip))
  (.seq (.reg [⟨some 19, .mov (.t 0), none⟩,
     ⟨some 20, .mov (.t 1), none⟩,
     ⟨some 21, .call true 12 [(.t 19), (.t 20)], none⟩,
     ⟨some 18, .mov (.t 21), none⟩,
     ⟨some 22, .ext (.t 18) 0, none⟩,
     ⟨some 23, .ext (.t 18) 1, none⟩,
     ⟨some 5, .mov (.t 22), none⟩,
     ⟨some 6, .mov (.t 23), none⟩])
  (.seq (.reg [⟨some 25, .mov (.t 0), none⟩,
     ⟨some 26, .mov (.t 1), none⟩,
     ⟨some 27, .call true 13 [(.t 25), (.t 26)], none⟩,
     ⟨some 24, .mov (.t 27), none⟩,
     ⟨some 28, .ext (.t 24) 0, none⟩,
     ⟨some 29, .ext (.t 24) 1, none⟩,
     ⟨some 7, .mov (.t 28), none⟩,
     ⟨some 8, .mov (.t 29), none⟩])
  (.seq (.reg [⟨some 30, .mov (.t 5), none⟩,
     ⟨some 31, .mov (.t 7), none⟩,
     ⟨some 32, .bin .eql (.t 30) (.t 31), none⟩,
     ⟨some 33, .mov (.t 32), none⟩,
     ⟨some 34, .mov (.t 6), some (33, true)⟩,
     ⟨some 35, .mov (.t 8), some (33, true)⟩,
     ⟨some 36, .eq false .bool (.t 34) (.t 35), some (33, true)⟩,
     ⟨some 37, .pick (.t 33) (.t 36) (.k (.b false)), none⟩,
     ⟨some 38, .mov (.t 37), none⟩,
     ⟨some 39, .call true 11 [], some (38, true)⟩,
     ⟨some 40, .pick (.t 38) (.t 39) (.k (.b false)), none⟩,
     ⟨some 4, .mov (.t 40), none⟩])
  .ret)))))
/-- tidemark/tidemarklaw02.TextFields -/
def af3 : AFunc := { n := 41, depth := 6, kl := [], res := [.tmp 4], body := B3 }

def B4 : AC := (.seq (.reg [⟨some 2, .mov (.k (.b false)), none⟩])
  (.seq (.seq (.reg [⟨some 7, .mov (.t 0), none⟩,
      ⟨some 8, .len .str (.t 7), none⟩,
      ⟨some 9, .bin .gtr (.t 8) (.k (.i .i64 16384)), none⟩])
   (.cond (.t 9)
    (.seq (.reg [⟨some 10, .call true 11 [], none⟩,
       ⟨some 2, .mov (.t 10), none⟩])
    .ret)
    .skip))
  (.seq (.reg [⟨some 12, .mov (.t 0), none⟩,
     ⟨some 13, .call true 14 [(.t 12)], none⟩,
     ⟨some 11, .mov (.t 13), none⟩,
     ⟨some 14, .ext (.t 11) 0, none⟩,
     ⟨some 15, .ext (.t 11) 1, none⟩,
     ⟨some 3, .mov (.t 14), none⟩,
     ⟨some 4, .mov (.t 15), none⟩])
  (.seq (.reg [⟨some 17, .mov (.t 0), none⟩,
     ⟨some 18, .call true 15 [(.t 17)], none⟩,
     ⟨some 16, .mov (.t 18), none⟩,
     ⟨some 19, .ext (.t 16) 0, none⟩,
     ⟨some 20, .ext (.t 16) 1, none⟩,
     ⟨some 5, .mov (.t 19), none⟩,
     ⟨some 6, .mov (.t 20), none⟩])
  (.seq (.reg [⟨some 21, .mov (.t 3), none⟩,
     ⟨some 22, .mov (.t 5), none⟩,
     ⟨some 23, .bin .eql (.t 21) (.t 22), none⟩,
     ⟨some 24, .mov (.t 23), none⟩,
     ⟨some 25, .mov (.t 4), some (24, true)⟩,
     ⟨some 26, .mov (.t 6), some (24, true)⟩,
     ⟨some 27, .bin .eql (.t 25) (.t 26), some (24, true)⟩,
     ⟨some 28, .pick (.t 24) (.t 27) (.k (.b false)), none⟩,
     ⟨some 29, .mov (.t 28), none⟩,
     ⟨some 30, .call true 11 [], some (29, true)⟩,
     ⟨some 31, .pick (.t 29) (.t 30) (.k (.b false)), none⟩,
     ⟨some 2, .mov (.t 31), none⟩])
  .ret)))))
/-- tidemark/tidemarklaw02.TextNumbers -/
def af4 : AFunc := { n := 32, depth := 6, kl := [], res := [.tmp 2], body := B4 }

def L5_3 : AC := (.seq (.reg [⟨some 38, .next 37, none⟩,
     ⟨some 39, .ext (.t 38) 0, none⟩])
  (.seq (.cond (.t 39)
    .skip
    (.exit 4))
  (.blk 5 (.seq (.reg [⟨some 40, .ext (.t 38) 2, none⟩,
      ⟨some 12, .mov (.t 40), none⟩])
   (.seq (.reg [⟨some 41, .mov (.t 12), none⟩,
      ⟨some 42, .mov (.t 1), none⟩,
      ⟨some 43, .bin .eql (.t 41) (.t 42), none⟩])
   (.cond (.t 43)
    (.seq (.reg [⟨some 4, .mov (.k (.b false)), none⟩])
    .ret)
    .skip))))))
def L5_2 : AC := (.seq (.reg [⟨some 33, .bin .lss (.t 32) (.t 31), none⟩])
  (.seq (.cond (.t 33)
    .skip
    (.exit 2))
  (.seq (.blk 3 (.seq (.reg [⟨some 34, .iaddr (.slice 1) (.t 30) (.t 32), none⟩,
       ⟨some 35, .load false 1 (.t 34), none⟩,
       ⟨some 10, .mov (.t 35), none⟩])
    (.seq (.reg [⟨some 36, .mov (.t 10), none⟩,
       ⟨some 37, .range (.t 36), none⟩])
    (.blk 4 (.loop L5_3)))))
  (.reg [⟨some 44, .bin .add (.t 32) (.k (.i .i64 1)), none⟩,
    ⟨some 32, .mov (.t 44), none⟩]))))
def L5_1 : AC := (.seq (.reg [⟨some 22, .next 21, none⟩,
     ⟨some 23, .ext (.t 22) 0, none⟩])
  (.seq (.cond (.t 23)
    .skip
    (.exit 0))
  (.blk 1 (.seq (.reg [⟨some 24, .ext (.t 22) 2, none⟩,
      ⟨some 8, .mov (.t 24), none⟩])
   (.seq (.reg [⟨some 25, .mov (.t 8), none⟩,
      ⟨some 26, .mov (.t 1), none⟩,
      ⟨some 27, .bin .eql (.t 25) (.t 26), none⟩])
   (.cond (.t 27)
    (.reg [⟨some 28, .mov (.t 6), none⟩,
      ⟨some 29, .bin .add (.t 28) (.k (.i .i64 1)), none⟩,
      ⟨some 6, .mov (.t 29), none⟩])
    .skip))))))
def B5 : AC := (.seq (.reg [⟨some 4, .mov (.k (.b false)), none⟩])
  (.seq (.seq (.reg [⟨some 13, .mov (.t 0), none⟩,
      ⟨some 14, .len .str (.t 13), none⟩,
      ⟨some 15, .bin .gtr (.t 14) (.k (.i .i64 16384)), none⟩])
   (.cond (.t 15)
    (.seq (.reg [⟨some 16, .call true 11 [], none⟩,
       ⟨some 4, .mov (.t 16), none⟩])
    .ret)
    .skip))
  (.seq (.reg [⟨some 17, .mov (.t 0), none⟩,
     ⟨some 18, .mov (.t 1), none⟩,
     ⟨some 19, .call true 16 [(.t 17), (.t 18)], none⟩,
     ⟨some 5, .mov (.t 19), none⟩])
  (.seq (.reg [⟨some 6, .mov (.k (.i .i64 1)), none⟩])
  (.seq (.seq (.reg [⟨some 20, .mov (.t 0), none⟩,
      ⟨some 21, .range (.t 20), none⟩])
   (.blk 0 (.loop L5_1)))
  (.seq (.seq (.reg [⟨some 30, .mov (.t 5), none⟩,
      ⟨some 31, .len .slice (.t 30), none⟩,
      ⟨some 32, .mov (.k (.i .i64 0)), none⟩])
   (.blk 2 (.loop L5_2)))
  (.seq (.reg [⟨some 45, .mov (.t 5), none⟩,
     ⟨some 46, .len .slice (.t 45), none⟩,
     ⟨some 47, .mov (.t 6), none⟩,
     ⟨some 48, .bin .eql (.t 46) (.t 47), none⟩,
     ⟨some 49, .mov (.t 48), none⟩,
     ⟨some 50, .call true 11 [], some (49, true)⟩,
     ⟨some 51, .pick (.t 49) (.t 50) (.k (.b false)), none⟩,
     ⟨some 4, .mov (.t 51), none⟩])
  .ret)))))))
/-- tidemark/tidemarklaw02.TextMany -/
def af5 : AFunc := { n := 52, depth := 6, kl := [], res := [.tmp 4], body := B5 }

def B6 : AC := (.seq (.reg [⟨some 4, .mov (.k (.b false)), none⟩])
  (.seq (.reg [⟨some 5, .mov (.t 0), none⟩,
     ⟨some 6, .mov (.t 1), none⟩,
     ⟨some 7, .call true 17 [(.t 5), (.t 6)], none⟩,
     ⟨some 8, .mov (.t 0), none⟩,
     ⟨some 9, .mov (.t 1), none⟩,
     ⟨some 10, .call true 18 [(.t 8), (.t 9)], none⟩,
     ⟨some 11, .eq false .bool (.t 7) (.t 10), none⟩,
     ⟨some 12, .mov (.t 11), none⟩,
     ⟨some 13, .mov (.t 1), some (12, true)⟩,
     ⟨some 14, .mov (.t 0), some (12, true)⟩,
     ⟨some 15, .bin .add (.t 13) (.t 14), some (12, true)⟩,
     ⟨some 16, .mov (.t 1), some (12, true)⟩,
     ⟨some 17, .call true 17 [(.t 15), (.t 16)], some (12, true)⟩,
     ⟨some 18, .pick (.t 12) (.t 17) (.k (.b false)), none⟩,
     ⟨some 19, .mov (.t 18), none⟩,
     ⟨some 20, .call true 11 [], some (19, true)⟩,
     ⟨some 21, .pick (.t 19) (.t 20) (.k (.b false)), none⟩,
     ⟨some 4, .mov (.t 21), none⟩])
  .ret))
/-- tidemark/tidemarklaw02.TextBegins -/
def af6 : AFunc := { n := 22, depth := 5, kl := [], res := [.tmp 4], body := B6 }

def B7 : AC := (.seq (.reg [⟨some 4, .mov (.k (.b false)), none⟩])
  (.seq (.seq (.reg [⟨some 5, .mov (.t 0), none⟩,
      ⟨some 6, .len .str (.t 5), none⟩,
      ⟨some 7, .bin .gtr (.t 6) (.k (.i .i64 16384)), none⟩])
   (.cond (.t 7)
    (.seq (.reg [⟨some 8, .call true 11 [], none⟩,
       ⟨some 4, .mov (.t 8), none⟩])
    .ret)
    .skip))
  (.seq (.reg [⟨some 9, .mov (.t 0), none⟩,
     ⟨some 10, .mov (.t 1), none⟩,
     ⟨some 11, .call true 16 [(.t 9), (.t 10)], none⟩,
     ⟨some 12, .mov (.t 0), none⟩,
     ⟨some 13, .mov (.t 1), none⟩,
     ⟨some 14, .call true 20 [(.t 12), (.t 13)], none⟩,
     ⟨some 15, .call true 19 [(.t 11), (.t 14)], none⟩,
     ⟨some 16, .mov (.t 15), none⟩,
     ⟨some 17, .call true 11 [], some (16, true)⟩,
     ⟨some 18, .pick (.t 16) (.t 17) (.k (.b false)), none⟩,
     ⟨some 4, .mov (.t 18), none⟩])
  .ret)))
/-- tidemark/tidemarklaw02.TextParts -/
def af7 : AFunc := { n := 19, depth := 5, kl := [], res := [.tmp 4], body := B7 }

def B8 : AC := (.seq (.reg [⟨some 2, .mov (.k (.b false)), none⟩])
  (.seq (.seq (.reg [⟨some 3, .mov (.t 0), none⟩,
      ⟨some 4, .len .str (.t 3), none⟩,
      ⟨some 5, .bin .gtr (.t 4) (.k (.i .i64 16384)), none⟩])
   (.cond (.t 5)
    (.seq (.reg [⟨some 6, .call true 11 [], none⟩,
       ⟨some 2, .mov (.t 6), none⟩])
    .ret)
    .skip))
  (.seq (.reg [⟨some 7, .mov (.t 0), none⟩,
     ⟨some 8, .call true 21 [(.t 7)], none⟩,
     ⟨some 9, .mov (.t 0), none⟩,
     ⟨some 10, .call true 22 [(.t 9)], none⟩,
     ⟨some 11, .bin .eql (.t 8) (.t 10), none⟩,
     ⟨some 12, .mov (.t 11), none⟩,
     ⟨some 13, .mov (.t 0), some (12, true)⟩,
     ⟨some 14, .call true 23 [(.t 13)], some (12, true)⟩,
     ⟨some 15, .mov (.t 0), some (12, true)⟩,
     ⟨some 16, .call true 24 [(.t 15)], some (12, true)⟩,
     ⟨some 17, .bin .eql (.t 14) (.t 16), some (12, true)⟩,
     ⟨some 18, .pick (.t 12) (.t 17) (.k (.b false)), none⟩,
     ⟨some 19, .mov (.t 18), none⟩,
     ⟨some 20, .mov (.t 0), some (19, true)⟩,
     ⟨some 21, .call true 25 [(.t 20)], some (19, true)⟩,
     ⟨some 22, .mov (.t 0), some (19, true)⟩,
     ⟨some 23, .call true 26 [(.t 22)], some (19, true)⟩,
     ⟨some 24, .bin .eql (.t 21) (.t 23), some (19, true)⟩,
     ⟨some 25, .pick (.t 19) (.t 24) (.k (.b false)), none⟩,
     ⟨some 26, .mov (.t 25), none⟩,
     ⟨some 27, .call true 11 [], some (26, true)⟩,
     ⟨some 28, .pick (.t 26) (.t 27) (.k (.b false)), none⟩,
     ⟨some 2, .mov (.t 28), none⟩])
  .ret)))
/-- tidemark/tidemarklaw02.TextKeys -/
def af8 : AFunc := { n := 29, depth := 5, kl := [], res := [.tmp 2], body := B8 }

def B9 : AC := (.seq (.reg [⟨some 4, .mov (.k (.b false)), none⟩])
  (.seq (.seq (.reg [⟨some 5, .mov (.t 0), none⟩,
      ⟨some 6, .len .str (.t 5), none⟩,
      ⟨some 7, .bin .gtr (.t 6) (.k (.i .i64 16384)), none⟩])
   (.cond (.t 7)
    (.seq (.reg [⟨some 8, .call true 11 [], none⟩,
       ⟨some 4, .mov (.t 8), none⟩])
    .ret)
    .skip))
  (.seq (.reg [⟨some 9, .mov (.t 1), none⟩,
     ⟨some 10, .bin .rem (.t 9) (.k (.i .u8 128)), none⟩,
     ⟨some 1, .mov (.t 10), none⟩])
  (.seq (.reg [⟨some 11, .mov (.t 0), none⟩,
     ⟨some 12, .mov (.t 1), none⟩,
     ⟨some 13, .conv (.int .i32) (.t 12), none⟩,
     ⟨some 14, .call true 16 [(.t 11), (.t 13)], none⟩,
     ⟨some 15, .mov (.t 1), none⟩,
     ⟨some 16, .bslice false 5 1 1 [(.i .u8 0)] [(0, (.t 15))], none⟩,
     ⟨some 17, .conv .toStr (.t 16), none⟩,
     ⟨some 18, .call true 27 [(.t 14), (.t 17)], none⟩,
     ⟨some 19, .mov (.t 0), none⟩,
     ⟨some 20, .bin .eql (.t 18) (.t 19), none⟩,
     ⟨some 21, .mov (.t 20), none⟩,
     ⟨some 22, .call true 11 [], some (21, true)⟩,
     ⟨some 23, .pick (.t 21) (.t 22) (.k (.b false)), none⟩,
     ⟨some 4, .mov (.t 23), none⟩])
  .ret))))
/-- tidemark/tidemarklaw02.TextJoined -/
def af9 : AFunc := { n := 24, depth := 5, kl := [], res := [.tmp 4], body := B9 }

def L10_2 : AC := (.seq (.reg [⟨some 81, .bin .lss (.t 80) (.t 79), none⟩])
  (.seq (.cond (.t 81)
    .skip
    (.exit 2))
  (.seq (.blk 3 (.seq (.reg [⟨some 82, .mov (.t 80), none⟩,
       ⟨some 13, .mov (.t 82), none⟩])
    (.seq (.reg [⟨some 84, .mov (.t 12), none⟩,
       ⟨some 85, .mov (.t 0), none⟩,
       ⟨some 86, .mov (.t 13), none⟩,
       ⟨some 87, .iaddr (.slice 1) (.t 85) (.t 86), none⟩,
       ⟨some 88, .load false 1 (.t 87), none⟩,
       ⟨some 89, .call true 12 [(.t 84), (.t 88)], none⟩,
       ⟨some 83, .mov (.t 89), none⟩,
       ⟨some 90, .ext (.t 83) 0, none⟩,
       ⟨some 91, .ext (.t 83) 1, none⟩,
       ⟨some 14, .mov (.t 90), none⟩,
       ⟨some 15, .mov (.t 91), none⟩])
    (.seq (.reg [⟨some 92, .mov (.t 15), none⟩,
       ⟨some 93, .un .not (.t 92), none⟩,
       ⟨some 94, .mov (.t 93), none⟩,
       ⟨some 95, .mov (.t 14), some (94, false)⟩,
       ⟨some 96, .mov (.t 1), some (94, false)⟩,
       ⟨some 97, .mov (.t 13), some (94, false)⟩,
       ⟨some 98, .iaddr (.slice 1) (.t 96) (.t 97), some (94, false)⟩,
       ⟨some 99, .load false 1 (.t 98), some (94, false)⟩,
       ⟨some 100, .bin .neq (.t 95) (.t 99), some (94, false)⟩,
       ⟨some 101, .pick (.t 94) (.k (.b true)) (.t 100), none⟩])
    (.cond (.t 101)
     (.seq (.reg [⟨some 6, .mov (.k (.b false)), none⟩])
     .ret)
     .skip)))))
  (.reg [⟨some 102, .bin .add (.t 80) (.k (.i .i64 1)), none⟩,
    ⟨some 80, .mov (.t 102), none⟩]))))
def L10_1 : AC := (.seq (.reg [⟨some 25, .bin .lss (.t 24) (.t 23), none⟩])
  (.seq (.cond (.t 25)
    .skip
    (.exit 0))
  (.seq (.blk 1 (.seq (.reg [⟨some 26, .mov (.t 24), none⟩,
       ⟨some 10, .mov (.t 26), none⟩])
    (.seq (.reg [⟨some 27, .mov (.t 1), none⟩,
       ⟨some 28, .mov (.t 10), none⟩,
       ⟨some 29, .iaddr (.slice 1) (.t 27) (.t 28), none⟩,
       ⟨some 30, .load false 1 (.t 29), none⟩,
       ⟨some 11, .mov (.t 30), none⟩])
    (.seq (.reg [⟨some 31, .mov (.t 9), none⟩,
       ⟨some 32, .mov (.t 11), none⟩,
       ⟨some 33, .len .str (.t 32), none⟩,
       ⟨some 34, .minmax false (.t 33) (.k (.i .i64 16384)), none⟩,
       ⟨some 35, .bin .add (.t 31) (.t 34), none⟩,
       ⟨some 9, .mov (.t 35), none⟩])
    (.seq (.seq (.reg [⟨some 36, .mov (.t 0), none⟩,
        ⟨some 37, .mov (.t 10), none⟩,
        ⟨some 38, .iaddr (.slice 1) (.t 36) (.t 37), none⟩,
        ⟨some 39, .load false 1 (.t 38), none⟩,
        ⟨some 40, .call true 25 [(.t 39)], none⟩,
        ⟨some 41, .bin .neq (.t 40) (.k (.i .i64 0)), none⟩,
        ⟨some 42, .mov (.t 41), none⟩,
        ⟨some 43, .mov (.t 8), some (42, false)⟩,
        ⟨some 44, .mov (.t 0), some (42, false)⟩,
        ⟨some 45, .mov (.t 10), some (42, false)⟩,
        ⟨some 46, .iaddr (.slice 1) (.t 44) (.t 45), some (42, false)⟩,
        ⟨some 47, .load false 1 (.t 46), some (42, false)⟩,
        ⟨some 48, .mget .str false (.b false) (.t 43) (.t 47), some (42, false)⟩,
        ⟨some 49, .pick (.t 42) (.k (.b true)) (.t 48), none⟩,
        ⟨some 50, .mov (.t 49), none⟩,
        ⟨some 51, .mov (.t 11), some (50, false)⟩,
        ⟨some 52, .call true 28 [(.t 51), (.k (.i .u8 32))], some (50, false)⟩,
        ⟨some 53, .bin .geq (.t 52) (.k (.i .i64 0)), some (50, false)⟩,
        ⟨some 54, .pick (.t 50) (.k (.b true)) (.t 53), none⟩,
        ⟨some 55, .mov (.t 54), none⟩,
        ⟨some 56, .mov (.t 9), some (55, false)⟩,
        ⟨some 57, .bin .gtr (.t 56) (.k (.i .i64 16384)), some (55, false)⟩,
        ⟨some 58, .pick (.t 55) (.k (.b true)) (.t 57), none⟩])
     (.cond (.t 58)
      (.seq (.reg [⟨some 59, .call true 11 [], none⟩,
         ⟨some 6, .mov (.t 59), none⟩])
      .ret)
      .skip))
    (.seq (.reg [⟨some 60, .mov (.t 8), none⟩,
       ⟨some 61, .mov (.t 0), none⟩,
       ⟨some 62, .mov (.t 10), none⟩,
       ⟨some 63, .iaddr (.slice 1) (.t 61) (.t 62), none⟩,
       ⟨some 64, .load false 1 (.t 63), none⟩,
       ⟨none, .mput .str (.t 60) (.t 64) (.k (.b true)), none⟩])
    (.reg [⟨some 65, .mov (.t 7), none⟩,
      ⟨some 66, .mov (.t 0), none⟩,
      ⟨some 67, .mov (.t 10), none⟩,
      ⟨some 68, .iaddr (.slice 1) (.t 66) (.t 67), none⟩,
      ⟨some 69, .load false 1 (.t 68), none⟩,
      ⟨some 70, .bin .add (.t 69) (.k (.s [58])), none⟩,
      ⟨some 71, .mov (.t 11), none⟩,
      ⟨some 72, .bin .add (.t 70) (.t 71), none⟩,
      ⟨some 73, .bslice false 9 1 1 [(.s [])] [(0, (.t 72))], none⟩,
      ⟨some 74, .app 9 1 (.t 65) (.t 73), none⟩,
      ⟨some 7, .mov (.t 74), none⟩])))))))
  (.reg [⟨some 75, .bin .add (.t 24) (.k (.i .i64 1)), none⟩,
    ⟨some 24, .mov (.t 75), none⟩]))))
def B10 : AC := (.seq (.reg [⟨some 6, .mov (.k (.b false)), none⟩])
  (.seq (.reg [⟨some 7, .movnil 9, none⟩])
  (.seq (.reg [⟨some 18, .mkmap, none⟩,
     ⟨some 8, .mov (.t 18), none⟩])
  (.seq (.reg [⟨some 9, .mov (.k (.i .i64 0)), none⟩])
  (.seq (.seq (.reg [⟨some 19, .mov (.t 0), none⟩,
      ⟨some 20, .len .slice (.t 19), none⟩,
      ⟨some 21, .mov (.t 1), none⟩,
      ⟨some 22, .len .slice (.t 21), none⟩,
      ⟨some 23, .mm3 false (.t 20) (.t 22) (.k (.i .i64 50)), none⟩,
      ⟨some 24, .mov (.k (.i .i64 0)), none⟩])
   (.blk 0 (.loop L10_1)))
  (.seq (.reg [⟨some 76, .mov (.t 7), none⟩,
     ⟨some 77, .call true 27 [(.t 76), (.k (.s [32]))], none⟩,
     ⟨some 12, .mov (.t 77), none⟩])
  (.seq (.seq (.reg [⟨some 78, .mov (.t 7), none⟩,
      ⟨some 79, .len .slice (.t 78), none⟩,
      ⟨some 80, .mov (.k (.i .i64 0)), none⟩])
   (.blk 2 (.loop L10_2)))
  (.seq (.reg [⟨some 104, .mov (.t 12), none⟩,
     ⟨some 105, .mov (.t 2), none⟩,
     ⟨some 106, .call true 12 [(.t 104), (.t 105)], none⟩,
     ⟨some 103, .mov (.t 106), none⟩,
     ⟨some 107, .ext (.t 103) 0, none⟩,
     ⟨some 108, .ext (.t 103) 1, none⟩,
     ⟨some 16, .mov (.t 107), none⟩,
     ⟨some 17, .mov (.t 108), none⟩])
  (.seq (.reg [⟨some 109, .mov (.t 17), none⟩,
     ⟨some 110, .mov (.t 109), none⟩,
     ⟨some 111, .mov (.t 16), some (110, false)⟩,
     ⟨some 112, .bin .eql (.t 111) (.k (.s [])), some (110, false)⟩,
     ⟨some 113, .pick (.t 110) (.k (.b true)) (.t 112), none⟩,
     ⟨some 114, .mov (.t 113), none⟩,
     ⟨some 115, .mov (.t 2), some (114, true)⟩,
     ⟨some 116, .call true 25 [(.t 115)], some (114, true)⟩,
     ⟨some 117, .bin .neq (.t 116) (.k (.i .i64 0)), some (114, true)⟩,
     ⟨some 118, .mov (.t 117), some (114, true)⟩,
     ⟨some 119, .mov (.t 17), some (118, false)⟩,
     ⟨some 120, .mov (.t 8), some (118, false)⟩,
     ⟨some 121, .mov (.t 2), some (118, false)⟩,
     ⟨some 122, .mget .str false (.b false) (.t 120) (.t 121), some (118, false)⟩,
     ⟨some 123, .eq false .bool (.t 119) (.t 122), some (118, false)⟩,
     ⟨some 124, .pick (.t 118) (.k (.b true)) (.t 123), some (114, true)⟩,
     ⟨some 125, .pick (.t 114) (.t 124) (.k (.b false)), none⟩,
     ⟨some 126, .mov (.t 125), none⟩,
     ⟨some 127, .call true 11 [], some (126, true)⟩,
     ⟨some 128, .pick (.t 126) (.t 127) (.k (.b false)), none⟩,
     ⟨some 6, .mov (.t 128), none⟩])
  .ret)))))))))
/-- tidemark/tidemarklaw02.TextMade -/
def af10 : AFunc := { n := 129, depth := 8, kl := [], res := [.tmp 6], body := B10 }

def B11 : AC := (.seq (.reg [⟨some 0, .mov (.k (.b false)), none⟩])
  (.seq (.reg [⟨some 8, .call true 12 [(.k (.s [97, 58, 49, 32, 98, 58, 50, 32, 97, 58, 51])), (.k (.s [97]))], none⟩,
     ⟨some 7, .mov (.t 8), none⟩,
     ⟨some 9, .ext (.t 7) 0, none⟩,
     ⟨some 10, .ext (.t 7) 1, none⟩,
     ⟨some 1, .mov (.t 9), none⟩,
     ⟨some 2, .mov (.t 10), none⟩])
  (.seq (.reg [⟨some 12, .call true 14 [(.k (.s [45, 55]))], none⟩,
     ⟨some 11, .mov (.t 12), none⟩,
     ⟨some 13, .ext (.t 11) 0, none⟩,
     ⟨some 14, .ext (.t 11) 1, none⟩,
     ⟨some 3, .mov (.t 13), none⟩,
     ⟨some 4, .mov (.t 14), none⟩])
  (.seq (.reg [⟨some 16, .call true 14 [(.k (.s [48, 55]))], none⟩,
     ⟨some 15, .mov (.t 16), none⟩,
     ⟨some 17, .ext (.t 15) 0, none⟩,
     ⟨some 18, .ext (.t 15) 1, none⟩,
     ⟨some 5, .mov (.t 17), none⟩,
     ⟨some 6, .mov (.t 18), none⟩])
  (.seq (.reg [⟨some 19, .mov (.t 1), none⟩,
     ⟨some 20, .bin .eql (.t 19) (.k (.s [49])), none⟩,
     ⟨some 21, .mov (.t 20), none⟩,
     ⟨some 22, .mov (.t 2), some (21, true)⟩,
     ⟨some 23, .pick (.t 21) (.t 22) (.k (.b false)), none⟩,
     ⟨some 24, .mov (.t 23), none⟩,
     ⟨some 25, .mov (.t 3), some (24, true)⟩,
     ⟨some 26, .bin .eql (.t 25) (.k (.i .i64 (-7))), some (24, true)⟩,
     ⟨some 27, .pick (.t 24) (.t 26) (.k (.b false)), none⟩,
     ⟨some 28, .mov (.t 27), none⟩,
     ⟨some 29, .mov (.t 4), some (28, true)⟩,
     ⟨some 30, .bin .eql (.t 29) (.k (.i .i64 0)), some (28, true)⟩,
     ⟨some 31, .pick (.t 28) (.t 30) (.k (.b false)), none⟩,
     ⟨some 32, .mov (.t 31), none⟩,
     ⟨some 33, .mov (.t 6), some (32, true)⟩,
     ⟨some 34, .bin .eql (.t 33) (.k (.i .i64 23)), some (32, true)⟩,
     ⟨some 35, .pick (.t 32) (.t 34) (.k (.b false)), none⟩,
     ⟨some 36, .mov (.t 35), none⟩,
     ⟨some 37, .call true 21 [(.k (.s [107]))], some (36, true)⟩,
     ⟨some 38, .bin .eql (.t 37) (.k (.i .i64 0)), some (36, true)⟩,
     ⟨some 39, .pick (.t 36) (.t 38) (.k (.b false)), none⟩,
     ⟨some 40, .mov (.t 39), none⟩,
     ⟨some 41, .call true 21 [(.k (.s []))], some (40, true)⟩,
     ⟨some 42, .bin .eql (.t 41) (.k (.i .i64 20)), some (40, true)⟩,
     ⟨some 43, .pick (.t 40) (.t 42) (.k (.b false)), none⟩,
     ⟨some 44, .mov (.t 43), none⟩,
     ⟨some 45, .call true 16 [(.k (.s [97, 44, 44, 98])), (.k (.i .i32 44))], some (44, true)⟩,
     ⟨some 46, .len .slice (.t 45), some (44, true)⟩,
     ⟨some 47, .bin .eql (.t 46) (.k (.i .i64 3)), some (44, true)⟩,
     ⟨some 48, .pick (.t 44) (.t 47) (.k (.b false)), none⟩,
     ⟨some 0, .mov (.t 48), none⟩])
  .ret)))))
/-- tidemark/tidemarklaw02.awake -/
def af11 : AFunc := { n := 49, depth := 6, kl := [], res := [.tmp 0], body := B11 }

def L12_2 : AC := (.seq (.reg [⟨some 19, .next 18, none⟩,
     ⟨some 20, .ext (.t 19) 0, none⟩])
  (.seq (.cond (.t 20)
    .skip
    (.exit 2))
  (.blk 3 (.seq (.reg [⟨some 21, .ext (.t 19) 1, none⟩,
      ⟨some 22, .ext (.t 19) 2, none⟩,
      ⟨some 8, .mov (.t 21), none⟩,
      ⟨some 9, .mov (.t 22), none⟩])
   (.seq (.reg [⟨some 23, .mov (.t 9), none⟩,
      ⟨some 24, .bin .eql (.t 23) (.k (.i .i32 58)), none⟩])
   (.cond (.t 24)
    (.seq (.seq (.reg [⟨some 25, .mov (.t 7), none⟩,
        ⟨some 26, .mov (.t 8), none⟩,
        ⟨some 27, .slc .str (.t 25) none (some (.t 26)) none, none⟩,
        ⟨some 28, .mov (.t 1), none⟩,
        ⟨some 29, .bin .eql (.t 27) (.t 28), none⟩])
     (.cond (.t 29)
      (.seq (.reg [⟨some 30, .mov (.t 7), none⟩,
         ⟨some 31, .mov (.t 8), none⟩,
         ⟨some 32, .bin .add (.t 31) (.k (.i .i64 1)), none⟩,
         ⟨some 33, .slc .str (.t 30) (some (.t 32)) none none, none⟩,
         ⟨some 4, .mov (.t 33), none⟩,
         ⟨some 5, .mov (.k (.b true)), none⟩])
      .ret)
      .skip))
    (.exit 2))
    .skip))))))
def L12_1 : AC := (.seq (.reg [⟨some 14, .bin .lss (.t 13) (.t 12), none⟩])
  (.seq (.cond (.t 14)
    .skip
    (.exit 0))
  (.seq (.blk 1 (.seq (.reg [⟨some 15, .iaddr (.slice 1) (.t 11) (.t 13), none⟩,
       ⟨some 16, .load false 1 (.t 15), none⟩,
       ⟨some 7, .mov (.t 16), none⟩])
    (.seq (.reg [⟨some 17, .mov (.t 7), none⟩,
       ⟨some 18, .range (.t 17), none⟩])
    (.blk 2 (.loop L12_2)))))
  (.reg [⟨some 34, .bin .add (.t 13) (.k (.i .i64 1)), none⟩,
    ⟨some 13, .mov (.t 34), none⟩]))))
def B12 : AC := (.seq (.reg [⟨some 4, .mov (.k (.s [])), none⟩,
     ⟨some 5, .mov (.k (.b false)), none⟩])
  (.seq (.seq (.reg [⟨some 10, .mov (.t 0), none⟩,
      ⟨some 11, .call true 16 [(.t 10), (.k (.i .i32 32))], none⟩,
      ⟨some 12, .len .slice (.t 11), none⟩,
      ⟨some 13, .mov (.k (.i .i64 0)), none⟩])
   (.blk 0 (.loop L12_1)))
  (.seq (.reg [⟨some 4, .mov (.k (.s [])), none⟩,
     ⟨some 5, .mov (.k (.b false)), none⟩])
  .ret)))
/-- tidemark/text.Field -/
def af12 : AFunc := { n := 35, depth := 6, kl := [], res := [.tmp 4, .tmp 5], body := B12 }

def L13_1 : AC := (.seq (.reg [⟨some 13, .bin .lss (.t 12) (.t 11), none⟩])
  (.seq (.cond (.t 13)
    .skip
    (.exit 0))
  (.seq (.blk 1 (.seq (.reg [⟨some 14, .iaddr (.slice 1) (.t 10) (.t 12), none⟩,
       ⟨some 15, .load false 1 (.t 14), none⟩,
       ⟨some 7, .mov (.t 15), none⟩])
    (.seq (.reg [⟨some 16, .mov (.t 7), none⟩,
       ⟨some 17, .call true 20 [(.t 16), (.k (.i .i32 58))], none⟩,
       ⟨some 8, .mov (.t 17), none⟩])
    (.seq (.reg [⟨some 18, .mov (.t 8), none⟩,
       ⟨some 19, .len .slice (.t 18), none⟩,
       ⟨some 20, .bin .gtr (.t 19) (.k (.i .i64 1)), none⟩,
       ⟨some 21, .mov (.t 20), none⟩,
       ⟨some 22, .mov (.t 8), some (21, true)⟩,
       ⟨some 23, .iaddr (.slice 1) (.t 22) (.k (.i .i64 0)), some (21, true)⟩,
       ⟨some 24, .load false 1 (.t 23), some (21, true)⟩,
       ⟨some 25, .mov (.t 1), some (21, true)⟩,
       ⟨some 26, .bin .eql (.t 24) (.t 25), some (21, true)⟩,
       ⟨some 27, .pick (.t 21) (.t 26) (.k (.b false)), none⟩])
    (.cond (.t 27)
     (.seq (.reg [⟨some 28, .mov (.t 7), none⟩,
        ⟨some 29, .mov (.t 1), none⟩,
        ⟨some 30, .len .str (.t 29), none⟩,
        ⟨some 31, .bin .add (.t 30) (.k (.i .i64 1)), none⟩,
        ⟨some 32, .slc .str (.t 28) (some (.t 31)) none none, none⟩,
        ⟨some 4, .mov (.t 32), none⟩,
        ⟨some 5, .mov (.k (.b true)), none⟩])
     .ret)
     .skip)))))
  (.reg [⟨some 33, .bin .add (.t 12) (.k (.i .i64 1)), none⟩,
    ⟨some 12, .mov (.t 33), none⟩]))))
def B13 : AC := (.seq (.reg [⟨some 4, .mov (.k (.s [])), none⟩,
     ⟨some 5, .mov (.k (.b false)), none⟩])
  (.seq (.seq (.reg [⟨some 9, .mov (.t 0), none⟩,
      ⟨some 10, .call true 20 [(.t 9), (.k (.i .i32 32))], none⟩,
      ⟨some 11, .len .slice (.t 10), none⟩,
      ⟨some 12, .mov (.k (.i .i64 0)), none⟩])
   (.blk 0 (.loop L13_1)))
  (.seq (.reg [⟨some 4, .mov (.k (.s [])), none⟩,
     ⟨some 5, .mov (.k (.b false)), none⟩])
  .ret)))
/-- tidemark/tidemarkref02.Field -/
def af13 : AFunc := { n := 34, depth := 6, kl := [], res := [.tmp 4, .tmp 5], body := B13 }

def L14_1 : AC := (.seq (.reg [⟨some 11, .next 10, none⟩,
     ⟨some 12, .ext (.t 11) 0, none⟩])
  (.seq (.cond (.t 12)
    .skip
    (.exit 0))
  (.blk 1 (.seq (.reg [⟨some 13, .ext (.t 11) 1, none⟩,
      ⟨some 14, .ext (.t 11) 2, none⟩,
      ⟨some 7, .mov (.t 13), none⟩,
      ⟨some 8, .mov (.t 14), none⟩])
   (.blk 2 (.seq (.reg [⟨some 24, .mov (.t 7), none⟩,
       ⟨some 25, .bin .eql (.t 24) (.k (.i .i64 0)), none⟩,
       ⟨some 26, .mov (.t 25), none⟩,
       ⟨some 27, .mov (.t 8), some (26, true)⟩,
       ⟨some 28, .bin .eql (.t 27) (.k (.i .i32 45)), some (26, true)⟩,
       ⟨some 29, .pick (.t 26) (.t 28) (.k (.b false)), none⟩,
       ⟨some 30, .mov (.t 29), none⟩,
       ⟨some 31, .mov (.t 0), some (30, true)⟩,
       ⟨some 32, .len .str (.t 31), some (30, true)⟩,
       ⟨some 33, .bin .gtr (.t 32) (.k (.i .i64 1)), some (30, true)⟩,
       ⟨some 34, .pick (.t 30) (.t 33) (.k (.b false)), none⟩,
       ⟨some 23, .mov (.t 34), none⟩])
    (.cond (.t 23)
     (.reg [⟨some 4, .mov (.k (.b true)), none⟩])
     (.seq (.reg [⟨some 36, .mov (.t 8), none⟩,
        ⟨some 37, .bin .lss (.t 36) (.k (.i .i32 48)), none⟩,
        ⟨some 38, .mov (.t 37), none⟩,
        ⟨some 39, .mov (.t 8), some (38, false)⟩,
        ⟨some 40, .bin .gtr (.t 39) (.k (.i .i32 57)), some (38, false)⟩,
        ⟨some 41, .pick (.t 38) (.k (.b true)) (.t 40), none⟩,
        ⟨some 42, .mov (.t 41), none⟩,
        ⟨some 43, .mov (.t 6), some (42, false)⟩,
        ⟨some 44, .bin .gtr (.t 43) (.k (.i .i64 0)), some (42, false)⟩,
        ⟨some 45, .mov (.t 44), some (42, false)⟩,
        ⟨some 46, .mov (.t 5), some (45, true)⟩,
        ⟨some 47, .bin .eql (.t 46) (.k (.i .u64 0)), some (45, true)⟩,
        ⟨some 48, .pick (.t 45) (.t 47) (.k (.b false)), some (42, false)⟩,
        ⟨some 49, .pick (.t 42) (.k (.b true)) (.t 48), none⟩,
        ⟨some 50, .mov (.t 49), none⟩,
        ⟨some 51, .mov (.t 6), some (50, false)⟩,
        ⟨some 52, .bin .gtr (.t 51) (.k (.i .i64 18)), some (50, false)⟩,
        ⟨some 53, .pick (.t 50) (.k (.b true)) (.t 52), none⟩,
        ⟨some 35, .mov (.t 53), none⟩])
     (.cond (.t 35)
      (.seq (.reg [⟨some 2, .mov (.k (.i .i64 0)), none⟩,
         ⟨some 3, .mov (.k (.i .i64 23)), none⟩])
      .ret)
      (.seq (.reg [⟨some 15, .mov (.t 5), none⟩,
         ⟨some 16, .bin .mul (.k (.i .u64 10)) (.t 15), none⟩,
         ⟨some 17, .mov (.t 8), none⟩,
         ⟨some 18, .bin .sub (.t 17) (.k (.i .i32 48)), none⟩,
         ⟨some 19, .conv (.int .u64) (.t 18), none⟩,
         ⟨some 20, .bin .add (.t 16) (.t 19), none⟩,
         ⟨some 5, .mov (.t 20), none⟩])
      (.reg [⟨some 21, .mov (.t 6), none⟩,
        ⟨some 22, .bin .add (.t 21) (.k (.i .i64 1)), none⟩,
        ⟨some 6, .mov (.t 22), none⟩])))))))))))
def B14 : AC := (.seq (.reg [⟨some 2, .mov (.k (.i .i64 0)), none⟩,
     ⟨some 3, .mov (.k (.i .i64 0)), none⟩])
  (.seq (.reg [⟨some 4, .mov (.k (.b false)), none⟩])
  (.seq (.reg [⟨some 5, .mov (.k (.i .u64 0)), none⟩])
  (.seq (.reg [⟨some 6, .mov (.k (.i .i64 0)), none⟩])
  (.seq (.seq (.reg [⟨some 9, .mov (.t 0), none⟩,
      ⟨some 10, .range (.t 9), none⟩])
   (.blk 0 (.loop L14_1)))
  (.seq (.blk 3 (.seq (.reg [⟨some 55, .mov (.t 6), none⟩,
       ⟨some 56, .bin .eql (.t 55) (.k (.i .i64 0)), none⟩,
       ⟨some 57, .mov (.t 56), none⟩,
       ⟨some 58, .mov (.t 4), some (57, false)⟩,
       ⟨some 59, .mov (.t 58), some (57, false)⟩,
       ⟨some 60, .mov (.t 5), some (59, true)⟩,
       ⟨some 61, .bin .eql (.t 60) (.k (.i .u64 0)), some (59, true)⟩,
       ⟨some 62, .pick (.t 59) (.t 61) (.k (.b false)), some (57, false)⟩,
       ⟨some 63, .pick (.t 57) (.k (.b true)) (.t 62), none⟩,
       ⟨some 54, .mov (.t 63), none⟩])
    (.cond (.t 54)
     (.seq (.reg [⟨some 2, .mov (.k (.i .i64 0)), none⟩,
        ⟨some 3, .mov (.k (.i .i64 23)), none⟩])
     .ret)
     (.seq (.reg [⟨some 65, .mov (.t 4), none⟩,
        ⟨some 66, .mov (.t 65), none⟩,
        ⟨some 67, .mov (.t 5), some (66, true)⟩,
        ⟨some 68, .bin .leq (.t 67) (.k (.i .u64 9223372036854775808)), some (66, true)⟩,
        ⟨some 69, .pick (.t 66) (.t 68) (.k (.b false)), none⟩,
        ⟨some 64, .mov (.t 69), none⟩])
     (.cond (.t 64)
      (.seq (.reg [⟨some 70, .mov (.t 5), none⟩,
         ⟨some 71, .conv (.int .i64) (.t 70), none⟩,
         ⟨some 72, .un .neg (.t 71), none⟩,
         ⟨some 2, .mov (.t 72), none⟩,
         ⟨some 3, .mov (.k (.i .i64 0)), none⟩])
      .ret)
      (.seq (.reg [⟨some 74, .mov (.t 5), none⟩,
         ⟨some 75, .bin .gtr (.t 74) (.k (.i .u64 9223372036854775807)), none⟩,
         ⟨some 73, .mov (.t 75), none⟩])
      (.cond (.t 73)
       (.seq (.reg [⟨some 2, .mov (.k (.i .i64 0)), none⟩,
          ⟨some 3, .mov (.k (.i .i64 5)), none⟩])
       .ret)
       .skip)))))))
  (.seq (.reg [⟨some 76, .mov (.t 5), none⟩,
     ⟨some 77, .conv (.int .i64) (.t 76), none⟩,
     ⟨some 2, .mov (.t 77), none⟩,
     ⟨some 3, .mov (.k (.i .i64 0)), none⟩])
  .ret)))))))
/-- tidemark/text.Number -/
def af14 : AFunc := { n := 78, depth := 7, kl := [], res := [.tmp 2, .tmp 3], body := B14 }

def L15_2 : AC := (.seq (.reg [⟨some 61, .bin .lss (.t 60) (.t 59), none⟩])
  (.seq (.cond (.t 61)
    .skip
    (.exit 2))
  (.seq (.blk 3 (.seq (.reg [⟨some 62, .mov (.t 60), none⟩,
       ⟨some 7, .mov (.t 62), none⟩])
    (.seq (.reg [⟨some 63, .mov (.t 4), none⟩,
       ⟨some 64, .mov (.t 7), none⟩,
       ⟨some 65, .idx .str (.t 63) (.t 64), none⟩,
       ⟨some 66, .bin .sub (.t 65) (.k (.i .u8 48)), none⟩,
       ⟨some 67, .conv (.int .i64) (.t 66), none⟩,
       ⟨some 8, .mov (.t 67), none⟩])
    (.seq (.seq (.reg [⟨some 68, .mov (.t 5), none⟩,
        ⟨some 69, .bin .lss (.t 68) (.k (.i .i64 (-922337203685477580))), none⟩,
        ⟨some 70, .mov (.t 69), none⟩,
        ⟨some 71, .mov (.t 5), some (70, false)⟩,
        ⟨some 72, .bin .eql (.t 71) (.k (.i .i64 (-922337203685477580))), some (70, false)⟩,
        ⟨some 73, .mov (.t 72), some (70, false)⟩,
        ⟨some 74, .mov (.t 8), some (73, true)⟩,
        ⟨some 75, .bin .gtr (.t 74) (.k (.i .i64 8)), some (73, true)⟩,
        ⟨some 76, .pick (.t 73) (.t 75) (.k (.b false)), some (70, false)⟩,
        ⟨some 77, .pick (.t 70) (.k (.b true)) (.t 76), none⟩])
     (.cond (.t 77)
      (.seq (.reg [⟨some 2, .mov (.k (.i .i64 0)), none⟩,
         ⟨some 3, .mov (.k (.i .i64 5)), none⟩])
      .ret)
      .skip))
    (.reg [⟨some 78, .mov (.t 5), none⟩,
      ⟨some 79, .bin .mul (.k (.i .i64 10)) (.t 78), none⟩,
      ⟨some 80, .mov (.t 8), none⟩,
      ⟨some 81, .bin .sub (.t 79) (.t 80), none⟩,
      ⟨some 5, .mov (.t 81), none⟩])))))
  (.reg [⟨some 82, .bin .add (.t 60) (.k (.i .i64 1)), none⟩,
    ⟨some 60, .mov (.t 82), none⟩]))))
def L15_1 : AC := (.seq (.reg [⟨some 45, .bin .lss (.t 44) (.t 43), none⟩])
  (.seq (.cond (.t 45)
    .skip
    (.exit 0))
  (.seq (.blk 1 (.seq (.reg [⟨some 46, .mov (.t 44), none⟩,
       ⟨some 6, .mov (.t 46), none⟩])
    (.seq (.reg [⟨some 47, .mov (.t 4), none⟩,
       ⟨some 48, .mov (.t 6), none⟩,
       ⟨some 49, .idx .str (.t 47) (.t 48), none⟩,
       ⟨some 50, .bin .lss (.t 49) (.k (.i .u8 48)), none⟩,
       ⟨some 51, .mov (.t 50), none⟩,
       ⟨some 52, .mov (.t 4), some (51, false)⟩,
       ⟨some 53, .mov (.t 6), some (51, false)⟩,
       ⟨some 54, .idx .str (.t 52) (.t 53), some (51, false)⟩,
       ⟨some 55, .bin .gtr (.t 54) (.k (.i .u8 57)), some (51, false)⟩,
       ⟨some 56, .pick (.t 51) (.k (.b true)) (.t 55), none⟩])
    (.cond (.t 56)
     (.seq (.reg [⟨some 2, .mov (.k (.i .i64 0)), none⟩,
        ⟨some 3, .mov (.k (.i .i64 23)), none⟩])
     .ret)
     .skip))))
  (.reg [⟨some 57, .bin .add (.t 44) (.k (.i .i64 1)), none⟩,
    ⟨some 44, .mov (.t 57), none⟩]))))
def B15 : AC := (.seq (.reg [⟨some 2, .mov (.k (.i .i64 0)), none⟩,
     ⟨some 3, .mov (.k (.i .i64 0)), none⟩])
  (.seq (.reg [⟨some 9, .mov (.t 0), none⟩,
     ⟨some 4, .mov (.t 9), none⟩])
  (.seq (.seq (.reg [⟨some 10, .mov (.t 0), none⟩,
      ⟨some 11, .len .str (.t 10), none⟩,
      ⟨some 12, .bin .gtr (.t 11) (.k (.i .i64 0)), none⟩,
      ⟨some 13, .mov (.t 12), none⟩,
      ⟨some 14, .mov (.t 0), some (13, true)⟩,
      ⟨some 15, .idx .str (.t 14) (.k (.i .i64 0)), some (13, true)⟩,
      ⟨some 16, .bin .eql (.t 15) (.k (.i .u8 45)), some (13, true)⟩,
      ⟨some 17, .pick (.t 13) (.t 16) (.k (.b false)), none⟩])
   (.cond (.t 17)
    (.reg [⟨some 18, .mov (.t 0), none⟩,
      ⟨some 19, .slc .str (.t 18) (some (.k (.i .i64 1))) none none, none⟩,
      ⟨some 4, .mov (.t 19), none⟩])
    .skip))
  (.seq (.seq (.reg [⟨some 20, .mov (.t 4), none⟩,
      ⟨some 21, .len .str (.t 20), none⟩,
      ⟨some 22, .bin .lss (.t 21) (.k (.i .i64 1)), none⟩,
      ⟨some 23, .mov (.t 22), none⟩,
      ⟨some 24, .mov (.t 4), some (23, false)⟩,
      ⟨some 25, .len .str (.t 24), some (23, false)⟩,
      ⟨some 26, .bin .gtr (.t 25) (.k (.i .i64 19)), some (23, false)⟩,
      ⟨some 27, .pick (.t 23) (.k (.b true)) (.t 26), none⟩,
      ⟨some 28, .mov (.t 27), none⟩,
      ⟨some 29, .mov (.t 4), some (28, false)⟩,
      ⟨some 30, .len .str (.t 29), some (28, false)⟩,
      ⟨some 31, .bin .gtr (.t 30) (.k (.i .i64 1)), some (28, false)⟩,
      ⟨some 32, .mov (.t 31), some (28, false)⟩,
      ⟨some 33, .mov (.t 4), some (32, true)⟩,
      ⟨some 34, .idx .str (.t 33) (.k (.i .i64 0)), some (32, true)⟩,
      ⟨some 35, .bin .eql (.t 34) (.k (.i .u8 48)), some (32, true)⟩,
      ⟨some 36, .pick (.t 32) (.t 35) (.k (.b false)), some (28, false)⟩,
      ⟨some 37, .pick (.t 28) (.k (.b true)) (.t 36), none⟩,
      ⟨some 38, .mov (.t 37), none⟩,
      ⟨some 39, .mov (.t 0), some (38, false)⟩,
      ⟨some 40, .bin .eql (.t 39) (.k (.s [45, 48])), some (38, false)⟩,
      ⟨some 41, .pick (.t 38) (.k (.b true)) (.t 40), none⟩])
   (.cond (.t 41)
    (.seq (.reg [⟨some 2, .mov (.k (.i .i64 0)), none⟩,
       ⟨some 3, .mov (.k (.i .i64 23)), none⟩])
    .ret)
    .skip))
  (.seq (.reg [⟨some 5, .mov (.k (.i .i64 0)), none⟩])
  (.seq (.seq (.reg [⟨some 42, .mov (.t 4), none⟩,
      ⟨some 43, .len .str (.t 42), none⟩,
      ⟨some 44, .mov (.k (.i .i64 0)), none⟩])
   (.blk 0 (.loop L15_1)))
  (.seq (.seq (.reg [⟨some 58, .mov (.t 4), none⟩,
      ⟨some 59, .len .str (.t 58), none⟩,
      ⟨some 60, .mov (.k (.i .i64 0)), none⟩])
   (.blk 2 (.loop L15_2)))
  (.seq (.seq (.reg [⟨some 83, .mov (.t 4), none⟩,
      ⟨some 84, .len .str (.t 83), none⟩,
      ⟨some 85, .mov (.t 0), none⟩,
      ⟨some 86, .len .str (.t 85), none⟩,
      ⟨some 87, .bin .lss (.t 84) (.t 86), none⟩])
   (.cond (.t 87)
    (.seq (.reg [⟨some 88, .mov (.t 5), none⟩,
       ⟨some 2, .mov (.t 88), none⟩,
       ⟨some 3, .mov (.k (.i .i64 0)), none⟩])
    .ret)
    .skip))
  (.seq (.seq (.reg [⟨some 89, .mov (.t 5), none⟩,
      ⟨some 90, .bin .eql (.t 89) (.k (.i .i64 (-9223372036854775808))), none⟩])
   (.cond (.t 90)
    (.seq (.reg [⟨some 2, .mov (.k (.i .i64 0)), none⟩,
       ⟨some 3, .mov (.k (.i .i64 5)), none⟩])
    .ret)
    .skip))
  (.seq (.reg [⟨some 91, .mov (.t 5), none⟩,
     ⟨some 92, .un .neg (.t 91), none⟩,
     ⟨some 2, .mov (.t 92), none⟩,
     ⟨some 3, .mov (.k (.i .i64 0)), none⟩])
  .ret))))))))))
/-- tidemark/tidemarkref02.Number -/
def af15 : AFunc := { n := 93, depth := 7, kl := [], res := [.tmp 2, .tmp 3], body := B15 }

def L16_1 : AC := (.seq (.reg [⟨some 12, .next 11, none⟩,
     ⟨some 13, .ext (.t 12) 0, none⟩])
  (.seq (.cond (.t 13)
    .skip
    (.exit 0))
  (.blk 1 (.seq (.reg [⟨some 14, .ext (.t 12) 1, none⟩,
      ⟨some 15, .ext (.t 12) 2, none⟩,
      ⟨some 8, .mov (.t 14), none⟩,
      ⟨some 9, .mov (.t 15), none⟩])
   (.seq (.seq (.reg [⟨some 16, .mov (.t 7), none⟩])
    (.cond (.t 16)
     (.reg [⟨some 17, .mov (.t 8), none⟩,
       ⟨some 6, .mov (.t 17), none⟩,
       ⟨some 7, .mov (.k (.b false)), none⟩])
     .skip))
   (.seq (.reg [⟨some 18, .mov (.t 9), none⟩,
      ⟨some 19, .mov (.t 1), none⟩,
      ⟨some 20, .bin .eql (.t 18) (.t 19), none⟩])
   (.cond (.t 20)
    (.seq (.reg [⟨some 21, .mov (.t 5), none⟩,
       ⟨some 22, .mov (.t 0), none⟩,
       ⟨some 23, .mov (.t 6), none⟩,
       ⟨some 24, .mov (.t 8), none⟩,
       ⟨some 25, .slc .str (.t 22) (some (.t 23)) (some (.t 24)) none, none⟩,
       ⟨some 26, .bslice false 9 1 1 [(.s [])] [(0, (.t 25))], none⟩,
       ⟨some 27, .app 9 1 (.t 21) (.t 26), none⟩,
       ⟨some 5, .mov (.t 27), none⟩])
    (.reg [⟨some 7, .mov (.k (.b true)), none⟩]))
    .skip)))))))
def B16 : AC := (.seq (.reg [⟨some 4, .movnil 9, none⟩])
  (.seq (.reg [⟨some 5, .movnil 9, none⟩])
  (.seq (.reg [⟨some 6, .mov (.k (.i .i64 0)), none⟩,
     ⟨some 7, .mov (.k (.b false)), none⟩])
  (.seq (.seq (.reg [⟨some 10, .mov (.t 0), none⟩,
      ⟨some 11, .range (.t 10), none⟩])
   (.blk 0 (.loop L16_1)))
  (.seq (.seq (.reg [⟨some 28, .mov (.t 7), none⟩])
   (.cond (.t 28)
    (.reg [⟨some 29, .mov (.t 0), none⟩,
      ⟨some 30, .len .str (.t 29), none⟩,
      ⟨some 6, .mov (.t 30), none⟩])
    .skip))
  (.seq (.reg [⟨some 31, .mov (.t 5), none⟩,
     ⟨some 32, .mov (.t 0), none⟩,
     ⟨some 33, .mov (.t 6), none⟩,
     ⟨some 34, .slc .str (.t 32) (some (.t 33)) none none, none⟩,
     ⟨some 35, .bslice false 9 1 1 [(.s [])] [(0, (.t 34))], none⟩,
     ⟨some 36, .app 9 1 (.t 31) (.t 35), none⟩,
     ⟨some 4, .mov (.t 36), none⟩])
  .ret))))))
/-- tidemark/text.Parts -/
def af16 : AFunc := { n := 37, depth := 6, kl := [], res := [.tmp 4], body := B16 }

def B17 : AC := (.seq (.reg [⟨some 4, .mov (.k (.b false)), none⟩])
  (.seq (.reg [⟨some 5, .mov (.t 0), none⟩,
     ⟨some 6, .len .str (.t 5), none⟩,
     ⟨some 7, .mov (.t 1), none⟩,
     ⟨some 8, .len .str (.t 7), none⟩,
     ⟨some 9, .bin .geq (.t 6) (.t 8), none⟩,
     ⟨some 10, .mov (.t 9), none⟩,
     ⟨some 11, .mov (.t 0), some (10, true)⟩,
     ⟨some 12, .mov (.t 1), some (10, true)⟩,
     ⟨some 13, .len .str (.t 12), some (10, true)⟩,
     ⟨some 14, .slc .str (.t 11) none (some (.t 13)) none, some (10, true)⟩,
     ⟨some 15, .mov (.t 1), some (10, true)⟩,
     ⟨some 16, .bin .eql (.t 14) (.t 15), some (10, true)⟩,
     ⟨some 17, .pick (.t 10) (.t 16) (.k (.b false)), none⟩,
     ⟨some 4, .mov (.t 17), none⟩])
  .ret))
/-- tidemark/text.Begins -/
def af17 : AFunc := { n := 18, depth := 5, kl := [], res := [.tmp 4], body := B17 }

def B18 : AC := (.seq (.reg [⟨some 4, .mov (.k (.b false)), none⟩])
  (.seq (.reg [⟨some 5, .mov (.t 0), none⟩,
     ⟨some 6, .mov (.t 1), none⟩,
     ⟨some 7, .call true 29 [(.t 5), (.t 6)], none⟩,
     ⟨some 4, .mov (.t 7), none⟩])
  .ret))
/-- strings.HasPrefix -/
def af18 : AFunc := { n := 8, depth := 4, kl := [], res := [.tmp 4], body := B18 }

def L19_1 : AC := (.seq (.reg [⟨some 14, .bin .lss (.t 13) (.t 12), none⟩])
  (.seq (.cond (.t 14)
    .skip
    (.exit 0))
  (.seq (.blk 1 (.seq (.reg [⟨some 15, .mov (.t 13), none⟩,
       ⟨some 5, .mov (.t 15), none⟩])
    (.seq (.reg [⟨some 16, .mov (.t 0), none⟩,
       ⟨some 17, .mov (.t 5), none⟩,
       ⟨some 18, .iaddr (.slice 1) (.t 16) (.t 17), none⟩,
       ⟨some 19, .load false 1 (.t 18), none⟩,
       ⟨some 20, .mov (.t 1), none⟩,
       ⟨some 21, .mov (.t 5), none⟩,
       ⟨some 22, .iaddr (.slice 1) (.t 20) (.t 21), none⟩,
       ⟨some 23, .load false 1 (.t 22), none⟩,
       ⟨some 24, .bin .neq (.t 19) (.t 23), none⟩])
    (.cond (.t 24)
     (.seq (.reg [⟨some 4, .mov (.k (.b false)), none⟩])
     .ret)
     .skip))))
  (.reg [⟨some 25, .bin .add (.t 13) (.k (.i .i64 1)), none⟩,
    ⟨some 13, .mov (.t 25), none⟩]))))
def B19 : AC := (.seq (.reg [⟨some 4, .mov (.k (.b false)), none⟩])
  (.seq (.seq (.reg [⟨some 6, .mov (.t 0), none⟩,
      ⟨some 7, .len .slice (.t 6), none⟩,
      ⟨some 8, .mov (.t 1), none⟩,
      ⟨some 9, .len .slice (.t 8), none⟩,
      ⟨some 10, .bin .neq (.t 7) (.t 9), none⟩])
   (.cond (.t 10)
    (.seq (.reg [⟨some 4, .mov (.k (.b false)), none⟩])
    .ret)
    .skip))
  (.seq (.seq (.reg [⟨some 11, .mov (.t 0), none⟩,
      ⟨some 12, .len .slice (.t 11), none⟩,
      ⟨some 13, .mov (.k (.i .i64 0)), none⟩])
   (.blk 0 (.loop L19_1)))
  (.seq (.reg [⟨some 4, .mov (.k (.b true)), none⟩])
  .ret))))
/-- slices.Equal[[]string,string] -/
def af19 : AFunc := { n := 26, depth := 5, kl := [], res := [.tmp 4], body := B19 }

def L20_2 : AC := (.seq (.reg [⟨some 29, .next 28, none⟩,
     ⟨some 30, .ext (.t 29) 0, none⟩])
  (.seq (.cond (.t 30)
    .skip
    (.exit 2))
  (.blk 3 (.seq (.reg [⟨some 31, .ext (.t 29) 2, none⟩,
      ⟨some 11, .mov (.t 31), none⟩])
   (.seq (.seq (.reg [⟨some 32, .mov (.t 11), none⟩,
       ⟨some 33, .mov (.t 1), none⟩,
       ⟨some 34, .bin .eql (.t 32) (.t 33), none⟩])
    (.cond (.t 34)
     (.seq (.reg [⟨some 35, .mov (.t 7), none⟩,
        ⟨some 36, .mov (.t 0), none⟩,
        ⟨some 37, .mov (.t 6), none⟩,
        ⟨some 38, .mov (.t 5), none⟩,
        ⟨some 39, .mov (.t 9), none⟩,
        ⟨some 40, .iaddr (.slice 1) (.t 38) (.t 39), none⟩,
        ⟨some 41, .load false 1 (.t 40), none⟩,
        ⟨some 42, .slc .str (.t 36) (some (.t 37)) (some (.t 41)) none, none⟩,
        ⟨some 43, .bslice false 9 1 1 [(.s [])] [(0, (.t 42))], none⟩,
        ⟨some 44, .app 9 1 (.t 35) (.t 43), none⟩,
        ⟨some 7, .mov (.t 44), none⟩])
     (.reg [⟨some 45, .mov (.t 5), none⟩,
       ⟨some 46, .mov (.t 9), none⟩,
       ⟨some 47, .bin .add (.t 46) (.k (.i .i64 1)), none⟩,
       ⟨some 48, .iaddr (.slice 1) (.t 45) (.t 47), none⟩,
       ⟨some 49, .load false 1 (.t 48), none⟩,
       ⟨some 6, .mov (.t 49), none⟩]))
     .skip))
   (.reg [⟨some 50, .mov (.t 9), none⟩,
     ⟨some 51, .bin .add (.t 50) (.k (.i .i64 1)), none⟩,
     ⟨some 9, .mov (.t 51), none⟩]))))))
def L20_1 : AC := (.seq (.reg [⟨some 15, .next 14, none⟩,
     ⟨some 16, .ext (.t 15) 0, none⟩])
  (.seq (.cond (.t 16)
    .skip
    (.exit 0))
  (.blk 1 (.seq (.reg [⟨some 17, .ext (.t 15) 1, none⟩,
      ⟨some 8, .mov (.t 17), none⟩])
   (.reg [⟨some 18, .mov (.t 5), none⟩,
     ⟨some 19, .mov (.t 8), none⟩,
     ⟨some 20, .bslice false 3 1 1 [(.i .i64 0)] [(0, (.t 19))], none⟩,
     ⟨some 21, .app 3 1 (.t 18) (.t 20), none⟩,
     ⟨some 5, .mov (.t 21), none⟩])))))
def B20 : AC := (.seq (.reg [⟨some 4, .movnil 9, none⟩])
  (.seq (.reg [⟨some 5, .movnil 3, none⟩])
  (.seq (.reg [⟨some 6, .mov (.k (.i .i64 0)), none⟩])
  (.seq (.reg [⟨some 12, .bslice false 9 1 0 [(.s [])] [], none⟩,
     ⟨some 7, .mov (.t 12), none⟩])
  (.seq (.seq (.reg [⟨some 13, .mov (.t 0), none⟩,
      ⟨some 14, .range (.t 13), none⟩])
   (.blk 0 (.loop L20_1)))
  (.seq (.reg [⟨some 22, .mov (.t 5), none⟩,
     ⟨some 23, .mov (.t 0), none⟩,
     ⟨some 24, .len .str (.t 23), none⟩,
     ⟨some 25, .bslice false 3 1 1 [(.i .i64 0)] [(0, (.t 24))], none⟩,
     ⟨some 26, .app 3 1 (.t 22) (.t 25), none⟩,
     ⟨some 5, .mov (.t 26), none⟩])
  (.seq (.reg [⟨some 9, .mov (.k (.i .i64 0)), none⟩])
  (.seq (.seq (.reg [⟨some 27, .mov (.t 0), none⟩,
      ⟨some 28, .range (.t 27), none⟩])
   (.blk 2 (.loop L20_2)))
  (.seq (.reg [⟨some 52, .mov (.t 7), none⟩,
     ⟨some 53, .mov (.t 0), none⟩,
     ⟨some 54, .mov (.t 6), none⟩,
     ⟨some 55, .slc .str (.t 53) (some (.t 54)) none none, none⟩,
     ⟨some 56, .bslice false 9 1 1 [(.s [])] [(0, (.t 55))], none⟩,
     ⟨some 57, .app 9 1 (.t 52) (.t 56), none⟩,
     ⟨some 4, .mov (.t 57), none⟩])
  .ret)))))))))
/-- tidemark/tidemarkref02.Parts -/
def af20 : AFunc := { n := 58, depth := 6, kl := [], res := [.tmp 4], body := B20 }

def B21 : AC := (.seq (.reg [⟨some 2, .mov (.k (.i .i64 0)), none⟩])
  (.seq (.seq (.reg [⟨some 3, .mov (.t 0), none⟩,
      ⟨some 4, .call true 30 [(.t 3), (.k (.i .i64 1)), (.k (.i .i64 24)), (.f 31)], none⟩,
      ⟨some 5, .un .not (.t 4), none⟩])
   (.cond (.t 5)
    (.seq (.reg [⟨some 2, .mov (.k (.i .i64 20)), none⟩])
    .ret)
    .skip))
  (.seq (.reg [⟨some 2, .mov (.k (.i .i64 0)), none⟩])
  .ret)))
/-- tidemark/text.Key -/
def af21 : AFunc := { n := 6, depth := 3, kl := [], res := [.tmp 2], body := B21 }

def B22 : AC := (.seq (.reg [⟨some 2, .mov (.k (.i .i64 0)), none⟩])
  (.seq (.seq (.reg [⟨some 3, .mov (.t 0), none⟩,
      ⟨some 4, .call true 32 [(.t 3), (.k (.i .i64 1)), (.k (.i .i64 24))], none⟩,
      ⟨some 5, .un .not (.t 4), none⟩])
   (.cond (.t 5)
    (.seq (.reg [⟨some 2, .mov (.k (.i .i64 20)), none⟩])
    .ret)
    .skip))
  (.seq (.reg [⟨some 2, .mov (.k (.i .i64 0)), none⟩])
  .ret)))
/-- tidemark/tidemarkref02.Key -/
def af22 : AFunc := { n := 6, depth := 3, kl := [], res := [.tmp 2], body := B22 }

def B23 : AC := (.seq (.reg [⟨some 2, .mov (.k (.i .i64 0)), none⟩])
  (.seq (.seq (.reg [⟨some 3, .mov (.t 0), none⟩,
      ⟨some 4, .call true 30 [(.t 3), (.k (.i .i64 0)), (.k (.i .i64 48)), (.f 31)], none⟩,
      ⟨some 5, .un .not (.t 4), none⟩])
   (.cond (.t 5)
    (.seq (.reg [⟨some 2, .mov (.k (.i .i64 21)), none⟩])
    .ret)
    .skip))
  (.seq (.reg [⟨some 2, .mov (.k (.i .i64 0)), none⟩])
  .ret)))
/-- tidemark/text.Value -/
def af23 : AFunc := { n := 6, depth := 3, kl := [], res := [.tmp 2], body := B23 }

def B24 : AC := (.seq (.reg [⟨some 2, .mov (.k (.i .i64 0)), none⟩])
  (.seq (.seq (.reg [⟨some 3, .mov (.t 0), none⟩,
      ⟨some 4, .call true 32 [(.t 3), (.k (.i .i64 0)), (.k (.i .i64 48))], none⟩,
      ⟨some 5, .un .not (.t 4), none⟩])
   (.cond (.t 5)
    (.seq (.reg [⟨some 2, .mov (.k (.i .i64 21)), none⟩])
    .ret)
    .skip))
  (.seq (.reg [⟨some 2, .mov (.k (.i .i64 0)), none⟩])
  .ret)))
/-- tidemark/tidemarkref02.Value -/
def af24 : AFunc := { n := 6, depth := 3, kl := [], res := [.tmp 2], body := B24 }

def B25 : AC := (.seq (.reg [⟨some 2, .mov (.k (.i .i64 0)), none⟩])
  (.seq (.seq (.reg [⟨some 3, .mov (.t 0), none⟩,
      ⟨some 4, .call true 30 [(.t 3), (.k (.i .i64 1)), (.k (.i .i64 8)), (.f 33)], none⟩,
      ⟨some 5, .un .not (.t 4), none⟩])
   (.cond (.t 5)
    (.seq (.reg [⟨some 2, .mov (.k (.i .i64 22)), none⟩])
    .ret)
    .skip))
  (.seq (.reg [⟨some 2, .mov (.k (.i .i64 0)), none⟩])
  .ret)))
/-- tidemark/text.Name -/
def af25 : AFunc := { n := 6, depth := 3, kl := [], res := [.tmp 2], body := B25 }

def L26_1 : AC := (.seq (.reg [⟨some 16, .bin .lss (.t 15) (.t 14), none⟩])
  (.seq (.cond (.t 16)
    .skip
    (.exit 0))
  (.seq (.blk 1 (.seq (.reg [⟨some 17, .mov (.t 15), none⟩,
       ⟨some 4, .mov (.t 17), none⟩])
    (.reg [⟨some 18, .mov (.t 3), none⟩,
      ⟨some 19, .mov (.t 18), none⟩,
      ⟨some 20, .mov (.t 0), some (19, true)⟩,
      ⟨some 21, .mov (.t 4), some (19, true)⟩,
      ⟨some 22, .idx .str (.t 20) (.t 21), some (19, true)⟩,
      ⟨some 23, .bin .geq (.t 22) (.k (.i .u8 97)), some (19, true)⟩,
      ⟨some 24, .pick (.t 19) (.t 23) (.k (.b false)), none⟩,
      ⟨some 25, .mov (.t 24), none⟩,
      ⟨some 26, .mov (.t 0), some (25, true)⟩,
      ⟨some 27, .mov (.t 4), some (25, true)⟩,
      ⟨some 28, .idx .str (.t 26) (.t 27), some (25, true)⟩,
      ⟨some 29, .bin .leq (.t 28) (.k (.i .u8 122)), some (25, true)⟩,
      ⟨some 30, .pick (.t 25) (.t 29) (.k (.b false)), none⟩,
      ⟨some 3, .mov (.t 30), none⟩])))
  (.reg [⟨some 31, .bin .add (.t 15) (.k (.i .i64 1)), none⟩,
    ⟨some 15, .mov (.t 31), none⟩]))))
def B26 : AC := (.seq (.reg [⟨some 2, .mov (.k (.i .i64 0)), none⟩])
  (.seq (.reg [⟨some 5, .mov (.t 0), none⟩,
     ⟨some 6, .len .str (.t 5), none⟩,
     ⟨some 7, .bin .geq (.t 6) (.k (.i .i64 1)), none⟩,
     ⟨some 8, .mov (.t 7), none⟩,
     ⟨some 9, .mov (.t 0), some (8, true)⟩,
     ⟨some 10, .len .str (.t 9), some (8, true)⟩,
     ⟨some 11, .bin .leq (.t 10) (.k (.i .i64 8)), some (8, true)⟩,
     ⟨some 12, .pick (.t 8) (.t 11) (.k (.b false)), none⟩,
     ⟨some 3, .mov (.t 12), none⟩])
  (.seq (.seq (.reg [⟨some 13, .mov (.t 0), none⟩,
      ⟨some 14, .len .str (.t 13), none⟩,
      ⟨some 15, .mov (.k (.i .i64 0)), none⟩])
   (.blk 0 (.loop L26_1)))
  (.seq (.seq (.reg [⟨some 32, .mov (.t 3), none⟩,
      ⟨some 33, .un .not (.t 32), none⟩])
   (.cond (.t 33)
    (.seq (.reg [⟨some 2, .mov (.k (.i .i64 22)), none⟩])
    .ret)
    .skip))
  (.seq (.reg [⟨some 2, .mov (.k (.i .i64 0)), none⟩])
  .ret)))))
/-- tidemark/tidemarkref02.Name -/
def af26 : AFunc := { n := 34, depth := 6, kl := [], res := [.tmp 2], body := B26 }

def L27_2 : AC := (.seq (.reg [⟨some 66, .bin .lss (.t 65) (.t 64), none⟩])
  (.seq (.cond (.t 66)
    .skip
    (.exit 3))
  (.seq (.blk 4 (.seq (.reg [⟨some 67, .iaddr (.slice 1) (.t 63) (.t 65), none⟩,
       ⟨some 68, .load false 1 (.t 67), none⟩,
       ⟨some 10, .mov (.t 68), none⟩])
    (.seq (.reg [⟨some 69, .mov (.t 1), none⟩,
       ⟨some 70, .call false 35 [(.t 8), (.t 69)], none⟩])
    (.reg [⟨some 71, .mov (.t 10), none⟩,
      ⟨some 72, .call false 35 [(.t 8), (.t 71)], none⟩]))))
  (.reg [⟨some 73, .bin .add (.t 65) (.k (.i .i64 1)), none⟩,
    ⟨some 65, .mov (.t 73), none⟩]))))
def L27_1 : AC := (.seq (.reg [⟨some 42, .bin .lss (.t 41) (.t 40), none⟩])
  (.seq (.cond (.t 42)
    .skip
    (.exit 1))
  (.seq (.blk 2 (.seq (.reg [⟨some 43, .iaddr (.slice 1) (.t 39) (.t 41), none⟩,
       ⟨some 44, .load false 1 (.t 43), none⟩,
       ⟨some 7, .mov (.t 44), none⟩])
    (.seq (.seq (.reg [⟨some 45, .mov (.t 7), none⟩,
        ⟨some 46, .len .str (.t 45), none⟩,
        ⟨some 47, .mov (.t 5), none⟩,
        ⟨some 48, .bin .sub (.k (.i .i64 9223372036854775807)) (.t 47), none⟩,
        ⟨some 49, .bin .gtr (.t 46) (.t 48), none⟩])
     (.cond (.t 49)
      (.reg [⟨some 50, .mkif 9 (.k (.s [115, 116, 114, 105, 110, 103, 115, 58, 32, 74, 111, 105, 110, 32, 111, 117, 116, 112, 117, 116, 32, 108, 101, 110, 103, 116, 104, 32, 111, 118, 101, 114, 102, 108, 111, 119])), none⟩,
        ⟨none, .bad, none⟩])
      .skip))
    (.reg [⟨some 51, .mov (.t 5), none⟩,
      ⟨some 52, .mov (.t 7), none⟩,
      ⟨some 53, .len .str (.t 52), none⟩,
      ⟨some 54, .bin .add (.t 51) (.t 53), none⟩,
      ⟨some 5, .mov (.t 54), none⟩]))))
  (.reg [⟨some 55, .bin .add (.t 41) (.k (.i .i64 1)), none⟩,
    ⟨some 41, .mov (.t 55), none⟩]))))
def B27 : AC := (.seq (.reg [⟨some 4, .mov (.k (.s [])), none⟩])
  (.seq (.seq (.reg [⟨some 11, .mov (.t 0), none⟩,
      ⟨some 12, .len .slice (.t 11), none⟩])
   (.blk 0 (.seq (.reg [⟨some 14, .bin .eql (.t 12) (.k (.i .i64 0)), none⟩,
       ⟨some 13, .mov (.t 14), none⟩])
    (.cond (.t 13)
     (.seq (.reg [⟨some 4, .mov (.k (.s [])), none⟩])
     .ret)
     (.seq (.reg [⟨some 16, .bin .eql (.t 12) (.k (.i .i64 1)), none⟩,
        ⟨some 15, .mov (.t 16), none⟩])
     (.cond (.t 15)
      (.seq (.reg [⟨some 17, .mov (.t 0), none⟩,
         ⟨some 18, .iaddr (.slice 1) (.t 17) (.k (.i .i64 0)), none⟩,
         ⟨some 19, .load false 1 (.t 18), none⟩,
         ⟨some 4, .mov (.t 19), none⟩])
      .ret)
      .skip))))))
  (.seq (.reg [⟨some 5, .mov (.k (.i .i64 0)), none⟩])
  (.seq (.seq (.reg [⟨some 20, .mov (.t 1), none⟩,
      ⟨some 21, .len .str (.t 20), none⟩,
      ⟨some 22, .bin .gtr (.t 21) (.k (.i .i64 0)), none⟩])
   (.cond (.t 22)
    (.seq (.seq (.reg [⟨some 23, .mov (.t 1), none⟩,
        ⟨some 24, .len .str (.t 23), none⟩,
        ⟨some 25, .mov (.t 0), none⟩,
        ⟨some 26, .len .slice (.t 25), none⟩,
        ⟨some 27, .bin .sub (.t 26) (.k (.i .i64 1)), none⟩,
        ⟨some 28, .bin .quo (.k (.i .i64 9223372036854775807)) (.t 27), none⟩,
        ⟨some 29, .bin .geq (.t 24) (.t 28), none⟩])
     (.cond (.t 29)
      (.reg [⟨some 30, .mkif 9 (.k (.s [115, 116, 114, 105, 110, 103, 115, 58, 32, 74, 111, 105, 110, 32, 111, 117, 116, 112, 117, 116, 32, 108, 101, 110, 103, 116, 104, 32, 111, 118, 101, 114, 102, 108, 111, 119])), none⟩,
        ⟨none, .bad, none⟩])
      .skip))
    (.reg [⟨some 31, .mov (.t 5), none⟩,
      ⟨some 32, .mov (.t 1), none⟩,
      ⟨some 33, .len .str (.t 32), none⟩,
      ⟨some 34, .mov (.t 0), none⟩,
      ⟨some 35, .len .slice (.t 34), none⟩,
      ⟨some 36, .bin .sub (.t 35) (.k (.i .i64 1)), none⟩,
      ⟨some 37, .bin .mul (.t 33) (.t 36), none⟩,
      ⟨some 38, .bin .add (.t 31) (.t 37), none⟩,
      ⟨some 5, .mov (.t 38), none⟩]))
    .skip))
  (.seq (.seq (.reg [⟨some 39, .mov (.t 0), none⟩,
      ⟨some 40, .len .slice (.t 39), none⟩,
      ⟨some 41, .mov (.k (.i .i64 0)), none⟩])
   (.blk 1 (.loop L27_1)))
  (.seq (.reg [⟨some 8, .alloc 48 [.nilp, (.sl [] 0 .nil)], none⟩])
  (.seq (.reg [⟨some 56, .mov (.t 5), none⟩,
     ⟨some 57, .call false 34 [(.t 8), (.t 56)], none⟩])
  (.seq (.reg [⟨some 58, .mov (.t 0), none⟩,
     ⟨some 59, .iaddr (.slice 1) (.t 58) (.k (.i .i64 0)), none⟩,
     ⟨some 60, .load false 1 (.t 59), none⟩,
     ⟨some 61, .call false 35 [(.t 8), (.t 60)], none⟩])
  (.seq (.seq (.reg [⟨some 62, .mov (.t 0), none⟩,
      ⟨some 63, .slc (.slice 1) (.t 62) (some (.k (.i .i64 1))) none none, none⟩,
      ⟨some 64, .len .slice (.t 63), none⟩,
      ⟨some 65, .mov (.k (.i .i64 0)), none⟩])
   (.blk 3 (.loop L27_2)))
  (.seq (.reg [⟨some 74, .call false 36 [(.t 8)], none⟩,
     ⟨some 4, .mov (.t 74), none⟩])
  .ret))))))))))
/-- strings.Join -/
def af27 : AFunc := { n := 75, depth := 7, kl := [], res := [.tmp 4], body := B27 }

def B28 : AC := (.seq (.reg [⟨some 4, .mov (.k (.i .i64 0)), none⟩])
  (.seq (.reg [⟨some 5, .mov (.t 0), none⟩,
     ⟨some 6, .mov (.t 1), none⟩,
     ⟨some 7, .call true 37 [(.t 5), (.t 6)], none⟩,
     ⟨some 4, .mov (.t 7), none⟩])
  .ret))
/-- strings.IndexByte -/
def af28 : AFunc := { n := 8, depth := 4, kl := [], res := [.tmp 4], body := B28 }

def B29 : AC := (.seq (.reg [⟨some 4, .mov (.k (.b false)), none⟩])
  (.seq (.reg [⟨some 5, .mov (.t 0), none⟩,
     ⟨some 6, .len .str (.t 5), none⟩,
     ⟨some 7, .mov (.t 1), none⟩,
     ⟨some 8, .len .str (.t 7), none⟩,
     ⟨some 9, .bin .geq (.t 6) (.t 8), none⟩,
     ⟨some 10, .mov (.t 9), none⟩,
     ⟨some 11, .mov (.t 0), some (10, true)⟩,
     ⟨some 12, .mov (.t 1), some (10, true)⟩,
     ⟨some 13, .len .str (.t 12), some (10, true)⟩,
     ⟨some 14, .slc .str (.t 11) none (some (.t 13)) none, some (10, true)⟩,
     ⟨some 15, .mov (.t 1), some (10, true)⟩,
     ⟨some 16, .bin .eql (.t 14) (.t 15), some (10, true)⟩,
     ⟨some 17, .pick (.t 10) (.t 16) (.k (.b false)), none⟩,
     ⟨some 4, .mov (.t 17), none⟩])
  .ret))
/-- internal/stringslite.HasPrefix -/
def af29 : AFunc := { n := 18, depth := 5, kl := [], res := [.tmp 4], body := B29 }

def L30_1 : AC := (.seq (.reg [⟨some 14, .next 13, none⟩,
     ⟨some 15, .ext (.t 14) 0, none⟩])
  (.seq (.cond (.t 15)
    .skip
    (.exit 0))
  (.blk 1 (.seq (.reg [⟨some 16, .ext (.t 14) 2, none⟩,
      ⟨some 11, .mov (.t 16), none⟩])
   (.seq (.reg [⟨some 17, .mov (.t 9), none⟩,
      ⟨some 18, .bin .add (.t 17) (.k (.i .i64 1)), none⟩,
      ⟨some 9, .mov (.t 18), none⟩])
   (.seq (.reg [⟨some 19, .mov (.t 9), none⟩,
      ⟨some 20, .mov (.t 2), none⟩,
      ⟨some 21, .bin .gtr (.t 19) (.t 20), none⟩,
      ⟨some 22, .mov (.t 21), none⟩,
      ⟨some 23, .mov (.t 3), some (22, false)⟩,
      ⟨some 24, .mov (.t 11), some (22, false)⟩,
      ⟨some 25, .callv true (.t 23) [(.t 24)], some (22, false)⟩,
      ⟨some 26, .un .not (.t 25), some (22, false)⟩,
      ⟨some 27, .pick (.t 22) (.k (.b true)) (.t 26), none⟩])
   (.cond (.t 27)
    (.seq (.reg [⟨some 8, .mov (.k (.b false)), none⟩])
    .ret)
    .skip)))))))
def B30 : AC := (.seq (.reg [⟨some 8, .mov (.k (.b false)), none⟩])
  (.seq (.reg [⟨some 9, .mov (.k (.i .i64 0)), none⟩])
  (.seq (.seq (.reg [⟨some 12, .mov (.t 0), none⟩,
      ⟨some 13, .range (.t 12), none⟩])
   (.blk 0 (.loop L30_1)))
  (.seq (.reg [⟨some 28, .mov (.t 9), none⟩,
     ⟨some 29, .mov (.t 1), none⟩,
     ⟨some 30, .bin .geq (.t 28) (.t 29), none⟩,
     ⟨some 8, .mov (.t 30), none⟩])
  .ret))))
/-- tidemark/text.all -/
def af30 : AFunc := { n := 31, depth := 5, kl := [], res := [.tmp 8], body := B30 }

def B31 : AC := (.seq (.reg [⟨some 2, .mov (.k (.b false)), none⟩])
  (.seq (.reg [⟨some 3, .mov (.t 0), none⟩,
     ⟨some 4, .bin .geq (.t 3) (.k (.i .i32 32)), none⟩,
     ⟨some 5, .mov (.t 4), none⟩,
     ⟨some 6, .mov (.t 0), some (5, true)⟩,
     ⟨some 7, .bin .neq (.t 6) (.k (.i .i32 127)), some (5, true)⟩,
     ⟨some 8, .pick (.t 5) (.t 7) (.k (.b false)), none⟩,
     ⟨some 9, .mov (.t 8), none⟩,
     ⟨some 10, .mov (.t 0), some (9, true)⟩,
     ⟨some 11, .bin .neq (.t 10) (.k (.i .i32 65533)), some (9, true)⟩,
     ⟨some 12, .pick (.t 9) (.t 11) (.k (.b false)), none⟩,
     ⟨some 2, .mov (.t 12), none⟩])
  .ret))
/-- tidemark/text.plain -/
def af31 : AFunc := { n := 13, depth := 4, kl := [], res := [.tmp 2], body := B31 }

def L32_1 : AC := (.seq (.reg [⟨some 26, .bin .lss (.t 25) (.t 24), none⟩])
  (.seq (.cond (.t 26)
    .skip
    (.exit 0))
  (.seq (.blk 1 (.seq (.reg [⟨some 27, .iaddr (.slice 1) (.t 23) (.t 25), none⟩,
       ⟨some 28, .load false 1 (.t 27), none⟩,
       ⟨some 10, .mov (.t 28), none⟩])
    (.reg [⟨some 29, .mov (.t 8), none⟩,
      ⟨some 30, .mov (.t 29), none⟩,
      ⟨some 31, .mov (.t 10), some (30, true)⟩,
      ⟨some 32, .call true 39 [(.t 31)], some (30, true)⟩,
      ⟨some 33, .pick (.t 30) (.t 32) (.k (.b false)), none⟩,
      ⟨some 8, .mov (.t 33), none⟩])))
  (.reg [⟨some 34, .bin .add (.t 25) (.k (.i .i64 1)), none⟩,
    ⟨some 25, .mov (.t 34), none⟩]))))
def B32 : AC := (.seq (.reg [⟨some 6, .mov (.k (.b false)), none⟩])
  (.seq (.reg [⟨some 11, .mov (.t 0), none⟩,
     ⟨some 12, .call true 38 [(.t 11)], none⟩,
     ⟨some 7, .mov (.t 12), none⟩])
  (.seq (.reg [⟨some 13, .mov (.t 7), none⟩,
     ⟨some 14, .len .slice (.t 13), none⟩,
     ⟨some 15, .mov (.t 1), none⟩,
     ⟨some 16, .bin .geq (.t 14) (.t 15), none⟩,
     ⟨some 17, .mov (.t 16), none⟩,
     ⟨some 18, .mov (.t 7), some (17, true)⟩,
     ⟨some 19, .len .slice (.t 18), some (17, true)⟩,
     ⟨some 20, .mov (.t 2), some (17, true)⟩,
     ⟨some 21, .bin .leq (.t 19) (.t 20), some (17, true)⟩,
     ⟨some 22, .pick (.t 17) (.t 21) (.k (.b false)), none⟩,
     ⟨some 8, .mov (.t 22), none⟩])
  (.seq (.seq (.reg [⟨some 23, .mov (.t 7), none⟩,
      ⟨some 24, .len .slice (.t 23), none⟩,
      ⟨some 25, .mov (.k (.i .i64 0)), none⟩])
   (.blk 0 (.loop L32_1)))
  (.seq (.reg [⟨some 35, .mov (.t 8), none⟩,
     ⟨some 6, .mov (.t 35), none⟩])
  .ret)))))
/-- tidemark/tidemarkref02.many -/
def af32 : AFunc := { n := 36, depth := 6, kl := [], res := [.tmp 6], body := B32 }

def B33 : AC := (.seq (.reg [⟨some 2, .mov (.k (.b false)), none⟩])
  (.seq (.reg [⟨some 3, .mov (.t 0), none⟩,
     ⟨some 4, .bin .geq (.t 3) (.k (.i .i32 97)), none⟩,
     ⟨some 5, .mov (.t 4), none⟩,
     ⟨some 6, .mov (.t 0), some (5, true)⟩,
     ⟨some 7, .bin .leq (.t 6) (.k (.i .i32 122)), some (5, true)⟩,
     ⟨some 8, .pick (.t 5) (.t 7) (.k (.b false)), none⟩,
     ⟨some 2, .mov (.t 8), none⟩])
  .ret))
/-- tidemark/text.letter -/
def af33 : AFunc := { n := 9, depth := 4, kl := [], res := [.tmp 2], body := B33 }

def B34 : AC := (.seq (.reg [⟨some 4, .mov (.t 0), none⟩,
     ⟨some 5, .call false 40 [(.t 4)], none⟩])
  (.seq (.seq (.reg [⟨some 6, .mov (.t 1), none⟩,
      ⟨some 7, .bin .lss (.t 6) (.k (.i .i64 0)), none⟩])
   (.cond (.t 7)
    (.reg [⟨some 8, .mkif 9 (.k (.s [115, 116, 114, 105, 110, 103, 115, 46, 66, 117, 105, 108, 100, 101, 114, 46, 71, 114, 111, 119, 58, 32, 110, 101, 103, 97, 116, 105, 118, 101, 32, 99, 111, 117, 110, 116])), none⟩,
      ⟨none, .bad, none⟩])
    .skip))
  (.seq (.reg [⟨some 9, .mov (.t 0), none⟩,
     ⟨some 10, .nilck (.t 9), none⟩,
     ⟨some 11, .faddr 1 (.t 10), none⟩,
     ⟨some 12, .load false 1 (.t 11), none⟩,
     ⟨some 13, .cap (.t 12), none⟩,
     ⟨some 14, .mov (.t 0), none⟩,
     ⟨some 15, .nilck (.t 14), none⟩,
     ⟨some 16, .faddr 1 (.t 15), none⟩,
     ⟨some 17, .load false 1 (.t 16), none⟩,
     ⟨some 18, .len .slice (.t 17), none⟩,
     ⟨some 19, .bin .sub (.t 13) (.t 18), none⟩,
     ⟨some 20, .mov (.t 1), none⟩,
     ⟨some 21, .bin .lss (.t 19) (.t 20), none⟩])
  (.cond (.t 21)
   (.reg [⟨some 22, .mov (.t 0), none⟩,
     ⟨some 23, .mov (.t 1), none⟩,
     ⟨some 24, .call false 41 [(.t 22), (.t 23)], none⟩])
   .skip))))
/-- (*strings.Builder).Grow -/
def af34 : AFunc := { n := 25, depth := 5, kl := [], res := [], body := B34 }

def B35 : AC := (.seq (.reg [⟨some 4, .mov (.k (.i .i64 0)), none⟩,
     ⟨some 5, .mov (.k .nili), none⟩])
  (.seq (.reg [⟨some 6, .mov (.t 0), none⟩,
     ⟨some 7, .call false 40 [(.t 6)], none⟩])
  (.seq (.reg [⟨some 8, .mov (.t 0), none⟩,
     ⟨some 9, .mov (.t 0), none⟩,
     ⟨some 10, .nilck (.t 9), none⟩,
     ⟨some 11, .faddr 1 (.t 10), none⟩,
     ⟨some 12, .load false 1 (.t 11), none⟩,
     ⟨some 13, .mov (.t 1), none⟩,
     ⟨some 14, .app 5 1 (.t 12) (.t 13), none⟩,
     ⟨some 15, .nilck (.t 8), none⟩,
     ⟨some 16, .faddr 1 (.t 15), none⟩,
     ⟨none, .store 1 (.t 16) (.t 14), none⟩])
  (.seq (.reg [⟨some 17, .mov (.t 1), none⟩,
     ⟨some 18, .len .str (.t 17), none⟩,
     ⟨some 4, .mov (.t 18), none⟩,
     ⟨some 5, .mov (.k .nili), none⟩])
  .ret))))
/-- (*strings.Builder).WriteString -/
def af35 : AFunc := { n := 19, depth := 5, kl := [], res := [.tmp 4, .tmp 5], body := B35 }

def B36 : AC := (.seq (.reg [⟨some 2, .mov (.k (.s [])), none⟩])
  (.seq (.reg [⟨some 3, .mov (.t 0), none⟩,
     ⟨some 4, .nilck (.t 3), none⟩,
     ⟨some 5, .faddr 1 (.t 4), none⟩,
     ⟨some 6, .load false 1 (.t 5), none⟩,
     ⟨some 7, .sdata (.t 6), none⟩,
     ⟨some 8, .mov (.t 0), none⟩,
     ⟨some 9, .nilck (.t 8), none⟩,
     ⟨some 10, .faddr 1 (.t 9), none⟩,
     ⟨some 11, .load false 1 (.t 10), none⟩,
     ⟨some 12, .len .slice (.t 11), none⟩,
     ⟨some 13, .ustr 5 (.t 7) (.t 12), none⟩,
     ⟨some 2, .mov (.t 13), none⟩])
  .ret))
/-- (*strings.Builder).String -/
def af36 : AFunc := { n := 14, depth := 4, kl := [], res := [.tmp 2], body := B36 }

def B37 : AC := (.seq (.reg [⟨some 4, .mov (.k (.i .i64 0)), none⟩])
  (.seq (.reg [⟨some 5, .mov (.t 0), none⟩,
     ⟨some 6, .mov (.t 1), none⟩,
     ⟨some 7, .call true 42 [(.t 5), (.t 6)], none⟩,
     ⟨some 4, .mov (.t 7), none⟩])
  .ret))
/-- internal/stringslite.IndexByte -/
def af37 : AFunc := { n := 8, depth := 4, kl := [], res := [.tmp 4], body := B37 }

def L38_1 : AC := (.seq (.reg [⟨some 8, .next 7, none⟩,
     ⟨some 9, .ext (.t 8) 0, none⟩])
  (.seq (.cond (.t 9)
    .skip
    (.exit 0))
  (.blk 1 (.seq (.reg [⟨some 10, .ext (.t 8) 2, none⟩,
      ⟨some 5, .mov (.t 10), none⟩])
   (.reg [⟨some 11, .mov (.t 3), none⟩,
     ⟨some 12, .mov (.t 5), none⟩,
     ⟨some 13, .bslice false 21 1 1 [(.i .i32 0)] [(0, (.t 12))], none⟩,
     ⟨some 14, .app 21 1 (.t 11) (.t 13), none⟩,
     ⟨some 3, .mov (.t 14), none⟩])))))
def B38 : AC := (.seq (.reg [⟨some 2, .movnil 21, none⟩])
  (.seq (.reg [⟨some 3, .movnil 21, none⟩])
  (.seq (.seq (.reg [⟨some 6, .mov (.t 0), none⟩,
      ⟨some 7, .range (.t 6), none⟩])
   (.blk 0 (.loop L38_1)))
  (.seq (.reg [⟨some 15, .mov (.t 3), none⟩,
     ⟨some 2, .mov (.t 15), none⟩])
  .ret))))
/-- tidemark/tidemarkref02.Runes -/
def af38 : AFunc := { n := 16, depth := 5, kl := [], res := [.tmp 2], body := B38 }

def B39 : AC := (.seq (.reg [⟨some 2, .mov (.k (.b false)), none⟩])
  (.seq (.reg [⟨some 3, .mov (.t 0), none⟩,
     ⟨some 4, .bin .gtr (.t 3) (.k (.i .i32 31)), none⟩,
     ⟨some 5, .mov (.t 4), none⟩,
     ⟨some 6, .mov (.t 0), some (5, true)⟩,
     ⟨some 7, .bin .neq (.t 6) (.k (.i .i32 127)), some (5, true)⟩,
     ⟨some 8, .pick (.t 5) (.t 7) (.k (.b false)), none⟩,
     ⟨some 9, .mov (.t 8), none⟩,
     ⟨some 10, .mov (.t 0), some (9, true)⟩,
     ⟨some 11, .bin .neq (.t 10) (.k (.i .i32 65533)), some (9, true)⟩,
     ⟨some 12, .pick (.t 9) (.t 11) (.k (.b false)), none⟩,
     ⟨some 2, .mov (.t 12), none⟩])
  .ret))
/-- tidemark/tidemarkref02.plain -/
def af39 : AFunc := { n := 13, depth := 4, kl := [], res := [.tmp 2], body := B39 }

def B40 : AC := (.seq (.reg [⟨some 2, .mov (.t 0), none⟩,
     ⟨some 3, .nilck (.t 2), none⟩,
     ⟨some 4, .faddr 0 (.t 3), none⟩,
     ⟨some 5, .load false 1 (.t 4), none⟩,
     ⟨some 6, .eq false .ptr (.t 5) (.k .nilp), none⟩])
  (.cond (.t 6)
   (.reg [⟨some 7, .mov (.t 0), none⟩,
     ⟨some 8, .mov (.t 0), none⟩,
     ⟨some 9, .conv .uns (.t 8), none⟩,
     ⟨some 10, .noesc 43 (.t 9), none⟩,
     ⟨some 11, .conv (.toPtr 48 2) (.t 10), none⟩,
     ⟨some 12, .nilck (.t 7), none⟩,
     ⟨some 13, .faddr 0 (.t 12), none⟩,
     ⟨none, .store 1 (.t 13) (.t 11), none⟩])
   (.seq (.reg [⟨some 14, .mov (.t 0), none⟩,
      ⟨some 15, .nilck (.t 14), none⟩,
      ⟨some 16, .faddr 0 (.t 15), none⟩,
      ⟨some 17, .load false 1 (.t 16), none⟩,
      ⟨some 18, .mov (.t 0), none⟩,
      ⟨some 19, .eq true .ptr (.t 17) (.t 18), none⟩])
   (.cond (.t 19)
    .refuse
    .skip))))
/-- (*strings.Builder).copyCheck -/
def af40 : AFunc := { n := 20, depth := 5, kl := [], res := [], body := B40 }

def B41 : AC := (.seq (.reg [⟨some 5, .mov (.t 0), none⟩,
     ⟨some 6, .nilck (.t 5), none⟩,
     ⟨some 7, .faddr 1 (.t 6), none⟩,
     ⟨some 8, .load false 1 (.t 7), none⟩,
     ⟨some 9, .cap (.t 8), none⟩,
     ⟨some 10, .bin .mul (.k (.i .i64 2)) (.t 9), none⟩,
     ⟨some 11, .mov (.t 1), none⟩,
     ⟨some 12, .bin .add (.t 10) (.t 11), none⟩,
     ⟨some 13, .call true 44 [(.t 12)], none⟩,
     ⟨some 14, .mov (.t 0), none⟩,
     ⟨some 15, .nilck (.t 14), none⟩,
     ⟨some 16, .faddr 1 (.t 15), none⟩,
     ⟨some 17, .load false 1 (.t 16), none⟩,
     ⟨some 18, .len .slice (.t 17), none⟩,
     ⟨some 19, .slc (.slice 1) (.t 13) none (some (.t 18)) none, none⟩,
     ⟨some 4, .mov (.t 19), none⟩])
  (.seq (.reg [⟨some 20, .mov (.t 4), none⟩,
     ⟨some 21, .mov (.t 0), none⟩,
     ⟨some 22, .nilck (.t 21), none⟩,
     ⟨some 23, .faddr 1 (.t 22), none⟩,
     ⟨some 24, .load false 1 (.t 23), none⟩,
     ⟨some 25, .copy 1 (.t 20) (.t 24), none⟩])
  (.reg [⟨some 26, .mov (.t 0), none⟩,
    ⟨some 27, .mov (.t 4), none⟩,
    ⟨some 28, .nilck (.t 26), none⟩,
    ⟨some 29, .faddr 1 (.t 28), none⟩,
    ⟨none, .store 1 (.t 29) (.t 27), none⟩])))
/-- (*strings.Builder).grow -/
def af41 : AFunc := { n := 30, depth := 5, kl := [], res := [], body := B41 }

def kn : Known := ⟨[43]⟩

def lst : List (Nat × AFunc) := [(3, af3), (4, af4), (5, af5), (6, af6), (7, af7), (8, af8), (9, af9), (10, af10), (11, af11), (12, af12), (13, af13), (14, af14), (15, af15), (16, af16), (17, af17), (18, af18), (19, af19), (20, af20), (21, af21), (22, af22), (23, af23), (24, af24), (25, af25), (26, af26), (27, af27), (28, af28), (29, af29), (30, af30), (31, af31), (32, af32), (33, af33), (34, af34), (35, af35), (36, af36), (37, af37), (38, af38), (39, af39), (40, af40), (41, af41)]
theorem lst_ok : lst.all (fun x => fnOk Try.prog kn x.1 x.2) = true := by kernel_rfl
def tab (g : FuncId) : Option AFunc := al lst g

end Go.Proofs.Ytkibkodlbjhjfaa
