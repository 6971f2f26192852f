/- The abstract interpreter's code of the functions that the laws of this seat reach. Printed by a program. -/
import Derived.Test.YtlicphklkpbkdaaGreatAi08
namespace Go.Proofs.YtlicphklkpbkdaaGreat
open Go Ai

def L10_1 : AC := (.seq (.reg [⟨some 23, .bin .lss (.t 22) (.t 21), none⟩])
  (.seq (.cond (.t 23)
    .skip
    (.exit 0))
  (.seq (.blk 1 (.seq (.reg [⟨some 24, .iaddr (.slice 1) (.t 20) (.t 22), none⟩,
       ⟨some 25, .load false 1 (.t 24), none⟩,
       ⟨some 8, .mov (.t 25), none⟩])
    (.seq (.reg [⟨some 27, .mov (.t 8), none⟩,
       ⟨some 28, .mov (.t 2), none⟩,
       ⟨some 29, .call false 50 [(.t 27), (.t 28)], none⟩,
       ⟨some 26, .mov (.t 29), none⟩,
       ⟨some 30, .ext (.t 26) 0, none⟩,
       ⟨some 31, .ext (.t 26) 1, none⟩,
       ⟨some 9, .mov (.t 30), none⟩,
       ⟨some 10, .mov (.t 31), none⟩])
    (.seq (.reg [⟨some 33, .mov (.t 8), none⟩,
       ⟨some 34, .mov (.t 0), none⟩,
       ⟨some 35, .mov (.t 0), none⟩,
       ⟨some 36, .mov (.t 0), none⟩,
       ⟨some 37, .call false 36 [(.t 33), (.t 34), (.t 35), (.t 36)], none⟩,
       ⟨some 32, .mov (.t 37), none⟩,
       ⟨some 38, .ext (.t 32) 0, none⟩,
       ⟨some 39, .ext (.t 32) 1, none⟩,
       ⟨some 40, .ext (.t 32) 2, none⟩,
       ⟨some 11, .mov (.t 38), none⟩,
       ⟨some 12, .mov (.t 39), none⟩,
       ⟨some 13, .mov (.t 40), none⟩])
    (.seq (.reg [⟨some 41, .mov (.t 8), none⟩,
       ⟨some 42, .mov (.t 0), none⟩,
       ⟨some 43, .mov (.t 1), none⟩,
       ⟨some 44, .call false 51 [(.t 41), (.t 42), (.t 43)], none⟩,
       ⟨some 45, .build [(.i .i64 0), (.i .i64 0)] [(0, 1, (.k (.i .i64 6)))], none⟩,
       ⟨some 46, .eq true (.struct [(0, 1, false, .int), (1, 1, false, .int)]) (.t 44) (.t 45), none⟩,
       ⟨some 47, .mov (.t 46), none⟩,
       ⟨some 48, .mov (.t 8), some (47, false)⟩,
       ⟨some 49, .call false 37 [(.t 48)], some (47, false)⟩,
       ⟨some 50, .mov (.t 8), some (47, false)⟩,
       ⟨some 51, .call false 26 [(.t 50)], some (47, false)⟩,
       ⟨some 52, .bin .add (.t 49) (.t 51), some (47, false)⟩,
       ⟨some 53, .mov (.t 12), some (47, false)⟩,
       ⟨some 54, .bin .add (.t 52) (.t 53), some (47, false)⟩,
       ⟨some 55, .mov (.t 9), some (47, false)⟩,
       ⟨some 56, .len .slice (.t 55), some (47, false)⟩,
       ⟨some 57, .bin .add (.t 54) (.t 56), some (47, false)⟩,
       ⟨some 58, .mov (.t 11), some (47, false)⟩,
       ⟨some 59, .len .slice (.t 58), some (47, false)⟩,
       ⟨some 60, .bin .add (.t 57) (.t 59), some (47, false)⟩,
       ⟨some 61, .mov (.t 8), some (47, false)⟩,
       ⟨some 62, .call false 28 [(.t 61), (.k (.s [])), (.k (.s []))], some (47, false)⟩,
       ⟨some 63, .len .slice (.t 62), some (47, false)⟩,
       ⟨some 64, .bin .add (.t 60) (.t 63), some (47, false)⟩,
       ⟨some 65, .mov (.t 8), some (47, false)⟩,
       ⟨some 66, .call false 34 [(.t 65)], some (47, false)⟩,
       ⟨some 67, .len .slice (.t 66), some (47, false)⟩,
       ⟨some 68, .bin .add (.t 64) (.t 67), some (47, false)⟩,
       ⟨some 69, .mov (.t 8), some (47, false)⟩,
       ⟨some 70, .call false 30 [(.t 69)], some (47, false)⟩,
       ⟨some 71, .len .slice (.t 70), some (47, false)⟩,
       ⟨some 72, .bin .add (.t 68) (.t 71), some (47, false)⟩,
       ⟨some 73, .mov (.t 8), some (47, false)⟩,
       ⟨some 74, .call false 32 [(.t 73)], some (47, false)⟩,
       ⟨some 75, .len .slice (.t 74), some (47, false)⟩,
       ⟨some 76, .bin .add (.t 72) (.t 75), some (47, false)⟩,
       ⟨some 77, .mov (.t 8), some (47, false)⟩,
       ⟨some 78, .call false 40 [(.t 77)], some (47, false)⟩,
       ⟨some 79, .len .slice (.t 78), some (47, false)⟩,
       ⟨some 80, .bin .add (.t 76) (.t 79), some (47, false)⟩,
       ⟨some 81, .mov (.t 8), some (47, false)⟩,
       ⟨some 82, .call false 52 [(.t 81)], some (47, false)⟩,
       ⟨some 83, .len .slice (.t 82), some (47, false)⟩,
       ⟨some 84, .bin .add (.t 80) (.t 83), some (47, false)⟩,
       ⟨some 85, .bin .neq (.t 84) (.k (.i .i64 0)), some (47, false)⟩,
       ⟨some 86, .pick (.t 47) (.k (.b true)) (.t 85), none⟩,
       ⟨some 87, .mov (.t 86), none⟩,
       ⟨some 88, .mov (.t 10), some (87, false)⟩,
       ⟨some 89, .bin .neq (.t 88) (.k (.i .i64 6)), some (87, false)⟩,
       ⟨some 90, .pick (.t 87) (.k (.b true)) (.t 89), none⟩,
       ⟨some 91, .mov (.t 90), none⟩,
       ⟨some 92, .mov (.t 13), some (91, false)⟩,
       ⟨some 93, .bin .neq (.t 92) (.k (.i .i64 6)), some (91, false)⟩,
       ⟨some 94, .pick (.t 91) (.k (.b true)) (.t 93), none⟩])
    (.cond (.t 94)
     (.seq (.reg [⟨some 6, .mov (.k (.b false)), none⟩])
     .ret)
     .skip))))))
  (.reg [⟨some 95, .bin .add (.t 22) (.k (.i .i64 1)), none⟩,
    ⟨some 22, .mov (.t 95), none⟩]))))
def B10 : AC := (.seq (.reg [⟨some 6, .mov (.k (.b false)), none⟩])
  (.seq (.seq (.reg [⟨some 14, .mov (.t 1), none⟩,
      ⟨some 15, .len .slice (.t 14), none⟩,
      ⟨some 16, .bin .gtr (.t 15) (.k (.i .i64 16384)), none⟩])
   (.cond (.t 16)
    (.seq (.reg [⟨some 17, .call true 15 [], none⟩,
       ⟨some 6, .mov (.t 17), none⟩])
    .ret)
    .skip))
  (.seq (.seq (.reg [⟨some 18, .build [.nilp, .nilp, .nilp, .nilp, .nilp, (.i .i64 0), (.i .i64 0)] [], none⟩,
      ⟨some 19, .box 110 (.t 18), none⟩,
      ⟨some 20, .bslice false 49 1 2 [.nilp] [(0, (.k .nilp)), (1, (.t 19))], none⟩,
      ⟨some 21, .len .slice (.t 20), none⟩,
      ⟨some 22, .mov (.k (.i .i64 0)), none⟩])
   (.blk 0 (.loop L10_1)))
  (.seq (.reg [⟨some 96, .call true 15 [], none⟩,
     ⟨some 6, .mov (.t 96), none⟩])
  .ret))))
/-- tidemark/tidemarklaw15.MachineNobody -/
def af10 : AFunc := { n := 97, depth := 7, kl := [], res := [.tmp 6], body := B10 }

def B15 : AC := (.seq (.reg [⟨some 0, .mov (.k (.b false)), none⟩])
  (.seq (.reg [⟨some 12, .call false 24 [], none⟩,
     ⟨some 1, .mov (.t 12), none⟩])
  (.seq (.reg [⟨some 13, .mov (.t 1), none⟩,
     ⟨some 14, .build [(.i .i64 0), (.i .i64 0), (.i .i64 0), (.sl [] 0 .nil), (.sl [] 0 .nil), (.s []), (.i .i64 0), (.s []), (.s []), (.i .i64 0), (.s []), (.s []), (.sl [] 0 .nil), (.i .i64 0), (.i .i64 0), (.i .i64 0), (.i .i64 0), (.sl [] 0 .nil), (.sl [] 0 .nil)] [(0, 1, (.k (.i .i64 1)))], none⟩,
     ⟨some 15, .call false 25 [(.t 13), (.t 14)], none⟩,
     ⟨some 2, .lalloc [(.i .i64 0), (.i .i64 0)] [2], none⟩,
     ⟨none, .store 2 (.t 2) (.t 15), none⟩])
  (.seq (.reg [⟨some 16, .call true 61 [(.k (.s [97])), (.k (.s [49]))], none⟩,
     ⟨some 17, .bslice false 58 3 1 [(.s []), (.b false), (.s [])] [(0, (.t 16))], none⟩,
     ⟨some 18, .build [(.i .i64 0), (.i .i64 0), (.i .i64 0), (.sl [] 0 .nil), (.sl [] 0 .nil), (.s []), (.i .i64 0), (.s []), (.s []), (.i .i64 0), (.s []), (.s []), (.sl [] 0 .nil), (.i .i64 0), (.i .i64 0), (.i .i64 0), (.i .i64 0), (.sl [] 0 .nil), (.sl [] 0 .nil)] [(0, 1, (.k (.i .i64 2))), (1, 1, (.k (.i .i64 1))), (2, 1, (.k (.i .i64 1))), (4, 1, (.t 17))], none⟩,
     ⟨some 3, .lalloc [(.i .i64 0), (.i .i64 0), (.i .i64 0), (.sl [] 0 .nil), (.sl [] 0 .nil), (.s []), (.i .i64 0), (.s []), (.s []), (.i .i64 0), (.s []), (.s []), (.sl [] 0 .nil), (.i .i64 0), (.i .i64 0), (.i .i64 0), (.i .i64 0), (.sl [] 0 .nil), (.sl [] 0 .nil)] [3], none⟩,
     ⟨none, .store 19 (.t 3) (.t 18), none⟩])
  (.seq (.regd [(⟨some 19, .mov (.t 1), none⟩, []),
     (⟨some 20, .load true 19 (.t 3), none⟩, [0]),
     (⟨some 21, .call false 25 [(.t 19), (.t 20)], none⟩, []),
     (⟨some 22, .mov (.t 1), none⟩, [0, 1, 2]),
     (⟨some 23, .load true 19 (.t 3), none⟩, [0, 1, 2, 3]),
     (⟨some 24, .call false 25 [(.t 22), (.t 23)], none⟩, []),
     (⟨some 4, .lalloc [(.i .i64 0), (.i .i64 0)] [4], none⟩, [0, 1, 2, 3, 4, 5]),
     (⟨some 5, .lalloc [(.i .i64 0), (.i .i64 0)] [5], none⟩, [0, 1, 2, 3, 4, 5, 6]),
     (⟨none, .store 2 (.t 4) (.t 21), none⟩, []),
     (⟨none, .store 2 (.t 5) (.t 24), none⟩, [])])
  (.seq (.reg [⟨some 25, .mov (.t 1), none⟩,
     ⟨some 26, .build [(.i .i64 0), (.i .i64 0), (.i .i64 0), (.sl [] 0 .nil), (.sl [] 0 .nil), (.s []), (.i .i64 0), (.s []), (.s []), (.i .i64 0), (.s []), (.s []), (.sl [] 0 .nil), (.i .i64 0), (.i .i64 0), (.i .i64 0), (.i .i64 0), (.sl [] 0 .nil), (.sl [] 0 .nil)] [(0, 1, (.k (.i .i64 6))), (1, 1, (.k (.i .i64 1))), (2, 1, (.k (.i .i64 2)))], none⟩,
     ⟨some 27, .call false 25 [(.t 25), (.t 26)], none⟩,
     ⟨some 6, .lalloc [(.i .i64 0), (.i .i64 0)] [6], none⟩,
     ⟨none, .store 2 (.t 6) (.t 27), none⟩])
  (.seq (.reg [⟨some 28, .mov (.t 1), none⟩,
     ⟨some 29, .call true 61 [(.k (.s [98])), (.k (.s [50]))], none⟩,
     ⟨some 30, .bslice false 58 3 1 [(.s []), (.b false), (.s [])] [(0, (.t 29))], none⟩,
     ⟨some 31, .build [(.i .i64 0), (.i .i64 0), (.i .i64 0), (.sl [] 0 .nil), (.sl [] 0 .nil), (.s []), (.i .i64 0), (.s []), (.s []), (.i .i64 0), (.s []), (.s []), (.sl [] 0 .nil), (.i .i64 0), (.i .i64 0), (.i .i64 0), (.i .i64 0), (.sl [] 0 .nil), (.sl [] 0 .nil)] [(0, 1, (.k (.i .i64 10))), (14, 1, (.k (.i .i64 7))), (4, 1, (.t 30))], none⟩,
     ⟨some 32, .call false 25 [(.t 28), (.t 31)], none⟩,
     ⟨some 7, .lalloc [(.i .i64 0), (.i .i64 0)] [7], none⟩,
     ⟨none, .store 2 (.t 7) (.t 32), none⟩])
  (.seq (.reg [⟨some 33, .mov (.t 1), none⟩,
     ⟨some 34, .build [(.i .i64 0), (.i .i64 0), (.i .i64 0), (.sl [] 0 .nil), (.sl [] 0 .nil), (.s []), (.i .i64 0), (.s []), (.s []), (.i .i64 0), (.s []), (.s []), (.sl [] 0 .nil), (.i .i64 0), (.i .i64 0), (.i .i64 0), (.i .i64 0), (.sl [] 0 .nil), (.sl [] 0 .nil)] [(0, 1, (.k (.i .i64 10))), (15, 1, (.k (.i .i64 5))), (14, 1, (.k (.i .i64 9)))], none⟩,
     ⟨some 35, .call false 25 [(.t 33), (.t 34)], none⟩,
     ⟨some 8, .lalloc [(.i .i64 0), (.i .i64 0)] [8], none⟩,
     ⟨none, .store 2 (.t 8) (.t 35), none⟩])
  (.seq (.reg [⟨some 37, .mov (.t 1), none⟩,
     ⟨some 38, .call false 36 [(.t 37), (.k (.i .i64 1)), (.k (.i .i64 4)), (.k (.i .i64 9))], none⟩,
     ⟨some 36, .mov (.t 38), none⟩,
     ⟨some 39, .ext (.t 36) 0, none⟩,
     ⟨some 40, .ext (.t 36) 1, none⟩,
     ⟨some 41, .ext (.t 36) 2, none⟩,
     ⟨some 9, .mov (.t 39), none⟩,
     ⟨some 10, .mov (.t 40), none⟩,
     ⟨some 11, .mov (.t 41), none⟩])
  (.seq (.reg [⟨some 42, .load true 2 (.t 2), none⟩,
     ⟨some 43, .build [(.i .i64 0), (.i .i64 0)] [(1, 1, (.k (.i .i64 1)))], none⟩,
     ⟨some 44, .eq false (.struct [(0, 1, false, .int), (1, 1, false, .int)]) (.t 42) (.t 43), none⟩,
     ⟨some 45, .mov (.t 44), none⟩,
     ⟨some 46, .load true 2 (.t 4), some (45, true)⟩,
     ⟨some 47, .build [(.i .i64 0), (.i .i64 0)] [], some (45, true)⟩,
     ⟨some 48, .eq false (.struct [(0, 1, false, .int), (1, 1, false, .int)]) (.t 46) (.t 47), some (45, true)⟩,
     ⟨some 49, .pick (.t 45) (.t 48) (.k (.b false)), none⟩,
     ⟨some 50, .mov (.t 49), none⟩,
     ⟨some 51, .load true 2 (.t 5), some (50, true)⟩,
     ⟨some 52, .load true 2 (.t 4), some (50, true)⟩,
     ⟨some 53, .eq false (.struct [(0, 1, false, .int), (1, 1, false, .int)]) (.t 51) (.t 52), some (50, true)⟩,
     ⟨some 54, .pick (.t 50) (.t 53) (.k (.b false)), none⟩,
     ⟨some 55, .mov (.t 54), none⟩,
     ⟨some 56, .load true 2 (.t 6), some (55, true)⟩,
     ⟨some 57, .build [(.i .i64 0), (.i .i64 0)] [(1, 1, (.k (.i .i64 1)))], some (55, true)⟩,
     ⟨some 58, .eq false (.struct [(0, 1, false, .int), (1, 1, false, .int)]) (.t 56) (.t 57), some (55, true)⟩,
     ⟨some 59, .pick (.t 55) (.t 58) (.k (.b false)), none⟩,
     ⟨some 60, .mov (.t 59), none⟩,
     ⟨some 61, .load true 2 (.t 7), some (60, true)⟩,
     ⟨some 62, .build [(.i .i64 0), (.i .i64 0)] [(1, 1, (.k (.i .i64 7)))], some (60, true)⟩,
     ⟨some 63, .eq false (.struct [(0, 1, false, .int), (1, 1, false, .int)]) (.t 61) (.t 62), some (60, true)⟩,
     ⟨some 64, .pick (.t 60) (.t 63) (.k (.b false)), none⟩,
     ⟨some 65, .mov (.t 64), none⟩,
     ⟨some 66, .load true 2 (.t 8), some (65, true)⟩,
     ⟨some 67, .build [(.i .i64 0), (.i .i64 0)] [(0, 1, (.k (.i .i64 101))), (1, 1, (.k (.i .i64 7)))], some (65, true)⟩,
     ⟨some 68, .eq false (.struct [(0, 1, false, .int), (1, 1, false, .int)]) (.t 66) (.t 67), some (65, true)⟩,
     ⟨some 69, .pick (.t 65) (.t 68) (.k (.b false)), none⟩,
     ⟨some 70, .mov (.t 69), none⟩,
     ⟨some 71, .mov (.t 1), some (70, true)⟩,
     ⟨some 72, .call false 28 [(.t 71), (.k (.s [])), (.k (.s []))], some (70, true)⟩,
     ⟨some 73, .len .slice (.t 72), some (70, true)⟩,
     ⟨some 74, .bin .eql (.t 73) (.k (.i .i64 2)), some (70, true)⟩,
     ⟨some 75, .pick (.t 70) (.t 74) (.k (.b false)), none⟩,
     ⟨some 76, .mov (.t 75), none⟩,
     ⟨some 77, .mov (.t 11), some (76, true)⟩,
     ⟨some 78, .bin .eql (.t 77) (.k (.i .i64 0)), some (76, true)⟩,
     ⟨some 79, .pick (.t 76) (.t 78) (.k (.b false)), none⟩,
     ⟨some 80, .mov (.t 79), none⟩,
     ⟨some 81, .mov (.t 10), some (80, true)⟩,
     ⟨some 82, .bin .eql (.t 81) (.k (.i .i64 6)), some (80, true)⟩,
     ⟨some 83, .pick (.t 80) (.t 82) (.k (.b false)), none⟩,
     ⟨some 84, .mov (.t 83), none⟩,
     ⟨some 85, .mov (.t 9), some (84, true)⟩,
     ⟨some 86, .len .slice (.t 85), some (84, true)⟩,
     ⟨some 87, .bin .eql (.t 86) (.k (.i .i64 1)), some (84, true)⟩,
     ⟨some 88, .pick (.t 84) (.t 87) (.k (.b false)), none⟩,
     ⟨some 89, .mov (.t 88), none⟩,
     ⟨some 90, .mov (.t 9), some (89, true)⟩,
     ⟨some 91, .iaddr (.slice 6) (.t 90) (.k (.i .i64 0)), some (89, true)⟩,
     ⟨some 92, .faddr 1 (.t 91), some (89, true)⟩,
     ⟨some 93, .load false 1 (.t 92), some (89, true)⟩,
     ⟨some 94, .bin .eql (.t 93) (.k (.s [98])), some (89, true)⟩,
     ⟨some 95, .pick (.t 89) (.t 94) (.k (.b false)), none⟩,
     ⟨some 96, .mov (.t 95), none⟩,
     ⟨some 97, .mov (.t 9), some (96, true)⟩,
     ⟨some 98, .iaddr (.slice 6) (.t 97) (.k (.i .i64 0)), some (96, true)⟩,
     ⟨some 99, .faddr 0 (.t 98), some (96, true)⟩,
     ⟨some 100, .load false 1 (.t 99), some (96, true)⟩,
     ⟨some 101, .bin .eql (.t 100) (.k (.i .i64 5)), some (96, true)⟩,
     ⟨some 102, .pick (.t 96) (.t 101) (.k (.b false)), none⟩,
     ⟨some 0, .mov (.t 102), none⟩])
  .ret))))))))))
/-- tidemark/tidemarklaw15.awake -/
def af15 : AFunc := { n := 103, depth := 7, kl := [(2, [2]), (3, [3]), (4, [4]), (5, [5]), (6, [6]), (7, [7]), (8, [8])], res := [.tmp 0], body := B15 }

def B17 : AC := (.seq (.reg [⟨some 2, .lalloc [(.i .i64 0), (.i .i64 0), (.i .i64 0), (.sl [] 0 .nil), (.sl [] 0 .nil), (.s []), (.i .i64 0), (.s []), (.s []), (.i .i64 0), (.s []), (.s []), (.sl [] 0 .nil), (.i .i64 0), (.i .i64 0), (.i .i64 0), (.i .i64 0), (.sl [] 0 .nil), (.sl [] 0 .nil)] [2], none⟩,
     ⟨some 3, .mov (.k (.i .i64 0)), none⟩])
  (.seq (.reg [⟨some 8, .mov (.t 0), none⟩,
     ⟨some 9, .call false 62 [(.t 8)], none⟩,
     ⟨some 4, .mov (.t 9), none⟩])
  (.seq (.reg [⟨some 10, .mov (.t 4), none⟩,
     ⟨some 11, .call false 63 [(.t 10)], none⟩,
     ⟨some 12, .mov (.t 4), none⟩,
     ⟨some 13, .call false 63 [(.t 12)], none⟩,
     ⟨some 14, .mov (.t 4), none⟩,
     ⟨some 15, .call false 63 [(.t 14)], none⟩,
     ⟨some 16, .mov (.t 4), none⟩,
     ⟨some 17, .call false 63 [(.t 16)], none⟩,
     ⟨some 18, .mov (.t 4), none⟩,
     ⟨some 19, .call false 63 [(.t 18)], none⟩,
     ⟨some 20, .mov (.t 4), none⟩,
     ⟨some 21, .call false 63 [(.t 20)], none⟩,
     ⟨some 22, .mov (.t 4), none⟩,
     ⟨some 23, .call false 63 [(.t 22)], none⟩,
     ⟨some 24, .build [(.i .i64 0), (.i .i64 0), (.i .i64 0), (.sl [] 0 .nil), (.sl [] 0 .nil), (.s []), (.i .i64 0), (.s []), (.s []), (.i .i64 0), (.s []), (.s []), (.sl [] 0 .nil), (.i .i64 0), (.i .i64 0), (.i .i64 0), (.i .i64 0), (.sl [] 0 .nil), (.sl [] 0 .nil)] [(0, 1, (.t 11)), (1, 1, (.t 13)), (2, 1, (.t 15)), (13, 1, (.t 17)), (14, 1, (.t 19)), (15, 1, (.t 21)), (16, 1, (.t 23))], none⟩,
     ⟨some 5, .lalloc [(.i .i64 0), (.i .i64 0), (.i .i64 0), (.sl [] 0 .nil), (.sl [] 0 .nil), (.s []), (.i .i64 0), (.s []), (.s []), (.i .i64 0), (.s []), (.s []), (.sl [] 0 .nil), (.i .i64 0), (.i .i64 0), (.i .i64 0), (.i .i64 0), (.sl [] 0 .nil), (.sl [] 0 .nil)] [5, 29, 30, 33, 40, 46], none⟩,
     ⟨none, .store 19 (.t 5) (.t 24), none⟩])
  (.seq (.reg [⟨some 25, .mov (.t 4), none⟩,
     ⟨some 26, .call false 64 [(.t 25), (.k (.i .i64 6))], none⟩,
     ⟨some 27, .mov (.t 4), none⟩,
     ⟨some 28, .call false 64 [(.t 27), (.k (.i .i64 32))], none⟩,
     ⟨some 29, .faddr 3 (.t 5), none⟩,
     ⟨none, .store 1 (.t 29) (.t 26), none⟩,
     ⟨some 30, .faddr 4 (.t 5), none⟩,
     ⟨none, .store 1 (.t 30) (.t 28), none⟩])
  (.seq (.reg [⟨some 31, .mov (.t 4), none⟩,
     ⟨some 32, .call false 65 [(.t 31)], none⟩,
     ⟨some 33, .faddr 5 (.t 5), none⟩,
     ⟨none, .store 4 (.t 33) (.t 32), none⟩])
  (.seq (.reg [⟨some 35, .mov (.t 4), none⟩,
     ⟨some 36, .call false 66 [(.t 35)], none⟩,
     ⟨some 34, .mov (.t 36), none⟩,
     ⟨some 37, .ext (.t 34) 0, none⟩,
     ⟨some 38, .ext (.t 34) 1, none⟩,
     ⟨some 6, .lalloc [(.i .i64 0), (.s []), (.s []), (.sl [] 0 .nil)] [6], none⟩,
     ⟨none, .store 4 (.t 6) (.t 37), none⟩,
     ⟨some 7, .mov (.t 38), none⟩])
  (.seq (.reg [⟨some 39, .load true 4 (.t 6), none⟩,
     ⟨some 40, .faddr 9 (.t 5), none⟩,
     ⟨none, .store 4 (.t 40) (.t 39), none⟩])
  (.seq (.reg [⟨some 41, .mov (.t 4), none⟩,
     ⟨some 42, .call false 67 [(.t 41)], none⟩,
     ⟨some 43, .mov (.t 4), none⟩,
     ⟨some 44, .call false 67 [(.t 43)], none⟩,
     ⟨some 45, .build [(.sl [] 0 .nil), (.sl [] 0 .nil)] [(0, 1, (.t 42)), (1, 1, (.t 44))], none⟩,
     ⟨some 46, .faddr 17 (.t 5), none⟩,
     ⟨none, .store 2 (.t 46) (.t 45), none⟩])
  (.seq (.seq (.reg [⟨some 47, .mov (.t 7), none⟩,
      ⟨some 48, .un .not (.t 47), none⟩,
      ⟨some 49, .mov (.t 48), none⟩,
      ⟨some 50, .mov (.t 4), some (49, false)⟩,
      ⟨some 51, .call false 68 [(.t 50)], some (49, false)⟩,
      ⟨some 52, .bin .neq (.t 51) (.k (.i .i64 0)), some (49, false)⟩,
      ⟨some 53, .pick (.t 49) (.k (.b true)) (.t 52), none⟩,
      ⟨some 54, .mov (.t 53), none⟩,
      ⟨some 55, .mov (.t 0), some (54, false)⟩,
      ⟨some 56, .len .slice (.t 55), some (54, false)⟩,
      ⟨some 57, .bin .gtr (.t 56) (.k (.i .i64 8192)), some (54, false)⟩,
      ⟨some 58, .pick (.t 54) (.k (.b true)) (.t 57), none⟩,
      ⟨some 59, .mov (.t 58), none⟩,
      ⟨some 60, .load true 19 (.t 5), some (59, false)⟩,
      ⟨some 61, .call true 69 [(.t 60)], some (59, false)⟩,
      ⟨some 62, .bin .neq (.t 61) (.k (.i .i64 0)), some (59, false)⟩,
      ⟨some 63, .pick (.t 59) (.k (.b true)) (.t 62), none⟩])
   (.cond (.t 63)
    (.seq (.reg [⟨some 64, .build [(.i .i64 0), (.i .i64 0), (.i .i64 0), (.sl [] 0 .nil), (.sl [] 0 .nil), (.s []), (.i .i64 0), (.s []), (.s []), (.i .i64 0), (.s []), (.s []), (.sl [] 0 .nil), (.i .i64 0), (.i .i64 0), (.i .i64 0), (.i .i64 0), (.sl [] 0 .nil), (.sl [] 0 .nil)] [], none⟩,
       ⟨none, .store 19 (.t 2) (.t 64), none⟩,
       ⟨some 3, .mov (.k (.i .i64 100)), none⟩])
    .ret)
    .skip))
  (.seq (.reg [⟨some 65, .load true 19 (.t 5), none⟩,
     ⟨none, .store 19 (.t 2) (.t 65), none⟩,
     ⟨some 3, .mov (.k (.i .i64 0)), none⟩])
  .ret))))))))))
/-- tidemark/machine.Get -/
def af17 : AFunc := { n := 66, depth := 7, kl := [(2, [2]), (5, [5, 29, 30, 33, 40, 46]), (6, [6])], res := [.cell 2 true 19, .tmp 3], body := B17 }

def L22_1 : AC := (.seq (.reg [⟨some 60, .bin .lss (.t 59) (.t 58), none⟩])
  (.seq (.cond (.t 60)
    .skip
    (.exit 0))
  (.seq (.blk 1 (.seq (.reg [⟨some 61, .iaddr (.slice 1) (.t 57) (.t 59), none⟩,
       ⟨some 62, .load false 1 (.t 61), none⟩,
       ⟨some 9, .mov (.t 62), none⟩])
    (.reg [⟨some 63, .mov (.t 5), none⟩,
      ⟨some 64, .mov (.t 9), none⟩,
      ⟨some 65, .len .slice (.t 64), none⟩,
      ⟨some 66, .call false 82 [(.t 63), (.t 65)], none⟩,
      ⟨some 67, .mov (.t 9), none⟩,
      ⟨some 68, .call false 78 [(.t 66), (.t 67)], none⟩,
      ⟨some 5, .mov (.t 68), none⟩])))
  (.reg [⟨some 69, .bin .add (.t 59) (.k (.i .i64 1)), none⟩,
    ⟨some 59, .mov (.t 69), none⟩]))))
def B22 : AC := (.seq (.reg [⟨some 1, .lbox (.t 0) [1, 15, 17, 19, 21, 23, 25, 27, 32, 35, 39, 43, 51, 52, 54, 55], none⟩,
     ⟨some 2, .mov (.k (.sl [] 0 .nil)), none⟩,
     ⟨some 3, .mov (.k (.i .i64 0)), none⟩])
  (.seq (.seq (.reg [⟨some 10, .load true 19 (.t 1), none⟩,
      ⟨some 11, .call true 69 [(.t 10)], none⟩,
      ⟨some 4, .mov (.t 11), none⟩])
   (.seq (.reg [⟨some 12, .mov (.t 4), none⟩,
      ⟨some 13, .bin .neq (.t 12) (.k (.i .i64 0)), none⟩])
   (.cond (.t 13)
    (.seq (.reg [⟨some 14, .mov (.t 4), none⟩,
       ⟨some 2, .mov (.k (.sl [] 0 .nil)), none⟩,
       ⟨some 3, .mov (.t 14), none⟩])
    .ret)
    .skip)))
  (.seq (.reg [⟨some 15, .faddr 0 (.t 1), none⟩,
     ⟨some 16, .load false 1 (.t 15), none⟩,
     ⟨some 17, .faddr 1 (.t 1), none⟩,
     ⟨some 18, .load false 1 (.t 17), none⟩,
     ⟨some 19, .faddr 2 (.t 1), none⟩,
     ⟨some 20, .load false 1 (.t 19), none⟩,
     ⟨some 21, .faddr 13 (.t 1), none⟩,
     ⟨some 22, .load false 1 (.t 21), none⟩,
     ⟨some 23, .faddr 14 (.t 1), none⟩,
     ⟨some 24, .load false 1 (.t 23), none⟩,
     ⟨some 25, .faddr 15 (.t 1), none⟩,
     ⟨some 26, .load false 1 (.t 25), none⟩,
     ⟨some 27, .faddr 16 (.t 1), none⟩,
     ⟨some 28, .load false 1 (.t 27), none⟩,
     ⟨some 29, .bslice false 3 1 7 [(.i .i64 0)] [(0, (.t 16)), (1, (.t 18)), (2, (.t 20)), (3, (.t 22)), (4, (.t 24)), (5, (.t 26)), (6, (.t 28))], none⟩,
     ⟨some 30, .call false 78 [(.k (.sl [] 0 .nil)), (.t 29)], none⟩,
     ⟨some 5, .mov (.t 30), none⟩])
  (.seq (.regd [(⟨some 31, .mov (.t 5), none⟩, []),
     (⟨some 32, .faddr 3 (.t 1), none⟩, [0]),
     (⟨some 33, .load false 1 (.t 32), none⟩, [0]),
     (⟨some 34, .call false 79 [(.t 31), (.t 33)], none⟩, []),
     (⟨some 35, .faddr 4 (.t 1), none⟩, [0, 1, 2, 3]),
     (⟨some 36, .load false 1 (.t 35), none⟩, [0, 1, 2, 3]),
     (⟨some 37, .call false 79 [(.t 34), (.t 36)], none⟩, []),
     (⟨some 5, .mov (.t 37), none⟩, [])])
  (.seq (.reg [⟨some 38, .mov (.t 5), none⟩,
     ⟨some 39, .faddr 5 (.t 1), none⟩,
     ⟨some 40, .load true 4 (.t 39), none⟩,
     ⟨some 41, .call false 80 [(.t 38), (.t 40)], none⟩,
     ⟨some 5, .mov (.t 41), none⟩])
  (.seq (.reg [⟨some 43, .faddr 9 (.t 1), none⟩,
     ⟨some 44, .load true 4 (.t 43), none⟩,
     ⟨some 45, .call false 81 [(.t 44)], none⟩,
     ⟨some 42, .mov (.t 45), none⟩,
     ⟨some 46, .ext (.t 42) 0, none⟩,
     ⟨some 47, .ext (.t 42) 1, none⟩,
     ⟨some 6, .mov (.t 46), none⟩,
     ⟨some 7, .mov (.t 47), none⟩])
  (.seq (.reg [⟨some 48, .mov (.t 5), none⟩,
     ⟨some 49, .mov (.t 6), none⟩,
     ⟨some 50, .app 5 1 (.t 48) (.t 49), none⟩,
     ⟨some 5, .mov (.t 50), none⟩])
  (.seq (.seq (.reg [⟨some 51, .faddr 17 (.t 1), none⟩,
      ⟨some 52, .faddr 0 (.t 51), none⟩,
      ⟨some 53, .load false 1 (.t 52), none⟩,
      ⟨some 54, .faddr 17 (.t 1), none⟩,
      ⟨some 55, .faddr 1 (.t 54), none⟩,
      ⟨some 56, .load false 1 (.t 55), none⟩,
      ⟨some 57, .bslice false 31 1 2 [(.sl [] 0 .nil)] [(0, (.t 53)), (1, (.t 56))], none⟩,
      ⟨some 58, .len .slice (.t 57), none⟩,
      ⟨some 59, .mov (.k (.i .i64 0)), none⟩])
   (.blk 0 (.loop L22_1)))
  (.seq (.seq (.reg [⟨some 70, .mov (.t 5), none⟩,
      ⟨some 71, .len .slice (.t 70), none⟩,
      ⟨some 72, .bin .gtr (.t 71) (.k (.i .i64 8192)), none⟩])
   (.cond (.t 72)
    (.seq (.reg [⟨some 2, .mov (.k (.sl [] 0 .nil)), none⟩,
       ⟨some 3, .mov (.k (.i .i64 4)), none⟩])
    .ret)
    .skip))
  (.seq (.reg [⟨some 73, .mov (.t 5), none⟩,
     ⟨some 2, .mov (.t 73), none⟩,
     ⟨some 3, .mov (.k (.i .i64 0)), none⟩])
  .ret))))))))))
/-- tidemark/machine.Put -/
def af22 : AFunc := { n := 74, depth := 7, kl := [(1, [1, 15, 17, 19, 21, 23, 25, 27, 32, 35, 39, 43, 51, 52, 54, 55])], res := [.tmp 2, .tmp 3], body := B22 }

def B24 : AC := (.seq (.reg [⟨some 0, .mov (.k .nilp), none⟩])
  (.seq (.reg [⟨some 1, .call false 83 [], none⟩,
     ⟨some 2, .call false 84 [], none⟩,
     ⟨some 3, .call false 85 [], none⟩,
     ⟨some 4, .call false 86 [], none⟩,
     ⟨some 5, .call false 87 [], none⟩,
     ⟨some 6, .build [.nilp, .nilp, .nilp, .nilp, .nilp] [(0, 1, (.t 1)), (1, 1, (.t 2)), (2, 1, (.t 3)), (3, 1, (.t 4)), (4, 1, (.t 5))], none⟩,
     ⟨some 7, .build [.nilp, .nilp, .nilp, .nilp, .nilp, (.i .i64 0), (.i .i64 0)] [(0, 5, (.t 6))], none⟩,
     ⟨some 8, .box 110 (.t 7), none⟩,
     ⟨some 0, .mov (.t 8), none⟩])
  .ret))
/-- tidemark/machine.New -/
def af24 : AFunc := { n := 9, depth := 4, kl := [], res := [.tmp 0], body := B24 }

def B25 : AC := (.seq (.reg [⟨some 3, .lbox (.t 1) [3], none⟩,
     ⟨some 4, .lalloc [(.i .i64 0), (.i .i64 0)] [4], none⟩])
  (.seq (.reg [⟨some 8, .load true 19 (.t 3), none⟩,
     ⟨some 9, .call true 22 [(.t 8)], none⟩,
     ⟨some 7, .mov (.t 9), none⟩,
     ⟨some 10, .ext (.t 7) 0, none⟩,
     ⟨some 11, .ext (.t 7) 1, none⟩,
     ⟨some 5, .mov (.t 10), none⟩,
     ⟨some 6, .mov (.t 11), none⟩])
  (.seq (.reg [⟨some 12, .mov (.t 0), none⟩,
     ⟨some 13, .mov (.t 0), none⟩,
     ⟨some 14, .call false 37 [(.t 13)], none⟩,
     ⟨some 15, .bin .add (.t 14) (.k (.i .i64 1)), none⟩,
     ⟨some 16, .mov (.t 5), none⟩,
     ⟨some 17, .call false 51 [(.t 12), (.t 15), (.t 16)], none⟩,
     ⟨none, .store 2 (.t 4) (.t 17), none⟩])
  .ret)))
/-- tidemark/tidemarklaw15.does -/
def af25 : AFunc := { n := 18, depth := 5, kl := [(3, [3]), (4, [4])], res := [.cell 4 true 2], body := B25 }

def B26 : AC := (.seq (.reg [⟨some 2, .mov (.k (.i .i64 0)), none⟩])
  (.seq (.seq (.reg [⟨some 3, .mov (.t 0), none⟩,
      ⟨some 4, .call false 88 [(.t 3)], none⟩])
   (.cond (.t 4)
    (.seq (.reg [⟨some 2, .mov (.k (.i .i64 0)), none⟩])
    .ret)
    .skip))
  (.seq (.reg [⟨some 5, .mov (.t 0), none⟩,
     ⟨some 6, .nilck (.t 5), none⟩,
     ⟨some 7, .faddr 6 (.t 6), none⟩,
     ⟨some 8, .load false 1 (.t 7), none⟩,
     ⟨some 2, .mov (.t 8), none⟩])
  .ret)))
/-- (*tidemark/machine.Machine).Mark -/
def af26 : AFunc := { n := 9, depth := 4, kl := [], res := [.tmp 2], body := B26 }

def B28 : AC := (.seq (.reg [⟨some 6, .mov (.k (.sl [] 0 .nil)), none⟩])
  (.seq (.seq (.reg [⟨some 7, .mov (.t 0), none⟩,
      ⟨some 8, .call false 88 [(.t 7)], none⟩])
   (.cond (.t 8)
    (.seq (.reg [⟨some 6, .mov (.k (.sl [] 0 .nil)), none⟩])
    .ret)
    .skip))
  (.seq (.reg [⟨some 9, .mov (.t 0), none⟩,
     ⟨some 10, .nilck (.t 9), none⟩,
     ⟨some 11, .faddr 0 (.t 10), none⟩,
     ⟨some 12, .faddr 0 (.t 11), none⟩,
     ⟨some 13, .load false 1 (.t 12), none⟩,
     ⟨some 14, .mov (.t 1), none⟩,
     ⟨some 15, .mov (.t 2), none⟩,
     ⟨some 16, .call false 89 [(.t 13), (.t 14), (.t 15)], none⟩,
     ⟨some 6, .mov (.t 16), none⟩])
  .ret)))
/-- (*tidemark/machine.Machine).Keys -/
def af28 : AFunc := { n := 17, depth := 5, kl := [], res := [.tmp 6], body := B28 }

def B30 : AC := (.seq (.reg [⟨some 2, .mov (.k (.sl [] 0 .nil)), none⟩])
  (.seq (.seq (.reg [⟨some 3, .mov (.t 0), none⟩,
      ⟨some 4, .call false 88 [(.t 3)], none⟩])
   (.cond (.t 4)
    (.seq (.reg [⟨some 2, .mov (.k (.sl [] 0 .nil)), none⟩])
    .ret)
    .skip))
  (.seq (.reg [⟨some 5, .mov (.t 0), none⟩,
     ⟨some 6, .nilck (.t 5), none⟩,
     ⟨some 7, .faddr 0 (.t 6), none⟩,
     ⟨some 8, .faddr 4 (.t 7), none⟩,
     ⟨some 9, .load false 1 (.t 8), none⟩,
     ⟨some 10, .call false 90 [(.t 9)], none⟩,
     ⟨some 2, .mov (.t 10), none⟩])
  .ret)))
/-- (*tidemark/machine.Machine).Groups -/
def af30 : AFunc := { n := 11, depth := 4, kl := [], res := [.tmp 2], body := B30 }

def B32 : AC := (.seq (.reg [⟨some 2, .mov (.k (.sl [] 0 .nil)), none⟩])
  (.seq (.seq (.reg [⟨some 3, .mov (.t 0), none⟩,
      ⟨some 4, .call false 88 [(.t 3)], none⟩])
   (.cond (.t 4)
    (.seq (.reg [⟨some 2, .mov (.k (.sl [] 0 .nil)), none⟩])
    .ret)
    .skip))
  (.seq (.reg [⟨some 5, .mov (.t 0), none⟩,
     ⟨some 6, .nilck (.t 5), none⟩,
     ⟨some 7, .faddr 0 (.t 6), none⟩,
     ⟨some 8, .faddr 2 (.t 7), none⟩,
     ⟨some 9, .load false 1 (.t 8), none⟩,
     ⟨some 10, .call false 91 [(.t 9)], none⟩,
     ⟨some 2, .mov (.t 10), none⟩])
  .ret)))
/-- (*tidemark/machine.Machine).Subs -/
def af32 : AFunc := { n := 11, depth := 4, kl := [], res := [.tmp 2], body := B32 }

def B34 : AC := (.seq (.reg [⟨some 2, .mov (.k (.sl [] 0 .nil)), none⟩])
  (.seq (.seq (.reg [⟨some 3, .mov (.t 0), none⟩,
      ⟨some 4, .call false 88 [(.t 3)], none⟩])
   (.cond (.t 4)
    (.seq (.reg [⟨some 2, .mov (.k (.sl [] 0 .nil)), none⟩])
    .ret)
    .skip))
  (.seq (.reg [⟨some 5, .mov (.t 0), none⟩,
     ⟨some 6, .nilck (.t 5), none⟩,
     ⟨some 7, .faddr 0 (.t 6), none⟩,
     ⟨some 8, .faddr 1 (.t 7), none⟩,
     ⟨some 9, .load false 1 (.t 8), none⟩,
     ⟨some 10, .call false 92 [(.t 9)], none⟩,
     ⟨some 2, .mov (.t 10), none⟩])
  .ret)))
/-- (*tidemark/machine.Machine).Views -/
def af34 : AFunc := { n := 11, depth := 4, kl := [], res := [.tmp 2], body := B34 }

def B36 : AC := (.seq (.reg [⟨some 8, .mov (.k (.sl [] 0 .nil)), none⟩,
     ⟨some 9, .mov (.k (.i .i64 0)), none⟩,
     ⟨some 10, .mov (.k (.i .i64 0)), none⟩])
  (.seq (.seq (.reg [⟨some 11, .mov (.t 0), none⟩,
      ⟨some 12, .call false 88 [(.t 11)], none⟩])
   (.cond (.t 12)
    (.seq (.reg [⟨some 8, .mov (.k (.sl [] 0 .nil)), none⟩,
       ⟨some 9, .mov (.k (.i .i64 0)), none⟩,
       ⟨some 10, .mov (.k (.i .i64 6)), none⟩])
    .ret)
    .skip))
  (.seq (.reg [⟨some 13, .mov (.t 0), none⟩,
     ⟨some 14, .nilck (.t 13), none⟩,
     ⟨some 15, .faddr 0 (.t 14), none⟩,
     ⟨some 16, .faddr 2 (.t 15), none⟩,
     ⟨some 17, .load false 1 (.t 16), none⟩,
     ⟨some 18, .mov (.t 1), none⟩,
     ⟨some 19, .mov (.t 2), none⟩,
     ⟨some 20, .mov (.t 3), none⟩,
     ⟨some 21, .call false 93 [(.t 17), (.t 18), (.t 19), (.t 20)], none⟩,
     ⟨some 22, .ext (.t 21) 0, none⟩,
     ⟨some 23, .ext (.t 21) 1, none⟩,
     ⟨some 24, .ext (.t 21) 2, none⟩,
     ⟨some 8, .mov (.t 22), none⟩,
     ⟨some 9, .mov (.t 23), none⟩,
     ⟨some 10, .mov (.t 24), none⟩])
  .ret)))
/-- (*tidemark/machine.Machine).Read -/
def af36 : AFunc := { n := 25, depth := 5, kl := [], res := [.tmp 8, .tmp 9, .tmp 10], body := B36 }

def B37 : AC := (.seq (.reg [⟨some 2, .mov (.k (.i .i64 0)), none⟩])
  (.seq (.seq (.reg [⟨some 3, .mov (.t 0), none⟩,
      ⟨some 4, .call false 88 [(.t 3)], none⟩])
   (.cond (.t 4)
    (.seq (.reg [⟨some 2, .mov (.k (.i .i64 0)), none⟩])
    .ret)
    .skip))
  (.seq (.reg [⟨some 5, .mov (.t 0), none⟩,
     ⟨some 6, .nilck (.t 5), none⟩,
     ⟨some 7, .faddr 5 (.t 6), none⟩,
     ⟨some 8, .load false 1 (.t 7), none⟩,
     ⟨some 2, .mov (.t 8), none⟩])
  .ret)))
/-- (*tidemark/machine.Machine).At -/
def af37 : AFunc := { n := 9, depth := 4, kl := [], res := [.tmp 2], body := B37 }

def B39 : AC := (.seq (.reg [⟨some 2, .mov (.k (.b false)), none⟩])
  (.seq (.reg [⟨some 3, .mov (.t 0), none⟩,
     ⟨some 4, .bin .geq (.t 3) (.k (.i .i64 2)), none⟩,
     ⟨some 5, .mov (.t 4), none⟩,
     ⟨some 6, .mov (.t 0), some (5, true)⟩,
     ⟨some 7, .bin .leq (.t 6) (.k (.i .i64 8)), some (5, true)⟩,
     ⟨some 8, .pick (.t 5) (.t 7) (.k (.b false)), none⟩,
     ⟨some 9, .mov (.t 8), none⟩,
     ⟨some 10, .mov (.t 0), some (9, false)⟩,
     ⟨some 11, .bin .geq (.t 10) (.k (.i .i64 12)), some (9, false)⟩,
     ⟨some 12, .mov (.t 11), some (9, false)⟩,
     ⟨some 13, .mov (.t 0), some (12, true)⟩,
     ⟨some 14, .bin .leq (.t 13) (.k (.i .i64 16)), some (12, true)⟩,
     ⟨some 15, .pick (.t 12) (.t 14) (.k (.b false)), some (9, false)⟩,
     ⟨some 16, .pick (.t 9) (.k (.b true)) (.t 15), none⟩,
     ⟨some 2, .mov (.t 16), none⟩])
  .ret))
/-- tidemark/machine.Counts -/
def af39 : AFunc := { n := 17, depth := 5, kl := [], res := [.tmp 2], body := B39 }

def B40 : AC := (.seq (.reg [⟨some 2, .mov (.k (.sl [] 0 .nil)), none⟩])
  (.seq (.seq (.reg [⟨some 3, .mov (.t 0), none⟩,
      ⟨some 4, .call false 88 [(.t 3)], none⟩])
   (.cond (.t 4)
    (.seq (.reg [⟨some 2, .mov (.k (.sl [] 0 .nil)), none⟩])
    .ret)
    .skip))
  (.seq (.reg [⟨some 5, .mov (.t 0), none⟩,
     ⟨some 6, .nilck (.t 5), none⟩,
     ⟨some 7, .faddr 0 (.t 6), none⟩,
     ⟨some 8, .faddr 3 (.t 7), none⟩,
     ⟨some 9, .load false 1 (.t 8), none⟩,
     ⟨some 10, .call false 94 [(.t 9)], none⟩,
     ⟨some 2, .mov (.t 10), none⟩])
  .ret)))
/-- (*tidemark/machine.Machine).Seats -/
def af40 : AFunc := { n := 11, depth := 4, kl := [], res := [.tmp 2], body := B40 }

def B50 : AC := (.seq (.reg [⟨some 4, .mov (.k (.sl [] 0 .nil)), none⟩,
     ⟨some 5, .mov (.k (.i .i64 0)), none⟩])
  (.seq (.seq (.reg [⟨some 6, .mov (.t 0), none⟩,
      ⟨some 7, .call false 88 [(.t 6)], none⟩])
   (.cond (.t 7)
    (.seq (.reg [⟨some 4, .mov (.k (.sl [] 0 .nil)), none⟩,
       ⟨some 5, .mov (.k (.i .i64 6)), none⟩])
    .ret)
    .skip))
  (.seq (.reg [⟨some 8, .mov (.t 0), none⟩,
     ⟨some 9, .nilck (.t 8), none⟩,
     ⟨some 10, .faddr 0 (.t 9), none⟩,
     ⟨some 11, .faddr 1 (.t 10), none⟩,
     ⟨some 12, .load false 1 (.t 11), none⟩,
     ⟨some 13, .mov (.t 1), none⟩,
     ⟨some 14, .call false 107 [(.t 12), (.t 13)], none⟩,
     ⟨some 15, .ext (.t 14) 0, none⟩,
     ⟨some 16, .ext (.t 14) 1, none⟩,
     ⟨some 4, .mov (.t 15), none⟩,
     ⟨some 5, .mov (.t 16), none⟩])
  .ret)))
/-- (*tidemark/machine.Machine).Rows -/
def af50 : AFunc := { n := 17, depth := 5, kl := [], res := [.tmp 4, .tmp 5], body := B50 }

def B51 : AC := (.seq (.reg [⟨some 6, .lalloc [(.i .i64 0), (.i .i64 0)] [6], none⟩])
  (.seq (.blk 0 (.seq (.reg [⟨some 12, .mov (.t 0), none⟩,
       ⟨some 13, .call false 88 [(.t 12)], none⟩,
       ⟨some 11, .mov (.t 13), none⟩])
    (.cond (.t 11)
     (.seq (.reg [⟨some 14, .build [(.i .i64 0), (.i .i64 0)] [(0, 1, (.k (.i .i64 6)))], none⟩,
        ⟨none, .store 2 (.t 6) (.t 14), none⟩])
     .ret)
     (.seq (.reg [⟨some 16, .mov (.t 1), none⟩,
        ⟨some 17, .mov (.t 0), none⟩,
        ⟨some 18, .nilck (.t 17), none⟩,
        ⟨some 19, .faddr 5 (.t 18), none⟩,
        ⟨some 20, .load false 1 (.t 19), none⟩,
        ⟨some 21, .bin .add (.t 20) (.k (.i .i64 1)), none⟩,
        ⟨some 22, .bin .neq (.t 16) (.t 21), none⟩,
        ⟨some 23, .mov (.t 22), none⟩,
        ⟨some 24, .mov (.t 1), some (23, false)⟩,
        ⟨some 25, .bin .gtr (.t 24) (.k (.i .i64 1099511627776)), some (23, false)⟩,
        ⟨some 26, .pick (.t 23) (.k (.b true)) (.t 25), none⟩,
        ⟨some 15, .mov (.t 26), none⟩])
     (.cond (.t 15)
      (.seq (.reg [⟨some 27, .build [(.i .i64 0), (.i .i64 0)] [(0, 1, (.k (.i .i64 1)))], none⟩,
         ⟨none, .store 2 (.t 6) (.t 27), none⟩])
      .ret)
      .skip)))))
  (.seq (.reg [⟨some 28, .mov (.t 0), none⟩,
     ⟨some 29, .mov (.t 1), none⟩,
     ⟨some 30, .nilck (.t 28), none⟩,
     ⟨some 31, .faddr 5 (.t 30), none⟩,
     ⟨none, .store 1 (.t 31) (.t 29), none⟩])
  (.seq (.reg [⟨some 33, .mov (.t 2), none⟩,
     ⟨some 34, .call true 17 [(.t 33)], none⟩,
     ⟨some 32, .mov (.t 34), none⟩,
     ⟨some 35, .ext (.t 32) 0, none⟩,
     ⟨some 36, .ext (.t 32) 1, none⟩,
     ⟨some 7, .lalloc [(.i .i64 0), (.i .i64 0), (.i .i64 0), (.sl [] 0 .nil), (.sl [] 0 .nil), (.s []), (.i .i64 0), (.s []), (.s []), (.i .i64 0), (.s []), (.s []), (.sl [] 0 .nil), (.i .i64 0), (.i .i64 0), (.i .i64 0), (.i .i64 0), (.sl [] 0 .nil), (.sl [] 0 .nil)] [7, 62], none⟩,
     ⟨none, .store 19 (.t 7) (.t 35), none⟩,
     ⟨some 8, .mov (.t 36), none⟩])
  (.seq (.seq (.reg [⟨some 37, .mov (.t 8), none⟩,
      ⟨some 38, .bin .neq (.t 37) (.k (.i .i64 0)), none⟩])
   (.cond (.t 38)
    (.seq (.reg [⟨some 39, .mov (.t 0), none⟩,
       ⟨some 40, .nilck (.t 39), none⟩,
       ⟨some 41, .faddr 0 (.t 40), none⟩,
       ⟨some 42, .faddr 2 (.t 41), none⟩,
       ⟨some 43, .load false 1 (.t 42), none⟩,
       ⟨some 44, .mov (.t 1), none⟩,
       ⟨some 45, .call false 108 [(.t 43), (.t 44), (.k (.sl [] 0 .nil))], none⟩])
    (.seq (.reg [⟨some 46, .mov (.t 8), none⟩,
       ⟨some 47, .build [(.i .i64 0), (.i .i64 0)] [(0, 1, (.t 46))], none⟩,
       ⟨none, .store 2 (.t 6) (.t 47), none⟩])
    .ret))
    .skip))
  (.seq (.reg [⟨some 49, .mov (.t 0), none⟩,
     ⟨some 50, .load true 19 (.t 7), none⟩,
     ⟨some 51, .call false 109 [(.t 49), (.t 50)], none⟩,
     ⟨some 48, .mov (.t 51), none⟩,
     ⟨some 52, .ext (.t 48) 0, none⟩,
     ⟨some 53, .ext (.t 48) 1, none⟩,
     ⟨some 9, .lalloc [(.i .i64 0), (.i .i64 0)] [9], none⟩,
     ⟨none, .store 2 (.t 9) (.t 52), none⟩,
     ⟨some 10, .mov (.t 53), none⟩])
  (.seq (.reg [⟨some 54, .mov (.t 0), none⟩,
     ⟨some 55, .nilck (.t 54), none⟩,
     ⟨some 56, .faddr 0 (.t 55), none⟩,
     ⟨some 57, .faddr 2 (.t 56), none⟩,
     ⟨some 58, .load false 1 (.t 57), none⟩,
     ⟨some 59, .mov (.t 1), none⟩,
     ⟨some 60, .mov (.t 10), none⟩,
     ⟨some 61, .call false 108 [(.t 58), (.t 59), (.t 60)], none⟩])
  (.seq (.seq (.reg [⟨some 62, .faddr 0 (.t 7), none⟩,
      ⟨some 63, .load false 1 (.t 62), none⟩,
      ⟨some 64, .call true 110 [(.t 63)], none⟩,
      ⟨some 65, .mov (.t 64), none⟩,
      ⟨some 66, .load true 2 (.t 9), some (65, true)⟩,
      ⟨some 67, .build [(.i .i64 0), (.i .i64 0)] [], some (65, true)⟩,
      ⟨some 68, .eq false (.struct [(0, 1, false, .int), (1, 1, false, .int)]) (.t 66) (.t 67), some (65, true)⟩,
      ⟨some 69, .pick (.t 65) (.t 68) (.k (.b false)), none⟩])
   (.cond (.t 69)
    (.reg [⟨some 70, .mov (.t 0), none⟩,
      ⟨some 71, .load true 19 (.t 7), none⟩,
      ⟨some 72, .call false 111 [(.t 70), (.t 71)], none⟩,
      ⟨none, .store 2 (.t 9) (.t 72), none⟩])
    .skip))
  (.seq (.reg [⟨some 73, .load true 2 (.t 9), none⟩,
     ⟨none, .store 2 (.t 6) (.t 73), none⟩])
  .ret)))))))))
/-- (*tidemark/machine.Machine).Apply -/
def af51 : AFunc := { n := 74, depth := 7, kl := [(6, [6]), (7, [7, 62]), (9, [9])], res := [.cell 6 true 2], body := B51 }

def L52_1 : AC := (.seq (.reg [⟨some 40, .bin .lss (.t 39) (.t 38), none⟩])
  (.seq (.cond (.t 40)
    .skip
    (.exit 0))
  (.seq (.blk 1 (.seq (.reg [⟨some 41, .iaddr (.slice 4) (.t 37) (.t 39), none⟩,
       ⟨some 42, .load true 4 (.t 41), none⟩,
       ⟨some 6, .lalloc [(.s []), (.i .i64 0), (.s []), (.s [])] [6], none⟩,
       ⟨none, .store 4 (.t 6) (.t 42), none⟩])
    (.reg [⟨some 43, .mov (.t 3), none⟩,
      ⟨some 44, .load true 4 (.t 6), none⟩,
      ⟨some 45, .call false 80 [(.t 43), (.t 44)], none⟩,
      ⟨some 3, .mov (.t 45), none⟩])))
  (.reg [⟨some 46, .bin .add (.t 39) (.k (.i .i64 1)), none⟩,
    ⟨some 39, .mov (.t 46), none⟩]))))
def B52 : AC := (.seq (.reg [⟨some 2, .mov (.k (.sl [] 0 .nil)), none⟩])
  (.seq (.seq (.reg [⟨some 7, .mov (.t 0), none⟩,
      ⟨some 8, .call false 88 [(.t 7)], none⟩])
   (.cond (.t 8)
    (.seq (.reg [⟨some 2, .mov (.k (.sl [] 0 .nil)), none⟩])
    .ret)
    .skip))
  (.seq (.reg [⟨some 9, .mov (.t 0), none⟩,
     ⟨some 10, .nilck (.t 9), none⟩,
     ⟨some 11, .faddr 5 (.t 10), none⟩,
     ⟨some 12, .load false 1 (.t 11), none⟩,
     ⟨some 13, .mov (.t 0), none⟩,
     ⟨some 14, .nilck (.t 13), none⟩,
     ⟨some 15, .faddr 6 (.t 14), none⟩,
     ⟨some 16, .load false 1 (.t 15), none⟩,
     ⟨some 17, .bslice false 3 1 2 [(.i .i64 0)] [(0, (.t 12)), (1, (.t 16))], none⟩,
     ⟨some 18, .call false 78 [(.k (.sl [] 0 .nil)), (.t 17)], none⟩,
     ⟨some 3, .mov (.t 18), none⟩])
  (.seq (.reg [⟨some 19, .mov (.t 3), none⟩,
     ⟨some 20, .mov (.t 0), none⟩,
     ⟨some 21, .nilck (.t 20), none⟩,
     ⟨some 22, .faddr 0 (.t 21), none⟩,
     ⟨some 23, .faddr 0 (.t 22), none⟩,
     ⟨some 24, .load false 1 (.t 23), none⟩,
     ⟨some 25, .call false 89 [(.t 24), (.k (.s [])), (.k (.s []))], none⟩,
     ⟨some 26, .call false 79 [(.t 19), (.t 25)], none⟩,
     ⟨some 3, .mov (.t 26), none⟩])
  (.seq (.reg [⟨some 27, .mov (.t 0), none⟩,
     ⟨some 28, .nilck (.t 27), none⟩,
     ⟨some 29, .faddr 0 (.t 28), none⟩,
     ⟨some 30, .faddr 1 (.t 29), none⟩,
     ⟨some 31, .load false 1 (.t 30), none⟩,
     ⟨some 32, .call false 92 [(.t 31)], none⟩,
     ⟨some 4, .mov (.t 32), none⟩])
  (.seq (.reg [⟨some 33, .mov (.t 3), none⟩,
     ⟨some 34, .mov (.t 4), none⟩,
     ⟨some 35, .len .slice (.t 34), none⟩,
     ⟨some 36, .call false 82 [(.t 33), (.t 35)], none⟩,
     ⟨some 3, .mov (.t 36), none⟩])
  (.seq (.seq (.reg [⟨some 37, .mov (.t 4), none⟩,
      ⟨some 38, .len .slice (.t 37), none⟩,
      ⟨some 39, .mov (.k (.i .i64 0)), none⟩])
   (.blk 0 (.loop L52_1)))
  (.seq (.regd [(⟨some 47, .mov (.t 0), none⟩, []),
     (⟨some 48, .nilck (.t 47), none⟩, []),
     (⟨some 49, .faddr 0 (.t 48), none⟩, []),
     (⟨some 50, .faddr 4 (.t 49), none⟩, []),
     (⟨some 51, .load false 1 (.t 50), none⟩, []),
     (⟨some 52, .mov (.t 0), none⟩, [0, 1, 2, 3, 4]),
     (⟨some 53, .nilck (.t 52), none⟩, [0, 1, 2, 3, 4]),
     (⟨some 54, .faddr 0 (.t 53), none⟩, [0, 1, 2, 3, 4]),
     (⟨some 55, .faddr 3 (.t 54), none⟩, [0, 1, 2, 3, 4]),
     (⟨some 56, .load false 1 (.t 55), none⟩, [0, 1, 2, 3, 4]),
     (⟨some 57, .mov (.t 0), none⟩, [0, 1, 2, 3, 4, 5, 6, 7, 8, 9]),
     (⟨some 58, .nilck (.t 57), none⟩, [0, 1, 2, 3, 4, 5, 6, 7, 8, 9]),
     (⟨some 59, .faddr 0 (.t 58), none⟩, [0, 1, 2, 3, 4, 5, 6, 7, 8, 9]),
     (⟨some 60, .faddr 2 (.t 59), none⟩, [0, 1, 2, 3, 4, 5, 6, 7, 8, 9]),
     (⟨some 61, .load false 1 (.t 60), none⟩, [0, 1, 2, 3, 4, 5, 6, 7, 8, 9]),
     (⟨some 62, .mov (.t 3), none⟩, [0, 1, 2, 3, 4, 5, 6, 7, 8, 9, 10, 11, 12, 13, 14]),
     (⟨some 63, .call false 114 [(.t 61), (.t 62)], none⟩, [0, 1, 2, 3, 4, 5, 6, 7, 8, 9]),
     (⟨some 64, .call false 113 [(.t 56), (.t 63)], none⟩, [0, 1, 2, 3, 4]),
     (⟨some 65, .call false 112 [(.t 51), (.t 64)], none⟩, []),
     (⟨some 2, .mov (.t 65), none⟩, [])])
  .ret))))))))
/-- (*tidemark/machine.Machine).Image -/
def af52 : AFunc := { n := 66, depth := 7, kl := [(6, [6])], res := [.tmp 2], body := B52 }

def L57_1 : AC := (.seq (.reg [⟨some 21, .bin .lss (.t 20) (.t 19), none⟩])
  (.seq (.cond (.t 21)
    .skip
    (.exit 0))
  (.seq (.blk 1 (.seq (.reg [⟨some 22, .iaddr (.slice 6) (.t 18) (.t 20), none⟩,
       ⟨some 23, .load true 6 (.t 22), none⟩,
       ⟨some 9, .lalloc [(.i .i64 0), (.s []), (.b false), (.s []), (.b false), (.s [])] [9], none⟩,
       ⟨none, .store 6 (.t 9) (.t 23), none⟩])
    (.seq (.reg [⟨some 24, .mov (.t 6), none⟩,
       ⟨some 25, .load true 6 (.t 9), none⟩,
       ⟨some 26, .inv false [(357, 447), (359, 448), (361, 450), (362, 451), (366, 452), (368, 453), (369, 454)] (.t 24) [(.t 25)], none⟩])
    (.cond (.t 26)
     (.reg [⟨some 27, .mov (.t 5), none⟩,
       ⟨some 28, .load true 6 (.t 9), none⟩,
       ⟨some 29, .bslice false 100 6 1 [(.i .i64 0), (.s []), (.b false), (.s []), (.b false), (.s [])] [(0, (.t 28))], none⟩,
       ⟨some 30, .app 100 6 (.t 27) (.t 29), none⟩,
       ⟨some 5, .mov (.t 30), none⟩])
     .skip))))
  (.reg [⟨some 31, .bin .add (.t 20) (.k (.i .i64 1)), none⟩,
    ⟨some 20, .mov (.t 31), none⟩]))))
def B57 : AC := (.seq (.reg [⟨some 2, .lbox (.t 0) [2], none⟩,
     ⟨some 4, .mov (.k (.sl [] 0 .nil)), none⟩])
  (.seq (.reg [⟨some 5, .mov (.k (.sl [] 0 .nil)), none⟩])
  (.seq (.reg [⟨some 11, .load true 4 (.t 2), none⟩,
     ⟨some 12, .call false 128 [(.t 11)], none⟩,
     ⟨some 10, .mov (.t 12), none⟩,
     ⟨some 13, .ext (.t 10) 0, none⟩,
     ⟨some 14, .ext (.t 10) 1, none⟩,
     ⟨some 6, .mov (.t 13), none⟩,
     ⟨some 7, .mov (.t 14), none⟩])
  (.seq (.seq (.reg [⟨some 15, .mov (.t 7), none⟩,
      ⟨some 16, .bin .neq (.t 15) (.k (.i .i64 0)), none⟩])
   (.cond (.t 16)
    (.seq (.reg [⟨some 17, .mov (.t 5), none⟩,
       ⟨some 4, .mov (.t 17), none⟩])
    .ret)
    .skip))
  (.seq (.seq (.reg [⟨some 18, .mov (.t 1), none⟩,
      ⟨some 19, .len .slice (.t 18), none⟩,
      ⟨some 20, .mov (.k (.i .i64 0)), none⟩])
   (.blk 0 (.loop L57_1)))
  (.seq (.reg [⟨some 32, .mov (.t 5), none⟩,
     ⟨some 4, .mov (.t 32), none⟩])
  .ret))))))
/-- tidemark/filter.Pass -/
def af57 : AFunc := { n := 33, depth := 6, kl := [(2, [2]), (9, [9])], res := [.tmp 4], body := B57 }

def B61 : AC := (.seq (.reg [⟨some 4, .lalloc [(.s []), (.b false), (.s [])] [4], none⟩])
  (.seq (.reg [⟨some 5, .mov (.t 0), none⟩,
     ⟨some 6, .mov (.t 1), none⟩,
     ⟨some 7, .build [(.s []), (.b false), (.s [])] [(0, 1, (.t 5)), (1, 1, (.k (.b true))), (2, 1, (.t 6))], none⟩,
     ⟨none, .store 3 (.t 4) (.t 7), none⟩])
  .ret))
/-- tidemark/tidemarklaw15.put -/
def af61 : AFunc := { n := 8, depth := 4, kl := [(4, [4])], res := [.cell 4 true 3], body := B61 }

def B62 : AC := (.seq (.reg [⟨some 2, .mov (.k .nilp), none⟩])
  (.seq (.reg [⟨some 3, .bslice false 5 1 0 [(.i .u8 0)] [], none⟩,
     ⟨some 4, .mov (.t 0), none⟩,
     ⟨some 5, .app 5 1 (.t 3) (.t 4), none⟩,
     ⟨some 6, .build [(.sl [] 0 .nil), (.i .i64 0), (.i .i64 0), (.b false)] [(0, 1, (.t 5)), (3, 1, (.k (.b true)))], none⟩,
     ⟨some 7, .box 207 (.t 6), none⟩,
     ⟨some 2, .mov (.t 7), none⟩])
  .ret))
/-- tidemark/wire.Read -/
def af62 : AFunc := { n := 8, depth := 4, kl := [], res := [.tmp 2], body := B62 }

def L63_1 : AC := (.seq (.reg [⟨some 39, .bin .lss (.t 38) (.t 37), none⟩])
  (.seq (.cond (.t 39)
    .skip
    (.exit 0))
  (.seq (.blk 1 (.seq (.reg [⟨some 40, .iaddr (.slice 1) (.t 36) (.t 38), none⟩,
       ⟨some 41, .load false 1 (.t 40), none⟩,
       ⟨some 8, .mov (.t 41), none⟩])
    (.reg [⟨some 42, .mov (.t 5), none⟩,
      ⟨some 43, .bin .shl (.t 42) (.k (.i .u64 8)), none⟩,
      ⟨some 44, .mov (.t 8), none⟩,
      ⟨some 45, .conv (.int .u64) (.t 44), none⟩,
      ⟨some 46, .bin .or (.t 43) (.t 45), none⟩,
      ⟨some 5, .mov (.t 46), none⟩])))
  (.reg [⟨some 47, .bin .add (.t 38) (.k (.i .i64 1)), none⟩,
    ⟨some 38, .mov (.t 47), none⟩]))))
def B63 : AC := (.seq (.reg [⟨some 2, .mov (.k (.i .i64 0)), none⟩])
  (.seq (.seq (.reg [⟨some 9, .mov (.t 0), none⟩,
      ⟨some 10, .call false 132 [(.t 9)], none⟩])
   (.cond (.t 10)
    (.seq (.reg [⟨some 2, .mov (.k (.i .i64 0)), none⟩])
    .ret)
    .skip))
  (.seq (.reg [⟨some 11, .mov (.t 0), none⟩,
     ⟨some 12, .nilck (.t 11), none⟩,
     ⟨some 13, .faddr 1 (.t 12), none⟩,
     ⟨some 14, .load false 1 (.t 13), none⟩,
     ⟨some 3, .mov (.t 14), none⟩])
  (.seq (.reg [⟨some 15, .mov (.t 0), none⟩,
     ⟨some 16, .call false 133 [(.t 15), (.k (.i .i64 1))], none⟩,
     ⟨some 4, .mov (.t 16), none⟩])
  (.seq (.seq (.reg [⟨some 17, .mov (.t 4), none⟩,
      ⟨some 18, .len .slice (.t 17), none⟩,
      ⟨some 19, .bin .eql (.t 18) (.k (.i .i64 0)), none⟩])
   (.cond (.t 19)
    (.seq (.reg [⟨some 2, .mov (.k (.i .i64 0)), none⟩])
    .ret)
    .skip))
  (.seq (.seq (.reg [⟨some 20, .mov (.t 4), none⟩,
      ⟨some 21, .iaddr (.slice 1) (.t 20) (.k (.i .i64 0)), none⟩,
      ⟨some 22, .load false 1 (.t 21), none⟩,
      ⟨some 23, .bin .gtr (.t 22) (.k (.i .u8 8)), none⟩])
   (.cond (.t 23)
    (.seq (.reg [⟨some 24, .mov (.t 0), none⟩,
       ⟨some 25, .mov (.t 3), none⟩,
       ⟨some 26, .nilck (.t 24), none⟩,
       ⟨some 27, .faddr 1 (.t 26), none⟩,
       ⟨none, .store 1 (.t 27) (.t 25), none⟩])
    (.seq (.reg [⟨some 28, .mov (.t 0), none⟩,
       ⟨some 29, .call false 134 [(.t 28), (.k (.i .i64 11))], none⟩])
    (.seq (.reg [⟨some 2, .mov (.k (.i .i64 0)), none⟩])
    .ret)))
    .skip))
  (.seq (.reg [⟨some 5, .mov (.k (.i .u64 0)), none⟩])
  (.seq (.reg [⟨some 30, .mov (.t 0), none⟩,
     ⟨some 31, .mov (.t 4), none⟩,
     ⟨some 32, .iaddr (.slice 1) (.t 31) (.k (.i .i64 0)), none⟩,
     ⟨some 33, .load false 1 (.t 32), none⟩,
     ⟨some 34, .conv (.int .i64) (.t 33), none⟩,
     ⟨some 35, .call false 133 [(.t 30), (.t 34)], none⟩,
     ⟨some 6, .mov (.t 35), none⟩])
  (.seq (.seq (.reg [⟨some 36, .mov (.t 6), none⟩,
      ⟨some 37, .len .slice (.t 36), none⟩,
      ⟨some 38, .mov (.k (.i .i64 0)), none⟩])
   (.blk 0 (.loop L63_1)))
  (.seq (.blk 2 (.seq (.reg [⟨some 49, .mov (.t 0), none⟩,
       ⟨some 50, .nilck (.t 49), none⟩,
       ⟨some 51, .faddr 2 (.t 50), none⟩,
       ⟨some 52, .load false 1 (.t 51), none⟩,
       ⟨some 53, .bin .neq (.t 52) (.k (.i .i64 0)), none⟩,
       ⟨some 48, .mov (.t 53), none⟩])
    (.cond (.t 48)
     .skip
     (.seq (.reg [⟨some 55, .mov (.t 6), none⟩,
        ⟨some 56, .len .slice (.t 55), none⟩,
        ⟨some 57, .bin .gtr (.t 56) (.k (.i .i64 0)), none⟩,
        ⟨some 58, .mov (.t 57), none⟩,
        ⟨some 59, .mov (.t 6), some (58, true)⟩,
        ⟨some 60, .iaddr (.slice 1) (.t 59) (.k (.i .i64 0)), some (58, true)⟩,
        ⟨some 61, .load false 1 (.t 60), some (58, true)⟩,
        ⟨some 62, .bin .eql (.t 61) (.k (.i .u8 0)), some (58, true)⟩,
        ⟨some 63, .pick (.t 58) (.t 62) (.k (.b false)), none⟩,
        ⟨some 54, .mov (.t 63), none⟩])
     (.cond (.t 54)
      (.reg [⟨some 64, .mov (.t 0), none⟩,
        ⟨some 65, .call false 134 [(.t 64), (.k (.i .i64 11))], none⟩])
      (.seq (.reg [⟨some 67, .mov (.t 5), none⟩,
         ⟨some 68, .bin .gtr (.t 67) (.k (.i .u64 9223372036854775807)), none⟩,
         ⟨some 66, .mov (.t 68), none⟩])
      (.cond (.t 66)
       (.reg [⟨some 69, .mov (.t 0), none⟩,
         ⟨some 70, .call false 134 [(.t 69), (.k (.i .i64 5))], none⟩])
       .skip)))))))
  (.seq (.seq (.reg [⟨some 71, .mov (.t 0), none⟩,
      ⟨some 72, .nilck (.t 71), none⟩,
      ⟨some 73, .faddr 2 (.t 72), none⟩,
      ⟨some 74, .load false 1 (.t 73), none⟩,
      ⟨some 75, .bin .neq (.t 74) (.k (.i .i64 0)), none⟩])
   (.cond (.t 75)
    (.seq (.reg [⟨some 76, .mov (.t 0), none⟩,
       ⟨some 77, .mov (.t 3), none⟩,
       ⟨some 78, .nilck (.t 76), none⟩,
       ⟨some 79, .faddr 1 (.t 78), none⟩,
       ⟨none, .store 1 (.t 79) (.t 77), none⟩])
    (.seq (.reg [⟨some 2, .mov (.k (.i .i64 0)), none⟩])
    .ret))
    .skip))
  (.seq (.reg [⟨some 80, .mov (.t 5), none⟩,
     ⟨some 81, .conv (.int .i64) (.t 80), none⟩,
     ⟨some 2, .mov (.t 81), none⟩])
  .ret))))))))))))
/-- (*tidemark/wire.Reader).Number -/
def af63 : AFunc := { n := 82, depth := 7, kl := [], res := [.tmp 2], body := B63 }

def L64_1 : AC := (.seq (.seq (.reg [⟨some 11, .mov (.t 7), none⟩,
      ⟨some 12, .mov (.t 6), none⟩,
      ⟨some 13, .bin .lss (.t 11) (.t 12), none⟩,
      ⟨some 14, .mov (.t 13), none⟩,
      ⟨some 15, .mov (.t 0), some (14, true)⟩,
      ⟨some 16, .call false 135 [(.t 15)], some (14, true)⟩,
      ⟨some 17, .bin .eql (.t 16) (.k (.i .i64 0)), some (14, true)⟩,
      ⟨some 18, .pick (.t 14) (.t 17) (.k (.b false)), none⟩])
   (.cond (.t 18)
    .skip
    (.exit 0)))
  (.seq (.blk 1 (.reg [⟨some 21, .mov (.t 5), none⟩,
      ⟨some 22, .mov (.t 0), none⟩,
      ⟨some 23, .call false 136 [(.t 22), (.k (.i .i64 96))], none⟩,
      ⟨some 24, .mov (.t 0), none⟩,
      ⟨some 25, .call false 137 [(.t 24)], none⟩,
      ⟨some 26, .mov (.t 0), none⟩,
      ⟨some 27, .call false 136 [(.t 26), (.k (.i .i64 192))], none⟩,
      ⟨some 28, .build [(.s []), (.b false), (.s [])] [(0, 1, (.t 23)), (1, 1, (.t 25)), (2, 1, (.t 27))], none⟩,
      ⟨some 29, .bslice false 58 3 1 [(.s []), (.b false), (.s [])] [(0, (.t 28))], none⟩,
      ⟨some 30, .app 58 3 (.t 21) (.t 29), none⟩,
      ⟨some 5, .mov (.t 30), none⟩]))
  (.reg [⟨some 19, .mov (.t 7), none⟩,
    ⟨some 20, .bin .add (.t 19) (.k (.i .i64 1)), none⟩,
    ⟨some 7, .mov (.t 20), none⟩])))
def B64 : AC := (.seq (.reg [⟨some 4, .mov (.k (.sl [] 0 .nil)), none⟩])
  (.seq (.reg [⟨some 5, .mov (.k (.sl [] 0 .nil)), none⟩])
  (.seq (.reg [⟨some 8, .mov (.t 0), none⟩,
     ⟨some 9, .mov (.t 1), none⟩,
     ⟨some 10, .call false 115 [(.t 8), (.k (.i .i64 0)), (.t 9)], none⟩,
     ⟨some 6, .mov (.t 10), none⟩])
  (.seq (.seq (.reg [⟨some 7, .mov (.k (.i .i64 0)), none⟩])
   (.blk 0 (.loop L64_1)))
  (.seq (.reg [⟨some 31, .mov (.t 5), none⟩,
     ⟨some 4, .mov (.t 31), none⟩])
  .ret)))))
/-- tidemark/kv.Get -/
def af64 : AFunc := { n := 32, depth := 6, kl := [], res := [.tmp 4], body := B64 }

def B65 : AC := (.seq (.reg [⟨some 2, .lalloc [(.s []), (.i .i64 0), (.s []), (.s [])] [2], none⟩])
  (.seq (.reg [⟨some 3, .mov (.t 0), none⟩,
     ⟨some 4, .call false 63 [(.t 3)], none⟩,
     ⟨some 5, .mov (.t 0), none⟩,
     ⟨some 6, .call false 136 [(.t 5), (.k (.i .i64 32))], none⟩,
     ⟨some 7, .mov (.t 0), none⟩,
     ⟨some 8, .call false 136 [(.t 7), (.k (.i .i64 32))], none⟩,
     ⟨some 9, .mov (.t 0), none⟩,
     ⟨some 10, .call false 136 [(.t 9), (.k (.i .i64 32))], none⟩,
     ⟨some 11, .build [(.s []), (.i .i64 0), (.s []), (.s [])] [(1, 1, (.t 4)), (0, 1, (.t 6)), (2, 1, (.t 8)), (3, 1, (.t 10))], none⟩,
     ⟨none, .store 4 (.t 2) (.t 11), none⟩])
  .ret))
/-- tidemark/views.Get -/
def af65 : AFunc := { n := 12, depth := 4, kl := [(2, [2])], res := [.cell 2 true 4], body := B65 }

def B66 : AC := (.seq (.reg [⟨some 2, .lalloc [(.i .i64 0), (.s []), (.s []), (.sl [] 0 .nil)] [2], none⟩,
     ⟨some 3, .mov (.k (.b false)), none⟩])
  (.seq (.reg [⟨some 5, .mov (.t 0), none⟩,
     ⟨some 6, .call false 138 [(.t 5), (.k (.i .i64 1))], none⟩,
     ⟨some 4, .lalloc [(.i .i64 0), (.s []), (.s []), (.sl [] 0 .nil)] [4], none⟩,
     ⟨none, .store 4 (.t 4) (.t 6), none⟩])
  (.seq (.seq (.reg [⟨some 7, .mov (.t 0), none⟩,
      ⟨some 8, .call false 135 [(.t 7)], none⟩,
      ⟨some 9, .bin .neq (.t 8) (.k (.i .i64 0)), none⟩,
      ⟨some 10, .mov (.t 9), none⟩,
      ⟨some 11, .load true 4 (.t 4), some (10, false)⟩,
      ⟨some 12, .call true 139 [(.t 11)], some (10, false)⟩,
      ⟨some 13, .bin .neq (.t 12) (.k (.i .i64 0)), some (10, false)⟩,
      ⟨some 14, .pick (.t 10) (.k (.b true)) (.t 13), none⟩])
   (.cond (.t 14)
    (.seq (.reg [⟨some 15, .build [(.i .i64 0), (.s []), (.s []), (.sl [] 0 .nil)] [], none⟩,
       ⟨none, .store 4 (.t 2) (.t 15), none⟩,
       ⟨some 3, .mov (.k (.b false)), none⟩])
    .ret)
    .skip))
  (.seq (.reg [⟨some 16, .load true 4 (.t 4), none⟩,
     ⟨none, .store 4 (.t 2) (.t 16), none⟩,
     ⟨some 3, .mov (.k (.b true)), none⟩])
  .ret))))
/-- tidemark/filter.Take -/
def af66 : AFunc := { n := 17, depth := 5, kl := [(2, [2]), (4, [4])], res := [.cell 2 true 4, .tmp 3], body := B66 }

def L67_1 : AC := (.seq (.reg [⟨some 7, .bin .lss (.t 6) (.t 5), none⟩])
  (.seq (.cond (.t 7)
    .skip
    (.exit 0))
  (.seq (.blk 1 (.reg [⟨some 8, .mov (.t 3), none⟩,
      ⟨some 9, .mov (.t 0), none⟩,
      ⟨some 10, .call false 63 [(.t 9)], none⟩,
      ⟨some 11, .bslice false 3 1 1 [(.i .i64 0)] [(0, (.t 10))], none⟩,
      ⟨some 12, .app 3 1 (.t 8) (.t 11), none⟩,
      ⟨some 3, .mov (.t 12), none⟩]))
  (.reg [⟨some 13, .bin .add (.t 6) (.k (.i .i64 1)), none⟩,
    ⟨some 6, .mov (.t 13), none⟩]))))
def B67 : AC := (.seq (.reg [⟨some 2, .mov (.k (.sl [] 0 .nil)), none⟩])
  (.seq (.reg [⟨some 3, .mov (.k (.sl [] 0 .nil)), none⟩])
  (.seq (.seq (.reg [⟨some 4, .mov (.t 0), none⟩,
      ⟨some 5, .call false 115 [(.t 4), (.k (.i .i64 0)), (.k (.i .i64 5))], none⟩,
      ⟨some 6, .mov (.k (.i .i64 0)), none⟩])
   (.blk 0 (.loop L67_1)))
  (.seq (.reg [⟨some 14, .mov (.t 3), none⟩,
     ⟨some 2, .mov (.t 14), none⟩])
  .ret))))
/-- tidemark/machine.list -/
def af67 : AFunc := { n := 15, depth := 4, kl := [], res := [.tmp 2], body := B67 }

def B68 : AC := (.seq (.reg [⟨some 2, .mov (.k (.i .i64 0)), none⟩])
  (.seq (.blk 0 (.seq (.reg [⟨some 4, .mov (.t 0), none⟩,
       ⟨some 5, .call false 135 [(.t 4)], none⟩,
       ⟨some 6, .bin .neq (.t 5) (.k (.i .i64 0)), none⟩,
       ⟨some 3, .mov (.t 6), none⟩])
    (.cond (.t 3)
     (.seq (.reg [⟨some 7, .mov (.t 0), none⟩,
        ⟨some 8, .call false 135 [(.t 7)], none⟩,
        ⟨some 2, .mov (.t 8), none⟩])
     .ret)
     (.seq (.reg [⟨some 10, .mov (.t 0), none⟩,
        ⟨some 11, .call false 140 [(.t 10)], none⟩,
        ⟨some 12, .bin .gtr (.t 11) (.k (.i .i64 0)), none⟩,
        ⟨some 9, .mov (.t 12), none⟩])
     (.cond (.t 9)
      (.seq (.reg [⟨some 2, .mov (.k (.i .i64 3)), none⟩])
      .ret)
      .skip)))))
  (.seq (.reg [⟨some 2, .mov (.k (.i .i64 0)), none⟩])
  .ret)))
/-- (*tidemark/wire.Reader).End -/
def af68 : AFunc := { n := 13, depth := 4, kl := [], res := [.tmp 2], body := B68 }

def B69 : AC := (.seq (.reg [⟨some 1, .lbox (.t 0) [1, 5, 9, 19, 21, 23, 25, 27, 29, 36, 40, 44, 49, 53, 55, 60, 65, 66, 71, 76, 77, 82, 83, 90, 92, 95, 100, 104, 109, 110, 112, 118, 126, 127], none⟩,
     ⟨some 2, .mov (.k (.i .i64 0)), none⟩])
  (.seq (.blk 0 (.seq (.reg [⟨some 5, .faddr 0 (.t 1), none⟩,
       ⟨some 6, .load false 1 (.t 5), none⟩,
       ⟨some 7, .bin .lss (.t 6) (.k (.i .i64 0)), none⟩,
       ⟨some 8, .mov (.t 7), none⟩,
       ⟨some 9, .faddr 0 (.t 1), some (8, false)⟩,
       ⟨some 10, .load false 1 (.t 9), some (8, false)⟩,
       ⟨some 11, .bin .gtr (.t 10) (.k (.i .i64 16)), some (8, false)⟩,
       ⟨some 12, .pick (.t 8) (.k (.b true)) (.t 11), none⟩,
       ⟨some 13, .mov (.t 12), none⟩,
       ⟨some 14, .load true 19 (.t 1), some (13, false)⟩,
       ⟨some 15, .call true 141 [(.t 14)], some (13, false)⟩,
       ⟨some 16, .un .not (.t 15), some (13, false)⟩,
       ⟨some 17, .pick (.t 13) (.k (.b true)) (.t 16), none⟩,
       ⟨some 18, .mov (.t 17), none⟩,
       ⟨some 19, .faddr 1 (.t 1), some (18, false)⟩,
       ⟨some 20, .load false 1 (.t 19), some (18, false)⟩,
       ⟨some 21, .faddr 2 (.t 1), some (18, false)⟩,
       ⟨some 22, .load false 1 (.t 21), some (18, false)⟩,
       ⟨some 23, .faddr 13 (.t 1), some (18, false)⟩,
       ⟨some 24, .load false 1 (.t 23), some (18, false)⟩,
       ⟨some 25, .faddr 14 (.t 1), some (18, false)⟩,
       ⟨some 26, .load false 1 (.t 25), some (18, false)⟩,
       ⟨some 27, .faddr 15 (.t 1), some (18, false)⟩,
       ⟨some 28, .load false 1 (.t 27), some (18, false)⟩,
       ⟨some 29, .faddr 16 (.t 1), some (18, false)⟩,
       ⟨some 30, .load false 1 (.t 29), some (18, false)⟩,
       ⟨some 31, .bslice false 3 1 6 [(.i .i64 0)] [(0, (.t 20)), (1, (.t 22)), (2, (.t 24)), (3, (.t 26)), (4, (.t 28)), (5, (.t 30))], some (18, false)⟩,
       ⟨some 32, .call true 142 [(.t 31)], some (18, false)⟩,
       ⟨some 33, .un .not (.t 32), some (18, false)⟩,
       ⟨some 34, .pick (.t 18) (.k (.b true)) (.t 33), none⟩,
       ⟨some 4, .mov (.t 34), none⟩])
    (.cond (.t 4)
     (.seq (.reg [⟨some 2, .mov (.k (.i .i64 100)), none⟩])
     .ret)
     (.seq (.reg [⟨some 36, .faddr 0 (.t 1), none⟩,
        ⟨some 37, .load false 1 (.t 36), none⟩,
        ⟨some 38, .call true 39 [(.t 37)], none⟩,
        ⟨some 39, .mov (.t 38), none⟩,
        ⟨some 40, .faddr 1 (.t 1), some (39, true)⟩,
        ⟨some 41, .load false 1 (.t 40), some (39, true)⟩,
        ⟨some 42, .bin .lss (.t 41) (.k (.i .i64 1)), some (39, true)⟩,
        ⟨some 43, .mov (.t 42), some (39, true)⟩,
        ⟨some 44, .faddr 2 (.t 1), some (43, false)⟩,
        ⟨some 45, .load false 1 (.t 44), some (43, false)⟩,
        ⟨some 46, .bin .lss (.t 45) (.k (.i .i64 1)), some (43, false)⟩,
        ⟨some 47, .pick (.t 43) (.k (.b true)) (.t 46), some (39, true)⟩,
        ⟨some 48, .pick (.t 39) (.t 47) (.k (.b false)), none⟩,
        ⟨some 35, .mov (.t 48), none⟩])
     (.cond (.t 35)
      (.seq (.reg [⟨some 2, .mov (.k (.i .i64 100)), none⟩])
      .ret)
      .skip)))))
  (.seq (.seq (.reg [⟨some 49, .faddr 0 (.t 1), none⟩,
      ⟨some 50, .load false 1 (.t 49), none⟩])
   (.blk 1 (.seq (.reg [⟨some 52, .bin .eql (.t 50) (.k (.i .i64 2)), none⟩,
       ⟨some 51, .mov (.t 52), none⟩])
    (.cond (.t 51)
     (.seq (.reg [⟨some 53, .faddr 3 (.t 1), none⟩,
        ⟨some 54, .load false 1 (.t 53), none⟩,
        ⟨some 55, .faddr 4 (.t 1), none⟩,
        ⟨some 56, .load false 1 (.t 55), none⟩,
        ⟨some 57, .call true 143 [(.t 54), (.t 56)], none⟩,
        ⟨some 2, .mov (.t 57), none⟩])
     .ret)
     (.seq (.reg [⟨some 59, .bin .eql (.t 50) (.k (.i .i64 4)), none⟩,
        ⟨some 58, .mov (.t 59), none⟩])
     (.cond (.t 58)
      (.seq (.reg [⟨some 60, .faddr 5 (.t 1), none⟩,
         ⟨some 61, .load true 4 (.t 60), none⟩,
         ⟨some 62, .call true 144 [(.t 61)], none⟩,
         ⟨some 2, .mov (.t 62), none⟩])
      .ret)
      (.seq (.reg [⟨some 64, .bin .eql (.t 50) (.k (.i .i64 5)), none⟩,
         ⟨some 63, .mov (.t 64), none⟩])
      (.cond (.t 63)
       (.seq (.reg [⟨some 65, .faddr 5 (.t 1), none⟩,
          ⟨some 66, .faddr 0 (.t 65), none⟩,
          ⟨some 67, .load false 1 (.t 66), none⟩,
          ⟨some 68, .call true 145 [(.t 67)], none⟩,
          ⟨some 2, .mov (.t 68), none⟩])
       .ret)
       (.seq (.reg [⟨some 70, .bin .eql (.t 50) (.k (.i .i64 6)), none⟩,
          ⟨some 69, .mov (.t 70), none⟩])
       (.cond (.t 69)
        (.seq (.reg [⟨some 71, .faddr 9 (.t 1), none⟩,
           ⟨some 72, .load true 4 (.t 71), none⟩,
           ⟨some 73, .call true 139 [(.t 72)], none⟩,
           ⟨some 2, .mov (.t 73), none⟩])
        .ret)
        (.seq (.reg [⟨some 75, .bin .eql (.t 50) (.k (.i .i64 9)), none⟩,
           ⟨some 74, .mov (.t 75), none⟩])
        (.cond (.t 74)
         (.seq (.reg [⟨some 76, .faddr 17 (.t 1), none⟩,
            ⟨some 77, .faddr 0 (.t 76), none⟩,
            ⟨some 78, .load false 1 (.t 77), none⟩,
            ⟨some 79, .call true 146 [(.t 78)], none⟩,
            ⟨some 80, .un .not (.t 79), none⟩,
            ⟨some 81, .mov (.t 80), none⟩,
            ⟨some 82, .faddr 17 (.t 1), some (81, false)⟩,
            ⟨some 83, .faddr 1 (.t 82), some (81, false)⟩,
            ⟨some 84, .load false 1 (.t 83), some (81, false)⟩,
            ⟨some 85, .call true 146 [(.t 84)], some (81, false)⟩,
            ⟨some 86, .un .not (.t 85), some (81, false)⟩,
            ⟨some 87, .pick (.t 81) (.k (.b true)) (.t 86), none⟩])
         (.cond (.t 87)
          (.seq (.reg [⟨some 2, .mov (.k (.i .i64 110)), none⟩])
          .ret)
          .skip))
         (.seq (.reg [⟨some 89, .bin .eql (.t 50) (.k (.i .i64 10)), none⟩,
            ⟨some 88, .mov (.t 89), none⟩])
         (.cond (.t 88)
          (.seq (.seq (.reg [⟨some 90, .faddr 14 (.t 1), none⟩,
              ⟨some 91, .load false 1 (.t 90), none⟩,
              ⟨some 92, .faddr 15 (.t 1), none⟩,
              ⟨some 93, .load false 1 (.t 92), none⟩,
              ⟨some 94, .bin .leq (.t 91) (.t 93), none⟩])
           (.cond (.t 94)
            (.seq (.reg [⟨some 2, .mov (.k (.i .i64 100)), none⟩])
            .ret)
            .skip))
          (.seq (.reg [⟨some 95, .faddr 4 (.t 1), none⟩,
             ⟨some 96, .load false 1 (.t 95), none⟩,
             ⟨some 97, .call true 147 [(.t 96), (.k (.i .i64 32))], none⟩,
             ⟨some 2, .mov (.t 97), none⟩])
          .ret))
          (.seq (.reg [⟨some 99, .bin .eql (.t 50) (.k (.i .i64 11)), none⟩,
             ⟨some 98, .mov (.t 99), none⟩])
          (.cond (.t 98)
           (.seq (.seq (.reg [⟨some 100, .faddr 14 (.t 1), none⟩,
               ⟨some 101, .load false 1 (.t 100), none⟩,
               ⟨some 102, .bin .lss (.t 101) (.k (.i .i64 1)), none⟩])
            (.cond (.t 102)
             (.seq (.reg [⟨some 2, .mov (.k (.i .i64 100)), none⟩])
             .ret)
             .skip))
           (.seq (.regd [(⟨some 103, .call false 83 [], none⟩, []),
              (⟨some 104, .faddr 4 (.t 1), none⟩, [0]),
              (⟨some 105, .load false 1 (.t 104), none⟩, [0]),
              (⟨some 106, .call false 119 [(.t 103), (.t 105)], none⟩, []),
              (⟨some 2, .mov (.t 106), none⟩, [])])
           .ret))
           (.seq (.reg [⟨some 108, .bin .eql (.t 50) (.k (.i .i64 12)), none⟩,
              ⟨some 107, .mov (.t 108), none⟩])
           (.cond (.t 107)
            (.seq (.seq (.reg [⟨some 109, .faddr 5 (.t 1), none⟩,
                ⟨some 110, .faddr 0 (.t 109), none⟩,
                ⟨some 111, .load false 1 (.t 110), none⟩,
                ⟨some 112, .faddr 14 (.t 1), none⟩,
                ⟨some 113, .load false 1 (.t 112), none⟩,
                ⟨some 114, .call true 148 [(.t 111), (.t 113)], none⟩,
                ⟨some 3, .mov (.t 114), none⟩])
             (.seq (.reg [⟨some 115, .mov (.t 3), none⟩,
                ⟨some 116, .bin .neq (.t 115) (.k (.i .i64 0)), none⟩])
             (.cond (.t 116)
              (.seq (.reg [⟨some 117, .mov (.t 3), none⟩,
                 ⟨some 2, .mov (.t 117), none⟩])
              .ret)
              .skip)))
            (.seq (.reg [⟨some 118, .faddr 9 (.t 1), none⟩,
               ⟨some 119, .load true 4 (.t 118), none⟩,
               ⟨some 120, .call true 139 [(.t 119)], none⟩,
               ⟨some 2, .mov (.t 120), none⟩])
            .ret))
            (.seq (.seq (.reg [⟨some 122, .bin .eql (.t 50) (.k (.i .i64 13)), none⟩,
                ⟨some 121, .mov (.t 122), none⟩])
             (.cond (.t 121)
              .skip
              (.seq (.reg [⟨some 123, .bin .eql (.t 50) (.k (.i .i64 14)), none⟩,
                 ⟨some 121, .mov (.t 123), none⟩])
              (.cond (.t 121)
               .skip
               (.seq (.reg [⟨some 124, .bin .eql (.t 50) (.k (.i .i64 15)), none⟩,
                  ⟨some 121, .mov (.t 124), none⟩])
               (.cond (.t 121)
                .skip
                (.reg [⟨some 125, .bin .eql (.t 50) (.k (.i .i64 16)), none⟩,
                  ⟨some 121, .mov (.t 125), none⟩])))))))
            (.cond (.t 121)
             (.seq (.reg [⟨some 126, .faddr 5 (.t 1), none⟩,
                ⟨some 127, .faddr 0 (.t 126), none⟩,
                ⟨some 128, .load false 1 (.t 127), none⟩,
                ⟨some 129, .call true 148 [(.t 128), (.k (.i .i64 1))], none⟩,
                ⟨some 2, .mov (.t 129), none⟩])
             .ret)
             .skip))))))))))))))))))))
  (.seq (.reg [⟨some 2, .mov (.k (.i .i64 0)), none⟩])
  .ret))))
/-- tidemark/machine.Check -/
def af69 : AFunc := { n := 130, depth := 8, kl := [(1, [1, 5, 9, 19, 21, 23, 25, 27, 29, 36, 40, 44, 49, 53, 55, 60, 65, 66, 71, 76, 77, 82, 83, 90, 92, 95, 100, 104, 109, 110, 112, 118, 126, 127])], res := [.tmp 2], body := B69 }

def L78_1 : AC := (.seq (.reg [⟨some 10, .bin .lss (.t 9) (.t 8), none⟩])
  (.seq (.cond (.t 10)
    .skip
    (.exit 0))
  (.seq (.blk 1 (.seq (.reg [⟨some 11, .iaddr (.slice 1) (.t 7) (.t 9), none⟩,
       ⟨some 12, .load false 1 (.t 11), none⟩,
       ⟨some 6, .mov (.t 12), none⟩])
    (.reg [⟨some 13, .mov (.t 0), none⟩,
      ⟨some 14, .mov (.t 6), none⟩,
      ⟨some 15, .call false 82 [(.t 13), (.t 14)], none⟩,
      ⟨some 0, .mov (.t 15), none⟩])))
  (.reg [⟨some 16, .bin .add (.t 9) (.k (.i .i64 1)), none⟩,
    ⟨some 9, .mov (.t 16), none⟩]))))
def B78 : AC := (.seq (.reg [⟨some 4, .mov (.k (.sl [] 0 .nil)), none⟩])
  (.seq (.seq (.reg [⟨some 7, .mov (.t 1), none⟩,
      ⟨some 8, .len .slice (.t 7), none⟩,
      ⟨some 9, .mov (.k (.i .i64 0)), none⟩])
   (.blk 0 (.loop L78_1)))
  (.seq (.reg [⟨some 17, .mov (.t 0), none⟩,
     ⟨some 4, .mov (.t 17), none⟩])
  .ret)))
/-- tidemark/wire.Numbers -/
def af78 : AFunc := { n := 18, depth := 5, kl := [], res := [.tmp 4], body := B78 }

def L79_1 : AC := (.seq (.reg [⟨some 14, .bin .lss (.t 13) (.t 12), none⟩])
  (.seq (.cond (.t 14)
    .skip
    (.exit 0))
  (.seq (.blk 1 (.seq (.reg [⟨some 15, .iaddr (.slice 3) (.t 11) (.t 13), none⟩,
       ⟨some 16, .load true 3 (.t 15), none⟩,
       ⟨some 6, .lalloc [(.s []), (.b false), (.s [])] [6, 18, 21, 24], none⟩,
       ⟨none, .store 3 (.t 6) (.t 16), none⟩])
    (.regd [(⟨some 17, .mov (.t 0), none⟩, []),
      (⟨some 18, .faddr 0 (.t 6), none⟩, [0]),
      (⟨some 19, .load false 1 (.t 18), none⟩, [0]),
      (⟨some 20, .call false 160 [(.t 17), (.t 19)], none⟩, []),
      (⟨some 21, .faddr 1 (.t 6), none⟩, [0, 1, 2, 3]),
      (⟨some 22, .load false 1 (.t 21), none⟩, [0, 1, 2, 3]),
      (⟨some 23, .call false 161 [(.t 20), (.t 22)], none⟩, []),
      (⟨some 24, .faddr 2 (.t 6), none⟩, [0, 1, 2, 3, 4, 5, 6]),
      (⟨some 25, .load false 1 (.t 24), none⟩, [0, 1, 2, 3, 4, 5, 6]),
      (⟨some 26, .call false 160 [(.t 23), (.t 25)], none⟩, []),
      (⟨some 0, .mov (.t 26), none⟩, [])])))
  (.reg [⟨some 27, .bin .add (.t 13) (.k (.i .i64 1)), none⟩,
    ⟨some 13, .mov (.t 27), none⟩]))))
def B79 : AC := (.seq (.reg [⟨some 4, .mov (.k (.sl [] 0 .nil)), none⟩])
  (.seq (.reg [⟨some 7, .mov (.t 0), none⟩,
     ⟨some 8, .mov (.t 1), none⟩,
     ⟨some 9, .len .slice (.t 8), none⟩,
     ⟨some 10, .call false 82 [(.t 7), (.t 9)], none⟩,
     ⟨some 0, .mov (.t 10), none⟩])
  (.seq (.seq (.reg [⟨some 11, .mov (.t 1), none⟩,
      ⟨some 12, .len .slice (.t 11), none⟩,
      ⟨some 13, .mov (.k (.i .i64 0)), none⟩])
   (.blk 0 (.loop L79_1)))
  (.seq (.reg [⟨some 28, .mov (.t 0), none⟩,
     ⟨some 4, .mov (.t 28), none⟩])
  .ret))))
/-- tidemark/kv.Put -/
def af79 : AFunc := { n := 29, depth := 5, kl := [(6, [6, 18, 21, 24])], res := [.tmp 4], body := B79 }

def B80 : AC := (.seq (.reg [⟨some 3, .lbox (.t 1) [3, 6, 9, 13, 16], none⟩,
     ⟨some 4, .mov (.k (.sl [] 0 .nil)), none⟩])
  (.seq (.regd [(⟨some 5, .mov (.t 0), none⟩, []),
     (⟨some 6, .faddr 1 (.t 3), none⟩, [0]),
     (⟨some 7, .load false 1 (.t 6), none⟩, [0]),
     (⟨some 8, .call false 82 [(.t 5), (.t 7)], none⟩, []),
     (⟨some 9, .faddr 0 (.t 3), none⟩, [0, 1, 2, 3]),
     (⟨some 10, .load false 1 (.t 9), none⟩, [0, 1, 2, 3]),
     (⟨some 11, .call false 160 [(.t 8), (.t 10)], none⟩, []),
     (⟨some 0, .mov (.t 11), none⟩, [])])
  (.seq (.regd [(⟨some 12, .mov (.t 0), none⟩, []),
     (⟨some 13, .faddr 2 (.t 3), none⟩, [0]),
     (⟨some 14, .load false 1 (.t 13), none⟩, [0]),
     (⟨some 15, .call false 160 [(.t 12), (.t 14)], none⟩, []),
     (⟨some 16, .faddr 3 (.t 3), none⟩, [0, 1, 2, 3]),
     (⟨some 17, .load false 1 (.t 16), none⟩, [0, 1, 2, 3]),
     (⟨some 18, .call false 160 [(.t 15), (.t 17)], none⟩, []),
     (⟨some 4, .mov (.t 18), none⟩, [])])
  .ret)))
/-- tidemark/views.Put -/
def af80 : AFunc := { n := 19, depth := 5, kl := [(3, [3, 6, 9, 13, 16])], res := [.tmp 4], body := B80 }

def B81 : AC := (.seq (.reg [⟨some 1, .lbox (.t 0) [1], none⟩,
     ⟨some 2, .mov (.k (.sl [] 0 .nil)), none⟩,
     ⟨some 3, .mov (.k (.i .i64 0)), none⟩])
  (.seq (.seq (.reg [⟨some 5, .load true 4 (.t 1), none⟩,
      ⟨some 6, .call true 139 [(.t 5)], none⟩,
      ⟨some 4, .mov (.t 6), none⟩])
   (.seq (.reg [⟨some 7, .mov (.t 4), none⟩,
      ⟨some 8, .bin .neq (.t 7) (.k (.i .i64 0)), none⟩])
   (.cond (.t 8)
    (.seq (.reg [⟨some 9, .mov (.t 4), none⟩,
       ⟨some 2, .mov (.k (.sl [] 0 .nil)), none⟩,
       ⟨some 3, .mov (.t 9), none⟩])
    .ret)
    .skip)))
  (.seq (.reg [⟨some 10, .load true 4 (.t 1), none⟩,
     ⟨some 11, .call false 162 [(.k (.sl [] 0 .nil)), (.t 10)], none⟩,
     ⟨some 2, .mov (.t 11), none⟩,
     ⟨some 3, .mov (.k (.i .i64 0)), none⟩])
  .ret)))
/-- tidemark/filter.Put -/
def af81 : AFunc := { n := 12, depth := 4, kl := [(1, [1])], res := [.tmp 2, .tmp 3], body := B81 }

def L82_2 : AC := (.seq (.seq (.reg [⟨some 35, .mov (.t 7), none⟩,
      ⟨some 36, .bin .geq (.t 35) (.k (.i .i64 0)), none⟩])
   (.cond (.t 36)
    .skip
    (.exit 2)))
  (.seq (.blk 3 (.reg [⟨some 39, .mov (.t 6), none⟩,
      ⟨some 40, .mov (.t 1), none⟩,
      ⟨some 41, .mov (.t 7), none⟩,
      ⟨some 42, .bin .mul (.k (.i .i64 8)) (.t 41), none⟩,
      ⟨some 43, .bin .shr (.t 40) (.t 42), none⟩,
      ⟨some 44, .conv (.int .u8) (.t 43), none⟩,
      ⟨some 45, .bslice false 5 1 1 [(.i .u8 0)] [(0, (.t 44))], none⟩,
      ⟨some 46, .app 5 1 (.t 39) (.t 45), none⟩,
      ⟨some 6, .mov (.t 46), none⟩]))
  (.reg [⟨some 37, .mov (.t 7), none⟩,
    ⟨some 38, .bin .sub (.t 37) (.k (.i .i64 1)), none⟩,
    ⟨some 7, .mov (.t 38), none⟩])))
def L82_1 : AC := (.seq (.seq (.reg [⟨some 10, .mov (.t 5), none⟩,
      ⟨some 11, .bin .lss (.t 10) (.k (.i .i64 8)), none⟩,
      ⟨some 12, .mov (.t 11), none⟩,
      ⟨some 13, .mov (.t 1), some (12, true)⟩,
      ⟨some 14, .mov (.t 5), some (12, true)⟩,
      ⟨some 15, .bin .mul (.k (.i .i64 8)) (.t 14), some (12, true)⟩,
      ⟨some 16, .bin .shr (.t 13) (.t 15), some (12, true)⟩,
      ⟨some 17, .bin .gtr (.t 16) (.k (.i .i64 0)), some (12, true)⟩,
      ⟨some 18, .pick (.t 12) (.t 17) (.k (.b false)), none⟩])
   (.cond (.t 18)
    .skip
    (.exit 0)))
  (.blk 1 (.reg [⟨some 19, .mov (.t 5), none⟩,
     ⟨some 20, .bin .add (.t 19) (.k (.i .i64 1)), none⟩,
     ⟨some 5, .mov (.t 20), none⟩])))
def B82 : AC := (.seq (.reg [⟨some 4, .mov (.k (.sl [] 0 .nil)), none⟩])
  (.seq (.reg [⟨some 8, .mov (.t 1), none⟩,
     ⟨some 9, .minmax true (.t 8) (.k (.i .i64 0)), none⟩,
     ⟨some 1, .mov (.t 9), none⟩])
  (.seq (.reg [⟨some 5, .mov (.k (.i .i64 0)), none⟩])
  (.seq (.blk 0 (.loop L82_1))
  (.seq (.reg [⟨some 21, .mov (.t 0), none⟩,
     ⟨some 22, .len .slice (.t 21), none⟩,
     ⟨some 23, .mov (.t 5), none⟩,
     ⟨some 24, .bin .add (.t 22) (.t 23), none⟩,
     ⟨some 25, .bin .add (.t 24) (.k (.i .i64 1)), none⟩,
     ⟨some 26, .mkslice false 5 1 [(.i .u8 0)] (.k (.i .i64 0)) (.t 25), none⟩,
     ⟨some 27, .mov (.t 0), none⟩,
     ⟨some 28, .app 5 1 (.t 26) (.t 27), none⟩,
     ⟨some 29, .mov (.t 5), none⟩,
     ⟨some 30, .conv (.int .u8) (.t 29), none⟩,
     ⟨some 31, .bslice false 5 1 1 [(.i .u8 0)] [(0, (.t 30))], none⟩,
     ⟨some 32, .app 5 1 (.t 28) (.t 31), none⟩,
     ⟨some 6, .mov (.t 32), none⟩])
  (.seq (.seq (.reg [⟨some 33, .mov (.t 5), none⟩,
      ⟨some 34, .bin .sub (.t 33) (.k (.i .i64 1)), none⟩,
      ⟨some 7, .mov (.t 34), none⟩])
   (.blk 2 (.loop L82_2)))
  (.seq (.reg [⟨some 47, .mov (.t 6), none⟩,
     ⟨some 4, .mov (.t 47), none⟩])
  .ret)))))))
/-- tidemark/wire.Number -/
def af82 : AFunc := { n := 48, depth := 6, kl := [], res := [.tmp 4], body := B82 }

def B83 : AC := (.seq (.reg [⟨some 0, .mov (.k .nilp), none⟩])
  (.seq (.reg [⟨some 1, .call false 163 [], none⟩,
     ⟨some 2, .build [.nilp] [(0, 1, (.t 1))], none⟩,
     ⟨some 3, .box 231 (.t 2), none⟩,
     ⟨some 0, .mov (.t 3), none⟩])
  .ret))
/-- tidemark/kv.New -/
def af83 : AFunc := { n := 4, depth := 3, kl := [], res := [.tmp 0], body := B83 }

def B84 : AC := (.seq (.reg [⟨some 0, .mov (.k .nilp), none⟩])
  (.seq (.reg [⟨some 1, .build [(.sl [] 0 .nil), (.b false)] [(1, 1, (.k (.b true)))], none⟩,
     ⟨some 2, .box 234 (.t 1), none⟩,
     ⟨some 0, .mov (.t 2), none⟩])
  .ret))
/-- tidemark/views.New -/
def af84 : AFunc := { n := 3, depth := 2, kl := [], res := [.tmp 0], body := B84 }

def B85 : AC := (.seq (.reg [⟨some 0, .mov (.k .nilp), none⟩])
  (.seq (.reg [⟨some 1, .build [(.sl [] 0 .nil), (.sl [] 0 .nil), (.i .i64 0), (.i .i64 0)] [(2, 1, (.k (.i .i64 1)))], none⟩,
     ⟨some 2, .box 236 (.t 1), none⟩,
     ⟨some 0, .mov (.t 2), none⟩])
  .ret))
/-- tidemark/feed.New -/
def af85 : AFunc := { n := 3, depth := 2, kl := [], res := [.tmp 0], body := B85 }

def B86 : AC := (.seq (.reg [⟨some 0, .mov (.k .nilp), none⟩])
  (.seq (.reg [⟨some 1, .build [(.sl [] 0 .nil), (.i .i64 0), (.b false)] [(2, 1, (.k (.b true)))], none⟩,
     ⟨some 2, .box 238 (.t 1), none⟩,
     ⟨some 0, .mov (.t 2), none⟩])
  .ret))
/-- tidemark/sess.New -/
def af86 : AFunc := { n := 3, depth := 2, kl := [], res := [.tmp 0], body := B86 }

def B87 : AC := (.seq (.reg [⟨some 0, .mov (.k .nilp), none⟩])
  (.seq (.reg [⟨some 1, .build [(.sl [] 0 .nil), (.b false)] [(1, 1, (.k (.b true)))], none⟩,
     ⟨some 2, .box 240 (.t 1), none⟩,
     ⟨some 0, .mov (.t 2), none⟩])
  .ret))
/-- tidemark/group.New -/
def af87 : AFunc := { n := 3, depth := 2, kl := [], res := [.tmp 0], body := B87 }

def B88 : AC := (.seq (.reg [⟨some 2, .mov (.k (.b false)), none⟩])
  (.seq (.reg [⟨some 3, .mov (.t 0), none⟩,
     ⟨some 4, .eq false .ptr (.t 3) (.k .nilp), none⟩,
     ⟨some 5, .mov (.t 4), none⟩,
     ⟨some 6, .mov (.t 0), some (5, false)⟩,
     ⟨some 7, .nilck (.t 6), some (5, false)⟩,
     ⟨some 8, .faddr 0 (.t 7), some (5, false)⟩,
     ⟨some 9, .faddr 0 (.t 8), some (5, false)⟩,
     ⟨some 10, .load false 1 (.t 9), some (5, false)⟩,
     ⟨some 11, .eq false .ptr (.t 10) (.k .nilp), some (5, false)⟩,
     ⟨some 12, .pick (.t 5) (.k (.b true)) (.t 11), none⟩,
     ⟨some 2, .mov (.t 12), none⟩])
  .ret))
/-- (*tidemark/machine.Machine).dead -/
def af88 : AFunc := { n := 13, depth := 4, kl := [], res := [.tmp 2], body := B88 }

def L89_1 : AC := (.seq (.reg [⟨some 28, .bin .lss (.t 27) (.t 26), none⟩])
  (.seq (.cond (.t 28)
    .skip
    (.exit 0))
  (.seq (.blk 1 (.seq (.reg [⟨some 29, .iaddr (.slice 2) (.t 25) (.t 27), none⟩,
       ⟨some 30, .load true 2 (.t 29), none⟩,
       ⟨some 9, .lalloc [(.s []), (.s [])] [9, 32, 34], none⟩,
       ⟨none, .store 2 (.t 9) (.t 30), none⟩])
    (.reg [⟨some 31, .mov (.t 7), none⟩,
      ⟨some 32, .faddr 0 (.t 9), none⟩,
      ⟨some 33, .load false 1 (.t 32), none⟩,
      ⟨some 34, .faddr 1 (.t 9), none⟩,
      ⟨some 35, .load false 1 (.t 34), none⟩,
      ⟨some 36, .build [(.s []), (.b false), (.s [])] [(0, 1, (.t 33)), (1, 1, (.k (.b true))), (2, 1, (.t 35))], none⟩,
      ⟨some 37, .bslice false 58 3 1 [(.s []), (.b false), (.s [])] [(0, (.t 36))], none⟩,
      ⟨some 38, .app 58 3 (.t 31) (.t 37), none⟩,
      ⟨some 7, .mov (.t 38), none⟩])))
  (.reg [⟨some 39, .bin .add (.t 27) (.k (.i .i64 1)), none⟩,
    ⟨some 27, .mov (.t 39), none⟩]))))
def B89 : AC := (.seq (.reg [⟨some 6, .mov (.k (.sl [] 0 .nil)), none⟩])
  (.seq (.reg [⟨some 7, .mov (.k (.sl [] 0 .nil)), none⟩])
  (.seq (.seq (.reg [⟨some 10, .mov (.t 0), none⟩,
      ⟨some 11, .call false 164 [(.t 10)], none⟩,
      ⟨some 12, .un .not (.t 11), none⟩])
   (.cond (.t 12)
    (.seq (.reg [⟨some 13, .mov (.t 7), none⟩,
       ⟨some 6, .mov (.t 13), none⟩])
    .ret)
    .skip))
  (.seq (.seq (.regd [(⟨some 14, .mov (.t 0), none⟩, []),
      (⟨some 15, .nilck (.t 14), none⟩, []),
      (⟨some 16, .faddr 0 (.t 15), none⟩, []),
      (⟨some 17, .load false 1 (.t 16), none⟩, []),
      (⟨some 18, .mov (.t 1), none⟩, [0, 1, 2, 3]),
      (⟨some 19, .mov (.t 2), none⟩, [0, 1, 2, 3, 4]),
      (⟨some 20, .mov (.t 0), none⟩, [0, 1, 2, 3, 4, 5]),
      (⟨some 21, .nilck (.t 20), none⟩, [0, 1, 2, 3, 4, 5]),
      (⟨some 22, .faddr 0 (.t 21), none⟩, [0, 1, 2, 3, 4, 5]),
      (⟨some 23, .load false 1 (.t 22), none⟩, [0, 1, 2, 3, 4, 5]),
      (⟨some 24, .call false 166 [(.t 23)], none⟩, [0, 1, 2, 3, 4, 5]),
      (⟨some 25, .call false 165 [(.t 17), (.t 18), (.t 19), (.t 24)], none⟩, []),
      (⟨some 26, .len .slice (.t 25), none⟩, []),
      (⟨some 27, .mov (.k (.i .i64 0)), none⟩, [0, 1, 2, 3, 4, 5, 6, 7, 8, 9, 10, 11, 12])])
   (.blk 0 (.loop L89_1)))
  (.seq (.reg [⟨some 40, .mov (.t 7), none⟩,
     ⟨some 6, .mov (.t 40), none⟩])
  .ret)))))
/-- (*tidemark/kv.Map).Scan -/
def af89 : AFunc := { n := 41, depth := 6, kl := [(9, [9, 32, 34])], res := [.tmp 6], body := B89 }

def L93_2 : AC := (.seq (.seq (.reg [⟨some 59, .mov (.t 17), none⟩,
      ⟨some 60, .mov (.t 15), none⟩,
      ⟨some 61, .len .slice (.t 60), none⟩,
      ⟨some 62, .bin .lss (.t 59) (.t 61), none⟩,
      ⟨some 63, .mov (.t 62), none⟩,
      ⟨some 64, .mov (.t 15), some (63, true)⟩,
      ⟨some 65, .mov (.t 17), some (63, true)⟩,
      ⟨some 66, .iaddr (.slice 6) (.t 64) (.t 65), some (63, true)⟩,
      ⟨some 67, .faddr 0 (.t 66), some (63, true)⟩,
      ⟨some 68, .load false 1 (.t 67), some (63, true)⟩,
      ⟨some 69, .mov (.t 16), some (63, true)⟩,
      ⟨some 70, .bin .eql (.t 68) (.t 69), some (63, true)⟩,
      ⟨some 71, .pick (.t 63) (.t 70) (.k (.b false)), none⟩])
   (.cond (.t 71)
    .skip
    (.exit 3)))
  (.blk 4 (.reg [⟨some 72, .mov (.t 17), none⟩,
     ⟨some 73, .bin .add (.t 72) (.k (.i .i64 1)), none⟩,
     ⟨some 17, .mov (.t 73), none⟩])))
def L93_1 : AC := (.seq (.seq (.reg [⟨some 52, .mov (.t 15), none⟩,
      ⟨some 53, .len .slice (.t 52), none⟩,
      ⟨some 54, .bin .gtr (.t 53) (.k (.i .i64 0)), none⟩])
   (.cond (.t 54)
    .skip
    (.exit 1)))
  (.blk 2 (.seq (.reg [⟨some 55, .mov (.t 15), none⟩,
      ⟨some 56, .iaddr (.slice 6) (.t 55) (.k (.i .i64 0)), none⟩,
      ⟨some 57, .faddr 0 (.t 56), none⟩,
      ⟨some 58, .load false 1 (.t 57), none⟩,
      ⟨some 16, .mov (.t 58), none⟩])
   (.seq (.reg [⟨some 17, .mov (.k (.i .i64 0)), none⟩])
   (.seq (.blk 3 (.loop L93_2))
   (.seq (.seq (.reg [⟨some 74, .mov (.t 16), none⟩,
       ⟨some 75, .mov (.t 2), none⟩,
       ⟨some 76, .bin .gtr (.t 74) (.t 75), none⟩])
    (.cond (.t 76)
     (.seq (.reg [⟨some 77, .mov (.t 0), none⟩,
        ⟨some 78, .nilck (.t 77), none⟩,
        ⟨some 79, .faddr 1 (.t 78), none⟩,
        ⟨some 80, .load false 1 (.t 79), none⟩,
        ⟨some 81, .mov (.t 11), none⟩,
        ⟨some 82, .iaddr (.slice 8) (.t 80) (.t 81), none⟩,
        ⟨some 83, .faddr 3 (.t 82), none⟩,
        ⟨some 84, .load true 4 (.t 83), none⟩,
        ⟨some 85, .mov (.t 15), none⟩,
        ⟨some 86, .mov (.t 17), none⟩,
        ⟨some 87, .slc (.slice 6) (.t 85) none (some (.t 86)) none, none⟩,
        ⟨some 88, .call false 57 [(.t 84), (.t 87)], none⟩,
        ⟨some 18, .mov (.t 88), none⟩])
     (.seq (.seq (.reg [⟨some 89, .mov (.t 13), none⟩,
         ⟨some 90, .len .slice (.t 89), none⟩,
         ⟨some 91, .mov (.t 18), none⟩,
         ⟨some 92, .len .slice (.t 91), none⟩,
         ⟨some 93, .bin .add (.t 90) (.t 92), none⟩,
         ⟨some 94, .mov (.t 3), none⟩,
         ⟨some 95, .bin .gtr (.t 93) (.t 94), none⟩,
         ⟨some 96, .mov (.t 95), none⟩,
         ⟨some 97, .mov (.t 14), some (96, true)⟩,
         ⟨some 98, .mov (.t 2), some (96, true)⟩,
         ⟨some 99, .bin .gtr (.t 97) (.t 98), some (96, true)⟩,
         ⟨some 100, .pick (.t 96) (.t 99) (.k (.b false)), none⟩])
      (.cond (.t 100)
       (.seq (.reg [⟨some 101, .mov (.t 13), none⟩,
          ⟨some 102, .mov (.t 14), none⟩,
          ⟨some 8, .mov (.t 101), none⟩,
          ⟨some 9, .mov (.t 102), none⟩,
          ⟨some 10, .mov (.k (.i .i64 0)), none⟩])
       .ret)
       .skip))
     (.reg [⟨some 103, .mov (.t 13), none⟩,
       ⟨some 104, .mov (.t 18), none⟩,
       ⟨some 105, .app 100 6 (.t 103) (.t 104), none⟩,
       ⟨some 106, .mov (.t 16), none⟩,
       ⟨some 13, .mov (.t 105), none⟩,
       ⟨some 14, .mov (.t 106), none⟩])))
     .skip))
   (.reg [⟨some 107, .mov (.t 15), none⟩,
     ⟨some 108, .mov (.t 17), none⟩,
     ⟨some 109, .slc (.slice 6) (.t 107) (some (.t 108)) none none, none⟩,
     ⟨some 15, .mov (.t 109), none⟩])))))))
def B93 : AC := (.seq (.reg [⟨some 8, .mov (.k (.sl [] 0 .nil)), none⟩,
     ⟨some 9, .mov (.k (.i .i64 0)), none⟩,
     ⟨some 10, .mov (.k (.i .i64 0)), none⟩])
  (.seq (.reg [⟨some 20, .mov (.t 0), none⟩,
     ⟨some 21, .mov (.t 1), none⟩,
     ⟨some 22, .call false 172 [(.t 20), (.t 21)], none⟩,
     ⟨some 19, .mov (.t 22), none⟩,
     ⟨some 23, .ext (.t 19) 0, none⟩,
     ⟨some 24, .ext (.t 19) 1, none⟩,
     ⟨some 11, .mov (.t 23), none⟩,
     ⟨some 12, .mov (.t 24), none⟩])
  (.seq (.blk 0 (.seq (.reg [⟨some 26, .mov (.t 12), none⟩,
       ⟨some 27, .bin .neq (.t 26) (.k (.i .i64 0)), none⟩,
       ⟨some 25, .mov (.t 27), none⟩])
    (.cond (.t 25)
     (.seq (.reg [⟨some 28, .mov (.t 12), none⟩,
        ⟨some 8, .mov (.k (.sl [] 0 .nil)), none⟩,
        ⟨some 9, .mov (.k (.i .i64 0)), none⟩,
        ⟨some 10, .mov (.t 28), none⟩])
     .ret)
     (.seq (.reg [⟨some 30, .mov (.t 2), none⟩,
        ⟨some 31, .mov (.t 0), none⟩,
        ⟨some 32, .nilck (.t 31), none⟩,
        ⟨some 33, .faddr 1 (.t 32), none⟩,
        ⟨some 34, .load false 1 (.t 33), none⟩,
        ⟨some 35, .mov (.t 11), none⟩,
        ⟨some 36, .iaddr (.slice 8) (.t 34) (.t 35), none⟩,
        ⟨some 37, .faddr 2 (.t 36), none⟩,
        ⟨some 38, .load false 1 (.t 37), none⟩,
        ⟨some 39, .bin .lss (.t 30) (.t 38), none⟩,
        ⟨some 29, .mov (.t 39), none⟩])
     (.cond (.t 29)
      (.seq (.reg [⟨some 8, .mov (.k (.sl [] 0 .nil)), none⟩,
         ⟨some 9, .mov (.k (.i .i64 0)), none⟩,
         ⟨some 10, .mov (.k (.i .i64 82)), none⟩])
      .ret)
      (.seq (.reg [⟨some 41, .mov (.t 2), none⟩,
         ⟨some 42, .mov (.t 0), none⟩,
         ⟨some 43, .nilck (.t 42), none⟩,
         ⟨some 44, .faddr 3 (.t 43), none⟩,
         ⟨some 45, .load false 1 (.t 44), none⟩,
         ⟨some 46, .bin .gtr (.t 41) (.t 45), none⟩,
         ⟨some 40, .mov (.t 46), none⟩])
      (.cond (.t 40)
       (.seq (.reg [⟨some 8, .mov (.k (.sl [] 0 .nil)), none⟩,
          ⟨some 9, .mov (.k (.i .i64 0)), none⟩,
          ⟨some 10, .mov (.k (.i .i64 5)), none⟩])
       .ret)
       .skip)))))))
  (.seq (.reg [⟨some 13, .mov (.k (.sl [] 0 .nil)), none⟩])
  (.seq (.reg [⟨some 47, .mov (.t 2), none⟩,
     ⟨some 14, .mov (.t 47), none⟩])
  (.seq (.reg [⟨some 48, .mov (.t 0), none⟩,
     ⟨some 49, .nilck (.t 48), none⟩,
     ⟨some 50, .faddr 0 (.t 49), none⟩,
     ⟨some 51, .load false 1 (.t 50), none⟩,
     ⟨some 15, .mov (.t 51), none⟩])
  (.seq (.blk 1 (.loop L93_1))
  (.seq (.reg [⟨some 110, .mov (.t 13), none⟩,
     ⟨some 111, .mov (.t 0), none⟩,
     ⟨some 112, .nilck (.t 111), none⟩,
     ⟨some 113, .faddr 3 (.t 112), none⟩,
     ⟨some 114, .load false 1 (.t 113), none⟩,
     ⟨some 8, .mov (.t 110), none⟩,
     ⟨some 9, .mov (.t 114), none⟩,
     ⟨some 10, .mov (.k (.i .i64 0)), none⟩])
  .ret))))))))
/-- (*tidemark/feed.Feed).Read -/
def af93 : AFunc := { n := 115, depth := 7, kl := [], res := [.tmp 8, .tmp 9, .tmp 10], body := B93 }

def L108_2 : AC := (.seq (.seq (.reg [⟨some 55, .mov (.t 0), none⟩,
      ⟨some 56, .nilck (.t 55), none⟩,
      ⟨some 57, .faddr 0 (.t 56), none⟩,
      ⟨some 58, .load false 1 (.t 57), none⟩,
      ⟨some 59, .len .slice (.t 58), none⟩,
      ⟨some 60, .bin .gtr (.t 59) (.k (.i .i64 32)), none⟩])
   (.cond (.t 60)
    .skip
    (.exit 3)))
  (.blk 4 (.seq (.reg [⟨some 61, .mov (.t 0), none⟩,
      ⟨some 62, .mov (.t 0), none⟩,
      ⟨some 63, .nilck (.t 62), none⟩,
      ⟨some 64, .faddr 1 (.t 63), none⟩,
      ⟨some 65, .load false 1 (.t 64), none⟩,
      ⟨some 66, .call false 212 [(.t 65)], none⟩,
      ⟨some 67, .nilck (.t 61), none⟩,
      ⟨some 68, .faddr 1 (.t 67), none⟩,
      ⟨none, .store 1 (.t 68) (.t 66), none⟩])
   (.seq (.regd [(⟨some 69, .mov (.t 0), none⟩, []),
      (⟨some 70, .nilck (.t 69), none⟩, []),
      (⟨some 71, .faddr 1 (.t 70), none⟩, []),
      (⟨some 72, .load false 1 (.t 71), none⟩, []),
      (⟨some 73, .mov (.t 0), none⟩, [0, 1, 2, 3]),
      (⟨some 74, .call false 213 [(.t 73)], none⟩, [0, 1, 2, 3]),
      (⟨some 75, .iaddr (.slice 8) (.t 72) (.t 74), none⟩, []),
      (⟨some 76, .faddr 7 (.t 75), none⟩, []),
      (⟨none, .store 1 (.t 76) (.k (.b true)), none⟩, [])])
   (.reg [⟨some 77, .mov (.t 0), none⟩,
     ⟨some 78, .call false 211 [(.t 77)], none⟩])))))
def L108_1 : AC := (.seq (.reg [⟨some 37, .bin .lss (.t 36) (.t 35), none⟩])
  (.seq (.cond (.t 37)
    .skip
    (.exit 1))
  (.seq (.blk 2 (.seq (.reg [⟨some 38, .iaddr (.slice 6) (.t 34) (.t 36), none⟩,
       ⟨some 39, .load true 6 (.t 38), none⟩,
       ⟨some 8, .lalloc [(.i .i64 0), (.s []), (.b false), (.s []), (.b false), (.s [])] [8, 41], none⟩,
       ⟨none, .store 6 (.t 8) (.t 39), none⟩])
    (.seq (.reg [⟨some 40, .mov (.t 1), none⟩,
       ⟨some 41, .faddr 0 (.t 8), none⟩,
       ⟨none, .store 1 (.t 41) (.t 40), none⟩])
    (.regd [(⟨some 42, .mov (.t 0), none⟩, []),
      (⟨some 43, .mov (.t 0), none⟩, [0]),
      (⟨some 44, .nilck (.t 43), none⟩, [0]),
      (⟨some 45, .faddr 0 (.t 44), none⟩, [0]),
      (⟨some 46, .load false 1 (.t 45), none⟩, [0]),
      (⟨some 47, .load true 6 (.t 8), none⟩, [0, 1, 2, 3, 4]),
      (⟨some 48, .bslice false 100 6 1 [(.i .i64 0), (.s []), (.b false), (.s []), (.b false), (.s [])] [(0, (.t 47))], none⟩, [0, 1, 2, 3, 4]),
      (⟨some 49, .app 100 6 (.t 46) (.t 48), none⟩, [0]),
      (⟨some 50, .nilck (.t 42), none⟩, []),
      (⟨some 51, .faddr 0 (.t 50), none⟩, []),
      (⟨none, .store 1 (.t 51) (.t 49), none⟩, [])]))))
  (.reg [⟨some 52, .bin .add (.t 36) (.k (.i .i64 1)), none⟩,
    ⟨some 36, .mov (.t 52), none⟩]))))
def B108 : AC := (.seq (.reg [⟨some 6, .mov (.k (.i .i64 0)), none⟩])
  (.seq (.blk 0 (.seq (.reg [⟨some 10, .mov (.t 0), none⟩,
       ⟨some 11, .call false 169 [(.t 10)], none⟩,
       ⟨some 9, .mov (.t 11), none⟩])
    (.cond (.t 9)
     (.seq (.reg [⟨some 6, .mov (.k (.i .i64 6)), none⟩])
     .ret)
     (.seq (.reg [⟨some 13, .mov (.t 1), none⟩,
        ⟨some 14, .mov (.t 0), none⟩,
        ⟨some 15, .nilck (.t 14), none⟩,
        ⟨some 16, .faddr 3 (.t 15), none⟩,
        ⟨some 17, .load false 1 (.t 16), none⟩,
        ⟨some 18, .bin .leq (.t 13) (.t 17), none⟩,
        ⟨some 12, .mov (.t 18), none⟩])
     (.cond (.t 12)
      (.seq (.reg [⟨some 6, .mov (.k (.i .i64 82)), none⟩])
      .ret)
      (.seq (.reg [⟨some 20, .mov (.t 1), none⟩,
         ⟨some 21, .bin .gtr (.t 20) (.k (.i .i64 1099511627776)), none⟩,
         ⟨some 19, .mov (.t 21), none⟩])
      (.cond (.t 19)
       (.seq (.reg [⟨some 6, .mov (.k (.i .i64 5)), none⟩])
       .ret)
       .skip)))))))
  (.seq (.reg [⟨some 22, .mov (.t 0), none⟩,
     ⟨some 23, .mov (.t 1), none⟩,
     ⟨some 24, .nilck (.t 22), none⟩,
     ⟨some 25, .faddr 3 (.t 24), none⟩,
     ⟨none, .store 1 (.t 25) (.t 23), none⟩])
  (.seq (.reg [⟨some 26, .mov (.t 0), none⟩,
     ⟨some 27, .mov (.t 0), none⟩,
     ⟨some 28, .nilck (.t 27), none⟩,
     ⟨some 29, .faddr 0 (.t 28), none⟩,
     ⟨some 30, .load false 1 (.t 29), none⟩,
     ⟨some 31, .call false 210 [(.t 30)], none⟩,
     ⟨some 32, .nilck (.t 26), none⟩,
     ⟨some 33, .faddr 0 (.t 32), none⟩,
     ⟨none, .store 1 (.t 33) (.t 31), none⟩])
  (.seq (.seq (.reg [⟨some 34, .mov (.t 2), none⟩,
      ⟨some 35, .len .slice (.t 34), none⟩,
      ⟨some 36, .mov (.k (.i .i64 0)), none⟩])
   (.blk 1 (.loop L108_1)))
  (.seq (.reg [⟨some 53, .mov (.t 0), none⟩,
     ⟨some 54, .call false 211 [(.t 53)], none⟩])
  (.seq (.blk 3 (.loop L108_2))
  (.seq (.reg [⟨some 6, .mov (.k (.i .i64 0)), none⟩])
  .ret))))))))
/-- (*tidemark/feed.Feed).Note -/
def af108 : AFunc := { n := 79, depth := 7, kl := [(8, [8, 41])], res := [.tmp 6], body := B108 }

def B109 : AC := (.seq (.reg [⟨some 3, .lbox (.t 1) [3, 13, 29, 33, 43, 54, 56, 72, 80, 90, 99, 101], none⟩,
     ⟨some 4, .lalloc [(.i .i64 0), (.i .i64 0)] [4], none⟩,
     ⟨some 5, .mov (.k (.sl [] 0 .nil)), none⟩])
  (.seq (.blk 0 (.seq (.reg [⟨some 13, .faddr 0 (.t 3), none⟩,
       ⟨some 14, .load false 1 (.t 13), none⟩,
       ⟨some 15, .bin .eql (.t 14) (.k (.i .i64 1)), none⟩,
       ⟨some 12, .mov (.t 15), none⟩])
    (.cond (.t 12)
     (.seq (.reg [⟨some 17, .mov (.t 0), none⟩,
        ⟨some 18, .nilck (.t 17), none⟩,
        ⟨some 19, .faddr 0 (.t 18), none⟩,
        ⟨some 20, .faddr 3 (.t 19), none⟩,
        ⟨some 21, .load false 1 (.t 20), none⟩,
        ⟨some 22, .call false 214 [(.t 21)], none⟩,
        ⟨some 16, .mov (.t 22), none⟩,
        ⟨some 23, .ext (.t 16) 0, none⟩,
        ⟨some 24, .ext (.t 16) 1, none⟩,
        ⟨some 6, .mov (.t 23), none⟩,
        ⟨some 7, .mov (.t 24), none⟩])
     (.seq (.reg [⟨some 25, .mov (.t 7), none⟩,
        ⟨some 26, .mov (.t 6), none⟩,
        ⟨some 27, .build [(.i .i64 0), (.i .i64 0)] [(0, 1, (.t 25)), (1, 1, (.t 26))], none⟩,
        ⟨none, .store 2 (.t 4) (.t 27), none⟩,
        ⟨some 5, .mov (.k (.sl [] 0 .nil)), none⟩])
     .ret))
     (.seq (.reg [⟨some 29, .faddr 0 (.t 3), none⟩,
        ⟨some 30, .load false 1 (.t 29), none⟩,
        ⟨some 31, .bin .eql (.t 30) (.k (.i .i64 10)), none⟩,
        ⟨some 32, .mov (.t 31), none⟩,
        ⟨some 33, .faddr 0 (.t 3), some (32, false)⟩,
        ⟨some 34, .load false 1 (.t 33), some (32, false)⟩,
        ⟨some 35, .bin .eql (.t 34) (.k (.i .i64 11)), some (32, false)⟩,
        ⟨some 36, .pick (.t 32) (.k (.b true)) (.t 35), none⟩,
        ⟨some 28, .mov (.t 36), none⟩])
     (.cond (.t 28)
      (.seq (.reg [⟨some 37, .mov (.t 0), none⟩,
         ⟨some 38, .load true 19 (.t 3), none⟩,
         ⟨some 39, .call false 215 [(.t 37), (.t 38)], none⟩,
         ⟨some 40, .ext (.t 39) 0, none⟩,
         ⟨some 41, .ext (.t 39) 1, none⟩,
         ⟨none, .store 2 (.t 4) (.t 40), none⟩,
         ⟨some 5, .mov (.t 41), none⟩])
      .ret)
      (.seq (.reg [⟨some 43, .faddr 0 (.t 3), none⟩,
         ⟨some 44, .load false 1 (.t 43), none⟩,
         ⟨some 45, .call true 39 [(.t 44)], none⟩,
         ⟨some 46, .un .not (.t 45), none⟩,
         ⟨some 42, .mov (.t 46), none⟩])
      (.cond (.t 42)
       (.seq (.reg [⟨some 47, .build [(.i .i64 0), (.i .i64 0)] [], none⟩,
          ⟨none, .store 2 (.t 4) (.t 47), none⟩,
          ⟨some 5, .mov (.k (.sl [] 0 .nil)), none⟩])
       .ret)
       .skip)))))))
  (.seq (.regd [(⟨some 49, .mov (.t 0), none⟩, []),
     (⟨some 50, .nilck (.t 49), none⟩, []),
     (⟨some 51, .faddr 0 (.t 50), none⟩, []),
     (⟨some 52, .faddr 3 (.t 51), none⟩, []),
     (⟨some 53, .load false 1 (.t 52), none⟩, []),
     (⟨some 54, .faddr 1 (.t 3), none⟩, [0, 1, 2, 3, 4]),
     (⟨some 55, .load false 1 (.t 54), none⟩, [0, 1, 2, 3, 4]),
     (⟨some 56, .faddr 2 (.t 3), none⟩, [0, 1, 2, 3, 4, 5, 6]),
     (⟨some 57, .load false 1 (.t 56), none⟩, [0, 1, 2, 3, 4, 5, 6]),
     (⟨some 58, .call false 216 [(.t 53), (.t 55), (.t 57)], none⟩, []),
     (⟨some 48, .mov (.t 58), none⟩, []),
     (⟨some 59, .ext (.t 48) 0, none⟩, []),
     (⟨some 60, .ext (.t 48) 1, none⟩, [11]),
     (⟨some 61, .ext (.t 48) 2, none⟩, [11, 12]),
     (⟨some 8, .lalloc [(.i .i64 0), (.i .i64 0)] [8], none⟩, [0, 1, 2, 3, 4, 5, 6, 7, 8, 9, 10, 11, 12, 13]),
     (⟨none, .store 2 (.t 8) (.t 59), none⟩, [12, 13]),
     (⟨some 9, .mov (.t 60), none⟩, [13]),
     (⟨some 10, .mov (.t 61), none⟩, [])])
  (.seq (.blk 1 (.seq (.reg [⟨some 63, .mov (.t 10), none⟩,
       ⟨some 64, .bin .neq (.t 63) (.k (.i .i64 0)), none⟩,
       ⟨some 62, .mov (.t 64), none⟩])
    (.cond (.t 62)
     (.seq (.reg [⟨some 65, .mov (.t 10), none⟩,
        ⟨some 66, .build [(.i .i64 0), (.i .i64 0)] [(0, 1, (.t 65))], none⟩,
        ⟨none, .store 2 (.t 4) (.t 66), none⟩,
        ⟨some 5, .mov (.k (.sl [] 0 .nil)), none⟩])
     .ret)
     (.seq (.reg [⟨some 68, .mov (.t 9), none⟩,
        ⟨some 69, .un .not (.t 68), none⟩,
        ⟨some 67, .mov (.t 69), none⟩])
     (.cond (.t 67)
      (.seq (.reg [⟨some 70, .load true 2 (.t 8), none⟩,
         ⟨none, .store 2 (.t 4) (.t 70), none⟩,
         ⟨some 5, .mov (.k (.sl [] 0 .nil)), none⟩])
      .ret)
      (.seq (.reg [⟨some 72, .faddr 0 (.t 3), none⟩,
         ⟨some 73, .load false 1 (.t 72), none⟩,
         ⟨some 74, .bin .eql (.t 73) (.k (.i .i64 3)), none⟩,
         ⟨some 71, .mov (.t 74), none⟩])
      (.cond (.t 71)
       (.seq (.reg [⟨some 75, .mov (.t 0), none⟩,
          ⟨some 76, .nilck (.t 75), none⟩,
          ⟨some 77, .faddr 0 (.t 76), none⟩,
          ⟨some 78, .faddr 3 (.t 77), none⟩,
          ⟨some 79, .load false 1 (.t 78), none⟩,
          ⟨some 80, .faddr 1 (.t 3), none⟩,
          ⟨some 81, .load false 1 (.t 80), none⟩,
          ⟨some 82, .call false 217 [(.t 79), (.t 81)], none⟩,
          ⟨some 83, .build [(.i .i64 0), (.i .i64 0)] [(0, 1, (.t 82))], none⟩,
          ⟨none, .store 2 (.t 4) (.t 83), none⟩,
          ⟨some 5, .mov (.k (.sl [] 0 .nil)), none⟩])
       .ret)
       .skip)))))))
  (.seq (.reg [⟨some 85, .mov (.t 0), none⟩,
     ⟨some 86, .load true 19 (.t 3), none⟩,
     ⟨some 87, .call false 218 [(.t 85), (.t 86)], none⟩,
     ⟨some 84, .mov (.t 87), none⟩,
     ⟨some 88, .ext (.t 84) 0, none⟩,
     ⟨some 89, .ext (.t 84) 1, none⟩,
     ⟨none, .store 2 (.t 8) (.t 88), none⟩,
     ⟨some 11, .mov (.t 89), none⟩])
  (.seq (.seq (.reg [⟨some 90, .faddr 0 (.t 3), none⟩,
      ⟨some 91, .load false 1 (.t 90), none⟩,
      ⟨some 92, .call true 110 [(.t 91)], none⟩,
      ⟨some 93, .un .not (.t 92), none⟩])
   (.cond (.t 93)
    (.reg [⟨some 94, .mov (.t 0), none⟩,
      ⟨some 95, .nilck (.t 94), none⟩,
      ⟨some 96, .faddr 0 (.t 95), none⟩,
      ⟨some 97, .faddr 3 (.t 96), none⟩,
      ⟨some 98, .load false 1 (.t 97), none⟩,
      ⟨some 99, .faddr 1 (.t 3), none⟩,
      ⟨some 100, .load false 1 (.t 99), none⟩,
      ⟨some 101, .faddr 2 (.t 3), none⟩,
      ⟨some 102, .load false 1 (.t 101), none⟩,
      ⟨some 103, .load true 2 (.t 8), none⟩,
      ⟨some 104, .call false 219 [(.t 98), (.t 100), (.t 102), (.t 103)], none⟩])
    .skip))
  (.seq (.reg [⟨some 105, .load true 2 (.t 8), none⟩,
     ⟨some 106, .mov (.t 11), none⟩,
     ⟨none, .store 2 (.t 4) (.t 105), none⟩,
     ⟨some 5, .mov (.t 106), none⟩])
  .ret)))))))
/-- (*tidemark/machine.Machine).run -/
def af109 : AFunc := { n := 107, depth := 7, kl := [(3, [3, 13, 29, 33, 43, 54, 56, 72, 80, 90, 99, 101]), (4, [4]), (8, [8])], res := [.cell 4 true 2, .tmp 5], body := B109 }

def B110 : AC := (.seq (.reg [⟨some 2, .mov (.k (.b false)), none⟩])
  (.seq (.reg [⟨some 3, .mov (.t 0), none⟩,
     ⟨some 4, .bin .eql (.t 3) (.k (.i .i64 6)), none⟩,
     ⟨some 5, .mov (.t 4), none⟩,
     ⟨some 6, .mov (.t 0), some (5, false)⟩,
     ⟨some 7, .bin .eql (.t 6) (.k (.i .i64 12)), some (5, false)⟩,
     ⟨some 8, .pick (.t 5) (.k (.b true)) (.t 7), none⟩,
     ⟨some 2, .mov (.t 8), none⟩])
  .ret))
/-- tidemark/machine.begins -/
def af110 : AFunc := { n := 9, depth := 4, kl := [], res := [.tmp 2], body := B110 }

def B111 : AC := (.seq (.reg [⟨some 3, .lbox (.t 1) [3, 17, 19, 34, 42, 51, 52, 54, 81, 83], none⟩,
     ⟨some 4, .lalloc [(.i .i64 0), (.i .i64 0)] [4], none⟩])
  (.seq (.seq (.regd [(⟨some 12, .mov (.t 0), none⟩, []),
      (⟨some 13, .nilck (.t 12), none⟩, []),
      (⟨some 14, .faddr 0 (.t 13), none⟩, []),
      (⟨some 15, .faddr 3 (.t 14), none⟩, []),
      (⟨some 16, .load false 1 (.t 15), none⟩, []),
      (⟨some 17, .faddr 1 (.t 3), none⟩, [0, 1, 2, 3, 4]),
      (⟨some 18, .load false 1 (.t 17), none⟩, [0, 1, 2, 3, 4]),
      (⟨some 19, .faddr 2 (.t 3), none⟩, [0, 1, 2, 3, 4, 5, 6]),
      (⟨some 20, .load false 1 (.t 19), none⟩, [0, 1, 2, 3, 4, 5, 6]),
      (⟨some 21, .call false 216 [(.t 16), (.t 18), (.t 20)], none⟩, []),
      (⟨some 11, .mov (.t 21), none⟩, []),
      (⟨some 22, .ext (.t 11) 0, none⟩, []),
      (⟨some 23, .ext (.t 11) 1, none⟩, [11]),
      (⟨some 24, .ext (.t 11) 2, none⟩, [11, 12]),
      (⟨some 5, .lalloc [(.i .i64 0), (.i .i64 0)] [5], none⟩, [0, 1, 2, 3, 4, 5, 6, 7, 8, 9, 10, 11, 12, 13]),
      (⟨none, .store 2 (.t 5) (.t 22), none⟩, [12, 13]),
      (⟨some 6, .mov (.t 23), none⟩, [13]),
      (⟨some 7, .mov (.t 24), none⟩, [])])
   (.seq (.reg [⟨some 25, .mov (.t 6), none⟩,
      ⟨some 26, .un .not (.t 25), none⟩])
   (.cond (.t 26)
    (.seq (.reg [⟨some 27, .build [(.i .i64 0), (.i .i64 0)] [], none⟩,
       ⟨none, .store 2 (.t 4) (.t 27), none⟩])
    .ret)
    .skip)))
  (.seq (.reg [⟨some 29, .mov (.t 0), none⟩,
     ⟨some 30, .nilck (.t 29), none⟩,
     ⟨some 31, .faddr 0 (.t 30), none⟩,
     ⟨some 32, .faddr 2 (.t 31), none⟩,
     ⟨some 33, .load false 1 (.t 32), none⟩,
     ⟨some 34, .faddr 9 (.t 3), none⟩,
     ⟨some 35, .load true 4 (.t 34), none⟩,
     ⟨some 36, .call false 220 [(.t 33), (.t 35)], none⟩,
     ⟨some 28, .mov (.t 36), none⟩,
     ⟨some 37, .ext (.t 28) 0, none⟩,
     ⟨some 38, .ext (.t 28) 1, none⟩,
     ⟨some 8, .mov (.t 37), none⟩,
     ⟨some 9, .mov (.t 38), none⟩])
  (.seq (.seq (.reg [⟨some 39, .mov (.t 9), none⟩,
      ⟨some 40, .bin .eql (.t 39) (.k (.i .i64 0)), none⟩,
      ⟨some 41, .mov (.t 40), none⟩,
      ⟨some 42, .faddr 0 (.t 3), some (41, true)⟩,
      ⟨some 43, .load false 1 (.t 42), some (41, true)⟩,
      ⟨some 44, .bin .eql (.t 43) (.k (.i .i64 12)), some (41, true)⟩,
      ⟨some 45, .pick (.t 41) (.t 44) (.k (.b false)), none⟩])
   (.cond (.t 45)
    (.seq (.regd [(⟨some 46, .mov (.t 0), none⟩, []),
       (⟨some 47, .nilck (.t 46), none⟩, []),
       (⟨some 48, .faddr 0 (.t 47), none⟩, []),
       (⟨some 49, .faddr 4 (.t 48), none⟩, []),
       (⟨some 50, .load false 1 (.t 49), none⟩, []),
       (⟨some 51, .faddr 5 (.t 3), none⟩, [0, 1, 2, 3, 4]),
       (⟨some 52, .faddr 0 (.t 51), none⟩, [0, 1, 2, 3, 4]),
       (⟨some 53, .load false 1 (.t 52), none⟩, [0, 1, 2, 3, 4]),
       (⟨some 54, .faddr 14 (.t 3), none⟩, [0, 1, 2, 3, 4, 5, 6, 7]),
       (⟨some 55, .load false 1 (.t 54), none⟩, [0, 1, 2, 3, 4, 5, 6, 7]),
       (⟨some 56, .mov (.t 8), none⟩, [0, 1, 2, 3, 4, 5, 6, 7, 8, 9]),
       (⟨some 57, .mov (.t 0), none⟩, [0, 1, 2, 3, 4, 5, 6, 7, 8, 9, 10]),
       (⟨some 58, .nilck (.t 57), none⟩, [0, 1, 2, 3, 4, 5, 6, 7, 8, 9, 10]),
       (⟨some 59, .faddr 0 (.t 58), none⟩, [0, 1, 2, 3, 4, 5, 6, 7, 8, 9, 10]),
       (⟨some 60, .faddr 2 (.t 59), none⟩, [0, 1, 2, 3, 4, 5, 6, 7, 8, 9, 10]),
       (⟨some 61, .load false 1 (.t 60), none⟩, [0, 1, 2, 3, 4, 5, 6, 7, 8, 9, 10]),
       (⟨some 62, .call false 121 [(.t 61)], none⟩, [0, 1, 2, 3, 4, 5, 6, 7, 8, 9, 10]),
       (⟨some 63, .call false 221 [(.t 50), (.t 53), (.t 55), (.t 56), (.t 62)], none⟩, []),
       (⟨some 9, .mov (.t 63), none⟩, [])])
    (.seq (.reg [⟨some 64, .mov (.t 9), none⟩,
       ⟨some 65, .bin .neq (.t 64) (.k (.i .i64 0)), none⟩])
    (.cond (.t 65)
     (.seq (.reg [⟨some 66, .mov (.t 0), none⟩,
        ⟨some 67, .nilck (.t 66), none⟩,
        ⟨some 68, .faddr 0 (.t 67), none⟩,
        ⟨some 69, .faddr 2 (.t 68), none⟩,
        ⟨some 70, .load false 1 (.t 69), none⟩,
        ⟨some 71, .mov (.t 8), none⟩,
        ⟨some 72, .call false 222 [(.t 70), (.t 71)], none⟩])
     (.reg [⟨some 8, .mov (.k (.i .i64 0)), none⟩]))
     .skip)))
    .skip))
  (.seq (.reg [⟨some 73, .mov (.t 9), none⟩,
     ⟨some 74, .mov (.t 8), none⟩,
     ⟨some 75, .build [(.i .i64 0), (.i .i64 0)] [(0, 1, (.t 73)), (1, 1, (.t 74))], none⟩,
     ⟨some 10, .lalloc [(.i .i64 0), (.i .i64 0)] [10], none⟩,
     ⟨none, .store 2 (.t 10) (.t 75), none⟩])
  (.seq (.reg [⟨some 76, .mov (.t 0), none⟩,
     ⟨some 77, .nilck (.t 76), none⟩,
     ⟨some 78, .faddr 0 (.t 77), none⟩,
     ⟨some 79, .faddr 3 (.t 78), none⟩,
     ⟨some 80, .load false 1 (.t 79), none⟩,
     ⟨some 81, .faddr 1 (.t 3), none⟩,
     ⟨some 82, .load false 1 (.t 81), none⟩,
     ⟨some 83, .faddr 2 (.t 3), none⟩,
     ⟨some 84, .load false 1 (.t 83), none⟩,
     ⟨some 85, .load true 2 (.t 10), none⟩,
     ⟨some 86, .call false 219 [(.t 80), (.t 82), (.t 84), (.t 85)], none⟩])
  (.seq (.reg [⟨some 87, .load true 2 (.t 10), none⟩,
     ⟨none, .store 2 (.t 4) (.t 87), none⟩])
  .ret)))))))
/-- (*tidemark/machine.Machine).begin -/
def af111 : AFunc := { n := 88, depth := 7, kl := [(3, [3, 17, 19, 34, 42, 51, 52, 54, 81, 83]), (4, [4]), (5, [5]), (10, [10])], res := [.cell 4 true 2], body := B111 }

def B115 : AC := (.seq (.reg [⟨some 6, .mov (.k (.i .i64 0)), none⟩])
  (.seq (.seq (.reg [⟨some 9, .mov (.t 0), none⟩,
      ⟨some 10, .call false 132 [(.t 9)], none⟩])
   (.cond (.t 10)
    (.seq (.reg [⟨some 6, .mov (.k (.i .i64 0)), none⟩])
    .ret)
    .skip))
  (.seq (.reg [⟨some 11, .mov (.t 0), none⟩,
     ⟨some 12, .nilck (.t 11), none⟩,
     ⟨some 13, .faddr 1 (.t 12), none⟩,
     ⟨some 14, .load false 1 (.t 13), none⟩,
     ⟨some 7, .mov (.t 14), none⟩])
  (.seq (.reg [⟨some 15, .mov (.t 0), none⟩,
     ⟨some 16, .call false 63 [(.t 15)], none⟩,
     ⟨some 8, .mov (.t 16), none⟩])
  (.seq (.seq (.reg [⟨some 17, .mov (.t 0), none⟩,
      ⟨some 18, .nilck (.t 17), none⟩,
      ⟨some 19, .faddr 2 (.t 18), none⟩,
      ⟨some 20, .load false 1 (.t 19), none⟩,
      ⟨some 21, .bin .eql (.t 20) (.k (.i .i64 0)), none⟩,
      ⟨some 22, .mov (.t 21), none⟩,
      ⟨some 23, .mov (.t 8), some (22, true)⟩,
      ⟨some 24, .mov (.t 1), some (22, true)⟩,
      ⟨some 25, .bin .lss (.t 23) (.t 24), some (22, true)⟩,
      ⟨some 26, .mov (.t 25), some (22, true)⟩,
      ⟨some 27, .mov (.t 8), some (26, false)⟩,
      ⟨some 28, .mov (.t 2), some (26, false)⟩,
      ⟨some 29, .bin .gtr (.t 27) (.t 28), some (26, false)⟩,
      ⟨some 30, .pick (.t 26) (.k (.b true)) (.t 29), some (22, true)⟩,
      ⟨some 31, .pick (.t 22) (.t 30) (.k (.b false)), none⟩])
   (.cond (.t 31)
    (.seq (.reg [⟨some 32, .mov (.t 0), none⟩,
       ⟨some 33, .mov (.t 7), none⟩,
       ⟨some 34, .nilck (.t 32), none⟩,
       ⟨some 35, .faddr 1 (.t 34), none⟩,
       ⟨none, .store 1 (.t 35) (.t 33), none⟩])
    (.reg [⟨some 36, .mov (.t 0), none⟩,
      ⟨some 37, .call false 134 [(.t 36), (.k (.i .i64 5))], none⟩]))
    .skip))
  (.seq (.seq (.reg [⟨some 38, .mov (.t 0), none⟩,
      ⟨some 39, .nilck (.t 38), none⟩,
      ⟨some 40, .faddr 2 (.t 39), none⟩,
      ⟨some 41, .load false 1 (.t 40), none⟩,
      ⟨some 42, .bin .neq (.t 41) (.k (.i .i64 0)), none⟩])
   (.cond (.t 42)
    (.seq (.reg [⟨some 6, .mov (.k (.i .i64 0)), none⟩])
    .ret)
    .skip))
  (.seq (.reg [⟨some 43, .mov (.t 8), none⟩,
     ⟨some 6, .mov (.t 43), none⟩])
  .ret)))))))
/-- (*tidemark/wire.Reader).Within -/
def af115 : AFunc := { n := 44, depth := 6, kl := [], res := [.tmp 6], body := B115 }

def B128 : AC := (.seq (.reg [⟨some 1, .lbox (.t 0) [1], none⟩,
     ⟨some 2, .mov (.k .nili), none⟩,
     ⟨some 3, .mov (.k (.i .i64 0)), none⟩])
  (.seq (.reg [⟨some 4, .alloc 3 [(.i .i64 0)], none⟩,
     ⟨none, .store 1 (.t 4) (.k (.i .i64 0)), none⟩])
  (.seq (.reg [⟨some 8, .load true 4 (.t 1), none⟩,
     ⟨some 9, .call false 237 [(.t 8), (.k (.i .i64 1)), (.t 4)], none⟩,
     ⟨some 7, .mov (.t 9), none⟩,
     ⟨some 10, .ext (.t 7) 0, none⟩,
     ⟨some 11, .ext (.t 7) 1, none⟩,
     ⟨some 5, .mov (.t 10), none⟩,
     ⟨some 6, .mov (.t 11), none⟩])
  (.seq (.seq (.reg [⟨some 12, .mov (.t 6), none⟩,
      ⟨some 13, .bin .neq (.t 12) (.k (.i .i64 0)), none⟩])
   (.cond (.t 13)
    (.seq (.reg [⟨some 14, .mov (.t 6), none⟩,
       ⟨some 2, .mov (.k .nili), none⟩,
       ⟨some 3, .mov (.t 14), none⟩])
    .ret)
    .skip))
  (.seq (.reg [⟨some 15, .mov (.t 5), none⟩,
     ⟨some 16, .tas false [357, 359, 361, 362, 366, 368, 369] [9, 332] .nili false (.t 15), none⟩,
     ⟨some 2, .mov (.t 16), none⟩,
     ⟨some 3, .mov (.k (.i .i64 0)), none⟩])
  .ret)))))
/-- tidemark/filter.ready -/
def af128 : AFunc := { n := 17, depth := 5, kl := [(1, [1])], res := [.tmp 2, .tmp 3], body := B128 }

def B132 : AC := (.seq (.reg [⟨some 2, .mov (.k (.b false)), none⟩])
  (.seq (.reg [⟨some 3, .mov (.t 0), none⟩,
     ⟨some 4, .eq false .ptr (.t 3) (.k .nilp), none⟩,
     ⟨some 5, .mov (.t 4), none⟩,
     ⟨some 6, .mov (.t 0), some (5, false)⟩,
     ⟨some 7, .nilck (.t 6), some (5, false)⟩,
     ⟨some 8, .faddr 3 (.t 7), some (5, false)⟩,
     ⟨some 9, .load false 1 (.t 8), some (5, false)⟩,
     ⟨some 10, .un .not (.t 9), some (5, false)⟩,
     ⟨some 11, .pick (.t 5) (.k (.b true)) (.t 10), none⟩,
     ⟨some 2, .mov (.t 11), none⟩])
  .ret))
/-- (*tidemark/wire.Reader).dead -/
def af132 : AFunc := { n := 12, depth := 4, kl := [], res := [.tmp 2], body := B132 }

def B133 : AC := (.seq (.reg [⟨some 4, .mov (.k (.sl [] 0 .nil)), none⟩])
  (.seq (.seq (.reg [⟨some 5, .mov (.t 0), none⟩,
      ⟨some 6, .nilck (.t 5), none⟩,
      ⟨some 7, .faddr 2 (.t 6), none⟩,
      ⟨some 8, .load false 1 (.t 7), none⟩,
      ⟨some 9, .bin .eql (.t 8) (.k (.i .i64 0)), none⟩,
      ⟨some 10, .mov (.t 9), none⟩,
      ⟨some 11, .mov (.t 1), some (10, true)⟩,
      ⟨some 12, .mov (.t 0), some (10, true)⟩,
      ⟨some 13, .nilck (.t 12), some (10, true)⟩,
      ⟨some 14, .faddr 0 (.t 13), some (10, true)⟩,
      ⟨some 15, .load false 1 (.t 14), some (10, true)⟩,
      ⟨some 16, .len .slice (.t 15), some (10, true)⟩,
      ⟨some 17, .mov (.t 0), some (10, true)⟩,
      ⟨some 18, .nilck (.t 17), some (10, true)⟩,
      ⟨some 19, .faddr 1 (.t 18), some (10, true)⟩,
      ⟨some 20, .load false 1 (.t 19), some (10, true)⟩,
      ⟨some 21, .bin .sub (.t 16) (.t 20), some (10, true)⟩,
      ⟨some 22, .bin .gtr (.t 11) (.t 21), some (10, true)⟩,
      ⟨some 23, .pick (.t 10) (.t 22) (.k (.b false)), none⟩])
   (.cond (.t 23)
    (.reg [⟨some 24, .mov (.t 0), none⟩,
      ⟨some 25, .call false 134 [(.t 24), (.k (.i .i64 2))], none⟩])
    .skip))
  (.seq (.seq (.reg [⟨some 26, .mov (.t 0), none⟩,
      ⟨some 27, .nilck (.t 26), none⟩,
      ⟨some 28, .faddr 2 (.t 27), none⟩,
      ⟨some 29, .load false 1 (.t 28), none⟩,
      ⟨some 30, .bin .neq (.t 29) (.k (.i .i64 0)), none⟩])
   (.cond (.t 30)
    (.seq (.reg [⟨some 4, .mov (.k (.sl [] 0 .nil)), none⟩])
    .ret)
    .skip))
  (.seq (.reg [⟨some 31, .mov (.t 0), none⟩,
     ⟨some 32, .nilck (.t 31), none⟩,
     ⟨some 33, .faddr 1 (.t 32), none⟩,
     ⟨some 34, .load false 1 (.t 33), none⟩,
     ⟨some 35, .mov (.t 1), none⟩,
     ⟨some 36, .bin .add (.t 34) (.t 35), none⟩,
     ⟨some 37, .nilck (.t 31), none⟩,
     ⟨some 38, .faddr 1 (.t 37), none⟩,
     ⟨none, .store 1 (.t 38) (.t 36), none⟩])
  (.seq (.reg [⟨some 39, .mov (.t 0), none⟩,
     ⟨some 40, .nilck (.t 39), none⟩,
     ⟨some 41, .faddr 0 (.t 40), none⟩,
     ⟨some 42, .load false 1 (.t 41), none⟩,
     ⟨some 43, .mov (.t 0), none⟩,
     ⟨some 44, .nilck (.t 43), none⟩,
     ⟨some 45, .faddr 1 (.t 44), none⟩,
     ⟨some 46, .load false 1 (.t 45), none⟩,
     ⟨some 47, .mov (.t 1), none⟩,
     ⟨some 48, .bin .sub (.t 46) (.t 47), none⟩,
     ⟨some 49, .mov (.t 0), none⟩,
     ⟨some 50, .nilck (.t 49), none⟩,
     ⟨some 51, .faddr 1 (.t 50), none⟩,
     ⟨some 52, .load false 1 (.t 51), none⟩,
     ⟨some 53, .slc (.slice 1) (.t 42) (some (.t 48)) (some (.t 52)) none, none⟩,
     ⟨some 4, .mov (.t 53), none⟩])
  .ret)))))
/-- (*tidemark/wire.Reader).bytes -/
def af133 : AFunc := { n := 54, depth := 6, kl := [], res := [.tmp 4], body := B133 }

def B135 : AC := (.seq (.reg [⟨some 2, .mov (.k (.i .i64 0)), none⟩])
  (.seq (.seq (.reg [⟨some 3, .mov (.t 0), none⟩,
      ⟨some 4, .call false 132 [(.t 3)], none⟩])
   (.cond (.t 4)
    (.seq (.reg [⟨some 2, .mov (.k (.i .i64 6)), none⟩])
    .ret)
    .skip))
  (.seq (.reg [⟨some 5, .mov (.t 0), none⟩,
     ⟨some 6, .nilck (.t 5), none⟩,
     ⟨some 7, .faddr 2 (.t 6), none⟩,
     ⟨some 8, .load false 1 (.t 7), none⟩,
     ⟨some 2, .mov (.t 8), none⟩])
  .ret)))
/-- (*tidemark/wire.Reader).Err -/
def af135 : AFunc := { n := 9, depth := 4, kl := [], res := [.tmp 2], body := B135 }

def B136 : AC := (.seq (.reg [⟨some 4, .mov (.k (.s [])), none⟩])
  (.seq (.seq (.reg [⟨some 8, .mov (.t 0), none⟩,
      ⟨some 9, .call false 132 [(.t 8)], none⟩])
   (.cond (.t 9)
    (.seq (.reg [⟨some 4, .mov (.k (.s [])), none⟩])
    .ret)
    .skip))
  (.seq (.reg [⟨some 10, .mov (.t 0), none⟩,
     ⟨some 11, .nilck (.t 10), none⟩,
     ⟨some 12, .faddr 1 (.t 11), none⟩,
     ⟨some 13, .load false 1 (.t 12), none⟩,
     ⟨some 5, .mov (.t 13), none⟩])
  (.seq (.reg [⟨some 14, .mov (.t 0), none⟩,
     ⟨some 15, .call false 63 [(.t 14)], none⟩,
     ⟨some 6, .mov (.t 15), none⟩])
  (.seq (.seq (.reg [⟨some 16, .mov (.t 0), none⟩,
      ⟨some 17, .nilck (.t 16), none⟩,
      ⟨some 18, .faddr 2 (.t 17), none⟩,
      ⟨some 19, .load false 1 (.t 18), none⟩,
      ⟨some 20, .bin .eql (.t 19) (.k (.i .i64 0)), none⟩,
      ⟨some 21, .mov (.t 20), none⟩,
      ⟨some 22, .mov (.t 6), some (21, true)⟩,
      ⟨some 23, .mov (.t 1), some (21, true)⟩,
      ⟨some 24, .minmax true (.t 23) (.k (.i .i64 0)), some (21, true)⟩,
      ⟨some 25, .bin .gtr (.t 22) (.t 24), some (21, true)⟩,
      ⟨some 26, .pick (.t 21) (.t 25) (.k (.b false)), none⟩])
   (.cond (.t 26)
    (.reg [⟨some 27, .mov (.t 0), none⟩,
      ⟨some 28, .call false 134 [(.t 27), (.k (.i .i64 4))], none⟩])
    .skip))
  (.seq (.reg [⟨some 29, .mov (.t 0), none⟩,
     ⟨some 30, .mov (.t 6), none⟩,
     ⟨some 31, .call false 133 [(.t 29), (.t 30)], none⟩,
     ⟨some 32, .conv .toStr (.t 31), none⟩,
     ⟨some 7, .mov (.t 32), none⟩])
  (.seq (.seq (.reg [⟨some 33, .mov (.t 0), none⟩,
      ⟨some 34, .nilck (.t 33), none⟩,
      ⟨some 35, .faddr 2 (.t 34), none⟩,
      ⟨some 36, .load false 1 (.t 35), none⟩,
      ⟨some 37, .bin .neq (.t 36) (.k (.i .i64 0)), none⟩])
   (.cond (.t 37)
    (.seq (.reg [⟨some 38, .mov (.t 0), none⟩,
       ⟨some 39, .mov (.t 5), none⟩,
       ⟨some 40, .nilck (.t 38), none⟩,
       ⟨some 41, .faddr 1 (.t 40), none⟩,
       ⟨none, .store 1 (.t 41) (.t 39), none⟩])
    (.seq (.reg [⟨some 4, .mov (.k (.s [])), none⟩])
    .ret))
    .skip))
  (.seq (.reg [⟨some 42, .mov (.t 7), none⟩,
     ⟨some 4, .mov (.t 42), none⟩])
  .ret))))))))
/-- (*tidemark/wire.Reader).Text -/
def af136 : AFunc := { n := 43, depth := 6, kl := [], res := [.tmp 4], body := B136 }

def B137 : AC := (.seq (.reg [⟨some 2, .mov (.k (.b false)), none⟩])
  (.seq (.seq (.reg [⟨some 5, .mov (.t 0), none⟩,
      ⟨some 6, .call false 132 [(.t 5)], none⟩])
   (.cond (.t 6)
    (.seq (.reg [⟨some 2, .mov (.k (.b false)), none⟩])
    .ret)
    .skip))
  (.seq (.reg [⟨some 7, .mov (.t 0), none⟩,
     ⟨some 8, .nilck (.t 7), none⟩,
     ⟨some 9, .faddr 1 (.t 8), none⟩,
     ⟨some 10, .load false 1 (.t 9), none⟩,
     ⟨some 3, .mov (.t 10), none⟩])
  (.seq (.reg [⟨some 11, .mov (.t 0), none⟩,
     ⟨some 12, .call false 63 [(.t 11)], none⟩,
     ⟨some 4, .mov (.t 12), none⟩])
  (.seq (.seq (.reg [⟨some 13, .mov (.t 0), none⟩,
      ⟨some 14, .nilck (.t 13), none⟩,
      ⟨some 15, .faddr 2 (.t 14), none⟩,
      ⟨some 16, .load false 1 (.t 15), none⟩,
      ⟨some 17, .bin .eql (.t 16) (.k (.i .i64 0)), none⟩,
      ⟨some 18, .mov (.t 17), none⟩,
      ⟨some 19, .mov (.t 4), some (18, true)⟩,
      ⟨some 20, .bin .gtr (.t 19) (.k (.i .i64 1)), some (18, true)⟩,
      ⟨some 21, .pick (.t 18) (.t 20) (.k (.b false)), none⟩])
   (.cond (.t 21)
    (.seq (.reg [⟨some 22, .mov (.t 0), none⟩,
       ⟨some 23, .mov (.t 3), none⟩,
       ⟨some 24, .nilck (.t 22), none⟩,
       ⟨some 25, .faddr 1 (.t 24), none⟩,
       ⟨none, .store 1 (.t 25) (.t 23), none⟩])
    (.reg [⟨some 26, .mov (.t 0), none⟩,
      ⟨some 27, .call false 134 [(.t 26), (.k (.i .i64 11))], none⟩]))
    .skip))
  (.seq (.reg [⟨some 28, .mov (.t 0), none⟩,
     ⟨some 29, .nilck (.t 28), none⟩,
     ⟨some 30, .faddr 2 (.t 29), none⟩,
     ⟨some 31, .load false 1 (.t 30), none⟩,
     ⟨some 32, .bin .eql (.t 31) (.k (.i .i64 0)), none⟩,
     ⟨some 33, .mov (.t 32), none⟩,
     ⟨some 34, .mov (.t 4), some (33, true)⟩,
     ⟨some 35, .bin .eql (.t 34) (.k (.i .i64 1)), some (33, true)⟩,
     ⟨some 36, .pick (.t 33) (.t 35) (.k (.b false)), none⟩,
     ⟨some 2, .mov (.t 36), none⟩])
  .ret))))))
/-- (*tidemark/wire.Reader).Flag -/
def af137 : AFunc := { n := 37, depth := 6, kl := [], res := [.tmp 2], body := B137 }

def L138_1 : AC := (.seq (.seq (.reg [⟨some 20, .mov (.t 7), none⟩,
      ⟨some 21, .mov (.t 6), none⟩,
      ⟨some 22, .bin .lss (.t 20) (.t 21), none⟩,
      ⟨some 23, .mov (.t 22), none⟩,
      ⟨some 24, .mov (.t 0), some (23, true)⟩,
      ⟨some 25, .call false 135 [(.t 24)], some (23, true)⟩,
      ⟨some 26, .bin .eql (.t 25) (.k (.i .i64 0)), some (23, true)⟩,
      ⟨some 27, .pick (.t 23) (.t 26) (.k (.b false)), none⟩])
   (.cond (.t 27)
    .skip
    (.exit 0)))
  (.seq (.blk 1 (.regd [(⟨some 30, .faddr 3 (.t 5), none⟩, []),
      (⟨some 31, .load false 1 (.t 30), none⟩, []),
      (⟨some 32, .mov (.t 0), none⟩, [0, 1]),
      (⟨some 33, .mov (.t 1), none⟩, [0, 1, 2]),
      (⟨some 34, .bin .add (.t 33) (.k (.i .i64 1)), none⟩, [0, 1, 2]),
      (⟨some 35, .call false 138 [(.t 32), (.t 34)], none⟩, [0, 1]),
      (⟨some 36, .bslice false 30 4 1 [(.i .i64 0), (.s []), (.s []), (.sl [] 0 .nil)] [(0, (.t 35))], none⟩, [0, 1]),
      (⟨some 37, .app 30 4 (.t 31) (.t 36), none⟩, []),
      (⟨some 38, .faddr 3 (.t 5), none⟩, []),
      (⟨none, .store 1 (.t 38) (.t 37), none⟩, [])]))
  (.reg [⟨some 28, .mov (.t 7), none⟩,
    ⟨some 29, .bin .add (.t 28) (.k (.i .i64 1)), none⟩,
    ⟨some 7, .mov (.t 29), none⟩])))
def B138 : AC := (.seq (.reg [⟨some 4, .lalloc [(.i .i64 0), (.s []), (.s []), (.sl [] 0 .nil)] [4], none⟩])
  (.seq (.reg [⟨some 8, .mov (.t 0), none⟩,
     ⟨some 9, .call false 63 [(.t 8)], none⟩,
     ⟨some 10, .mov (.t 0), none⟩,
     ⟨some 11, .call false 136 [(.t 10), (.k (.i .i64 32))], none⟩,
     ⟨some 12, .mov (.t 0), none⟩,
     ⟨some 13, .call false 136 [(.t 12), (.k (.i .i64 192))], none⟩,
     ⟨some 14, .build [(.i .i64 0), (.s []), (.s []), (.sl [] 0 .nil)] [(0, 1, (.t 9)), (1, 1, (.t 11)), (2, 1, (.t 13))], none⟩,
     ⟨some 5, .lalloc [(.i .i64 0), (.s []), (.s []), (.sl [] 0 .nil)] [5, 30, 38], none⟩,
     ⟨none, .store 4 (.t 5) (.t 14), none⟩])
  (.seq (.reg [⟨some 15, .mov (.t 0), none⟩,
     ⟨some 16, .call false 115 [(.t 15), (.k (.i .i64 0)), (.k (.i .i64 24))], none⟩,
     ⟨some 6, .mov (.t 16), none⟩])
  (.seq (.seq (.reg [⟨some 17, .mov (.t 1), none⟩,
      ⟨some 18, .bin .gtr (.t 17) (.k (.i .i64 6)), none⟩])
   (.cond (.t 18)
    (.seq (.reg [⟨some 19, .load true 4 (.t 5), none⟩,
       ⟨none, .store 4 (.t 4) (.t 19), none⟩])
    .ret)
    .skip))
  (.seq (.seq (.reg [⟨some 7, .mov (.k (.i .i64 0)), none⟩])
   (.blk 0 (.loop L138_1)))
  (.seq (.reg [⟨some 39, .load true 4 (.t 5), none⟩,
     ⟨none, .store 4 (.t 4) (.t 39), none⟩])
  .ret))))))
/-- tidemark/filter.take -/
def af138 : AFunc := { n := 40, depth := 6, kl := [(4, [4]), (5, [5, 30, 38])], res := [.cell 4 true 4], body := B138 }

def B139 : AC := (.seq (.reg [⟨some 1, .lbox (.t 0) [1], none⟩,
     ⟨some 2, .mov (.k (.i .i64 0)), none⟩])
  (.seq (.reg [⟨some 6, .load true 4 (.t 1), none⟩,
     ⟨some 7, .call false 128 [(.t 6)], none⟩,
     ⟨some 5, .mov (.t 7), none⟩,
     ⟨some 8, .ext (.t 5) 0, none⟩,
     ⟨some 9, .ext (.t 5) 1, none⟩,
     ⟨some 3, .mov (.t 8), none⟩,
     ⟨some 4, .mov (.t 9), none⟩])
  (.seq (.reg [⟨some 10, .mov (.t 4), none⟩,
     ⟨some 2, .mov (.t 10), none⟩])
  .ret)))
/-- tidemark/filter.Check -/
def af139 : AFunc := { n := 11, depth := 4, kl := [(1, [1])], res := [.tmp 2], body := B139 }

def B140 : AC := (.seq (.reg [⟨some 2, .mov (.k (.i .i64 0)), none⟩])
  (.seq (.seq (.reg [⟨some 3, .mov (.t 0), none⟩,
      ⟨some 4, .call false 132 [(.t 3)], none⟩])
   (.cond (.t 4)
    (.seq (.reg [⟨some 2, .mov (.k (.i .i64 0)), none⟩])
    .ret)
    .skip))
  (.seq (.reg [⟨some 5, .mov (.t 0), none⟩,
     ⟨some 6, .nilck (.t 5), none⟩,
     ⟨some 7, .faddr 0 (.t 6), none⟩,
     ⟨some 8, .load false 1 (.t 7), none⟩,
     ⟨some 9, .len .slice (.t 8), none⟩,
     ⟨some 10, .mov (.t 0), none⟩,
     ⟨some 11, .nilck (.t 10), none⟩,
     ⟨some 12, .faddr 1 (.t 11), none⟩,
     ⟨some 13, .load false 1 (.t 12), none⟩,
     ⟨some 14, .bin .sub (.t 9) (.t 13), none⟩,
     ⟨some 2, .mov (.t 14), none⟩])
  .ret)))
/-- (*tidemark/wire.Reader).Left -/
def af140 : AFunc := { n := 15, depth := 4, kl := [], res := [.tmp 2], body := B140 }

def B141 : AC := (.seq (.reg [⟨some 1, .lbox (.t 0) [1, 10, 13, 16, 18, 22, 26, 29, 34, 39, 40, 48, 50, 56, 61, 62, 65, 66, 72, 74, 76, 83, 85, 91, 92, 94, 102, 103, 109, 110, 112, 119, 120, 122, 124, 126, 128, 138, 144, 151, 158, 165, 172, 179, 183, 188, 195, 202, 203, 206, 207], none⟩,
     ⟨some 2, .mov (.k (.b false)), none⟩])
  (.seq (.reg [⟨some 10, .faddr 0 (.t 1), none⟩,
     ⟨some 11, .load false 1 (.t 10), none⟩,
     ⟨some 12, .build [(.i .i64 0), (.i .i64 0), (.i .i64 0), (.sl [] 0 .nil), (.sl [] 0 .nil), (.s []), (.i .i64 0), (.s []), (.s []), (.i .i64 0), (.s []), (.s []), (.sl [] 0 .nil), (.i .i64 0), (.i .i64 0), (.i .i64 0), (.i .i64 0), (.sl [] 0 .nil), (.sl [] 0 .nil)] [(0, 1, (.t 11))], none⟩,
     ⟨some 3, .lalloc [(.i .i64 0), (.i .i64 0), (.i .i64 0), (.sl [] 0 .nil), (.sl [] 0 .nil), (.s []), (.i .i64 0), (.s []), (.s []), (.i .i64 0), (.s []), (.s []), (.sl [] 0 .nil), (.i .i64 0), (.i .i64 0), (.i .i64 0), (.i .i64 0), (.sl [] 0 .nil), (.sl [] 0 .nil)] [3, 20, 21, 36, 42, 43, 52, 53, 58, 79, 80, 88, 96, 97, 98, 105, 106, 114, 115, 116, 130, 131, 132, 133, 134, 135, 136, 142, 149, 156, 163, 170, 177], none⟩,
     ⟨none, .store 19 (.t 3) (.t 12), none⟩])
  (.seq (.seq (.reg [⟨some 13, .faddr 0 (.t 1), none⟩,
      ⟨some 14, .load false 1 (.t 13), none⟩,
      ⟨some 15, .call true 39 [(.t 14)], none⟩])
   (.cond (.t 15)
    (.regd [(⟨some 16, .faddr 1 (.t 1), none⟩, []),
      (⟨some 17, .load false 1 (.t 16), none⟩, []),
      (⟨some 18, .faddr 2 (.t 1), none⟩, [0, 1]),
      (⟨some 19, .load false 1 (.t 18), none⟩, [0, 1]),
      (⟨some 20, .faddr 1 (.t 3), none⟩, [2, 3]),
      (⟨none, .store 1 (.t 20) (.t 17), none⟩, [2, 3]),
      (⟨some 21, .faddr 2 (.t 3), none⟩, []),
      (⟨none, .store 1 (.t 21) (.t 19), none⟩, [])])
    .skip))
  (.seq (.reg [⟨some 4, .mov (.k (.i .i64 0)), none⟩,
     ⟨some 5, .mov (.k (.i .i64 0)), none⟩,
     ⟨some 6, .mov (.k (.i .i64 0)), none⟩,
     ⟨some 7, .mov (.k (.b false)), none⟩])
  (.seq (.seq (.reg [⟨some 22, .faddr 0 (.t 1), none⟩,
      ⟨some 23, .load false 1 (.t 22), none⟩])
   (.blk 0 (.seq (.reg [⟨some 25, .bin .eql (.t 23) (.k (.i .i64 2)), none⟩,
       ⟨some 24, .mov (.t 25), none⟩])
    (.cond (.t 24)
     (.reg [⟨some 26, .faddr 3 (.t 1), none⟩,
       ⟨some 27, .load false 1 (.t 26), none⟩,
       ⟨some 28, .len .slice (.t 27), none⟩,
       ⟨some 29, .faddr 4 (.t 1), none⟩,
       ⟨some 30, .load false 1 (.t 29), none⟩,
       ⟨some 31, .len .slice (.t 30), none⟩,
       ⟨some 4, .mov (.t 28), none⟩,
       ⟨some 5, .mov (.t 31), none⟩])
     (.seq (.reg [⟨some 33, .bin .eql (.t 23) (.k (.i .i64 4)), none⟩,
        ⟨some 32, .mov (.t 33), none⟩])
     (.cond (.t 32)
      (.reg [⟨some 34, .faddr 5 (.t 1), none⟩,
        ⟨some 35, .load true 4 (.t 34), none⟩,
        ⟨some 36, .faddr 5 (.t 3), none⟩,
        ⟨none, .store 4 (.t 36) (.t 35), none⟩])
      (.seq (.reg [⟨some 38, .bin .eql (.t 23) (.k (.i .i64 5)), none⟩,
         ⟨some 37, .mov (.t 38), none⟩])
      (.cond (.t 37)
       (.reg [⟨some 39, .faddr 5 (.t 1), none⟩,
         ⟨some 40, .faddr 0 (.t 39), none⟩,
         ⟨some 41, .load false 1 (.t 40), none⟩,
         ⟨some 42, .faddr 5 (.t 3), none⟩,
         ⟨some 43, .faddr 0 (.t 42), none⟩,
         ⟨none, .store 1 (.t 43) (.t 41), none⟩])
       (.seq (.reg [⟨some 45, .bin .eql (.t 23) (.k (.i .i64 6)), none⟩,
          ⟨some 44, .mov (.t 45), none⟩])
       (.cond (.t 44)
        (.reg [⟨some 7, .mov (.k (.b true)), none⟩])
        (.seq (.reg [⟨some 47, .bin .eql (.t 23) (.k (.i .i64 7)), none⟩,
           ⟨some 46, .mov (.t 47), none⟩])
        (.cond (.t 46)
         (.regd [(⟨some 48, .faddr 13 (.t 1), none⟩, []),
           (⟨some 49, .load false 1 (.t 48), none⟩, []),
           (⟨some 50, .faddr 14 (.t 1), none⟩, [0, 1]),
           (⟨some 51, .load false 1 (.t 50), none⟩, [0, 1]),
           (⟨some 52, .faddr 13 (.t 3), none⟩, [2, 3]),
           (⟨none, .store 1 (.t 52) (.t 49), none⟩, [2, 3]),
           (⟨some 53, .faddr 14 (.t 3), none⟩, []),
           (⟨none, .store 1 (.t 53) (.t 51), none⟩, [])])
         (.seq (.reg [⟨some 55, .bin .eql (.t 23) (.k (.i .i64 8)), none⟩,
            ⟨some 54, .mov (.t 55), none⟩])
         (.cond (.t 54)
          (.reg [⟨some 56, .faddr 13 (.t 1), none⟩,
            ⟨some 57, .load false 1 (.t 56), none⟩,
            ⟨some 58, .faddr 13 (.t 3), none⟩,
            ⟨none, .store 1 (.t 58) (.t 57), none⟩])
          (.seq (.reg [⟨some 60, .bin .eql (.t 23) (.k (.i .i64 9)), none⟩,
             ⟨some 59, .mov (.t 60), none⟩])
          (.cond (.t 59)
           (.reg [⟨some 61, .faddr 17 (.t 1), none⟩,
             ⟨some 62, .faddr 0 (.t 61), none⟩,
             ⟨some 63, .load false 1 (.t 62), none⟩,
             ⟨some 64, .len .slice (.t 63), none⟩,
             ⟨some 65, .faddr 17 (.t 1), none⟩,
             ⟨some 66, .faddr 1 (.t 65), none⟩,
             ⟨some 67, .load false 1 (.t 66), none⟩,
             ⟨some 68, .len .slice (.t 67), none⟩,
             ⟨some 69, .bin .add (.t 64) (.t 68), none⟩,
             ⟨some 6, .mov (.t 69), none⟩])
           (.seq (.reg [⟨some 71, .bin .eql (.t 23) (.k (.i .i64 10)), none⟩,
              ⟨some 70, .mov (.t 71), none⟩])
           (.cond (.t 70)
            (.regd [(⟨some 72, .faddr 15 (.t 1), none⟩, []),
              (⟨some 73, .load false 1 (.t 72), none⟩, []),
              (⟨some 74, .faddr 14 (.t 1), none⟩, [0, 1]),
              (⟨some 75, .load false 1 (.t 74), none⟩, [0, 1]),
              (⟨some 76, .faddr 4 (.t 1), none⟩, [0, 1, 2, 3]),
              (⟨some 77, .load false 1 (.t 76), none⟩, [0, 1, 2, 3]),
              (⟨some 78, .len .slice (.t 77), none⟩, [0, 1, 2, 3]),
              (⟨some 79, .faddr 15 (.t 3), none⟩, [2, 3, 4, 5, 6]),
              (⟨none, .store 1 (.t 79) (.t 73), none⟩, [2, 3, 4, 5, 6]),
              (⟨some 80, .faddr 14 (.t 3), none⟩, [4, 5, 6]),
              (⟨none, .store 1 (.t 80) (.t 75), none⟩, [4, 5, 6]),
              (⟨some 5, .mov (.t 78), none⟩, [])])
            (.seq (.reg [⟨some 82, .bin .eql (.t 23) (.k (.i .i64 11)), none⟩,
               ⟨some 81, .mov (.t 82), none⟩])
            (.cond (.t 81)
             (.regd [(⟨some 83, .faddr 14 (.t 1), none⟩, []),
               (⟨some 84, .load false 1 (.t 83), none⟩, []),
               (⟨some 85, .faddr 4 (.t 1), none⟩, [0, 1]),
               (⟨some 86, .load false 1 (.t 85), none⟩, [0, 1]),
               (⟨some 87, .len .slice (.t 86), none⟩, [0, 1]),
               (⟨some 88, .faddr 14 (.t 3), none⟩, [2, 3, 4]),
               (⟨none, .store 1 (.t 88) (.t 84), none⟩, [2, 3, 4]),
               (⟨some 5, .mov (.t 87), none⟩, [])])
             (.seq (.reg [⟨some 90, .bin .eql (.t 23) (.k (.i .i64 12)), none⟩,
                ⟨some 89, .mov (.t 90), none⟩])
             (.cond (.t 89)
              (.regd [(⟨some 91, .faddr 5 (.t 1), none⟩, []),
                (⟨some 92, .faddr 0 (.t 91), none⟩, []),
                (⟨some 93, .load false 1 (.t 92), none⟩, []),
                (⟨some 94, .faddr 14 (.t 1), none⟩, [0, 1, 2]),
                (⟨some 95, .load false 1 (.t 94), none⟩, [0, 1, 2]),
                (⟨some 96, .faddr 5 (.t 3), none⟩, [3, 4]),
                (⟨some 97, .faddr 0 (.t 96), none⟩, [3, 4]),
                (⟨none, .store 1 (.t 97) (.t 93), none⟩, [3, 4]),
                (⟨some 98, .faddr 14 (.t 3), none⟩, []),
                (⟨none, .store 1 (.t 98) (.t 95), none⟩, []),
                (⟨some 7, .mov (.k (.b true)), none⟩, [])])
              (.seq (.seq (.reg [⟨some 100, .bin .eql (.t 23) (.k (.i .i64 13)), none⟩,
                  ⟨some 99, .mov (.t 100), none⟩])
               (.cond (.t 99)
                .skip
                (.reg [⟨some 101, .bin .eql (.t 23) (.k (.i .i64 16)), none⟩,
                  ⟨some 99, .mov (.t 101), none⟩])))
              (.cond (.t 99)
               (.reg [⟨some 102, .faddr 5 (.t 1), none⟩,
                 ⟨some 103, .faddr 0 (.t 102), none⟩,
                 ⟨some 104, .load false 1 (.t 103), none⟩,
                 ⟨some 105, .faddr 5 (.t 3), none⟩,
                 ⟨some 106, .faddr 0 (.t 105), none⟩,
                 ⟨none, .store 1 (.t 106) (.t 104), none⟩])
               (.seq (.reg [⟨some 108, .bin .eql (.t 23) (.k (.i .i64 14)), none⟩,
                  ⟨some 107, .mov (.t 108), none⟩])
               (.cond (.t 107)
                (.regd [(⟨some 109, .faddr 5 (.t 1), none⟩, []),
                  (⟨some 110, .faddr 0 (.t 109), none⟩, []),
                  (⟨some 111, .load false 1 (.t 110), none⟩, []),
                  (⟨some 112, .faddr 13 (.t 1), none⟩, [0, 1, 2]),
                  (⟨some 113, .load false 1 (.t 112), none⟩, [0, 1, 2]),
                  (⟨some 114, .faddr 5 (.t 3), none⟩, [3, 4]),
                  (⟨some 115, .faddr 0 (.t 114), none⟩, [3, 4]),
                  (⟨none, .store 1 (.t 115) (.t 111), none⟩, [3, 4]),
                  (⟨some 116, .faddr 13 (.t 3), none⟩, []),
                  (⟨none, .store 1 (.t 116) (.t 113), none⟩, [])])
                (.seq (.reg [⟨some 118, .bin .eql (.t 23) (.k (.i .i64 15)), none⟩,
                   ⟨some 117, .mov (.t 118), none⟩])
                (.cond (.t 117)
                 (.regd [(⟨some 119, .faddr 5 (.t 1), none⟩, []),
                   (⟨some 120, .faddr 0 (.t 119), none⟩, []),
                   (⟨some 121, .load false 1 (.t 120), none⟩, []),
                   (⟨some 122, .faddr 13 (.t 1), none⟩, [0, 1, 2]),
                   (⟨some 123, .load false 1 (.t 122), none⟩, [0, 1, 2]),
                   (⟨some 124, .faddr 15 (.t 1), none⟩, [0, 1, 2, 3, 4]),
                   (⟨some 125, .load false 1 (.t 124), none⟩, [0, 1, 2, 3, 4]),
                   (⟨some 126, .faddr 16 (.t 1), none⟩, [0, 1, 2, 3, 4, 5, 6]),
                   (⟨some 127, .load false 1 (.t 126), none⟩, [0, 1, 2, 3, 4, 5, 6]),
                   (⟨some 128, .faddr 14 (.t 1), none⟩, [0, 1, 2, 3, 4, 5, 6, 7, 8]),
                   (⟨some 129, .load false 1 (.t 128), none⟩, [0, 1, 2, 3, 4, 5, 6, 7, 8]),
                   (⟨some 130, .faddr 5 (.t 3), none⟩, [3, 4, 5, 6, 7, 8, 9, 10]),
                   (⟨some 131, .faddr 0 (.t 130), none⟩, [3, 4, 5, 6, 7, 8, 9, 10]),
                   (⟨none, .store 1 (.t 131) (.t 121), none⟩, [3, 4, 5, 6, 7, 8, 9, 10]),
                   (⟨some 132, .faddr 13 (.t 3), none⟩, [5, 6, 7, 8, 9, 10]),
                   (⟨none, .store 1 (.t 132) (.t 123), none⟩, [5, 6, 7, 8, 9, 10]),
                   (⟨some 133, .faddr 15 (.t 3), none⟩, [7, 8, 9, 10]),
                   (⟨none, .store 1 (.t 133) (.t 125), none⟩, [7, 8, 9, 10]),
                   (⟨some 134, .faddr 16 (.t 3), none⟩, [9, 10]),
                   (⟨none, .store 1 (.t 134) (.t 127), none⟩, [9, 10]),
                   (⟨some 135, .faddr 14 (.t 3), none⟩, []),
                   (⟨none, .store 1 (.t 135) (.t 129), none⟩, [])])
                 .skip))))))))))))))))))))))))))))
  (.seq (.reg [⟨some 136, .faddr 1 (.t 3), none⟩,
     ⟨some 137, .load false 1 (.t 136), none⟩,
     ⟨some 138, .faddr 1 (.t 1), none⟩,
     ⟨some 139, .load false 1 (.t 138), none⟩,
     ⟨some 140, .bin .eql (.t 137) (.t 139), none⟩,
     ⟨some 141, .mov (.t 140), none⟩,
     ⟨some 142, .faddr 2 (.t 3), some (141, true)⟩,
     ⟨some 143, .load false 1 (.t 142), some (141, true)⟩,
     ⟨some 144, .faddr 2 (.t 1), some (141, true)⟩,
     ⟨some 145, .load false 1 (.t 144), some (141, true)⟩,
     ⟨some 146, .bin .eql (.t 143) (.t 145), some (141, true)⟩,
     ⟨some 147, .pick (.t 141) (.t 146) (.k (.b false)), none⟩,
     ⟨some 148, .mov (.t 147), none⟩,
     ⟨some 149, .faddr 5 (.t 3), some (148, true)⟩,
     ⟨some 150, .load true 4 (.t 149), some (148, true)⟩,
     ⟨some 151, .faddr 5 (.t 1), some (148, true)⟩,
     ⟨some 152, .load true 4 (.t 151), some (148, true)⟩,
     ⟨some 153, .eq false (.struct [(0, 1, false, .str), (1, 1, false, .int), (2, 1, false, .str), (3, 1, false, .str)]) (.t 150) (.t 152), some (148, true)⟩,
     ⟨some 154, .pick (.t 148) (.t 153) (.k (.b false)), none⟩,
     ⟨some 155, .mov (.t 154), none⟩,
     ⟨some 156, .faddr 13 (.t 3), some (155, true)⟩,
     ⟨some 157, .load false 1 (.t 156), some (155, true)⟩,
     ⟨some 158, .faddr 13 (.t 1), some (155, true)⟩,
     ⟨some 159, .load false 1 (.t 158), some (155, true)⟩,
     ⟨some 160, .bin .eql (.t 157) (.t 159), some (155, true)⟩,
     ⟨some 161, .pick (.t 155) (.t 160) (.k (.b false)), none⟩,
     ⟨some 162, .mov (.t 161), none⟩,
     ⟨some 163, .faddr 14 (.t 3), some (162, true)⟩,
     ⟨some 164, .load false 1 (.t 163), some (162, true)⟩,
     ⟨some 165, .faddr 14 (.t 1), some (162, true)⟩,
     ⟨some 166, .load false 1 (.t 165), some (162, true)⟩,
     ⟨some 167, .bin .eql (.t 164) (.t 166), some (162, true)⟩,
     ⟨some 168, .pick (.t 162) (.t 167) (.k (.b false)), none⟩,
     ⟨some 169, .mov (.t 168), none⟩,
     ⟨some 170, .faddr 15 (.t 3), some (169, true)⟩,
     ⟨some 171, .load false 1 (.t 170), some (169, true)⟩,
     ⟨some 172, .faddr 15 (.t 1), some (169, true)⟩,
     ⟨some 173, .load false 1 (.t 172), some (169, true)⟩,
     ⟨some 174, .bin .eql (.t 171) (.t 173), some (169, true)⟩,
     ⟨some 175, .pick (.t 169) (.t 174) (.k (.b false)), none⟩,
     ⟨some 176, .mov (.t 175), none⟩,
     ⟨some 177, .faddr 16 (.t 3), some (176, true)⟩,
     ⟨some 178, .load false 1 (.t 177), some (176, true)⟩,
     ⟨some 179, .faddr 16 (.t 1), some (176, true)⟩,
     ⟨some 180, .load false 1 (.t 179), some (176, true)⟩,
     ⟨some 181, .bin .eql (.t 178) (.t 180), some (176, true)⟩,
     ⟨some 182, .pick (.t 176) (.t 181) (.k (.b false)), none⟩,
     ⟨some 8, .mov (.t 182), none⟩])
  (.seq (.reg [⟨some 183, .faddr 9 (.t 1), none⟩,
     ⟨some 184, .load true 4 (.t 183), none⟩,
     ⟨some 9, .lalloc [(.i .i64 0), (.s []), (.s []), (.sl [] 0 .nil)] [9, 216, 220, 225, 230], none⟩,
     ⟨none, .store 4 (.t 9) (.t 184), none⟩])
  (.seq (.reg [⟨some 185, .mov (.t 8), none⟩,
     ⟨some 186, .mov (.t 185), none⟩,
     ⟨some 187, .mov (.t 4), some (186, true)⟩,
     ⟨some 188, .faddr 3 (.t 1), some (186, true)⟩,
     ⟨some 189, .load false 1 (.t 188), some (186, true)⟩,
     ⟨some 190, .len .slice (.t 189), some (186, true)⟩,
     ⟨some 191, .bin .eql (.t 187) (.t 190), some (186, true)⟩,
     ⟨some 192, .pick (.t 186) (.t 191) (.k (.b false)), none⟩,
     ⟨some 193, .mov (.t 192), none⟩,
     ⟨some 194, .mov (.t 5), some (193, true)⟩,
     ⟨some 195, .faddr 4 (.t 1), some (193, true)⟩,
     ⟨some 196, .load false 1 (.t 195), some (193, true)⟩,
     ⟨some 197, .len .slice (.t 196), some (193, true)⟩,
     ⟨some 198, .bin .eql (.t 194) (.t 197), some (193, true)⟩,
     ⟨some 199, .pick (.t 193) (.t 198) (.k (.b false)), none⟩,
     ⟨some 200, .mov (.t 199), none⟩,
     ⟨some 201, .mov (.t 6), some (200, true)⟩,
     ⟨some 202, .faddr 17 (.t 1), some (200, true)⟩,
     ⟨some 203, .faddr 0 (.t 202), some (200, true)⟩,
     ⟨some 204, .load false 1 (.t 203), some (200, true)⟩,
     ⟨some 205, .len .slice (.t 204), some (200, true)⟩,
     ⟨some 206, .faddr 17 (.t 1), some (200, true)⟩,
     ⟨some 207, .faddr 1 (.t 206), some (200, true)⟩,
     ⟨some 208, .load false 1 (.t 207), some (200, true)⟩,
     ⟨some 209, .len .slice (.t 208), some (200, true)⟩,
     ⟨some 210, .bin .add (.t 205) (.t 209), some (200, true)⟩,
     ⟨some 211, .bin .eql (.t 201) (.t 210), some (200, true)⟩,
     ⟨some 212, .pick (.t 200) (.t 211) (.k (.b false)), none⟩,
     ⟨some 213, .mov (.t 212), none⟩,
     ⟨some 214, .mov (.t 7), some (213, true)⟩,
     ⟨some 215, .mov (.t 214), some (213, true)⟩,
     ⟨some 216, .faddr 0 (.t 9), some (215, false)⟩,
     ⟨some 217, .load false 1 (.t 216), some (215, false)⟩,
     ⟨some 218, .bin .eql (.t 217) (.k (.i .i64 0)), some (215, false)⟩,
     ⟨some 219, .mov (.t 218), some (215, false)⟩,
     ⟨some 220, .faddr 1 (.t 9), some (219, true)⟩,
     ⟨some 221, .load false 1 (.t 220), some (219, true)⟩,
     ⟨some 222, .bin .eql (.t 221) (.k (.s [])), some (219, true)⟩,
     ⟨some 223, .pick (.t 219) (.t 222) (.k (.b false)), some (215, false)⟩,
     ⟨some 224, .mov (.t 223), some (215, false)⟩,
     ⟨some 225, .faddr 2 (.t 9), some (224, true)⟩,
     ⟨some 226, .load false 1 (.t 225), some (224, true)⟩,
     ⟨some 227, .bin .eql (.t 226) (.k (.s [])), some (224, true)⟩,
     ⟨some 228, .pick (.t 224) (.t 227) (.k (.b false)), some (215, false)⟩,
     ⟨some 229, .mov (.t 228), some (215, false)⟩,
     ⟨some 230, .faddr 3 (.t 9), some (229, true)⟩,
     ⟨some 231, .load false 1 (.t 230), some (229, true)⟩,
     ⟨some 232, .len .slice (.t 231), some (229, true)⟩,
     ⟨some 233, .bin .eql (.t 232) (.k (.i .i64 0)), some (229, true)⟩,
     ⟨some 234, .pick (.t 229) (.t 233) (.k (.b false)), some (215, false)⟩,
     ⟨some 235, .pick (.t 215) (.k (.b true)) (.t 234), some (213, true)⟩,
     ⟨some 236, .pick (.t 213) (.t 235) (.k (.b false)), none⟩,
     ⟨some 2, .mov (.t 236), none⟩])
  .ret))))))))
/-- tidemark/machine.bare -/
def af141 : AFunc := { n := 237, depth := 8, kl := [(1, [1, 10, 13, 16, 18, 22, 26, 29, 34, 39, 40, 48, 50, 56, 61, 62, 65, 66, 72, 74, 76, 83, 85, 91, 92, 94, 102, 103, 109, 110, 112, 119, 120, 122, 124, 126, 128, 138, 144, 151, 158, 165, 172, 179, 183, 188, 195, 202, 203, 206, 207]), (3, [3, 20, 21, 36, 42, 43, 52, 53, 58, 79, 80, 88, 96, 97, 98, 105, 106, 114, 115, 116, 130, 131, 132, 133, 134, 135, 136, 142, 149, 156, 163, 170, 177]), (9, [9, 216, 220, 225, 230])], res := [.tmp 2], body := B141 }

def B142 : AC := (.seq (.reg [⟨some 2, .mov (.k (.b false)), none⟩])
  (.seq (.reg [⟨some 3, .mov (.t 0), none⟩,
     ⟨some 4, .call true 248 [(.t 3), (.f 249)], none⟩,
     ⟨some 5, .un .not (.t 4), none⟩,
     ⟨some 2, .mov (.t 5), none⟩])
  .ret))
/-- tidemark/machine.within -/
def af142 : AFunc := { n := 6, depth := 3, kl := [], res := [.tmp 2], body := B142 }

def B143 : AC := (.seq (.reg [⟨some 4, .mov (.k (.i .i64 0)), none⟩])
  (.seq (.blk 0 (.seq (.reg [⟨some 7, .mov (.t 1), none⟩,
       ⟨some 8, .len .slice (.t 7), none⟩,
       ⟨some 9, .bin .eql (.t 8) (.k (.i .i64 0)), none⟩,
       ⟨some 10, .mov (.t 9), none⟩,
       ⟨some 11, .mov (.t 1), some (10, false)⟩,
       ⟨some 12, .len .slice (.t 11), some (10, false)⟩,
       ⟨some 13, .bin .gtr (.t 12) (.k (.i .i64 6)), some (10, false)⟩,
       ⟨some 14, .pick (.t 10) (.k (.b true)) (.t 13), none⟩,
       ⟨some 15, .mov (.t 14), none⟩,
       ⟨some 16, .mov (.t 0), some (15, false)⟩,
       ⟨some 17, .len .slice (.t 16), some (15, false)⟩,
       ⟨some 18, .bin .gtr (.t 17) (.k (.i .i64 6)), some (15, false)⟩,
       ⟨some 19, .pick (.t 15) (.k (.b true)) (.t 18), none⟩,
       ⟨some 6, .mov (.t 19), none⟩])
    (.cond (.t 6)
     (.seq (.reg [⟨some 4, .mov (.k (.i .i64 61)), none⟩])
     .ret)
     .skip)))
  (.seq (.seq (.reg [⟨some 20, .mov (.t 0), none⟩,
      ⟨some 21, .call true 226 [(.t 20)], none⟩,
      ⟨some 5, .mov (.t 21), none⟩])
   (.seq (.reg [⟨some 22, .mov (.t 5), none⟩,
      ⟨some 23, .bin .neq (.t 22) (.k (.i .i64 0)), none⟩])
   (.cond (.t 23)
    (.seq (.reg [⟨some 24, .mov (.t 5), none⟩,
       ⟨some 4, .mov (.t 24), none⟩])
    .ret)
    .skip)))
  (.seq (.reg [⟨some 25, .mov (.t 1), none⟩,
     ⟨some 26, .call true 226 [(.t 25)], none⟩,
     ⟨some 4, .mov (.t 26), none⟩])
  .ret))))
/-- tidemark/kv.Check -/
def af143 : AFunc := { n := 27, depth := 5, kl := [], res := [.tmp 4], body := B143 }

def L147_1 : AC := (.seq (.reg [⟨some 15, .bin .lss (.t 14) (.t 13), none⟩])
  (.seq (.cond (.t 15)
    .skip
    (.exit 0))
  (.seq (.blk 1 (.seq (.reg [⟨some 16, .iaddr (.slice 3) (.t 12) (.t 14), none⟩,
       ⟨some 17, .load true 3 (.t 16), none⟩,
       ⟨some 6, .lalloc [(.s []), (.b false), (.s [])] [6], none⟩,
       ⟨none, .store 3 (.t 6) (.t 17), none⟩])
    (.seq (.reg [⟨some 18, .load true 3 (.t 6), none⟩,
       ⟨some 19, .bslice false 58 3 1 [(.s []), (.b false), (.s [])] [(0, (.t 18))], none⟩,
       ⟨some 20, .call true 143 [(.k (.sl [] 0 .nil)), (.t 19)], none⟩,
       ⟨some 7, .mov (.t 20), none⟩])
    (.seq (.reg [⟨some 21, .mov (.t 7), none⟩,
       ⟨some 22, .bin .neq (.t 21) (.k (.i .i64 0)), none⟩])
    (.cond (.t 22)
     (.seq (.reg [⟨some 23, .mov (.t 7), none⟩,
        ⟨some 4, .mov (.t 23), none⟩])
     .ret)
     .skip)))))
  (.reg [⟨some 24, .bin .add (.t 14) (.k (.i .i64 1)), none⟩,
    ⟨some 14, .mov (.t 24), none⟩]))))
def B147 : AC := (.seq (.reg [⟨some 4, .mov (.k (.i .i64 0)), none⟩])
  (.seq (.seq (.reg [⟨some 8, .mov (.t 0), none⟩,
      ⟨some 9, .len .slice (.t 8), none⟩,
      ⟨some 10, .mov (.t 1), none⟩,
      ⟨some 11, .bin .gtr (.t 9) (.t 10), none⟩])
   (.cond (.t 11)
    (.seq (.reg [⟨some 4, .mov (.k (.i .i64 61)), none⟩])
    .ret)
    .skip))
  (.seq (.seq (.reg [⟨some 12, .mov (.t 0), none⟩,
      ⟨some 13, .len .slice (.t 12), none⟩,
      ⟨some 14, .mov (.k (.i .i64 0)), none⟩])
   (.blk 0 (.loop L147_1)))
  (.seq (.reg [⟨some 4, .mov (.k (.i .i64 0)), none⟩])
  .ret))))
/-- tidemark/machine.steps -/
def af147 : AFunc := { n := 25, depth := 5, kl := [(6, [6])], res := [.tmp 4], body := B147 }

def B160 : AC := (.seq (.reg [⟨some 4, .mov (.k (.sl [] 0 .nil)), none⟩])
  (.seq (.reg [⟨some 5, .mov (.t 0), none⟩,
     ⟨some 6, .mov (.t 1), none⟩,
     ⟨some 7, .len .str (.t 6), none⟩,
     ⟨some 8, .call false 82 [(.t 5), (.t 7)], none⟩,
     ⟨some 9, .mov (.t 1), none⟩,
     ⟨some 10, .app 5 1 (.t 8) (.t 9), none⟩,
     ⟨some 4, .mov (.t 10), none⟩])
  .ret))
/-- tidemark/wire.Text -/
def af160 : AFunc := { n := 11, depth := 4, kl := [], res := [.tmp 4], body := B160 }

def B161 : AC := (.seq (.reg [⟨some 4, .mov (.k (.sl [] 0 .nil)), none⟩])
  (.seq (.seq (.reg [⟨some 5, .mov (.t 1), none⟩])
   (.cond (.t 5)
    (.seq (.reg [⟨some 6, .mov (.t 0), none⟩,
       ⟨some 7, .call false 82 [(.t 6), (.k (.i .i64 1))], none⟩,
       ⟨some 4, .mov (.t 7), none⟩])
    .ret)
    .skip))
  (.seq (.reg [⟨some 8, .mov (.t 0), none⟩,
     ⟨some 9, .call false 82 [(.t 8), (.k (.i .i64 0))], none⟩,
     ⟨some 4, .mov (.t 9), none⟩])
  .ret)))
/-- tidemark/wire.Flag -/
def af161 : AFunc := { n := 10, depth := 4, kl := [], res := [.tmp 4], body := B161 }

def L162_1 : AC := (.seq (.reg [⟨some 27, .bin .lss (.t 26) (.t 25), none⟩])
  (.seq (.cond (.t 27)
    .skip
    (.exit 0))
  (.seq (.blk 1 (.seq (.reg [⟨some 28, .iaddr (.slice 4) (.t 24) (.t 26), none⟩,
       ⟨some 29, .load true 4 (.t 28), none⟩,
       ⟨some 6, .lalloc [(.i .i64 0), (.s []), (.s []), (.sl [] 0 .nil)] [6], none⟩,
       ⟨none, .store 4 (.t 6) (.t 29), none⟩])
    (.reg [⟨some 30, .mov (.t 0), none⟩,
      ⟨some 31, .load true 4 (.t 6), none⟩,
      ⟨some 32, .call false 162 [(.t 30), (.t 31)], none⟩,
      ⟨some 0, .mov (.t 32), none⟩])))
  (.reg [⟨some 33, .bin .add (.t 26) (.k (.i .i64 1)), none⟩,
    ⟨some 26, .mov (.t 33), none⟩]))))
def B162 : AC := (.seq (.reg [⟨some 3, .lbox (.t 1) [3, 8, 12, 15, 19, 23], none⟩,
     ⟨some 4, .mov (.k (.sl [] 0 .nil)), none⟩])
  (.seq (.reg [⟨some 7, .mov (.t 0), none⟩,
     ⟨some 8, .faddr 0 (.t 3), none⟩,
     ⟨some 9, .load false 1 (.t 8), none⟩,
     ⟨some 10, .call false 82 [(.t 7), (.t 9)], none⟩,
     ⟨some 0, .mov (.t 10), none⟩])
  (.seq (.regd [(⟨some 11, .mov (.t 0), none⟩, []),
     (⟨some 12, .faddr 1 (.t 3), none⟩, [0]),
     (⟨some 13, .load false 1 (.t 12), none⟩, [0]),
     (⟨some 14, .call false 160 [(.t 11), (.t 13)], none⟩, []),
     (⟨some 15, .faddr 2 (.t 3), none⟩, [0, 1, 2, 3]),
     (⟨some 16, .load false 1 (.t 15), none⟩, [0, 1, 2, 3]),
     (⟨some 17, .call false 160 [(.t 14), (.t 16)], none⟩, []),
     (⟨some 0, .mov (.t 17), none⟩, [])])
  (.seq (.reg [⟨some 18, .mov (.t 0), none⟩,
     ⟨some 19, .faddr 3 (.t 3), none⟩,
     ⟨some 20, .load false 1 (.t 19), none⟩,
     ⟨some 21, .len .slice (.t 20), none⟩,
     ⟨some 22, .call false 82 [(.t 18), (.t 21)], none⟩,
     ⟨some 0, .mov (.t 22), none⟩])
  (.seq (.seq (.reg [⟨some 23, .faddr 3 (.t 3), none⟩,
      ⟨some 24, .load false 1 (.t 23), none⟩,
      ⟨some 25, .len .slice (.t 24), none⟩,
      ⟨some 26, .mov (.k (.i .i64 0)), none⟩])
   (.blk 0 (.loop L162_1)))
  (.seq (.reg [⟨some 34, .mov (.t 0), none⟩,
     ⟨some 4, .mov (.t 34), none⟩])
  .ret))))))
/-- tidemark/filter.put -/
def af162 : AFunc := { n := 35, depth := 6, kl := [(3, [3, 8, 12, 15, 19, 23]), (6, [6])], res := [.tmp 4], body := B162 }

def B163 : AC := (.seq (.reg [⟨some 0, .mov (.k .nilp), none⟩])
  (.seq (.reg [⟨some 1, .build [.nilp] [], none⟩,
     ⟨some 2, .box 306 (.t 1), none⟩,
     ⟨some 0, .mov (.t 2), none⟩])
  .ret))
/-- tidemark/tree.New -/
def af163 : AFunc := { n := 3, depth := 2, kl := [], res := [.tmp 0], body := B163 }

def B164 : AC := (.seq (.reg [⟨some 2, .mov (.k (.b false)), none⟩])
  (.seq (.reg [⟨some 3, .mov (.t 0), none⟩,
     ⟨some 4, .eq true .ptr (.t 3) (.k .nilp), none⟩,
     ⟨some 5, .mov (.t 4), none⟩,
     ⟨some 6, .mov (.t 0), some (5, true)⟩,
     ⟨some 7, .nilck (.t 6), some (5, true)⟩,
     ⟨some 8, .faddr 0 (.t 7), some (5, true)⟩,
     ⟨some 9, .load false 1 (.t 8), some (5, true)⟩,
     ⟨some 10, .eq true .ptr (.t 9) (.k .nilp), some (5, true)⟩,
     ⟨some 11, .pick (.t 5) (.t 10) (.k (.b false)), none⟩,
     ⟨some 2, .mov (.t 11), none⟩])
  .ret))
/-- (*tidemark/kv.Map).made -/
def af164 : AFunc := { n := 12, depth := 4, kl := [], res := [.tmp 2], body := B164 }

def B165 : AC := (.seq (.reg [⟨some 8, .mov (.k (.sl [] 0 .nil)), none⟩])
  (.seq (.reg [⟨some 9, .mov (.t 0), none⟩,
     ⟨some 10, .call false 257 [(.t 9)], none⟩,
     ⟨some 11, .mov (.t 1), none⟩,
     ⟨some 12, .mov (.t 2), none⟩,
     ⟨some 13, .mov (.t 3), none⟩,
     ⟨some 14, .call false 256 [(.t 10), (.t 11), (.t 12), (.t 13), (.k (.sl [] 0 .nil))], none⟩,
     ⟨some 8, .mov (.t 14), none⟩])
  .ret))
/-- (*tidemark/tree.Tree).Scan -/
def af165 : AFunc := { n := 15, depth := 4, kl := [], res := [.tmp 8], body := B165 }

def B166 : AC := (.seq (.reg [⟨some 2, .mov (.k (.i .i64 0)), none⟩])
  (.seq (.reg [⟨some 3, .mov (.t 0), none⟩,
     ⟨some 4, .call false 257 [(.t 3)], none⟩,
     ⟨some 5, .call false 258 [(.t 4)], none⟩,
     ⟨some 2, .mov (.t 5), none⟩])
  .ret))
/-- (*tidemark/tree.Tree).Len -/
def af166 : AFunc := { n := 6, depth := 3, kl := [], res := [.tmp 2], body := B166 }

def B169 : AC := (.seq (.reg [⟨some 2, .mov (.k (.b false)), none⟩])
  (.seq (.reg [⟨some 3, .mov (.t 0), none⟩,
     ⟨some 4, .eq false .ptr (.t 3) (.k .nilp), none⟩,
     ⟨some 5, .mov (.t 4), none⟩,
     ⟨some 6, .mov (.t 0), some (5, false)⟩,
     ⟨some 7, .nilck (.t 6), some (5, false)⟩,
     ⟨some 8, .faddr 2 (.t 7), some (5, false)⟩,
     ⟨some 9, .load false 1 (.t 8), some (5, false)⟩,
     ⟨some 10, .bin .eql (.t 9) (.k (.i .i64 0)), some (5, false)⟩,
     ⟨some 11, .pick (.t 5) (.k (.b true)) (.t 10), none⟩,
     ⟨some 2, .mov (.t 11), none⟩])
  .ret))
/-- (*tidemark/feed.Feed).dead -/
def af169 : AFunc := { n := 12, depth := 4, kl := [], res := [.tmp 2], body := B169 }

def L170_1 : AC := (.seq (.reg [⟨some 10, .bin .lss (.t 9) (.t 8), none⟩])
  (.seq (.cond (.t 10)
    .skip
    (.exit 0))
  (.seq (.blk 1 (.seq (.reg [⟨some 11, .iaddr (.slice 4) (.t 7) (.t 9), none⟩,
       ⟨some 12, .load true 4 (.t 11), none⟩,
       ⟨some 5, .lalloc [(.i .i64 0), (.s []), (.s []), (.sl [] 0 .nil)] [5], none⟩,
       ⟨none, .store 4 (.t 5) (.t 12), none⟩])
    (.reg [⟨some 13, .mov (.t 3), none⟩,
      ⟨some 14, .load true 4 (.t 5), none⟩,
      ⟨some 15, .call true 170 [(.t 14)], none⟩,
      ⟨some 16, .bslice false 30 4 1 [(.i .i64 0), (.s []), (.s []), (.sl [] 0 .nil)] [(0, (.t 15))], none⟩,
      ⟨some 17, .app 30 4 (.t 13) (.t 16), none⟩,
      ⟨some 3, .mov (.t 17), none⟩])))
  (.reg [⟨some 18, .bin .add (.t 9) (.k (.i .i64 1)), none⟩,
    ⟨some 9, .mov (.t 18), none⟩]))))
def B170 : AC := (.seq (.reg [⟨some 1, .lbox (.t 0) [1, 6, 20], none⟩,
     ⟨some 2, .lalloc [(.i .i64 0), (.s []), (.s []), (.sl [] 0 .nil)] [2], none⟩])
  (.seq (.reg [⟨some 3, .mov (.k (.sl [] 0 .nil)), none⟩])
  (.seq (.seq (.reg [⟨some 6, .faddr 3 (.t 1), none⟩,
      ⟨some 7, .load false 1 (.t 6), none⟩,
      ⟨some 8, .len .slice (.t 7), none⟩,
      ⟨some 9, .mov (.k (.i .i64 0)), none⟩])
   (.blk 0 (.loop L170_1)))
  (.seq (.reg [⟨some 19, .mov (.t 3), none⟩,
     ⟨some 20, .faddr 3 (.t 1), none⟩,
     ⟨none, .store 1 (.t 20) (.t 19), none⟩])
  (.seq (.reg [⟨some 21, .load true 4 (.t 1), none⟩,
     ⟨none, .store 4 (.t 2) (.t 21), none⟩])
  .ret)))))
/-- tidemark/feed.copied -/
def af170 : AFunc := { n := 22, depth := 5, kl := [(1, [1, 6, 20]), (2, [2]), (5, [5])], res := [.cell 2 true 4], body := B170 }

def B171 : AC := (.seq (.reg [⟨some 2, .mov (.k (.b false)), none⟩])
  (.seq (.reg [⟨some 3, .mov (.t 0), none⟩,
     ⟨some 4, .eq false .ptr (.t 3) (.k .nilp), none⟩,
     ⟨some 5, .mov (.t 4), none⟩,
     ⟨some 6, .mov (.t 0), some (5, false)⟩,
     ⟨some 7, .nilck (.t 6), some (5, false)⟩,
     ⟨some 8, .faddr 1 (.t 7), some (5, false)⟩,
     ⟨some 9, .load false 1 (.t 8), some (5, false)⟩,
     ⟨some 10, .un .not (.t 9), some (5, false)⟩,
     ⟨some 11, .pick (.t 5) (.k (.b true)) (.t 10), none⟩,
     ⟨some 2, .mov (.t 11), none⟩])
  .ret))
/-- (*tidemark/views.Views).dead -/
def af171 : AFunc := { n := 12, depth := 4, kl := [], res := [.tmp 2], body := B171 }

def B172 : AC := (.seq (.reg [⟨some 3, .box 3 (.t 1), none⟩,
     ⟨some 4, .mov (.k (.i .i64 0)), none⟩,
     ⟨some 5, .mov (.k (.i .i64 0)), none⟩])
  (.seq (.seq (.reg [⟨some 7, .mov (.t 0), none⟩,
      ⟨some 8, .call false 169 [(.t 7)], none⟩])
   (.cond (.t 8)
    (.seq (.reg [⟨some 4, .mov (.k (.i .i64 0)), none⟩,
       ⟨some 5, .mov (.k (.i .i64 6)), none⟩])
    .ret)
    .skip))
  (.seq (.reg [⟨some 9, .mov (.t 0), none⟩,
     ⟨some 10, .nilck (.t 9), none⟩,
     ⟨some 11, .faddr 1 (.t 10), none⟩,
     ⟨some 12, .load false 1 (.t 11), none⟩,
     ⟨some 13, .mkfn 261 [] [(.t 3)], none⟩,
     ⟨some 14, .call false 260 [(.t 12), (.t 13)], none⟩,
     ⟨some 6, .mov (.t 14), none⟩])
  (.seq (.blk 0 (.seq (.reg [⟨some 16, .mov (.t 6), none⟩,
       ⟨some 17, .bin .lss (.t 16) (.k (.i .i64 0)), none⟩,
       ⟨some 15, .mov (.t 17), none⟩])
    (.cond (.t 15)
     (.seq (.reg [⟨some 4, .mov (.k (.i .i64 0)), none⟩,
        ⟨some 5, .mov (.k (.i .i64 80)), none⟩])
     .ret)
     (.seq (.reg [⟨some 19, .mov (.t 0), none⟩,
        ⟨some 20, .nilck (.t 19), none⟩,
        ⟨some 21, .faddr 1 (.t 20), none⟩,
        ⟨some 22, .load false 1 (.t 21), none⟩,
        ⟨some 23, .mov (.t 6), none⟩,
        ⟨some 24, .iaddr (.slice 8) (.t 22) (.t 23), none⟩,
        ⟨some 25, .faddr 7 (.t 24), none⟩,
        ⟨some 26, .load false 1 (.t 25), none⟩,
        ⟨some 18, .mov (.t 26), none⟩])
     (.cond (.t 18)
      (.seq (.reg [⟨some 4, .mov (.k (.i .i64 0)), none⟩,
         ⟨some 5, .mov (.k (.i .i64 81)), none⟩])
      .ret)
      .skip)))))
  (.seq (.reg [⟨some 27, .mov (.t 6), none⟩,
     ⟨some 4, .mov (.t 27), none⟩,
     ⟨some 5, .mov (.k (.i .i64 0)), none⟩])
  .ret)))))
/-- (*tidemark/feed.Feed).find -/
def af172 : AFunc := { n := 28, depth := 5, kl := [], res := [.tmp 4, .tmp 5], body := B172 }

def B173 : AC := (.seq (.reg [⟨some 2, .mov (.k (.b false)), none⟩])
  (.seq (.reg [⟨some 3, .mov (.t 0), none⟩,
     ⟨some 4, .eq false .ptr (.t 3) (.k .nilp), none⟩,
     ⟨some 5, .mov (.t 4), none⟩,
     ⟨some 6, .mov (.t 0), some (5, false)⟩,
     ⟨some 7, .nilck (.t 6), some (5, false)⟩,
     ⟨some 8, .faddr 2 (.t 7), some (5, false)⟩,
     ⟨some 9, .load false 1 (.t 8), some (5, false)⟩,
     ⟨some 10, .un .not (.t 9), some (5, false)⟩,
     ⟨some 11, .pick (.t 5) (.k (.b true)) (.t 10), none⟩,
     ⟨some 2, .mov (.t 11), none⟩])
  .ret))
/-- (*tidemark/sess.Table).dead -/
def af173 : AFunc := { n := 12, depth := 4, kl := [], res := [.tmp 2], body := B173 }

def B174 : AC := (.seq (.reg [⟨some 2, .mov (.k (.sl [] 0 .nil)), none⟩])
  (.seq (.seq (.reg [⟨some 3, .mov (.t 0), none⟩,
      ⟨some 4, .eq false .slnil (.t 3) (.k (.sl [] 0 .nil)), none⟩])
   (.cond (.t 4)
    (.seq (.reg [⟨some 2, .mov (.k (.sl [] 0 .nil)), none⟩])
    .ret)
    .skip))
  (.seq (.reg [⟨some 5, .bslice false 84 4 0 [(.i .i64 0), (.i .i64 0), (.i .i64 0), (.i .i64 0)] [], none⟩,
     ⟨some 6, .mov (.t 0), none⟩,
     ⟨some 7, .appo 84 4 (.t 5) (.t 6), none⟩,
     ⟨some 2, .mov (.t 7), none⟩])
  .ret)))
/-- slices.Clone[[]tidemark/api.Seat,tidemark/api.Seat] -/
def af174 : AFunc := { n := 8, depth := 4, kl := [], res := [.tmp 2], body := B174 }

def B210 : AC := (.seq (.reg [⟨some 2, .mov (.k (.sl [] 0 .nil)), none⟩])
  (.seq (.seq (.reg [⟨some 3, .mov (.t 0), none⟩,
      ⟨some 4, .eq false .slnil (.t 3) (.k (.sl [] 0 .nil)), none⟩])
   (.cond (.t 4)
    (.seq (.reg [⟨some 2, .mov (.k (.sl [] 0 .nil)), none⟩])
    .ret)
    .skip))
  (.seq (.reg [⟨some 5, .bslice false 100 6 0 [(.i .i64 0), (.s []), (.b false), (.s []), (.b false), (.s [])] [], none⟩,
     ⟨some 6, .mov (.t 0), none⟩,
     ⟨some 7, .appo 100 6 (.t 5) (.t 6), none⟩,
     ⟨some 2, .mov (.t 7), none⟩])
  .ret)))
/-- slices.Clone[[]tidemark/api.Event,tidemark/api.Event] -/
def af210 : AFunc := { n := 8, depth := 4, kl := [], res := [.tmp 2], body := B210 }

def B211 : AC := (.seq (.reg [⟨some 1, .box 104 (.t 0), none⟩])
  (.seq (.reg [⟨some 3, .load false 1 (.t 1), none⟩,
     ⟨some 4, .call false 213 [(.t 3)], none⟩,
     ⟨some 2, .alloc 3 [(.i .i64 0)], none⟩,
     ⟨none, .store 1 (.t 2) (.t 4), none⟩])
  (.seq (.seq (.reg [⟨some 5, .load false 1 (.t 2), none⟩,
      ⟨some 6, .bin .lss (.t 5) (.k (.i .i64 0)), none⟩])
   (.cond (.t 6)
    (.seq (.reg [⟨some 7, .load false 1 (.t 1), none⟩,
       ⟨some 8, .nilck (.t 7), none⟩,
       ⟨some 9, .faddr 0 (.t 8), none⟩,
       ⟨none, .store 1 (.t 9) (.k (.sl [] 0 .nil)), none⟩])
    .ret)
    .skip))
  (.regd [(⟨some 10, .load false 1 (.t 1), none⟩, []),
    (⟨some 11, .load false 1 (.t 1), none⟩, [0]),
    (⟨some 12, .nilck (.t 11), none⟩, [0]),
    (⟨some 13, .faddr 0 (.t 12), none⟩, [0]),
    (⟨some 14, .load false 1 (.t 13), none⟩, [0]),
    (⟨some 15, .call false 210 [(.t 14)], none⟩, [0]),
    (⟨some 16, .mkfn 287 [] [(.t 1), (.t 2)], none⟩, [0, 1, 2, 3, 4, 5]),
    (⟨some 17, .call false 286 [(.t 15), (.t 16)], none⟩, [0]),
    (⟨some 18, .nilck (.t 10), none⟩, []),
    (⟨some 19, .faddr 0 (.t 18), none⟩, []),
    (⟨none, .store 1 (.t 19) (.t 17), none⟩, [])]))))
/-- (*tidemark/feed.Feed).trim -/
def af211 : AFunc := { n := 20, depth := 5, kl := [], res := [], body := B211 }

def B212 : AC := (.seq (.reg [⟨some 2, .mov (.k (.sl [] 0 .nil)), none⟩])
  (.seq (.seq (.reg [⟨some 3, .mov (.t 0), none⟩,
      ⟨some 4, .eq false .slnil (.t 3) (.k (.sl [] 0 .nil)), none⟩])
   (.cond (.t 4)
    (.seq (.reg [⟨some 2, .mov (.k (.sl [] 0 .nil)), none⟩])
    .ret)
    .skip))
  (.seq (.reg [⟨some 5, .bslice false 70 8 0 [(.i .i64 0), (.i .i64 0), (.i .i64 0), (.i .i64 0), (.s []), (.s []), (.sl [] 0 .nil), (.b false)] [], none⟩,
     ⟨some 6, .mov (.t 0), none⟩,
     ⟨some 7, .appo 70 8 (.t 5) (.t 6), none⟩,
     ⟨some 2, .mov (.t 7), none⟩])
  .ret)))
/-- slices.Clone[[]tidemark/api.Sub,tidemark/api.Sub] -/
def af212 : AFunc := { n := 8, depth := 4, kl := [], res := [.tmp 2], body := B212 }

def L213_1 : AC := (.seq (.reg [⟨some 12, .bin .lss (.t 11) (.t 10), none⟩])
  (.seq (.cond (.t 12)
    .skip
    (.exit 0))
  (.seq (.blk 1 (.seq (.reg [⟨some 13, .mov (.t 11), none⟩,
       ⟨some 14, .iaddr (.slice 8) (.t 9) (.t 11), none⟩,
       ⟨some 15, .load true 8 (.t 14), none⟩,
       ⟨some 5, .lalloc [(.i .i64 0), (.i .i64 0), (.i .i64 0), (.i .i64 0), (.s []), (.s []), (.sl [] 0 .nil), (.b false)] [5, 16, 23], none⟩,
       ⟨some 4, .mov (.t 13), none⟩,
       ⟨none, .store 8 (.t 5) (.t 15), none⟩])
    (.seq (.reg [⟨some 16, .faddr 7 (.t 5), none⟩,
       ⟨some 17, .load false 1 (.t 16), none⟩,
       ⟨some 18, .un .not (.t 17), none⟩,
       ⟨some 19, .mov (.t 18), none⟩,
       ⟨some 20, .mov (.t 3), some (19, true)⟩,
       ⟨some 21, .bin .lss (.t 20) (.k (.i .i64 0)), some (19, true)⟩,
       ⟨some 22, .mov (.t 21), some (19, true)⟩,
       ⟨some 23, .faddr 2 (.t 5), some (22, false)⟩,
       ⟨some 24, .load false 1 (.t 23), some (22, false)⟩,
       ⟨some 25, .mov (.t 0), some (22, false)⟩,
       ⟨some 26, .nilck (.t 25), some (22, false)⟩,
       ⟨some 27, .faddr 1 (.t 26), some (22, false)⟩,
       ⟨some 28, .load false 1 (.t 27), some (22, false)⟩,
       ⟨some 29, .mov (.t 3), some (22, false)⟩,
       ⟨some 30, .iaddr (.slice 8) (.t 28) (.t 29), some (22, false)⟩,
       ⟨some 31, .faddr 2 (.t 30), some (22, false)⟩,
       ⟨some 32, .load false 1 (.t 31), some (22, false)⟩,
       ⟨some 33, .bin .lss (.t 24) (.t 32), some (22, false)⟩,
       ⟨some 34, .pick (.t 22) (.k (.b true)) (.t 33), some (19, true)⟩,
       ⟨some 35, .pick (.t 19) (.t 34) (.k (.b false)), none⟩])
    (.cond (.t 35)
     (.reg [⟨some 36, .mov (.t 4), none⟩,
       ⟨some 3, .mov (.t 36), none⟩])
     .skip))))
  (.reg [⟨some 37, .bin .add (.t 11) (.k (.i .i64 1)), none⟩,
    ⟨some 11, .mov (.t 37), none⟩]))))
def B213 : AC := (.seq (.reg [⟨some 2, .mov (.k (.i .i64 0)), none⟩])
  (.seq (.reg [⟨some 3, .mov (.k (.i .i64 (-1))), none⟩])
  (.seq (.seq (.reg [⟨some 6, .mov (.t 0), none⟩,
      ⟨some 7, .nilck (.t 6), none⟩,
      ⟨some 8, .faddr 1 (.t 7), none⟩,
      ⟨some 9, .load false 1 (.t 8), none⟩,
      ⟨some 10, .len .slice (.t 9), none⟩,
      ⟨some 11, .mov (.k (.i .i64 0)), none⟩])
   (.blk 0 (.loop L213_1)))
  (.seq (.reg [⟨some 38, .mov (.t 3), none⟩,
     ⟨some 2, .mov (.t 38), none⟩])
  .ret))))
/-- (*tidemark/feed.Feed).last -/
def af213 : AFunc := { n := 39, depth := 6, kl := [(5, [5, 16, 23])], res := [.tmp 2], body := B213 }

def B214 : AC := (.seq (.reg [⟨some 2, .mov (.k (.i .i64 0)), none⟩,
     ⟨some 3, .mov (.k (.i .i64 0)), none⟩])
  (.seq (.blk 0 (.seq (.reg [⟨some 5, .mov (.t 0), none⟩,
       ⟨some 6, .call false 173 [(.t 5)], none⟩,
       ⟨some 4, .mov (.t 6), none⟩])
    (.cond (.t 4)
     (.seq (.reg [⟨some 2, .mov (.k (.i .i64 0)), none⟩,
        ⟨some 3, .mov (.k (.i .i64 6)), none⟩])
     .ret)
     (.seq (.reg [⟨some 8, .mov (.t 0), none⟩,
        ⟨some 9, .nilck (.t 8), none⟩,
        ⟨some 10, .faddr 0 (.t 9), none⟩,
        ⟨some 11, .load false 1 (.t 10), none⟩,
        ⟨some 12, .len .slice (.t 11), none⟩,
        ⟨some 13, .bin .geq (.t 12) (.k (.i .i64 8)), none⟩,
        ⟨some 7, .mov (.t 13), none⟩])
     (.cond (.t 7)
      (.seq (.reg [⟨some 2, .mov (.k (.i .i64 0)), none⟩,
         ⟨some 3, .mov (.k (.i .i64 7)), none⟩])
      .ret)
      (.seq (.reg [⟨some 15, .mov (.t 0), none⟩,
         ⟨some 16, .nilck (.t 15), none⟩,
         ⟨some 17, .faddr 1 (.t 16), none⟩,
         ⟨some 18, .load false 1 (.t 17), none⟩,
         ⟨some 19, .bin .geq (.t 18) (.k (.i .i64 1099511627776)), none⟩,
         ⟨some 14, .mov (.t 19), none⟩])
      (.cond (.t 14)
       (.seq (.reg [⟨some 2, .mov (.k (.i .i64 0)), none⟩,
          ⟨some 3, .mov (.k (.i .i64 5)), none⟩])
       .ret)
       .skip)))))))
  (.seq (.reg [⟨some 20, .mov (.t 0), none⟩,
     ⟨some 21, .nilck (.t 20), none⟩,
     ⟨some 22, .faddr 1 (.t 21), none⟩,
     ⟨some 23, .load false 1 (.t 22), none⟩,
     ⟨some 24, .bin .add (.t 23) (.k (.i .i64 1)), none⟩,
     ⟨some 25, .nilck (.t 20), none⟩,
     ⟨some 26, .faddr 1 (.t 25), none⟩,
     ⟨none, .store 1 (.t 26) (.t 24), none⟩])
  (.seq (.regd [(⟨some 27, .mov (.t 0), none⟩, []),
     (⟨some 28, .mov (.t 0), none⟩, [0]),
     (⟨some 29, .nilck (.t 28), none⟩, [0]),
     (⟨some 30, .faddr 0 (.t 29), none⟩, [0]),
     (⟨some 31, .load false 1 (.t 30), none⟩, [0]),
     (⟨some 32, .call false 174 [(.t 31)], none⟩, [0]),
     (⟨some 33, .mov (.t 0), none⟩, [0, 1, 2, 3, 4, 5]),
     (⟨some 34, .nilck (.t 33), none⟩, [0, 1, 2, 3, 4, 5]),
     (⟨some 35, .faddr 1 (.t 34), none⟩, [0, 1, 2, 3, 4, 5]),
     (⟨some 36, .load false 1 (.t 35), none⟩, [0, 1, 2, 3, 4, 5]),
     (⟨some 37, .build [(.i .i64 0), (.i .i64 0), (.i .i64 0), (.i .i64 0)] [(0, 1, (.t 36))], none⟩, [0, 1, 2, 3, 4, 5]),
     (⟨some 38, .bslice false 84 4 1 [(.i .i64 0), (.i .i64 0), (.i .i64 0), (.i .i64 0)] [(0, (.t 37))], none⟩, [0, 1, 2, 3, 4, 5]),
     (⟨some 39, .app 84 4 (.t 32) (.t 38), none⟩, [0]),
     (⟨some 40, .nilck (.t 27), none⟩, []),
     (⟨some 41, .faddr 0 (.t 40), none⟩, []),
     (⟨none, .store 1 (.t 41) (.t 39), none⟩, [])])
  (.seq (.reg [⟨some 42, .mov (.t 0), none⟩,
     ⟨some 43, .nilck (.t 42), none⟩,
     ⟨some 44, .faddr 1 (.t 43), none⟩,
     ⟨some 45, .load false 1 (.t 44), none⟩,
     ⟨some 2, .mov (.t 45), none⟩,
     ⟨some 3, .mov (.k (.i .i64 0)), none⟩])
  .ret)))))
/-- (*tidemark/sess.Table).Open -/
def af214 : AFunc := { n := 46, depth := 6, kl := [], res := [.tmp 2, .tmp 3], body := B214 }

def B215 : AC := (.seq (.reg [⟨some 3, .lbox (.t 1) [3, 8, 22, 28, 32, 36, 65], none⟩,
     ⟨some 4, .lalloc [(.i .i64 0), (.i .i64 0)] [4], none⟩,
     ⟨some 5, .mov (.k (.sl [] 0 .nil)), none⟩])
  (.seq (.seq (.reg [⟨some 8, .faddr 14 (.t 3), none⟩,
      ⟨some 9, .load false 1 (.t 8), none⟩,
      ⟨some 10, .mov (.t 0), none⟩,
      ⟨some 11, .nilck (.t 10), none⟩,
      ⟨some 12, .faddr 6 (.t 11), none⟩,
      ⟨some 13, .load false 1 (.t 12), none⟩,
      ⟨some 14, .bin .leq (.t 9) (.t 13), none⟩])
   (.cond (.t 14)
    (.seq (.reg [⟨some 15, .mov (.t 0), none⟩,
       ⟨some 16, .nilck (.t 15), none⟩,
       ⟨some 17, .faddr 6 (.t 16), none⟩,
       ⟨some 18, .load false 1 (.t 17), none⟩,
       ⟨some 19, .build [(.i .i64 0), (.i .i64 0)] [(1, 1, (.t 18))], none⟩,
       ⟨none, .store 2 (.t 4) (.t 19), none⟩,
       ⟨some 5, .mov (.k (.sl [] 0 .nil)), none⟩])
    .ret)
    .skip))
  (.seq (.reg [⟨some 6, .mov (.k (.sl [] 0 .nil)), none⟩])
  (.seq (.reg [⟨some 7, .mov (.k (.i .i64 0)), none⟩])
  (.seq (.blk 0 (.seq (.reg [⟨some 28, .faddr 0 (.t 3), none⟩,
       ⟨some 29, .load false 1 (.t 28), none⟩,
       ⟨some 30, .bin .eql (.t 29) (.k (.i .i64 11)), none⟩,
       ⟨some 27, .mov (.t 30), none⟩])
    (.cond (.t 27)
     (.reg [⟨some 31, .mov (.t 0), none⟩,
       ⟨some 32, .faddr 4 (.t 3), none⟩,
       ⟨some 33, .load false 1 (.t 32), none⟩,
       ⟨some 34, .call false 288 [(.t 31), (.t 33)], none⟩,
       ⟨some 6, .mov (.t 34), none⟩])
     (.seq (.reg [⟨some 36, .faddr 15 (.t 3), none⟩,
        ⟨some 37, .load false 1 (.t 36), none⟩,
        ⟨some 38, .mov (.t 0), none⟩,
        ⟨some 39, .nilck (.t 38), none⟩,
        ⟨some 40, .faddr 6 (.t 39), none⟩,
        ⟨some 41, .load false 1 (.t 40), none⟩,
        ⟨some 42, .bin .neq (.t 37) (.t 41), none⟩,
        ⟨some 35, .mov (.t 42), none⟩])
     (.cond (.t 35)
      (.seq (.reg [⟨some 43, .mov (.t 0), none⟩,
         ⟨some 44, .nilck (.t 43), none⟩,
         ⟨some 45, .faddr 6 (.t 44), none⟩,
         ⟨some 46, .load false 1 (.t 45), none⟩,
         ⟨some 47, .build [(.i .i64 0), (.i .i64 0)] [(0, 1, (.k (.i .i64 101))), (1, 1, (.t 46))], none⟩,
         ⟨none, .store 2 (.t 4) (.t 47), none⟩,
         ⟨some 5, .mov (.k (.sl [] 0 .nil)), none⟩])
      .ret)
      (.reg [⟨some 21, .mov (.t 0), none⟩,
        ⟨some 22, .faddr 4 (.t 3), none⟩,
        ⟨some 23, .load false 1 (.t 22), none⟩,
        ⟨some 24, .call false 289 [(.t 21), (.t 23)], none⟩,
        ⟨some 20, .mov (.t 24), none⟩,
        ⟨some 25, .ext (.t 20) 0, none⟩,
        ⟨some 26, .ext (.t 20) 1, none⟩,
        ⟨some 6, .mov (.t 25), none⟩,
        ⟨some 7, .mov (.t 26), none⟩]))))))
  (.seq (.seq (.reg [⟨some 48, .mov (.t 7), none⟩,
      ⟨some 49, .bin .eql (.t 48) (.k (.i .i64 0)), none⟩])
   (.cond (.t 49)
    (.reg [⟨some 51, .mov (.t 0), none⟩,
      ⟨some 52, .mov (.t 6), none⟩,
      ⟨some 53, .call false 290 [(.t 51), (.t 52)], none⟩,
      ⟨some 50, .mov (.t 53), none⟩,
      ⟨some 54, .ext (.t 50) 0, none⟩,
      ⟨some 55, .ext (.t 50) 1, none⟩,
      ⟨some 6, .mov (.t 54), none⟩,
      ⟨some 7, .mov (.t 55), none⟩])
    .skip))
  (.seq (.seq (.reg [⟨some 56, .mov (.t 7), none⟩,
      ⟨some 57, .bin .neq (.t 56) (.k (.i .i64 0)), none⟩])
   (.cond (.t 57)
    (.seq (.reg [⟨some 58, .mov (.t 7), none⟩,
       ⟨some 59, .mov (.t 0), none⟩,
       ⟨some 60, .nilck (.t 59), none⟩,
       ⟨some 61, .faddr 6 (.t 60), none⟩,
       ⟨some 62, .load false 1 (.t 61), none⟩,
       ⟨some 63, .build [(.i .i64 0), (.i .i64 0)] [(0, 1, (.t 58)), (1, 1, (.t 62))], none⟩,
       ⟨none, .store 2 (.t 4) (.t 63), none⟩,
       ⟨some 5, .mov (.k (.sl [] 0 .nil)), none⟩])
    .ret)
    .skip))
  (.seq (.reg [⟨some 64, .mov (.t 0), none⟩,
     ⟨some 65, .faddr 14 (.t 3), none⟩,
     ⟨some 66, .load false 1 (.t 65), none⟩,
     ⟨some 67, .nilck (.t 64), none⟩,
     ⟨some 68, .faddr 6 (.t 67), none⟩,
     ⟨none, .store 1 (.t 68) (.t 66), none⟩])
  (.seq (.reg [⟨some 69, .mov (.t 0), none⟩,
     ⟨some 70, .nilck (.t 69), none⟩,
     ⟨some 71, .faddr 6 (.t 70), none⟩,
     ⟨some 72, .load false 1 (.t 71), none⟩,
     ⟨some 73, .build [(.i .i64 0), (.i .i64 0)] [(1, 1, (.t 72))], none⟩,
     ⟨some 74, .mov (.t 6), none⟩,
     ⟨none, .store 2 (.t 4) (.t 73), none⟩,
     ⟨some 5, .mov (.t 74), none⟩])
  .ret)))))))))
/-- (*tidemark/machine.Machine).mirror -/
def af215 : AFunc := { n := 75, depth := 7, kl := [(3, [3, 8, 22, 28, 32, 36, 65]), (4, [4])], res := [.cell 4 true 2, .tmp 5], body := B215 }

def B216 : AC := (.seq (.reg [⟨some 6, .lalloc [(.i .i64 0), (.i .i64 0)] [6], none⟩,
     ⟨some 7, .mov (.k (.b false)), none⟩,
     ⟨some 8, .mov (.k (.i .i64 0)), none⟩])
  (.seq (.reg [⟨some 12, .mov (.t 0), none⟩,
     ⟨some 13, .mov (.t 1), none⟩,
     ⟨some 14, .call false 291 [(.t 12), (.t 13)], none⟩,
     ⟨some 11, .mov (.t 14), none⟩,
     ⟨some 15, .ext (.t 11) 0, none⟩,
     ⟨some 16, .ext (.t 11) 1, none⟩,
     ⟨some 9, .mov (.t 15), none⟩,
     ⟨some 8, .mov (.t 16), none⟩])
  (.seq (.seq (.reg [⟨some 17, .mov (.t 8), none⟩,
      ⟨some 18, .bin .neq (.t 17) (.k (.i .i64 0)), none⟩])
   (.cond (.t 18)
    (.seq (.reg [⟨some 19, .load true 2 (.t 6), none⟩,
       ⟨some 20, .mov (.t 8), none⟩,
       ⟨none, .store 2 (.t 6) (.t 19), none⟩,
       ⟨some 7, .mov (.k (.b false)), none⟩,
       ⟨some 8, .mov (.t 20), none⟩])
    .ret)
    .skip))
  (.seq (.seq (.reg [⟨some 21, .mov (.t 0), none⟩,
      ⟨some 22, .nilck (.t 21), none⟩,
      ⟨some 23, .faddr 0 (.t 22), none⟩,
      ⟨some 24, .load false 1 (.t 23), none⟩,
      ⟨some 25, .mov (.t 9), none⟩,
      ⟨some 26, .iaddr (.slice 4) (.t 24) (.t 25), none⟩,
      ⟨some 27, .load true 4 (.t 26), none⟩,
      ⟨some 10, .lalloc [(.i .i64 0), (.i .i64 0), (.i .i64 0), (.i .i64 0)] [10, 30, 40, 43, 47], none⟩,
      ⟨none, .store 4 (.t 10) (.t 27), none⟩])
   (.blk 0 (.seq (.reg [⟨some 29, .mov (.t 2), none⟩,
       ⟨some 30, .faddr 1 (.t 10), none⟩,
       ⟨some 31, .load false 1 (.t 30), none⟩,
       ⟨some 32, .bin .lss (.t 29) (.t 31), none⟩,
       ⟨some 33, .mov (.t 32), none⟩,
       ⟨some 34, .mov (.t 2), some (33, false)⟩,
       ⟨some 35, .bin .lss (.t 34) (.k (.i .i64 1)), some (33, false)⟩,
       ⟨some 36, .pick (.t 33) (.k (.b true)) (.t 35), none⟩,
       ⟨some 28, .mov (.t 36), none⟩])
    (.cond (.t 28)
     (.seq (.reg [⟨some 37, .load true 2 (.t 6), none⟩,
        ⟨none, .store 2 (.t 6) (.t 37), none⟩,
        ⟨some 7, .mov (.k (.b false)), none⟩,
        ⟨some 8, .mov (.k (.i .i64 91)), none⟩])
     .ret)
     (.seq (.reg [⟨some 39, .mov (.t 2), none⟩,
        ⟨some 40, .faddr 1 (.t 10), none⟩,
        ⟨some 41, .load false 1 (.t 40), none⟩,
        ⟨some 42, .bin .eql (.t 39) (.t 41), none⟩,
        ⟨some 38, .mov (.t 42), none⟩])
     (.cond (.t 38)
      (.seq (.reg [⟨some 43, .faddr 2 (.t 10), none⟩,
         ⟨some 44, .load true 2 (.t 43), none⟩,
         ⟨none, .store 2 (.t 6) (.t 44), none⟩,
         ⟨some 7, .mov (.k (.b false)), none⟩,
         ⟨some 8, .mov (.k (.i .i64 0)), none⟩])
      .ret)
      (.seq (.reg [⟨some 46, .mov (.t 2), none⟩,
         ⟨some 47, .faddr 1 (.t 10), none⟩,
         ⟨some 48, .load false 1 (.t 47), none⟩,
         ⟨some 49, .bin .add (.t 48) (.k (.i .i64 1)), none⟩,
         ⟨some 50, .bin .neq (.t 46) (.t 49), none⟩,
         ⟨some 45, .mov (.t 50), none⟩])
      (.cond (.t 45)
       (.seq (.reg [⟨some 51, .load true 2 (.t 6), none⟩,
          ⟨none, .store 2 (.t 6) (.t 51), none⟩,
          ⟨some 7, .mov (.k (.b false)), none⟩,
          ⟨some 8, .mov (.k (.i .i64 92)), none⟩])
       .ret)
       .skip))))))))
  (.seq (.reg [⟨some 52, .load true 2 (.t 6), none⟩,
     ⟨none, .store 2 (.t 6) (.t 52), none⟩,
     ⟨some 7, .mov (.k (.b true)), none⟩,
     ⟨some 8, .mov (.k (.i .i64 0)), none⟩])
  .ret)))))
/-- (*tidemark/sess.Table).Ask -/
def af216 : AFunc := { n := 53, depth := 6, kl := [(6, [6]), (10, [10, 30, 40, 43, 47])], res := [.cell 6 true 2, .tmp 7, .tmp 8], body := B216 }

def B218 : AC := (.seq (.reg [⟨some 3, .lbox (.t 1) [3, 9, 23, 25, 48, 65, 66, 77, 79, 90, 102, 103, 117, 118, 120, 138, 139], none⟩,
     ⟨some 4, .lalloc [(.i .i64 0), (.i .i64 0)] [4], none⟩,
     ⟨some 5, .mov (.k (.sl [] 0 .nil)), none⟩])
  (.seq (.reg [⟨some 6, .lalloc [(.i .i64 0), (.i .i64 0)] [6, 30, 31, 40, 57, 69, 82, 93, 108, 109, 123, 129, 144, 145], none⟩])
  (.seq (.reg [⟨some 7, .mov (.k (.sl [] 0 .nil)), none⟩])
  (.seq (.seq (.reg [⟨some 9, .faddr 0 (.t 3), none⟩,
      ⟨some 10, .load false 1 (.t 9), none⟩])
   (.blk 0 (.seq (.reg [⟨some 12, .bin .eql (.t 10) (.k (.i .i64 2)), none⟩,
       ⟨some 11, .mov (.t 12), none⟩])
    (.cond (.t 11)
     (.seq (.reg [⟨some 14, .mov (.t 0), none⟩,
        ⟨some 15, .nilck (.t 14), none⟩,
        ⟨some 16, .faddr 0 (.t 15), none⟩,
        ⟨some 17, .faddr 0 (.t 16), none⟩,
        ⟨some 18, .load false 1 (.t 17), none⟩,
        ⟨some 19, .mov (.t 0), none⟩,
        ⟨some 20, .nilck (.t 19), none⟩,
        ⟨some 21, .faddr 5 (.t 20), none⟩,
        ⟨some 22, .load false 1 (.t 21), none⟩,
        ⟨some 23, .faddr 3 (.t 3), none⟩,
        ⟨some 24, .load false 1 (.t 23), none⟩,
        ⟨some 25, .faddr 4 (.t 3), none⟩,
        ⟨some 26, .load false 1 (.t 25), none⟩,
        ⟨some 27, .call false 293 [(.t 18), (.t 22), (.t 24), (.t 26)], none⟩,
        ⟨some 13, .mov (.t 27), none⟩,
        ⟨some 28, .ext (.t 13) 0, none⟩,
        ⟨some 29, .ext (.t 13) 1, none⟩,
        ⟨some 7, .mov (.t 28), none⟩,
        ⟨some 30, .faddr 0 (.t 6), none⟩,
        ⟨none, .store 1 (.t 30) (.t 29), none⟩])
     (.seq (.reg [⟨some 31, .faddr 0 (.t 6), none⟩,
        ⟨some 32, .load false 1 (.t 31), none⟩,
        ⟨some 33, .bin .eql (.t 32) (.k (.i .i64 0)), none⟩])
     (.cond (.t 33)
      (.reg [⟨some 35, .mov (.t 0), none⟩,
        ⟨some 36, .mov (.t 7), none⟩,
        ⟨some 37, .call false 290 [(.t 35), (.t 36)], none⟩,
        ⟨some 34, .mov (.t 37), none⟩,
        ⟨some 38, .ext (.t 34) 0, none⟩,
        ⟨some 39, .ext (.t 34) 1, none⟩,
        ⟨some 7, .mov (.t 38), none⟩,
        ⟨some 40, .faddr 0 (.t 6), none⟩,
        ⟨none, .store 1 (.t 40) (.t 39), none⟩])
      .skip)))
     (.seq (.reg [⟨some 42, .bin .eql (.t 10) (.k (.i .i64 4)), none⟩,
        ⟨some 41, .mov (.t 42), none⟩])
     (.cond (.t 41)
      (.regd [(⟨some 43, .mov (.t 0), none⟩, []),
        (⟨some 44, .nilck (.t 43), none⟩, []),
        (⟨some 45, .faddr 0 (.t 44), none⟩, []),
        (⟨some 46, .faddr 1 (.t 45), none⟩, []),
        (⟨some 47, .load false 1 (.t 46), none⟩, []),
        (⟨some 48, .faddr 5 (.t 3), none⟩, [0, 1, 2, 3, 4]),
        (⟨some 49, .load true 4 (.t 48), none⟩, [0, 1, 2, 3, 4]),
        (⟨some 50, .mov (.t 0), none⟩, [0, 1, 2, 3, 4, 5, 6]),
        (⟨some 51, .nilck (.t 50), none⟩, [0, 1, 2, 3, 4, 5, 6]),
        (⟨some 52, .faddr 0 (.t 51), none⟩, [0, 1, 2, 3, 4, 5, 6]),
        (⟨some 53, .faddr 0 (.t 52), none⟩, [0, 1, 2, 3, 4, 5, 6]),
        (⟨some 54, .load false 1 (.t 53), none⟩, [0, 1, 2, 3, 4, 5, 6]),
        (⟨some 55, .call false 89 [(.t 54), (.k (.s [])), (.k (.s []))], none⟩, [0, 1, 2, 3, 4, 5, 6]),
        (⟨some 56, .call false 228 [(.t 47), (.t 49), (.t 55)], none⟩, []),
        (⟨some 57, .faddr 0 (.t 6), none⟩, []),
        (⟨none, .store 1 (.t 57) (.t 56), none⟩, [])])
      (.seq (.reg [⟨some 59, .bin .eql (.t 10) (.k (.i .i64 5)), none⟩,
         ⟨some 58, .mov (.t 59), none⟩])
      (.cond (.t 58)
       (.reg [⟨some 60, .mov (.t 0), none⟩,
         ⟨some 61, .nilck (.t 60), none⟩,
         ⟨some 62, .faddr 0 (.t 61), none⟩,
         ⟨some 63, .faddr 1 (.t 62), none⟩,
         ⟨some 64, .load false 1 (.t 63), none⟩,
         ⟨some 65, .faddr 5 (.t 3), none⟩,
         ⟨some 66, .faddr 0 (.t 65), none⟩,
         ⟨some 67, .load false 1 (.t 66), none⟩,
         ⟨some 68, .call false 294 [(.t 64), (.t 67)], none⟩,
         ⟨some 69, .faddr 0 (.t 6), none⟩,
         ⟨none, .store 1 (.t 69) (.t 68), none⟩])
       (.seq (.reg [⟨some 71, .bin .eql (.t 10) (.k (.i .i64 7)), none⟩,
          ⟨some 70, .mov (.t 71), none⟩])
       (.cond (.t 70)
        (.reg [⟨some 72, .mov (.t 0), none⟩,
          ⟨some 73, .nilck (.t 72), none⟩,
          ⟨some 74, .faddr 0 (.t 73), none⟩,
          ⟨some 75, .faddr 2 (.t 74), none⟩,
          ⟨some 76, .load false 1 (.t 75), none⟩,
          ⟨some 77, .faddr 13 (.t 3), none⟩,
          ⟨some 78, .load false 1 (.t 77), none⟩,
          ⟨some 79, .faddr 14 (.t 3), none⟩,
          ⟨some 80, .load false 1 (.t 79), none⟩,
          ⟨some 81, .call false 295 [(.t 76), (.t 78), (.t 80)], none⟩,
          ⟨some 82, .faddr 0 (.t 6), none⟩,
          ⟨none, .store 1 (.t 82) (.t 81), none⟩])
        (.seq (.reg [⟨some 84, .bin .eql (.t 10) (.k (.i .i64 8)), none⟩,
           ⟨some 83, .mov (.t 84), none⟩])
        (.cond (.t 83)
         (.reg [⟨some 85, .mov (.t 0), none⟩,
           ⟨some 86, .nilck (.t 85), none⟩,
           ⟨some 87, .faddr 0 (.t 86), none⟩,
           ⟨some 88, .faddr 2 (.t 87), none⟩,
           ⟨some 89, .load false 1 (.t 88), none⟩,
           ⟨some 90, .faddr 13 (.t 3), none⟩,
           ⟨some 91, .load false 1 (.t 90), none⟩,
           ⟨some 92, .call false 222 [(.t 89), (.t 91)], none⟩,
           ⟨some 93, .faddr 0 (.t 6), none⟩,
           ⟨none, .store 1 (.t 93) (.t 92), none⟩])
         (.seq (.reg [⟨some 95, .bin .eql (.t 10) (.k (.i .i64 13)), none⟩,
            ⟨some 94, .mov (.t 95), none⟩])
         (.cond (.t 94)
          (.reg [⟨some 97, .mov (.t 0), none⟩,
            ⟨some 98, .nilck (.t 97), none⟩,
            ⟨some 99, .faddr 0 (.t 98), none⟩,
            ⟨some 100, .faddr 4 (.t 99), none⟩,
            ⟨some 101, .load false 1 (.t 100), none⟩,
            ⟨some 102, .faddr 5 (.t 3), none⟩,
            ⟨some 103, .faddr 0 (.t 102), none⟩,
            ⟨some 104, .load false 1 (.t 103), none⟩,
            ⟨some 105, .call false 296 [(.t 101), (.t 104)], none⟩,
            ⟨some 96, .mov (.t 105), none⟩,
            ⟨some 106, .ext (.t 96) 0, none⟩,
            ⟨some 107, .ext (.t 96) 1, none⟩,
            ⟨some 108, .faddr 1 (.t 6), none⟩,
            ⟨none, .store 1 (.t 108) (.t 106), none⟩,
            ⟨some 109, .faddr 0 (.t 6), none⟩,
            ⟨none, .store 1 (.t 109) (.t 107), none⟩])
          (.seq (.reg [⟨some 111, .bin .eql (.t 10) (.k (.i .i64 14)), none⟩,
             ⟨some 110, .mov (.t 111), none⟩])
          (.cond (.t 110)
           (.reg [⟨some 112, .mov (.t 0), none⟩,
             ⟨some 113, .nilck (.t 112), none⟩,
             ⟨some 114, .faddr 0 (.t 113), none⟩,
             ⟨some 115, .faddr 4 (.t 114), none⟩,
             ⟨some 116, .load false 1 (.t 115), none⟩,
             ⟨some 117, .faddr 5 (.t 3), none⟩,
             ⟨some 118, .faddr 0 (.t 117), none⟩,
             ⟨some 119, .load false 1 (.t 118), none⟩,
             ⟨some 120, .faddr 13 (.t 3), none⟩,
             ⟨some 121, .load false 1 (.t 120), none⟩,
             ⟨some 122, .call false 297 [(.t 116), (.t 119), (.t 121)], none⟩,
             ⟨some 123, .faddr 0 (.t 6), none⟩,
             ⟨none, .store 1 (.t 123) (.t 122), none⟩])
           (.seq (.reg [⟨some 125, .bin .eql (.t 10) (.k (.i .i64 15)), none⟩,
              ⟨some 124, .mov (.t 125), none⟩])
           (.cond (.t 124)
            (.reg [⟨some 126, .mov (.t 0), none⟩,
              ⟨some 127, .load true 19 (.t 3), none⟩,
              ⟨some 128, .call false 298 [(.t 126), (.t 127)], none⟩,
              ⟨some 129, .faddr 0 (.t 6), none⟩,
              ⟨none, .store 1 (.t 129) (.t 128), none⟩])
            (.seq (.reg [⟨some 131, .bin .eql (.t 10) (.k (.i .i64 16)), none⟩,
               ⟨some 130, .mov (.t 131), none⟩])
            (.cond (.t 130)
             (.seq (.reg [⟨some 8, .mov (.k (.i .i64 0)), none⟩])
             (.seq (.reg [⟨some 133, .mov (.t 0), none⟩,
                ⟨some 134, .nilck (.t 133), none⟩,
                ⟨some 135, .faddr 0 (.t 134), none⟩,
                ⟨some 136, .faddr 4 (.t 135), none⟩,
                ⟨some 137, .load false 1 (.t 136), none⟩,
                ⟨some 138, .faddr 5 (.t 3), none⟩,
                ⟨some 139, .faddr 0 (.t 138), none⟩,
                ⟨some 140, .load false 1 (.t 139), none⟩,
                ⟨some 141, .call false 299 [(.t 137), (.t 140)], none⟩,
                ⟨some 132, .mov (.t 141), none⟩,
                ⟨some 142, .ext (.t 132) 0, none⟩,
                ⟨some 143, .ext (.t 132) 1, none⟩,
                ⟨some 8, .mov (.t 142), none⟩,
                ⟨some 144, .faddr 0 (.t 6), none⟩,
                ⟨none, .store 1 (.t 144) (.t 143), none⟩])
             (.seq (.reg [⟨some 145, .faddr 0 (.t 6), none⟩,
                ⟨some 146, .load false 1 (.t 145), none⟩,
                ⟨some 147, .bin .eql (.t 146) (.k (.i .i64 0)), none⟩])
             (.cond (.t 147)
              (.reg [⟨some 148, .mov (.t 0), none⟩,
                ⟨some 149, .nilck (.t 148), none⟩,
                ⟨some 150, .faddr 0 (.t 149), none⟩,
                ⟨some 151, .faddr 2 (.t 150), none⟩,
                ⟨some 152, .load false 1 (.t 151), none⟩,
                ⟨some 153, .mov (.t 8), none⟩,
                ⟨some 154, .call false 222 [(.t 152), (.t 153)], none⟩])
              .skip))))
             .skip))))))))))))))))))))
  (.seq (.reg [⟨some 155, .load true 2 (.t 6), none⟩,
     ⟨some 156, .mov (.t 7), none⟩,
     ⟨none, .store 2 (.t 4) (.t 155), none⟩,
     ⟨some 5, .mov (.t 156), none⟩])
  .ret)))))
/-- (*tidemark/machine.Machine).does -/
def af218 : AFunc := { n := 157, depth := 8, kl := [(3, [3, 9, 23, 25, 48, 65, 66, 77, 79, 90, 102, 103, 117, 118, 120, 138, 139]), (4, [4]), (6, [6, 30, 31, 40, 57, 69, 82, 93, 108, 109, 123, 129, 144, 145])], res := [.cell 4 true 2, .tmp 5], body := B218 }

def B219 : AC := (.seq (.reg [⟨some 7, .lbox (.t 3) [7], none⟩,
     ⟨some 8, .mov (.k (.i .i64 0)), none⟩])
  (.seq (.reg [⟨some 15, .mov (.t 0), none⟩,
     ⟨some 16, .mov (.t 1), none⟩,
     ⟨some 17, .mov (.t 2), none⟩,
     ⟨some 18, .call false 216 [(.t 15), (.t 16), (.t 17)], none⟩,
     ⟨some 14, .mov (.t 18), none⟩,
     ⟨some 19, .ext (.t 14) 0, none⟩,
     ⟨some 20, .ext (.t 14) 1, none⟩,
     ⟨some 21, .ext (.t 14) 2, none⟩,
     ⟨some 9, .lalloc [(.i .i64 0), (.i .i64 0)] [9], none⟩,
     ⟨none, .store 2 (.t 9) (.t 19), none⟩,
     ⟨some 10, .mov (.t 20), none⟩,
     ⟨some 11, .mov (.t 21), none⟩])
  (.seq (.blk 0 (.seq (.reg [⟨some 23, .mov (.t 11), none⟩,
       ⟨some 24, .bin .neq (.t 23) (.k (.i .i64 0)), none⟩,
       ⟨some 22, .mov (.t 24), none⟩])
    (.cond (.t 22)
     (.seq (.reg [⟨some 25, .mov (.t 11), none⟩,
        ⟨some 8, .mov (.t 25), none⟩])
     .ret)
     (.seq (.reg [⟨some 27, .mov (.t 10), none⟩,
        ⟨some 28, .un .not (.t 27), none⟩,
        ⟨some 26, .mov (.t 28), none⟩])
     (.cond (.t 26)
      (.seq (.reg [⟨some 8, .mov (.k (.i .i64 91)), none⟩])
      .ret)
      .skip)))))
  (.seq (.reg [⟨some 30, .mov (.t 0), none⟩,
     ⟨some 31, .mov (.t 1), none⟩,
     ⟨some 32, .call false 291 [(.t 30), (.t 31)], none⟩,
     ⟨some 29, .mov (.t 32), none⟩,
     ⟨some 33, .ext (.t 29) 0, none⟩,
     ⟨some 34, .ext (.t 29) 1, none⟩,
     ⟨some 12, .mov (.t 33), none⟩,
     ⟨some 13, .mov (.t 34), none⟩])
  (.seq (.reg [⟨some 35, .mov (.t 0), none⟩,
     ⟨some 36, .mov (.t 0), none⟩,
     ⟨some 37, .nilck (.t 36), none⟩,
     ⟨some 38, .faddr 0 (.t 37), none⟩,
     ⟨some 39, .load false 1 (.t 38), none⟩,
     ⟨some 40, .call false 174 [(.t 39)], none⟩,
     ⟨some 41, .nilck (.t 35), none⟩,
     ⟨some 42, .faddr 0 (.t 41), none⟩,
     ⟨none, .store 1 (.t 42) (.t 40), none⟩])
  (.seq (.reg [⟨some 43, .mov (.t 0), none⟩,
     ⟨some 44, .nilck (.t 43), none⟩,
     ⟨some 45, .faddr 0 (.t 44), none⟩,
     ⟨some 46, .load false 1 (.t 45), none⟩,
     ⟨some 47, .mov (.t 12), none⟩,
     ⟨some 48, .mov (.t 1), none⟩,
     ⟨some 49, .mov (.t 2), none⟩,
     ⟨some 50, .load true 2 (.t 7), none⟩,
     ⟨some 51, .build [(.i .i64 0), (.i .i64 0), (.i .i64 0), (.i .i64 0)] [(0, 1, (.t 48)), (1, 1, (.t 49)), (2, 2, (.t 50))], none⟩,
     ⟨some 52, .iaddr (.slice 4) (.t 46) (.t 47), none⟩,
     ⟨none, .store 4 (.t 52) (.t 51), none⟩])
  (.seq (.reg [⟨some 8, .mov (.k (.i .i64 0)), none⟩])
  .ret)))))))
/-- (*tidemark/sess.Table).Keep -/
def af219 : AFunc := { n := 53, depth := 6, kl := [(7, [7]), (9, [9])], res := [.tmp 8], body := B219 }

def B220 : AC := (.seq (.reg [⟨some 3, .lbox (.t 1) [3], none⟩,
     ⟨some 4, .mov (.k (.i .i64 0)), none⟩,
     ⟨some 5, .mov (.k (.i .i64 0)), none⟩])
  (.seq (.seq (.reg [⟨some 7, .mov (.t 0), none⟩,
      ⟨some 8, .call false 169 [(.t 7)], none⟩])
   (.cond (.t 8)
    (.seq (.reg [⟨some 4, .mov (.k (.i .i64 0)), none⟩,
       ⟨some 5, .mov (.k (.i .i64 6)), none⟩])
    .ret)
    .skip))
  (.seq (.seq (.reg [⟨some 9, .load true 4 (.t 3), none⟩,
      ⟨some 10, .call true 139 [(.t 9)], none⟩,
      ⟨some 6, .mov (.t 10), none⟩])
   (.seq (.reg [⟨some 11, .mov (.t 6), none⟩,
      ⟨some 12, .bin .neq (.t 11) (.k (.i .i64 0)), none⟩])
   (.cond (.t 12)
    (.seq (.reg [⟨some 13, .mov (.t 6), none⟩,
       ⟨some 4, .mov (.k (.i .i64 0)), none⟩,
       ⟨some 5, .mov (.t 13), none⟩])
    .ret)
    .skip)))
  (.seq (.blk 0 (.seq (.reg [⟨some 15, .mov (.t 0), none⟩,
       ⟨some 16, .nilck (.t 15), none⟩,
       ⟨some 17, .faddr 1 (.t 16), none⟩,
       ⟨some 18, .load false 1 (.t 17), none⟩,
       ⟨some 19, .len .slice (.t 18), none⟩,
       ⟨some 20, .bin .geq (.t 19) (.k (.i .i64 4)), none⟩,
       ⟨some 14, .mov (.t 20), none⟩])
    (.cond (.t 14)
     (.seq (.reg [⟨some 4, .mov (.k (.i .i64 0)), none⟩,
        ⟨some 5, .mov (.k (.i .i64 7)), none⟩])
     .ret)
     (.seq (.reg [⟨some 22, .mov (.t 0), none⟩,
        ⟨some 23, .nilck (.t 22), none⟩,
        ⟨some 24, .faddr 2 (.t 23), none⟩,
        ⟨some 25, .load false 1 (.t 24), none⟩,
        ⟨some 26, .bin .geq (.t 25) (.k (.i .i64 1099511627776)), none⟩,
        ⟨some 21, .mov (.t 26), none⟩])
     (.cond (.t 21)
      (.seq (.reg [⟨some 4, .mov (.k (.i .i64 0)), none⟩,
         ⟨some 5, .mov (.k (.i .i64 5)), none⟩])
      .ret)
      .skip)))))
  (.seq (.regd [(⟨some 27, .mov (.t 0), none⟩, []),
     (⟨some 28, .mov (.t 0), none⟩, [0]),
     (⟨some 29, .nilck (.t 28), none⟩, [0]),
     (⟨some 30, .faddr 1 (.t 29), none⟩, [0]),
     (⟨some 31, .load false 1 (.t 30), none⟩, [0]),
     (⟨some 32, .call false 212 [(.t 31)], none⟩, [0]),
     (⟨some 33, .mov (.t 0), none⟩, [0, 1, 2, 3, 4, 5]),
     (⟨some 34, .nilck (.t 33), none⟩, [0, 1, 2, 3, 4, 5]),
     (⟨some 35, .faddr 2 (.t 34), none⟩, [0, 1, 2, 3, 4, 5]),
     (⟨some 36, .load false 1 (.t 35), none⟩, [0, 1, 2, 3, 4, 5]),
     (⟨some 37, .mov (.t 0), none⟩, [0, 1, 2, 3, 4, 5, 6, 7, 8, 9]),
     (⟨some 38, .nilck (.t 37), none⟩, [0, 1, 2, 3, 4, 5, 6, 7, 8, 9]),
     (⟨some 39, .faddr 3 (.t 38), none⟩, [0, 1, 2, 3, 4, 5, 6, 7, 8, 9]),
     (⟨some 40, .load false 1 (.t 39), none⟩, [0, 1, 2, 3, 4, 5, 6, 7, 8, 9]),
     (⟨some 41, .mov (.t 0), none⟩, [0, 1, 2, 3, 4, 5, 6, 7, 8, 9, 10, 11, 12, 13]),
     (⟨some 42, .nilck (.t 41), none⟩, [0, 1, 2, 3, 4, 5, 6, 7, 8, 9, 10, 11, 12, 13]),
     (⟨some 43, .faddr 3 (.t 42), none⟩, [0, 1, 2, 3, 4, 5, 6, 7, 8, 9, 10, 11, 12, 13]),
     (⟨some 44, .load false 1 (.t 43), none⟩, [0, 1, 2, 3, 4, 5, 6, 7, 8, 9, 10, 11, 12, 13]),
     (⟨some 45, .load true 4 (.t 3), none⟩, [0, 1, 2, 3, 4, 5, 6, 7, 8, 9, 10, 11, 12, 13, 14, 15, 16, 17]),
     (⟨some 46, .call true 170 [(.t 45)], none⟩, [0, 6, 7, 8, 9, 10, 11, 12, 13, 14, 15, 16, 17]),
     (⟨some 47, .build [(.i .i64 0), (.i .i64 0), (.i .i64 0), (.i .i64 0), (.s []), (.s []), (.sl [] 0 .nil), (.b false)] [(0, 1, (.t 36)), (1, 1, (.t 40)), (2, 1, (.t 44)), (3, 4, (.t 46))], none⟩, [0]),
     (⟨some 48, .bslice false 70 8 1 [(.i .i64 0), (.i .i64 0), (.i .i64 0), (.i .i64 0), (.s []), (.s []), (.sl [] 0 .nil), (.b false)] [(0, (.t 47))], none⟩, [0]),
     (⟨some 49, .app 70 8 (.t 32) (.t 48), none⟩, [0]),
     (⟨some 50, .nilck (.t 27), none⟩, []),
     (⟨some 51, .faddr 1 (.t 50), none⟩, []),
     (⟨none, .store 1 (.t 51) (.t 49), none⟩, [])])
  (.seq (.reg [⟨some 52, .mov (.t 0), none⟩,
     ⟨some 53, .nilck (.t 52), none⟩,
     ⟨some 54, .faddr 2 (.t 53), none⟩,
     ⟨some 55, .load false 1 (.t 54), none⟩,
     ⟨some 56, .bin .add (.t 55) (.k (.i .i64 1)), none⟩,
     ⟨some 57, .nilck (.t 52), none⟩,
     ⟨some 58, .faddr 2 (.t 57), none⟩,
     ⟨none, .store 1 (.t 58) (.t 56), none⟩])
  (.seq (.reg [⟨some 59, .mov (.t 0), none⟩,
     ⟨some 60, .nilck (.t 59), none⟩,
     ⟨some 61, .faddr 2 (.t 60), none⟩,
     ⟨some 62, .load false 1 (.t 61), none⟩,
     ⟨some 63, .bin .sub (.t 62) (.k (.i .i64 1)), none⟩,
     ⟨some 4, .mov (.t 63), none⟩,
     ⟨some 5, .mov (.k (.i .i64 0)), none⟩])
  .ret)))))))
/-- (*tidemark/feed.Feed).Add -/
def af220 : AFunc := { n := 64, depth := 7, kl := [(3, [3])], res := [.tmp 4, .tmp 5], body := B220 }

def L226_1 : AC := (.seq (.reg [⟨some 10, .bin .lss (.t 9) (.t 8), none⟩])
  (.seq (.cond (.t 10)
    .skip
    (.exit 0))
  (.seq (.blk 1 (.seq (.reg [⟨some 11, .iaddr (.slice 3) (.t 7) (.t 9), none⟩,
       ⟨some 12, .load true 3 (.t 11), none⟩,
       ⟨some 5, .lalloc [(.s []), (.b false), (.s [])] [5, 14, 19, 22, 28, 32, 39, 43], none⟩,
       ⟨none, .store 3 (.t 5) (.t 12), none⟩])
    (.seq (.blk 2 (.seq (.reg [⟨some 14, .faddr 0 (.t 5), none⟩,
         ⟨some 15, .load false 1 (.t 14), none⟩,
         ⟨some 16, .call true 308 [(.t 15)], none⟩,
         ⟨some 17, .bin .neq (.t 16) (.k (.i .i64 0)), none⟩,
         ⟨some 13, .mov (.t 17), none⟩])
      (.cond (.t 13)
       (.seq (.reg [⟨some 2, .mov (.k (.i .i64 20)), none⟩])
       .ret)
       (.seq (.reg [⟨some 19, .faddr 1 (.t 5), none⟩,
          ⟨some 20, .load false 1 (.t 19), none⟩,
          ⟨some 21, .mov (.t 20), none⟩,
          ⟨some 22, .faddr 2 (.t 5), some (21, true)⟩,
          ⟨some 23, .load false 1 (.t 22), some (21, true)⟩,
          ⟨some 24, .call true 309 [(.t 23)], some (21, true)⟩,
          ⟨some 25, .bin .neq (.t 24) (.k (.i .i64 0)), some (21, true)⟩,
          ⟨some 26, .pick (.t 21) (.t 25) (.k (.b false)), none⟩,
          ⟨some 27, .mov (.t 26), none⟩,
          ⟨some 28, .faddr 1 (.t 5), some (27, false)⟩,
          ⟨some 29, .load false 1 (.t 28), some (27, false)⟩,
          ⟨some 30, .un .not (.t 29), some (27, false)⟩,
          ⟨some 31, .mov (.t 30), some (27, false)⟩,
          ⟨some 32, .faddr 2 (.t 5), some (31, true)⟩,
          ⟨some 33, .load false 1 (.t 32), some (31, true)⟩,
          ⟨some 34, .bin .neq (.t 33) (.k (.s [])), some (31, true)⟩,
          ⟨some 35, .pick (.t 31) (.t 34) (.k (.b false)), some (27, false)⟩,
          ⟨some 36, .pick (.t 27) (.k (.b true)) (.t 35), none⟩,
          ⟨some 18, .mov (.t 36), none⟩])
       (.cond (.t 18)
        (.seq (.reg [⟨some 2, .mov (.k (.i .i64 21)), none⟩])
        .ret)
        (.seq (.reg [⟨some 38, .mov (.t 3), none⟩,
           ⟨some 39, .faddr 0 (.t 5), none⟩,
           ⟨some 40, .load false 1 (.t 39), none⟩,
           ⟨some 41, .mget .str false (.b false) (.t 38) (.t 40), none⟩,
           ⟨some 37, .mov (.t 41), none⟩])
        (.cond (.t 37)
         (.seq (.reg [⟨some 2, .mov (.k (.i .i64 61)), none⟩])
         .ret)
         .skip)))))))
    (.reg [⟨some 42, .mov (.t 3), none⟩,
      ⟨some 43, .faddr 0 (.t 5), none⟩,
      ⟨some 44, .load false 1 (.t 43), none⟩,
      ⟨none, .mput .str (.t 42) (.t 44) (.k (.b true)), none⟩]))))
  (.reg [⟨some 45, .bin .add (.t 9) (.k (.i .i64 1)), none⟩,
    ⟨some 9, .mov (.t 45), none⟩]))))
def B226 : AC := (.seq (.reg [⟨some 2, .mov (.k (.i .i64 0)), none⟩])
  (.seq (.reg [⟨some 6, .mkmap, none⟩,
     ⟨some 3, .mov (.t 6), none⟩])
  (.seq (.seq (.reg [⟨some 7, .mov (.t 0), none⟩,
      ⟨some 8, .len .slice (.t 7), none⟩,
      ⟨some 9, .mov (.k (.i .i64 0)), none⟩])
   (.blk 0 (.loop L226_1)))
  (.seq (.reg [⟨some 2, .mov (.k (.i .i64 0)), none⟩])
  .ret))))
/-- tidemark/kv.right -/
def af226 : AFunc := { n := 46, depth := 6, kl := [(5, [5, 14, 19, 22, 28, 32, 39, 43])], res := [.tmp 2], body := B226 }

def B227 : AC := (.seq (.reg [⟨some 6, .mov (.k .nilp), none⟩])
  (.seq (.seq (.reg [⟨some 8, .mov (.t 0), none⟩,
      ⟨some 9, .call false 257 [(.t 8)], none⟩,
      ⟨some 10, .mov (.t 1), none⟩,
      ⟨some 11, .call false 310 [(.t 9), (.t 10)], none⟩,
      ⟨some 7, .mov (.t 11), none⟩])
   (.seq (.reg [⟨some 12, .mov (.t 7), none⟩,
      ⟨some 13, .eq true .ptr (.t 12) (.k .nilp), none⟩,
      ⟨some 14, .mov (.t 13), none⟩,
      ⟨some 15, .mov (.t 7), some (14, true)⟩,
      ⟨some 16, .nilck (.t 15), some (14, true)⟩,
      ⟨some 17, .faddr 0 (.t 16), some (14, true)⟩,
      ⟨some 18, .faddr 1 (.t 17), some (14, true)⟩,
      ⟨some 19, .load false 1 (.t 18), some (14, true)⟩,
      ⟨some 20, .mov (.t 2), some (14, true)⟩,
      ⟨some 21, .bin .eql (.t 19) (.t 20), some (14, true)⟩,
      ⟨some 22, .pick (.t 14) (.t 21) (.k (.b false)), none⟩])
   (.cond (.t 22)
    (.seq (.reg [⟨some 23, .mov (.t 0), none⟩,
       ⟨some 24, .call false 257 [(.t 23)], none⟩,
       ⟨some 25, .build [.nilp] [(0, 1, (.t 24))], none⟩,
       ⟨some 26, .box 306 (.t 25), none⟩,
       ⟨some 6, .mov (.t 26), none⟩])
    .ret)
    .skip)))
  (.seq (.reg [⟨some 27, .mov (.t 0), none⟩,
     ⟨some 28, .call false 257 [(.t 27)], none⟩,
     ⟨some 29, .mov (.t 1), none⟩,
     ⟨some 30, .mov (.t 2), none⟩,
     ⟨some 31, .build [(.s []), (.s [])] [(0, 1, (.t 29)), (1, 1, (.t 30))], none⟩,
     ⟨some 32, .call false 311 [(.t 28), (.t 31)], none⟩,
     ⟨some 33, .build [.nilp] [(0, 1, (.t 32))], none⟩,
     ⟨some 34, .box 306 (.t 33), none⟩,
     ⟨some 6, .mov (.t 34), none⟩])
  .ret)))
/-- (*tidemark/tree.Tree).Put -/
def af227 : AFunc := { n := 35, depth := 6, kl := [], res := [.tmp 6], body := B227 }

def L237_1 : AC := (.seq (.reg [⟨some 152, .bin .lss (.t 151) (.t 150), none⟩])
  (.seq (.cond (.t 152)
    .skip
    (.exit 1))
  (.seq (.blk 2 (.seq (.reg [⟨some 153, .iaddr (.slice 4) (.t 149) (.t 151), none⟩,
       ⟨some 154, .load true 4 (.t 153), none⟩,
       ⟨some 11, .lalloc [(.i .i64 0), (.s []), (.s []), (.sl [] 0 .nil)] [11], none⟩,
       ⟨none, .store 4 (.t 11) (.t 154), none⟩])
    (.seq (.reg [⟨some 156, .load true 4 (.t 11), none⟩,
       ⟨some 157, .mov (.t 1), none⟩,
       ⟨some 158, .bin .add (.t 157) (.k (.i .i64 1)), none⟩,
       ⟨some 159, .mov (.t 2), none⟩,
       ⟨some 160, .call false 237 [(.t 156), (.t 158), (.t 159)], none⟩,
       ⟨some 155, .mov (.t 160), none⟩,
       ⟨some 161, .ext (.t 155) 0, none⟩,
       ⟨some 162, .ext (.t 155) 1, none⟩,
       ⟨some 12, .mov (.t 161), none⟩,
       ⟨some 13, .mov (.t 162), none⟩])
    (.seq (.seq (.reg [⟨some 163, .mov (.t 13), none⟩,
        ⟨some 164, .bin .neq (.t 163) (.k (.i .i64 0)), none⟩])
     (.cond (.t 164)
      (.seq (.reg [⟨some 165, .mov (.t 13), none⟩,
         ⟨some 6, .mov (.k .nili), none⟩,
         ⟨some 7, .mov (.t 165), none⟩])
      .ret)
      .skip))
    (.seq (.reg [⟨some 167, .mov (.t 12), none⟩,
       ⟨some 168, .tas false [357, 359, 361, 362, 366, 368, 369] [9, 332] .nili true (.t 167), none⟩,
       ⟨some 166, .mov (.t 168), none⟩,
       ⟨some 169, .ext (.t 166) 0, none⟩,
       ⟨some 170, .ext (.t 166) 1, none⟩,
       ⟨some 14, .mov (.t 169), none⟩,
       ⟨some 15, .mov (.t 170), none⟩])
    (.seq (.reg [⟨some 171, .mov (.t 15), none⟩])
    (.cond (.t 171)
     (.reg [⟨some 172, .mov (.t 9), none⟩,
       ⟨some 173, .mov (.t 14), none⟩,
       ⟨some 174, .bslice false 200 1 1 [.nili] [(0, (.t 173))], none⟩,
       ⟨some 175, .app 200 1 (.t 172) (.t 174), none⟩,
       ⟨some 9, .mov (.t 175), none⟩])
     .skip)))))))
  (.reg [⟨some 176, .bin .add (.t 151) (.k (.i .i64 1)), none⟩,
    ⟨some 151, .mov (.t 176), none⟩]))))
def B237 : AC := (.seq (.reg [⟨some 3, .lbox (.t 0) [3, 29, 34, 41, 46, 53, 60, 65, 70, 75, 82, 88, 93, 95, 100, 107, 112, 119, 123, 128, 133, 138, 142, 148, 177], none⟩,
     ⟨some 6, .mov (.k .nili), none⟩,
     ⟨some 7, .mov (.k (.i .i64 0)), none⟩])
  (.seq (.reg [⟨some 16, .mov (.t 2), none⟩,
     ⟨some 17, .nilck (.t 16), none⟩,
     ⟨some 18, .load false 1 (.t 17), none⟩,
     ⟨some 19, .bin .add (.t 18) (.k (.i .i64 1)), none⟩,
     ⟨some 20, .nilck (.t 16), none⟩,
     ⟨none, .store 1 (.t 20) (.t 19), none⟩])
  (.seq (.seq (.reg [⟨some 21, .mov (.t 1), none⟩,
      ⟨some 22, .bin .gtr (.t 21) (.k (.i .i64 6)), none⟩,
      ⟨some 23, .mov (.t 22), none⟩,
      ⟨some 24, .mov (.t 2), some (23, false)⟩,
      ⟨some 25, .nilck (.t 24), some (23, false)⟩,
      ⟨some 26, .load false 1 (.t 25), some (23, false)⟩,
      ⟨some 27, .bin .gtr (.t 26) (.k (.i .i64 24)), some (23, false)⟩,
      ⟨some 28, .pick (.t 23) (.k (.b true)) (.t 27), none⟩])
   (.cond (.t 28)
    (.seq (.reg [⟨some 6, .mov (.k .nili), none⟩,
       ⟨some 7, .mov (.k (.i .i64 51)), none⟩])
    .ret)
    .skip))
  (.seq (.reg [⟨some 29, .faddr 3 (.t 3), none⟩,
     ⟨some 30, .load false 1 (.t 29), none⟩,
     ⟨some 31, .len .slice (.t 30), none⟩,
     ⟨some 32, .bin .eql (.t 31) (.k (.i .i64 0)), none⟩,
     ⟨some 8, .mov (.t 32), none⟩])
  (.seq (.blk 0 (.seq (.reg [⟨some 34, .faddr 0 (.t 3), none⟩,
       ⟨some 35, .load false 1 (.t 34), none⟩,
       ⟨some 36, .bin .eql (.t 35) (.k (.i .i64 0)), none⟩,
       ⟨some 37, .mov (.t 36), none⟩,
       ⟨some 38, .mov (.t 8), some (37, true)⟩,
       ⟨some 39, .pick (.t 37) (.t 38) (.k (.b false)), none⟩,
       ⟨some 40, .mov (.t 39), none⟩,
       ⟨some 41, .faddr 1 (.t 3), some (40, true)⟩,
       ⟨some 42, .load false 1 (.t 41), some (40, true)⟩,
       ⟨some 43, .bin .eql (.t 42) (.k (.s [])), some (40, true)⟩,
       ⟨some 44, .pick (.t 40) (.t 43) (.k (.b false)), none⟩,
       ⟨some 45, .mov (.t 44), none⟩,
       ⟨some 46, .faddr 2 (.t 3), some (45, true)⟩,
       ⟨some 47, .load false 1 (.t 46), some (45, true)⟩,
       ⟨some 48, .bin .eql (.t 47) (.k (.s [])), some (45, true)⟩,
       ⟨some 49, .pick (.t 45) (.t 48) (.k (.b false)), none⟩,
       ⟨some 33, .mov (.t 49), none⟩])
    (.cond (.t 33)
     (.seq (.reg [⟨some 50, .build [] [], none⟩,
        ⟨some 51, .mkif 357 (.t 50), none⟩,
        ⟨some 6, .mov (.t 51), none⟩,
        ⟨some 7, .mov (.k (.i .i64 0)), none⟩])
     .ret)
     (.seq (.reg [⟨some 53, .faddr 0 (.t 3), none⟩,
        ⟨some 54, .load false 1 (.t 53), none⟩,
        ⟨some 55, .bin .eql (.t 54) (.k (.i .i64 1)), none⟩,
        ⟨some 56, .mov (.t 55), none⟩,
        ⟨some 57, .mov (.t 8), some (56, true)⟩,
        ⟨some 58, .pick (.t 56) (.t 57) (.k (.b false)), none⟩,
        ⟨some 59, .mov (.t 58), none⟩,
        ⟨some 60, .faddr 1 (.t 3), some (59, true)⟩,
        ⟨some 61, .load false 1 (.t 60), some (59, true)⟩,
        ⟨some 62, .bin .eql (.t 61) (.k (.s [])), some (59, true)⟩,
        ⟨some 63, .pick (.t 59) (.t 62) (.k (.b false)), none⟩,
        ⟨some 64, .mov (.t 63), none⟩,
        ⟨some 65, .faddr 2 (.t 3), some (64, true)⟩,
        ⟨some 66, .load false 1 (.t 65), some (64, true)⟩,
        ⟨some 67, .call true 308 [(.t 66)], some (64, true)⟩,
        ⟨some 68, .bin .eql (.t 67) (.k (.i .i64 0)), some (64, true)⟩,
        ⟨some 69, .pick (.t 64) (.t 68) (.k (.b false)), none⟩,
        ⟨some 52, .mov (.t 69), none⟩])
     (.cond (.t 52)
      (.seq (.reg [⟨some 70, .faddr 2 (.t 3), none⟩,
         ⟨some 71, .load false 1 (.t 70), none⟩,
         ⟨some 72, .build [(.s [])] [(0, 1, (.t 71))], none⟩,
         ⟨some 73, .mkif 359 (.t 72), none⟩,
         ⟨some 6, .mov (.t 73), none⟩,
         ⟨some 7, .mov (.k (.i .i64 0)), none⟩])
      .ret)
      (.seq (.reg [⟨some 75, .faddr 0 (.t 3), none⟩,
         ⟨some 76, .load false 1 (.t 75), none⟩,
         ⟨some 77, .bin .eql (.t 76) (.k (.i .i64 2)), none⟩,
         ⟨some 78, .mov (.t 77), none⟩,
         ⟨some 79, .mov (.t 8), some (78, true)⟩,
         ⟨some 80, .pick (.t 78) (.t 79) (.k (.b false)), none⟩,
         ⟨some 81, .mov (.t 80), none⟩,
         ⟨some 82, .faddr 1 (.t 3), some (81, true)⟩,
         ⟨some 83, .load false 1 (.t 82), some (81, true)⟩,
         ⟨some 84, .call true 145 [(.t 83)], some (81, true)⟩,
         ⟨some 85, .bin .eql (.t 84) (.k (.i .i64 0)), some (81, true)⟩,
         ⟨some 86, .pick (.t 81) (.t 85) (.k (.b false)), none⟩,
         ⟨some 87, .mov (.t 86), none⟩,
         ⟨some 88, .faddr 2 (.t 3), some (87, true)⟩,
         ⟨some 89, .load false 1 (.t 88), some (87, true)⟩,
         ⟨some 90, .call true 309 [(.t 89)], some (87, true)⟩,
         ⟨some 91, .bin .eql (.t 90) (.k (.i .i64 0)), some (87, true)⟩,
         ⟨some 92, .pick (.t 87) (.t 91) (.k (.b false)), none⟩,
         ⟨some 74, .mov (.t 92), none⟩])
      (.cond (.t 74)
       (.seq (.reg [⟨some 93, .faddr 1 (.t 3), none⟩,
          ⟨some 94, .load false 1 (.t 93), none⟩,
          ⟨some 95, .faddr 2 (.t 3), none⟩,
          ⟨some 96, .load false 1 (.t 95), none⟩,
          ⟨some 97, .build [(.s []), (.s [])] [(0, 1, (.t 94)), (1, 1, (.t 96))], none⟩,
          ⟨some 98, .mkif 361 (.t 97), none⟩,
          ⟨some 6, .mov (.t 98), none⟩,
          ⟨some 7, .mov (.k (.i .i64 0)), none⟩])
       .ret)
       (.seq (.reg [⟨some 100, .faddr 0 (.t 3), none⟩,
          ⟨some 101, .load false 1 (.t 100), none⟩,
          ⟨some 102, .bin .eql (.t 101) (.k (.i .i64 3)), none⟩,
          ⟨some 103, .mov (.t 102), none⟩,
          ⟨some 104, .mov (.t 8), some (103, true)⟩,
          ⟨some 105, .pick (.t 103) (.t 104) (.k (.b false)), none⟩,
          ⟨some 106, .mov (.t 105), none⟩,
          ⟨some 107, .faddr 1 (.t 3), some (106, true)⟩,
          ⟨some 108, .load false 1 (.t 107), some (106, true)⟩,
          ⟨some 109, .bin .eql (.t 108) (.k (.s [])), some (106, true)⟩,
          ⟨some 110, .pick (.t 106) (.t 109) (.k (.b false)), none⟩,
          ⟨some 111, .mov (.t 110), none⟩,
          ⟨some 112, .faddr 2 (.t 3), some (111, true)⟩,
          ⟨some 113, .load false 1 (.t 112), some (111, true)⟩,
          ⟨some 114, .bin .eql (.t 113) (.k (.s [])), some (111, true)⟩,
          ⟨some 115, .pick (.t 111) (.t 114) (.k (.b false)), none⟩,
          ⟨some 99, .mov (.t 115), none⟩])
       (.cond (.t 99)
        (.seq (.reg [⟨some 116, .build [] [], none⟩,
           ⟨some 117, .mkif 362 (.t 116), none⟩,
           ⟨some 6, .mov (.t 117), none⟩,
           ⟨some 7, .mov (.k (.i .i64 0)), none⟩])
        .ret)
        (.seq (.reg [⟨some 119, .faddr 1 (.t 3), none⟩,
           ⟨some 120, .load false 1 (.t 119), none⟩,
           ⟨some 121, .bin .neq (.t 120) (.k (.s [])), none⟩,
           ⟨some 122, .mov (.t 121), none⟩,
           ⟨some 123, .faddr 2 (.t 3), some (122, false)⟩,
           ⟨some 124, .load false 1 (.t 123), some (122, false)⟩,
           ⟨some 125, .bin .neq (.t 124) (.k (.s [])), some (122, false)⟩,
           ⟨some 126, .pick (.t 122) (.k (.b true)) (.t 125), none⟩,
           ⟨some 127, .mov (.t 126), none⟩,
           ⟨some 128, .faddr 0 (.t 3), some (127, false)⟩,
           ⟨some 129, .load false 1 (.t 128), some (127, false)⟩,
           ⟨some 130, .bin .lss (.t 129) (.k (.i .i64 4)), some (127, false)⟩,
           ⟨some 131, .pick (.t 127) (.k (.b true)) (.t 130), none⟩,
           ⟨some 132, .mov (.t 131), none⟩,
           ⟨some 133, .faddr 0 (.t 3), some (132, false)⟩,
           ⟨some 134, .load false 1 (.t 133), some (132, false)⟩,
           ⟨some 135, .bin .gtr (.t 134) (.k (.i .i64 6)), some (132, false)⟩,
           ⟨some 136, .pick (.t 132) (.k (.b true)) (.t 135), none⟩,
           ⟨some 137, .mov (.t 136), none⟩,
           ⟨some 138, .faddr 0 (.t 3), some (137, false)⟩,
           ⟨some 139, .load false 1 (.t 138), some (137, false)⟩,
           ⟨some 140, .bin .eql (.t 139) (.k (.i .i64 4)), some (137, false)⟩,
           ⟨some 141, .mov (.t 140), some (137, false)⟩,
           ⟨some 142, .faddr 3 (.t 3), some (141, true)⟩,
           ⟨some 143, .load false 1 (.t 142), some (141, true)⟩,
           ⟨some 144, .len .slice (.t 143), some (141, true)⟩,
           ⟨some 145, .bin .neq (.t 144) (.k (.i .i64 1)), some (141, true)⟩,
           ⟨some 146, .pick (.t 141) (.t 145) (.k (.b false)), some (137, false)⟩,
           ⟨some 147, .pick (.t 137) (.k (.b true)) (.t 146), none⟩,
           ⟨some 118, .mov (.t 147), none⟩])
        (.cond (.t 118)
         (.seq (.reg [⟨some 6, .mov (.k .nili), none⟩,
            ⟨some 7, .mov (.k (.i .i64 50)), none⟩])
         .ret)
         .skip)))))))))))
  (.seq (.reg [⟨some 9, .mov (.k (.sl [] 0 .nil)), none⟩])
  (.seq (.seq (.reg [⟨some 148, .faddr 3 (.t 3), none⟩,
      ⟨some 149, .load false 1 (.t 148), none⟩,
      ⟨some 150, .len .slice (.t 149), none⟩,
      ⟨some 151, .mov (.k (.i .i64 0)), none⟩])
   (.blk 1 (.loop L237_1)))
  (.seq (.seq (.reg [⟨some 177, .faddr 0 (.t 3), none⟩,
      ⟨some 178, .load false 1 (.t 177), none⟩])
   (.blk 3 (.seq (.reg [⟨some 180, .bin .eql (.t 178) (.k (.i .i64 4)), none⟩,
       ⟨some 179, .mov (.t 180), none⟩])
    (.cond (.t 179)
     (.seq (.reg [⟨some 181, .mov (.t 9), none⟩,
        ⟨some 182, .iaddr (.slice 1) (.t 181) (.k (.i .i64 0)), none⟩,
        ⟨some 183, .load false 1 (.t 182), none⟩,
        ⟨some 184, .build [.nili] [(0, 1, (.t 183))], none⟩,
        ⟨some 185, .mkif 366 (.t 184), none⟩,
        ⟨some 6, .mov (.t 185), none⟩,
        ⟨some 7, .mov (.k (.i .i64 0)), none⟩])
     .ret)
     (.seq (.reg [⟨some 187, .bin .eql (.t 178) (.k (.i .i64 5)), none⟩,
        ⟨some 186, .mov (.t 187), none⟩])
     (.cond (.t 186)
      (.seq (.reg [⟨some 188, .mov (.t 9), none⟩,
         ⟨some 189, .build [(.sl [] 0 .nil)] [(0, 1, (.t 188))], none⟩,
         ⟨some 190, .mkif 368 (.t 189), none⟩,
         ⟨some 6, .mov (.t 190), none⟩,
         ⟨some 7, .mov (.k (.i .i64 0)), none⟩])
      .ret)
      .skip))))))
  (.seq (.reg [⟨some 191, .mov (.t 9), none⟩,
     ⟨some 192, .build [(.sl [] 0 .nil)] [(0, 1, (.t 191))], none⟩,
     ⟨some 193, .mkif 369 (.t 192), none⟩,
     ⟨some 6, .mov (.t 193), none⟩,
     ⟨some 7, .mov (.k (.i .i64 0)), none⟩])
  .ret)))))))))
/-- tidemark/filter.build -/
def af237 : AFunc := { n := 194, depth := 8, kl := [(3, [3, 29, 34, 41, 46, 53, 60, 65, 70, 75, 82, 88, 93, 95, 100, 107, 112, 119, 123, 128, 133, 138, 142, 148, 177]), (11, [11])], res := [.tmp 6, .tmp 7], body := B237 }

def B248 : AC := (.seq (.reg [⟨some 4, .mov (.k (.b false)), none⟩])
  (.seq (.reg [⟨some 5, .mov (.t 0), none⟩,
     ⟨some 6, .mov (.t 1), none⟩,
     ⟨some 7, .call true 320 [(.t 5), (.t 6)], none⟩,
     ⟨some 8, .bin .geq (.t 7) (.k (.i .i64 0)), none⟩,
     ⟨some 4, .mov (.t 8), none⟩])
  .ret))
/-- slices.ContainsFunc[[]int,int] -/
def af248 : AFunc := { n := 9, depth := 4, kl := [], res := [.tmp 4], body := B248 }

def B249 : AC := (.seq (.reg [⟨some 2, .mov (.k (.b false)), none⟩])
  (.seq (.reg [⟨some 3, .mov (.t 0), none⟩,
     ⟨some 4, .bin .lss (.t 3) (.k (.i .i64 0)), none⟩,
     ⟨some 5, .mov (.t 4), none⟩,
     ⟨some 6, .mov (.t 0), some (5, false)⟩,
     ⟨some 7, .bin .gtr (.t 6) (.k (.i .i64 1099511627776)), some (5, false)⟩,
     ⟨some 8, .pick (.t 5) (.k (.b true)) (.t 7), none⟩,
     ⟨some 2, .mov (.t 8), none⟩])
  .ret))
/-- tidemark/machine.within$1 -/
def af249 : AFunc := { n := 9, depth := 4, kl := [], res := [.tmp 2], body := B249 }

def L250_1 : AC := (.seq (.reg [⟨some 14, .next 13, none⟩,
     ⟨some 15, .ext (.t 14) 0, none⟩])
  (.seq (.cond (.t 15)
    .skip
    (.exit 0))
  (.blk 1 (.seq (.reg [⟨some 16, .ext (.t 14) 2, none⟩,
      ⟨some 11, .mov (.t 16), none⟩])
   (.seq (.reg [⟨some 17, .mov (.t 9), none⟩,
      ⟨some 18, .bin .add (.t 17) (.k (.i .i64 1)), none⟩,
      ⟨some 9, .mov (.t 18), none⟩])
   (.seq (.reg [⟨some 19, .mov (.t 9), none⟩,
      ⟨some 20, .mov (.t 2), none⟩,
      ⟨some 21, .bin .gtr (.t 19) (.t 20), none⟩,
      ⟨some 22, .mov (.t 21), none⟩,
      ⟨some 23, .mov (.t 3), some (22, false)⟩,
      ⟨some 24, .mov (.t 11), some (22, false)⟩,
      ⟨some 25, .callv false (.t 23) [(.t 24)], some (22, false)⟩,
      ⟨some 26, .un .not (.t 25), some (22, false)⟩,
      ⟨some 27, .pick (.t 22) (.k (.b true)) (.t 26), none⟩])
   (.cond (.t 27)
    (.seq (.reg [⟨some 8, .mov (.k (.b false)), none⟩])
    .ret)
    .skip)))))))
def B250 : AC := (.seq (.reg [⟨some 8, .mov (.k (.b false)), none⟩])
  (.seq (.reg [⟨some 9, .mov (.k (.i .i64 0)), none⟩])
  (.seq (.seq (.reg [⟨some 12, .mov (.t 0), none⟩,
      ⟨some 13, .range (.t 12), none⟩])
   (.blk 0 (.loop L250_1)))
  (.seq (.reg [⟨some 28, .mov (.t 9), none⟩,
     ⟨some 29, .mov (.t 1), none⟩,
     ⟨some 30, .bin .geq (.t 28) (.t 29), none⟩,
     ⟨some 8, .mov (.t 30), none⟩])
  .ret))))
/-- tidemark/text.all -/
def af250 : AFunc := { n := 31, depth := 5, kl := [], res := [.tmp 8], body := B250 }

def B256 : AC := (.seq (.reg [⟨some 10, .mov (.k (.sl [] 0 .nil)), none⟩])
  (.seq (.seq (.reg [⟨some 12, .mov (.t 0), none⟩,
      ⟨some 13, .eq false .ptr (.t 12) (.k .nilp), none⟩,
      ⟨some 14, .mov (.t 13), none⟩,
      ⟨some 15, .mov (.t 4), some (14, false)⟩,
      ⟨some 16, .len .slice (.t 15), some (14, false)⟩,
      ⟨some 17, .mov (.t 3), some (14, false)⟩,
      ⟨some 18, .bin .geq (.t 16) (.t 17), some (14, false)⟩,
      ⟨some 19, .pick (.t 14) (.k (.b true)) (.t 18), none⟩])
   (.cond (.t 19)
    (.seq (.reg [⟨some 20, .mov (.t 4), none⟩,
       ⟨some 10, .mov (.t 20), none⟩])
    .ret)
    .skip))
  (.seq (.seq (.reg [⟨some 21, .mov (.t 1), none⟩,
      ⟨some 22, .mov (.t 0), none⟩,
      ⟨some 23, .nilck (.t 22), none⟩,
      ⟨some 24, .faddr 0 (.t 23), none⟩,
      ⟨some 25, .faddr 0 (.t 24), none⟩,
      ⟨some 26, .load false 1 (.t 25), none⟩,
      ⟨some 27, .bin .lss (.t 21) (.t 26), none⟩])
   (.cond (.t 27)
    (.reg [⟨some 28, .mov (.t 0), none⟩,
      ⟨some 29, .nilck (.t 28), none⟩,
      ⟨some 30, .faddr 2 (.t 29), none⟩,
      ⟨some 31, .load false 1 (.t 30), none⟩,
      ⟨some 32, .mov (.t 1), none⟩,
      ⟨some 33, .mov (.t 2), none⟩,
      ⟨some 34, .mov (.t 3), none⟩,
      ⟨some 35, .mov (.t 4), none⟩,
      ⟨some 36, .call false 256 [(.t 31), (.t 32), (.t 33), (.t 34), (.t 35)], none⟩,
      ⟨some 4, .mov (.t 36), none⟩])
    .skip))
  (.seq (.reg [⟨some 37, .mov (.t 2), none⟩,
     ⟨some 38, .bin .eql (.t 37) (.k (.s [])), none⟩,
     ⟨some 39, .mov (.t 38), none⟩,
     ⟨some 40, .mov (.t 0), some (39, false)⟩,
     ⟨some 41, .nilck (.t 40), some (39, false)⟩,
     ⟨some 42, .faddr 0 (.t 41), some (39, false)⟩,
     ⟨some 43, .faddr 0 (.t 42), some (39, false)⟩,
     ⟨some 44, .load false 1 (.t 43), some (39, false)⟩,
     ⟨some 45, .mov (.t 2), some (39, false)⟩,
     ⟨some 46, .bin .lss (.t 44) (.t 45), some (39, false)⟩,
     ⟨some 47, .pick (.t 39) (.k (.b true)) (.t 46), none⟩,
     ⟨some 11, .mov (.t 47), none⟩])
  (.seq (.seq (.reg [⟨some 48, .mov (.t 0), none⟩,
      ⟨some 49, .nilck (.t 48), none⟩,
      ⟨some 50, .faddr 0 (.t 49), none⟩,
      ⟨some 51, .faddr 0 (.t 50), none⟩,
      ⟨some 52, .load false 1 (.t 51), none⟩,
      ⟨some 53, .mov (.t 1), none⟩,
      ⟨some 54, .bin .geq (.t 52) (.t 53), none⟩,
      ⟨some 55, .mov (.t 54), none⟩,
      ⟨some 56, .mov (.t 11), some (55, true)⟩,
      ⟨some 57, .pick (.t 55) (.t 56) (.k (.b false)), none⟩,
      ⟨some 58, .mov (.t 57), none⟩,
      ⟨some 59, .mov (.t 4), some (58, true)⟩,
      ⟨some 60, .len .slice (.t 59), some (58, true)⟩,
      ⟨some 61, .mov (.t 3), some (58, true)⟩,
      ⟨some 62, .bin .lss (.t 60) (.t 61), some (58, true)⟩,
      ⟨some 63, .pick (.t 58) (.t 62) (.k (.b false)), none⟩])
   (.cond (.t 63)
    (.reg [⟨some 64, .mov (.t 4), none⟩,
      ⟨some 65, .mov (.t 0), none⟩,
      ⟨some 66, .nilck (.t 65), none⟩,
      ⟨some 67, .faddr 0 (.t 66), none⟩,
      ⟨some 68, .load true 2 (.t 67), none⟩,
      ⟨some 69, .bslice false 244 2 1 [(.s []), (.s [])] [(0, (.t 68))], none⟩,
      ⟨some 70, .app 244 2 (.t 64) (.t 69), none⟩,
      ⟨some 4, .mov (.t 70), none⟩])
    .skip))
  (.seq (.seq (.reg [⟨some 71, .mov (.t 11), none⟩])
   (.cond (.t 71)
    (.reg [⟨some 72, .mov (.t 0), none⟩,
      ⟨some 73, .nilck (.t 72), none⟩,
      ⟨some 74, .faddr 3 (.t 73), none⟩,
      ⟨some 75, .load false 1 (.t 74), none⟩,
      ⟨some 76, .mov (.t 1), none⟩,
      ⟨some 77, .mov (.t 2), none⟩,
      ⟨some 78, .mov (.t 3), none⟩,
      ⟨some 79, .mov (.t 4), none⟩,
      ⟨some 80, .call false 256 [(.t 75), (.t 76), (.t 77), (.t 78), (.t 79)], none⟩,
      ⟨some 4, .mov (.t 80), none⟩])
    .skip))
  (.seq (.reg [⟨some 81, .mov (.t 4), none⟩,
     ⟨some 10, .mov (.t 81), none⟩])
  .ret)))))))
/-- tidemark/tree.scan -/
def af256 : AFunc := { n := 82, depth := 7, kl := [], res := [.tmp 10], body := B256 }

def B257 : AC := (.seq (.reg [⟨some 2, .mov (.k .nilp), none⟩])
  (.seq (.seq (.reg [⟨some 3, .mov (.t 0), none⟩,
      ⟨some 4, .eq false .ptr (.t 3) (.k .nilp), none⟩])
   (.cond (.t 4)
    (.seq (.reg [⟨some 2, .mov (.k .nilp), none⟩])
    .ret)
    .skip))
  (.seq (.reg [⟨some 5, .mov (.t 0), none⟩,
     ⟨some 6, .nilck (.t 5), none⟩,
     ⟨some 7, .faddr 0 (.t 6), none⟩,
     ⟨some 8, .load false 1 (.t 7), none⟩,
     ⟨some 2, .mov (.t 8), none⟩])
  .ret)))
/-- (*tidemark/tree.Tree).top -/
def af257 : AFunc := { n := 9, depth := 4, kl := [], res := [.tmp 2], body := B257 }

def B258 : AC := (.seq (.reg [⟨some 2, .mov (.k (.i .i64 0)), none⟩])
  (.seq (.seq (.reg [⟨some 3, .mov (.t 0), none⟩,
      ⟨some 4, .eq false .ptr (.t 3) (.k .nilp), none⟩])
   (.cond (.t 4)
    (.seq (.reg [⟨some 2, .mov (.k (.i .i64 0)), none⟩])
    .ret)
    .skip))
  (.seq (.reg [⟨some 5, .mov (.t 0), none⟩,
     ⟨some 6, .nilck (.t 5), none⟩,
     ⟨some 7, .faddr 5 (.t 6), none⟩,
     ⟨some 8, .load false 1 (.t 7), none⟩,
     ⟨some 2, .mov (.t 8), none⟩])
  .ret)))
/-- tidemark/tree.size -/
def af258 : AFunc := { n := 9, depth := 4, kl := [], res := [.tmp 2], body := B258 }

def L260_1 : AC := (.seq (.reg [⟨some 9, .bin .lss (.t 8) (.t 7), none⟩])
  (.seq (.cond (.t 9)
    .skip
    (.exit 0))
  (.seq (.blk 1 (.seq (.reg [⟨some 10, .mov (.t 8), none⟩,
       ⟨some 5, .mov (.t 10), none⟩])
    (.seq (.reg [⟨some 11, .mov (.t 1), none⟩,
       ⟨some 12, .mov (.t 0), none⟩,
       ⟨some 13, .mov (.t 5), none⟩,
       ⟨some 14, .iaddr (.slice 8) (.t 12) (.t 13), none⟩,
       ⟨some 15, .load true 8 (.t 14), none⟩,
       ⟨some 16, .callv false (.t 11) [(.t 15)], none⟩])
    (.cond (.t 16)
     (.seq (.reg [⟨some 17, .mov (.t 5), none⟩,
        ⟨some 4, .mov (.t 17), none⟩])
     .ret)
     .skip))))
  (.reg [⟨some 18, .bin .add (.t 8) (.k (.i .i64 1)), none⟩,
    ⟨some 8, .mov (.t 18), none⟩]))))
def B260 : AC := (.seq (.reg [⟨some 4, .mov (.k (.i .i64 0)), none⟩])
  (.seq (.seq (.reg [⟨some 6, .mov (.t 0), none⟩,
      ⟨some 7, .len .slice (.t 6), none⟩,
      ⟨some 8, .mov (.k (.i .i64 0)), none⟩])
   (.blk 0 (.loop L260_1)))
  (.seq (.reg [⟨some 4, .mov (.k (.i .i64 (-1))), none⟩])
  .ret)))
/-- slices.IndexFunc[[]tidemark/api.Sub,tidemark/api.Sub] -/
def af260 : AFunc := { n := 19, depth := 5, kl := [], res := [.tmp 4], body := B260 }

def B261 : AC := (.seq (.reg [⟨some 2, .lbox (.t 0) [2, 4], none⟩,
     ⟨some 3, .mov (.k (.b false)), none⟩])
  (.seq (.reg [⟨some 4, .faddr 0 (.t 2), none⟩,
     ⟨some 5, .load false 1 (.t 4), none⟩,
     ⟨some 6, .load false 1 (.t 1), none⟩,
     ⟨some 7, .bin .eql (.t 5) (.t 6), none⟩,
     ⟨some 3, .mov (.t 7), none⟩])
  .ret))
/-- (*tidemark/feed.Feed).find$1 -/
def af261 : AFunc := { n := 8, depth := 4, kl := [(2, [2, 4])], res := [.tmp 3], body := B261 }

def L286_1 : AC := (.seq (.seq (.reg [⟨some 16, .mov (.t 6), none⟩,
      ⟨some 17, .mov (.t 0), none⟩,
      ⟨some 18, .len .slice (.t 17), none⟩,
      ⟨some 19, .bin .lss (.t 16) (.t 18), none⟩])
   (.cond (.t 19)
    .skip
    (.exit 0)))
  (.seq (.blk 1 (.seq (.reg [⟨some 22, .mov (.t 0), none⟩,
       ⟨some 23, .mov (.t 6), none⟩,
       ⟨some 24, .iaddr (.slice 6) (.t 22) (.t 23), none⟩,
       ⟨some 25, .load true 6 (.t 24), none⟩,
       ⟨some 7, .lalloc [(.i .i64 0), (.s []), (.b false), (.s []), (.b false), (.s [])] [7], none⟩,
       ⟨none, .store 6 (.t 7) (.t 25), none⟩])
    (.seq (.reg [⟨some 26, .mov (.t 1), none⟩,
       ⟨some 27, .load true 6 (.t 7), none⟩,
       ⟨some 28, .callv false (.t 26) [(.t 27)], none⟩,
       ⟨some 29, .un .not (.t 28), none⟩])
    (.cond (.t 29)
     (.seq (.reg [⟨some 30, .mov (.t 0), none⟩,
        ⟨some 31, .mov (.t 5), none⟩,
        ⟨some 32, .load true 6 (.t 7), none⟩,
        ⟨some 33, .iaddr (.slice 6) (.t 30) (.t 31), none⟩,
        ⟨none, .store 6 (.t 33) (.t 32), none⟩])
     (.reg [⟨some 34, .mov (.t 5), none⟩,
       ⟨some 35, .bin .add (.t 34) (.k (.i .i64 1)), none⟩,
       ⟨some 5, .mov (.t 35), none⟩]))
     .skip))))
  (.reg [⟨some 20, .mov (.t 6), none⟩,
    ⟨some 21, .bin .add (.t 20) (.k (.i .i64 1)), none⟩,
    ⟨some 6, .mov (.t 21), none⟩])))
def B286 : AC := (.seq (.reg [⟨some 4, .mov (.k (.sl [] 0 .nil)), none⟩])
  (.seq (.reg [⟨some 8, .mov (.t 0), none⟩,
     ⟨some 9, .mov (.t 1), none⟩,
     ⟨some 10, .call false 332 [(.t 8), (.t 9)], none⟩,
     ⟨some 5, .mov (.t 10), none⟩])
  (.seq (.seq (.reg [⟨some 11, .mov (.t 5), none⟩,
      ⟨some 12, .bin .eql (.t 11) (.k (.i .i64 (-1))), none⟩])
   (.cond (.t 12)
    (.seq (.reg [⟨some 13, .mov (.t 0), none⟩,
       ⟨some 4, .mov (.t 13), none⟩])
    .ret)
    .skip))
  (.seq (.seq (.reg [⟨some 14, .mov (.t 5), none⟩,
      ⟨some 15, .bin .add (.t 14) (.k (.i .i64 1)), none⟩,
      ⟨some 6, .mov (.t 15), none⟩])
   (.blk 0 (.loop L286_1)))
  (.seq (.reg [⟨some 36, .mov (.t 0), none⟩,
     ⟨some 37, .mov (.t 5), none⟩,
     ⟨some 38, .slc (.slice 6) (.t 36) (some (.t 37)) none none, none⟩,
     ⟨none, .bad, none⟩])
  (.seq (.reg [⟨some 39, .mov (.t 0), none⟩,
     ⟨some 40, .mov (.t 5), none⟩,
     ⟨some 41, .slc (.slice 6) (.t 39) none (some (.t 40)) none, none⟩,
     ⟨some 4, .mov (.t 41), none⟩])
  .ret))))))
/-- slices.DeleteFunc[[]tidemark/api.Event,tidemark/api.Event] -/
def af286 : AFunc := { n := 42, depth := 6, kl := [(7, [7])], res := [.tmp 4], body := B286 }

def B287 : AC := (.seq (.reg [⟨some 3, .lbox (.t 0) [3, 5], none⟩,
     ⟨some 4, .mov (.k (.b false)), none⟩])
  (.seq (.reg [⟨some 5, .faddr 0 (.t 3), none⟩,
     ⟨some 6, .load false 1 (.t 5), none⟩,
     ⟨some 7, .load false 1 (.t 1), none⟩,
     ⟨some 8, .nilck (.t 7), none⟩,
     ⟨some 9, .faddr 1 (.t 8), none⟩,
     ⟨some 10, .load false 1 (.t 9), none⟩,
     ⟨some 11, .load false 1 (.t 2), none⟩,
     ⟨some 12, .iaddr (.slice 8) (.t 10) (.t 11), none⟩,
     ⟨some 13, .faddr 2 (.t 12), none⟩,
     ⟨some 14, .load false 1 (.t 13), none⟩,
     ⟨some 15, .bin .leq (.t 6) (.t 14), none⟩,
     ⟨some 4, .mov (.t 15), none⟩])
  .ret))
/-- (*tidemark/feed.Feed).trim$1 -/
def af287 : AFunc := { n := 16, depth := 5, kl := [(3, [3, 5])], res := [.tmp 4], body := B287 }

def L289_1 : AC := (.seq (.reg [⟨some 21, .bin .lss (.t 20) (.t 19), none⟩])
  (.seq (.cond (.t 21)
    .skip
    (.exit 0))
  (.seq (.blk 1 (.seq (.reg [⟨some 22, .iaddr (.slice 3) (.t 18) (.t 20), none⟩,
       ⟨some 23, .load true 3 (.t 22), none⟩,
       ⟨some 9, .lalloc [(.s []), (.b false), (.s [])] [9], none⟩,
       ⟨none, .store 3 (.t 9) (.t 23), none⟩])
    (.seq (.reg [⟨some 25, .mov (.t 7), none⟩,
       ⟨some 26, .mov (.t 0), none⟩,
       ⟨some 27, .nilck (.t 26), none⟩,
       ⟨some 28, .faddr 5 (.t 27), none⟩,
       ⟨some 29, .load false 1 (.t 28), none⟩,
       ⟨some 30, .load true 3 (.t 9), none⟩,
       ⟨some 31, .bslice false 58 3 1 [(.s []), (.b false), (.s [])] [(0, (.t 30))], none⟩,
       ⟨some 32, .call false 335 [(.t 25), (.t 29), (.k (.sl [] 0 .nil)), (.t 31)], none⟩,
       ⟨some 24, .mov (.t 32), none⟩,
       ⟨some 33, .ext (.t 24) 0, none⟩,
       ⟨some 34, .ext (.t 24) 1, none⟩,
       ⟨some 10, .mov (.t 33), none⟩,
       ⟨some 11, .mov (.t 34), none⟩])
    (.seq (.seq (.reg [⟨some 35, .mov (.t 11), none⟩,
        ⟨some 36, .bin .neq (.t 35) (.k (.i .i64 0)), none⟩])
     (.cond (.t 36)
      (.seq (.reg [⟨some 37, .mov (.t 11), none⟩,
         ⟨some 4, .mov (.k (.sl [] 0 .nil)), none⟩,
         ⟨some 5, .mov (.t 37), none⟩])
      .ret)
      .skip))
    (.reg [⟨some 38, .mov (.t 6), none⟩,
      ⟨some 39, .mov (.t 10), none⟩,
      ⟨some 40, .app 100 6 (.t 38) (.t 39), none⟩,
      ⟨some 6, .mov (.t 40), none⟩])))))
  (.reg [⟨some 41, .bin .add (.t 20) (.k (.i .i64 1)), none⟩,
    ⟨some 20, .mov (.t 41), none⟩]))))
def B289 : AC := (.seq (.reg [⟨some 4, .mov (.k (.sl [] 0 .nil)), none⟩,
     ⟨some 5, .mov (.k (.i .i64 0)), none⟩])
  (.seq (.reg [⟨some 6, .mov (.k (.sl [] 0 .nil)), none⟩])
  (.seq (.reg [⟨some 12, .mov (.t 0), none⟩,
     ⟨some 13, .nilck (.t 12), none⟩,
     ⟨some 14, .faddr 0 (.t 13), none⟩,
     ⟨some 15, .faddr 0 (.t 14), none⟩,
     ⟨some 16, .load false 1 (.t 15), none⟩,
     ⟨some 17, .call false 334 [(.t 16)], none⟩,
     ⟨some 7, .mov (.t 17), none⟩])
  (.seq (.seq (.reg [⟨some 18, .mov (.t 1), none⟩,
      ⟨some 19, .len .slice (.t 18), none⟩,
      ⟨some 20, .mov (.k (.i .i64 0)), none⟩])
   (.blk 0 (.loop L289_1)))
  (.seq (.reg [⟨some 42, .mov (.t 6), none⟩,
     ⟨some 4, .mov (.t 42), none⟩,
     ⟨some 5, .mov (.k (.i .i64 0)), none⟩])
  .ret)))))
/-- (*tidemark/machine.Machine).several -/
def af289 : AFunc := { n := 43, depth := 6, kl := [(9, [9])], res := [.tmp 4, .tmp 5], body := B289 }

def B290 : AC := (.seq (.reg [⟨some 4, .mov (.k (.sl [] 0 .nil)), none⟩,
     ⟨some 5, .mov (.k (.i .i64 0)), none⟩])
  (.seq (.seq (.reg [⟨some 7, .mov (.t 0), none⟩,
      ⟨some 8, .nilck (.t 7), none⟩,
      ⟨some 9, .faddr 0 (.t 8), none⟩,
      ⟨some 10, .faddr 1 (.t 9), none⟩,
      ⟨some 11, .load false 1 (.t 10), none⟩,
      ⟨some 12, .mov (.t 1), none⟩,
      ⟨some 13, .call false 336 [(.t 11), (.t 12)], none⟩,
      ⟨some 6, .mov (.t 13), none⟩])
   (.seq (.reg [⟨some 14, .mov (.t 6), none⟩,
      ⟨some 15, .bin .neq (.t 14) (.k (.i .i64 0)), none⟩])
   (.cond (.t 15)
    (.seq (.reg [⟨some 16, .mov (.t 6), none⟩,
       ⟨some 4, .mov (.k (.sl [] 0 .nil)), none⟩,
       ⟨some 5, .mov (.t 16), none⟩])
    .ret)
    .skip)))
  (.seq (.reg [⟨some 17, .mov (.t 0), none⟩,
     ⟨some 18, .nilck (.t 17), none⟩,
     ⟨some 19, .faddr 0 (.t 18), none⟩,
     ⟨some 20, .faddr 0 (.t 19), none⟩,
     ⟨some 21, .load false 1 (.t 20), none⟩,
     ⟨some 22, .mov (.t 1), none⟩,
     ⟨some 23, .call false 337 [(.t 21), (.t 22)], none⟩])
  (.seq (.reg [⟨some 24, .mov (.t 1), none⟩,
     ⟨some 4, .mov (.t 24), none⟩,
     ⟨some 5, .mov (.k (.i .i64 0)), none⟩])
  .ret))))
/-- (*tidemark/machine.Machine).change -/
def af290 : AFunc := { n := 25, depth := 5, kl := [], res := [.tmp 4, .tmp 5], body := B290 }

def B291 : AC := (.seq (.reg [⟨some 4, .mov (.k (.i .i64 0)), none⟩,
     ⟨some 5, .mov (.k (.i .i64 0)), none⟩])
  (.seq (.seq (.reg [⟨some 8, .mov (.t 0), none⟩,
      ⟨some 9, .call false 173 [(.t 8)], none⟩])
   (.cond (.t 9)
    (.seq (.reg [⟨some 4, .mov (.k (.i .i64 0)), none⟩,
       ⟨some 5, .mov (.k (.i .i64 6)), none⟩])
    .ret)
    .skip))
  (.seq (.reg [⟨some 11, .mov (.t 0), none⟩,
     ⟨some 12, .nilck (.t 11), none⟩,
     ⟨some 13, .faddr 0 (.t 12), none⟩,
     ⟨some 14, .load false 1 (.t 13), none⟩,
     ⟨some 15, .mov (.t 1), none⟩,
     ⟨some 16, .call false 338 [(.t 14), (.t 15), (.f 339)], none⟩,
     ⟨some 10, .mov (.t 16), none⟩,
     ⟨some 17, .ext (.t 10) 0, none⟩,
     ⟨some 18, .ext (.t 10) 1, none⟩,
     ⟨some 6, .mov (.t 17), none⟩,
     ⟨some 7, .mov (.t 18), none⟩])
  (.seq (.seq (.reg [⟨some 19, .mov (.t 7), none⟩,
      ⟨some 20, .un .not (.t 19), none⟩])
   (.cond (.t 20)
    (.seq (.reg [⟨some 4, .mov (.k (.i .i64 0)), none⟩,
       ⟨some 5, .mov (.k (.i .i64 90)), none⟩])
    .ret)
    .skip))
  (.seq (.reg [⟨some 21, .mov (.t 6), none⟩,
     ⟨some 4, .mov (.t 21), none⟩,
     ⟨some 5, .mov (.k (.i .i64 0)), none⟩])
  .ret)))))
/-- (*tidemark/sess.Table).find -/
def af291 : AFunc := { n := 22, depth := 5, kl := [], res := [.tmp 4, .tmp 5], body := B291 }

def L293_2 : AC := (.seq (.reg [⟨some 65, .bin .lss (.t 64) (.t 63), none⟩])
  (.seq (.cond (.t 65)
    .skip
    (.exit 2))
  (.seq (.blk 3 (.seq (.reg [⟨some 66, .iaddr (.slice 3) (.t 62) (.t 64), none⟩,
       ⟨some 67, .load true 3 (.t 66), none⟩,
       ⟨some 18, .lalloc [(.s []), (.b false), (.s [])] [18, 73, 79, 84, 90, 94, 96, 107], none⟩,
       ⟨none, .store 3 (.t 18) (.t 67), none⟩])
    (.seq (.reg [⟨some 69, .mov (.t 0), none⟩,
       ⟨some 70, .nilck (.t 69), none⟩,
       ⟨some 71, .faddr 0 (.t 70), none⟩,
       ⟨some 72, .load false 1 (.t 71), none⟩,
       ⟨some 73, .faddr 0 (.t 18), none⟩,
       ⟨some 74, .load false 1 (.t 73), none⟩,
       ⟨some 75, .call false 340 [(.t 72), (.t 74)], none⟩,
       ⟨some 68, .mov (.t 75), none⟩,
       ⟨some 76, .ext (.t 68) 0, none⟩,
       ⟨some 77, .ext (.t 68) 1, none⟩,
       ⟨some 19, .mov (.t 76), none⟩,
       ⟨some 20, .mov (.t 77), none⟩])
    (.seq (.seq (.reg [⟨some 78, .mov (.t 20), none⟩,
        ⟨some 79, .faddr 1 (.t 18), none⟩,
        ⟨some 80, .load false 1 (.t 79), none⟩,
        ⟨some 81, .eq false .bool (.t 78) (.t 80), none⟩,
        ⟨some 82, .mov (.t 81), none⟩,
        ⟨some 83, .mov (.t 19), some (82, true)⟩,
        ⟨some 84, .faddr 2 (.t 18), some (82, true)⟩,
        ⟨some 85, .load false 1 (.t 84), some (82, true)⟩,
        ⟨some 86, .bin .eql (.t 83) (.t 85), some (82, true)⟩,
        ⟨some 87, .pick (.t 82) (.t 86) (.k (.b false)), none⟩])
     (.cond (.t 87)
      (.exit 3)
      .skip))
    (.seq (.reg [⟨some 88, .mov (.t 15), none⟩,
       ⟨some 89, .mov (.t 1), none⟩,
       ⟨some 90, .faddr 0 (.t 18), none⟩,
       ⟨some 91, .load false 1 (.t 90), none⟩,
       ⟨some 92, .mov (.t 20), none⟩,
       ⟨some 93, .mov (.t 19), none⟩,
       ⟨some 94, .faddr 1 (.t 18), none⟩,
       ⟨some 95, .load false 1 (.t 94), none⟩,
       ⟨some 96, .faddr 2 (.t 18), none⟩,
       ⟨some 97, .load false 1 (.t 96), none⟩,
       ⟨some 98, .build [(.i .i64 0), (.s []), (.b false), (.s []), (.b false), (.s [])] [(0, 1, (.t 89)), (1, 1, (.t 91)), (2, 1, (.t 92)), (3, 1, (.t 93)), (4, 1, (.t 95)), (5, 1, (.t 97))], none⟩,
       ⟨some 99, .bslice false 100 6 1 [(.i .i64 0), (.s []), (.b false), (.s []), (.b false), (.s [])] [(0, (.t 98))], none⟩,
       ⟨some 100, .app 100 6 (.t 88) (.t 99), none⟩,
       ⟨some 15, .mov (.t 100), none⟩])
    (.blk 4 (.seq (.reg [⟨some 102, .mov (.t 20), none⟩,
        ⟨some 103, .un .not (.t 102), none⟩,
        ⟨some 101, .mov (.t 103), none⟩])
     (.cond (.t 101)
      (.reg [⟨some 104, .mov (.t 16), none⟩,
        ⟨some 105, .bin .add (.t 104) (.k (.i .i64 1)), none⟩,
        ⟨some 16, .mov (.t 105), none⟩])
      (.seq (.reg [⟨some 107, .faddr 1 (.t 18), none⟩,
         ⟨some 108, .load false 1 (.t 107), none⟩,
         ⟨some 109, .un .not (.t 108), none⟩,
         ⟨some 106, .mov (.t 109), none⟩])
      (.cond (.t 106)
       (.reg [⟨some 110, .mov (.t 16), none⟩,
         ⟨some 111, .bin .sub (.t 110) (.k (.i .i64 1)), none⟩,
         ⟨some 16, .mov (.t 111), none⟩])
       .skip))))))))))
  (.reg [⟨some 112, .bin .add (.t 64) (.k (.i .i64 1)), none⟩,
    ⟨some 64, .mov (.t 112), none⟩]))))
def L293_1 : AC := (.seq (.reg [⟨some 33, .bin .lss (.t 32) (.t 31), none⟩])
  (.seq (.cond (.t 33)
    .skip
    (.exit 0))
  (.seq (.blk 1 (.seq (.reg [⟨some 34, .iaddr (.slice 3) (.t 30) (.t 32), none⟩,
       ⟨some 35, .load true 3 (.t 34), none⟩,
       ⟨some 12, .lalloc [(.s []), (.b false), (.s [])] [12, 41, 47, 52], none⟩,
       ⟨none, .store 3 (.t 12) (.t 35), none⟩])
    (.seq (.reg [⟨some 37, .mov (.t 0), none⟩,
       ⟨some 38, .nilck (.t 37), none⟩,
       ⟨some 39, .faddr 0 (.t 38), none⟩,
       ⟨some 40, .load false 1 (.t 39), none⟩,
       ⟨some 41, .faddr 0 (.t 12), none⟩,
       ⟨some 42, .load false 1 (.t 41), none⟩,
       ⟨some 43, .call false 340 [(.t 40), (.t 42)], none⟩,
       ⟨some 36, .mov (.t 43), none⟩,
       ⟨some 44, .ext (.t 36) 0, none⟩,
       ⟨some 45, .ext (.t 36) 1, none⟩,
       ⟨some 13, .mov (.t 44), none⟩,
       ⟨some 14, .mov (.t 45), none⟩])
    (.seq (.reg [⟨some 46, .mov (.t 14), none⟩,
       ⟨some 47, .faddr 1 (.t 12), none⟩,
       ⟨some 48, .load false 1 (.t 47), none⟩,
       ⟨some 49, .eq true .bool (.t 46) (.t 48), none⟩,
       ⟨some 50, .mov (.t 49), none⟩,
       ⟨some 51, .mov (.t 13), some (50, false)⟩,
       ⟨some 52, .faddr 2 (.t 12), some (50, false)⟩,
       ⟨some 53, .load false 1 (.t 52), some (50, false)⟩,
       ⟨some 54, .bin .neq (.t 51) (.t 53), some (50, false)⟩,
       ⟨some 55, .pick (.t 50) (.k (.b true)) (.t 54), none⟩])
    (.cond (.t 55)
     (.seq (.reg [⟨some 8, .mov (.k (.sl [] 0 .nil)), none⟩,
        ⟨some 9, .mov (.k (.i .i64 60)), none⟩])
     .ret)
     .skip)))))
  (.reg [⟨some 56, .bin .add (.t 32) (.k (.i .i64 1)), none⟩,
    ⟨some 32, .mov (.t 56), none⟩]))))
def B293 : AC := (.seq (.reg [⟨some 8, .mov (.k (.sl [] 0 .nil)), none⟩,
     ⟨some 9, .mov (.k (.i .i64 0)), none⟩])
  (.seq (.seq (.reg [⟨some 21, .mov (.t 0), none⟩,
      ⟨some 22, .call false 164 [(.t 21)], none⟩,
      ⟨some 23, .un .not (.t 22), none⟩])
   (.cond (.t 23)
    (.seq (.reg [⟨some 8, .mov (.k (.sl [] 0 .nil)), none⟩,
       ⟨some 9, .mov (.k (.i .i64 6)), none⟩])
    .ret)
    .skip))
  (.seq (.seq (.reg [⟨some 24, .mov (.t 2), none⟩,
      ⟨some 25, .mov (.t 3), none⟩,
      ⟨some 26, .call true 143 [(.t 24), (.t 25)], none⟩,
      ⟨some 10, .mov (.t 26), none⟩])
   (.seq (.reg [⟨some 27, .mov (.t 10), none⟩,
      ⟨some 28, .bin .neq (.t 27) (.k (.i .i64 0)), none⟩])
   (.cond (.t 28)
    (.seq (.reg [⟨some 29, .mov (.t 10), none⟩,
       ⟨some 8, .mov (.k (.sl [] 0 .nil)), none⟩,
       ⟨some 9, .mov (.t 29), none⟩])
    .ret)
    .skip)))
  (.seq (.seq (.reg [⟨some 30, .mov (.t 2), none⟩,
      ⟨some 31, .len .slice (.t 30), none⟩,
      ⟨some 32, .mov (.k (.i .i64 0)), none⟩])
   (.blk 0 (.loop L293_1)))
  (.seq (.reg [⟨some 15, .mov (.k (.sl [] 0 .nil)), none⟩])
  (.seq (.reg [⟨some 57, .mov (.t 0), none⟩,
     ⟨some 58, .nilck (.t 57), none⟩,
     ⟨some 59, .faddr 0 (.t 58), none⟩,
     ⟨some 60, .load false 1 (.t 59), none⟩,
     ⟨some 61, .call false 166 [(.t 60)], none⟩,
     ⟨some 16, .mov (.t 61), none⟩])
  (.seq (.seq (.reg [⟨some 62, .mov (.t 3), none⟩,
      ⟨some 63, .len .slice (.t 62), none⟩,
      ⟨some 64, .mov (.k (.i .i64 0)), none⟩])
   (.blk 2 (.loop L293_2)))
  (.seq (.seq (.reg [⟨some 113, .mov (.t 16), none⟩,
      ⟨some 114, .bin .gtr (.t 113) (.k (.i .i64 24)), none⟩])
   (.cond (.t 114)
    (.seq (.reg [⟨some 8, .mov (.k (.sl [] 0 .nil)), none⟩,
       ⟨some 9, .mov (.k (.i .i64 7)), none⟩])
    .ret)
    .skip))
  (.seq (.reg [⟨some 115, .mov (.t 15), none⟩,
     ⟨some 8, .mov (.t 115), none⟩,
     ⟨some 9, .mov (.k (.i .i64 0)), none⟩])
  .ret)))))))))
/-- (*tidemark/kv.Map).Plan -/
def af293 : AFunc := { n := 116, depth := 7, kl := [(12, [12, 41, 47, 52]), (18, [18, 73, 79, 84, 90, 94, 96, 107])], res := [.tmp 8, .tmp 9], body := B293 }

def B308 : AC := (.seq (.reg [⟨some 2, .mov (.k (.i .i64 0)), none⟩])
  (.seq (.seq (.reg [⟨some 3, .mov (.t 0), none⟩,
      ⟨some 4, .call true 250 [(.t 3), (.k (.i .i64 1)), (.k (.i .i64 24)), (.f 356)], none⟩,
      ⟨some 5, .un .not (.t 4), none⟩])
   (.cond (.t 5)
    (.seq (.reg [⟨some 2, .mov (.k (.i .i64 20)), none⟩])
    .ret)
    .skip))
  (.seq (.reg [⟨some 2, .mov (.k (.i .i64 0)), none⟩])
  .ret)))
/-- tidemark/text.Key -/
def af308 : AFunc := { n := 6, depth := 3, kl := [], res := [.tmp 2], body := B308 }


end Go.Proofs.YtlicphklkpbkdaaGreat
