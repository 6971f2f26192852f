/- The abstract interpreter's code of the functions that the laws of this seat reach. Printed by a program. -/
import Derived.Test.YtopbdgdfnmlldaaGreatDoorAi09
namespace Go.Proofs.YtopbdgdfnmlldaaGreatDoor
open Go Ai

def L3_1 : AC := (.seq (.reg [⟨some 19, .bin .lss (.t 18) (.t 17), none⟩])
 (.seq (.cond (.t 19)
 .skip
 (.exit 0))
 (.seq (.blk 1 (.seq (.reg [⟨some 20, .iaddr (.slice 1) (.t 16) (.t 18), none⟩, ⟨some 21, .load false 1 (.t 20), none⟩, ⟨some 4, .mov (.t 21), none⟩])
 (.seq (.reg [⟨some 22, .mov (.t 4), none⟩, ⟨some 23, .load true 24 (.t 1), none⟩, ⟨some 24, .call false 7 [(.t 22), (.t 23)], none⟩, ⟨some 25, .build [(.i .i64 0), (.sl [] 0 .nil), (.sl [] 0 .nil), (.sl [] 0 .nil), (.i .i64 0)] [(0, 1, (.k (.i .i64 6)))], none⟩, ⟨some 26, .call true 6 [(.t 24), (.t 25)], none⟩, ⟨some 27, .un .not (.t 26), none⟩, ⟨some 28, .mov (.t 27), none⟩, ⟨some 29, .mov (.t 4), some (28, false)⟩,
 ⟨some 30, .call false 9 [(.t 29)], some (28, false)⟩,
 ⟨some 31, .build [(.i .i64 0), (.i .i64 0), (.i .i64 0), (.i .i64 0), (.i .i64 0), (.i .i64 0), (.i .i64 0), (.i .i64 0), (.sl [] 0 .nil), (.sl [] 0 .nil), (.sl [] 0 .nil), (.sl [] 0 .nil), (.sl [] 0 .nil), (.i .i64 0), (.i .i64 0), (.i .i64 0), (.i .i64 0), (.i .i64 0), (.i .i64 0), (.i .i64 0), (.i .i64 0), (.i .i64 0), (.i .i64 0), (.i .i64 0), (.i .i64 0), (.i .i64 0), (.i .i64 0), (.i .i64 0), (.i .i64 0), (.i .i64 0), (.i .i64 0), (.i .i64 0), (.i .i64 0), (.i .i64 0), (.i .i64 0), (.i .i64 0), (.i .i64 0), (.sl [] 0 .nil), (.i .i64 0), (.i .i64 0), (.sl [] 0 .nil), (.sl [] 0 .nil), (.sl [] 0 .nil)] [], some (28, false)⟩,
 ⟨some 32, .call true 8 [(.t 30), (.t 31)], some (28, false)⟩,
 ⟨some 33, .un .not (.t 32), some (28, false)⟩,
 ⟨some 34, .pick (.t 28) (.k (.b true)) (.t 33), none⟩, ⟨some 35, .mov (.t 34), none⟩, ⟨some 36, .mov (.t 4), some (35, false)⟩,
 ⟨some 37, .call false 10 [(.t 36)], some (35, false)⟩,
 ⟨some 38, .eq true .ptr (.t 37) (.k .nilp), some (35, false)⟩,
 ⟨some 39, .pick (.t 35) (.k (.b true)) (.t 38), none⟩])
 (.cond (.t 39)
 (.seq (.reg [⟨some 2, .mov (.k (.b false)), none⟩])
 .ret)
 .skip))))
 (.reg [⟨some 40, .bin .add (.t 18) (.k (.i .i64 1)), none⟩, ⟨some 18, .mov (.t 40), none⟩]))))
def B3 : AC := (.seq (.reg [⟨some 1, .lbox (.t 0) [1], none⟩, ⟨some 2, .mov (.k (.b false)), none⟩])
 (.seq (.seq (.reg [⟨some 7, .build [(.sl [] 0 .nil), (.sl [] 0 .nil)] [], none⟩, ⟨some 8, .load true 24 (.t 1), none⟩, ⟨some 9, .build [(.i .i64 0), (.i .i64 0), (.i .i64 0), (.i .i64 0), (.i .i64 0), (.i .i64 0), (.i .i64 0), (.i .i64 0), (.i .i64 0), (.i .i64 0), (.b false), (.sl [] 0 .nil), (.i .i64 0), (.i .i64 0), (.sl [] 0 .nil), (.sl [] 0 .nil), (.sl [] 0 .nil), (.i .i64 0), (.b false), (.sl [] 0 .nil), (.sl [] 0 .nil), (.sl [] 0 .nil), (.i .i64 0), (.i .i64 0), (.i .i64 0), (.i .i64 0), (.i .i64 0)] [(0, 24, (.t 8))], none⟩, ⟨some 10, .bslice false 35 27 1 [(.i .i64 0), (.i .i64 0), (.i .i64 0), (.i .i64 0), (.i .i64 0), (.i .i64 0), (.i .i64 0), (.i .i64 0), (.i .i64 0), (.i .i64 0), (.b false), (.sl [] 0 .nil), (.i .i64 0), (.i .i64 0), (.sl [] 0 .nil), (.sl [] 0 .nil), (.sl [] 0 .nil), (.i .i64 0), (.b false), (.sl [] 0 .nil), (.sl [] 0 .nil), (.sl [] 0 .nil), (.i .i64 0), (.i .i64 0), (.i .i64 0), (.i .i64 0), (.i .i64 0)] [(0, (.t 9))], none⟩, ⟨some 11, .call true 4 [(.t 7), (.t 10)], none⟩, ⟨some 12, .un .not (.t 11), none⟩])
 (.cond (.t 12)
 (.seq (.reg [⟨some 13, .call true 5 [], none⟩, ⟨some 2, .mov (.t 13), none⟩])
 .ret)
 .skip))
 (.seq (.seq (.reg [⟨some 14, .build [.nilp, .nilp, (.i .i64 0), (.i .i64 0), (.i .i64 0), (.i .i64 0), (.i .i64 0), (.i .i64 0), (.i .i64 0), (.i .i64 0), (.sl [] 0 .nil), (.sl [] 0 .nil), (.sl [] 0 .nil), (.sl [] 0 .nil), (.sl [] 0 .nil), (.i .i64 0), (.i .i64 0), (.i .i64 0), (.i .i64 0), (.i .i64 0), (.i .i64 0), (.i .i64 0), (.i .i64 0), (.i .i64 0), (.i .i64 0), (.i .i64 0), (.i .i64 0), (.i .i64 0), (.i .i64 0), (.i .i64 0), (.i .i64 0), (.i .i64 0), (.i .i64 0), (.i .i64 0), (.i .i64 0), (.i .i64 0), (.i .i64 0), (.i .i64 0), (.i .i64 0), (.sl [] 0 .nil), (.i .i64 0), (.i .i64 0), (.sl [] 0 .nil), (.sl [] 0 .nil), (.sl [] 0 .nil), (.b false)] [], none⟩, ⟨some 15, .box 52 (.t 14), none⟩, ⟨some 16, .bslice false 38 1 2 [.nilp] [(0, (.k .nilp)), (1, (.t 15))], none⟩, ⟨some 17, .len .slice (.t 16), none⟩, ⟨some 18, .mov (.k (.i .i64 0)), none⟩])
 (.blk 0 (.loop L3_1)))
 (.seq (.reg [⟨some 42, .build [(.sl [] 0 .nil), (.sl [] 0 .nil)] [], none⟩, ⟨some 43, .call false 11 [(.k (.i .i64 0)), (.k .nilp), (.t 42), (.k (.i .i64 1))], none⟩, ⟨some 41, .mov (.t 43), none⟩, ⟨some 44, .ext (.t 41) 0, none⟩, ⟨some 45, .ext (.t 41) 1, none⟩, ⟨some 5, .mov (.t 44), none⟩, ⟨some 6, .mov (.t 45), none⟩])
 (.seq (.reg [⟨some 46, .mov (.t 5), none⟩, ⟨some 47, .eq false .ptr (.t 46) (.k .nilp), none⟩, ⟨some 48, .mov (.t 47), none⟩, ⟨some 49, .mov (.t 6), some (48, true)⟩,
 ⟨some 50, .bin .eql (.t 49) (.k (.i .i64 6)), some (48, true)⟩,
 ⟨some 51, .pick (.t 48) (.t 50) (.k (.b false)), none⟩, ⟨some 52, .mov (.t 51), none⟩, ⟨some 53, .call true 5 [], some (52, true)⟩,
 ⟨some 54, .pick (.t 52) (.t 53) (.k (.b false)), none⟩, ⟨some 2, .mov (.t 54), none⟩])
 .ret)))))
/-- tidemark/tidemarklaw20.NodeNobody -/
def af3 : AFunc := { n := 55, depth := 6, kl := [(1, [1])], res := [.tmp 2], body := B3 }

def L4_2 : AC := (.seq (.seq (.reg [⟨some 76, .mov (.t 8), none⟩, ⟨some 77, .faddr 2 (.t 7), none⟩, ⟨some 78, .faddr 9 (.t 77), none⟩, ⟨some 79, .load false 1 (.t 78), none⟩, ⟨some 80, .len .slice (.t 79), none⟩, ⟨some 81, .bin .lss (.t 76) (.t 80), none⟩, ⟨some 82, .mov (.t 81), none⟩, ⟨some 83, .mov (.t 5), some (82, true)⟩,
 ⟨some 84, .bin .leq (.t 83) (.k (.i .i64 32768)), some (82, true)⟩,
 ⟨some 85, .pick (.t 82) (.t 84) (.k (.b false)), none⟩])
 (.cond (.t 85)
 .skip
 (.exit 2)))
 (.seq (.blk 3 (.reg [⟨some 88, .mov (.t 5), none⟩, ⟨some 89, .faddr 2 (.t 7), none⟩, ⟨some 90, .faddr 9 (.t 89), none⟩, ⟨some 91, .load false 1 (.t 90), none⟩, ⟨some 92, .mov (.t 8), none⟩, ⟨some 93, .iaddr (.slice 3) (.t 91) (.t 92), none⟩, ⟨some 94, .faddr 2 (.t 93), none⟩, ⟨some 95, .load false 1 (.t 94), none⟩, ⟨some 96, .len .slice (.t 95), none⟩, ⟨some 97, .minmax false (.t 96) (.k (.i .i64 32768)), none⟩, ⟨some 98, .bin .add (.k (.i .i64 1)) (.t 97), none⟩, ⟨some 99, .bin .add (.t 88) (.t 98), none⟩, ⟨some 5, .mov (.t 99), none⟩]))
 (.reg [⟨some 86, .mov (.t 8), none⟩, ⟨some 87, .bin .add (.t 86) (.k (.i .i64 1)), none⟩, ⟨some 8, .mov (.t 87), none⟩])))
def L4_1 : AC := (.seq (.seq (.reg [⟨some 17, .mov (.t 6), none⟩, ⟨some 18, .mov (.t 1), none⟩, ⟨some 19, .len .slice (.t 18), none⟩, ⟨some 20, .bin .lss (.t 17) (.t 19), none⟩, ⟨some 21, .mov (.t 20), none⟩, ⟨some 22, .mov (.t 6), some (21, true)⟩,
 ⟨some 23, .bin .leq (.t 22) (.k (.i .i64 80)), some (21, true)⟩,
 ⟨some 24, .pick (.t 21) (.t 23) (.k (.b false)), none⟩, ⟨some 25, .mov (.t 24), none⟩, ⟨some 26, .mov (.t 5), some (25, true)⟩,
 ⟨some 27, .bin .leq (.t 26) (.k (.i .i64 32768)), some (25, true)⟩,
 ⟨some 28, .pick (.t 25) (.t 27) (.k (.b false)), none⟩])
 (.cond (.t 28)
 .skip
 (.exit 0)))
 (.seq (.blk 1 (.seq (.reg [⟨some 31, .mov (.t 1), none⟩, ⟨some 32, .mov (.t 6), none⟩, ⟨some 33, .iaddr (.slice 27) (.t 31) (.t 32), none⟩, ⟨some 34, .faddr 0 (.t 33), none⟩, ⟨some 35, .load true 24 (.t 34), none⟩, ⟨some 7, .lalloc [(.i .i64 0), (.i .i64 0), (.i .i64 0), (.i .i64 0), (.i .i64 0), (.i .i64 0), (.i .i64 0), (.i .i64 0), (.i .i64 0), (.i .i64 0), (.b false), (.sl [] 0 .nil), (.i .i64 0), (.i .i64 0), (.sl [] 0 .nil), (.sl [] 0 .nil), (.sl [] 0 .nil), (.i .i64 0), (.b false), (.sl [] 0 .nil), (.sl [] 0 .nil), (.sl [] 0 .nil), (.i .i64 0), (.i .i64 0)] [7, 37, 41, 42, 43, 48, 49, 52, 53, 61, 62, 63, 64, 67, 68, 69, 70, 77, 78, 89, 90], none⟩, ⟨none, .store 24 (.t 7) (.t 35), none⟩])
 (.seq (.reg [⟨some 36, .mov (.t 5), none⟩, ⟨some 37, .faddr 19 (.t 7), none⟩, ⟨some 38, .load false 1 (.t 37), none⟩, ⟨some 39, .len .slice (.t 38), none⟩, ⟨some 40, .minmax false (.t 39) (.k (.i .i64 32768)), none⟩, ⟨some 41, .faddr 2 (.t 7), none⟩, ⟨some 42, .faddr 10 (.t 41), none⟩, ⟨some 43, .faddr 4 (.t 42), none⟩, ⟨some 44, .load false 1 (.t 43), none⟩, ⟨some 45, .len .slice (.t 44), none⟩, ⟨some 46, .minmax false (.t 45) (.k (.i .i64 32768)), none⟩, ⟨some 47, .bin .add (.t 40) (.t 46), none⟩, ⟨some 48, .faddr 20 (.t 7), none⟩, ⟨some 49, .faddr 0 (.t 48), none⟩, ⟨some 50, .load false 1 (.t 49), none⟩, ⟨some 51, .len .slice (.t 50), none⟩, ⟨some 52, .faddr 20 (.t 7), none⟩, ⟨some 53, .faddr 1 (.t 52), none⟩, ⟨some 54, .load false 1 (.t 53), none⟩, ⟨some 55, .len .slice (.t 54), none⟩, ⟨some 56, .bin .add (.t 51) (.t 55), none⟩, ⟨some 57, .minmax false (.t 56) (.k (.i .i64 32768)), none⟩, ⟨some 58, .bin .add (.t 47) (.t 57), none⟩, ⟨some 59, .bin .add (.t 36) (.t 58), none⟩, ⟨some 5, .mov (.t 59), none⟩])
 (.seq (.reg [⟨some 60, .mov (.t 5), none⟩, ⟨some 61, .faddr 2 (.t 7), none⟩, ⟨some 62, .faddr 10 (.t 61), none⟩, ⟨some 63, .faddr 2 (.t 62), none⟩, ⟨some 64, .faddr 0 (.t 63), none⟩, ⟨some 65, .load false 1 (.t 64), none⟩, ⟨some 66, .len .slice (.t 65), none⟩, ⟨some 67, .faddr 2 (.t 7), none⟩, ⟨some 68, .faddr 10 (.t 67), none⟩, ⟨some 69, .faddr 2 (.t 68), none⟩, ⟨some 70, .faddr 1 (.t 69), none⟩, ⟨some 71, .load false 1 (.t 70), none⟩, ⟨some 72, .len .slice (.t 71), none⟩, ⟨some 73, .bin .add (.t 66) (.t 72), none⟩, ⟨some 74, .minmax false (.t 73) (.k (.i .i64 32768)), none⟩, ⟨some 75, .bin .add (.t 60) (.t 74), none⟩, ⟨some 5, .mov (.t 75), none⟩])
 (.seq (.reg [⟨some 8, .mov (.k (.i .i64 0)), none⟩])
 (.blk 2 (.loop L4_2)))))))
 (.reg [⟨some 29, .mov (.t 6), none⟩, ⟨some 30, .bin .add (.t 29) (.k (.i .i64 1)), none⟩, ⟨some 6, .mov (.t 30), none⟩])))
def B4 : AC := (.seq (.reg [⟨some 2, .lbox (.t 0) [2, 9, 12], none⟩, ⟨some 4, .mov (.k (.b false)), none⟩])
 (.seq (.reg [⟨some 9, .faddr 0 (.t 2), none⟩, ⟨some 10, .load false 1 (.t 9), none⟩, ⟨some 11, .len .slice (.t 10), none⟩, ⟨some 12, .faddr 1 (.t 2), none⟩, ⟨some 13, .load false 1 (.t 12), none⟩, ⟨some 14, .len .slice (.t 13), none⟩, ⟨some 15, .bin .add (.t 11) (.t 14), none⟩, ⟨some 16, .minmax false (.t 15) (.k (.i .i64 32768)), none⟩, ⟨some 5, .mov (.t 16), none⟩])
 (.seq (.seq (.reg [⟨some 6, .mov (.k (.i .i64 0)), none⟩])
 (.blk 0 (.loop L4_1)))
 (.seq (.reg [⟨some 100, .mov (.t 1), none⟩, ⟨some 101, .len .slice (.t 100), none⟩, ⟨some 102, .bin .leq (.t 101) (.k (.i .i64 80)), none⟩, ⟨some 103, .mov (.t 102), none⟩, ⟨some 104, .mov (.t 5), some (103, true)⟩,
 ⟨some 105, .bin .leq (.t 104) (.k (.i .i64 32768)), some (103, true)⟩,
 ⟨some 106, .pick (.t 103) (.t 105) (.k (.b false)), none⟩, ⟨some 4, .mov (.t 106), none⟩])
 .ret))))
/-- tidemark/tidemarklaw20.short -/
def af4 : AFunc := { n := 107, depth := 7, kl := [(2, [2, 9, 12]), (7, [7, 37, 41, 42, 43, 48, 49, 52, 53, 61, 62, 63, 64, 67, 68, 69, 70, 77, 78, 89, 90])], res := [.tmp 4], body := B4 }

def B5 : AC := (.seq (.reg [⟨some 0, .mov (.k (.b false)), none⟩])
 (.seq (.reg [⟨some 6, .bslice false 3 1 1 [(.i .i64 0)] [(0, (.k (.i .i64 0)))], none⟩, ⟨some 7, .build [(.sl [] 0 .nil), (.sl [] 0 .nil)] [(0, 1, (.t 6))], none⟩, ⟨some 8, .call false 12 [(.k (.i .i64 0)), (.t 7), (.k (.i .i64 1))], none⟩, ⟨some 5, .mov (.t 8), none⟩, ⟨some 9, .ext (.t 5) 0, none⟩, ⟨some 10, .ext (.t 5) 1, none⟩, ⟨some 11, .ext (.t 5) 2, none⟩, ⟨some 1, .mov (.t 9), none⟩, ⟨some 2, .mov (.t 10), none⟩, ⟨some 3, .mov (.t 11), none⟩])
 (.seq (.seq (.reg [⟨some 12, .mov (.t 3), none⟩, ⟨some 13, .bin .neq (.t 12) (.k (.i .i64 0)), none⟩])
 (.cond (.t 13)
 (.seq (.reg [⟨some 0, .mov (.k (.b false)), none⟩])
 .ret)
 .skip))
 (.seq (.reg [⟨some 14, .mov (.t 2), none⟩, ⟨some 15, .build [(.i .i64 0), (.i .i64 0), (.i .i64 0), (.i .i64 0), (.i .i64 0), (.i .i64 0), (.i .i64 0), (.i .i64 0), (.i .i64 0), (.i .i64 0), (.b false), (.sl [] 0 .nil), (.i .i64 0), (.i .i64 0), (.sl [] 0 .nil), (.sl [] 0 .nil), (.sl [] 0 .nil), (.i .i64 0), (.b false), (.sl [] 0 .nil), (.sl [] 0 .nil), (.sl [] 0 .nil), (.i .i64 0), (.i .i64 0)] [(0, 1, (.k (.i .i64 1))), (1, 1, (.k (.i .i64 3)))], none⟩, ⟨some 16, .call false 7 [(.t 14), (.t 15)], none⟩, ⟨some 4, .lalloc [(.i .i64 0), (.sl [] 0 .nil), (.sl [] 0 .nil), (.sl [] 0 .nil), (.i .i64 0)] [4, 17, 22], none⟩, ⟨none, .store 5 (.t 4) (.t 16), none⟩])
 (.seq (.reg [⟨some 17, .faddr 2 (.t 4), none⟩, ⟨some 18, .load false 1 (.t 17), none⟩, ⟨some 19, .len .slice (.t 18), none⟩, ⟨some 20, .bin .eql (.t 19) (.k (.i .i64 1)), none⟩, ⟨some 21, .mov (.t 20), none⟩, ⟨some 22, .faddr 2 (.t 4), some (21, true)⟩,
 ⟨some 23, .load false 1 (.t 22), some (21, true)⟩,
 ⟨some 24, .iaddr (.slice 4) (.t 23) (.k (.i .i64 0)), some (21, true)⟩,
 ⟨some 25, .load true 4 (.t 24), some (21, true)⟩,
 ⟨some 26, .build [(.i .i64 0), (.i .i64 0), (.i .i64 0), (.i .i64 0)] [(0, 1, (.k (.i .i64 1))), (1, 1, (.k (.i .i64 1)))], some (21, true)⟩,
 ⟨some 27, .eq false (.struct [(0, 1, false, .int), (1, 1, false, .int), (2, 2, true, (.struct [(0, 1, false, .int), (1, 1, false, .int)]))]) (.t 25) (.t 26), some (21, true)⟩,
 ⟨some 28, .pick (.t 21) (.t 27) (.k (.b false)), none⟩, ⟨some 29, .mov (.t 28), none⟩, ⟨some 30, .mov (.t 2), some (29, true)⟩,
 ⟨some 31, .call false 9 [(.t 30)], some (29, true)⟩,
 ⟨some 32, .fld false 3 1 (.t 31), some (29, true)⟩,
 ⟨some 33, .bin .eql (.t 32) (.k (.i .i64 3)), some (29, true)⟩,
 ⟨some 34, .pick (.t 29) (.t 33) (.k (.b false)), none⟩, ⟨some 35, .mov (.t 34), none⟩, ⟨some 36, .mov (.t 2), some (35, true)⟩,
 ⟨some 37, .call false 10 [(.t 36)], some (35, true)⟩,
 ⟨some 38, .call false 13 [(.t 37)], some (35, true)⟩,
 ⟨some 39, .bin .eql (.t 38) (.k (.i .i64 1)), some (35, true)⟩,
 ⟨some 40, .pick (.t 35) (.t 39) (.k (.b false)), none⟩, ⟨some 0, .mov (.t 40), none⟩])
 .ret)))))
/-- tidemark/tidemarklaw20.awake -/
def af5 : AFunc := { n := 41, depth := 6, kl := [(4, [4, 17, 22])], res := [.tmp 0], body := B5 }

def L6_2 : AC := (.seq (.reg [⟨some 67, .bin .lss (.t 66) (.t 65), none⟩])
 (.seq (.cond (.t 67)
 .skip
 (.exit 2))
 (.seq (.blk 3 (.seq (.reg [⟨some 68, .mov (.t 66), none⟩, ⟨some 6, .mov (.t 68), none⟩])
 (.seq (.reg [⟨some 69, .faddr 3 (.t 2), none⟩, ⟨some 70, .load false 1 (.t 69), none⟩, ⟨some 71, .mov (.t 6), none⟩, ⟨some 72, .iaddr (.slice 3) (.t 70) (.t 71), none⟩, ⟨some 73, .load true 3 (.t 72), none⟩, ⟨some 74, .faddr 3 (.t 3), none⟩, ⟨some 75, .load false 1 (.t 74), none⟩, ⟨some 76, .mov (.t 6), none⟩, ⟨some 77, .iaddr (.slice 3) (.t 75) (.t 76), none⟩, ⟨some 78, .load true 3 (.t 77), none⟩, ⟨some 79, .eq true (.struct [(0, 1, false, .int), (1, 1, false, .int), (2, 1, false, .int)]) (.t 73) (.t 78), none⟩])
 (.cond (.t 79)
 (.seq (.reg [⟨some 4, .mov (.k (.b false)), none⟩])
 .ret)
 .skip))))
 (.reg [⟨some 80, .bin .add (.t 66) (.k (.i .i64 1)), none⟩, ⟨some 66, .mov (.t 80), none⟩]))))
def L6_1 : AC := (.seq (.reg [⟨some 49, .bin .lss (.t 48) (.t 47), none⟩])
 (.seq (.cond (.t 49)
 .skip
 (.exit 0))
 (.seq (.blk 1 (.seq (.reg [⟨some 50, .mov (.t 48), none⟩, ⟨some 5, .mov (.t 50), none⟩])
 (.seq (.reg [⟨some 51, .faddr 2 (.t 2), none⟩, ⟨some 52, .load false 1 (.t 51), none⟩, ⟨some 53, .mov (.t 5), none⟩, ⟨some 54, .iaddr (.slice 4) (.t 52) (.t 53), none⟩, ⟨some 55, .load true 4 (.t 54), none⟩, ⟨some 56, .faddr 2 (.t 3), none⟩, ⟨some 57, .load false 1 (.t 56), none⟩, ⟨some 58, .mov (.t 5), none⟩, ⟨some 59, .iaddr (.slice 4) (.t 57) (.t 58), none⟩, ⟨some 60, .load true 4 (.t 59), none⟩, ⟨some 61, .eq true (.struct [(0, 1, false, .int), (1, 1, false, .int), (2, 2, true, (.struct [(0, 1, false, .int), (1, 1, false, .int)]))]) (.t 55) (.t 60), none⟩])
 (.cond (.t 61)
 (.seq (.reg [⟨some 4, .mov (.k (.b false)), none⟩])
 .ret)
 .skip))))
 (.reg [⟨some 62, .bin .add (.t 48) (.k (.i .i64 1)), none⟩, ⟨some 48, .mov (.t 62), none⟩]))))
def B6 : AC := (.seq (.reg [⟨some 2, .lbox (.t 0) [2, 7, 13, 20, 29, 38, 45, 51, 63, 69], none⟩, ⟨some 3, .lbox (.t 1) [3, 9, 15, 23, 32, 40, 56, 74], none⟩, ⟨some 4, .mov (.k (.b false)), none⟩])
 (.seq (.seq (.reg [⟨some 7, .faddr 0 (.t 2), none⟩, ⟨some 8, .load false 1 (.t 7), none⟩, ⟨some 9, .faddr 0 (.t 3), none⟩, ⟨some 10, .load false 1 (.t 9), none⟩, ⟨some 11, .bin .neq (.t 8) (.t 10), none⟩, ⟨some 12, .mov (.t 11), none⟩, ⟨some 13, .faddr 4 (.t 2), some (12, false)⟩,
 ⟨some 14, .load false 1 (.t 13), some (12, false)⟩,
 ⟨some 15, .faddr 4 (.t 3), some (12, false)⟩,
 ⟨some 16, .load false 1 (.t 15), some (12, false)⟩,
 ⟨some 17, .bin .neq (.t 14) (.t 16), some (12, false)⟩,
 ⟨some 18, .pick (.t 12) (.k (.b true)) (.t 17), none⟩, ⟨some 19, .mov (.t 18), none⟩, ⟨some 20, .faddr 2 (.t 2), some (19, false)⟩,
 ⟨some 21, .load false 1 (.t 20), some (19, false)⟩,
 ⟨some 22, .len .slice (.t 21), some (19, false)⟩,
 ⟨some 23, .faddr 2 (.t 3), some (19, false)⟩,
 ⟨some 24, .load false 1 (.t 23), some (19, false)⟩,
 ⟨some 25, .len .slice (.t 24), some (19, false)⟩,
 ⟨some 26, .bin .neq (.t 22) (.t 25), some (19, false)⟩,
 ⟨some 27, .pick (.t 19) (.k (.b true)) (.t 26), none⟩, ⟨some 28, .mov (.t 27), none⟩, ⟨some 29, .faddr 3 (.t 2), some (28, false)⟩,
 ⟨some 30, .load false 1 (.t 29), some (28, false)⟩,
 ⟨some 31, .len .slice (.t 30), some (28, false)⟩,
 ⟨some 32, .faddr 3 (.t 3), some (28, false)⟩,
 ⟨some 33, .load false 1 (.t 32), some (28, false)⟩,
 ⟨some 34, .len .slice (.t 33), some (28, false)⟩,
 ⟨some 35, .bin .neq (.t 31) (.t 34), some (28, false)⟩,
 ⟨some 36, .pick (.t 28) (.k (.b true)) (.t 35), none⟩, ⟨some 37, .mov (.t 36), none⟩, ⟨some 38, .faddr 1 (.t 2), some (37, false)⟩,
 ⟨some 39, .load false 1 (.t 38), some (37, false)⟩,
 ⟨some 40, .faddr 1 (.t 3), some (37, false)⟩,
 ⟨some 41, .load false 1 (.t 40), some (37, false)⟩,
 ⟨some 42, .call true 14 [(.t 39), (.t 41)], some (37, false)⟩,
 ⟨some 43, .un .not (.t 42), some (37, false)⟩,
 ⟨some 44, .pick (.t 37) (.k (.b true)) (.t 43), none⟩])
 (.cond (.t 44)
 (.seq (.reg [⟨some 4, .mov (.k (.b false)), none⟩])
 .ret)
 .skip))
 (.seq (.seq (.reg [⟨some 45, .faddr 2 (.t 2), none⟩, ⟨some 46, .load false 1 (.t 45), none⟩, ⟨some 47, .len .slice (.t 46), none⟩, ⟨some 48, .mov (.k (.i .i64 0)), none⟩])
 (.blk 0 (.loop L6_1)))
 (.seq (.seq (.reg [⟨some 63, .faddr 3 (.t 2), none⟩, ⟨some 64, .load false 1 (.t 63), none⟩, ⟨some 65, .len .slice (.t 64), none⟩, ⟨some 66, .mov (.k (.i .i64 0)), none⟩])
 (.blk 2 (.loop L6_2)))
 (.seq (.reg [⟨some 4, .mov (.k (.b true)), none⟩])
 .ret)))))
/-- tidemark/tidemarkref20.Same -/
def af6 : AFunc := { n := 81, depth := 7, kl := [(2, [2, 7, 13, 20, 29, 38, 45, 51, 63, 69]), (3, [3, 9, 15, 23, 32, 40, 56, 74])], res := [.tmp 4], body := B6 }

def B7 : AC := (.seq (.reg [⟨some 3, .lbox (.t 1) [3, 14, 30, 31, 56], none⟩, ⟨some 4, .lalloc [(.i .i64 0), (.sl [] 0 .nil), (.sl [] 0 .nil), (.sl [] 0 .nil), (.i .i64 0)] [4], none⟩])
 (.seq (.seq (.reg [⟨some 11, .mov (.t 0), none⟩, ⟨some 12, .call false 15 [(.t 11)], none⟩])
 (.cond (.t 12)
 (.seq (.reg [⟨some 13, .build [(.i .i64 0), (.sl [] 0 .nil), (.sl [] 0 .nil), (.sl [] 0 .nil), (.i .i64 0)] [(0, 1, (.k (.i .i64 6)))], none⟩, ⟨none, .store 5 (.t 4) (.t 13), none⟩])
 .ret)
 .skip))
 (.seq (.seq (.reg [⟨some 14, .faddr 0 (.t 3), none⟩, ⟨some 15, .load false 1 (.t 14), none⟩, ⟨some 16, .bin .eql (.t 15) (.k (.i .i64 6)), none⟩])
 (.cond (.t 16)
    (.regd [(⟨some 17, .mov (.t 0), none⟩, []),
      (⟨some 18, .nilck (.t 17), none⟩, []),
      (⟨some 19, .faddr 0 (.t 18), none⟩, []),
      (⟨some 20, .faddr 1 (.t 19), none⟩, []),
      (⟨some 21, .load false 1 (.t 20), none⟩, []),
      (⟨some 22, .call false 13 [(.t 21)], none⟩, []),
      (⟨some 23, .mov (.t 0), none⟩, [0, 1, 2, 3, 4, 5]),
      (⟨some 24, .nilck (.t 23), none⟩, [0, 1, 2, 3, 4, 5]),
      (⟨some 25, .faddr 0 (.t 24), none⟩, [0, 1, 2, 3, 4, 5]),
      (⟨some 26, .faddr 1 (.t 25), none⟩, [0, 1, 2, 3, 4, 5]),
      (⟨some 27, .load false 1 (.t 26), none⟩, [0, 1, 2, 3, 4, 5]),
      (⟨some 28, .call false 17 [(.t 27)], none⟩, []),
      (⟨some 29, .call false 16 [(.t 28)], none⟩, []),
      (⟨some 30, .faddr 22 (.t 3), none⟩, [6, 7, 8, 9, 10, 11, 12]),
      (⟨none, .store 1 (.t 30) (.t 22), none⟩, []),
      (⟨some 31, .faddr 19 (.t 3), none⟩, []),
      (⟨none, .store 1 (.t 31) (.t 29), none⟩, [])])
 .skip))
 (.seq (.regd [(⟨some 33, .mov (.t 0), none⟩, []),
     (⟨some 34, .nilck (.t 33), none⟩, []),
     (⟨some 35, .faddr 0 (.t 34), none⟩, []),
     (⟨some 36, .faddr 2 (.t 35), none⟩, []),
     (⟨some 37, .load true 43 (.t 36), none⟩, []),
     (⟨some 38, .load true 24 (.t 3), none⟩, [0, 1, 2, 3, 4]),
     (⟨some 39, .call true 18 [(.t 37), (.t 38)], none⟩, []),
     (⟨some 32, .mov (.t 39), none⟩, []),
     (⟨some 40, .ext (.t 32) 0, none⟩, []),
     (⟨some 41, .ext (.t 32) 1, none⟩, [8]),
     (⟨some 5, .lalloc [(.i .i64 0), (.i .i64 0), (.i .i64 0), (.i .i64 0), (.i .i64 0), (.i .i64 0), (.i .i64 0), (.i .i64 0), (.sl [] 0 .nil), (.sl [] 0 .nil), (.sl [] 0 .nil), (.sl [] 0 .nil), (.sl [] 0 .nil), (.i .i64 0), (.i .i64 0), (.i .i64 0), (.i .i64 0), (.i .i64 0), (.i .i64 0), (.i .i64 0), (.i .i64 0), (.i .i64 0), (.i .i64 0), (.i .i64 0), (.i .i64 0), (.i .i64 0), (.i .i64 0), (.i .i64 0), (.i .i64 0), (.i .i64 0), (.i .i64 0), (.i .i64 0), (.i .i64 0), (.i .i64 0), (.i .i64 0), (.i .i64 0), (.i .i64 0), (.sl [] 0 .nil), (.i .i64 0), (.i .i64 0), (.sl [] 0 .nil), (.sl [] 0 .nil), (.sl [] 0 .nil)] [5, 61], none⟩, [0, 1, 2, 3, 4, 5, 6, 7, 8, 9]),
     (⟨some 6, .lalloc [(.i .i64 0), (.b false), (.i .i64 0), (.sl [] 0 .nil), (.b false), (.sl [] 0 .nil), (.sl [] 0 .nil), (.i .i64 0)] [6, 42, 45, 53, 91, 95, 97], none⟩, [0, 1, 2, 3, 4, 5, 6, 7, 8, 9, 10]),
     (⟨none, .store 43 (.t 5) (.t 40), none⟩, [9]),
     (⟨none, .store 8 (.t 6) (.t 41), none⟩, [])])
 (.seq (.seq (.reg [⟨some 42, .faddr 0 (.t 6), none⟩, ⟨some 43, .load false 1 (.t 42), none⟩, ⟨some 44, .bin .neq (.t 43) (.k (.i .i64 0)), none⟩])
 (.cond (.t 44)
 (.seq (.reg [⟨some 45, .faddr 0 (.t 6), none⟩, ⟨some 46, .load false 1 (.t 45), none⟩, ⟨some 47, .build [(.i .i64 0), (.sl [] 0 .nil), (.sl [] 0 .nil), (.sl [] 0 .nil), (.i .i64 0)] [(0, 1, (.t 46))], none⟩, ⟨none, .store 5 (.t 4) (.t 47), none⟩])
 .ret)
 .skip))
 (.seq (.reg [⟨some 48, .mov (.t 0), none⟩, ⟨some 49, .nilck (.t 48), none⟩, ⟨some 50, .faddr 0 (.t 49), none⟩, ⟨some 51, .faddr 1 (.t 50), none⟩, ⟨some 52, .load false 1 (.t 51), none⟩, ⟨some 7, .mov (.t 52), none⟩])
 (.seq (.seq (.reg [⟨some 53, .faddr 4 (.t 6), none⟩, ⟨some 54, .load false 1 (.t 53), none⟩, ⟨some 55, .mov (.t 54), none⟩, ⟨some 56, .faddr 0 (.t 3), some (55, true)⟩,
 ⟨some 57, .load false 1 (.t 56), some (55, true)⟩,
 ⟨some 58, .bin .eql (.t 57) (.k (.i .i64 2)), some (55, true)⟩,
 ⟨some 59, .pick (.t 55) (.t 58) (.k (.b false)), none⟩])
 (.cond (.t 59)
 (.seq (.reg [⟨some 61, .faddr 6 (.t 5), none⟩, ⟨some 62, .load true 5 (.t 61), none⟩, ⟨some 63, .call false 19 [(.t 62)], none⟩, ⟨some 60, .mov (.t 63), none⟩, ⟨some 64, .ext (.t 60) 0, none⟩, ⟨some 65, .ext (.t 60) 1, none⟩, ⟨some 8, .mov (.t 64), none⟩, ⟨some 9, .mov (.t 65), none⟩])
 (.seq (.seq (.reg [⟨some 66, .mov (.t 9), none⟩, ⟨some 67, .bin .neq (.t 66) (.k (.i .i64 0)), none⟩])
 (.cond (.t 67)
 (.seq (.reg [⟨some 68, .build [(.i .i64 0), (.sl [] 0 .nil), (.sl [] 0 .nil), (.sl [] 0 .nil), (.i .i64 0)] [(0, 1, (.k (.i .i64 132)))], none⟩, ⟨none, .store 5 (.t 4) (.t 68), none⟩])
 .ret)
 .skip))
 (.reg [⟨some 69, .mov (.t 8), none⟩, ⟨some 7, .mov (.t 69), none⟩])))
 .skip))
 (.seq (.seq (.reg [⟨some 70, .mov (.t 0), none⟩, ⟨some 71, .load true 43 (.t 5), none⟩, ⟨some 72, .load true 8 (.t 6), none⟩, ⟨some 73, .call false 20 [(.t 70), (.t 71), (.t 72)], none⟩, ⟨some 10, .mov (.t 73), none⟩])
 (.seq (.reg [⟨some 74, .mov (.t 10), none⟩, ⟨some 75, .bin .neq (.t 74) (.k (.i .i64 0)), none⟩])
 (.cond (.t 75)
 (.seq (.reg [⟨some 76, .mov (.t 0), none⟩, ⟨some 77, .nilck (.t 76), none⟩, ⟨some 78, .faddr 45 (.t 77), none⟩, ⟨none, .store 1 (.t 78) (.k (.b false)), none⟩])
 (.seq (.reg [⟨some 79, .mov (.t 10), none⟩, ⟨some 80, .build [(.i .i64 0), (.sl [] 0 .nil), (.sl [] 0 .nil), (.sl [] 0 .nil), (.i .i64 0)] [(0, 1, (.t 79))], none⟩, ⟨none, .store 5 (.t 4) (.t 80), none⟩])
 .ret))
 .skip)))
 (.seq (.reg [⟨some 81, .mov (.t 0), none⟩, ⟨some 82, .mov (.t 0), none⟩, ⟨some 83, .load true 43 (.t 5), none⟩, ⟨some 84, .mov (.t 7), none⟩, ⟨some 85, .nilck (.t 81), none⟩, ⟨some 86, .faddr 0 (.t 85), none⟩, ⟨some 87, .faddr 2 (.t 86), none⟩, ⟨none, .store 43 (.t 87) (.t 83), none⟩, ⟨some 88, .nilck (.t 82), none⟩, ⟨some 89, .faddr 0 (.t 88), none⟩, ⟨some 90, .faddr 1 (.t 89), none⟩, ⟨none, .store 1 (.t 90) (.t 84), none⟩])
 (.seq (.regd [(⟨some 91, .faddr 5 (.t 6), none⟩, []),
     (⟨some 92, .load false 1 (.t 91), none⟩, []),
     (⟨some 93, .mov (.t 0), none⟩, [0, 1]),
     (⟨some 94, .call false 21 [(.t 93)], none⟩, [0, 1]),
     (⟨some 95, .faddr 6 (.t 6), none⟩, [0, 1, 2, 3]),
     (⟨some 96, .load false 1 (.t 95), none⟩, [0, 1, 2, 3]),
     (⟨some 97, .faddr 7 (.t 6), none⟩, [0, 1, 2, 3, 4, 5]),
     (⟨some 98, .load false 1 (.t 97), none⟩, [0, 1, 2, 3, 4, 5]),
     (⟨some 99, .build [(.i .i64 0), (.sl [] 0 .nil), (.sl [] 0 .nil), (.sl [] 0 .nil), (.i .i64 0)] [(1, 1, (.t 92)), (2, 1, (.t 94)), (3, 1, (.t 96)), (4, 1, (.t 98))], none⟩, []),
     (⟨none, .store 5 (.t 4) (.t 99), none⟩, [])])
 .ret))))))))))
/-- (*tidemark/node.Node).Do -/
def af7 : AFunc := { n := 100, depth := 7, kl := [(3, [3, 14, 30, 31, 56]), (4, [4]), (5, [5, 61]), (6, [6, 42, 45, 53, 91, 95, 97])], res := [.cell 4 true 5], body := B7 }

def B8 : AC := (.seq (.reg [⟨some 2, .lbox (.t 0) [2, 5, 11, 18, 25, 32, 39, 46, 53, 60, 67, 74, 81, 88, 95, 102], none⟩, ⟨some 3, .lbox (.t 1) [3, 7, 13, 20, 27, 34, 41, 48, 55, 62, 69, 76, 83, 90, 97, 104], none⟩, ⟨some 4, .mov (.k (.b false)), none⟩])
 (.seq (.reg [⟨some 5, .faddr 0 (.t 2), none⟩, ⟨some 6, .load false 1 (.t 5), none⟩, ⟨some 7, .faddr 0 (.t 3), none⟩, ⟨some 8, .load false 1 (.t 7), none⟩, ⟨some 9, .bin .eql (.t 6) (.t 8), none⟩, ⟨some 10, .mov (.t 9), none⟩, ⟨some 11, .faddr 1 (.t 2), some (10, true)⟩,
 ⟨some 12, .load true 2 (.t 11), some (10, true)⟩,
 ⟨some 13, .faddr 1 (.t 3), some (10, true)⟩,
 ⟨some 14, .load true 2 (.t 13), some (10, true)⟩,
 ⟨some 15, .eq false (.struct [(0, 1, false, .int), (1, 1, false, .int)]) (.t 12) (.t 14), some (10, true)⟩,
 ⟨some 16, .pick (.t 10) (.t 15) (.k (.b false)), none⟩, ⟨some 17, .mov (.t 16), none⟩, ⟨some 18, .faddr 3 (.t 2), some (17, true)⟩,
 ⟨some 19, .load false 1 (.t 18), some (17, true)⟩,
 ⟨some 20, .faddr 3 (.t 3), some (17, true)⟩,
 ⟨some 21, .load false 1 (.t 20), some (17, true)⟩,
 ⟨some 22, .bin .eql (.t 19) (.t 21), some (17, true)⟩,
 ⟨some 23, .pick (.t 17) (.t 22) (.k (.b false)), none⟩, ⟨some 24, .mov (.t 23), none⟩, ⟨some 25, .faddr 4 (.t 2), some (24, true)⟩,
 ⟨some 26, .load false 1 (.t 25), some (24, true)⟩,
 ⟨some 27, .faddr 4 (.t 3), some (24, true)⟩,
 ⟨some 28, .load false 1 (.t 27), some (24, true)⟩,
 ⟨some 29, .bin .eql (.t 26) (.t 28), some (24, true)⟩,
 ⟨some 30, .pick (.t 24) (.t 29) (.k (.b false)), none⟩, ⟨some 31, .mov (.t 30), none⟩, ⟨some 32, .faddr 5 (.t 2), some (31, true)⟩,
 ⟨some 33, .load false 1 (.t 32), some (31, true)⟩,
 ⟨some 34, .faddr 5 (.t 3), some (31, true)⟩,
 ⟨some 35, .load false 1 (.t 34), some (31, true)⟩,
 ⟨some 36, .bin .eql (.t 33) (.t 35), some (31, true)⟩,
 ⟨some 37, .pick (.t 31) (.t 36) (.k (.b false)), none⟩, ⟨some 38, .mov (.t 37), none⟩, ⟨some 39, .faddr 6 (.t 2), some (38, true)⟩,
 ⟨some 40, .load true 5 (.t 39), some (38, true)⟩,
 ⟨some 41, .faddr 6 (.t 3), some (38, true)⟩,
 ⟨some 42, .load true 5 (.t 41), some (38, true)⟩,
 ⟨some 43, .call true 22 [(.t 40), (.t 42)], some (38, true)⟩,
 ⟨some 44, .pick (.t 38) (.t 43) (.k (.b false)), none⟩, ⟨some 45, .mov (.t 44), none⟩, ⟨some 46, .faddr 11 (.t 2), some (45, true)⟩,
 ⟨some 47, .load false 1 (.t 46), some (45, true)⟩,
 ⟨some 48, .faddr 11 (.t 3), some (45, true)⟩,
 ⟨some 49, .load false 1 (.t 48), some (45, true)⟩,
 ⟨some 50, .call true 23 [(.t 47), (.t 49)], some (45, true)⟩,
 ⟨some 51, .pick (.t 45) (.t 50) (.k (.b false)), none⟩, ⟨some 52, .mov (.t 51), none⟩, ⟨some 53, .faddr 12 (.t 2), some (52, true)⟩,
 ⟨some 54, .load false 1 (.t 53), some (52, true)⟩,
 ⟨some 55, .faddr 12 (.t 3), some (52, true)⟩,
 ⟨some 56, .load false 1 (.t 55), some (52, true)⟩,
 ⟨some 57, .call true 24 [(.t 54), (.t 56)], some (52, true)⟩,
 ⟨some 58, .pick (.t 52) (.t 57) (.k (.b false)), none⟩, ⟨some 59, .mov (.t 58), none⟩, ⟨some 60, .faddr 13 (.t 2), some (59, true)⟩,
 ⟨some 61, .load true 20 (.t 60), some (59, true)⟩,
 ⟨some 62, .faddr 13 (.t 3), some (59, true)⟩,
 ⟨some 63, .load true 20 (.t 62), some (59, true)⟩,
 ⟨some 64, .eq false (.struct [(0, 4, true, (.struct [(0, 1, false, .int), (1, 1, false, .int), (2, 1, false, .int), (3, 1, false, .int)])), (4, 4, true, (.struct [(0, 1, false, .int), (1, 1, false, .int), (2, 1, false, .int), (3, 1, false, .int)])), (8, 4, true, (.struct [(0, 1, false, .int), (1, 1, false, .int), (2, 1, false, .int), (3, 1, false, .int)])), (12, 4, true, (.struct [(0, 1, false, .int), (1, 1, false, .int), (2, 1, false, .int), (3, 1, false, .int)])), (16, 4, true, (.struct [(0, 1, false, .int), (1, 1, false, .int), (2, 1, false, .int), (3, 1, false, .int)]))]) (.t 61) (.t 63), some (59, true)⟩,
 ⟨some 65, .pick (.t 59) (.t 64) (.k (.b false)), none⟩, ⟨some 66, .mov (.t 65), none⟩, ⟨some 67, .faddr 33 (.t 2), some (66, true)⟩,
 ⟨some 68, .load false 1 (.t 67), some (66, true)⟩,
 ⟨some 69, .faddr 33 (.t 3), some (66, true)⟩,
 ⟨some 70, .load false 1 (.t 69), some (66, true)⟩,
 ⟨some 71, .bin .eql (.t 68) (.t 70), some (66, true)⟩,
 ⟨some 72, .pick (.t 66) (.t 71) (.k (.b false)), none⟩, ⟨some 73, .mov (.t 72), none⟩, ⟨some 74, .faddr 34 (.t 2), some (73, true)⟩,
 ⟨some 75, .load false 1 (.t 74), some (73, true)⟩,
 ⟨some 76, .faddr 34 (.t 3), some (73, true)⟩,
 ⟨some 77, .load false 1 (.t 76), some (73, true)⟩,
 ⟨some 78, .bin .eql (.t 75) (.t 77), some (73, true)⟩,
 ⟨some 79, .pick (.t 73) (.t 78) (.k (.b false)), none⟩, ⟨some 80, .mov (.t 79), none⟩, ⟨some 81, .faddr 35 (.t 2), some (80, true)⟩,
 ⟨some 82, .load false 1 (.t 81), some (80, true)⟩,
 ⟨some 83, .faddr 35 (.t 3), some (80, true)⟩,
 ⟨some 84, .load false 1 (.t 83), some (80, true)⟩,
 ⟨some 85, .bin .eql (.t 82) (.t 84), some (80, true)⟩,
 ⟨some 86, .pick (.t 80) (.t 85) (.k (.b false)), none⟩, ⟨some 87, .mov (.t 86), none⟩, ⟨some 88, .faddr 36 (.t 2), some (87, true)⟩,
 ⟨some 89, .load false 1 (.t 88), some (87, true)⟩,
 ⟨some 90, .faddr 36 (.t 3), some (87, true)⟩,
 ⟨some 91, .load false 1 (.t 90), some (87, true)⟩,
 ⟨some 92, .bin .eql (.t 89) (.t 91), some (87, true)⟩,
 ⟨some 93, .pick (.t 87) (.t 92) (.k (.b false)), none⟩, ⟨some 94, .mov (.t 93), none⟩, ⟨some 95, .faddr 37 (.t 2), some (94, true)⟩,
 ⟨some 96, .load false 1 (.t 95), some (94, true)⟩,
 ⟨some 97, .faddr 37 (.t 3), some (94, true)⟩,
 ⟨some 98, .load false 1 (.t 97), some (94, true)⟩,
 ⟨some 99, .call true 25 [(.t 96), (.t 98)], some (94, true)⟩,
 ⟨some 100, .pick (.t 94) (.t 99) (.k (.b false)), none⟩, ⟨some 101, .mov (.t 100), none⟩, ⟨some 102, .faddr 38 (.t 2), some (101, true)⟩,
 ⟨some 103, .load true 5 (.t 102), some (101, true)⟩,
 ⟨some 104, .faddr 38 (.t 3), some (101, true)⟩,
 ⟨some 105, .load true 5 (.t 104), some (101, true)⟩,
 ⟨some 106, .call true 22 [(.t 103), (.t 105)], some (101, true)⟩,
 ⟨some 107, .pick (.t 101) (.t 106) (.k (.b false)), none⟩, ⟨some 4, .mov (.t 107), none⟩])
 .ret))
/-- tidemark/tidemarkref19.SameState -/
def af8 : AFunc := { n := 108, depth := 7, kl := [(2, [2, 5, 11, 18, 25, 32, 39, 46, 53, 60, 67, 74, 81, 88, 95, 102]), (3, [3, 7, 13, 20, 27, 34, 41, 48, 55, 62, 69, 76, 83, 90, 97, 104])], res := [.tmp 4], body := B8 }

def B9 : AC := (.seq (.reg [⟨some 2, .lalloc [(.i .i64 0), (.i .i64 0), (.i .i64 0), (.i .i64 0), (.i .i64 0), (.i .i64 0), (.i .i64 0), (.i .i64 0), (.sl [] 0 .nil), (.sl [] 0 .nil), (.sl [] 0 .nil), (.sl [] 0 .nil), (.sl [] 0 .nil), (.i .i64 0), (.i .i64 0), (.i .i64 0), (.i .i64 0), (.i .i64 0), (.i .i64 0), (.i .i64 0), (.i .i64 0), (.i .i64 0), (.i .i64 0), (.i .i64 0), (.i .i64 0), (.i .i64 0), (.i .i64 0), (.i .i64 0), (.i .i64 0), (.i .i64 0), (.i .i64 0), (.i .i64 0), (.i .i64 0), (.i .i64 0), (.i .i64 0), (.i .i64 0), (.i .i64 0), (.sl [] 0 .nil), (.i .i64 0), (.i .i64 0), (.sl [] 0 .nil), (.sl [] 0 .nil), (.sl [] 0 .nil)] [2], none⟩])
 (.seq (.seq (.reg [⟨some 5, .mov (.t 0), none⟩, ⟨some 6, .eq false .ptr (.t 5) (.k .nilp), none⟩, ⟨some 7, .mov (.t 6), none⟩, ⟨some 8, .mov (.t 0), some (7, false)⟩,
 ⟨some 9, .nilck (.t 8), some (7, false)⟩,
 ⟨some 10, .faddr 0 (.t 9), some (7, false)⟩,
 ⟨some 11, .faddr 0 (.t 10), some (7, false)⟩,
 ⟨some 12, .load false 1 (.t 11), some (7, false)⟩,
 ⟨some 13, .eq false .ptr (.t 12) (.k .nilp), some (7, false)⟩,
 ⟨some 14, .pick (.t 7) (.k (.b true)) (.t 13), none⟩])
 (.cond (.t 14)
 (.seq (.reg [⟨some 15, .build [(.i .i64 0), (.i .i64 0), (.i .i64 0), (.i .i64 0), (.i .i64 0), (.i .i64 0), (.i .i64 0), (.i .i64 0), (.sl [] 0 .nil), (.sl [] 0 .nil), (.sl [] 0 .nil), (.sl [] 0 .nil), (.sl [] 0 .nil), (.i .i64 0), (.i .i64 0), (.i .i64 0), (.i .i64 0), (.i .i64 0), (.i .i64 0), (.i .i64 0), (.i .i64 0), (.i .i64 0), (.i .i64 0), (.i .i64 0), (.i .i64 0), (.i .i64 0), (.i .i64 0), (.i .i64 0), (.i .i64 0), (.i .i64 0), (.i .i64 0), (.i .i64 0), (.i .i64 0), (.i .i64 0), (.i .i64 0), (.i .i64 0), (.i .i64 0), (.sl [] 0 .nil), (.i .i64 0), (.i .i64 0), (.sl [] 0 .nil), (.sl [] 0 .nil), (.sl [] 0 .nil)] [], none⟩, ⟨none, .store 43 (.t 2) (.t 15), none⟩])
 .ret)
 .skip))
 (.seq (.regd [(⟨some 17, .mov (.t 0), none⟩, []),
     (⟨some 18, .nilck (.t 17), none⟩, []),
     (⟨some 19, .faddr 0 (.t 18), none⟩, []),
     (⟨some 20, .faddr 2 (.t 19), none⟩, []),
     (⟨some 21, .faddr 0 (.t 20), none⟩, []),
     (⟨some 22, .load false 1 (.t 21), none⟩, []),
     (⟨some 23, .mov (.t 0), none⟩, [0, 1, 2, 3, 4, 5]),
     (⟨some 24, .nilck (.t 23), none⟩, [0, 1, 2, 3, 4, 5]),
     (⟨some 25, .faddr 0 (.t 24), none⟩, [0, 1, 2, 3, 4, 5]),
     (⟨some 26, .faddr 2 (.t 25), none⟩, [0, 1, 2, 3, 4, 5]),
     (⟨some 27, .faddr 1 (.t 26), none⟩, [0, 1, 2, 3, 4, 5]),
     (⟨some 28, .load true 2 (.t 27), none⟩, [0, 1, 2, 3, 4, 5]),
     (⟨some 29, .mov (.t 0), none⟩, [0, 1, 2, 3, 4, 5, 6, 7, 8, 9, 10, 11]),
     (⟨some 30, .nilck (.t 29), none⟩, [0, 1, 2, 3, 4, 5, 6, 7, 8, 9, 10, 11]),
     (⟨some 31, .faddr 0 (.t 30), none⟩, [0, 1, 2, 3, 4, 5, 6, 7, 8, 9, 10, 11]),
     (⟨some 32, .faddr 2 (.t 31), none⟩, [0, 1, 2, 3, 4, 5, 6, 7, 8, 9, 10, 11]),
     (⟨some 33, .faddr 6 (.t 32), none⟩, [0, 1, 2, 3, 4, 5, 6, 7, 8, 9, 10, 11]),
     (⟨some 34, .load true 5 (.t 33), none⟩, [0, 1, 2, 3, 4, 5, 6, 7, 8, 9, 10, 11]),
     (⟨some 35, .mov (.t 0), none⟩, [0, 1, 2, 3, 4, 5, 6, 7, 8, 9, 10, 11, 12, 13, 14, 15, 16, 17]),
     (⟨some 36, .nilck (.t 35), none⟩, [0, 1, 2, 3, 4, 5, 6, 7, 8, 9, 10, 11, 12, 13, 14, 15, 16, 17]),
     (⟨some 37, .faddr 0 (.t 36), none⟩, [0, 1, 2, 3, 4, 5, 6, 7, 8, 9, 10, 11, 12, 13, 14, 15, 16, 17]),
     (⟨some 38, .faddr 2 (.t 37), none⟩, [0, 1, 2, 3, 4, 5, 6, 7, 8, 9, 10, 11, 12, 13, 14, 15, 16, 17]),
     (⟨some 39, .faddr 11 (.t 38), none⟩, [0, 1, 2, 3, 4, 5, 6, 7, 8, 9, 10, 11, 12, 13, 14, 15, 16, 17]),
     (⟨some 40, .load false 1 (.t 39), none⟩, [0, 1, 2, 3, 4, 5, 6, 7, 8, 9, 10, 11, 12, 13, 14, 15, 16, 17]),
     (⟨some 41, .mov (.t 0), none⟩, [0, 1, 2, 3, 4, 5, 6, 7, 8, 9, 10, 11, 12, 13, 14, 15, 16, 17, 18, 19, 20, 21, 22, 23]),
     (⟨some 42, .nilck (.t 41), none⟩, [0, 1, 2, 3, 4, 5, 6, 7, 8, 9, 10, 11, 12, 13, 14, 15, 16, 17, 18, 19, 20, 21, 22, 23]),
     (⟨some 43, .faddr 0 (.t 42), none⟩, [0, 1, 2, 3, 4, 5, 6, 7, 8, 9, 10, 11, 12, 13, 14, 15, 16, 17, 18, 19, 20, 21, 22, 23]),
     (⟨some 44, .faddr 2 (.t 43), none⟩, [0, 1, 2, 3, 4, 5, 6, 7, 8, 9, 10, 11, 12, 13, 14, 15, 16, 17, 18, 19, 20, 21, 22, 23]),
     (⟨some 45, .faddr 34 (.t 44), none⟩, [0, 1, 2, 3, 4, 5, 6, 7, 8, 9, 10, 11, 12, 13, 14, 15, 16, 17, 18, 19, 20, 21, 22, 23]),
     (⟨some 46, .load false 1 (.t 45), none⟩, [0, 1, 2, 3, 4, 5, 6, 7, 8, 9, 10, 11, 12, 13, 14, 15, 16, 17, 18, 19, 20, 21, 22, 23]),
     (⟨some 47, .call true 26 [(.t 22), (.t 28), (.t 34), (.t 40), (.t 46)], none⟩, []),
     (⟨some 16, .mov (.t 47), none⟩, []),
     (⟨some 48, .ext (.t 16) 0, none⟩, []),
     (⟨some 49, .ext (.t 16) 1, none⟩, [32]),
     (⟨some 3, .lalloc [(.i .i64 0), (.i .i64 0), (.i .i64 0), (.i .i64 0), (.i .i64 0), (.i .i64 0), (.i .i64 0), (.i .i64 0), (.sl [] 0 .nil), (.sl [] 0 .nil), (.sl [] 0 .nil), (.sl [] 0 .nil), (.sl [] 0 .nil), (.i .i64 0), (.i .i64 0), (.i .i64 0), (.i .i64 0), (.i .i64 0), (.i .i64 0), (.i .i64 0), (.i .i64 0), (.i .i64 0), (.i .i64 0), (.i .i64 0), (.i .i64 0), (.i .i64 0), (.i .i64 0), (.i .i64 0), (.i .i64 0), (.i .i64 0), (.i .i64 0), (.i .i64 0), (.i .i64 0), (.i .i64 0), (.i .i64 0), (.i .i64 0), (.i .i64 0), (.sl [] 0 .nil), (.i .i64 0), (.i .i64 0), (.sl [] 0 .nil), (.sl [] 0 .nil), (.sl [] 0 .nil)] [3, 74, 75, 76, 77], none⟩, [0, 1, 2, 3, 4, 5, 6, 7, 8, 9, 10, 11, 12, 13, 14, 15, 16, 17, 18, 19, 20, 21, 22, 23, 24, 25, 26, 27, 28, 29, 30, 31, 32, 33]),
     (⟨none, .store 43 (.t 3) (.t 48), none⟩, [33]),
     (⟨some 4, .mov (.t 49), none⟩, [])])
 (.seq (.regd [(⟨some 50, .mov (.t 0), none⟩, []),
     (⟨some 51, .nilck (.t 50), none⟩, []),
     (⟨some 52, .faddr 0 (.t 51), none⟩, []),
     (⟨some 53, .faddr 2 (.t 52), none⟩, []),
     (⟨some 54, .faddr 3 (.t 53), none⟩, []),
     (⟨some 55, .load false 1 (.t 54), none⟩, []),
     (⟨some 56, .mov (.t 0), none⟩, [0, 1, 2, 3, 4, 5]),
     (⟨some 57, .nilck (.t 56), none⟩, [0, 1, 2, 3, 4, 5]),
     (⟨some 58, .faddr 0 (.t 57), none⟩, [0, 1, 2, 3, 4, 5]),
     (⟨some 59, .faddr 2 (.t 58), none⟩, [0, 1, 2, 3, 4, 5]),
     (⟨some 60, .faddr 4 (.t 59), none⟩, [0, 1, 2, 3, 4, 5]),
     (⟨some 61, .load false 1 (.t 60), none⟩, [0, 1, 2, 3, 4, 5]),
     (⟨some 62, .mov (.t 0), none⟩, [0, 1, 2, 3, 4, 5, 6, 7, 8, 9, 10, 11]),
     (⟨some 63, .nilck (.t 62), none⟩, [0, 1, 2, 3, 4, 5, 6, 7, 8, 9, 10, 11]),
     (⟨some 64, .faddr 0 (.t 63), none⟩, [0, 1, 2, 3, 4, 5, 6, 7, 8, 9, 10, 11]),
     (⟨some 65, .faddr 2 (.t 64), none⟩, [0, 1, 2, 3, 4, 5, 6, 7, 8, 9, 10, 11]),
     (⟨some 66, .faddr 5 (.t 65), none⟩, [0, 1, 2, 3, 4, 5, 6, 7, 8, 9, 10, 11]),
     (⟨some 67, .load false 1 (.t 66), none⟩, [0, 1, 2, 3, 4, 5, 6, 7, 8, 9, 10, 11]),
     (⟨some 68, .mov (.t 0), none⟩, [0, 1, 2, 3, 4, 5, 6, 7, 8, 9, 10, 11, 12, 13, 14, 15, 16, 17]),
     (⟨some 69, .nilck (.t 68), none⟩, [0, 1, 2, 3, 4, 5, 6, 7, 8, 9, 10, 11, 12, 13, 14, 15, 16, 17]),
     (⟨some 70, .faddr 0 (.t 69), none⟩, [0, 1, 2, 3, 4, 5, 6, 7, 8, 9, 10, 11, 12, 13, 14, 15, 16, 17]),
     (⟨some 71, .faddr 2 (.t 70), none⟩, [0, 1, 2, 3, 4, 5, 6, 7, 8, 9, 10, 11, 12, 13, 14, 15, 16, 17]),
     (⟨some 72, .faddr 33 (.t 71), none⟩, [0, 1, 2, 3, 4, 5, 6, 7, 8, 9, 10, 11, 12, 13, 14, 15, 16, 17]),
     (⟨some 73, .load false 1 (.t 72), none⟩, [0, 1, 2, 3, 4, 5, 6, 7, 8, 9, 10, 11, 12, 13, 14, 15, 16, 17]),
     (⟨some 74, .faddr 3 (.t 3), none⟩, [6, 7, 8, 9, 10, 11, 12, 13, 14, 15, 16, 17, 18, 19, 20, 21, 22, 23]),
     (⟨none, .store 1 (.t 74) (.t 55), none⟩, [6, 7, 8, 9, 10, 11, 12, 13, 14, 15, 16, 17, 18, 19, 20, 21, 22, 23]),
     (⟨some 75, .faddr 4 (.t 3), none⟩, [12, 13, 14, 15, 16, 17, 18, 19, 20, 21, 22, 23]),
     (⟨none, .store 1 (.t 75) (.t 61), none⟩, [12, 13, 14, 15, 16, 17, 18, 19, 20, 21, 22, 23]),
     (⟨some 76, .faddr 5 (.t 3), none⟩, [18, 19, 20, 21, 22, 23]),
     (⟨none, .store 1 (.t 76) (.t 67), none⟩, [18, 19, 20, 21, 22, 23]),
     (⟨some 77, .faddr 33 (.t 3), none⟩, []),
     (⟨none, .store 1 (.t 77) (.t 73), none⟩, [])])
 (.seq (.reg [⟨some 78, .load true 43 (.t 3), none⟩, ⟨none, .store 43 (.t 2) (.t 78), none⟩])
 .ret)))))
/-- (*tidemark/node.Node).State -/
def af9 : AFunc := { n := 79, depth := 7, kl := [(2, [2]), (3, [3, 74, 75, 76, 77])], res := [.cell 2 true 43], body := B9 }

def B10 : AC := (.seq (.reg [⟨some 2, .mov (.k .nilp), none⟩])
 (.seq (.seq (.reg [⟨some 3, .mov (.t 0), none⟩, ⟨some 4, .eq false .ptr (.t 3) (.k .nilp), none⟩])
 (.cond (.t 4)
 (.seq (.reg [⟨some 2, .mov (.k .nilp), none⟩])
 .ret)
 .skip))
 (.seq (.reg [⟨some 5, .mov (.t 0), none⟩, ⟨some 6, .nilck (.t 5), none⟩, ⟨some 7, .faddr 0 (.t 6), none⟩, ⟨some 8, .faddr 1 (.t 7), none⟩, ⟨some 9, .load false 1 (.t 8), none⟩, ⟨some 2, .mov (.t 9), none⟩])
 .ret)))
/-- (*tidemark/node.Node).Machine -/
def af10 : AFunc := { n := 10, depth := 4, kl := [], res := [.tmp 2], body := B10 }

def B11 : AC := (.seq (.reg [⟨some 6, .lbox (.t 2) [6], none⟩, ⟨some 8, .mov (.k .nilp), none⟩, ⟨some 9, .mov (.k (.i .i64 0)), none⟩])
 (.seq (.reg [⟨some 16, .mov (.t 1), none⟩, ⟨some 17, .call false 27 [(.t 16)], none⟩, ⟨some 15, .mov (.t 17), none⟩, ⟨some 18, .ext (.t 15) 0, none⟩, ⟨some 19, .ext (.t 15) 1, none⟩, ⟨some 10, .mov (.t 18), none⟩, ⟨some 11, .mov (.t 19), none⟩])
 (.seq (.seq (.reg [⟨some 20, .mov (.t 11), none⟩, ⟨some 21, .bin .eql (.t 20) (.k (.i .i64 0)), none⟩])
 (.cond (.t 21)
 (.reg [⟨some 22, .mov (.t 10), none⟩, ⟨some 23, .call false 28 [(.t 22)], none⟩, ⟨some 11, .mov (.t 23), none⟩])
 .skip))
 (.seq (.seq (.reg [⟨some 24, .mov (.t 11), none⟩, ⟨some 25, .bin .neq (.t 24) (.k (.i .i64 0)), none⟩])
 (.cond (.t 25)
 (.seq (.reg [⟨some 26, .mov (.t 11), none⟩, ⟨some 8, .mov (.k .nilp), none⟩, ⟨some 9, .mov (.t 26), none⟩])
 .ret)
 .skip))
 (.seq (.reg [⟨some 27, .mov (.t 10), none⟩, ⟨some 28, .call false 29 [(.t 27)], none⟩, ⟨some 12, .lalloc [(.i .i64 0), (.i .i64 0), (.sl [] 0 .nil), (.sl [] 0 .nil), (.sl [] 0 .nil)] [12, 30, 40, 44, 47, 48, 52, 53, 60], none⟩, ⟨none, .store 5 (.t 12) (.t 28), none⟩])
 (.seq (.reg [⟨some 29, .call false 30 [], none⟩, ⟨some 13, .mov (.t 29), none⟩])
 (.seq (.seq (.reg [⟨some 30, .faddr 0 (.t 12), none⟩, ⟨some 31, .load false 1 (.t 30), none⟩, ⟨some 32, .bin .gtr (.t 31) (.k (.i .i64 0)), none⟩])
 (.cond (.t 32)
 (.seq (.reg [⟨some 34, .load true 5 (.t 12), none⟩, ⟨some 35, .call false 19 [(.t 34)], none⟩, ⟨some 33, .mov (.t 35), none⟩, ⟨some 36, .ext (.t 33) 0, none⟩, ⟨some 37, .ext (.t 33) 1, none⟩, ⟨some 13, .mov (.t 36), none⟩, ⟨some 11, .mov (.t 37), none⟩])
 (.seq (.reg [⟨some 38, .mov (.t 11), none⟩, ⟨some 39, .bin .neq (.t 38) (.k (.i .i64 0)), none⟩])
 (.cond (.t 39)
 (.seq (.reg [⟨some 8, .mov (.k .nilp), none⟩, ⟨some 9, .mov (.k (.i .i64 40)), none⟩])
 .ret)
 .skip)))
 (.seq (.reg [⟨some 40, .faddr 1 (.t 12), none⟩, ⟨some 41, .load false 1 (.t 40), none⟩, ⟨some 42, .bin .eql (.t 41) (.k (.i .i64 0)), none⟩, ⟨some 43, .mov (.t 42), none⟩, ⟨some 44, .faddr 4 (.t 12), some (43, true)⟩,
 ⟨some 45, .load false 1 (.t 44), some (43, true)⟩,
 ⟨some 46, .len .slice (.t 45), some (43, true)⟩,
 ⟨some 47, .faddr 2 (.t 12), some (43, true)⟩,
 ⟨some 48, .faddr 0 (.t 47), some (43, true)⟩,
 ⟨some 49, .load false 1 (.t 48), some (43, true)⟩,
 ⟨some 50, .len .slice (.t 49), some (43, true)⟩,
 ⟨some 51, .bin .add (.t 46) (.t 50), some (43, true)⟩,
 ⟨some 52, .faddr 2 (.t 12), some (43, true)⟩,
 ⟨some 53, .faddr 1 (.t 52), some (43, true)⟩,
 ⟨some 54, .load false 1 (.t 53), some (43, true)⟩,
 ⟨some 55, .len .slice (.t 54), some (43, true)⟩,
 ⟨some 56, .bin .add (.t 51) (.t 55), some (43, true)⟩,
 ⟨some 57, .bin .eql (.t 56) (.k (.i .i64 0)), some (43, true)⟩,
 ⟨some 58, .pick (.t 43) (.t 57) (.k (.b false)), none⟩])
 (.cond (.t 58)
 (.reg [⟨some 59, .load true 2 (.t 6), none⟩, ⟨some 60, .faddr 2 (.t 12), none⟩, ⟨none, .store 2 (.t 60) (.t 59), none⟩])
 .skip))))
 (.seq (.regd [(⟨some 62, .mov (.t 0), none⟩, []),
     (⟨some 63, .mov (.t 10), none⟩, [0]),
     (⟨some 64, .call false 31 [(.t 63)], none⟩, [0]),
     (⟨some 65, .load true 5 (.t 12), none⟩, [0, 1, 2]),
     (⟨some 66, .mov (.t 10), none⟩, [0, 1, 2, 3]),
     (⟨some 67, .call false 32 [(.t 66)], none⟩, [0, 3]),
     (⟨some 68, .mov (.t 3), none⟩, [0, 1, 2, 3, 4, 5]),
     (⟨some 69, .call true 26 [(.t 62), (.t 64), (.t 65), (.t 67), (.t 68)], none⟩, []),
     (⟨some 61, .mov (.t 69), none⟩, []),
     (⟨some 70, .ext (.t 61) 0, none⟩, []),
     (⟨some 71, .ext (.t 61) 1, none⟩, [9]),
     (⟨some 14, .lalloc [(.i .i64 0), (.i .i64 0), (.i .i64 0), (.i .i64 0), (.i .i64 0), (.i .i64 0), (.i .i64 0), (.i .i64 0), (.sl [] 0 .nil), (.sl [] 0 .nil), (.sl [] 0 .nil), (.sl [] 0 .nil), (.sl [] 0 .nil), (.i .i64 0), (.i .i64 0), (.i .i64 0), (.i .i64 0), (.i .i64 0), (.i .i64 0), (.i .i64 0), (.i .i64 0), (.i .i64 0), (.i .i64 0), (.i .i64 0), (.i .i64 0), (.i .i64 0), (.i .i64 0), (.i .i64 0), (.i .i64 0), (.i .i64 0), (.i .i64 0), (.i .i64 0), (.i .i64 0), (.i .i64 0), (.i .i64 0), (.i .i64 0), (.i .i64 0), (.sl [] 0 .nil), (.i .i64 0), (.i .i64 0), (.sl [] 0 .nil), (.sl [] 0 .nil), (.sl [] 0 .nil)] [14], none⟩, [0, 1, 2, 3, 4, 5, 6, 7, 8, 9, 10]),
     (⟨none, .store 43 (.t 14) (.t 70), none⟩, [10]),
     (⟨some 11, .mov (.t 71), none⟩, [])])
 (.seq (.seq (.reg [⟨some 72, .mov (.t 11), none⟩, ⟨some 73, .bin .neq (.t 72) (.k (.i .i64 0)), none⟩])
 (.cond (.t 73)
 (.seq (.reg [⟨some 8, .mov (.k .nilp), none⟩, ⟨some 9, .mov (.k (.i .i64 40)), none⟩])
 .ret)
 .skip))
 (.seq (.reg [⟨some 74, .mov (.t 10), none⟩, ⟨some 75, .mov (.t 13), none⟩, ⟨some 76, .load true 43 (.t 14), none⟩, ⟨some 77, .build [.nilp, .nilp, (.i .i64 0), (.i .i64 0), (.i .i64 0), (.i .i64 0), (.i .i64 0), (.i .i64 0), (.i .i64 0), (.i .i64 0), (.sl [] 0 .nil), (.sl [] 0 .nil), (.sl [] 0 .nil), (.sl [] 0 .nil), (.sl [] 0 .nil), (.i .i64 0), (.i .i64 0), (.i .i64 0), (.i .i64 0), (.i .i64 0), (.i .i64 0), (.i .i64 0), (.i .i64 0), (.i .i64 0), (.i .i64 0), (.i .i64 0), (.i .i64 0), (.i .i64 0), (.i .i64 0), (.i .i64 0), (.i .i64 0), (.i .i64 0), (.i .i64 0), (.i .i64 0), (.i .i64 0), (.i .i64 0), (.i .i64 0), (.i .i64 0), (.i .i64 0), (.sl [] 0 .nil), (.i .i64 0), (.i .i64 0), (.sl [] 0 .nil), (.sl [] 0 .nil), (.sl [] 0 .nil)] [(0, 1, (.t 74)), (1, 1, (.t 75)), (2, 43, (.t 76))], none⟩, ⟨some 78, .build [.nilp, .nilp, (.i .i64 0), (.i .i64 0), (.i .i64 0), (.i .i64 0), (.i .i64 0), (.i .i64 0), (.i .i64 0), (.i .i64 0), (.sl [] 0 .nil), (.sl [] 0 .nil), (.sl [] 0 .nil), (.sl [] 0 .nil), (.sl [] 0 .nil), (.i .i64 0), (.i .i64 0), (.i .i64 0), (.i .i64 0), (.i .i64 0), (.i .i64 0), (.i .i64 0), (.i .i64 0), (.i .i64 0), (.i .i64 0), (.i .i64 0), (.i .i64 0), (.i .i64 0), (.i .i64 0), (.i .i64 0), (.i .i64 0), (.i .i64 0), (.i .i64 0), (.i .i64 0), (.i .i64 0), (.i .i64 0), (.i .i64 0), (.i .i64 0), (.i .i64 0), (.sl [] 0 .nil), (.i .i64 0), (.i .i64 0), (.sl [] 0 .nil), (.sl [] 0 .nil), (.sl [] 0 .nil), (.b false)] [(0, 45, (.t 77)), (45, 1, (.k (.b true)))], none⟩, ⟨some 79, .box 52 (.t 78), none⟩, ⟨some 8, .mov (.t 79), none⟩, ⟨some 9, .mov (.k (.i .i64 0)), none⟩])
 .ret))))))))))
/-- tidemark/node.Open -/
def af11 : AFunc := { n := 80, depth := 7, kl := [(6, [6]), (12, [12, 30, 40, 44, 47, 48, 52, 53, 60]), (14, [14])], res := [.tmp 8, .tmp 9], body := B11 }

def B12 : AC := (.seq (.reg [⟨some 4, .lbox (.t 1) [4], none⟩, ⟨some 6, .mov (.k .nilp), none⟩, ⟨some 7, .mov (.k .nilp), none⟩, ⟨some 8, .mov (.k (.i .i64 0)), none⟩])
 (.seq (.reg [⟨some 14, .call false 33 [(.k (.i .i64 4194304))], none⟩, ⟨some 13, .mov (.t 14), none⟩, ⟨some 15, .ext (.t 13) 0, none⟩, ⟨some 16, .ext (.t 13) 1, none⟩, ⟨some 9, .mov (.t 15), none⟩, ⟨some 10, .mov (.t 16), none⟩])
 (.seq (.reg [⟨some 18, .mov (.t 0), none⟩, ⟨some 19, .mov (.t 9), none⟩, ⟨some 20, .load true 2 (.t 4), none⟩, ⟨some 21, .mov (.t 2), none⟩, ⟨some 22, .call false 11 [(.t 18), (.t 19), (.t 20), (.t 21)], none⟩, ⟨some 17, .mov (.t 22), none⟩, ⟨some 23, .ext (.t 17) 0, none⟩, ⟨some 24, .ext (.t 17) 1, none⟩, ⟨some 11, .mov (.t 23), none⟩, ⟨some 12, .mov (.t 24), none⟩])
 (.seq (.reg [⟨some 25, .mov (.t 9), none⟩, ⟨some 26, .mov (.t 11), none⟩, ⟨some 27, .mov (.t 12), none⟩, ⟨some 6, .mov (.t 25), none⟩, ⟨some 7, .mov (.t 26), none⟩, ⟨some 8, .mov (.t 27), none⟩])
 .ret))))
/-- tidemark/tidemarklaw20.begun -/
def af12 : AFunc := { n := 28, depth := 5, kl := [(4, [4])], res := [.tmp 6, .tmp 7, .tmp 8], body := B12 }

def B13 : AC := (.seq (.reg [⟨some 2, .mov (.k (.i .i64 0)), none⟩])
 (.seq (.seq (.reg [⟨some 3, .mov (.t 0), none⟩, ⟨some 4, .call false 34 [(.t 3)], none⟩])
 (.cond (.t 4)
 (.seq (.reg [⟨some 2, .mov (.k (.i .i64 0)), none⟩])
 .ret)
 .skip))
 (.seq (.reg [⟨some 5, .mov (.t 0), none⟩, ⟨some 6, .nilck (.t 5), none⟩, ⟨some 7, .faddr 5 (.t 6), none⟩, ⟨some 8, .load false 1 (.t 7), none⟩, ⟨some 2, .mov (.t 8), none⟩])
 .ret)))
/-- (*tidemark/machine.Machine).At -/
def af13 : AFunc := { n := 9, depth := 4, kl := [], res := [.tmp 2], body := B13 }

def L14_1 : AC := (.seq (.reg [⟨some 16, .bin .lss (.t 15) (.t 14), none⟩])
 (.seq (.cond (.t 16)
 .skip
 (.exit 0))
 (.seq (.blk 1 (.seq (.reg [⟨some 17, .mov (.t 15), none⟩, ⟨some 5, .mov (.t 17), none⟩])
 (.seq (.regd [(⟨some 18, .mov (.t 0), none⟩, []),
       (⟨some 19, .mov (.t 5), none⟩, [0]),
       (⟨some 20, .iaddr (.slice 17) (.t 18) (.t 19), none⟩, []),
       (⟨some 21, .load true 17 (.t 20), none⟩, []),
       (⟨some 22, .mov (.t 1), none⟩, [0, 1, 2, 3]),
       (⟨some 23, .mov (.t 5), none⟩, [0, 1, 2, 3, 4]),
       (⟨some 24, .iaddr (.slice 17) (.t 22) (.t 23), none⟩, [0, 1, 2, 3]),
       (⟨some 25, .load true 17 (.t 24), none⟩, [0, 1, 2, 3]),
       (⟨some 6, .lalloc [(.i .i64 0), (.i .i64 0), (.i .i64 0), (.i .i64 0), (.i .i64 0), (.i .i64 0), (.i .i64 0), (.i .i64 0), (.b false), (.sl [] 0 .nil), (.i .i64 0), (.i .i64 0), (.sl [] 0 .nil), (.sl [] 0 .nil), (.sl [] 0 .nil), (.i .i64 0), (.b false)] [6, 26, 32, 39, 46, 53, 60, 67, 74, 80, 86, 93, 100, 108], none⟩, [0, 1, 2, 3, 4, 5, 6, 7]),
       (⟨some 7, .lalloc [(.i .i64 0), (.i .i64 0), (.i .i64 0), (.i .i64 0), (.i .i64 0), (.i .i64 0), (.i .i64 0), (.i .i64 0), (.b false), (.sl [] 0 .nil), (.i .i64 0), (.i .i64 0), (.sl [] 0 .nil), (.sl [] 0 .nil), (.sl [] 0 .nil), (.i .i64 0), (.b false)] [7, 28, 34, 41, 48, 55, 62, 69, 76, 82, 88, 95, 102, 110], none⟩, [0, 1, 2, 3, 4, 5, 6, 7, 8]),
       (⟨none, .store 17 (.t 6) (.t 21), none⟩, [4, 5, 6, 7]),
       (⟨none, .store 17 (.t 7) (.t 25), none⟩, [])])
 (.seq (.seq (.reg [⟨some 26, .faddr 0 (.t 6), none⟩, ⟨some 27, .load false 1 (.t 26), none⟩, ⟨some 28, .faddr 0 (.t 7), none⟩, ⟨some 29, .load false 1 (.t 28), none⟩, ⟨some 30, .bin .neq (.t 27) (.t 29), none⟩, ⟨some 31, .mov (.t 30), none⟩, ⟨some 32, .faddr 1 (.t 6), some (31, false)⟩,
 ⟨some 33, .load false 1 (.t 32), some (31, false)⟩,
 ⟨some 34, .faddr 1 (.t 7), some (31, false)⟩,
 ⟨some 35, .load false 1 (.t 34), some (31, false)⟩,
 ⟨some 36, .bin .neq (.t 33) (.t 35), some (31, false)⟩,
 ⟨some 37, .pick (.t 31) (.k (.b true)) (.t 36), none⟩, ⟨some 38, .mov (.t 37), none⟩, ⟨some 39, .faddr 2 (.t 6), some (38, false)⟩,
 ⟨some 40, .load false 1 (.t 39), some (38, false)⟩,
 ⟨some 41, .faddr 2 (.t 7), some (38, false)⟩,
 ⟨some 42, .load false 1 (.t 41), some (38, false)⟩,
 ⟨some 43, .bin .neq (.t 40) (.t 42), some (38, false)⟩,
 ⟨some 44, .pick (.t 38) (.k (.b true)) (.t 43), none⟩, ⟨some 45, .mov (.t 44), none⟩, ⟨some 46, .faddr 3 (.t 6), some (45, false)⟩,
 ⟨some 47, .load false 1 (.t 46), some (45, false)⟩,
 ⟨some 48, .faddr 3 (.t 7), some (45, false)⟩,
 ⟨some 49, .load false 1 (.t 48), some (45, false)⟩,
 ⟨some 50, .bin .neq (.t 47) (.t 49), some (45, false)⟩,
 ⟨some 51, .pick (.t 45) (.k (.b true)) (.t 50), none⟩, ⟨some 52, .mov (.t 51), none⟩, ⟨some 53, .faddr 4 (.t 6), some (52, false)⟩,
 ⟨some 54, .load false 1 (.t 53), some (52, false)⟩,
 ⟨some 55, .faddr 4 (.t 7), some (52, false)⟩,
 ⟨some 56, .load false 1 (.t 55), some (52, false)⟩,
 ⟨some 57, .bin .neq (.t 54) (.t 56), some (52, false)⟩,
 ⟨some 58, .pick (.t 52) (.k (.b true)) (.t 57), none⟩, ⟨some 59, .mov (.t 58), none⟩, ⟨some 60, .faddr 5 (.t 6), some (59, false)⟩,
 ⟨some 61, .load false 1 (.t 60), some (59, false)⟩,
 ⟨some 62, .faddr 5 (.t 7), some (59, false)⟩,
 ⟨some 63, .load false 1 (.t 62), some (59, false)⟩,
 ⟨some 64, .bin .neq (.t 61) (.t 63), some (59, false)⟩,
 ⟨some 65, .pick (.t 59) (.k (.b true)) (.t 64), none⟩, ⟨some 66, .mov (.t 65), none⟩, ⟨some 67, .faddr 6 (.t 6), some (66, false)⟩,
 ⟨some 68, .load false 1 (.t 67), some (66, false)⟩,
 ⟨some 69, .faddr 6 (.t 7), some (66, false)⟩,
 ⟨some 70, .load false 1 (.t 69), some (66, false)⟩,
 ⟨some 71, .bin .neq (.t 68) (.t 70), some (66, false)⟩,
 ⟨some 72, .pick (.t 66) (.k (.b true)) (.t 71), none⟩, ⟨some 73, .mov (.t 72), none⟩, ⟨some 74, .faddr 7 (.t 6), some (73, false)⟩,
 ⟨some 75, .load false 1 (.t 74), some (73, false)⟩,
 ⟨some 76, .faddr 7 (.t 7), some (73, false)⟩,
 ⟨some 77, .load false 1 (.t 76), some (73, false)⟩,
 ⟨some 78, .bin .neq (.t 75) (.t 77), some (73, false)⟩,
 ⟨some 79, .pick (.t 73) (.k (.b true)) (.t 78), none⟩])
 (.cond (.t 79)
 (.seq (.reg [⟨some 4, .mov (.k (.b false)), none⟩])
 .ret)
 .skip))
 (.seq (.reg [⟨some 80, .faddr 8 (.t 6), none⟩, ⟨some 81, .load false 1 (.t 80), none⟩, ⟨some 82, .faddr 8 (.t 7), none⟩, ⟨some 83, .load false 1 (.t 82), none⟩, ⟨some 84, .eq true .bool (.t 81) (.t 83), none⟩, ⟨some 85, .mov (.t 84), none⟩, ⟨some 86, .faddr 15 (.t 6), some (85, false)⟩,
 ⟨some 87, .load false 1 (.t 86), some (85, false)⟩,
 ⟨some 88, .faddr 15 (.t 7), some (85, false)⟩,
 ⟨some 89, .load false 1 (.t 88), some (85, false)⟩,
 ⟨some 90, .bin .neq (.t 87) (.t 89), some (85, false)⟩,
 ⟨some 91, .pick (.t 85) (.k (.b true)) (.t 90), none⟩, ⟨some 92, .mov (.t 91), none⟩, ⟨some 93, .faddr 16 (.t 6), some (92, false)⟩,
 ⟨some 94, .load false 1 (.t 93), some (92, false)⟩,
 ⟨some 95, .faddr 16 (.t 7), some (92, false)⟩,
 ⟨some 96, .load false 1 (.t 95), some (92, false)⟩,
 ⟨some 97, .eq true .bool (.t 94) (.t 96), some (92, false)⟩,
 ⟨some 98, .pick (.t 92) (.k (.b true)) (.t 97), none⟩, ⟨some 99, .mov (.t 98), none⟩, ⟨some 100, .faddr 9 (.t 6), some (99, false)⟩,
 ⟨some 101, .load false 1 (.t 100), some (99, false)⟩,
 ⟨some 102, .faddr 9 (.t 7), some (99, false)⟩,
 ⟨some 103, .load false 1 (.t 102), some (99, false)⟩,
 ⟨some 104, .call true 23 [(.t 101), (.t 103)], some (99, false)⟩,
 ⟨some 105, .un .not (.t 104), some (99, false)⟩,
 ⟨some 106, .pick (.t 99) (.k (.b true)) (.t 105), none⟩, ⟨some 107, .mov (.t 106), none⟩, ⟨some 108, .faddr 10 (.t 6), some (107, false)⟩,
 ⟨some 109, .load true 5 (.t 108), some (107, false)⟩,
 ⟨some 110, .faddr 10 (.t 7), some (107, false)⟩,
 ⟨some 111, .load true 5 (.t 110), some (107, false)⟩,
 ⟨some 112, .call true 22 [(.t 109), (.t 111)], some (107, false)⟩,
 ⟨some 113, .un .not (.t 112), some (107, false)⟩,
 ⟨some 114, .pick (.t 107) (.k (.b true)) (.t 113), none⟩])
 (.cond (.t 114)
 (.seq (.reg [⟨some 4, .mov (.k (.b false)), none⟩])
 .ret)
 .skip))))))
 (.reg [⟨some 115, .bin .add (.t 15) (.k (.i .i64 1)), none⟩, ⟨some 15, .mov (.t 115), none⟩]))))
def B14 : AC := (.seq (.reg [⟨some 4, .mov (.k (.b false)), none⟩])
 (.seq (.seq (.reg [⟨some 8, .mov (.t 0), none⟩, ⟨some 9, .len .slice (.t 8), none⟩, ⟨some 10, .mov (.t 1), none⟩, ⟨some 11, .len .slice (.t 10), none⟩, ⟨some 12, .bin .neq (.t 9) (.t 11), none⟩])
 (.cond (.t 12)
 (.seq (.reg [⟨some 4, .mov (.k (.b false)), none⟩])
 .ret)
 .skip))
 (.seq (.seq (.reg [⟨some 13, .mov (.t 0), none⟩, ⟨some 14, .len .slice (.t 13), none⟩, ⟨some 15, .mov (.k (.i .i64 0)), none⟩])
 (.blk 0 (.loop L14_1)))
 (.seq (.reg [⟨some 4, .mov (.k (.b true)), none⟩])
 .ret))))
/-- tidemark/tidemarkref19.SameMsgs -/
def af14 : AFunc := { n := 116, depth := 7, kl := [(6, [6, 26, 32, 39, 46, 53, 60, 67, 74, 80, 86, 93, 100, 108]), (7, [7, 28, 34, 41, 48, 55, 62, 69, 76, 82, 88, 95, 102, 110])], res := [.tmp 4], body := B14 }

def B15 : AC := (.seq (.reg [⟨some 2, .mov (.k (.b false)), none⟩])
 (.seq (.reg [⟨some 3, .mov (.t 0), none⟩, ⟨some 4, .eq false .ptr (.t 3) (.k .nilp), none⟩, ⟨some 5, .mov (.t 4), none⟩, ⟨some 6, .mov (.t 0), some (5, false)⟩,
 ⟨some 7, .nilck (.t 6), some (5, false)⟩,
 ⟨some 8, .faddr 45 (.t 7), some (5, false)⟩,
 ⟨some 9, .load false 1 (.t 8), some (5, false)⟩,
 ⟨some 10, .un .not (.t 9), some (5, false)⟩,
 ⟨some 11, .pick (.t 5) (.k (.b true)) (.t 10), none⟩, ⟨some 2, .mov (.t 11), none⟩])
 .ret))
/-- (*tidemark/node.Node).dead -/
def af15 : AFunc := { n := 12, depth := 4, kl := [], res := [.tmp 2], body := B15 }

def B18 : AC := (.seq (.reg [⟨some 2, .lbox (.t 0) [2], none⟩, ⟨some 3, .lbox (.t 1) [3, 16, 25, 32, 42, 52, 62, 72, 74, 84], none⟩, ⟨some 4, .lalloc [(.i .i64 0), (.i .i64 0), (.i .i64 0), (.i .i64 0), (.i .i64 0), (.i .i64 0), (.i .i64 0), (.i .i64 0), (.sl [] 0 .nil), (.sl [] 0 .nil), (.sl [] 0 .nil), (.sl [] 0 .nil), (.sl [] 0 .nil), (.i .i64 0), (.i .i64 0), (.i .i64 0), (.i .i64 0), (.i .i64 0), (.i .i64 0), (.i .i64 0), (.i .i64 0), (.i .i64 0), (.i .i64 0), (.i .i64 0), (.i .i64 0), (.i .i64 0), (.i .i64 0), (.i .i64 0), (.i .i64 0), (.i .i64 0), (.i .i64 0), (.i .i64 0), (.i .i64 0), (.i .i64 0), (.i .i64 0), (.i .i64 0), (.i .i64 0), (.sl [] 0 .nil), (.i .i64 0), (.i .i64 0), (.sl [] 0 .nil), (.sl [] 0 .nil), (.sl [] 0 .nil)] [4], none⟩, ⟨some 5, .lalloc [(.i .i64 0), (.b false), (.i .i64 0), (.sl [] 0 .nil), (.b false), (.sl [] 0 .nil), (.sl [] 0 .nil), (.i .i64 0)] [5], none⟩])
 (.seq (.seq (.reg [⟨some 7, .load true 43 (.t 2), none⟩, ⟨some 8, .call true 47 [(.t 7)], none⟩, ⟨some 9, .bin .neq (.t 8) (.k (.i .i64 0)), none⟩])
 (.cond (.t 9)
 (.seq (.reg [⟨some 10, .load true 43 (.t 2), none⟩, ⟨some 11, .build [(.i .i64 0), (.b false), (.i .i64 0), (.sl [] 0 .nil), (.b false), (.sl [] 0 .nil), (.sl [] 0 .nil), (.i .i64 0)] [(0, 1, (.k (.i .i64 1)))], none⟩, ⟨none, .store 43 (.t 4) (.t 10), none⟩, ⟨none, .store 8 (.t 5) (.t 11), none⟩])
 .ret)
 .skip))
 (.seq (.reg [⟨some 12, .load true 43 (.t 2), none⟩, ⟨some 13, .call false 48 [(.t 12)], none⟩, ⟨some 14, .build [(.i .i64 0), (.i .i64 0), (.i .i64 0), (.i .i64 0), (.i .i64 0), (.i .i64 0), (.i .i64 0), (.i .i64 0), (.sl [] 0 .nil), (.sl [] 0 .nil), (.sl [] 0 .nil), (.sl [] 0 .nil), (.sl [] 0 .nil), (.i .i64 0), (.i .i64 0), (.i .i64 0), (.i .i64 0), (.i .i64 0), (.i .i64 0), (.i .i64 0), (.i .i64 0), (.i .i64 0), (.i .i64 0), (.i .i64 0), (.i .i64 0), (.i .i64 0), (.i .i64 0), (.i .i64 0), (.i .i64 0), (.i .i64 0), (.i .i64 0), (.i .i64 0), (.i .i64 0), (.i .i64 0), (.i .i64 0), (.i .i64 0), (.i .i64 0), (.sl [] 0 .nil), (.i .i64 0), (.i .i64 0), (.sl [] 0 .nil), (.sl [] 0 .nil), (.sl [] 0 .nil), (.i .i64 0), (.b false), (.i .i64 0), (.sl [] 0 .nil), (.b false), (.sl [] 0 .nil), (.sl [] 0 .nil), (.i .i64 0)] [(0, 43, (.t 13))], none⟩, ⟨some 15, .box 131 (.t 14), none⟩, ⟨some 6, .mov (.t 15), none⟩])
 (.seq (.seq (.reg [⟨some 16, .faddr 0 (.t 3), none⟩, ⟨some 17, .load false 1 (.t 16), none⟩])
 (.blk 0 (.seq (.reg [⟨some 23, .bin .eql (.t 17) (.k (.i .i64 1)), none⟩, ⟨some 22, .mov (.t 23), none⟩])
 (.cond (.t 22)
 (.reg [⟨some 24, .mov (.t 6), none⟩, ⟨some 25, .faddr 1 (.t 3), none⟩, ⟨some 26, .load false 1 (.t 25), none⟩, ⟨some 27, .call false 49 [(.t 24), (.t 26)], none⟩])
 (.seq (.reg [⟨some 29, .bin .eql (.t 17) (.k (.i .i64 2)), none⟩, ⟨some 28, .mov (.t 29), none⟩])
 (.cond (.t 28)
 (.reg [⟨some 30, .mov (.t 6), none⟩, ⟨some 31, .mov (.t 6), none⟩, ⟨some 32, .faddr 2 (.t 3), none⟩, ⟨some 33, .load true 17 (.t 32), none⟩, ⟨some 34, .call false 50 [(.t 31), (.t 33)], none⟩, ⟨some 35, .nilck (.t 30), none⟩, ⟨some 36, .faddr 43 (.t 35), none⟩, ⟨some 37, .faddr 0 (.t 36), none⟩, ⟨none, .store 1 (.t 37) (.t 34), none⟩])
 (.seq (.reg [⟨some 39, .bin .eql (.t 17) (.k (.i .i64 3)), none⟩, ⟨some 38, .mov (.t 39), none⟩])
 (.cond (.t 38)
 (.reg [⟨some 40, .mov (.t 6), none⟩, ⟨some 41, .mov (.t 6), none⟩, ⟨some 42, .faddr 19 (.t 3), none⟩, ⟨some 43, .load false 1 (.t 42), none⟩, ⟨some 44, .call false 51 [(.t 41), (.t 43)], none⟩, ⟨some 45, .nilck (.t 40), none⟩, ⟨some 46, .faddr 43 (.t 45), none⟩, ⟨some 47, .faddr 0 (.t 46), none⟩, ⟨none, .store 1 (.t 47) (.t 44), none⟩])
 (.seq (.reg [⟨some 49, .bin .eql (.t 17) (.k (.i .i64 4)), none⟩, ⟨some 48, .mov (.t 49), none⟩])
 (.cond (.t 48)
 (.reg [⟨some 50, .mov (.t 6), none⟩, ⟨some 51, .mov (.t 6), none⟩, ⟨some 52, .faddr 20 (.t 3), none⟩, ⟨some 53, .load true 2 (.t 52), none⟩, ⟨some 54, .call false 52 [(.t 51), (.t 53)], none⟩, ⟨some 55, .nilck (.t 50), none⟩, ⟨some 56, .faddr 43 (.t 55), none⟩, ⟨some 57, .faddr 0 (.t 56), none⟩, ⟨none, .store 1 (.t 57) (.t 54), none⟩])
 (.seq (.reg [⟨some 59, .bin .eql (.t 17) (.k (.i .i64 5)), none⟩, ⟨some 58, .mov (.t 59), none⟩])
 (.cond (.t 58)
 (.reg [⟨some 60, .mov (.t 6), none⟩, ⟨some 61, .mov (.t 6), none⟩, ⟨some 62, .faddr 22 (.t 3), none⟩, ⟨some 63, .load false 1 (.t 62), none⟩, ⟨some 64, .call false 53 [(.t 61), (.t 63)], none⟩, ⟨some 65, .nilck (.t 60), none⟩, ⟨some 66, .faddr 43 (.t 65), none⟩, ⟨some 67, .faddr 0 (.t 66), none⟩, ⟨none, .store 1 (.t 67) (.t 64), none⟩])
 (.seq (.reg [⟨some 69, .bin .eql (.t 17) (.k (.i .i64 6)), none⟩, ⟨some 68, .mov (.t 69), none⟩])
 (.cond (.t 68)
 (.reg [⟨some 70, .mov (.t 6), none⟩, ⟨some 71, .mov (.t 6), none⟩, ⟨some 72, .faddr 22 (.t 3), none⟩, ⟨some 73, .load false 1 (.t 72), none⟩, ⟨some 74, .faddr 19 (.t 3), none⟩, ⟨some 75, .load false 1 (.t 74), none⟩, ⟨some 76, .call false 54 [(.t 71), (.t 73), (.t 75)], none⟩, ⟨some 77, .nilck (.t 70), none⟩, ⟨some 78, .faddr 43 (.t 77), none⟩, ⟨some 79, .faddr 0 (.t 78), none⟩, ⟨none, .store 1 (.t 79) (.t 76), none⟩])
 (.seq (.reg [⟨some 81, .bin .eql (.t 17) (.k (.i .i64 7)), none⟩, ⟨some 80, .mov (.t 81), none⟩])
 (.cond (.t 80)
 (.reg [⟨some 82, .mov (.t 6), none⟩, ⟨some 83, .mov (.t 6), none⟩, ⟨some 84, .faddr 23 (.t 3), none⟩, ⟨some 85, .load false 1 (.t 84), none⟩, ⟨some 86, .call false 55 [(.t 83), (.t 85)], none⟩, ⟨some 87, .nilck (.t 82), none⟩, ⟨some 88, .faddr 43 (.t 87), none⟩, ⟨some 89, .faddr 0 (.t 88), none⟩, ⟨none, .store 1 (.t 89) (.t 86), none⟩])
 (.reg [⟨some 18, .mov (.t 6), none⟩, ⟨some 19, .nilck (.t 18), none⟩, ⟨some 20, .faddr 43 (.t 19), none⟩, ⟨some 21, .faddr 0 (.t 20), none⟩, ⟨none, .store 1 (.t 21) (.k (.i .i64 1)), none⟩])))))))))))))))))
 (.seq (.regd [(⟨some 90, .mov (.t 6), none⟩, []),
     (⟨some 91, .nilck (.t 90), none⟩, []),
     (⟨some 92, .faddr 0 (.t 91), none⟩, []),
     (⟨some 93, .load true 43 (.t 92), none⟩, []),
     (⟨some 94, .call false 48 [(.t 93)], none⟩, []),
     (⟨some 95, .mov (.t 6), none⟩, [0, 1, 2, 3, 4]),
     (⟨some 96, .nilck (.t 95), none⟩, [0, 1, 2, 3, 4]),
     (⟨some 97, .faddr 43 (.t 96), none⟩, [0, 1, 2, 3, 4]),
     (⟨some 98, .load true 8 (.t 97), none⟩, [0, 1, 2, 3, 4]),
     (⟨none, .store 43 (.t 4) (.t 94), none⟩, [5, 6, 7, 8]),
     (⟨none, .store 8 (.t 5) (.t 98), none⟩, [])])
 .ret)))))
/-- tidemark/raft.Step -/
def af18 : AFunc := { n := 99, depth := 7, kl := [(2, [2]), (3, [3, 16, 25, 32, 42, 52, 62, 72, 74, 84]), (4, [4]), (5, [5])], res := [.cell 4 true 43, .cell 5 true 8], body := B18 }

def B20 : AC := (.seq (.reg [⟨some 4, .lbox (.t 1) [4, 15, 29], none⟩, ⟨some 5, .lbox (.t 2) [5, 8, 21, 35, 44, 54, 60, 63, 67, 72], none⟩, ⟨some 6, .mov (.k (.i .i64 0)), none⟩])
 (.seq (.reg [⟨some 7, .mov (.k (.i .i64 0)), none⟩])
 (.seq (.seq (.reg [⟨some 8, .faddr 1 (.t 5), none⟩, ⟨some 9, .load false 1 (.t 8), none⟩])
 (.cond (.t 9)
 (.reg [⟨some 10, .mov (.t 0), none⟩, ⟨some 11, .nilck (.t 10), none⟩, ⟨some 12, .faddr 0 (.t 11), none⟩, ⟨some 13, .faddr 0 (.t 12), none⟩, ⟨some 14, .load false 1 (.t 13), none⟩, ⟨some 15, .faddr 1 (.t 4), none⟩, ⟨some 16, .load true 2 (.t 15), none⟩, ⟨some 17, .call false 58 [(.t 14), (.t 16)], none⟩, ⟨some 7, .mov (.t 17), none⟩])
 .skip))
 (.seq (.seq (.reg [⟨some 18, .mov (.t 7), none⟩, ⟨some 19, .bin .eql (.t 18) (.k (.i .i64 0)), none⟩, ⟨some 20, .mov (.t 19), none⟩, ⟨some 21, .faddr 4 (.t 5), some (20, true)⟩,
 ⟨some 22, .load false 1 (.t 21), some (20, true)⟩,
 ⟨some 23, .pick (.t 20) (.t 22) (.k (.b false)), none⟩])
 (.cond (.t 23)
 (.reg [⟨some 24, .mov (.t 0), none⟩, ⟨some 25, .nilck (.t 24), none⟩, ⟨some 26, .faddr 0 (.t 25), none⟩, ⟨some 27, .faddr 0 (.t 26), none⟩, ⟨some 28, .load false 1 (.t 27), none⟩, ⟨some 29, .faddr 6 (.t 4), none⟩, ⟨some 30, .load true 5 (.t 29), none⟩, ⟨some 31, .call false 59 [(.t 28), (.t 30)], none⟩, ⟨some 7, .mov (.t 31), none⟩])
 .skip))
 (.seq (.seq (.reg [⟨some 32, .mov (.t 7), none⟩, ⟨some 33, .bin .eql (.t 32) (.k (.i .i64 0)), none⟩, ⟨some 34, .mov (.t 33), none⟩, ⟨some 35, .faddr 2 (.t 5), some (34, true)⟩,
 ⟨some 36, .load false 1 (.t 35), some (34, true)⟩,
 ⟨some 37, .bin .gtr (.t 36) (.k (.i .i64 0)), some (34, true)⟩,
 ⟨some 38, .pick (.t 34) (.t 37) (.k (.b false)), none⟩])
 (.cond (.t 38)
 (.reg [⟨some 39, .mov (.t 0), none⟩, ⟨some 40, .nilck (.t 39), none⟩, ⟨some 41, .faddr 0 (.t 40), none⟩, ⟨some 42, .faddr 0 (.t 41), none⟩, ⟨some 43, .load false 1 (.t 42), none⟩, ⟨some 44, .faddr 2 (.t 5), none⟩, ⟨some 45, .load false 1 (.t 44), none⟩, ⟨some 46, .call false 60 [(.t 43), (.t 45)], none⟩, ⟨some 7, .mov (.t 46), none⟩])
 .skip))
 (.seq (.seq (.reg [⟨some 47, .mov (.t 7), none⟩, ⟨some 48, .bin .eql (.t 47) (.k (.i .i64 0)), none⟩])
 (.cond (.t 48)
 (.reg [⟨some 49, .mov (.t 0), none⟩, ⟨some 50, .nilck (.t 49), none⟩, ⟨some 51, .faddr 0 (.t 50), none⟩, ⟨some 52, .faddr 0 (.t 51), none⟩, ⟨some 53, .load false 1 (.t 52), none⟩, ⟨some 54, .faddr 3 (.t 5), none⟩, ⟨some 55, .load false 1 (.t 54), none⟩, ⟨some 56, .call false 61 [(.t 53), (.t 55)], none⟩, ⟨some 7, .mov (.t 56), none⟩])
 .skip))
 (.seq (.seq (.reg [⟨some 57, .mov (.t 7), none⟩, ⟨some 58, .bin .eql (.t 57) (.k (.i .i64 0)), none⟩, ⟨some 59, .mov (.t 58), none⟩, ⟨some 60, .faddr 1 (.t 5), some (59, true)⟩,
 ⟨some 61, .load false 1 (.t 60), some (59, true)⟩,
 ⟨some 62, .mov (.t 61), some (59, true)⟩,
 ⟨some 63, .faddr 4 (.t 5), some (62, false)⟩,
 ⟨some 64, .load false 1 (.t 63), some (62, false)⟩,
 ⟨some 65, .pick (.t 62) (.k (.b true)) (.t 64), some (59, true)⟩,
 ⟨some 66, .mov (.t 65), some (59, true)⟩,
 ⟨some 67, .faddr 2 (.t 5), some (66, false)⟩,
 ⟨some 68, .load false 1 (.t 67), some (66, false)⟩,
 ⟨some 69, .bin .gtr (.t 68) (.k (.i .i64 0)), some (66, false)⟩,
 ⟨some 70, .pick (.t 66) (.k (.b true)) (.t 69), some (59, true)⟩,
 ⟨some 71, .mov (.t 70), some (59, true)⟩,
 ⟨some 72, .faddr 3 (.t 5), some (71, false)⟩,
 ⟨some 73, .load false 1 (.t 72), some (71, false)⟩,
 ⟨some 74, .len .slice (.t 73), some (71, false)⟩,
 ⟨some 75, .bin .gtr (.t 74) (.k (.i .i64 0)), some (71, false)⟩,
 ⟨some 76, .pick (.t 71) (.k (.b true)) (.t 75), some (59, true)⟩,
 ⟨some 77, .pick (.t 59) (.t 76) (.k (.b false)), none⟩])
 (.cond (.t 77)
 (.reg [⟨some 78, .mov (.t 0), none⟩, ⟨some 79, .nilck (.t 78), none⟩, ⟨some 80, .faddr 0 (.t 79), none⟩, ⟨some 81, .faddr 0 (.t 80), none⟩, ⟨some 82, .load false 1 (.t 81), none⟩, ⟨some 83, .call false 28 [(.t 82)], none⟩, ⟨some 7, .mov (.t 83), none⟩])
 .skip))
 (.seq (.reg [⟨some 84, .mov (.t 7), none⟩, ⟨some 6, .mov (.t 84), none⟩])
 .ret))))))))
/-- (*tidemark/node.Node).keep -/
def af20 : AFunc := { n := 85, depth := 7, kl := [(4, [4, 15, 29]), (5, [5, 8, 21, 35, 44, 54, 60, 63, 67, 72])], res := [.tmp 6], body := B20 }

def L21_1 : AC := (.seq (.seq (.regd [(⟨some 5, .mov (.t 0), none⟩, []),
      (⟨some 6, .nilck (.t 5), none⟩, []),
      (⟨some 7, .faddr 0 (.t 6), none⟩, []),
      (⟨some 8, .faddr 1 (.t 7), none⟩, []),
      (⟨some 9, .load false 1 (.t 8), none⟩, []),
      (⟨some 10, .call false 13 [(.t 9)], none⟩, []),
      (⟨some 11, .mov (.t 0), none⟩, [0, 1, 2, 3, 4, 5]),
      (⟨some 12, .nilck (.t 11), none⟩, [0, 1, 2, 3, 4, 5]),
      (⟨some 13, .faddr 0 (.t 12), none⟩, [0, 1, 2, 3, 4, 5]),
      (⟨some 14, .faddr 2 (.t 13), none⟩, [0, 1, 2, 3, 4, 5]),
      (⟨some 15, .faddr 5 (.t 14), none⟩, [0, 1, 2, 3, 4, 5]),
      (⟨some 16, .load false 1 (.t 15), none⟩, [0, 1, 2, 3, 4, 5]),
      (⟨some 17, .bin .lss (.t 10) (.t 16), none⟩, [])])
 (.cond (.t 17)
 .skip
 (.exit 0)))
 (.blk 1 (.seq (.regd [(⟨some 18, .mov (.t 0), none⟩, []),
      (⟨some 19, .nilck (.t 18), none⟩, []),
      (⟨some 20, .faddr 0 (.t 19), none⟩, []),
      (⟨some 21, .faddr 2 (.t 20), none⟩, []),
      (⟨some 22, .faddr 11 (.t 21), none⟩, []),
      (⟨some 23, .load false 1 (.t 22), none⟩, []),
      (⟨some 24, .mov (.t 0), none⟩, [0, 1, 2, 3, 4, 5]),
      (⟨some 25, .nilck (.t 24), none⟩, [0, 1, 2, 3, 4, 5]),
      (⟨some 26, .faddr 0 (.t 25), none⟩, [0, 1, 2, 3, 4, 5]),
      (⟨some 27, .faddr 1 (.t 26), none⟩, [0, 1, 2, 3, 4, 5]),
      (⟨some 28, .load false 1 (.t 27), none⟩, [0, 1, 2, 3, 4, 5]),
      (⟨some 29, .call false 13 [(.t 28)], none⟩, [0, 1, 2, 3, 4, 5]),
      (⟨some 30, .mov (.t 0), none⟩, [0, 1, 2, 3, 4, 5, 6, 7, 8, 9, 10, 11]),
      (⟨some 31, .nilck (.t 30), none⟩, [0, 1, 2, 3, 4, 5, 6, 7, 8, 9, 10, 11]),
      (⟨some 32, .faddr 0 (.t 31), none⟩, [0, 1, 2, 3, 4, 5, 6, 7, 8, 9, 10, 11]),
      (⟨some 33, .faddr 2 (.t 32), none⟩, [0, 1, 2, 3, 4, 5, 6, 7, 8, 9, 10, 11]),
      (⟨some 34, .faddr 6 (.t 33), none⟩, [0, 1, 2, 3, 4, 5, 6, 7, 8, 9, 10, 11]),
      (⟨some 35, .faddr 0 (.t 34), none⟩, [0, 1, 2, 3, 4, 5, 6, 7, 8, 9, 10, 11]),
      (⟨some 36, .load false 1 (.t 35), none⟩, [0, 1, 2, 3, 4, 5, 6, 7, 8, 9, 10, 11]),
      (⟨some 37, .bin .sub (.t 29) (.t 36), none⟩, [0, 1, 2, 3, 4, 5]),
      (⟨some 38, .iaddr (.slice 3) (.t 23) (.t 37), none⟩, []),
      (⟨some 39, .load true 3 (.t 38), none⟩, []),
      (⟨some 4, .lalloc [(.i .i64 0), (.i .i64 0), (.sl [] 0 .nil)] [4, 41, 43, 50, 52], none⟩, [0, 1, 2, 3, 4, 5, 6, 7, 8, 9, 10, 11, 12, 13, 14, 15, 16, 17, 18, 19, 20, 21]),
      (⟨none, .store 3 (.t 4) (.t 39), none⟩, [])])
   (.regd [(⟨some 40, .mov (.t 3), none⟩, []),
     (⟨some 41, .faddr 0 (.t 4), none⟩, [0]),
     (⟨some 42, .load false 1 (.t 41), none⟩, [0]),
     (⟨some 43, .faddr 1 (.t 4), none⟩, [0, 1, 2]),
     (⟨some 44, .load false 1 (.t 43), none⟩, [0, 1, 2]),
     (⟨some 45, .mov (.t 0), none⟩, [0, 1, 2, 3, 4]),
     (⟨some 46, .nilck (.t 45), none⟩, [0, 1, 2, 3, 4]),
     (⟨some 47, .faddr 0 (.t 46), none⟩, [0, 1, 2, 3, 4]),
     (⟨some 48, .faddr 1 (.t 47), none⟩, [0, 1, 2, 3, 4]),
     (⟨some 49, .load false 1 (.t 48), none⟩, [0, 1, 2, 3, 4]),
     (⟨some 50, .faddr 0 (.t 4), none⟩, [0, 1, 2, 3, 4, 5, 6, 7, 8, 9]),
     (⟨some 51, .load false 1 (.t 50), none⟩, [0, 1, 2, 3, 4, 5, 6, 7, 8, 9]),
     (⟨some 52, .faddr 2 (.t 4), none⟩, [0, 1, 2, 3, 4, 5, 6, 7, 8, 9, 10, 11]),
     (⟨some 53, .load false 1 (.t 52), none⟩, [0, 1, 2, 3, 4, 5, 6, 7, 8, 9, 10, 11]),
     (⟨some 54, .call false 62 [(.t 49), (.t 51), (.t 53)], none⟩, [0, 1, 2, 3, 4]),
     (⟨some 55, .build [(.i .i64 0), (.i .i64 0), (.i .i64 0), (.i .i64 0)] [(0, 1, (.t 42)), (1, 1, (.t 44)), (2, 2, (.t 54))], none⟩, [0]),
     (⟨some 56, .bslice false 75 4 1 [(.i .i64 0), (.i .i64 0), (.i .i64 0), (.i .i64 0)] [(0, (.t 55))], none⟩, [0]),
     (⟨some 57, .app 75 4 (.t 40) (.t 56), none⟩, []),
     (⟨some 3, .mov (.t 57), none⟩, [])]))))
def B21 : AC := (.seq (.reg [⟨some 2, .mov (.k (.sl [] 0 .nil)), none⟩])
 (.seq (.reg [⟨some 3, .mov (.k (.sl [] 0 .nil)), none⟩])
 (.seq (.blk 0 (.loop L21_1))
 (.seq (.reg [⟨some 58, .mov (.t 3), none⟩, ⟨some 2, .mov (.t 58), none⟩])
 .ret))))
/-- (*tidemark/node.Node).apply -/
def af21 : AFunc := { n := 59, depth := 6, kl := [(4, [4, 41, 43, 50, 52])], res := [.tmp 2], body := B21 }

def B22 : AC := (.seq (.reg [⟨some 2, .lbox (.t 0) [2, 5, 11, 18, 19, 27, 28, 36], none⟩, ⟨some 3, .lbox (.t 1) [3, 7, 13, 21, 22, 30, 31, 39], none⟩, ⟨some 4, .mov (.k (.b false)), none⟩])
 (.seq (.reg [⟨some 5, .faddr 0 (.t 2), none⟩, ⟨some 6, .load false 1 (.t 5), none⟩, ⟨some 7, .faddr 0 (.t 3), none⟩, ⟨some 8, .load false 1 (.t 7), none⟩, ⟨some 9, .bin .eql (.t 6) (.t 8), none⟩, ⟨some 10, .mov (.t 9), none⟩, ⟨some 11, .faddr 1 (.t 2), some (10, true)⟩,
 ⟨some 12, .load false 1 (.t 11), some (10, true)⟩,
 ⟨some 13, .faddr 1 (.t 3), some (10, true)⟩,
 ⟨some 14, .load false 1 (.t 13), some (10, true)⟩,
 ⟨some 15, .bin .eql (.t 12) (.t 14), some (10, true)⟩,
 ⟨some 16, .pick (.t 10) (.t 15) (.k (.b false)), none⟩, ⟨some 17, .mov (.t 16), none⟩, ⟨some 18, .faddr 2 (.t 2), some (17, true)⟩,
 ⟨some 19, .faddr 0 (.t 18), some (17, true)⟩,
 ⟨some 20, .load false 1 (.t 19), some (17, true)⟩,
 ⟨some 21, .faddr 2 (.t 3), some (17, true)⟩,
 ⟨some 22, .faddr 0 (.t 21), some (17, true)⟩,
 ⟨some 23, .load false 1 (.t 22), some (17, true)⟩,
 ⟨some 24, .call true 24 [(.t 20), (.t 23)], some (17, true)⟩,
 ⟨some 25, .pick (.t 17) (.t 24) (.k (.b false)), none⟩, ⟨some 26, .mov (.t 25), none⟩, ⟨some 27, .faddr 2 (.t 2), some (26, true)⟩,
 ⟨some 28, .faddr 1 (.t 27), some (26, true)⟩,
 ⟨some 29, .load false 1 (.t 28), some (26, true)⟩,
 ⟨some 30, .faddr 2 (.t 3), some (26, true)⟩,
 ⟨some 31, .faddr 1 (.t 30), some (26, true)⟩,
 ⟨some 32, .load false 1 (.t 31), some (26, true)⟩,
 ⟨some 33, .call true 24 [(.t 29), (.t 32)], some (26, true)⟩,
 ⟨some 34, .pick (.t 26) (.t 33) (.k (.b false)), none⟩, ⟨some 35, .mov (.t 34), none⟩, ⟨some 36, .faddr 4 (.t 2), some (35, true)⟩,
 ⟨some 37, .load false 1 (.t 36), some (35, true)⟩,
 ⟨some 38, .conv .toStr (.t 37), some (35, true)⟩,
 ⟨some 39, .faddr 4 (.t 3), some (35, true)⟩,
 ⟨some 40, .load false 1 (.t 39), some (35, true)⟩,
 ⟨some 41, .conv .toStr (.t 40), some (35, true)⟩,
 ⟨some 42, .bin .eql (.t 38) (.t 41), some (35, true)⟩,
 ⟨some 43, .pick (.t 35) (.t 42) (.k (.b false)), none⟩, ⟨some 4, .mov (.t 43), none⟩])
 .ret))
/-- tidemark/tidemarkref19.SameBase -/
def af22 : AFunc := { n := 44, depth := 6, kl := [(2, [2, 5, 11, 18, 19, 27, 28, 36]), (3, [3, 7, 13, 21, 22, 30, 31, 39])], res := [.tmp 4], body := B22 }

def L23_1 : AC := (.seq (.reg [⟨some 14, .bin .lss (.t 13) (.t 12), none⟩])
 (.seq (.cond (.t 14)
 .skip
 (.exit 0))
 (.seq (.blk 1 (.seq (.reg [⟨some 15, .mov (.t 13), none⟩, ⟨some 5, .mov (.t 15), none⟩])
 (.seq (.reg [⟨some 16, .mov (.t 0), none⟩, ⟨some 17, .mov (.t 5), none⟩, ⟨some 18, .iaddr (.slice 3) (.t 16) (.t 17), none⟩, ⟨some 19, .faddr 0 (.t 18), none⟩, ⟨some 20, .load false 1 (.t 19), none⟩, ⟨some 21, .mov (.t 1), none⟩, ⟨some 22, .mov (.t 5), none⟩, ⟨some 23, .iaddr (.slice 3) (.t 21) (.t 22), none⟩, ⟨some 24, .faddr 0 (.t 23), none⟩, ⟨some 25, .load false 1 (.t 24), none⟩, ⟨some 26, .bin .neq (.t 20) (.t 25), none⟩, ⟨some 27, .mov (.t 26), none⟩, ⟨some 28, .mov (.t 0), some (27, false)⟩,
 ⟨some 29, .mov (.t 5), some (27, false)⟩,
 ⟨some 30, .iaddr (.slice 3) (.t 28) (.t 29), some (27, false)⟩,
 ⟨some 31, .faddr 1 (.t 30), some (27, false)⟩,
 ⟨some 32, .load false 1 (.t 31), some (27, false)⟩,
 ⟨some 33, .mov (.t 1), some (27, false)⟩,
 ⟨some 34, .mov (.t 5), some (27, false)⟩,
 ⟨some 35, .iaddr (.slice 3) (.t 33) (.t 34), some (27, false)⟩,
 ⟨some 36, .faddr 1 (.t 35), some (27, false)⟩,
 ⟨some 37, .load false 1 (.t 36), some (27, false)⟩,
 ⟨some 38, .bin .neq (.t 32) (.t 37), some (27, false)⟩,
 ⟨some 39, .pick (.t 27) (.k (.b true)) (.t 38), none⟩, ⟨some 40, .mov (.t 39), none⟩, ⟨some 41, .mov (.t 0), some (40, false)⟩,
 ⟨some 42, .mov (.t 5), some (40, false)⟩,
 ⟨some 43, .iaddr (.slice 3) (.t 41) (.t 42), some (40, false)⟩,
 ⟨some 44, .faddr 2 (.t 43), some (40, false)⟩,
 ⟨some 45, .load false 1 (.t 44), some (40, false)⟩,
 ⟨some 46, .conv .toStr (.t 45), some (40, false)⟩,
 ⟨some 47, .mov (.t 1), some (40, false)⟩,
 ⟨some 48, .mov (.t 5), some (40, false)⟩,
 ⟨some 49, .iaddr (.slice 3) (.t 47) (.t 48), some (40, false)⟩,
 ⟨some 50, .faddr 2 (.t 49), some (40, false)⟩,
 ⟨some 51, .load false 1 (.t 50), some (40, false)⟩,
 ⟨some 52, .conv .toStr (.t 51), some (40, false)⟩,
 ⟨some 53, .bin .neq (.t 46) (.t 52), some (40, false)⟩,
 ⟨some 54, .pick (.t 40) (.k (.b true)) (.t 53), none⟩])
 (.cond (.t 54)
 (.seq (.reg [⟨some 4, .mov (.k (.b false)), none⟩])
 .ret)
 .skip))))
 (.reg [⟨some 55, .bin .add (.t 13) (.k (.i .i64 1)), none⟩, ⟨some 13, .mov (.t 55), none⟩]))))
def B23 : AC := (.seq (.reg [⟨some 4, .mov (.k (.b false)), none⟩])
 (.seq (.seq (.reg [⟨some 6, .mov (.t 0), none⟩, ⟨some 7, .len .slice (.t 6), none⟩, ⟨some 8, .mov (.t 1), none⟩, ⟨some 9, .len .slice (.t 8), none⟩, ⟨some 10, .bin .neq (.t 7) (.t 9), none⟩])
 (.cond (.t 10)
 (.seq (.reg [⟨some 4, .mov (.k (.b false)), none⟩])
 .ret)
 .skip))
 (.seq (.seq (.reg [⟨some 11, .mov (.t 0), none⟩, ⟨some 12, .len .slice (.t 11), none⟩, ⟨some 13, .mov (.k (.i .i64 0)), none⟩])
 (.blk 0 (.loop L23_1)))
 (.seq (.reg [⟨some 4, .mov (.k (.b true)), none⟩])
 .ret))))
/-- tidemark/tidemarkref18.Same -/
def af23 : AFunc := { n := 56, depth := 6, kl := [], res := [.tmp 4], body := B23 }

def L24_1 : AC := (.seq (.reg [⟨some 14, .bin .lss (.t 13) (.t 12), none⟩])
 (.seq (.cond (.t 14)
 .skip
 (.exit 0))
 (.seq (.blk 1 (.seq (.reg [⟨some 15, .mov (.t 13), none⟩, ⟨some 5, .mov (.t 15), none⟩])
 (.seq (.reg [⟨some 16, .mov (.t 0), none⟩, ⟨some 17, .mov (.t 5), none⟩, ⟨some 18, .iaddr (.slice 1) (.t 16) (.t 17), none⟩, ⟨some 19, .load false 1 (.t 18), none⟩, ⟨some 20, .mov (.t 1), none⟩, ⟨some 21, .mov (.t 5), none⟩, ⟨some 22, .iaddr (.slice 1) (.t 20) (.t 21), none⟩, ⟨some 23, .load false 1 (.t 22), none⟩, ⟨some 24, .bin .neq (.t 19) (.t 23), none⟩])
 (.cond (.t 24)
 (.seq (.reg [⟨some 4, .mov (.k (.b false)), none⟩])
 .ret)
 .skip))))
 (.reg [⟨some 25, .bin .add (.t 13) (.k (.i .i64 1)), none⟩, ⟨some 13, .mov (.t 25), none⟩]))))
def B24 : AC := (.seq (.reg [⟨some 4, .mov (.k (.b false)), none⟩])
 (.seq (.seq (.reg [⟨some 6, .mov (.t 0), none⟩, ⟨some 7, .len .slice (.t 6), none⟩, ⟨some 8, .mov (.t 1), none⟩, ⟨some 9, .len .slice (.t 8), none⟩, ⟨some 10, .bin .neq (.t 7) (.t 9), none⟩])
 (.cond (.t 10)
 (.seq (.reg [⟨some 4, .mov (.k (.b false)), none⟩])
 .ret)
 .skip))
 (.seq (.seq (.reg [⟨some 11, .mov (.t 0), none⟩, ⟨some 12, .len .slice (.t 11), none⟩, ⟨some 13, .mov (.k (.i .i64 0)), none⟩])
 (.blk 0 (.loop L24_1)))
 (.seq (.reg [⟨some 4, .mov (.k (.b true)), none⟩])
 .ret))))
/-- tidemark/tidemarkref19.sameList -/
def af24 : AFunc := { n := 26, depth := 5, kl := [], res := [.tmp 4], body := B24 }

def L25_1 : AC := (.seq (.reg [⟨some 14, .bin .lss (.t 13) (.t 12), none⟩])
 (.seq (.cond (.t 14)
 .skip
 (.exit 0))
 (.seq (.blk 1 (.seq (.reg [⟨some 15, .mov (.t 13), none⟩, ⟨some 5, .mov (.t 15), none⟩])
 (.seq (.reg [⟨some 16, .mov (.t 0), none⟩, ⟨some 17, .mov (.t 5), none⟩, ⟨some 18, .iaddr (.slice 3) (.t 16) (.t 17), none⟩, ⟨some 19, .load true 3 (.t 18), none⟩, ⟨some 20, .mov (.t 1), none⟩, ⟨some 21, .mov (.t 5), none⟩, ⟨some 22, .iaddr (.slice 3) (.t 20) (.t 21), none⟩, ⟨some 23, .load true 3 (.t 22), none⟩, ⟨some 24, .eq true (.struct [(0, 1, false, .int), (1, 1, false, .int), (2, 1, false, .int)]) (.t 19) (.t 23), none⟩])
 (.cond (.t 24)
 (.seq (.reg [⟨some 4, .mov (.k (.b false)), none⟩])
 .ret)
 .skip))))
 (.reg [⟨some 25, .bin .add (.t 13) (.k (.i .i64 1)), none⟩, ⟨some 13, .mov (.t 25), none⟩]))))
def B25 : AC := (.seq (.reg [⟨some 4, .mov (.k (.b false)), none⟩])
 (.seq (.seq (.reg [⟨some 6, .mov (.t 0), none⟩, ⟨some 7, .len .slice (.t 6), none⟩, ⟨some 8, .mov (.t 1), none⟩, ⟨some 9, .len .slice (.t 8), none⟩, ⟨some 10, .bin .neq (.t 7) (.t 9), none⟩])
 (.cond (.t 10)
 (.seq (.reg [⟨some 4, .mov (.k (.b false)), none⟩])
 .ret)
 .skip))
 (.seq (.seq (.reg [⟨some 11, .mov (.t 0), none⟩, ⟨some 12, .len .slice (.t 11), none⟩, ⟨some 13, .mov (.k (.i .i64 0)), none⟩])
 (.blk 0 (.loop L25_1)))
 (.seq (.reg [⟨some 4, .mov (.k (.b true)), none⟩])
 .ret))))
/-- tidemark/tidemarkref19.sameLooks -/
def af25 : AFunc := { n := 26, depth := 5, kl := [], res := [.tmp 4], body := B25 }

def B26 : AC := (.seq (.reg [⟨some 6, .lbox (.t 1) [6], none⟩, ⟨some 7, .lbox (.t 2) [7, 18], none⟩, ⟨some 10, .lalloc [(.i .i64 0), (.i .i64 0), (.i .i64 0), (.i .i64 0), (.i .i64 0), (.i .i64 0), (.i .i64 0), (.i .i64 0), (.sl [] 0 .nil), (.sl [] 0 .nil), (.sl [] 0 .nil), (.sl [] 0 .nil), (.sl [] 0 .nil), (.i .i64 0), (.i .i64 0), (.i .i64 0), (.i .i64 0), (.i .i64 0), (.i .i64 0), (.i .i64 0), (.i .i64 0), (.i .i64 0), (.i .i64 0), (.i .i64 0), (.i .i64 0), (.i .i64 0), (.i .i64 0), (.i .i64 0), (.i .i64 0), (.i .i64 0), (.i .i64 0), (.i .i64 0), (.i .i64 0), (.i .i64 0), (.i .i64 0), (.i .i64 0), (.i .i64 0), (.sl [] 0 .nil), (.i .i64 0), (.i .i64 0), (.sl [] 0 .nil), (.sl [] 0 .nil), (.sl [] 0 .nil)] [10], none⟩, ⟨some 11, .mov (.k (.i .i64 0)), none⟩])
 (.seq (.reg [⟨some 14, .mov (.t 0), none⟩, ⟨some 15, .load true 2 (.t 6), none⟩, ⟨some 16, .load true 5 (.t 7), none⟩, ⟨some 17, .mov (.t 3), none⟩, ⟨some 18, .faddr 0 (.t 7), none⟩, ⟨some 19, .load false 1 (.t 18), none⟩, ⟨some 20, .mov (.t 4), none⟩, ⟨some 21, .minmax true (.t 20) (.k (.i .i64 1)), none⟩, ⟨some 22, .build [(.i .i64 0), (.i .i64 0), (.i .i64 0), (.i .i64 0), (.i .i64 0), (.i .i64 0), (.i .i64 0), (.i .i64 0), (.sl [] 0 .nil), (.sl [] 0 .nil), (.sl [] 0 .nil), (.sl [] 0 .nil), (.sl [] 0 .nil), (.i .i64 0), (.i .i64 0), (.i .i64 0), (.i .i64 0), (.i .i64 0), (.i .i64 0), (.i .i64 0), (.i .i64 0), (.i .i64 0), (.i .i64 0), (.i .i64 0), (.i .i64 0), (.i .i64 0), (.i .i64 0), (.i .i64 0), (.i .i64 0), (.i .i64 0), (.i .i64 0), (.i .i64 0), (.i .i64 0), (.i .i64 0), (.i .i64 0), (.i .i64 0), (.i .i64 0), (.sl [] 0 .nil), (.i .i64 0), (.i .i64 0), (.sl [] 0 .nil), (.sl [] 0 .nil), (.sl [] 0 .nil)] [(0, 1, (.t 14)), (1, 2, (.t 15)), (6, 5, (.t 16)), (11, 1, (.t 17)), (5, 1, (.t 19)), (34, 1, (.t 21))], none⟩, ⟨some 12, .lalloc [(.i .i64 0), (.i .i64 0), (.i .i64 0), (.i .i64 0), (.i .i64 0), (.i .i64 0), (.i .i64 0), (.i .i64 0), (.sl [] 0 .nil), (.sl [] 0 .nil), (.sl [] 0 .nil), (.sl [] 0 .nil), (.sl [] 0 .nil), (.i .i64 0), (.i .i64 0), (.i .i64 0), (.i .i64 0), (.i .i64 0), (.i .i64 0), (.i .i64 0), (.i .i64 0), (.i .i64 0), (.i .i64 0), (.i .i64 0), (.i .i64 0), (.i .i64 0), (.i .i64 0), (.i .i64 0), (.i .i64 0), (.i .i64 0), (.i .i64 0), (.i .i64 0), (.i .i64 0), (.i .i64 0), (.i .i64 0), (.i .i64 0), (.i .i64 0), (.sl [] 0 .nil), (.i .i64 0), (.i .i64 0), (.sl [] 0 .nil), (.sl [] 0 .nil), (.sl [] 0 .nil)] [12], none⟩, ⟨none, .store 43 (.t 12) (.t 22), none⟩])
 (.seq (.seq (.reg [⟨some 23, .load true 43 (.t 12), none⟩, ⟨some 24, .call true 47 [(.t 23)], none⟩, ⟨some 13, .mov (.t 24), none⟩])
 (.seq (.reg [⟨some 25, .mov (.t 13), none⟩, ⟨some 26, .bin .neq (.t 25) (.k (.i .i64 0)), none⟩])
 (.cond (.t 26)
 (.seq (.reg [⟨some 27, .build [(.i .i64 0), (.i .i64 0), (.i .i64 0), (.i .i64 0), (.i .i64 0), (.i .i64 0), (.i .i64 0), (.i .i64 0), (.sl [] 0 .nil), (.sl [] 0 .nil), (.sl [] 0 .nil), (.sl [] 0 .nil), (.sl [] 0 .nil), (.i .i64 0), (.i .i64 0), (.i .i64 0), (.i .i64 0), (.i .i64 0), (.i .i64 0), (.i .i64 0), (.i .i64 0), (.i .i64 0), (.i .i64 0), (.i .i64 0), (.i .i64 0), (.i .i64 0), (.i .i64 0), (.i .i64 0), (.i .i64 0), (.i .i64 0), (.i .i64 0), (.i .i64 0), (.i .i64 0), (.i .i64 0), (.i .i64 0), (.i .i64 0), (.i .i64 0), (.sl [] 0 .nil), (.i .i64 0), (.i .i64 0), (.sl [] 0 .nil), (.sl [] 0 .nil), (.sl [] 0 .nil)] [], none⟩, ⟨some 28, .mov (.t 13), none⟩, ⟨none, .store 43 (.t 10) (.t 27), none⟩, ⟨some 11, .mov (.t 28), none⟩])
 .ret)
 .skip)))
 (.seq (.reg [⟨some 29, .load true 43 (.t 12), none⟩, ⟨some 30, .call false 48 [(.t 29)], none⟩, ⟨none, .store 43 (.t 10) (.t 30), none⟩, ⟨some 11, .mov (.k (.i .i64 0)), none⟩])
 .ret))))
/-- tidemark/raft.Start -/
def af26 : AFunc := { n := 31, depth := 5, kl := [(6, [6]), (7, [7, 18]), (10, [10]), (12, [12])], res := [.cell 10 true 43, .tmp 11], body := B26 }

def L27_1 : AC := (.seq (.reg [⟨some 18, .bin .lss (.t 17) (.k (.i .i64 2)), none⟩])
 (.seq (.cond (.t 18)
 .skip
 (.exit 0))
 (.seq (.blk 1 (.seq (.reg [⟨some 19, .mov (.t 17), none⟩, ⟨some 5, .mov (.t 19), none⟩])
 (.seq (.reg [⟨some 21, .mov (.t 0), none⟩, ⟨some 22, .mov (.t 5), none⟩, ⟨some 23, .call false 63 [(.t 21), (.t 22)], none⟩, ⟨some 20, .mov (.t 23), none⟩, ⟨some 24, .ext (.t 20) 0, none⟩, ⟨some 25, .ext (.t 20) 1, none⟩, ⟨some 6, .mov (.t 24), none⟩, ⟨some 7, .mov (.t 25), none⟩])
 (.seq (.seq (.reg [⟨some 26, .mov (.t 7), none⟩, ⟨some 27, .bin .neq (.t 26) (.k (.i .i64 0)), none⟩])
 (.cond (.t 27)
 (.seq (.reg [⟨some 28, .mov (.t 7), none⟩, ⟨some 2, .mov (.k .nilp), none⟩, ⟨some 3, .mov (.t 28), none⟩])
 .ret)
 .skip))
 (.seq (.reg [⟨some 30, .mov (.t 6), none⟩, ⟨some 31, .call true 64 [(.t 30)], none⟩, ⟨some 29, .mov (.t 31), none⟩, ⟨some 32, .ext (.t 29) 0, none⟩, ⟨some 33, .ext (.t 29) 1, none⟩, ⟨some 34, .ext (.t 29) 2, none⟩, ⟨some 8, .lalloc [(.i .i64 0), (.i .i64 0), (.i .i64 0), (.i .i64 0), (.sl [] 0 .nil), (.sl [] 0 .nil), (.sl [] 0 .nil), (.sl [] 0 .nil)] [8], none⟩, ⟨none, .store 8 (.t 8) (.t 32), none⟩, ⟨some 9, .mov (.t 33), none⟩, ⟨some 10, .mov (.t 34), none⟩])
 (.seq (.reg [⟨some 35, .mov (.t 10), none⟩, ⟨some 36, .mov (.t 35), none⟩, ⟨some 37, .mov (.t 9), some (36, true)⟩,
 ⟨some 38, .mov (.t 4), some (36, true)⟩,
 ⟨some 39, .nilck (.t 38), some (36, true)⟩,
 ⟨some 40, .faddr 9 (.t 39), some (36, true)⟩,
 ⟨some 41, .load false 1 (.t 40), some (36, true)⟩,
 ⟨some 42, .bin .gtr (.t 37) (.t 41), some (36, true)⟩,
 ⟨some 43, .pick (.t 36) (.t 42) (.k (.b false)), none⟩])
 (.cond (.t 43)
 (.reg [⟨some 44, .mov (.t 4), none⟩, ⟨some 45, .mov (.t 4), none⟩, ⟨some 46, .mov (.t 4), none⟩, ⟨some 47, .load true 8 (.t 8), none⟩, ⟨some 48, .mov (.t 9), none⟩, ⟨some 49, .mov (.t 5), none⟩, ⟨some 50, .nilck (.t 44), none⟩, ⟨some 51, .faddr 0 (.t 50), none⟩, ⟨none, .store 8 (.t 51) (.t 47), none⟩, ⟨some 52, .nilck (.t 45), none⟩, ⟨some 53, .faddr 9 (.t 52), none⟩, ⟨none, .store 1 (.t 53) (.t 48), none⟩, ⟨some 54, .nilck (.t 46), none⟩, ⟨some 55, .faddr 10 (.t 54), none⟩, ⟨none, .store 1 (.t 55) (.t 49), none⟩])
 .skip)))))))
 (.reg [⟨some 56, .bin .add (.t 17) (.k (.i .i64 1)), none⟩, ⟨some 17, .mov (.t 56), none⟩]))))
def B27 : AC := (.seq (.reg [⟨some 2, .mov (.k .nilp), none⟩, ⟨some 3, .mov (.k (.i .i64 0)), none⟩])
 (.seq (.reg [⟨some 14, .mov (.t 0), none⟩, ⟨some 15, .build [(.i .i64 0), (.i .i64 0), (.i .i64 0), (.i .i64 0), (.sl [] 0 .nil), (.sl [] 0 .nil), (.sl [] 0 .nil), (.sl [] 0 .nil), .nilp, (.i .i64 0), (.i .i64 0)] [(8, 1, (.t 14))], none⟩, ⟨some 16, .box 148 (.t 15), none⟩, ⟨some 4, .mov (.t 16), none⟩])
 (.seq (.seq (.reg [⟨some 17, .mov (.k (.i .i64 0)), none⟩])
 (.blk 0 (.loop L27_1)))
 (.seq (.reg [⟨some 58, .mov (.t 0), none⟩, ⟨some 59, .call false 65 [(.t 58)], none⟩, ⟨some 57, .mov (.t 59), none⟩, ⟨some 60, .ext (.t 57) 0, none⟩, ⟨some 61, .ext (.t 57) 1, none⟩, ⟨some 11, .mov (.t 60), none⟩, ⟨some 12, .mov (.t 61), none⟩])
 (.seq (.seq (.reg [⟨some 62, .mov (.t 12), none⟩, ⟨some 63, .bin .neq (.t 62) (.k (.i .i64 0)), none⟩])
 (.cond (.t 63)
 (.seq (.reg [⟨some 64, .mov (.t 12), none⟩, ⟨some 2, .mov (.k .nilp), none⟩, ⟨some 3, .mov (.t 64), none⟩])
 .ret)
 .skip))
 (.seq (.seq (.reg [⟨some 65, .mov (.t 4), none⟩, ⟨some 66, .mov (.t 11), none⟩, ⟨some 67, .call false 66 [(.t 65), (.t 66)], none⟩, ⟨some 68, .un .not (.t 67), none⟩])
 (.cond (.t 68)
 (.seq (.reg [⟨some 69, .mov (.t 4), none⟩, ⟨some 70, .call false 67 [(.t 69)], none⟩, ⟨some 13, .mov (.t 70), none⟩])
 (.seq (.reg [⟨some 71, .mov (.t 13), none⟩, ⟨some 72, .bin .neq (.t 71) (.k (.i .i64 0)), none⟩])
 (.cond (.t 72)
 (.seq (.reg [⟨some 73, .mov (.t 13), none⟩, ⟨some 2, .mov (.k .nilp), none⟩, ⟨some 3, .mov (.t 73), none⟩])
 .ret)
 .skip)))
 .skip))
 (.seq (.reg [⟨some 74, .mov (.t 4), none⟩, ⟨some 2, .mov (.t 74), none⟩, ⟨some 3, .mov (.k (.i .i64 0)), none⟩])
 .ret)))))))
/-- tidemark/save.Open -/
def af27 : AFunc := { n := 75, depth := 7, kl := [(8, [8])], res := [.tmp 2, .tmp 3], body := B27 }

def B28 : AC := (.seq (.reg [⟨some 2, .mov (.k (.i .i64 0)), none⟩])
 (.seq (.seq (.reg [⟨some 3, .mov (.t 0), none⟩, ⟨some 4, .call false 68 [(.t 3)], none⟩, ⟨some 5, .un .not (.t 4), none⟩])
 (.cond (.t 5)
 (.seq (.reg [⟨some 2, .mov (.k (.i .i64 6)), none⟩])
 .ret)
 .skip))
 (.seq (.reg [⟨some 6, .mov (.t 0), none⟩, ⟨some 7, .nilck (.t 6), none⟩, ⟨some 8, .faddr 8 (.t 7), none⟩, ⟨some 9, .load false 1 (.t 8), none⟩, ⟨some 10, .call false 69 [(.t 9)], none⟩, ⟨some 2, .mov (.t 10), none⟩])
 .ret)))
/-- (*tidemark/save.Save).Sync -/
def af28 : AFunc := { n := 11, depth := 4, kl := [], res := [.tmp 2], body := B28 }

def B29 : AC := (.seq (.reg [⟨some 2, .lalloc [(.i .i64 0), (.i .i64 0), (.sl [] 0 .nil), (.sl [] 0 .nil), (.sl [] 0 .nil)] [2], none⟩])
 (.seq (.seq (.reg [⟨some 4, .mov (.t 0), none⟩, ⟨some 5, .call false 68 [(.t 4)], none⟩, ⟨some 6, .un .not (.t 5), none⟩])
 (.cond (.t 6)
 (.seq (.reg [⟨some 7, .build [(.i .i64 0), (.i .i64 0), (.sl [] 0 .nil), (.sl [] 0 .nil), (.sl [] 0 .nil)] [], none⟩, ⟨none, .store 5 (.t 2) (.t 7), none⟩])
 .ret)
 .skip))
 (.seq (.reg [⟨some 8, .mov (.t 0), none⟩, ⟨some 9, .nilck (.t 8), none⟩, ⟨some 10, .faddr 0 (.t 9), none⟩, ⟨some 11, .faddr 2 (.t 10), none⟩, ⟨some 12, .load true 5 (.t 11), none⟩, ⟨some 3, .lalloc [(.i .i64 0), (.i .i64 0), (.sl [] 0 .nil), (.sl [] 0 .nil), (.sl [] 0 .nil)] [3, 13, 16, 17, 20, 21, 25, 26], none⟩, ⟨none, .store 5 (.t 3) (.t 12), none⟩])
 (.seq (.regd [(⟨some 13, .faddr 4 (.t 3), none⟩, []),
     (⟨some 14, .load false 1 (.t 13), none⟩, []),
     (⟨some 15, .call false 70 [(.t 14)], none⟩, []),
     (⟨some 16, .faddr 2 (.t 3), none⟩, [0, 1, 2]),
     (⟨some 17, .faddr 0 (.t 16), none⟩, [0, 1, 2]),
     (⟨some 18, .load false 1 (.t 17), none⟩, [0, 1, 2]),
     (⟨some 19, .call false 71 [(.t 18)], none⟩, []),
     (⟨some 20, .faddr 2 (.t 3), none⟩, [0, 1, 2, 3, 4, 5, 6]),
     (⟨some 21, .faddr 1 (.t 20), none⟩, [0, 1, 2, 3, 4, 5, 6]),
     (⟨some 22, .load false 1 (.t 21), none⟩, [0, 1, 2, 3, 4, 5, 6]),
     (⟨some 23, .call false 71 [(.t 22)], none⟩, []),
     (⟨some 24, .build [(.sl [] 0 .nil), (.sl [] 0 .nil)] [(0, 1, (.t 19)), (1, 1, (.t 23))], none⟩, []),
     (⟨some 25, .faddr 4 (.t 3), none⟩, [6, 10, 11]),
     (⟨none, .store 1 (.t 25) (.t 15), none⟩, [11]),
     (⟨some 26, .faddr 2 (.t 3), none⟩, []),
     (⟨none, .store 2 (.t 26) (.t 24), none⟩, [])])
 (.seq (.reg [⟨some 27, .load true 5 (.t 3), none⟩, ⟨none, .store 5 (.t 2) (.t 27), none⟩])
 .ret)))))
/-- (*tidemark/save.Save).Base -/
def af29 : AFunc := { n := 28, depth := 5, kl := [(2, [2]), (3, [3, 13, 16, 17, 20, 21, 25, 26])], res := [.cell 2 true 5], body := B29 }

def B30 : AC := (.seq (.reg [⟨some 0, .mov (.k .nilp), none⟩])
 (.seq (.reg [⟨some 1, .call false 72 [], none⟩, ⟨some 2, .call false 73 [], none⟩, ⟨some 3, .call false 74 [], none⟩, ⟨some 4, .call false 75 [], none⟩, ⟨some 5, .call false 76 [], none⟩, ⟨some 6, .build [.nilp, .nilp, .nilp, .nilp, .nilp] [(0, 1, (.t 1)), (1, 1, (.t 2)), (2, 1, (.t 3)), (3, 1, (.t 4)), (4, 1, (.t 5))], none⟩, ⟨some 7, .build [.nilp, .nilp, .nilp, .nilp, .nilp, (.i .i64 0), (.i .i64 0)] [(0, 5, (.t 6))], none⟩, ⟨some 8, .box 112 (.t 7), none⟩, ⟨some 0, .mov (.t 8), none⟩])
 .ret))
/-- tidemark/machine.New -/
def af30 : AFunc := { n := 9, depth := 4, kl := [], res := [.tmp 0], body := B30 }

def B31 : AC := (.seq (.reg [⟨some 2, .lalloc [(.i .i64 0), (.i .i64 0)] [2], none⟩])
 (.seq (.seq (.reg [⟨some 3, .mov (.t 0), none⟩, ⟨some 4, .call false 68 [(.t 3)], none⟩, ⟨some 5, .un .not (.t 4), none⟩])
 (.cond (.t 5)
 (.seq (.reg [⟨some 6, .build [(.i .i64 0), (.i .i64 0)] [], none⟩, ⟨none, .store 2 (.t 2) (.t 6), none⟩])
 .ret)
 .skip))
 (.seq (.reg [⟨some 7, .mov (.t 0), none⟩, ⟨some 8, .nilck (.t 7), none⟩, ⟨some 9, .faddr 0 (.t 8), none⟩, ⟨some 10, .faddr 0 (.t 9), none⟩, ⟨some 11, .load true 2 (.t 10), none⟩, ⟨none, .store 2 (.t 2) (.t 11), none⟩])
 .ret)))
/-- (*tidemark/save.Save).Hard -/
def af31 : AFunc := { n := 12, depth := 4, kl := [(2, [2])], res := [.cell 2 true 2], body := B31 }

def L32_1 : AC := (.seq (.reg [⟨some 16, .bin .lss (.t 15) (.t 14), none⟩])
 (.seq (.cond (.t 16)
 .skip
 (.exit 0))
 (.seq (.blk 1 (.seq (.reg [⟨some 17, .iaddr (.slice 3) (.t 13) (.t 15), none⟩, ⟨some 18, .load true 3 (.t 17), none⟩, ⟨some 5, .lalloc [(.i .i64 0), (.i .i64 0), (.sl [] 0 .nil)] [5, 20, 22, 24], none⟩, ⟨none, .store 3 (.t 5) (.t 18), none⟩])
    (.regd [(⟨some 19, .mov (.t 3), none⟩, []),
      (⟨some 20, .faddr 0 (.t 5), none⟩, [0]),
      (⟨some 21, .load false 1 (.t 20), none⟩, [0]),
      (⟨some 22, .faddr 1 (.t 5), none⟩, [0, 1, 2]),
      (⟨some 23, .load false 1 (.t 22), none⟩, [0, 1, 2]),
      (⟨some 24, .faddr 2 (.t 5), none⟩, [0, 1, 2, 3, 4]),
      (⟨some 25, .load false 1 (.t 24), none⟩, [0, 1, 2, 3, 4]),
      (⟨some 26, .call false 70 [(.t 25)], none⟩, [0, 1, 2, 3, 4]),
      (⟨some 27, .build [(.i .i64 0), (.i .i64 0), (.sl [] 0 .nil)] [(0, 1, (.t 21)), (1, 1, (.t 23)), (2, 1, (.t 26))], none⟩, [0]),
      (⟨some 28, .bslice false 68 3 1 [(.i .i64 0), (.i .i64 0), (.sl [] 0 .nil)] [(0, (.t 27))], none⟩, [0]),
      (⟨some 29, .app 68 3 (.t 19) (.t 28), none⟩, []),
      (⟨some 3, .mov (.t 29), none⟩, [])])))
 (.reg [⟨some 30, .bin .add (.t 15) (.k (.i .i64 1)), none⟩, ⟨some 15, .mov (.t 30), none⟩]))))
def B32 : AC := (.seq (.reg [⟨some 2, .mov (.k (.sl [] 0 .nil)), none⟩])
 (.seq (.seq (.reg [⟨some 6, .mov (.t 0), none⟩, ⟨some 7, .call false 68 [(.t 6)], none⟩, ⟨some 8, .un .not (.t 7), none⟩])
 (.cond (.t 8)
 (.seq (.reg [⟨some 2, .mov (.k (.sl [] 0 .nil)), none⟩])
 .ret)
 .skip))
 (.seq (.reg [⟨some 3, .mov (.k (.sl [] 0 .nil)), none⟩])
 (.seq (.seq (.reg [⟨some 9, .mov (.t 0), none⟩, ⟨some 10, .nilck (.t 9), none⟩, ⟨some 11, .faddr 0 (.t 10), none⟩, ⟨some 12, .faddr 7 (.t 11), none⟩, ⟨some 13, .load false 1 (.t 12), none⟩, ⟨some 14, .len .slice (.t 13), none⟩, ⟨some 15, .mov (.k (.i .i64 0)), none⟩])
 (.blk 0 (.loop L32_1)))
 (.seq (.reg [⟨some 31, .mov (.t 3), none⟩, ⟨some 2, .mov (.t 31), none⟩])
 .ret)))))
/-- (*tidemark/save.Save).Rows -/
def af32 : AFunc := { n := 32, depth := 6, kl := [(5, [5, 20, 22, 24])], res := [.tmp 2], body := B32 }

def B33 : AC := (.seq (.reg [⟨some 2, .mov (.k .nilp), none⟩, ⟨some 3, .mov (.k (.i .i64 0)), none⟩])
 (.seq (.seq (.reg [⟨some 4, .mov (.t 0), none⟩, ⟨some 5, .bin .lss (.t 4) (.k (.i .i64 1)), none⟩, ⟨some 6, .mov (.t 5), none⟩, ⟨some 7, .mov (.t 0), some (6, false)⟩,
 ⟨some 8, .bin .gtr (.t 7) (.k (.i .i64 16777216)), some (6, false)⟩,
 ⟨some 9, .pick (.t 6) (.k (.b true)) (.t 8), none⟩])
 (.cond (.t 9)
 (.seq (.reg [⟨some 2, .mov (.k .nilp), none⟩, ⟨some 3, .mov (.k (.i .i64 1)), none⟩])
 .ret)
 .skip))
 (.seq (.reg [⟨some 10, .mov (.t 0), none⟩, ⟨some 11, .build [(.sl [] 0 .nil), (.sl [] 0 .nil), (.sl [] 0 .nil), (.sl [] 0 .nil), (.sl [] 0 .nil), (.sl [] 0 .nil), (.sl [] 0 .nil), (.i .i64 0), (.b false), (.i .i64 0), (.i .i64 0), (.i .i64 0)] [(7, 1, (.t 10))], none⟩, ⟨some 12, .box 165 (.t 11), none⟩, ⟨some 2, .mov (.t 12), none⟩, ⟨some 3, .mov (.k (.i .i64 0)), none⟩])
 .ret)))
/-- tidemark/disk.New -/
def af33 : AFunc := { n := 13, depth := 4, kl := [], res := [.tmp 2, .tmp 3], body := B33 }

def B34 : AC := (.seq (.reg [⟨some 2, .mov (.k (.b false)), none⟩])
 (.seq (.reg [⟨some 3, .mov (.t 0), none⟩, ⟨some 4, .eq false .ptr (.t 3) (.k .nilp), none⟩, ⟨some 5, .mov (.t 4), none⟩, ⟨some 6, .mov (.t 0), some (5, false)⟩,
 ⟨some 7, .nilck (.t 6), some (5, false)⟩,
 ⟨some 8, .faddr 0 (.t 7), some (5, false)⟩,
 ⟨some 9, .faddr 0 (.t 8), some (5, false)⟩,
 ⟨some 10, .load false 1 (.t 9), some (5, false)⟩,
 ⟨some 11, .eq false .ptr (.t 10) (.k .nilp), some (5, false)⟩,
 ⟨some 12, .pick (.t 5) (.k (.b true)) (.t 11), none⟩, ⟨some 2, .mov (.t 12), none⟩])
 .ret))
/-- (*tidemark/machine.Machine).dead -/
def af34 : AFunc := { n := 13, depth := 4, kl := [], res := [.tmp 2], body := B34 }

def L35_2 : AC := (.seq (.seq (.reg [⟨some 35, .mov (.t 7), none⟩, ⟨some 36, .bin .geq (.t 35) (.k (.i .i64 0)), none⟩])
 (.cond (.t 36)
 .skip
 (.exit 2)))
 (.seq (.blk 3 (.reg [⟨some 39, .mov (.t 6), none⟩, ⟨some 40, .mov (.t 1), none⟩, ⟨some 41, .mov (.t 7), none⟩, ⟨some 42, .bin .mul (.k (.i .i64 8)) (.t 41), none⟩, ⟨some 43, .bin .shr (.t 40) (.t 42), none⟩, ⟨some 44, .conv (.int .u8) (.t 43), none⟩, ⟨some 45, .bslice false 5 1 1 [(.i .u8 0)] [(0, (.t 44))], none⟩, ⟨some 46, .app 5 1 (.t 39) (.t 45), none⟩, ⟨some 6, .mov (.t 46), none⟩]))
 (.reg [⟨some 37, .mov (.t 7), none⟩, ⟨some 38, .bin .sub (.t 37) (.k (.i .i64 1)), none⟩, ⟨some 7, .mov (.t 38), none⟩])))
def L35_1 : AC := (.seq (.seq (.reg [⟨some 10, .mov (.t 5), none⟩, ⟨some 11, .bin .lss (.t 10) (.k (.i .i64 8)), none⟩, ⟨some 12, .mov (.t 11), none⟩, ⟨some 13, .mov (.t 1), some (12, true)⟩,
 ⟨some 14, .mov (.t 5), some (12, true)⟩,
 ⟨some 15, .bin .mul (.k (.i .i64 8)) (.t 14), some (12, true)⟩,
 ⟨some 16, .bin .shr (.t 13) (.t 15), some (12, true)⟩,
 ⟨some 17, .bin .gtr (.t 16) (.k (.i .i64 0)), some (12, true)⟩,
 ⟨some 18, .pick (.t 12) (.t 17) (.k (.b false)), none⟩])
 (.cond (.t 18)
 .skip
 (.exit 0)))
 (.blk 1 (.reg [⟨some 19, .mov (.t 5), none⟩, ⟨some 20, .bin .add (.t 19) (.k (.i .i64 1)), none⟩, ⟨some 5, .mov (.t 20), none⟩])))
def B35 : AC := (.seq (.reg [⟨some 4, .mov (.k (.sl [] 0 .nil)), none⟩])
 (.seq (.reg [⟨some 8, .mov (.t 1), none⟩, ⟨some 9, .minmax true (.t 8) (.k (.i .i64 0)), none⟩, ⟨some 1, .mov (.t 9), none⟩])
 (.seq (.reg [⟨some 5, .mov (.k (.i .i64 0)), none⟩])
 (.seq (.blk 0 (.loop L35_1))
 (.seq (.reg [⟨some 21, .mov (.t 0), none⟩, ⟨some 22, .len .slice (.t 21), none⟩, ⟨some 23, .mov (.t 5), none⟩, ⟨some 24, .bin .add (.t 22) (.t 23), none⟩, ⟨some 25, .bin .add (.t 24) (.k (.i .i64 1)), none⟩, ⟨some 26, .mkslice false 5 1 [(.i .u8 0)] (.k (.i .i64 0)) (.t 25), none⟩, ⟨some 27, .mov (.t 0), none⟩, ⟨some 28, .app 5 1 (.t 26) (.t 27), none⟩, ⟨some 29, .mov (.t 5), none⟩, ⟨some 30, .conv (.int .u8) (.t 29), none⟩, ⟨some 31, .bslice false 5 1 1 [(.i .u8 0)] [(0, (.t 30))], none⟩, ⟨some 32, .app 5 1 (.t 28) (.t 31), none⟩, ⟨some 6, .mov (.t 32), none⟩])
 (.seq (.seq (.reg [⟨some 33, .mov (.t 5), none⟩, ⟨some 34, .bin .sub (.t 33) (.k (.i .i64 1)), none⟩, ⟨some 7, .mov (.t 34), none⟩])
 (.blk 2 (.loop L35_2)))
 (.seq (.reg [⟨some 47, .mov (.t 6), none⟩, ⟨some 4, .mov (.t 47), none⟩])
 .ret)))))))
/-- tidemark/wire.Number -/
def af35 : AFunc := { n := 48, depth := 6, kl := [], res := [.tmp 4], body := B35 }

def B36 : AC := (.seq (.reg [⟨some 2, .box 26 (.t 0), none⟩, ⟨some 3, .box 3 (.t 1), none⟩, ⟨some 4, .mov (.k .nilf), none⟩])
 (.seq (.seq (.reg [⟨some 5, .load false 1 (.t 3), none⟩, ⟨some 6, .bin .lss (.t 5) (.k (.i .i64 1)), none⟩])
 (.cond (.t 6)
 (.reg [⟨some 7, .mkif 9 (.k (.s [99, 97, 110, 110, 111, 116, 32, 98, 101, 32, 108, 101, 115, 115, 32, 116, 104, 97, 110, 32, 49])), none⟩, ⟨none, .bad, none⟩])
 .skip))
 (.seq (.reg [⟨some 8, .mkfn 77 [] [(.t 2), (.t 3)], none⟩, ⟨some 4, .mov (.t 8), none⟩])
 .ret)))
/-- slices.Chunk[[]byte,byte] -/
def af36 : AFunc := { n := 9, depth := 4, kl := [], res := [.tmp 4], body := B36 }

def B38 : AC := (.seq (.reg [⟨some 4, .mov (.k (.sl [] 0 .nil)), none⟩])
 (.seq (.reg [⟨some 5, .mov (.t 0), none⟩, ⟨some 6, .mov (.t 1), none⟩, ⟨some 7, .len .str (.t 6), none⟩, ⟨some 8, .call false 35 [(.t 5), (.t 7)], none⟩, ⟨some 9, .mov (.t 1), none⟩, ⟨some 10, .app 5 1 (.t 8) (.t 9), none⟩, ⟨some 4, .mov (.t 10), none⟩])
 .ret))
/-- tidemark/wire.Text -/
def af38 : AFunc := { n := 11, depth := 4, kl := [], res := [.tmp 4], body := B38 }

def L39_1 : AC := (.seq (.reg [⟨some 10, .bin .lss (.t 9) (.t 8), none⟩])
 (.seq (.cond (.t 10)
 .skip
 (.exit 0))
 (.seq (.blk 1 (.seq (.reg [⟨some 11, .iaddr (.slice 1) (.t 7) (.t 9), none⟩, ⟨some 12, .load false 1 (.t 11), none⟩, ⟨some 6, .mov (.t 12), none⟩])
 (.reg [⟨some 13, .mov (.t 0), none⟩, ⟨some 14, .mov (.t 6), none⟩, ⟨some 15, .call false 35 [(.t 13), (.t 14)], none⟩, ⟨some 0, .mov (.t 15), none⟩])))
 (.reg [⟨some 16, .bin .add (.t 9) (.k (.i .i64 1)), none⟩, ⟨some 9, .mov (.t 16), none⟩]))))
def B39 : AC := (.seq (.reg [⟨some 4, .mov (.k (.sl [] 0 .nil)), none⟩])
 (.seq (.seq (.reg [⟨some 7, .mov (.t 1), none⟩, ⟨some 8, .len .slice (.t 7), none⟩, ⟨some 9, .mov (.k (.i .i64 0)), none⟩])
 (.blk 0 (.loop L39_1)))
 (.seq (.reg [⟨some 17, .mov (.t 0), none⟩, ⟨some 4, .mov (.t 17), none⟩])
 .ret)))
/-- tidemark/wire.Numbers -/
def af39 : AFunc := { n := 18, depth := 5, kl := [], res := [.tmp 4], body := B39 }

def L40_1 : AC := (.seq (.reg [⟨some 14, .bin .lss (.t 13) (.t 12), none⟩])
 (.seq (.cond (.t 14)
 .skip
 (.exit 0))
 (.seq (.blk 1 (.seq (.reg [⟨some 15, .iaddr (.slice 3) (.t 11) (.t 13), none⟩, ⟨some 16, .load true 3 (.t 15), none⟩, ⟨some 6, .lalloc [(.s []), (.b false), (.s [])] [6, 18, 21, 24], none⟩, ⟨none, .store 3 (.t 6) (.t 16), none⟩])
    (.regd [(⟨some 17, .mov (.t 0), none⟩, []),
      (⟨some 18, .faddr 0 (.t 6), none⟩, [0]),
      (⟨some 19, .load false 1 (.t 18), none⟩, [0]),
      (⟨some 20, .call false 38 [(.t 17), (.t 19)], none⟩, []),
      (⟨some 21, .faddr 1 (.t 6), none⟩, [0, 1, 2, 3]),
      (⟨some 22, .load false 1 (.t 21), none⟩, [0, 1, 2, 3]),
      (⟨some 23, .call false 85 [(.t 20), (.t 22)], none⟩, []),
      (⟨some 24, .faddr 2 (.t 6), none⟩, [0, 1, 2, 3, 4, 5, 6]),
      (⟨some 25, .load false 1 (.t 24), none⟩, [0, 1, 2, 3, 4, 5, 6]),
      (⟨some 26, .call false 38 [(.t 23), (.t 25)], none⟩, []),
      (⟨some 0, .mov (.t 26), none⟩, [])])))
 (.reg [⟨some 27, .bin .add (.t 13) (.k (.i .i64 1)), none⟩, ⟨some 13, .mov (.t 27), none⟩]))))
def B40 : AC := (.seq (.reg [⟨some 4, .mov (.k (.sl [] 0 .nil)), none⟩])
 (.seq (.reg [⟨some 7, .mov (.t 0), none⟩, ⟨some 8, .mov (.t 1), none⟩, ⟨some 9, .len .slice (.t 8), none⟩, ⟨some 10, .call false 35 [(.t 7), (.t 9)], none⟩, ⟨some 0, .mov (.t 10), none⟩])
 (.seq (.seq (.reg [⟨some 11, .mov (.t 1), none⟩, ⟨some 12, .len .slice (.t 11), none⟩, ⟨some 13, .mov (.k (.i .i64 0)), none⟩])
 (.blk 0 (.loop L40_1)))
 (.seq (.reg [⟨some 28, .mov (.t 0), none⟩, ⟨some 4, .mov (.t 28), none⟩])
 .ret))))
/-- tidemark/kv.Put -/
def af40 : AFunc := { n := 29, depth := 5, kl := [(6, [6, 18, 21, 24])], res := [.tmp 4], body := B40 }

def B43 : AC := (.seq (.reg [⟨some 3, .lbox (.t 1) [3, 6, 9, 13, 16], none⟩, ⟨some 4, .mov (.k (.sl [] 0 .nil)), none⟩])
 (.seq (.regd [(⟨some 5, .mov (.t 0), none⟩, []),
     (⟨some 6, .faddr 1 (.t 3), none⟩, [0]),
     (⟨some 7, .load false 1 (.t 6), none⟩, [0]),
     (⟨some 8, .call false 35 [(.t 5), (.t 7)], none⟩, []),
     (⟨some 9, .faddr 0 (.t 3), none⟩, [0, 1, 2, 3]),
     (⟨some 10, .load false 1 (.t 9), none⟩, [0, 1, 2, 3]),
     (⟨some 11, .call false 38 [(.t 8), (.t 10)], none⟩, []),
     (⟨some 0, .mov (.t 11), none⟩, [])])
 (.seq (.regd [(⟨some 12, .mov (.t 0), none⟩, []),
     (⟨some 13, .faddr 2 (.t 3), none⟩, [0]),
     (⟨some 14, .load false 1 (.t 13), none⟩, [0]),
     (⟨some 15, .call false 38 [(.t 12), (.t 14)], none⟩, []),
     (⟨some 16, .faddr 3 (.t 3), none⟩, [0, 1, 2, 3]),
     (⟨some 17, .load false 1 (.t 16), none⟩, [0, 1, 2, 3]),
     (⟨some 18, .call false 38 [(.t 15), (.t 17)], none⟩, []),
     (⟨some 4, .mov (.t 18), none⟩, [])])
 .ret)))
/-- tidemark/views.Put -/
def af43 : AFunc := { n := 19, depth := 5, kl := [(3, [3, 6, 9, 13, 16])], res := [.tmp 4], body := B43 }

def L47_1 : AC := (.seq (.reg [⟨some 130, .bin .lss (.t 129) (.k (.i .i64 5)), none⟩])
 (.seq (.cond (.t 130)
 .skip
 (.exit 0))
 (.seq (.blk 1 (.seq (.reg [⟨some 131, .idx (.arr 5 4 true) (.t 128) (.t 129), none⟩, ⟨some 8, .lalloc [(.i .i64 0), (.i .i64 0), (.i .i64 0), (.i .i64 0)] [8, 134, 139, 146, 151, 157, 162, 171], none⟩, ⟨none, .store 4 (.t 8) (.t 131), none⟩])
 (.reg [⟨some 132, .mov (.t 6), none⟩, ⟨some 133, .mov (.t 132), none⟩, ⟨some 134, .faddr 0 (.t 8), some (133, true)⟩,
 ⟨some 135, .load false 1 (.t 134), some (133, true)⟩,
 ⟨some 136, .bin .geq (.t 135) (.k (.i .i64 0)), some (133, true)⟩,
 ⟨some 137, .pick (.t 133) (.t 136) (.k (.b false)), none⟩, ⟨some 138, .mov (.t 137), none⟩, ⟨some 139, .faddr 0 (.t 8), some (138, true)⟩,
 ⟨some 140, .load false 1 (.t 139), some (138, true)⟩,
 ⟨some 141, .mov (.t 4), some (138, true)⟩,
 ⟨some 142, .bin .add (.t 141) (.k (.i .i64 1)), some (138, true)⟩,
 ⟨some 143, .bin .leq (.t 140) (.t 142), some (138, true)⟩,
 ⟨some 144, .pick (.t 138) (.t 143) (.k (.b false)), none⟩, ⟨some 145, .mov (.t 144), none⟩, ⟨some 146, .faddr 1 (.t 8), some (145, true)⟩,
 ⟨some 147, .load false 1 (.t 146), some (145, true)⟩,
 ⟨some 148, .bin .geq (.t 147) (.k (.i .i64 0)), some (145, true)⟩,
 ⟨some 149, .pick (.t 145) (.t 148) (.k (.b false)), none⟩, ⟨some 150, .mov (.t 149), none⟩, ⟨some 151, .faddr 1 (.t 8), some (150, true)⟩,
 ⟨some 152, .load false 1 (.t 151), some (150, true)⟩,
 ⟨some 153, .mov (.t 4), some (150, true)⟩,
 ⟨some 154, .bin .leq (.t 152) (.t 153), some (150, true)⟩,
 ⟨some 155, .pick (.t 150) (.t 154) (.k (.b false)), none⟩, ⟨some 156, .mov (.t 155), none⟩, ⟨some 157, .faddr 3 (.t 8), some (156, true)⟩,
 ⟨some 158, .load false 1 (.t 157), some (156, true)⟩,
 ⟨some 159, .bin .geq (.t 158) (.k (.i .i64 0)), some (156, true)⟩,
 ⟨some 160, .pick (.t 156) (.t 159) (.k (.b false)), none⟩, ⟨some 161, .mov (.t 160), none⟩, ⟨some 162, .faddr 3 (.t 8), some (161, true)⟩,
 ⟨some 163, .load false 1 (.t 162), some (161, true)⟩,
 ⟨some 164, .faddr 6 (.t 1), some (161, true)⟩,
 ⟨some 165, .faddr 4 (.t 164), some (161, true)⟩,
 ⟨some 166, .load false 1 (.t 165), some (161, true)⟩,
 ⟨some 167, .len .slice (.t 166), some (161, true)⟩,
 ⟨some 168, .bin .leq (.t 163) (.t 167), some (161, true)⟩,
 ⟨some 169, .pick (.t 161) (.t 168) (.k (.b false)), none⟩, ⟨some 170, .mov (.t 169), none⟩, ⟨some 171, .faddr 2 (.t 8), some (170, true)⟩,
 ⟨some 172, .load false 1 (.t 171), some (170, true)⟩,
 ⟨some 173, .bin .geq (.t 172) (.k (.i .i64 0)), some (170, true)⟩,
 ⟨some 174, .pick (.t 170) (.t 173) (.k (.b false)), none⟩, ⟨some 6, .mov (.t 174), none⟩])))
 (.reg [⟨some 175, .bin .add (.t 129) (.k (.i .i64 1)), none⟩, ⟨some 129, .mov (.t 175), none⟩]))))
def B47 : AC := (.seq (.reg [⟨some 1, .lbox (.t 0) [1, 9, 10, 12, 13, 15, 23, 27, 28, 30, 32, 34, 40, 41, 46, 47, 52, 63, 64, 70, 72, 73, 78, 84, 89, 94, 99, 105, 110, 115, 116, 122, 127, 164, 165, 179], none⟩, ⟨some 2, .mov (.k (.i .i64 0)), none⟩])
 (.seq (.reg [⟨some 9, .faddr 6 (.t 1), none⟩, ⟨some 10, .faddr 0 (.t 9), none⟩, ⟨some 11, .load false 1 (.t 10), none⟩, ⟨some 12, .faddr 6 (.t 1), none⟩, ⟨some 13, .faddr 1 (.t 12), none⟩, ⟨some 14, .load false 1 (.t 13), none⟩, ⟨some 15, .faddr 11 (.t 1), none⟩, ⟨some 16, .load false 1 (.t 15), none⟩, ⟨some 17, .build [(.i .i64 0), (.i .i64 0), (.sl [] 0 .nil)] [(0, 1, (.t 11)), (1, 1, (.t 14)), (2, 1, (.t 16))], none⟩, ⟨some 3, .lalloc [(.i .i64 0), (.i .i64 0), (.sl [] 0 .nil)] [3], none⟩, ⟨none, .store 3 (.t 3) (.t 17), none⟩])
 (.seq (.reg [⟨some 19, .load true 3 (.t 3), none⟩, ⟨some 20, .call false 95 [(.t 19)], none⟩, ⟨some 18, .mov (.t 20), none⟩, ⟨some 21, .ext (.t 18) 0, none⟩, ⟨some 22, .ext (.t 18) 1, none⟩, ⟨some 4, .mov (.t 21), none⟩, ⟨some 5, .mov (.t 22), none⟩])
 (.seq (.reg [⟨some 23, .faddr 0 (.t 1), none⟩, ⟨some 24, .load false 1 (.t 23), none⟩, ⟨some 25, .call true 96 [(.t 24)], none⟩, ⟨some 26, .mov (.t 25), none⟩, ⟨some 27, .faddr 1 (.t 1), some (26, true)⟩,
 ⟨some 28, .faddr 0 (.t 27), some (26, true)⟩,
 ⟨some 29, .load false 1 (.t 28), some (26, true)⟩,
 ⟨some 30, .faddr 5 (.t 1), some (26, true)⟩,
 ⟨some 31, .load false 1 (.t 30), some (26, true)⟩,
 ⟨some 32, .faddr 35 (.t 1), some (26, true)⟩,
 ⟨some 33, .load false 1 (.t 32), some (26, true)⟩,
 ⟨some 34, .faddr 36 (.t 1), some (26, true)⟩,
 ⟨some 35, .load false 1 (.t 34), some (26, true)⟩,
 ⟨some 36, .bslice false 3 1 4 [(.i .i64 0)] [(0, (.t 29)), (1, (.t 31)), (2, (.t 33)), (3, (.t 35))], some (26, true)⟩,
 ⟨some 37, .call true 97 [(.t 36)], some (26, true)⟩,
 ⟨some 38, .pick (.t 26) (.t 37) (.k (.b false)), none⟩, ⟨some 39, .mov (.t 38), none⟩, ⟨some 40, .faddr 1 (.t 1), some (39, true)⟩,
 ⟨some 41, .faddr 1 (.t 40), some (39, true)⟩,
 ⟨some 42, .load false 1 (.t 41), some (39, true)⟩,
 ⟨some 43, .bin .geq (.t 42) (.k (.i .i64 0)), some (39, true)⟩,
 ⟨some 44, .pick (.t 39) (.t 43) (.k (.b false)), none⟩, ⟨some 45, .mov (.t 44), none⟩, ⟨some 46, .faddr 1 (.t 1), some (45, true)⟩,
 ⟨some 47, .faddr 1 (.t 46), some (45, true)⟩,
 ⟨some 48, .load false 1 (.t 47), some (45, true)⟩,
 ⟨some 49, .bin .leq (.t 48) (.k (.i .i64 5)), some (45, true)⟩,
 ⟨some 50, .pick (.t 45) (.t 49) (.k (.b false)), none⟩, ⟨some 51, .mov (.t 50), none⟩, ⟨some 52, .faddr 6 (.t 1), some (51, true)⟩,
 ⟨some 53, .load true 5 (.t 52), some (51, true)⟩,
 ⟨some 54, .call true 98 [(.t 53)], some (51, true)⟩,
 ⟨some 55, .pick (.t 51) (.t 54) (.k (.b false)), none⟩, ⟨some 56, .mov (.t 55), none⟩, ⟨some 57, .load true 3 (.t 3), some (56, true)⟩,
 ⟨some 58, .call false 99 [(.t 57)], some (56, true)⟩,
 ⟨some 59, .bin .eql (.t 58) (.k (.i .i64 0)), some (56, true)⟩,
 ⟨some 60, .pick (.t 56) (.t 59) (.k (.b false)), none⟩, ⟨some 61, .mov (.t 60), none⟩, ⟨some 62, .mov (.t 5), some (61, true)⟩,
 ⟨some 63, .faddr 1 (.t 1), some (61, true)⟩,
 ⟨some 64, .faddr 0 (.t 63), some (61, true)⟩,
 ⟨some 65, .load false 1 (.t 64), some (61, true)⟩,
 ⟨some 66, .bin .leq (.t 62) (.t 65), some (61, true)⟩,
 ⟨some 67, .pick (.t 61) (.t 66) (.k (.b false)), none⟩, ⟨some 6, .mov (.t 67), none⟩])
 (.seq (.reg [⟨some 68, .mov (.t 6), none⟩, ⟨some 69, .mov (.t 68), none⟩, ⟨some 70, .faddr 5 (.t 1), some (69, true)⟩,
 ⟨some 71, .load false 1 (.t 70), some (69, true)⟩,
 ⟨some 72, .faddr 6 (.t 1), some (69, true)⟩,
 ⟨some 73, .faddr 0 (.t 72), some (69, true)⟩,
 ⟨some 74, .load false 1 (.t 73), some (69, true)⟩,
 ⟨some 75, .bin .geq (.t 71) (.t 74), some (69, true)⟩,
 ⟨some 76, .pick (.t 69) (.t 75) (.k (.b false)), none⟩, ⟨some 77, .mov (.t 76), none⟩, ⟨some 78, .faddr 5 (.t 1), some (77, true)⟩,
 ⟨some 79, .load false 1 (.t 78), some (77, true)⟩,
 ⟨some 80, .mov (.t 4), some (77, true)⟩,
 ⟨some 81, .bin .leq (.t 79) (.t 80), some (77, true)⟩,
 ⟨some 82, .pick (.t 77) (.t 81) (.k (.b false)), none⟩, ⟨some 83, .mov (.t 82), none⟩, ⟨some 84, .faddr 3 (.t 1), some (83, true)⟩,
 ⟨some 85, .load false 1 (.t 84), some (83, true)⟩,
 ⟨some 86, .bin .geq (.t 85) (.k (.i .i64 0)), some (83, true)⟩,
 ⟨some 87, .pick (.t 83) (.t 86) (.k (.b false)), none⟩, ⟨some 88, .mov (.t 87), none⟩, ⟨some 89, .faddr 3 (.t 1), some (88, true)⟩,
 ⟨some 90, .load false 1 (.t 89), some (88, true)⟩,
 ⟨some 91, .bin .leq (.t 90) (.k (.i .i64 3)), some (88, true)⟩,
 ⟨some 92, .pick (.t 88) (.t 91) (.k (.b false)), none⟩, ⟨some 93, .mov (.t 92), none⟩, ⟨some 94, .faddr 4 (.t 1), some (93, true)⟩,
 ⟨some 95, .load false 1 (.t 94), some (93, true)⟩,
 ⟨some 96, .bin .geq (.t 95) (.k (.i .i64 0)), some (93, true)⟩,
 ⟨some 97, .pick (.t 93) (.t 96) (.k (.b false)), none⟩, ⟨some 98, .mov (.t 97), none⟩, ⟨some 99, .faddr 4 (.t 1), some (98, true)⟩,
 ⟨some 100, .load false 1 (.t 99), some (98, true)⟩,
 ⟨some 101, .bin .leq (.t 100) (.k (.i .i64 5)), some (98, true)⟩,
 ⟨some 102, .pick (.t 98) (.t 101) (.k (.b false)), none⟩, ⟨some 6, .mov (.t 102), none⟩])
 (.seq (.reg [⟨some 103, .mov (.t 6), none⟩, ⟨some 104, .mov (.t 103), none⟩, ⟨some 105, .faddr 33 (.t 1), some (104, true)⟩,
 ⟨some 106, .load false 1 (.t 105), some (104, true)⟩,
 ⟨some 107, .bin .geq (.t 106) (.k (.i .i64 0)), some (104, true)⟩,
 ⟨some 108, .pick (.t 104) (.t 107) (.k (.b false)), none⟩, ⟨some 109, .mov (.t 108), none⟩, ⟨some 110, .faddr 34 (.t 1), some (109, true)⟩,
 ⟨some 111, .load false 1 (.t 110), some (109, true)⟩,
 ⟨some 112, .bin .geq (.t 111) (.k (.i .i64 1)), some (109, true)⟩,
 ⟨some 113, .pick (.t 109) (.t 112) (.k (.b false)), none⟩, ⟨some 114, .mov (.t 113), none⟩, ⟨some 115, .faddr 38 (.t 1), some (114, true)⟩,
 ⟨some 116, .faddr 4 (.t 115), some (114, true)⟩,
 ⟨some 117, .load false 1 (.t 116), some (114, true)⟩,
 ⟨some 118, .len .slice (.t 117), some (114, true)⟩,
 ⟨some 119, .bin .leq (.t 118) (.k (.i .i64 65536)), some (114, true)⟩,
 ⟨some 120, .pick (.t 114) (.t 119) (.k (.b false)), none⟩, ⟨some 121, .mov (.t 120), none⟩, ⟨some 122, .faddr 12 (.t 1), some (121, true)⟩,
 ⟨some 123, .load false 1 (.t 122), some (121, true)⟩,
 ⟨some 124, .call false 100 [(.t 123), (.f 101)], some (121, true)⟩,
 ⟨some 125, .un .not (.t 124), some (121, true)⟩,
 ⟨some 126, .pick (.t 121) (.t 125) (.k (.b false)), none⟩, ⟨some 6, .mov (.t 126), none⟩])
 (.seq (.seq (.reg [⟨some 127, .faddr 13 (.t 1), none⟩, ⟨some 128, .load true 20 (.t 127), none⟩, ⟨some 129, .mov (.k (.i .i64 0)), none⟩])
 (.blk 0 (.loop L47_1)))
 (.seq (.seq (.reg [⟨some 176, .mov (.t 6), none⟩, ⟨some 177, .un .not (.t 176), none⟩, ⟨some 178, .mov (.t 177), none⟩, ⟨some 179, .faddr 33 (.t 1), some (178, false)⟩,
 ⟨some 180, .load false 1 (.t 179), some (178, false)⟩,
 ⟨some 181, .bin .gtr (.t 180) (.k (.i .i64 1099511627776)), some (178, false)⟩,
 ⟨some 182, .pick (.t 178) (.k (.b true)) (.t 181), none⟩])
 (.cond (.t 182)
 (.seq (.reg [⟨some 2, .mov (.k (.i .i64 1)), none⟩])
 .ret)
 .skip))
 (.seq (.reg [⟨some 2, .mov (.k (.i .i64 0)), none⟩])
 .ret)))))))))
/-- tidemark/raft.Check -/
def af47 : AFunc := { n := 183, depth := 8, kl := [(1, [1, 9, 10, 12, 13, 15, 23, 27, 28, 30, 32, 34, 40, 41, 46, 47, 52, 63, 64, 70, 72, 73, 78, 84, 89, 94, 99, 105, 110, 115, 116, 122, 127, 164, 165, 179]), (3, [3]), (8, [8, 134, 139, 146, 151, 157, 162, 171])], res := [.tmp 2], body := B47 }

def B48 : AC := (.seq (.reg [⟨some 1, .lbox (.t 0) [1, 3, 6, 9, 10, 11, 14, 15, 18, 21, 22], none⟩, ⟨some 2, .lalloc [(.i .i64 0), (.i .i64 0), (.i .i64 0), (.i .i64 0), (.i .i64 0), (.i .i64 0), (.i .i64 0), (.i .i64 0), (.sl [] 0 .nil), (.sl [] 0 .nil), (.sl [] 0 .nil), (.sl [] 0 .nil), (.sl [] 0 .nil), (.i .i64 0), (.i .i64 0), (.i .i64 0), (.i .i64 0), (.i .i64 0), (.i .i64 0), (.i .i64 0), (.i .i64 0), (.i .i64 0), (.i .i64 0), (.i .i64 0), (.i .i64 0), (.i .i64 0), (.i .i64 0), (.i .i64 0), (.i .i64 0), (.i .i64 0), (.i .i64 0), (.i .i64 0), (.i .i64 0), (.i .i64 0), (.i .i64 0), (.i .i64 0), (.i .i64 0), (.sl [] 0 .nil), (.i .i64 0), (.i .i64 0), (.sl [] 0 .nil), (.sl [] 0 .nil), (.sl [] 0 .nil)] [2], none⟩])
 (.seq (.reg [⟨some 3, .faddr 6 (.t 1), none⟩, ⟨some 4, .load true 5 (.t 3), none⟩, ⟨some 5, .call true 102 [(.t 4)], none⟩, ⟨some 6, .faddr 38 (.t 1), none⟩, ⟨some 7, .load true 5 (.t 6), none⟩, ⟨some 8, .call true 102 [(.t 7)], none⟩, ⟨some 9, .faddr 6 (.t 1), none⟩, ⟨none, .store 5 (.t 9) (.t 5), none⟩, ⟨some 10, .faddr 38 (.t 1), none⟩, ⟨none, .store 5 (.t 10) (.t 8), none⟩])
 (.seq (.reg [⟨some 11, .faddr 11 (.t 1), none⟩, ⟨some 12, .load false 1 (.t 11), none⟩, ⟨some 13, .call false 103 [(.t 12)], none⟩, ⟨some 14, .faddr 11 (.t 1), none⟩, ⟨none, .store 1 (.t 14) (.t 13), none⟩])
 (.seq (.regd [(⟨some 15, .faddr 12 (.t 1), none⟩, []),
     (⟨some 16, .load false 1 (.t 15), none⟩, []),
     (⟨some 17, .call false 71 [(.t 16)], none⟩, []),
     (⟨some 18, .faddr 37 (.t 1), none⟩, [0, 1, 2]),
     (⟨some 19, .load false 1 (.t 18), none⟩, [0, 1, 2]),
     (⟨some 20, .call true 104 [(.t 19)], none⟩, []),
     (⟨some 21, .faddr 12 (.t 1), none⟩, [5]),
     (⟨none, .store 1 (.t 21) (.t 17), none⟩, []),
     (⟨some 22, .faddr 37 (.t 1), none⟩, []),
     (⟨none, .store 1 (.t 22) (.t 20), none⟩, [])])
 (.seq (.reg [⟨some 23, .load true 43 (.t 1), none⟩, ⟨none, .store 43 (.t 2) (.t 23), none⟩])
 .ret)))))
/-- tidemark/raft.copied -/
def af48 : AFunc := { n := 24, depth := 5, kl := [(1, [1, 3, 6, 9, 10, 11, 14, 15, 18, 21, 22]), (2, [2])], res := [.cell 2 true 43], body := B48 }

def B49 : AC := (.seq (.reg [⟨some 4, .mov (.t 0), none⟩, ⟨some 5, .mov (.t 0), none⟩, ⟨some 6, .nilck (.t 5), none⟩, ⟨some 7, .faddr 0 (.t 6), none⟩, ⟨some 8, .faddr 33 (.t 7), none⟩, ⟨some 9, .load false 1 (.t 8), none⟩, ⟨some 10, .bin .add (.t 9) (.k (.i .i64 1)), none⟩, ⟨some 11, .minmax false (.t 10) (.k (.i .i64 1099511627776)), none⟩, ⟨some 12, .nilck (.t 4), none⟩, ⟨some 13, .faddr 0 (.t 12), none⟩, ⟨some 14, .faddr 33 (.t 13), none⟩, ⟨none, .store 1 (.t 14) (.t 11), none⟩])
 (.blk 0 (.seq (.reg [⟨some 16, .mov (.t 0), none⟩, ⟨some 17, .nilck (.t 16), none⟩, ⟨some 18, .faddr 0 (.t 17), none⟩, ⟨some 19, .faddr 3 (.t 18), none⟩, ⟨some 20, .load false 1 (.t 19), none⟩, ⟨some 21, .bin .eql (.t 20) (.k (.i .i64 3)), none⟩, ⟨some 15, .mov (.t 21), none⟩])
 (.cond (.t 15)
 (.reg [⟨some 22, .mov (.t 0), none⟩, ⟨some 23, .call false 105 [(.t 22)], none⟩])
 (.seq (.reg [⟨some 25, .mov (.t 0), none⟩, ⟨some 26, .nilck (.t 25), none⟩, ⟨some 27, .faddr 0 (.t 26), none⟩, ⟨some 28, .faddr 33 (.t 27), none⟩, ⟨some 29, .load false 1 (.t 28), none⟩, ⟨some 30, .mov (.t 0), none⟩, ⟨some 31, .nilck (.t 30), none⟩, ⟨some 32, .faddr 0 (.t 31), none⟩, ⟨some 33, .faddr 34 (.t 32), none⟩, ⟨some 34, .load false 1 (.t 33), none⟩, ⟨some 35, .bin .geq (.t 29) (.t 34), none⟩, ⟨some 24, .mov (.t 35), none⟩])
 (.cond (.t 24)
 (.reg [⟨some 36, .mov (.t 0), none⟩, ⟨some 37, .mov (.t 1), none⟩, ⟨some 38, .call false 106 [(.t 36), (.t 37)], none⟩])
 .skip))))))
/-- (*tidemark/raft.work).tick -/
def af49 : AFunc := { n := 39, depth := 6, kl := [], res := [], body := B49 }

def B58 : AC := (.seq (.reg [⟨some 3, .lbox (.t 1) [3, 19, 21], none⟩, ⟨some 4, .mov (.k (.i .i64 0)), none⟩])
 (.seq (.blk 0 (.seq (.reg [⟨some 7, .mov (.t 0), none⟩, ⟨some 8, .call false 68 [(.t 7)], none⟩, ⟨some 9, .un .not (.t 8), none⟩, ⟨some 6, .mov (.t 9), none⟩])
 (.cond (.t 6)
 (.seq (.reg [⟨some 4, .mov (.k (.i .i64 6)), none⟩])
 .ret)
 (.seq (.reg [⟨some 11, .load true 2 (.t 3), none⟩, ⟨some 12, .build [(.i .i64 0), (.i .i64 0), (.sl [] 0 .nil), (.sl [] 0 .nil), (.sl [] 0 .nil)] [], none⟩, ⟨some 13, .call true 145 [(.t 11), (.t 12)], none⟩, ⟨some 14, .un .not (.t 13), none⟩, ⟨some 10, .mov (.t 14), none⟩])
 (.cond (.t 10)
 (.seq (.reg [⟨some 4, .mov (.k (.i .i64 1)), none⟩])
 .ret)
 .skip)))))
 (.seq (.seq (.regd [(⟨some 15, .mov (.t 0), none⟩, []),
      (⟨some 16, .nilck (.t 15), none⟩, []),
      (⟨some 17, .faddr 8 (.t 16), none⟩, []),
      (⟨some 18, .load false 1 (.t 17), none⟩, []),
      (⟨some 19, .faddr 0 (.t 3), none⟩, [0, 1, 2, 3]),
      (⟨some 20, .load false 1 (.t 19), none⟩, [0, 1, 2, 3]),
      (⟨some 21, .faddr 1 (.t 3), none⟩, [0, 1, 2, 3, 4, 5]),
      (⟨some 22, .load false 1 (.t 21), none⟩, [0, 1, 2, 3, 4, 5]),
      (⟨some 23, .bslice false 3 1 3 [(.i .i64 0)] [(0, (.k (.i .i64 6))), (1, (.t 20)), (2, (.t 22))], none⟩, [0, 1, 2, 3]),
      (⟨some 24, .call false 39 [(.k (.sl [] 0 .nil)), (.t 23)], none⟩, [0, 1, 2, 3]),
      (⟨some 25, .bslice false 26 1 1 [(.sl [] 0 .nil)] [(0, (.t 24))], none⟩, [0, 1, 2, 3]),
      (⟨some 26, .call false 147 [(.t 25)], none⟩, [0, 1, 2, 3]),
      (⟨some 27, .call false 146 [(.t 18), (.t 26)], none⟩, []),
      (⟨some 5, .mov (.t 27), none⟩, [])])
 (.seq (.reg [⟨some 28, .mov (.t 5), none⟩, ⟨some 29, .bin .neq (.t 28) (.k (.i .i64 0)), none⟩])
 (.cond (.t 29)
 (.seq (.reg [⟨some 30, .mov (.t 5), none⟩, ⟨some 4, .mov (.t 30), none⟩])
 .ret)
 .skip)))
 (.seq (.reg [⟨some 31, .mov (.t 0), none⟩, ⟨some 32, .load true 2 (.t 3), none⟩, ⟨some 33, .nilck (.t 31), none⟩, ⟨some 34, .faddr 0 (.t 33), none⟩, ⟨some 35, .faddr 0 (.t 34), none⟩, ⟨none, .store 2 (.t 35) (.t 32), none⟩])
 (.seq (.reg [⟨some 4, .mov (.k (.i .i64 0)), none⟩])
 .ret)))))
/-- (*tidemark/save.Save).SetHard -/
def af58 : AFunc := { n := 36, depth := 6, kl := [(3, [3, 19, 21])], res := [.tmp 4], body := B58 }

def L61_2 : AC := (.seq (.reg [⟨some 64, .bin .lss (.t 63) (.t 62), none⟩])
 (.seq (.cond (.t 64)
 .skip
 (.exit 2))
 (.seq (.blk 3 (.seq (.reg [⟨some 65, .iaddr (.slice 3) (.t 61) (.t 63), none⟩, ⟨some 66, .load true 3 (.t 65), none⟩, ⟨some 8, .lalloc [(.i .i64 0), (.i .i64 0), (.sl [] 0 .nil)] [8, 67, 70], none⟩, ⟨none, .store 3 (.t 8) (.t 66), none⟩])
 (.seq (.reg [⟨some 67, .faddr 2 (.t 8), none⟩, ⟨some 68, .load false 1 (.t 67), none⟩, ⟨some 69, .call false 70 [(.t 68)], none⟩, ⟨some 70, .faddr 2 (.t 8), none⟩, ⟨none, .store 1 (.t 70) (.t 69), none⟩])
 (.seq (.seq (.regd [(⟨some 71, .mov (.t 0), none⟩, []),
        (⟨some 72, .nilck (.t 71), none⟩, []),
        (⟨some 73, .faddr 8 (.t 72), none⟩, []),
        (⟨some 74, .load false 1 (.t 73), none⟩, []),
        (⟨some 75, .load true 3 (.t 8), none⟩, [0, 1, 2, 3]),
        (⟨some 76, .call false 149 [(.t 75)], none⟩, [0, 1, 2, 3]),
        (⟨some 77, .bslice false 26 1 1 [(.sl [] 0 .nil)] [(0, (.t 76))], none⟩, [0, 1, 2, 3]),
        (⟨some 78, .call false 147 [(.t 77)], none⟩, [0, 1, 2, 3]),
        (⟨some 79, .call false 146 [(.t 74), (.t 78)], none⟩, []),
        (⟨some 9, .mov (.t 79), none⟩, [])])
 (.seq (.reg [⟨some 80, .mov (.t 9), none⟩, ⟨some 81, .bin .neq (.t 80) (.k (.i .i64 0)), none⟩])
 (.cond (.t 81)
 (.seq (.reg [⟨some 82, .mov (.t 9), none⟩, ⟨some 4, .mov (.t 82), none⟩])
 .ret)
 .skip)))
 (.reg [⟨some 83, .mov (.t 0), none⟩, ⟨some 84, .nilck (.t 83), none⟩, ⟨some 85, .faddr 0 (.t 84), none⟩, ⟨some 86, .load true 3 (.t 8), none⟩, ⟨some 87, .call false 150 [(.t 85), (.t 86)], none⟩])))))
 (.reg [⟨some 88, .bin .add (.t 63) (.k (.i .i64 1)), none⟩, ⟨some 63, .mov (.t 88), none⟩]))))
def L61_1 : AC := (.seq (.reg [⟨some 16, .bin .lss (.t 15) (.t 14), none⟩])
 (.seq (.cond (.t 16)
 .skip
 (.exit 0))
 (.seq (.blk 1 (.seq (.reg [⟨some 17, .mov (.t 15), none⟩, ⟨some 18, .iaddr (.slice 3) (.t 13) (.t 15), none⟩, ⟨some 19, .load true 3 (.t 18), none⟩, ⟨some 6, .lalloc [(.i .i64 0), (.i .i64 0), (.sl [] 0 .nil)] [6, 20, 40, 45, 50, 55], none⟩, ⟨some 5, .mov (.t 17), none⟩, ⟨none, .store 3 (.t 6) (.t 19), none⟩])
 (.seq (.reg [⟨some 20, .faddr 0 (.t 6), none⟩, ⟨some 21, .load false 1 (.t 20), none⟩, ⟨some 22, .mov (.t 0), none⟩, ⟨some 23, .nilck (.t 22), none⟩, ⟨some 24, .faddr 0 (.t 23), none⟩, ⟨some 25, .faddr 2 (.t 24), none⟩, ⟨some 26, .faddr 0 (.t 25), none⟩, ⟨some 27, .load false 1 (.t 26), none⟩, ⟨some 28, .mov (.t 0), none⟩, ⟨some 29, .nilck (.t 28), none⟩, ⟨some 30, .faddr 0 (.t 29), none⟩, ⟨some 31, .faddr 7 (.t 30), none⟩, ⟨some 32, .load false 1 (.t 31), none⟩, ⟨some 33, .len .slice (.t 32), none⟩, ⟨some 34, .bin .add (.t 27) (.t 33), none⟩, ⟨some 35, .mov (.t 5), none⟩, ⟨some 36, .bin .add (.t 34) (.t 35), none⟩, ⟨some 37, .bin .add (.t 36) (.k (.i .i64 1)), none⟩, ⟨some 38, .bin .neq (.t 21) (.t 37), none⟩, ⟨some 39, .mov (.t 38), none⟩, ⟨some 40, .faddr 0 (.t 6), some (39, false)⟩,
 ⟨some 41, .load false 1 (.t 40), some (39, false)⟩,
 ⟨some 42, .bin .gtr (.t 41) (.k (.i .i64 1099511627776)), some (39, false)⟩,
 ⟨some 43, .pick (.t 39) (.k (.b true)) (.t 42), none⟩, ⟨some 44, .mov (.t 43), none⟩, ⟨some 45, .faddr 1 (.t 6), some (44, false)⟩,
 ⟨some 46, .load false 1 (.t 45), some (44, false)⟩,
 ⟨some 47, .bin .lss (.t 46) (.k (.i .i64 1)), some (44, false)⟩,
 ⟨some 48, .pick (.t 44) (.k (.b true)) (.t 47), none⟩, ⟨some 49, .mov (.t 48), none⟩, ⟨some 50, .faddr 1 (.t 6), some (49, false)⟩,
 ⟨some 51, .load false 1 (.t 50), some (49, false)⟩,
 ⟨some 52, .bin .gtr (.t 51) (.k (.i .i64 1099511627776)), some (49, false)⟩,
 ⟨some 53, .pick (.t 49) (.k (.b true)) (.t 52), none⟩, ⟨some 54, .mov (.t 53), none⟩, ⟨some 55, .faddr 2 (.t 6), some (54, false)⟩,
 ⟨some 56, .load false 1 (.t 55), some (54, false)⟩,
 ⟨some 57, .len .slice (.t 56), some (54, false)⟩,
 ⟨some 58, .bin .gtr (.t 57) (.k (.i .i64 8192)), some (54, false)⟩,
 ⟨some 59, .pick (.t 54) (.k (.b true)) (.t 58), none⟩])
 (.cond (.t 59)
 (.seq (.reg [⟨some 4, .mov (.k (.i .i64 120)), none⟩])
 .ret)
 .skip))))
 (.reg [⟨some 60, .bin .add (.t 15) (.k (.i .i64 1)), none⟩, ⟨some 15, .mov (.t 60), none⟩]))))
def B61 : AC := (.seq (.reg [⟨some 4, .mov (.k (.i .i64 0)), none⟩])
 (.seq (.seq (.reg [⟨some 10, .mov (.t 0), none⟩, ⟨some 11, .call false 68 [(.t 10)], none⟩, ⟨some 12, .un .not (.t 11), none⟩])
 (.cond (.t 12)
 (.seq (.reg [⟨some 4, .mov (.k (.i .i64 6)), none⟩])
 .ret)
 .skip))
 (.seq (.seq (.reg [⟨some 13, .mov (.t 1), none⟩, ⟨some 14, .len .slice (.t 13), none⟩, ⟨some 15, .mov (.k (.i .i64 0)), none⟩])
 (.blk 0 (.loop L61_1)))
 (.seq (.seq (.reg [⟨some 61, .mov (.t 1), none⟩, ⟨some 62, .len .slice (.t 61), none⟩, ⟨some 63, .mov (.k (.i .i64 0)), none⟩])
 (.blk 2 (.loop L61_2)))
 (.seq (.reg [⟨some 4, .mov (.k (.i .i64 0)), none⟩])
 .ret)))))
/-- (*tidemark/save.Save).Add -/
def af61 : AFunc := { n := 89, depth := 7, kl := [(6, [6, 20, 40, 45, 50, 55]), (8, [8, 67, 70])], res := [.tmp 4], body := B61 }

def B62 : AC := (.seq (.reg [⟨some 6, .lalloc [(.i .i64 0), (.i .i64 0)] [6], none⟩])
 (.seq (.blk 0 (.seq (.reg [⟨some 12, .mov (.t 0), none⟩, ⟨some 13, .call false 34 [(.t 12)], none⟩, ⟨some 11, .mov (.t 13), none⟩])
 (.cond (.t 11)
 (.seq (.reg [⟨some 14, .build [(.i .i64 0), (.i .i64 0)] [(0, 1, (.k (.i .i64 6)))], none⟩, ⟨none, .store 2 (.t 6) (.t 14), none⟩])
 .ret)
 (.seq (.reg [⟨some 16, .mov (.t 1), none⟩, ⟨some 17, .mov (.t 0), none⟩, ⟨some 18, .nilck (.t 17), none⟩, ⟨some 19, .faddr 5 (.t 18), none⟩, ⟨some 20, .load false 1 (.t 19), none⟩, ⟨some 21, .bin .add (.t 20) (.k (.i .i64 1)), none⟩, ⟨some 22, .bin .neq (.t 16) (.t 21), none⟩, ⟨some 23, .mov (.t 22), none⟩, ⟨some 24, .mov (.t 1), some (23, false)⟩,
 ⟨some 25, .bin .gtr (.t 24) (.k (.i .i64 1099511627776)), some (23, false)⟩,
 ⟨some 26, .pick (.t 23) (.k (.b true)) (.t 25), none⟩, ⟨some 15, .mov (.t 26), none⟩])
 (.cond (.t 15)
 (.seq (.reg [⟨some 27, .build [(.i .i64 0), (.i .i64 0)] [(0, 1, (.k (.i .i64 1)))], none⟩, ⟨none, .store 2 (.t 6) (.t 27), none⟩])
 .ret)
 .skip)))))
 (.seq (.reg [⟨some 28, .mov (.t 0), none⟩, ⟨some 29, .mov (.t 1), none⟩, ⟨some 30, .nilck (.t 28), none⟩, ⟨some 31, .faddr 5 (.t 30), none⟩, ⟨none, .store 1 (.t 31) (.t 29), none⟩])
 (.seq (.reg [⟨some 33, .mov (.t 2), none⟩, ⟨some 34, .call false 120 [(.t 33)], none⟩, ⟨some 32, .mov (.t 34), none⟩, ⟨some 35, .ext (.t 32) 0, none⟩, ⟨some 36, .ext (.t 32) 1, none⟩, ⟨some 7, .lalloc [(.i .i64 0), (.i .i64 0), (.i .i64 0), (.sl [] 0 .nil), (.sl [] 0 .nil), (.s []), (.i .i64 0), (.s []), (.s []), (.i .i64 0), (.s []), (.s []), (.sl [] 0 .nil), (.i .i64 0), (.i .i64 0), (.i .i64 0), (.i .i64 0), (.sl [] 0 .nil), (.sl [] 0 .nil)] [7, 62], none⟩, ⟨none, .store 19 (.t 7) (.t 35), none⟩, ⟨some 8, .mov (.t 36), none⟩])
 (.seq (.seq (.reg [⟨some 37, .mov (.t 8), none⟩, ⟨some 38, .bin .neq (.t 37) (.k (.i .i64 0)), none⟩])
 (.cond (.t 38)
 (.seq (.reg [⟨some 39, .mov (.t 0), none⟩, ⟨some 40, .nilck (.t 39), none⟩, ⟨some 41, .faddr 0 (.t 40), none⟩, ⟨some 42, .faddr 2 (.t 41), none⟩, ⟨some 43, .load false 1 (.t 42), none⟩, ⟨some 44, .mov (.t 1), none⟩, ⟨some 45, .call false 151 [(.t 43), (.t 44), (.k (.sl [] 0 .nil))], none⟩])
 (.seq (.reg [⟨some 46, .mov (.t 8), none⟩, ⟨some 47, .build [(.i .i64 0), (.i .i64 0)] [(0, 1, (.t 46))], none⟩, ⟨none, .store 2 (.t 6) (.t 47), none⟩])
 .ret))
 .skip))
 (.seq (.reg [⟨some 49, .mov (.t 0), none⟩, ⟨some 50, .load true 19 (.t 7), none⟩, ⟨some 51, .call false 152 [(.t 49), (.t 50)], none⟩, ⟨some 48, .mov (.t 51), none⟩, ⟨some 52, .ext (.t 48) 0, none⟩, ⟨some 53, .ext (.t 48) 1, none⟩, ⟨some 9, .lalloc [(.i .i64 0), (.i .i64 0)] [9], none⟩, ⟨none, .store 2 (.t 9) (.t 52), none⟩, ⟨some 10, .mov (.t 53), none⟩])
 (.seq (.reg [⟨some 54, .mov (.t 0), none⟩, ⟨some 55, .nilck (.t 54), none⟩, ⟨some 56, .faddr 0 (.t 55), none⟩, ⟨some 57, .faddr 2 (.t 56), none⟩, ⟨some 58, .load false 1 (.t 57), none⟩, ⟨some 59, .mov (.t 1), none⟩, ⟨some 60, .mov (.t 10), none⟩, ⟨some 61, .call false 151 [(.t 58), (.t 59), (.t 60)], none⟩])
 (.seq (.seq (.reg [⟨some 62, .faddr 0 (.t 7), none⟩, ⟨some 63, .load false 1 (.t 62), none⟩, ⟨some 64, .call true 153 [(.t 63)], none⟩, ⟨some 65, .mov (.t 64), none⟩, ⟨some 66, .load true 2 (.t 9), some (65, true)⟩,
 ⟨some 67, .build [(.i .i64 0), (.i .i64 0)] [], some (65, true)⟩,
 ⟨some 68, .eq false (.struct [(0, 1, false, .int), (1, 1, false, .int)]) (.t 66) (.t 67), some (65, true)⟩,
 ⟨some 69, .pick (.t 65) (.t 68) (.k (.b false)), none⟩])
 (.cond (.t 69)
 (.reg [⟨some 70, .mov (.t 0), none⟩, ⟨some 71, .load true 19 (.t 7), none⟩, ⟨some 72, .call false 154 [(.t 70), (.t 71)], none⟩, ⟨none, .store 2 (.t 9) (.t 72), none⟩])
 .skip))
 (.seq (.reg [⟨some 73, .load true 2 (.t 9), none⟩, ⟨none, .store 2 (.t 6) (.t 73), none⟩])
 .ret)))))))))
/-- (*tidemark/machine.Machine).Apply -/
def af62 : AFunc := { n := 74, depth := 7, kl := [(6, [6]), (7, [7, 62]), (9, [9])], res := [.cell 6 true 2], body := B62 }

def B63 : AC := (.seq (.reg [⟨some 4, .mov (.k (.sl [] 0 .nil)), none⟩, ⟨some 5, .mov (.k (.i .i64 0)), none⟩])
 (.seq (.reg [⟨some 7, .mov (.t 0), none⟩, ⟨some 8, .call false 155 [(.t 7)], none⟩, ⟨some 6, .mov (.t 8), none⟩])
 (.seq (.blk 0 (.seq (.reg [⟨some 10, .mov (.t 6), none⟩, ⟨some 11, .bin .neq (.t 10) (.k (.i .i64 0)), none⟩, ⟨some 9, .mov (.t 11), none⟩])
 (.cond (.t 9)
 (.seq (.reg [⟨some 12, .mov (.t 6), none⟩, ⟨some 4, .mov (.k (.sl [] 0 .nil)), none⟩, ⟨some 5, .mov (.t 12), none⟩])
 .ret)
 (.seq (.reg [⟨some 14, .mov (.t 1), none⟩, ⟨some 15, .bin .lss (.t 14) (.k (.i .i64 0)), none⟩, ⟨some 16, .mov (.t 15), none⟩, ⟨some 17, .mov (.t 1), some (16, false)⟩,
 ⟨some 18, .bin .gtr (.t 17) (.k (.i .i64 1)), some (16, false)⟩,
 ⟨some 19, .pick (.t 16) (.k (.b true)) (.t 18), none⟩, ⟨some 13, .mov (.t 19), none⟩])
 (.cond (.t 13)
 (.seq (.reg [⟨some 4, .mov (.k (.sl [] 0 .nil)), none⟩, ⟨some 5, .mov (.k (.i .i64 31)), none⟩])
 .ret)
 .skip)))))
 (.seq (.reg [⟨some 20, .mov (.t 0), none⟩, ⟨some 21, .mov (.t 1), none⟩, ⟨some 22, .nilck (.t 20), none⟩, ⟨some 23, .faddr 0 (.t 22), none⟩, ⟨some 24, .faddr 0 (.t 23), none⟩, ⟨some 25, .iaddr (.arr 2 1) (.t 24) (.t 21), none⟩, ⟨some 26, .load false 1 (.t 25), none⟩, ⟨some 27, .call false 156 [(.t 26)], none⟩, ⟨some 4, .mov (.t 27), none⟩, ⟨some 5, .mov (.k (.i .i64 0)), none⟩])
 .ret))))
/-- (*tidemark/disk.Disk).Look -/
def af63 : AFunc := { n := 28, depth := 5, kl := [], res := [.tmp 4, .tmp 5], body := B63 }

def L64_2 : AC := (.seq (.reg [⟨some 128, .bin .lss (.t 127) (.t 126), none⟩])
 (.seq (.cond (.t 128)
 .skip
 (.exit 2))
 (.seq (.blk 3 (.seq (.seq (.reg [⟨some 129, .mov (.t 5), none⟩, ⟨some 130, .len .slice (.t 129), none⟩, ⟨some 131, .bin .eql (.t 130) (.k (.i .i64 0)), none⟩])
 (.cond (.t 131)
 (.seq (.reg [⟨some 132, .build [(.i .i64 0), (.i .i64 0), (.i .i64 0), (.i .i64 0), (.sl [] 0 .nil), (.sl [] 0 .nil), (.sl [] 0 .nil), (.sl [] 0 .nil)] [], none⟩, ⟨none, .store 8 (.t 2) (.t 132), none⟩, ⟨some 3, .mov (.k (.i .i64 0)), none⟩, ⟨some 4, .mov (.k (.b false)), none⟩])
 .ret)
 .skip))
 (.seq (.reg [⟨some 133, .mov (.t 5), none⟩, ⟨some 134, .iaddr (.slice 1) (.t 133) (.k (.i .i64 0)), none⟩, ⟨some 135, .load false 1 (.t 134), none⟩, ⟨some 136, .call false 130 [(.t 135)], none⟩, ⟨some 16, .mov (.t 136), none⟩])
 (.seq (.reg [⟨some 137, .mov (.t 16), none⟩, ⟨some 138, .call false 131 [(.t 137)], none⟩, ⟨some 139, .mov (.t 16), none⟩, ⟨some 140, .call false 159 [(.t 139)], none⟩, ⟨some 18, .lalloc [(.i .i64 0), (.i .i64 0), (.sl [] 0 .nil)] [18], none⟩, ⟨some 17, .mov (.t 138), none⟩, ⟨none, .store 3 (.t 18) (.t 140), none⟩])
 (.seq (.seq (.reg [⟨some 141, .mov (.t 17), none⟩, ⟨some 142, .bin .neq (.t 141) (.k (.i .i64 3)), none⟩, ⟨some 143, .mov (.t 142), none⟩, ⟨some 144, .mov (.t 16), some (143, false)⟩,
 ⟨some 145, .call false 136 [(.t 144)], some (143, false)⟩,
 ⟨some 146, .bin .neq (.t 145) (.k (.i .i64 0)), some (143, false)⟩,
 ⟨some 147, .pick (.t 143) (.k (.b true)) (.t 146), none⟩, ⟨some 148, .mov (.t 147), none⟩, ⟨some 149, .load true 3 (.t 18), some (148, false)⟩,
 ⟨some 150, .call false 150 [(.t 8), (.t 149)], some (148, false)⟩,
 ⟨some 151, .un .not (.t 150), some (148, false)⟩,
 ⟨some 152, .pick (.t 148) (.k (.b true)) (.t 151), none⟩])
 (.cond (.t 152)
 (.seq (.reg [⟨some 153, .build [(.i .i64 0), (.i .i64 0), (.i .i64 0), (.i .i64 0), (.sl [] 0 .nil), (.sl [] 0 .nil), (.sl [] 0 .nil), (.sl [] 0 .nil)] [], none⟩, ⟨none, .store 8 (.t 2) (.t 153), none⟩, ⟨some 3, .mov (.k (.i .i64 0)), none⟩, ⟨some 4, .mov (.k (.b false)), none⟩])
 .ret)
 .skip))
 (.reg [⟨some 154, .mov (.t 5), none⟩, ⟨some 155, .slc (.slice 1) (.t 154) (some (.k (.i .i64 1))) none none, none⟩, ⟨some 5, .mov (.t 155), none⟩]))))))
 (.reg [⟨some 156, .bin .add (.t 127) (.k (.i .i64 1)), none⟩, ⟨some 127, .mov (.t 156), none⟩]))))
def L64_1 : AC := (.seq (.seq (.reg [⟨some 78, .mov (.t 5), none⟩, ⟨some 79, .len .slice (.t 78), none⟩, ⟨some 80, .bin .gtr (.t 79) (.k (.i .i64 0)), none⟩, ⟨some 81, .mov (.t 80), none⟩, ⟨some 82, .faddr 2 (.t 8), some (81, true)⟩,
 ⟨some 83, .faddr 4 (.t 82), some (81, true)⟩,
 ⟨some 84, .load false 1 (.t 83), some (81, true)⟩,
 ⟨some 85, .len .slice (.t 84), some (81, true)⟩,
 ⟨some 86, .mov (.t 11), some (81, true)⟩,
 ⟨some 87, .bin .lss (.t 85) (.t 86), some (81, true)⟩,
 ⟨some 88, .pick (.t 81) (.t 87) (.k (.b false)), none⟩])
 (.cond (.t 88)
 .skip
 (.exit 0)))
 (.blk 1 (.seq (.reg [⟨some 89, .mov (.t 5), none⟩, ⟨some 90, .iaddr (.slice 1) (.t 89) (.k (.i .i64 0)), none⟩, ⟨some 91, .load false 1 (.t 90), none⟩, ⟨some 92, .call false 130 [(.t 91)], none⟩, ⟨some 13, .mov (.t 92), none⟩])
 (.seq (.seq (.reg [⟨some 93, .mov (.t 13), none⟩, ⟨some 94, .call false 131 [(.t 93)], none⟩, ⟨some 95, .mov (.t 13), none⟩, ⟨some 96, .call false 134 [(.t 95), (.k (.i .i64 16384))], none⟩, ⟨some 14, .mov (.t 94), none⟩, ⟨some 15, .mov (.t 96), none⟩])
 (.seq (.reg [⟨some 97, .mov (.t 14), none⟩, ⟨some 98, .bin .neq (.t 97) (.k (.i .i64 2)), none⟩, ⟨some 99, .mov (.t 98), none⟩, ⟨some 100, .mov (.t 13), some (99, false)⟩,
 ⟨some 101, .call false 136 [(.t 100)], some (99, false)⟩,
 ⟨some 102, .bin .neq (.t 101) (.k (.i .i64 0)), some (99, false)⟩,
 ⟨some 103, .pick (.t 99) (.k (.b true)) (.t 102), none⟩, ⟨some 104, .mov (.t 103), none⟩, ⟨some 105, .mov (.t 15), some (104, false)⟩,
 ⟨some 106, .len .str (.t 105), some (104, false)⟩,
 ⟨some 107, .mov (.t 11), some (104, false)⟩,
 ⟨some 108, .faddr 2 (.t 8), some (104, false)⟩,
 ⟨some 109, .faddr 4 (.t 108), some (104, false)⟩,
 ⟨some 110, .load false 1 (.t 109), some (104, false)⟩,
 ⟨some 111, .len .slice (.t 110), some (104, false)⟩,
 ⟨some 112, .bin .sub (.t 107) (.t 111), some (104, false)⟩,
 ⟨some 113, .minmax false (.k (.i .i64 16384)) (.t 112), some (104, false)⟩,
 ⟨some 114, .bin .neq (.t 106) (.t 113), some (104, false)⟩,
 ⟨some 115, .pick (.t 104) (.k (.b true)) (.t 114), none⟩])
 (.cond (.t 115)
 (.seq (.reg [⟨some 116, .build [(.i .i64 0), (.i .i64 0), (.i .i64 0), (.i .i64 0), (.sl [] 0 .nil), (.sl [] 0 .nil), (.sl [] 0 .nil), (.sl [] 0 .nil)] [], none⟩, ⟨none, .store 8 (.t 2) (.t 116), none⟩, ⟨some 3, .mov (.k (.i .i64 0)), none⟩, ⟨some 4, .mov (.k (.b false)), none⟩])
 .ret)
 (.reg [⟨some 117, .faddr 2 (.t 8), none⟩, ⟨some 118, .faddr 4 (.t 117), none⟩, ⟨some 119, .load false 1 (.t 118), none⟩, ⟨some 120, .mov (.t 15), none⟩, ⟨some 121, .app 5 1 (.t 119) (.t 120), none⟩, ⟨some 122, .faddr 2 (.t 8), none⟩, ⟨some 123, .faddr 4 (.t 122), none⟩, ⟨none, .store 1 (.t 123) (.t 121), none⟩]))))
 (.reg [⟨some 124, .mov (.t 5), none⟩, ⟨some 125, .slc (.slice 1) (.t 124) (some (.k (.i .i64 1))) none none, none⟩, ⟨some 5, .mov (.t 125), none⟩])))))
def B64 : AC := (.seq (.reg [⟨some 2, .lalloc [(.i .i64 0), (.i .i64 0), (.i .i64 0), (.i .i64 0), (.sl [] 0 .nil), (.sl [] 0 .nil), (.sl [] 0 .nil), (.sl [] 0 .nil)] [2], none⟩, ⟨some 3, .mov (.k (.i .i64 0)), none⟩, ⟨some 4, .mov (.k (.b false)), none⟩])
 (.seq (.reg [⟨some 21, .mov (.t 0), none⟩, ⟨some 22, .call true 157 [(.t 21)], none⟩, ⟨some 20, .mov (.t 22), none⟩, ⟨some 23, .ext (.t 20) 0, none⟩, ⟨some 24, .ext (.t 20) 1, none⟩, ⟨some 5, .mov (.t 23), none⟩, ⟨some 6, .mov (.t 24), none⟩])
 (.seq (.seq (.reg [⟨some 25, .mov (.t 6), none⟩, ⟨some 26, .mov (.t 0), none⟩, ⟨some 27, .len .slice (.t 26), none⟩, ⟨some 28, .bin .neq (.t 25) (.t 27), none⟩, ⟨some 29, .mov (.t 28), none⟩, ⟨some 30, .mov (.t 5), some (29, false)⟩,
 ⟨some 31, .len .slice (.t 30), some (29, false)⟩,
 ⟨some 32, .bin .eql (.t 31) (.k (.i .i64 0)), some (29, false)⟩,
 ⟨some 33, .pick (.t 29) (.k (.b true)) (.t 32), none⟩])
 (.cond (.t 33)
 (.seq (.reg [⟨some 34, .build [(.i .i64 0), (.i .i64 0), (.i .i64 0), (.i .i64 0), (.sl [] 0 .nil), (.sl [] 0 .nil), (.sl [] 0 .nil), (.sl [] 0 .nil)] [], none⟩, ⟨none, .store 8 (.t 2) (.t 34), none⟩, ⟨some 3, .mov (.k (.i .i64 0)), none⟩, ⟨some 4, .mov (.k (.b false)), none⟩])
 .ret)
 .skip))
 (.seq (.reg [⟨some 35, .mov (.t 5), none⟩, ⟨some 36, .iaddr (.slice 1) (.t 35) (.k (.i .i64 0)), none⟩, ⟨some 37, .load false 1 (.t 36), none⟩, ⟨some 38, .call false 130 [(.t 37)], none⟩, ⟨some 7, .mov (.t 38), none⟩])
 (.seq (.reg [⟨some 8, .alloc 146 [(.i .i64 0), (.i .i64 0), (.i .i64 0), (.i .i64 0), (.sl [] 0 .nil), (.sl [] 0 .nil), (.sl [] 0 .nil), (.sl [] 0 .nil)], none⟩])
 (.seq (.reg [⟨some 39, .mov (.t 7), none⟩, ⟨some 40, .call false 131 [(.t 39)], none⟩, ⟨some 41, .mov (.t 7), none⟩, ⟨some 42, .call false 133 [(.t 41), (.k (.i .i64 1)), (.k (.i .i64 1099511627776))], none⟩, ⟨some 9, .mov (.t 40), none⟩, ⟨some 10, .mov (.t 42), none⟩])
 (.seq (.reg [⟨some 43, .mov (.t 7), none⟩, ⟨some 44, .call false 133 [(.t 43), (.k (.i .i64 0)), (.k (.i .i64 1099511627776))], none⟩, ⟨some 45, .mov (.t 7), none⟩, ⟨some 46, .call false 133 [(.t 45), (.k (.i .i64 0)), (.k (.i .i64 5))], none⟩, ⟨some 47, .build [(.i .i64 0), (.i .i64 0)] [(0, 1, (.t 44)), (1, 1, (.t 46))], none⟩, ⟨some 48, .faddr 0 (.t 8), none⟩, ⟨none, .store 2 (.t 48) (.t 47), none⟩])
 (.seq (.reg [⟨some 49, .mov (.t 7), none⟩, ⟨some 50, .call false 133 [(.t 49), (.k (.i .i64 0)), (.k (.i .i64 1099511627776))], none⟩, ⟨some 51, .mov (.t 7), none⟩, ⟨some 52, .call false 133 [(.t 51), (.k (.i .i64 0)), (.k (.i .i64 1099511627776))], none⟩, ⟨some 53, .build [(.i .i64 0), (.i .i64 0), (.sl [] 0 .nil), (.sl [] 0 .nil), (.sl [] 0 .nil)] [(0, 1, (.t 50)), (1, 1, (.t 52))], none⟩, ⟨some 54, .faddr 2 (.t 8), none⟩, ⟨none, .store 5 (.t 54) (.t 53), none⟩])
 (.seq (.reg [⟨some 55, .mov (.t 7), none⟩, ⟨some 56, .call false 133 [(.t 55), (.k (.i .i64 0)), (.k (.i .i64 65536))], none⟩, ⟨some 57, .mov (.t 7), none⟩, ⟨some 58, .mov (.t 5), none⟩, ⟨some 59, .len .slice (.t 58), none⟩, ⟨some 60, .call false 133 [(.t 57), (.k (.i .i64 0)), (.t 59)], none⟩, ⟨some 11, .mov (.t 56), none⟩, ⟨some 12, .mov (.t 60), none⟩])
 (.seq (.reg [⟨some 61, .mov (.t 7), none⟩, ⟨some 62, .call false 158 [(.t 61)], none⟩, ⟨some 63, .mov (.t 7), none⟩, ⟨some 64, .call false 158 [(.t 63)], none⟩, ⟨some 65, .build [(.sl [] 0 .nil), (.sl [] 0 .nil)] [(0, 1, (.t 62)), (1, 1, (.t 64))], none⟩, ⟨some 66, .faddr 2 (.t 8), none⟩, ⟨some 67, .faddr 2 (.t 66), none⟩, ⟨none, .store 2 (.t 67) (.t 65), none⟩])
 (.seq (.seq (.reg [⟨some 68, .mov (.t 9), none⟩, ⟨some 69, .bin .neq (.t 68) (.k (.i .i64 1)), none⟩, ⟨some 70, .mov (.t 69), none⟩, ⟨some 71, .mov (.t 7), some (70, false)⟩,
 ⟨some 72, .call false 136 [(.t 71)], some (70, false)⟩,
 ⟨some 73, .bin .neq (.t 72) (.k (.i .i64 0)), some (70, false)⟩,
 ⟨some 74, .pick (.t 70) (.k (.b true)) (.t 73), none⟩])
 (.cond (.t 74)
 (.seq (.reg [⟨some 75, .build [(.i .i64 0), (.i .i64 0), (.i .i64 0), (.i .i64 0), (.sl [] 0 .nil), (.sl [] 0 .nil), (.sl [] 0 .nil), (.sl [] 0 .nil)] [], none⟩, ⟨none, .store 8 (.t 2) (.t 75), none⟩, ⟨some 3, .mov (.k (.i .i64 0)), none⟩, ⟨some 4, .mov (.k (.b false)), none⟩])
 .ret)
 .skip))
 (.seq (.reg [⟨some 76, .mov (.t 5), none⟩, ⟨some 77, .slc (.slice 1) (.t 76) (some (.k (.i .i64 1))) none none, none⟩, ⟨some 5, .mov (.t 77), none⟩])
 (.seq (.blk 0 (.loop L64_1))
 (.seq (.seq (.reg [⟨some 126, .mov (.t 12), none⟩, ⟨some 127, .mov (.k (.i .i64 0)), none⟩])
 (.blk 2 (.loop L64_2)))
 (.seq (.regd [(⟨some 157, .faddr 2 (.t 8), none⟩, []),
     (⟨some 158, .faddr 4 (.t 157), none⟩, []),
     (⟨some 159, .load false 1 (.t 158), none⟩, []),
     (⟨some 160, .len .slice (.t 159), none⟩, []),
     (⟨some 161, .mov (.t 11), none⟩, [0, 1, 2, 3]),
     (⟨some 162, .bin .eql (.t 160) (.t 161), none⟩, []),
     (⟨some 163, .mov (.t 162), none⟩, []),
     (⟨some 164, .mov (.t 5), some (163, true)⟩, []),
     (⟨some 165, .len .slice (.t 164), some (163, true)⟩, []),
     (⟨some 166, .bin .eql (.t 165) (.k (.i .i64 1)), some (163, true)⟩, []),
     (⟨some 167, .pick (.t 163) (.t 166) (.k (.b false)), none⟩, []),
     (⟨some 168, .mov (.t 167), none⟩, []),
     (⟨some 169, .mov (.t 5), some (168, true)⟩, []),
     (⟨some 170, .iaddr (.slice 1) (.t 169) (.k (.i .i64 0)), some (168, true)⟩, []),
     (⟨some 171, .load false 1 (.t 170), some (168, true)⟩, []),
     (⟨some 172, .len .slice (.t 171), some (168, true)⟩, []),
     (⟨some 173, .bin .eql (.t 172) (.k (.i .i64 2)), some (168, true)⟩, []),
     (⟨some 174, .pick (.t 168) (.t 173) (.k (.b false)), none⟩, []),
     (⟨some 175, .mov (.t 174), none⟩, []),
     (⟨some 176, .mov (.t 5), some (175, true)⟩, []),
     (⟨some 177, .iaddr (.slice 1) (.t 176) (.k (.i .i64 0)), some (175, true)⟩, []),
     (⟨some 178, .load false 1 (.t 177), some (175, true)⟩, []),
     (⟨some 179, .conv .toStr (.t 178), some (175, true)⟩, []),
     (⟨some 180, .call false 35 [(.k (.sl [] 0 .nil)), (.k (.i .i64 4))], some (175, true)⟩, [19, 20, 21, 22]),
     (⟨some 181, .conv .toStr (.t 180), some (175, true)⟩, [19, 20, 21, 22]),
     (⟨some 182, .bin .eql (.t 179) (.t 181), some (175, true)⟩, []),
     (⟨some 183, .pick (.t 175) (.t 182) (.k (.b false)), none⟩, []),
     (⟨some 19, .mov (.t 183), none⟩, [])])
 (.seq (.reg [⟨some 184, .load true 8 (.t 8), none⟩, ⟨some 185, .mov (.t 10), none⟩, ⟨some 186, .mov (.t 19), none⟩, ⟨none, .store 8 (.t 2) (.t 184), none⟩, ⟨some 3, .mov (.t 185), none⟩, ⟨some 4, .mov (.t 186), none⟩])
 .ret))))))))))))))))
/-- tidemark/save.parse -/
def af64 : AFunc := { n := 187, depth := 8, kl := [(2, [2]), (18, [18])], res := [.cell 2 true 8, .tmp 3, .tmp 4], body := B64 }

def B65 : AC := (.seq (.reg [⟨some 2, .mov (.k (.sl [] 0 .nil)), none⟩, ⟨some 3, .mov (.k (.i .i64 0)), none⟩])
 (.seq (.seq (.reg [⟨some 5, .mov (.t 0), none⟩, ⟨some 6, .call false 155 [(.t 5)], none⟩, ⟨some 4, .mov (.t 6), none⟩])
 (.seq (.reg [⟨some 7, .mov (.t 4), none⟩, ⟨some 8, .bin .neq (.t 7) (.k (.i .i64 0)), none⟩])
 (.cond (.t 8)
 (.seq (.reg [⟨some 9, .mov (.t 4), none⟩, ⟨some 2, .mov (.k (.sl [] 0 .nil)), none⟩, ⟨some 3, .mov (.t 9), none⟩])
 .ret)
 .skip)))
 (.seq (.reg [⟨some 10, .mov (.t 0), none⟩, ⟨some 11, .nilck (.t 10), none⟩, ⟨some 12, .faddr 0 (.t 11), none⟩, ⟨some 13, .faddr 2 (.t 12), none⟩, ⟨some 14, .load false 1 (.t 13), none⟩, ⟨some 15, .call false 156 [(.t 14)], none⟩, ⟨some 2, .mov (.t 15), none⟩, ⟨some 3, .mov (.k (.i .i64 0)), none⟩])
 .ret)))
/-- (*tidemark/disk.Disk).Tape -/
def af65 : AFunc := { n := 16, depth := 5, kl := [], res := [.tmp 2, .tmp 3], body := B65 }

def L66_1 : AC := (.seq (.reg [⟨some 35, .bin .lss (.t 34) (.t 33), none⟩])
 (.seq (.cond (.t 35)
 .skip
 (.exit 0))
 (.seq (.blk 1 (.seq (.reg [⟨some 36, .iaddr (.slice 1) (.t 32) (.t 34), none⟩, ⟨some 37, .load false 1 (.t 36), none⟩, ⟨some 8, .mov (.t 37), none⟩])
 (.seq (.reg [⟨some 38, .mov (.t 0), none⟩, ⟨some 39, .nilck (.t 38), none⟩, ⟨some 40, .faddr 0 (.t 39), none⟩, ⟨some 41, .mov (.t 8), none⟩, ⟨some 42, .call false 160 [(.t 40), (.t 41)], none⟩, ⟨some 43, .un .not (.t 42), none⟩])
 (.cond (.t 43)
 (.seq (.reg [⟨some 4, .mov (.k (.b false)), none⟩])
 .ret)
 .skip))))
 (.reg [⟨some 44, .bin .add (.t 34) (.k (.i .i64 1)), none⟩, ⟨some 34, .mov (.t 44), none⟩]))))
def B66 : AC := (.seq (.reg [⟨some 4, .mov (.k (.b false)), none⟩])
 (.seq (.reg [⟨some 10, .mov (.t 1), none⟩, ⟨some 11, .call true 157 [(.t 10)], none⟩, ⟨some 9, .mov (.t 11), none⟩, ⟨some 12, .ext (.t 9) 0, none⟩, ⟨some 13, .ext (.t 9) 1, none⟩, ⟨some 5, .mov (.t 12), none⟩, ⟨some 6, .mov (.t 13), none⟩])
 (.seq (.seq (.regd [(⟨some 14, .mov (.t 5), none⟩, []),
      (⟨some 15, .len .slice (.t 14), none⟩, []),
      (⟨some 16, .bin .eql (.t 15) (.k (.i .i64 0)), none⟩, []),
      (⟨some 17, .mov (.t 16), none⟩, []),
      (⟨some 18, .mov (.t 5), some (17, false)⟩, []),
      (⟨some 19, .iaddr (.slice 1) (.t 18) (.k (.i .i64 0)), some (17, false)⟩, []),
      (⟨some 20, .load false 1 (.t 19), some (17, false)⟩, []),
      (⟨some 21, .conv .toStr (.t 20), some (17, false)⟩, []),
      (⟨some 22, .mov (.t 0), some (17, false)⟩, [4, 5, 6, 7]),
      (⟨some 23, .nilck (.t 22), some (17, false)⟩, [4, 5, 6, 7]),
      (⟨some 24, .faddr 9 (.t 23), some (17, false)⟩, [4, 5, 6, 7]),
      (⟨some 25, .load false 1 (.t 24), some (17, false)⟩, [4, 5, 6, 7]),
      (⟨some 26, .bslice false 3 1 2 [(.i .i64 0)] [(0, (.k (.i .i64 5))), (1, (.t 25))], some (17, false)⟩, [4, 5, 6, 7]),
      (⟨some 27, .call false 39 [(.k (.sl [] 0 .nil)), (.t 26)], some (17, false)⟩, [4, 5, 6, 7]),
      (⟨some 28, .conv .toStr (.t 27), some (17, false)⟩, [4, 5, 6, 7]),
      (⟨some 29, .bin .neq (.t 21) (.t 28), some (17, false)⟩, []),
      (⟨some 30, .pick (.t 17) (.k (.b true)) (.t 29), none⟩, [])])
 (.cond (.t 30)
 (.seq (.reg [⟨some 4, .mov (.k (.b false)), none⟩])
 .ret)
 .skip))
 (.seq (.seq (.reg [⟨some 31, .mov (.t 5), none⟩, ⟨some 32, .slc (.slice 1) (.t 31) (some (.k (.i .i64 1))) none none, none⟩, ⟨some 33, .len .slice (.t 32), none⟩, ⟨some 34, .mov (.k (.i .i64 0)), none⟩])
 (.blk 0 (.loop L66_1)))
 (.seq (.reg [⟨some 45, .mov (.t 6), none⟩, ⟨some 46, .mov (.t 1), none⟩, ⟨some 47, .len .slice (.t 46), none⟩, ⟨some 48, .bin .eql (.t 45) (.t 47), none⟩, ⟨some 4, .mov (.t 48), none⟩])
 .ret)))))
/-- (*tidemark/save.Save).replay -/
def af66 : AFunc := { n := 49, depth := 6, kl := [], res := [.tmp 4], body := B66 }

def B67 : AC := (.seq (.reg [⟨some 2, .mov (.k (.i .i64 0)), none⟩])
 (.seq (.reg [⟨some 9, .mov (.t 0), none⟩, ⟨some 10, .nilck (.t 9), none⟩, ⟨some 11, .faddr 9 (.t 10), none⟩, ⟨some 12, .load false 1 (.t 11), none⟩, ⟨some 13, .bin .add (.t 12) (.k (.i .i64 1)), none⟩, ⟨some 14, .mov (.t 0), none⟩, ⟨some 15, .nilck (.t 14), none⟩, ⟨some 16, .faddr 10 (.t 15), none⟩, ⟨some 17, .load false 1 (.t 16), none⟩, ⟨some 18, .bin .sub (.k (.i .i64 1)) (.t 17), none⟩, ⟨some 3, .mov (.t 13), none⟩, ⟨some 4, .mov (.t 18), none⟩])
 (.seq (.seq (.reg [⟨some 19, .mov (.t 3), none⟩, ⟨some 20, .bin .gtr (.t 19) (.k (.i .i64 1099511627776)), none⟩])
 (.cond (.t 20)
 (.seq (.reg [⟨some 2, .mov (.k (.i .i64 5)), none⟩])
 .ret)
 .skip))
 (.seq (.seq (.regd [(⟨some 21, .mov (.t 0), none⟩, []),
      (⟨some 22, .nilck (.t 21), none⟩, []),
      (⟨some 23, .faddr 8 (.t 22), none⟩, []),
      (⟨some 24, .load false 1 (.t 23), none⟩, []),
      (⟨some 25, .mov (.t 4), none⟩, [0, 1, 2, 3]),
      (⟨some 26, .mov (.t 0), none⟩, [0, 1, 2, 3, 4]),
      (⟨some 27, .nilck (.t 26), none⟩, [0, 1, 2, 3, 4]),
      (⟨some 28, .faddr 0 (.t 27), none⟩, [0, 1, 2, 3, 4]),
      (⟨some 29, .load true 8 (.t 28), none⟩, [0, 1, 2, 3, 4]),
      (⟨some 30, .mov (.t 3), none⟩, [0, 1, 2, 3, 4, 5, 6, 7, 8]),
      (⟨some 31, .call false 162 [(.t 29), (.t 30)], none⟩, [0, 1, 2, 3, 4]),
      (⟨some 32, .call false 161 [(.t 24), (.t 25), (.t 31)], none⟩, []),
      (⟨some 5, .mov (.t 32), none⟩, [])])
 (.seq (.reg [⟨some 33, .mov (.t 5), none⟩, ⟨some 34, .bin .neq (.t 33) (.k (.i .i64 0)), none⟩])
 (.cond (.t 34)
 (.seq (.reg [⟨some 35, .mov (.t 5), none⟩, ⟨some 2, .mov (.t 35), none⟩])
 .ret)
 .skip)))
 (.seq (.seq (.reg [⟨some 36, .mov (.t 0), none⟩, ⟨some 37, .nilck (.t 36), none⟩, ⟨some 38, .faddr 8 (.t 37), none⟩, ⟨some 39, .load false 1 (.t 38), none⟩, ⟨some 40, .call false 69 [(.t 39)], none⟩, ⟨some 6, .mov (.t 40), none⟩])
 (.seq (.reg [⟨some 41, .mov (.t 6), none⟩, ⟨some 42, .bin .neq (.t 41) (.k (.i .i64 0)), none⟩])
 (.cond (.t 42)
 (.seq (.reg [⟨some 43, .mov (.t 6), none⟩, ⟨some 2, .mov (.t 43), none⟩])
 .ret)
 .skip)))
 (.seq (.reg [⟨some 44, .mov (.t 0), none⟩, ⟨some 45, .mov (.t 0), none⟩, ⟨some 46, .mov (.t 3), none⟩, ⟨some 47, .mov (.t 4), none⟩, ⟨some 48, .nilck (.t 44), none⟩, ⟨some 49, .faddr 9 (.t 48), none⟩, ⟨none, .store 1 (.t 49) (.t 46), none⟩, ⟨some 50, .nilck (.t 45), none⟩, ⟨some 51, .faddr 10 (.t 50), none⟩, ⟨none, .store 1 (.t 51) (.t 47), none⟩])
 (.seq (.seq (.reg [⟨some 52, .mov (.t 0), none⟩, ⟨some 53, .nilck (.t 52), none⟩, ⟨some 54, .faddr 8 (.t 53), none⟩, ⟨some 55, .load false 1 (.t 54), none⟩, ⟨some 56, .call false 163 [(.t 55)], none⟩, ⟨some 7, .mov (.t 56), none⟩])
 (.seq (.reg [⟨some 57, .mov (.t 7), none⟩, ⟨some 58, .bin .neq (.t 57) (.k (.i .i64 0)), none⟩])
 (.cond (.t 58)
 (.seq (.reg [⟨some 59, .mov (.t 7), none⟩, ⟨some 2, .mov (.t 59), none⟩])
 .ret)
 .skip)))
 (.seq (.seq (.regd [(⟨some 60, .mov (.t 0), none⟩, []),
      (⟨some 61, .nilck (.t 60), none⟩, []),
      (⟨some 62, .faddr 8 (.t 61), none⟩, []),
      (⟨some 63, .load false 1 (.t 62), none⟩, []),
      (⟨some 64, .mov (.t 3), none⟩, [0, 1, 2, 3]),
      (⟨some 65, .bslice false 3 1 2 [(.i .i64 0)] [(0, (.k (.i .i64 5))), (1, (.t 64))], none⟩, [0, 1, 2, 3]),
      (⟨some 66, .call false 39 [(.k (.sl [] 0 .nil)), (.t 65)], none⟩, [0, 1, 2, 3]),
      (⟨some 67, .bslice false 26 1 1 [(.sl [] 0 .nil)] [(0, (.t 66))], none⟩, [0, 1, 2, 3]),
      (⟨some 68, .call false 147 [(.t 67)], none⟩, [0, 1, 2, 3]),
      (⟨some 69, .call false 146 [(.t 63), (.t 68)], none⟩, []),
      (⟨some 8, .mov (.t 69), none⟩, [])])
 (.seq (.reg [⟨some 70, .mov (.t 8), none⟩, ⟨some 71, .bin .neq (.t 70) (.k (.i .i64 0)), none⟩])
 (.cond (.t 71)
 (.seq (.reg [⟨some 72, .mov (.t 8), none⟩, ⟨some 2, .mov (.t 72), none⟩])
 .ret)
 .skip)))
 (.seq (.reg [⟨some 73, .mov (.t 0), none⟩, ⟨some 74, .nilck (.t 73), none⟩, ⟨some 75, .faddr 8 (.t 74), none⟩, ⟨some 76, .load false 1 (.t 75), none⟩, ⟨some 77, .call false 69 [(.t 76)], none⟩, ⟨some 2, .mov (.t 77), none⟩])
 .ret)))))))))
/-- (*tidemark/save.Save).fresh -/
def af67 : AFunc := { n := 78, depth := 7, kl := [], res := [.tmp 2], body := B67 }

def B68 : AC := (.seq (.reg [⟨some 2, .mov (.k (.b false)), none⟩])
 (.seq (.reg [⟨some 3, .mov (.t 0), none⟩, ⟨some 4, .eq true .ptr (.t 3) (.k .nilp), none⟩, ⟨some 5, .mov (.t 4), none⟩, ⟨some 6, .mov (.t 0), some (5, true)⟩,
 ⟨some 7, .nilck (.t 6), some (5, true)⟩,
 ⟨some 8, .faddr 8 (.t 7), some (5, true)⟩,
 ⟨some 9, .load false 1 (.t 8), some (5, true)⟩,
 ⟨some 10, .eq true .ptr (.t 9) (.k .nilp), some (5, true)⟩,
 ⟨some 11, .pick (.t 5) (.t 10) (.k (.b false)), none⟩, ⟨some 2, .mov (.t 11), none⟩])
 .ret))
/-- (*tidemark/save.Save).made -/
def af68 : AFunc := { n := 12, depth := 4, kl := [], res := [.tmp 2], body := B68 }

def B69 : AC := (.seq (.reg [⟨some 2, .mov (.k (.i .i64 0)), none⟩])
 (.seq (.seq (.reg [⟨some 4, .mov (.t 0), none⟩, ⟨some 5, .call false 155 [(.t 4)], none⟩, ⟨some 3, .mov (.t 5), none⟩])
 (.seq (.reg [⟨some 6, .mov (.t 3), none⟩, ⟨some 7, .bin .neq (.t 6) (.k (.i .i64 0)), none⟩])
 (.cond (.t 7)
 (.seq (.reg [⟨some 8, .mov (.t 3), none⟩, ⟨some 2, .mov (.t 8), none⟩])
 .ret)
 .skip)))
 (.seq (.reg [⟨some 9, .mov (.t 0), none⟩, ⟨some 10, .mov (.t 0), none⟩, ⟨some 11, .mov (.t 0), none⟩, ⟨some 12, .nilck (.t 11), none⟩, ⟨some 13, .faddr 0 (.t 12), none⟩, ⟨some 14, .load true 3 (.t 13), none⟩, ⟨some 15, .nilck (.t 9), none⟩, ⟨some 16, .faddr 3 (.t 15), none⟩, ⟨none, .store 3 (.t 16) (.t 14), none⟩, ⟨some 17, .nilck (.t 10), none⟩, ⟨some 18, .faddr 6 (.t 17), none⟩, ⟨none, .store 1 (.t 18) (.k (.sl [] 0 .nil)), none⟩])
 (.seq (.seq (.reg [⟨some 19, .mov (.t 0), none⟩, ⟨some 20, .call false 164 [(.t 19)], none⟩])
 (.cond (.t 20)
 (.seq (.reg [⟨some 2, .mov (.k (.i .i64 30)), none⟩])
 .ret)
 .skip))
 (.seq (.reg [⟨some 2, .mov (.k (.i .i64 0)), none⟩])
 .ret)))))
/-- (*tidemark/disk.Disk).Sync -/
def af69 : AFunc := { n := 21, depth := 5, kl := [], res := [.tmp 2], body := B69 }

def B70 : AC := (.seq (.reg [⟨some 2, .mov (.k (.sl [] 0 .nil)), none⟩])
 (.seq (.seq (.reg [⟨some 3, .mov (.t 0), none⟩, ⟨some 4, .eq false .slnil (.t 3) (.k (.sl [] 0 .nil)), none⟩])
 (.cond (.t 4)
 (.seq (.reg [⟨some 2, .mov (.k (.sl [] 0 .nil)), none⟩])
 .ret)
 .skip))
 (.seq (.reg [⟨some 5, .bslice false 5 1 0 [(.i .u8 0)] [], none⟩, ⟨some 6, .mov (.t 0), none⟩, ⟨some 7, .appo 5 1 (.t 5) (.t 6), none⟩, ⟨some 2, .mov (.t 7), none⟩])
 .ret)))
/-- slices.Clone[[]byte,byte] -/
def af70 : AFunc := { n := 8, depth := 4, kl := [], res := [.tmp 2], body := B70 }

def B71 : AC := (.seq (.reg [⟨some 2, .mov (.k (.sl [] 0 .nil)), none⟩])
 (.seq (.seq (.reg [⟨some 3, .mov (.t 0), none⟩, ⟨some 4, .eq false .slnil (.t 3) (.k (.sl [] 0 .nil)), none⟩])
 (.cond (.t 4)
 (.seq (.reg [⟨some 2, .mov (.k (.sl [] 0 .nil)), none⟩])
 .ret)
 .skip))
 (.seq (.reg [⟨some 5, .bslice false 3 1 0 [(.i .i64 0)] [], none⟩, ⟨some 6, .mov (.t 0), none⟩, ⟨some 7, .appo 3 1 (.t 5) (.t 6), none⟩, ⟨some 2, .mov (.t 7), none⟩])
 .ret)))
/-- slices.Clone[[]int,int] -/
def af71 : AFunc := { n := 8, depth := 4, kl := [], res := [.tmp 2], body := B71 }

def B72 : AC := (.seq (.reg [⟨some 0, .mov (.k .nilp), none⟩])
 (.seq (.reg [⟨some 1, .call false 165 [], none⟩, ⟨some 2, .build [.nilp] [(0, 1, (.t 1))], none⟩, ⟨some 3, .box 181 (.t 2), none⟩, ⟨some 0, .mov (.t 3), none⟩])
 .ret))
/-- tidemark/kv.New -/
def af72 : AFunc := { n := 4, depth := 3, kl := [], res := [.tmp 0], body := B72 }

def B73 : AC := (.seq (.reg [⟨some 0, .mov (.k .nilp), none⟩])
 (.seq (.reg [⟨some 1, .build [(.sl [] 0 .nil), (.b false)] [(1, 1, (.k (.b true)))], none⟩, ⟨some 2, .box 187 (.t 1), none⟩, ⟨some 0, .mov (.t 2), none⟩])
 .ret))
/-- tidemark/views.New -/
def af73 : AFunc := { n := 3, depth := 2, kl := [], res := [.tmp 0], body := B73 }

def B74 : AC := (.seq (.reg [⟨some 0, .mov (.k .nilp), none⟩])
 (.seq (.reg [⟨some 1, .build [(.sl [] 0 .nil), (.sl [] 0 .nil), (.i .i64 0), (.i .i64 0)] [(2, 1, (.k (.i .i64 1)))], none⟩, ⟨some 2, .box 204 (.t 1), none⟩, ⟨some 0, .mov (.t 2), none⟩])
 .ret))
/-- tidemark/feed.New -/
def af74 : AFunc := { n := 3, depth := 2, kl := [], res := [.tmp 0], body := B74 }

def B75 : AC := (.seq (.reg [⟨some 0, .mov (.k .nilp), none⟩])
 (.seq (.reg [⟨some 1, .build [(.sl [] 0 .nil), (.i .i64 0), (.b false)] [(2, 1, (.k (.b true)))], none⟩, ⟨some 2, .box 198 (.t 1), none⟩, ⟨some 0, .mov (.t 2), none⟩])
 .ret))
/-- tidemark/sess.New -/
def af75 : AFunc := { n := 3, depth := 2, kl := [], res := [.tmp 0], body := B75 }

def B76 : AC := (.seq (.reg [⟨some 0, .mov (.k .nilp), none⟩])
 (.seq (.reg [⟨some 1, .build [(.sl [] 0 .nil), (.b false)] [(1, 1, (.k (.b true)))], none⟩, ⟨some 2, .box 193 (.t 1), none⟩, ⟨some 0, .mov (.t 2), none⟩])
 .ret))
/-- tidemark/group.New -/
def af76 : AFunc := { n := 3, depth := 2, kl := [], res := [.tmp 0], body := B76 }

def L77_1 : AC := (.seq (.seq (.reg [⟨some 6, .mov (.t 4), none⟩, ⟨some 7, .load false 1 (.t 1), none⟩, ⟨some 8, .len .slice (.t 7), none⟩, ⟨some 9, .bin .lss (.t 6) (.t 8), none⟩])
 (.cond (.t 9)
 .skip
 (.exit 0)))
 (.seq (.blk 1 (.seq (.reg [⟨some 13, .load false 1 (.t 2), none⟩, ⟨some 14, .load false 1 (.t 1), none⟩, ⟨some 15, .mov (.t 4), none⟩, ⟨some 16, .slc (.slice 1) (.t 14) (some (.t 15)) none none, none⟩, ⟨some 17, .len .slice (.t 16), none⟩, ⟨some 18, .minmax false (.t 13) (.t 17), none⟩, ⟨some 5, .mov (.t 18), none⟩])
 (.seq (.reg [⟨some 19, .mov (.t 0), none⟩, ⟨some 20, .load false 1 (.t 1), none⟩, ⟨some 21, .mov (.t 4), none⟩, ⟨some 22, .mov (.t 4), none⟩, ⟨some 23, .mov (.t 5), none⟩, ⟨some 24, .bin .add (.t 22) (.t 23), none⟩, ⟨some 25, .mov (.t 4), none⟩, ⟨some 26, .mov (.t 5), none⟩, ⟨some 27, .bin .add (.t 25) (.t 26), none⟩, ⟨some 28, .slc (.slice 1) (.t 20) (some (.t 21)) (some (.t 24)) (some (.t 27)), none⟩, ⟨some 29, .callv false (.t 19) [(.t 28)], none⟩, ⟨some 30, .un .not (.t 29), none⟩])
 (.cond (.t 30)
 .ret
 .skip))))
 (.reg [⟨some 10, .mov (.t 4), none⟩, ⟨some 11, .load false 1 (.t 2), none⟩, ⟨some 12, .bin .add (.t 10) (.t 11), none⟩, ⟨some 4, .mov (.t 12), none⟩])))
def B77 : AC := (.seq (.reg [⟨some 4, .mov (.k (.i .i64 0)), none⟩])
 (.blk 0 (.loop L77_1)))
/-- slices.Chunk[[]byte,byte]$1 -/
def af77 : AFunc := { n := 31, depth := 5, kl := [], res := [], body := B77 }

def B92 : AC := (.seq (.reg [⟨some 2, .mov (.k (.b false)), none⟩])
 (.seq (.reg [⟨some 3, .mov (.t 0), none⟩, ⟨some 4, .eq false .ptr (.t 3) (.k .nilp), none⟩, ⟨some 5, .mov (.t 4), none⟩, ⟨some 6, .mov (.t 0), some (5, false)⟩,
 ⟨some 7, .nilck (.t 6), some (5, false)⟩,
 ⟨some 8, .faddr 2 (.t 7), some (5, false)⟩,
 ⟨some 9, .load false 1 (.t 8), some (5, false)⟩,
 ⟨some 10, .bin .eql (.t 9) (.k (.i .i64 0)), some (5, false)⟩,
 ⟨some 11, .pick (.t 5) (.k (.b true)) (.t 10), none⟩, ⟨some 2, .mov (.t 11), none⟩])
 .ret))
/-- (*tidemark/feed.Feed).dead -/
def af92 : AFunc := { n := 12, depth := 4, kl := [], res := [.tmp 2], body := B92 }

def B94 : AC := (.seq (.reg [⟨some 1, .lbox (.t 0) [1], none⟩, ⟨some 2, .mov (.k (.sl [] 0 .nil)), none⟩, ⟨some 3, .mov (.k (.i .i64 0)), none⟩])
 (.seq (.seq (.reg [⟨some 5, .load true 4 (.t 1), none⟩, ⟨some 6, .call true 179 [(.t 5)], none⟩, ⟨some 4, .mov (.t 6), none⟩])
 (.seq (.reg [⟨some 7, .mov (.t 4), none⟩, ⟨some 8, .bin .neq (.t 7) (.k (.i .i64 0)), none⟩])
 (.cond (.t 8)
 (.seq (.reg [⟨some 9, .mov (.t 4), none⟩, ⟨some 2, .mov (.k (.sl [] 0 .nil)), none⟩, ⟨some 3, .mov (.t 9), none⟩])
 .ret)
 .skip)))
 (.seq (.reg [⟨some 10, .load true 4 (.t 1), none⟩, ⟨some 11, .call false 180 [(.k (.sl [] 0 .nil)), (.t 10)], none⟩, ⟨some 2, .mov (.t 11), none⟩, ⟨some 3, .mov (.k (.i .i64 0)), none⟩])
 .ret)))
/-- tidemark/filter.Put -/
def af94 : AFunc := { n := 12, depth := 4, kl := [(1, [1])], res := [.tmp 2, .tmp 3], body := B94 }

def B95 : AC := (.seq (.reg [⟨some 1, .lbox (.t 0) [1], none⟩, ⟨some 2, .mov (.k (.i .i64 0)), none⟩, ⟨some 3, .mov (.k (.i .i64 0)), none⟩])
 (.seq (.seq (.reg [⟨some 4, .load true 3 (.t 1), none⟩, ⟨some 5, .call false 99 [(.t 4)], none⟩, ⟨some 6, .bin .neq (.t 5) (.k (.i .i64 0)), none⟩])
 (.cond (.t 6)
 (.seq (.reg [⟨some 2, .mov (.k (.i .i64 0)), none⟩, ⟨some 3, .mov (.k (.i .i64 0)), none⟩])
 .ret)
 .skip))
 (.seq (.reg [⟨some 7, .load true 3 (.t 1), none⟩, ⟨some 8, .call false 181 [(.t 7)], none⟩, ⟨some 9, .ext (.t 8) 0, none⟩, ⟨some 10, .ext (.t 8) 1, none⟩, ⟨some 2, .mov (.t 9), none⟩, ⟨some 3, .mov (.t 10), none⟩])
 .ret)))
/-- tidemark/rows.Last -/
def af95 : AFunc := { n := 11, depth := 4, kl := [(1, [1])], res := [.tmp 2, .tmp 3], body := B95 }

def B96 : AC := (.seq (.reg [⟨some 2, .mov (.k (.b false)), none⟩])
 (.seq (.reg [⟨some 3, .mov (.t 0), none⟩, ⟨some 4, .bin .geq (.t 3) (.k (.i .i64 0)), none⟩, ⟨some 5, .mov (.t 4), none⟩, ⟨some 6, .mov (.t 0), some (5, true)⟩,
 ⟨some 7, .bin .lss (.t 6) (.k (.i .i64 5)), some (5, true)⟩,
 ⟨some 8, .pick (.t 5) (.t 7) (.k (.b false)), none⟩, ⟨some 2, .mov (.t 8), none⟩])
 .ret))
/-- tidemark/raft.node -/
def af96 : AFunc := { n := 9, depth := 4, kl := [], res := [.tmp 2], body := B96 }

def B97 : AC := (.seq (.reg [⟨some 2, .mov (.k (.b false)), none⟩])
 (.seq (.reg [⟨some 3, .mov (.t 0), none⟩, ⟨some 4, .call false 100 [(.t 3), (.f 182)], none⟩, ⟨some 5, .un .not (.t 4), none⟩, ⟨some 2, .mov (.t 5), none⟩])
 .ret))
/-- tidemark/raft.within -/
def af97 : AFunc := { n := 6, depth := 3, kl := [], res := [.tmp 2], body := B97 }

def B98 : AC := (.seq (.reg [⟨some 1, .lbox (.t 0) [1, 4, 5, 8, 9, 14, 16, 23, 30], none⟩, ⟨some 2, .mov (.k (.b false)), none⟩])
 (.seq (.reg [⟨some 4, .faddr 2 (.t 1), none⟩, ⟨some 5, .faddr 0 (.t 4), none⟩, ⟨some 6, .load false 1 (.t 5), none⟩, ⟨some 7, .len .slice (.t 6), none⟩, ⟨some 8, .faddr 2 (.t 1), none⟩, ⟨some 9, .faddr 1 (.t 8), none⟩, ⟨some 10, .load false 1 (.t 9), none⟩, ⟨some 11, .len .slice (.t 10), none⟩, ⟨some 12, .bin .add (.t 7) (.t 11), none⟩, ⟨some 13, .bin .eql (.t 12) (.k (.i .i64 0)), none⟩, ⟨some 3, .mov (.t 13), none⟩])
 (.seq (.reg [⟨some 14, .faddr 0 (.t 1), none⟩, ⟨some 15, .load false 1 (.t 14), none⟩, ⟨some 16, .faddr 1 (.t 1), none⟩, ⟨some 17, .load false 1 (.t 16), none⟩, ⟨some 18, .bslice false 3 1 2 [(.i .i64 0)] [(0, (.t 15)), (1, (.t 17))], none⟩, ⟨some 19, .call true 97 [(.t 18)], none⟩, ⟨some 20, .mov (.t 19), none⟩, ⟨some 21, .mov (.t 3), some (20, true)⟩,
 ⟨some 22, .mov (.t 21), some (20, true)⟩,
 ⟨some 23, .faddr 2 (.t 1), some (22, false)⟩,
 ⟨some 24, .load true 2 (.t 23), some (22, false)⟩,
 ⟨some 25, .call true 183 [(.t 24)], some (22, false)⟩,
 ⟨some 26, .bin .eql (.t 25) (.k (.i .i64 0)), some (22, false)⟩,
 ⟨some 27, .pick (.t 22) (.k (.b true)) (.t 26), some (20, true)⟩,
 ⟨some 28, .pick (.t 20) (.t 27) (.k (.b false)), none⟩, ⟨some 29, .mov (.t 28), none⟩, ⟨some 30, .faddr 4 (.t 1), some (29, true)⟩,
 ⟨some 31, .load false 1 (.t 30), some (29, true)⟩,
 ⟨some 32, .len .slice (.t 31), some (29, true)⟩,
 ⟨some 33, .bin .leq (.t 32) (.k (.i .i64 65536)), some (29, true)⟩,
 ⟨some 34, .pick (.t 29) (.t 33) (.k (.b false)), none⟩, ⟨some 2, .mov (.t 34), none⟩])
 .ret)))
/-- tidemark/raft.fits -/
def af98 : AFunc := { n := 35, depth := 6, kl := [(1, [1, 4, 5, 8, 9, 14, 16, 23, 30])], res := [.tmp 2], body := B98 }

def B99 : AC := (.seq (.reg [⟨some 1, .lbox (.t 0) [1, 3, 8, 14, 16, 18], none⟩, ⟨some 2, .mov (.k (.i .i64 0)), none⟩])
 (.seq (.seq (.reg [⟨some 3, .faddr 0 (.t 1), none⟩, ⟨some 4, .load false 1 (.t 3), none⟩, ⟨some 5, .call true 184 [(.t 4), (.k (.i .i64 0))], none⟩, ⟨some 6, .un .not (.t 5), none⟩, ⟨some 7, .mov (.t 6), none⟩, ⟨some 8, .faddr 1 (.t 1), some (7, false)⟩,
 ⟨some 9, .load false 1 (.t 8), some (7, false)⟩,
 ⟨some 10, .call true 184 [(.t 9), (.k (.i .i64 0))], some (7, false)⟩,
 ⟨some 11, .un .not (.t 10), some (7, false)⟩,
 ⟨some 12, .pick (.t 7) (.k (.b true)) (.t 11), none⟩, ⟨some 13, .mov (.t 12), none⟩, ⟨some 14, .faddr 0 (.t 1), some (13, false)⟩,
 ⟨some 15, .load false 1 (.t 14), some (13, false)⟩,
 ⟨some 16, .faddr 1 (.t 1), some (13, false)⟩,
 ⟨some 17, .load false 1 (.t 16), some (13, false)⟩,
 ⟨some 18, .faddr 2 (.t 1), some (13, false)⟩,
 ⟨some 19, .load false 1 (.t 18), some (13, false)⟩,
 ⟨some 20, .call false 185 [(.t 15), (.t 17), (.t 19)], some (13, false)⟩,
 ⟨some 21, .un .not (.t 20), some (13, false)⟩,
 ⟨some 22, .pick (.t 13) (.k (.b true)) (.t 21), none⟩])
 (.cond (.t 22)
 (.seq (.reg [⟨some 2, .mov (.k (.i .i64 120)), none⟩])
 .ret)
 .skip))
 (.seq (.reg [⟨some 2, .mov (.k (.i .i64 0)), none⟩])
 .ret)))
/-- tidemark/rows.Check -/
def af99 : AFunc := { n := 23, depth := 5, kl := [(1, [1, 3, 8, 14, 16, 18])], res := [.tmp 2], body := B99 }

def B100 : AC := (.seq (.reg [⟨some 4, .mov (.k (.b false)), none⟩])
 (.seq (.reg [⟨some 5, .mov (.t 0), none⟩, ⟨some 6, .mov (.t 1), none⟩, ⟨some 7, .call false 186 [(.t 5), (.t 6)], none⟩, ⟨some 8, .bin .geq (.t 7) (.k (.i .i64 0)), none⟩, ⟨some 4, .mov (.t 8), none⟩])
 .ret))
/-- slices.ContainsFunc[[]int,int] -/
def af100 : AFunc := { n := 9, depth := 4, kl := [], res := [.tmp 4], body := B100 }

def B102 : AC := (.seq (.reg [⟨some 1, .lbox (.t 0) [1, 3, 6, 7, 8, 11, 12, 16], none⟩, ⟨some 2, .lalloc [(.i .i64 0), (.i .i64 0), (.sl [] 0 .nil), (.sl [] 0 .nil), (.sl [] 0 .nil)] [2], none⟩])
 (.seq (.reg [⟨some 3, .faddr 4 (.t 1), none⟩, ⟨some 4, .load false 1 (.t 3), none⟩, ⟨some 5, .call false 70 [(.t 4)], none⟩, ⟨some 6, .faddr 4 (.t 1), none⟩, ⟨none, .store 1 (.t 6) (.t 5), none⟩])
 (.seq (.regd [(⟨some 7, .faddr 2 (.t 1), none⟩, []),
     (⟨some 8, .faddr 0 (.t 7), none⟩, []),
     (⟨some 9, .load false 1 (.t 8), none⟩, []),
     (⟨some 10, .call false 71 [(.t 9)], none⟩, []),
     (⟨some 11, .faddr 2 (.t 1), none⟩, [0, 1, 2, 3]),
     (⟨some 12, .faddr 1 (.t 11), none⟩, [0, 1, 2, 3]),
     (⟨some 13, .load false 1 (.t 12), none⟩, [0, 1, 2, 3]),
     (⟨some 14, .call false 71 [(.t 13)], none⟩, []),
     (⟨some 15, .build [(.sl [] 0 .nil), (.sl [] 0 .nil)] [(0, 1, (.t 10)), (1, 1, (.t 14))], none⟩, []),
     (⟨some 16, .faddr 2 (.t 1), none⟩, []),
     (⟨none, .store 2 (.t 16) (.t 15), none⟩, [])])
 (.seq (.reg [⟨some 17, .load true 5 (.t 1), none⟩, ⟨none, .store 5 (.t 2) (.t 17), none⟩])
 .ret))))
/-- tidemark/raft.based -/
def af102 : AFunc := { n := 18, depth := 5, kl := [(1, [1, 3, 6, 7, 8, 11, 12, 16]), (2, [2])], res := [.cell 2 true 5], body := B102 }

def L103_1 : AC := (.seq (.reg [⟨some 9, .bin .lss (.t 8) (.t 7), none⟩])
 (.seq (.cond (.t 9)
 .skip
 (.exit 0))
 (.seq (.blk 1 (.seq (.reg [⟨some 10, .iaddr (.slice 3) (.t 6) (.t 8), none⟩, ⟨some 11, .load true 3 (.t 10), none⟩, ⟨some 5, .lalloc [(.i .i64 0), (.i .i64 0), (.sl [] 0 .nil)] [5, 12, 15], none⟩, ⟨none, .store 3 (.t 5) (.t 11), none⟩])
 (.seq (.reg [⟨some 12, .faddr 2 (.t 5), none⟩, ⟨some 13, .load false 1 (.t 12), none⟩, ⟨some 14, .call false 70 [(.t 13)], none⟩, ⟨some 15, .faddr 2 (.t 5), none⟩, ⟨none, .store 1 (.t 15) (.t 14), none⟩])
 (.reg [⟨some 16, .mov (.t 3), none⟩, ⟨some 17, .load true 3 (.t 5), none⟩, ⟨some 18, .bslice false 68 3 1 [(.i .i64 0), (.i .i64 0), (.sl [] 0 .nil)] [(0, (.t 17))], none⟩, ⟨some 19, .app 68 3 (.t 16) (.t 18), none⟩, ⟨some 3, .mov (.t 19), none⟩]))))
 (.reg [⟨some 20, .bin .add (.t 8) (.k (.i .i64 1)), none⟩, ⟨some 8, .mov (.t 20), none⟩]))))
def B103 : AC := (.seq (.reg [⟨some 2, .mov (.k (.sl [] 0 .nil)), none⟩])
 (.seq (.reg [⟨some 3, .mov (.k (.sl [] 0 .nil)), none⟩])
 (.seq (.seq (.reg [⟨some 6, .mov (.t 0), none⟩, ⟨some 7, .len .slice (.t 6), none⟩, ⟨some 8, .mov (.k (.i .i64 0)), none⟩])
 (.blk 0 (.loop L103_1)))
 (.seq (.reg [⟨some 21, .mov (.t 3), none⟩, ⟨some 2, .mov (.t 21), none⟩])
 .ret))))
/-- tidemark/raft.entries -/
def af103 : AFunc := { n := 22, depth := 5, kl := [(5, [5, 12, 15])], res := [.tmp 2], body := B103 }

def B104 : AC := (.seq (.reg [⟨some 2, .mov (.k (.sl [] 0 .nil)), none⟩])
 (.seq (.seq (.reg [⟨some 3, .mov (.t 0), none⟩, ⟨some 4, .eq false .slnil (.t 3) (.k (.sl [] 0 .nil)), none⟩])
 (.cond (.t 4)
 (.seq (.reg [⟨some 2, .mov (.k (.sl [] 0 .nil)), none⟩])
 .ret)
 .skip))
 (.seq (.reg [⟨some 5, .bslice false 79 3 0 [(.i .i64 0), (.i .i64 0), (.i .i64 0)] [], none⟩, ⟨some 6, .mov (.t 0), none⟩, ⟨some 7, .appo 79 3 (.t 5) (.t 6), none⟩, ⟨some 2, .mov (.t 7), none⟩])
 .ret)))
/-- slices.Clone[[]tidemark/api.Look,tidemark/api.Look] -/
def af104 : AFunc := { n := 8, depth := 4, kl := [], res := [.tmp 2], body := B104 }

def L105_1 : AC := (.seq (.reg [⟨some 9, .bin .lss (.t 8) (.t 7), none⟩])
 (.seq (.cond (.t 9)
 .skip
 (.exit 0))
 (.seq (.blk 1 (.seq (.reg [⟨some 10, .iaddr (.slice 1) (.t 6) (.t 8), none⟩, ⟨some 11, .load false 1 (.t 10), none⟩, ⟨some 3, .mov (.t 11), none⟩])
 (.seq (.reg [⟨some 12, .mov (.t 3), none⟩, ⟨some 13, .mov (.t 0), none⟩, ⟨some 14, .nilck (.t 13), none⟩, ⟨some 15, .faddr 0 (.t 14), none⟩, ⟨some 16, .faddr 0 (.t 15), none⟩, ⟨some 17, .load false 1 (.t 16), none⟩, ⟨some 18, .bin .neq (.t 12) (.t 17), none⟩])
 (.cond (.t 18)
 (.reg [⟨some 19, .mov (.t 0), none⟩, ⟨some 20, .mov (.t 3), none⟩, ⟨some 21, .call false 188 [(.t 19), (.t 20)], none⟩])
 .skip))))
 (.reg [⟨some 22, .bin .add (.t 8) (.k (.i .i64 1)), none⟩, ⟨some 8, .mov (.t 22), none⟩]))))
def B105 : AC := (.seq (.reg [⟨some 4, .mov (.t 0), none⟩, ⟨some 5, .call false 118 [(.t 4)], none⟩, ⟨some 6, .call true 187 [(.t 5)], none⟩, ⟨some 7, .len .slice (.t 6), none⟩, ⟨some 8, .mov (.k (.i .i64 0)), none⟩])
 (.blk 0 (.loop L105_1)))
/-- (*tidemark/raft.work).tell -/
def af105 : AFunc := { n := 23, depth := 5, kl := [], res := [], body := B105 }

def B106 : AC := (.seq (.reg [⟨some 4, .mov (.t 0), none⟩, ⟨some 5, .mov (.t 0), none⟩, ⟨some 6, .mov (.t 1), none⟩, ⟨some 7, .minmax true (.t 6) (.k (.i .i64 1)), none⟩, ⟨some 8, .nilck (.t 4), none⟩, ⟨some 9, .faddr 0 (.t 8), none⟩, ⟨some 10, .faddr 33 (.t 9), none⟩, ⟨none, .store 1 (.t 10) (.k (.i .i64 0)), none⟩, ⟨some 11, .nilck (.t 5), none⟩, ⟨some 12, .faddr 0 (.t 11), none⟩, ⟨some 13, .faddr 34 (.t 12), none⟩, ⟨none, .store 1 (.t 13) (.t 7), none⟩])
 (.seq (.seq (.regd [(⟨some 14, .mov (.t 0), none⟩, []),
      (⟨some 15, .call false 118 [(.t 14)], none⟩, []),
      (⟨some 16, .mov (.t 0), none⟩, [0, 1]),
      (⟨some 17, .nilck (.t 16), none⟩, [0, 1]),
      (⟨some 18, .faddr 0 (.t 17), none⟩, [0, 1]),
      (⟨some 19, .faddr 0 (.t 18), none⟩, [0, 1]),
      (⟨some 20, .load false 1 (.t 19), none⟩, [0, 1]),
      (⟨some 21, .call true 117 [(.t 15), (.t 20)], none⟩, []),
      (⟨some 22, .un .not (.t 21), none⟩, []),
      (⟨some 23, .mov (.t 22), none⟩, []),
      (⟨some 24, .mov (.t 0), some (23, false)⟩, []),
      (⟨some 25, .nilck (.t 24), some (23, false)⟩, []),
      (⟨some 26, .faddr 0 (.t 25), some (23, false)⟩, []),
      (⟨some 27, .faddr 1 (.t 26), some (23, false)⟩, []),
      (⟨some 28, .faddr 0 (.t 27), some (23, false)⟩, []),
      (⟨some 29, .load false 1 (.t 28), some (23, false)⟩, []),
      (⟨some 30, .bin .geq (.t 29) (.k (.i .i64 1099511627776)), some (23, false)⟩, []),
      (⟨some 31, .pick (.t 23) (.k (.b true)) (.t 30), none⟩, [])])
 (.cond (.t 31)
 .ret
 .skip))
 (.seq (.reg [⟨some 32, .mov (.t 0), none⟩, ⟨some 33, .mov (.t 0), none⟩, ⟨some 34, .mov (.t 0), none⟩, ⟨some 35, .mov (.t 0), none⟩, ⟨some 36, .nilck (.t 35), none⟩, ⟨some 37, .faddr 0 (.t 36), none⟩, ⟨some 38, .faddr 0 (.t 37), none⟩, ⟨some 39, .load false 1 (.t 38), none⟩, ⟨some 40, .bslice false 3 1 1 [(.i .i64 0)] [(0, (.t 39))], none⟩, ⟨some 41, .nilck (.t 32), none⟩, ⟨some 42, .faddr 0 (.t 41), none⟩, ⟨some 43, .faddr 3 (.t 42), none⟩, ⟨none, .store 1 (.t 43) (.k (.i .i64 1)), none⟩, ⟨some 44, .nilck (.t 33), none⟩, ⟨some 45, .faddr 0 (.t 44), none⟩, ⟨some 46, .faddr 4 (.t 45), none⟩, ⟨none, .store 1 (.t 46) (.k (.i .i64 0)), none⟩, ⟨some 47, .nilck (.t 34), none⟩, ⟨some 48, .faddr 0 (.t 47), none⟩, ⟨some 49, .faddr 12 (.t 48), none⟩, ⟨none, .store 1 (.t 49) (.t 40), none⟩])
 (.seq (.reg [⟨some 50, .mov (.t 0), none⟩, ⟨some 51, .mov (.t 0), none⟩, ⟨some 52, .nilck (.t 51), none⟩, ⟨some 53, .faddr 0 (.t 52), none⟩, ⟨some 54, .faddr 1 (.t 53), none⟩, ⟨some 55, .faddr 0 (.t 54), none⟩, ⟨some 56, .load false 1 (.t 55), none⟩, ⟨some 57, .bin .add (.t 56) (.k (.i .i64 1)), none⟩, ⟨some 58, .call false 189 [(.t 50), (.k (.i .i64 1)), (.t 57)], none⟩])
 (.reg [⟨some 59, .mov (.t 0), none⟩, ⟨some 60, .call false 190 [(.t 59)], none⟩])))))
/-- (*tidemark/raft.work).ask -/
def af106 : AFunc := { n := 61, depth := 6, kl := [], res := [], body := B106 }

def B117 : AC := (.seq (.reg [⟨some 2, .lbox (.t 0) [2, 5], none⟩, ⟨some 4, .mov (.k (.b false)), none⟩])
 (.seq (.reg [⟨some 5, .faddr 0 (.t 2), none⟩, ⟨some 6, .load false 1 (.t 5), none⟩, ⟨some 7, .mov (.t 1), none⟩, ⟨some 8, .call true 192 [(.t 6), (.t 7)], none⟩, ⟨some 4, .mov (.t 8), none⟩])
 .ret))
/-- tidemark/quorum.Votes -/
def af117 : AFunc := { n := 9, depth := 4, kl := [(2, [2, 5])], res := [.tmp 4], body := B117 }

def B118 : AC := (.seq (.reg [⟨some 2, .lalloc [(.sl [] 0 .nil), (.sl [] 0 .nil)] [2], none⟩])
 (.seq (.reg [⟨some 8, .mov (.t 0), none⟩, ⟨some 9, .call false 122 [(.t 8)], none⟩, ⟨some 10, .call false 95 [(.t 9)], none⟩, ⟨some 7, .mov (.t 10), none⟩, ⟨some 11, .ext (.t 7) 0, none⟩, ⟨some 12, .ext (.t 7) 1, none⟩, ⟨some 3, .mov (.t 11), none⟩, ⟨some 4, .mov (.t 12), none⟩])
 (.seq (.reg [⟨some 14, .mov (.t 0), none⟩, ⟨some 15, .mov (.t 3), none⟩, ⟨some 16, .call false 123 [(.t 14), (.t 15)], none⟩, ⟨some 13, .mov (.t 16), none⟩, ⟨some 17, .ext (.t 13) 0, none⟩, ⟨some 18, .ext (.t 13) 1, none⟩, ⟨some 5, .lalloc [(.sl [] 0 .nil), (.sl [] 0 .nil)] [5], none⟩, ⟨none, .store 2 (.t 5) (.t 17), none⟩, ⟨some 6, .mov (.t 18), none⟩])
 (.seq (.reg [⟨some 19, .load true 2 (.t 5), none⟩, ⟨none, .store 2 (.t 2) (.t 19), none⟩])
 .ret))))
/-- (*tidemark/raft.work).now -/
def af118 : AFunc := { n := 20, depth := 5, kl := [(2, [2]), (5, [5])], res := [.cell 2 true 2], body := B118 }

def B119 : AC := (.seq (.seq (.reg [⟨some 2, .mov (.t 0), none⟩, ⟨some 3, .nilck (.t 2), none⟩, ⟨some 4, .faddr 0 (.t 3), none⟩, ⟨some 5, .faddr 1 (.t 4), none⟩, ⟨some 6, .faddr 0 (.t 5), none⟩, ⟨some 7, .load false 1 (.t 6), none⟩, ⟨some 8, .bin .geq (.t 7) (.k (.i .i64 1099511627776)), none⟩])
 (.cond (.t 8)
 .ret
 .skip))
 (.seq (.reg [⟨some 9, .mov (.t 0), none⟩, ⟨some 10, .mov (.t 0), none⟩, ⟨some 11, .nilck (.t 10), none⟩, ⟨some 12, .faddr 0 (.t 11), none⟩, ⟨some 13, .faddr 1 (.t 12), none⟩, ⟨some 14, .faddr 0 (.t 13), none⟩, ⟨some 15, .load false 1 (.t 14), none⟩, ⟨some 16, .bin .add (.t 15) (.k (.i .i64 1)), none⟩, ⟨some 17, .mov (.t 0), none⟩, ⟨some 18, .nilck (.t 17), none⟩, ⟨some 19, .faddr 0 (.t 18), none⟩, ⟨some 20, .faddr 0 (.t 19), none⟩, ⟨some 21, .load false 1 (.t 20), none⟩, ⟨some 22, .bin .add (.t 21) (.k (.i .i64 1)), none⟩, ⟨some 23, .build [(.i .i64 0), (.i .i64 0)] [(0, 1, (.t 16)), (1, 1, (.t 22))], none⟩, ⟨some 24, .call false 193 [(.t 9), (.t 23)], none⟩])
 (.seq (.reg [⟨some 25, .mov (.t 0), none⟩, ⟨some 26, .mov (.t 0), none⟩, ⟨some 27, .mov (.t 0), none⟩, ⟨some 28, .mov (.t 0), none⟩, ⟨some 29, .nilck (.t 28), none⟩, ⟨some 30, .faddr 0 (.t 29), none⟩, ⟨some 31, .faddr 0 (.t 30), none⟩, ⟨some 32, .load false 1 (.t 31), none⟩, ⟨some 33, .bslice false 3 1 1 [(.i .i64 0)] [(0, (.t 32))], none⟩, ⟨some 34, .nilck (.t 25), none⟩, ⟨some 35, .faddr 0 (.t 34), none⟩, ⟨some 36, .faddr 3 (.t 35), none⟩, ⟨none, .store 1 (.t 36) (.k (.i .i64 2)), none⟩, ⟨some 37, .nilck (.t 26), none⟩, ⟨some 38, .faddr 0 (.t 37), none⟩, ⟨some 39, .faddr 4 (.t 38), none⟩, ⟨none, .store 1 (.t 39) (.k (.i .i64 0)), none⟩, ⟨some 40, .nilck (.t 27), none⟩, ⟨some 41, .faddr 0 (.t 40), none⟩, ⟨some 42, .faddr 12 (.t 41), none⟩, ⟨none, .store 1 (.t 42) (.t 33), none⟩])
 (.seq (.reg [⟨some 43, .mov (.t 0), none⟩, ⟨some 44, .mov (.t 0), none⟩, ⟨some 45, .nilck (.t 44), none⟩, ⟨some 46, .faddr 0 (.t 45), none⟩, ⟨some 47, .faddr 1 (.t 46), none⟩, ⟨some 48, .faddr 0 (.t 47), none⟩, ⟨some 49, .load false 1 (.t 48), none⟩, ⟨some 50, .call false 189 [(.t 43), (.k (.i .i64 3)), (.t 49)], none⟩])
 (.reg [⟨some 51, .mov (.t 0), none⟩, ⟨some 52, .call false 190 [(.t 51)], none⟩])))))
/-- (*tidemark/raft.work).stand -/
def af119 : AFunc := { n := 53, depth := 6, kl := [], res := [], body := B119 }

def B120 : AC := (.seq (.reg [⟨some 2, .lalloc [(.i .i64 0), (.i .i64 0), (.i .i64 0), (.sl [] 0 .nil), (.sl [] 0 .nil), (.s []), (.i .i64 0), (.s []), (.s []), (.i .i64 0), (.s []), (.s []), (.sl [] 0 .nil), (.i .i64 0), (.i .i64 0), (.i .i64 0), (.i .i64 0), (.sl [] 0 .nil), (.sl [] 0 .nil)] [2], none⟩, ⟨some 3, .mov (.k (.i .i64 0)), none⟩])
 (.seq (.reg [⟨some 8, .mov (.t 0), none⟩, ⟨some 9, .call false 130 [(.t 8)], none⟩, ⟨some 4, .mov (.t 9), none⟩])
 (.seq (.reg [⟨some 10, .mov (.t 4), none⟩, ⟨some 11, .call false 131 [(.t 10)], none⟩, ⟨some 12, .mov (.t 4), none⟩, ⟨some 13, .call false 131 [(.t 12)], none⟩, ⟨some 14, .mov (.t 4), none⟩, ⟨some 15, .call false 131 [(.t 14)], none⟩, ⟨some 16, .mov (.t 4), none⟩, ⟨some 17, .call false 131 [(.t 16)], none⟩, ⟨some 18, .mov (.t 4), none⟩, ⟨some 19, .call false 131 [(.t 18)], none⟩, ⟨some 20, .mov (.t 4), none⟩, ⟨some 21, .call false 131 [(.t 20)], none⟩, ⟨some 22, .mov (.t 4), none⟩, ⟨some 23, .call false 131 [(.t 22)], none⟩, ⟨some 24, .build [(.i .i64 0), (.i .i64 0), (.i .i64 0), (.sl [] 0 .nil), (.sl [] 0 .nil), (.s []), (.i .i64 0), (.s []), (.s []), (.i .i64 0), (.s []), (.s []), (.sl [] 0 .nil), (.i .i64 0), (.i .i64 0), (.i .i64 0), (.i .i64 0), (.sl [] 0 .nil), (.sl [] 0 .nil)] [(0, 1, (.t 11)), (1, 1, (.t 13)), (2, 1, (.t 15)), (13, 1, (.t 17)), (14, 1, (.t 19)), (15, 1, (.t 21)), (16, 1, (.t 23))], none⟩, ⟨some 5, .lalloc [(.i .i64 0), (.i .i64 0), (.i .i64 0), (.sl [] 0 .nil), (.sl [] 0 .nil), (.s []), (.i .i64 0), (.s []), (.s []), (.i .i64 0), (.s []), (.s []), (.sl [] 0 .nil), (.i .i64 0), (.i .i64 0), (.i .i64 0), (.i .i64 0), (.sl [] 0 .nil), (.sl [] 0 .nil)] [5, 29, 30, 33, 40, 46], none⟩, ⟨none, .store 19 (.t 5) (.t 24), none⟩])
 (.seq (.reg [⟨some 25, .mov (.t 4), none⟩, ⟨some 26, .call false 137 [(.t 25), (.k (.i .i64 6))], none⟩, ⟨some 27, .mov (.t 4), none⟩, ⟨some 28, .call false 137 [(.t 27), (.k (.i .i64 32))], none⟩, ⟨some 29, .faddr 3 (.t 5), none⟩, ⟨none, .store 1 (.t 29) (.t 26), none⟩, ⟨some 30, .faddr 4 (.t 5), none⟩, ⟨none, .store 1 (.t 30) (.t 28), none⟩])
 (.seq (.reg [⟨some 31, .mov (.t 4), none⟩, ⟨some 32, .call false 138 [(.t 31)], none⟩, ⟨some 33, .faddr 5 (.t 5), none⟩, ⟨none, .store 4 (.t 33) (.t 32), none⟩])
 (.seq (.reg [⟨some 35, .mov (.t 4), none⟩, ⟨some 36, .call false 199 [(.t 35)], none⟩, ⟨some 34, .mov (.t 36), none⟩, ⟨some 37, .ext (.t 34) 0, none⟩, ⟨some 38, .ext (.t 34) 1, none⟩, ⟨some 6, .lalloc [(.i .i64 0), (.s []), (.s []), (.sl [] 0 .nil)] [6], none⟩, ⟨none, .store 4 (.t 6) (.t 37), none⟩, ⟨some 7, .mov (.t 38), none⟩])
 (.seq (.reg [⟨some 39, .load true 4 (.t 6), none⟩, ⟨some 40, .faddr 9 (.t 5), none⟩, ⟨none, .store 4 (.t 40) (.t 39), none⟩])
 (.seq (.reg [⟨some 41, .mov (.t 4), none⟩, ⟨some 42, .call false 200 [(.t 41)], none⟩, ⟨some 43, .mov (.t 4), none⟩, ⟨some 44, .call false 200 [(.t 43)], none⟩, ⟨some 45, .build [(.sl [] 0 .nil), (.sl [] 0 .nil)] [(0, 1, (.t 42)), (1, 1, (.t 44))], none⟩, ⟨some 46, .faddr 17 (.t 5), none⟩, ⟨none, .store 2 (.t 46) (.t 45), none⟩])
 (.seq (.seq (.reg [⟨some 47, .mov (.t 7), none⟩, ⟨some 48, .un .not (.t 47), none⟩, ⟨some 49, .mov (.t 48), none⟩, ⟨some 50, .mov (.t 4), some (49, false)⟩,
 ⟨some 51, .call false 136 [(.t 50)], some (49, false)⟩,
 ⟨some 52, .bin .neq (.t 51) (.k (.i .i64 0)), some (49, false)⟩,
 ⟨some 53, .pick (.t 49) (.k (.b true)) (.t 52), none⟩, ⟨some 54, .mov (.t 53), none⟩, ⟨some 55, .mov (.t 0), some (54, false)⟩,
 ⟨some 56, .len .slice (.t 55), some (54, false)⟩,
 ⟨some 57, .bin .gtr (.t 56) (.k (.i .i64 8192)), some (54, false)⟩,
 ⟨some 58, .pick (.t 54) (.k (.b true)) (.t 57), none⟩, ⟨some 59, .mov (.t 58), none⟩, ⟨some 60, .load true 19 (.t 5), some (59, false)⟩,
 ⟨some 61, .call true 201 [(.t 60)], some (59, false)⟩,
 ⟨some 62, .bin .neq (.t 61) (.k (.i .i64 0)), some (59, false)⟩,
 ⟨some 63, .pick (.t 59) (.k (.b true)) (.t 62), none⟩])
 (.cond (.t 63)
 (.seq (.reg [⟨some 64, .build [(.i .i64 0), (.i .i64 0), (.i .i64 0), (.sl [] 0 .nil), (.sl [] 0 .nil), (.s []), (.i .i64 0), (.s []), (.s []), (.i .i64 0), (.s []), (.s []), (.sl [] 0 .nil), (.i .i64 0), (.i .i64 0), (.i .i64 0), (.i .i64 0), (.sl [] 0 .nil), (.sl [] 0 .nil)] [], none⟩, ⟨none, .store 19 (.t 2) (.t 64), none⟩, ⟨some 3, .mov (.k (.i .i64 100)), none⟩])
 .ret)
 .skip))
 (.seq (.reg [⟨some 65, .load true 19 (.t 5), none⟩, ⟨none, .store 19 (.t 2) (.t 65), none⟩, ⟨some 3, .mov (.k (.i .i64 0)), none⟩])
 .ret))))))))))
/-- tidemark/machine.Get -/
def af120 : AFunc := { n := 66, depth := 7, kl := [(2, [2]), (5, [5, 29, 30, 33, 40, 46]), (6, [6])], res := [.cell 2 true 19, .tmp 3], body := B120 }

def B122 : AC := (.seq (.reg [⟨some 2, .lalloc [(.i .i64 0), (.i .i64 0), (.sl [] 0 .nil)] [2], none⟩])
 (.seq (.reg [⟨some 3, .mov (.t 0), none⟩, ⟨some 4, .nilck (.t 3), none⟩, ⟨some 5, .faddr 0 (.t 4), none⟩, ⟨some 6, .faddr 6 (.t 5), none⟩, ⟨some 7, .faddr 0 (.t 6), none⟩, ⟨some 8, .load false 1 (.t 7), none⟩, ⟨some 9, .mov (.t 0), none⟩, ⟨some 10, .nilck (.t 9), none⟩, ⟨some 11, .faddr 0 (.t 10), none⟩, ⟨some 12, .faddr 6 (.t 11), none⟩, ⟨some 13, .faddr 1 (.t 12), none⟩, ⟨some 14, .load false 1 (.t 13), none⟩, ⟨some 15, .mov (.t 0), none⟩, ⟨some 16, .nilck (.t 15), none⟩, ⟨some 17, .faddr 0 (.t 16), none⟩, ⟨some 18, .faddr 11 (.t 17), none⟩, ⟨some 19, .load false 1 (.t 18), none⟩, ⟨some 20, .build [(.i .i64 0), (.i .i64 0), (.sl [] 0 .nil)] [(0, 1, (.t 8)), (1, 1, (.t 14)), (2, 1, (.t 19))], none⟩, ⟨none, .store 3 (.t 2) (.t 20), none⟩])
 .ret))
/-- (*tidemark/raft.work).log -/
def af122 : AFunc := { n := 21, depth := 5, kl := [(2, [2])], res := [.cell 2 true 3], body := B122 }

def L123_1 : AC := (.seq (.seq (.reg [⟨some 17, .mov (.t 6), none⟩, ⟨some 18, .bin .geq (.t 17) (.k (.i .i64 0)), none⟩])
 (.cond (.t 18)
 .skip
 (.exit 0)))
 (.seq (.blk 1 (.seq (.reg [⟨some 21, .mov (.t 0), none⟩, ⟨some 22, .nilck (.t 21), none⟩, ⟨some 23, .faddr 0 (.t 22), none⟩, ⟨some 24, .faddr 11 (.t 23), none⟩, ⟨some 25, .load false 1 (.t 24), none⟩, ⟨some 26, .mov (.t 6), none⟩, ⟨some 27, .iaddr (.slice 3) (.t 25) (.t 26), none⟩, ⟨some 28, .load true 3 (.t 27), none⟩, ⟨some 7, .lalloc [(.i .i64 0), (.i .i64 0), (.sl [] 0 .nil)] [7, 29, 34, 54], none⟩, ⟨none, .store 3 (.t 7) (.t 28), none⟩])
 (.seq (.reg [⟨some 29, .faddr 0 (.t 7), none⟩, ⟨some 30, .load false 1 (.t 29), none⟩, ⟨some 31, .mov (.t 1), none⟩, ⟨some 32, .bin .leq (.t 30) (.t 31), none⟩])
 (.cond (.t 32)
 (.seq (.reg [⟨some 34, .faddr 2 (.t 7), none⟩, ⟨some 35, .load false 1 (.t 34), none⟩, ⟨some 36, .call false 120 [(.t 35)], none⟩, ⟨some 33, .mov (.t 36), none⟩, ⟨some 37, .ext (.t 33) 0, none⟩, ⟨some 38, .ext (.t 33) 1, none⟩, ⟨some 8, .lalloc [(.i .i64 0), (.i .i64 0), (.i .i64 0), (.sl [] 0 .nil), (.sl [] 0 .nil), (.s []), (.i .i64 0), (.s []), (.s []), (.i .i64 0), (.s []), (.s []), (.sl [] 0 .nil), (.i .i64 0), (.i .i64 0), (.i .i64 0), (.i .i64 0), (.sl [] 0 .nil), (.sl [] 0 .nil)] [8, 42, 47, 52], none⟩, ⟨none, .store 19 (.t 8) (.t 37), none⟩, ⟨some 9, .mov (.t 38), none⟩])
 (.seq (.reg [⟨some 39, .mov (.t 9), none⟩, ⟨some 40, .bin .eql (.t 39) (.k (.i .i64 0)), none⟩, ⟨some 41, .mov (.t 40), none⟩, ⟨some 42, .faddr 0 (.t 8), some (41, true)⟩,
 ⟨some 43, .load false 1 (.t 42), some (41, true)⟩,
 ⟨some 44, .bin .eql (.t 43) (.k (.i .i64 9)), some (41, true)⟩,
 ⟨some 45, .pick (.t 41) (.t 44) (.k (.b false)), none⟩, ⟨some 46, .mov (.t 45), none⟩, ⟨some 47, .faddr 17 (.t 8), some (46, true)⟩,
 ⟨some 48, .load true 2 (.t 47), some (46, true)⟩,
 ⟨some 49, .call true 183 [(.t 48)], some (46, true)⟩,
 ⟨some 50, .bin .eql (.t 49) (.k (.i .i64 0)), some (46, true)⟩,
 ⟨some 51, .pick (.t 46) (.t 50) (.k (.b false)), none⟩])
 (.cond (.t 51)
 (.seq (.regd [(⟨some 52, .faddr 17 (.t 8), none⟩, []),
         (⟨some 53, .load true 2 (.t 52), none⟩, []),
         (⟨some 54, .faddr 0 (.t 7), none⟩, [0, 1]),
         (⟨some 55, .load false 1 (.t 54), none⟩, [0, 1]),
         (⟨none, .store 2 (.t 4) (.t 53), none⟩, [2, 3]),
         (⟨some 5, .mov (.t 55), none⟩, [])])
 .ret)
 .skip)))
 .skip))))
 (.reg [⟨some 19, .mov (.t 6), none⟩, ⟨some 20, .bin .sub (.t 19) (.k (.i .i64 1)), none⟩, ⟨some 6, .mov (.t 20), none⟩])))
def B123 : AC := (.seq (.reg [⟨some 4, .lalloc [(.sl [] 0 .nil), (.sl [] 0 .nil)] [4], none⟩, ⟨some 5, .mov (.k (.i .i64 0)), none⟩])
 (.seq (.seq (.reg [⟨some 10, .mov (.t 0), none⟩, ⟨some 11, .nilck (.t 10), none⟩, ⟨some 12, .faddr 0 (.t 11), none⟩, ⟨some 13, .faddr 11 (.t 12), none⟩, ⟨some 14, .load false 1 (.t 13), none⟩, ⟨some 15, .len .slice (.t 14), none⟩, ⟨some 16, .bin .sub (.t 15) (.k (.i .i64 1)), none⟩, ⟨some 6, .mov (.t 16), none⟩])
 (.blk 0 (.loop L123_1)))
 (.seq (.regd [(⟨some 56, .mov (.t 0), none⟩, []),
     (⟨some 57, .nilck (.t 56), none⟩, []),
     (⟨some 58, .faddr 0 (.t 57), none⟩, []),
     (⟨some 59, .faddr 6 (.t 58), none⟩, []),
     (⟨some 60, .faddr 2 (.t 59), none⟩, []),
     (⟨some 61, .load true 2 (.t 60), none⟩, []),
     (⟨some 62, .mov (.t 0), none⟩, [0, 1, 2, 3, 4, 5]),
     (⟨some 63, .nilck (.t 62), none⟩, [0, 1, 2, 3, 4, 5]),
     (⟨some 64, .faddr 0 (.t 63), none⟩, [0, 1, 2, 3, 4, 5]),
     (⟨some 65, .faddr 6 (.t 64), none⟩, [0, 1, 2, 3, 4, 5]),
     (⟨some 66, .faddr 0 (.t 65), none⟩, [0, 1, 2, 3, 4, 5]),
     (⟨some 67, .load false 1 (.t 66), none⟩, [0, 1, 2, 3, 4, 5]),
     (⟨none, .store 2 (.t 4) (.t 61), none⟩, [6, 7, 8, 9, 10, 11]),
     (⟨some 5, .mov (.t 67), none⟩, [])])
 .ret)))
/-- (*tidemark/raft.work).rosterAt -/
def af123 : AFunc := { n := 68, depth := 7, kl := [(4, [4]), (7, [7, 29, 34, 54]), (8, [8, 42, 47, 52])], res := [.cell 4 true 2, .tmp 5], body := B123 }

def L125_1 : AC := (.seq (.reg [⟨some 60, .bin .lss (.t 59) (.t 58), none⟩])
 (.seq (.cond (.t 60)
 .skip
 (.exit 0))
 (.seq (.blk 1 (.seq (.reg [⟨some 61, .iaddr (.slice 1) (.t 57) (.t 59), none⟩, ⟨some 62, .load false 1 (.t 61), none⟩, ⟨some 9, .mov (.t 62), none⟩])
 (.reg [⟨some 63, .mov (.t 5), none⟩, ⟨some 64, .mov (.t 9), none⟩, ⟨some 65, .len .slice (.t 64), none⟩, ⟨some 66, .call false 35 [(.t 63), (.t 65)], none⟩, ⟨some 67, .mov (.t 9), none⟩, ⟨some 68, .call false 39 [(.t 66), (.t 67)], none⟩, ⟨some 5, .mov (.t 68), none⟩])))
 (.reg [⟨some 69, .bin .add (.t 59) (.k (.i .i64 1)), none⟩, ⟨some 59, .mov (.t 69), none⟩]))))
def B125 : AC := (.seq (.reg [⟨some 1, .lbox (.t 0) [1, 15, 17, 19, 21, 23, 25, 27, 32, 35, 39, 43, 51, 52, 54, 55], none⟩, ⟨some 2, .mov (.k (.sl [] 0 .nil)), none⟩, ⟨some 3, .mov (.k (.i .i64 0)), none⟩])
 (.seq (.seq (.reg [⟨some 10, .load true 19 (.t 1), none⟩, ⟨some 11, .call true 201 [(.t 10)], none⟩, ⟨some 4, .mov (.t 11), none⟩])
 (.seq (.reg [⟨some 12, .mov (.t 4), none⟩, ⟨some 13, .bin .neq (.t 12) (.k (.i .i64 0)), none⟩])
 (.cond (.t 13)
 (.seq (.reg [⟨some 14, .mov (.t 4), none⟩, ⟨some 2, .mov (.k (.sl [] 0 .nil)), none⟩, ⟨some 3, .mov (.t 14), none⟩])
 .ret)
 .skip)))
 (.seq (.reg [⟨some 15, .faddr 0 (.t 1), none⟩, ⟨some 16, .load false 1 (.t 15), none⟩, ⟨some 17, .faddr 1 (.t 1), none⟩, ⟨some 18, .load false 1 (.t 17), none⟩, ⟨some 19, .faddr 2 (.t 1), none⟩, ⟨some 20, .load false 1 (.t 19), none⟩, ⟨some 21, .faddr 13 (.t 1), none⟩, ⟨some 22, .load false 1 (.t 21), none⟩, ⟨some 23, .faddr 14 (.t 1), none⟩, ⟨some 24, .load false 1 (.t 23), none⟩, ⟨some 25, .faddr 15 (.t 1), none⟩, ⟨some 26, .load false 1 (.t 25), none⟩, ⟨some 27, .faddr 16 (.t 1), none⟩, ⟨some 28, .load false 1 (.t 27), none⟩, ⟨some 29, .bslice false 3 1 7 [(.i .i64 0)] [(0, (.t 16)), (1, (.t 18)), (2, (.t 20)), (3, (.t 22)), (4, (.t 24)), (5, (.t 26)), (6, (.t 28))], none⟩, ⟨some 30, .call false 39 [(.k (.sl [] 0 .nil)), (.t 29)], none⟩, ⟨some 5, .mov (.t 30), none⟩])
 (.seq (.regd [(⟨some 31, .mov (.t 5), none⟩, []),
     (⟨some 32, .faddr 3 (.t 1), none⟩, [0]),
     (⟨some 33, .load false 1 (.t 32), none⟩, [0]),
     (⟨some 34, .call false 40 [(.t 31), (.t 33)], none⟩, []),
     (⟨some 35, .faddr 4 (.t 1), none⟩, [0, 1, 2, 3]),
     (⟨some 36, .load false 1 (.t 35), none⟩, [0, 1, 2, 3]),
     (⟨some 37, .call false 40 [(.t 34), (.t 36)], none⟩, []),
     (⟨some 5, .mov (.t 37), none⟩, [])])
 (.seq (.reg [⟨some 38, .mov (.t 5), none⟩, ⟨some 39, .faddr 5 (.t 1), none⟩, ⟨some 40, .load true 4 (.t 39), none⟩, ⟨some 41, .call false 43 [(.t 38), (.t 40)], none⟩, ⟨some 5, .mov (.t 41), none⟩])
 (.seq (.reg [⟨some 43, .faddr 9 (.t 1), none⟩, ⟨some 44, .load true 4 (.t 43), none⟩, ⟨some 45, .call false 94 [(.t 44)], none⟩, ⟨some 42, .mov (.t 45), none⟩, ⟨some 46, .ext (.t 42) 0, none⟩, ⟨some 47, .ext (.t 42) 1, none⟩, ⟨some 6, .mov (.t 46), none⟩, ⟨some 7, .mov (.t 47), none⟩])
 (.seq (.reg [⟨some 48, .mov (.t 5), none⟩, ⟨some 49, .mov (.t 6), none⟩, ⟨some 50, .app 5 1 (.t 48) (.t 49), none⟩, ⟨some 5, .mov (.t 50), none⟩])
 (.seq (.seq (.reg [⟨some 51, .faddr 17 (.t 1), none⟩, ⟨some 52, .faddr 0 (.t 51), none⟩, ⟨some 53, .load false 1 (.t 52), none⟩, ⟨some 54, .faddr 17 (.t 1), none⟩, ⟨some 55, .faddr 1 (.t 54), none⟩, ⟨some 56, .load false 1 (.t 55), none⟩, ⟨some 57, .bslice false 23 1 2 [(.sl [] 0 .nil)] [(0, (.t 53)), (1, (.t 56))], none⟩, ⟨some 58, .len .slice (.t 57), none⟩, ⟨some 59, .mov (.k (.i .i64 0)), none⟩])
 (.blk 0 (.loop L125_1)))
 (.seq (.seq (.reg [⟨some 70, .mov (.t 5), none⟩, ⟨some 71, .len .slice (.t 70), none⟩, ⟨some 72, .bin .gtr (.t 71) (.k (.i .i64 8192)), none⟩])
 (.cond (.t 72)
 (.seq (.reg [⟨some 2, .mov (.k (.sl [] 0 .nil)), none⟩, ⟨some 3, .mov (.k (.i .i64 4)), none⟩])
 .ret)
 .skip))
 (.seq (.reg [⟨some 73, .mov (.t 5), none⟩, ⟨some 2, .mov (.t 73), none⟩, ⟨some 3, .mov (.k (.i .i64 0)), none⟩])
 .ret))))))))))
/-- tidemark/machine.Put -/
def af125 : AFunc := { n := 74, depth := 7, kl := [(1, [1, 15, 17, 19, 21, 23, 25, 27, 32, 35, 39, 43, 51, 52, 54, 55])], res := [.tmp 2, .tmp 3], body := B125 }

def L126_2 : AC := (.seq (.reg [⟨some 105, .bin .lss (.t 104) (.t 103), none⟩])
 (.seq (.cond (.t 105)
 .skip
 (.exit 2))
 (.seq (.blk 3 (.seq (.reg [⟨some 106, .iaddr (.slice 3) (.t 102) (.t 104), none⟩, ⟨some 107, .load true 3 (.t 106), none⟩, ⟨some 15, .lalloc [(.i .i64 0), (.i .i64 0), (.i .i64 0)] [15, 108], none⟩, ⟨none, .store 3 (.t 15) (.t 107), none⟩])
 (.seq (.reg [⟨some 108, .faddr 2 (.t 15), none⟩, ⟨some 109, .load false 1 (.t 108), none⟩, ⟨some 110, .mov (.t 12), none⟩, ⟨some 111, .bin .leq (.t 109) (.t 110), none⟩])
 (.cond (.t 111)
     (.regd [(⟨some 112, .mov (.t 0), none⟩, []),
       (⟨some 113, .mov (.t 0), none⟩, [0]),
       (⟨some 114, .nilck (.t 113), none⟩, [0]),
       (⟨some 115, .faddr 43 (.t 114), none⟩, [0]),
       (⟨some 116, .faddr 6 (.t 115), none⟩, [0]),
       (⟨some 117, .load false 1 (.t 116), none⟩, [0]),
       (⟨some 118, .load true 3 (.t 15), none⟩, [0, 1, 2, 3, 4, 5]),
       (⟨some 119, .bslice false 79 3 1 [(.i .i64 0), (.i .i64 0), (.i .i64 0)] [(0, (.t 118))], none⟩, [0, 1, 2, 3, 4, 5]),
       (⟨some 120, .app 79 3 (.t 117) (.t 119), none⟩, [0]),
       (⟨some 121, .nilck (.t 112), none⟩, []),
       (⟨some 122, .faddr 43 (.t 121), none⟩, []),
       (⟨some 123, .faddr 6 (.t 122), none⟩, []),
       (⟨none, .store 1 (.t 123) (.t 120), none⟩, [])])
 (.reg [⟨some 124, .mov (.t 13), none⟩, ⟨some 125, .load true 3 (.t 15), none⟩, ⟨some 126, .bslice false 79 3 1 [(.i .i64 0), (.i .i64 0), (.i .i64 0)] [(0, (.t 125))], none⟩, ⟨some 127, .app 79 3 (.t 124) (.t 126), none⟩, ⟨some 13, .mov (.t 127), none⟩])))))
 (.reg [⟨some 128, .bin .add (.t 104) (.k (.i .i64 1)), none⟩, ⟨some 104, .mov (.t 128), none⟩]))))
def L126_1 : AC := (.seq (.reg [⟨some 30, .bin .lss (.t 29) (.k (.i .i64 5)), none⟩])
 (.seq (.cond (.t 30)
 .skip
 (.exit 0))
 (.seq (.blk 1 (.seq (.reg [⟨some 31, .mov (.t 29), none⟩, ⟨some 32, .idx (.arr 5 4 true) (.t 28) (.t 29), none⟩, ⟨some 8, .lalloc [(.i .i64 0), (.i .i64 0), (.i .i64 0), (.i .i64 0)] [8, 35, 37], none⟩, ⟨some 7, .mov (.t 31), none⟩, ⟨none, .store 4 (.t 8) (.t 32), none⟩])
    (.regd [(⟨some 33, .mov (.t 7), none⟩, []),
      (⟨some 34, .mov (.t 7), none⟩, [0]),
      (⟨some 35, .faddr 1 (.t 8), none⟩, [0, 1]),
      (⟨some 36, .load false 1 (.t 35), none⟩, [0, 1]),
      (⟨some 37, .faddr 2 (.t 8), none⟩, [0, 1, 2, 3]),
      (⟨some 38, .load false 1 (.t 37), none⟩, [0, 1, 2, 3]),
      (⟨some 39, .iaddr (.arr 5 1) (.t 5) (.t 33), none⟩, [1, 4, 5]),
      (⟨none, .store 1 (.t 39) (.t 36), none⟩, [1, 4, 5]),
      (⟨some 40, .iaddr (.arr 5 1) (.t 6) (.t 34), none⟩, []),
      (⟨none, .store 1 (.t 40) (.t 38), none⟩, [])])))
 (.reg [⟨some 41, .bin .add (.t 29) (.k (.i .i64 1)), none⟩, ⟨some 29, .mov (.t 41), none⟩]))))
def B126 : AC := (.seq (.reg [⟨some 16, .mov (.t 0), none⟩, ⟨some 17, .call false 118 [(.t 16)], none⟩, ⟨some 2, .lalloc [(.sl [] 0 .nil), (.sl [] 0 .nil)] [2], none⟩, ⟨none, .store 2 (.t 2) (.t 17), none⟩])
 (.seq (.reg [⟨some 19, .mov (.t 0), none⟩, ⟨some 20, .call false 122 [(.t 19)], none⟩, ⟨some 21, .call false 95 [(.t 20)], none⟩, ⟨some 18, .mov (.t 21), none⟩, ⟨some 22, .ext (.t 18) 0, none⟩, ⟨some 23, .ext (.t 18) 1, none⟩, ⟨some 3, .mov (.t 22), none⟩, ⟨some 4, .mov (.t 23), none⟩])
 (.seq (.reg [⟨some 5, .lalloc [(.i .i64 0), (.i .i64 0), (.i .i64 0), (.i .i64 0), (.i .i64 0)] [5, 39, 58], none⟩, ⟨some 6, .lalloc [(.i .i64 0), (.i .i64 0), (.i .i64 0), (.i .i64 0), (.i .i64 0)] [6, 40, 59], none⟩])
 (.seq (.seq (.reg [⟨some 24, .mov (.t 0), none⟩, ⟨some 25, .nilck (.t 24), none⟩, ⟨some 26, .faddr 0 (.t 25), none⟩, ⟨some 27, .faddr 13 (.t 26), none⟩, ⟨some 28, .load true 20 (.t 27), none⟩, ⟨some 29, .mov (.k (.i .i64 0)), none⟩])
 (.blk 0 (.loop L126_1)))
 (.seq (.regd [(⟨some 42, .mov (.t 0), none⟩, []),
     (⟨some 43, .nilck (.t 42), none⟩, []),
     (⟨some 44, .faddr 0 (.t 43), none⟩, []),
     (⟨some 45, .faddr 0 (.t 44), none⟩, []),
     (⟨some 46, .load false 1 (.t 45), none⟩, []),
     (⟨some 47, .mov (.t 0), none⟩, [0, 1, 2, 3, 4]),
     (⟨some 48, .nilck (.t 47), none⟩, [0, 1, 2, 3, 4]),
     (⟨some 49, .faddr 0 (.t 48), none⟩, [0, 1, 2, 3, 4]),
     (⟨some 50, .faddr 0 (.t 49), none⟩, [0, 1, 2, 3, 4]),
     (⟨some 51, .load false 1 (.t 50), none⟩, [0, 1, 2, 3, 4]),
     (⟨some 52, .mov (.t 3), none⟩, [0, 1, 2, 3, 4, 5, 6, 7, 8, 9]),
     (⟨some 53, .mov (.t 0), none⟩, [0, 1, 2, 3, 4, 5, 6, 7, 8, 9, 10]),
     (⟨some 54, .nilck (.t 53), none⟩, [0, 1, 2, 3, 4, 5, 6, 7, 8, 9, 10]),
     (⟨some 55, .faddr 0 (.t 54), none⟩, [0, 1, 2, 3, 4, 5, 6, 7, 8, 9, 10]),
     (⟨some 56, .faddr 36 (.t 55), none⟩, [0, 1, 2, 3, 4, 5, 6, 7, 8, 9, 10]),
     (⟨some 57, .load false 1 (.t 56), none⟩, [0, 1, 2, 3, 4, 5, 6, 7, 8, 9, 10]),
     (⟨some 58, .iaddr (.arr 5 1) (.t 5) (.t 46), none⟩, [5, 6, 7, 8, 9, 11, 12, 13, 14, 15]),
     (⟨none, .store 1 (.t 58) (.t 52), none⟩, [5, 6, 7, 8, 9, 11, 12, 13, 14, 15]),
     (⟨some 59, .iaddr (.arr 5 1) (.t 6) (.t 51), none⟩, []),
     (⟨none, .store 1 (.t 59) (.t 57), none⟩, [])])
 (.seq (.reg [⟨some 60, .load true 2 (.t 2), none⟩, ⟨some 61, .load true 5 (.t 5), none⟩, ⟨some 62, .call true 204 [(.t 60), (.t 61)], none⟩, ⟨some 9, .mov (.t 62), none⟩])
 (.seq (.seq (.reg [⟨some 64, .mov (.t 0), none⟩, ⟨some 65, .call false 122 [(.t 64)], none⟩, ⟨some 66, .mov (.t 9), none⟩, ⟨some 67, .call false 127 [(.t 65), (.t 66)], none⟩, ⟨some 63, .mov (.t 67), none⟩, ⟨some 68, .ext (.t 63) 0, none⟩, ⟨some 69, .ext (.t 63) 1, none⟩, ⟨some 10, .mov (.t 68), none⟩, ⟨some 11, .mov (.t 69), none⟩])
 (.seq (.reg [⟨some 70, .mov (.t 11), none⟩, ⟨some 71, .mov (.t 70), none⟩, ⟨some 72, .mov (.t 9), some (71, true)⟩,
 ⟨some 73, .mov (.t 0), some (71, true)⟩,
 ⟨some 74, .nilck (.t 73), some (71, true)⟩,
 ⟨some 75, .faddr 0 (.t 74), some (71, true)⟩,
 ⟨some 76, .faddr 5 (.t 75), some (71, true)⟩,
 ⟨some 77, .load false 1 (.t 76), some (71, true)⟩,
 ⟨some 78, .bin .gtr (.t 72) (.t 77), some (71, true)⟩,
 ⟨some 79, .pick (.t 71) (.t 78) (.k (.b false)), none⟩, ⟨some 80, .mov (.t 79), none⟩, ⟨some 81, .mov (.t 10), some (80, true)⟩,
 ⟨some 82, .mov (.t 0), some (80, true)⟩,
 ⟨some 83, .nilck (.t 82), some (80, true)⟩,
 ⟨some 84, .faddr 0 (.t 83), some (80, true)⟩,
 ⟨some 85, .faddr 1 (.t 84), some (80, true)⟩,
 ⟨some 86, .faddr 0 (.t 85), some (80, true)⟩,
 ⟨some 87, .load false 1 (.t 86), some (80, true)⟩,
 ⟨some 88, .bin .eql (.t 81) (.t 87), some (80, true)⟩,
 ⟨some 89, .pick (.t 80) (.t 88) (.k (.b false)), none⟩])
 (.cond (.t 89)
 (.reg [⟨some 90, .mov (.t 0), none⟩, ⟨some 91, .mov (.t 9), none⟩, ⟨some 92, .nilck (.t 90), none⟩, ⟨some 93, .faddr 0 (.t 92), none⟩, ⟨some 94, .faddr 5 (.t 93), none⟩, ⟨none, .store 1 (.t 94) (.t 91), none⟩])
 .skip)))
 (.seq (.reg [⟨some 95, .load true 2 (.t 2), none⟩, ⟨some 96, .load true 5 (.t 6), none⟩, ⟨some 97, .call true 204 [(.t 95), (.t 96)], none⟩, ⟨some 12, .mov (.t 97), none⟩])
 (.seq (.reg [⟨some 13, .mov (.k (.sl [] 0 .nil)), none⟩])
 (.seq (.seq (.reg [⟨some 98, .mov (.t 0), none⟩, ⟨some 99, .nilck (.t 98), none⟩, ⟨some 100, .faddr 0 (.t 99), none⟩, ⟨some 101, .faddr 37 (.t 100), none⟩, ⟨some 102, .load false 1 (.t 101), none⟩, ⟨some 103, .len .slice (.t 102), none⟩, ⟨some 104, .mov (.k (.i .i64 0)), none⟩])
 (.blk 2 (.loop L126_2)))
 (.reg [⟨some 129, .mov (.t 0), none⟩, ⟨some 130, .mov (.t 13), none⟩, ⟨some 131, .nilck (.t 129), none⟩, ⟨some 132, .faddr 0 (.t 131), none⟩, ⟨some 133, .faddr 37 (.t 132), none⟩, ⟨none, .store 1 (.t 133) (.t 130), none⟩])))))))))))
/-- (*tidemark/raft.work).agree -/
def af126 : AFunc := { n := 134, depth := 8, kl := [(2, [2]), (5, [5, 39, 58]), (6, [6, 40, 59]), (8, [8, 35, 37]), (15, [15, 108])], res := [], body := B126 }

def B127 : AC := (.seq (.reg [⟨some 2, .lbox (.t 0) [2], none⟩, ⟨some 4, .mov (.k (.i .i64 0)), none⟩, ⟨some 5, .mov (.k (.b false)), none⟩])
 (.seq (.seq (.reg [⟨some 6, .load true 3 (.t 2), none⟩, ⟨some 7, .call false 99 [(.t 6)], none⟩, ⟨some 8, .bin .neq (.t 7) (.k (.i .i64 0)), none⟩])
 (.cond (.t 8)
 (.seq (.reg [⟨some 4, .mov (.k (.i .i64 0)), none⟩, ⟨some 5, .mov (.k (.b false)), none⟩])
 .ret)
 .skip))
 (.seq (.reg [⟨some 9, .load true 3 (.t 2), none⟩, ⟨some 10, .mov (.t 1), none⟩, ⟨some 11, .call false 205 [(.t 9), (.t 10)], none⟩, ⟨some 12, .ext (.t 11) 0, none⟩, ⟨some 13, .ext (.t 11) 1, none⟩, ⟨some 4, .mov (.t 12), none⟩, ⟨some 5, .mov (.t 13), none⟩])
 .ret)))
/-- tidemark/rows.Term -/
def af127 : AFunc := { n := 14, depth := 4, kl := [(2, [2])], res := [.tmp 4, .tmp 5], body := B127 }

def B130 : AC := (.seq (.reg [⟨some 2, .mov (.k .nilp), none⟩])
 (.seq (.reg [⟨some 3, .bslice false 5 1 0 [(.i .u8 0)] [], none⟩, ⟨some 4, .mov (.t 0), none⟩, ⟨some 5, .app 5 1 (.t 3) (.t 4), none⟩, ⟨some 6, .build [(.sl [] 0 .nil), (.i .i64 0), (.i .i64 0), (.b false)] [(0, 1, (.t 5)), (3, 1, (.k (.b true)))], none⟩, ⟨some 7, .box 313 (.t 6), none⟩, ⟨some 2, .mov (.t 7), none⟩])
 .ret))
/-- tidemark/wire.Read -/
def af130 : AFunc := { n := 8, depth := 4, kl := [], res := [.tmp 2], body := B130 }

def L131_1 : AC := (.seq (.reg [⟨some 39, .bin .lss (.t 38) (.t 37), none⟩])
 (.seq (.cond (.t 39)
 .skip
 (.exit 0))
 (.seq (.blk 1 (.seq (.reg [⟨some 40, .iaddr (.slice 1) (.t 36) (.t 38), none⟩, ⟨some 41, .load false 1 (.t 40), none⟩, ⟨some 8, .mov (.t 41), none⟩])
 (.reg [⟨some 42, .mov (.t 5), none⟩, ⟨some 43, .bin .shl (.t 42) (.k (.i .u64 8)), none⟩, ⟨some 44, .mov (.t 8), none⟩, ⟨some 45, .conv (.int .u64) (.t 44), none⟩, ⟨some 46, .bin .or (.t 43) (.t 45), none⟩, ⟨some 5, .mov (.t 46), none⟩])))
 (.reg [⟨some 47, .bin .add (.t 38) (.k (.i .i64 1)), none⟩, ⟨some 38, .mov (.t 47), none⟩]))))
def B131 : AC := (.seq (.reg [⟨some 2, .mov (.k (.i .i64 0)), none⟩])
 (.seq (.seq (.reg [⟨some 9, .mov (.t 0), none⟩, ⟨some 10, .call false 207 [(.t 9)], none⟩])
 (.cond (.t 10)
 (.seq (.reg [⟨some 2, .mov (.k (.i .i64 0)), none⟩])
 .ret)
 .skip))
 (.seq (.reg [⟨some 11, .mov (.t 0), none⟩, ⟨some 12, .nilck (.t 11), none⟩, ⟨some 13, .faddr 1 (.t 12), none⟩, ⟨some 14, .load false 1 (.t 13), none⟩, ⟨some 3, .mov (.t 14), none⟩])
 (.seq (.reg [⟨some 15, .mov (.t 0), none⟩, ⟨some 16, .call false 208 [(.t 15), (.k (.i .i64 1))], none⟩, ⟨some 4, .mov (.t 16), none⟩])
 (.seq (.seq (.reg [⟨some 17, .mov (.t 4), none⟩, ⟨some 18, .len .slice (.t 17), none⟩, ⟨some 19, .bin .eql (.t 18) (.k (.i .i64 0)), none⟩])
 (.cond (.t 19)
 (.seq (.reg [⟨some 2, .mov (.k (.i .i64 0)), none⟩])
 .ret)
 .skip))
 (.seq (.seq (.reg [⟨some 20, .mov (.t 4), none⟩, ⟨some 21, .iaddr (.slice 1) (.t 20) (.k (.i .i64 0)), none⟩, ⟨some 22, .load false 1 (.t 21), none⟩, ⟨some 23, .bin .gtr (.t 22) (.k (.i .u8 8)), none⟩])
 (.cond (.t 23)
 (.seq (.reg [⟨some 24, .mov (.t 0), none⟩, ⟨some 25, .mov (.t 3), none⟩, ⟨some 26, .nilck (.t 24), none⟩, ⟨some 27, .faddr 1 (.t 26), none⟩, ⟨none, .store 1 (.t 27) (.t 25), none⟩])
 (.seq (.reg [⟨some 28, .mov (.t 0), none⟩, ⟨some 29, .call false 209 [(.t 28), (.k (.i .i64 11))], none⟩])
 (.seq (.reg [⟨some 2, .mov (.k (.i .i64 0)), none⟩])
 .ret)))
 .skip))
 (.seq (.reg [⟨some 5, .mov (.k (.i .u64 0)), none⟩])
 (.seq (.reg [⟨some 30, .mov (.t 0), none⟩, ⟨some 31, .mov (.t 4), none⟩, ⟨some 32, .iaddr (.slice 1) (.t 31) (.k (.i .i64 0)), none⟩, ⟨some 33, .load false 1 (.t 32), none⟩, ⟨some 34, .conv (.int .i64) (.t 33), none⟩, ⟨some 35, .call false 208 [(.t 30), (.t 34)], none⟩, ⟨some 6, .mov (.t 35), none⟩])
 (.seq (.seq (.reg [⟨some 36, .mov (.t 6), none⟩, ⟨some 37, .len .slice (.t 36), none⟩, ⟨some 38, .mov (.k (.i .i64 0)), none⟩])
 (.blk 0 (.loop L131_1)))
 (.seq (.blk 2 (.seq (.reg [⟨some 49, .mov (.t 0), none⟩, ⟨some 50, .nilck (.t 49), none⟩, ⟨some 51, .faddr 2 (.t 50), none⟩, ⟨some 52, .load false 1 (.t 51), none⟩, ⟨some 53, .bin .neq (.t 52) (.k (.i .i64 0)), none⟩, ⟨some 48, .mov (.t 53), none⟩])
 (.cond (.t 48)
 .skip
 (.seq (.reg [⟨some 55, .mov (.t 6), none⟩, ⟨some 56, .len .slice (.t 55), none⟩, ⟨some 57, .bin .gtr (.t 56) (.k (.i .i64 0)), none⟩, ⟨some 58, .mov (.t 57), none⟩, ⟨some 59, .mov (.t 6), some (58, true)⟩,
 ⟨some 60, .iaddr (.slice 1) (.t 59) (.k (.i .i64 0)), some (58, true)⟩,
 ⟨some 61, .load false 1 (.t 60), some (58, true)⟩,
 ⟨some 62, .bin .eql (.t 61) (.k (.i .u8 0)), some (58, true)⟩,
 ⟨some 63, .pick (.t 58) (.t 62) (.k (.b false)), none⟩, ⟨some 54, .mov (.t 63), none⟩])
 (.cond (.t 54)
 (.reg [⟨some 64, .mov (.t 0), none⟩, ⟨some 65, .call false 209 [(.t 64), (.k (.i .i64 11))], none⟩])
 (.seq (.reg [⟨some 67, .mov (.t 5), none⟩, ⟨some 68, .bin .gtr (.t 67) (.k (.i .u64 9223372036854775807)), none⟩, ⟨some 66, .mov (.t 68), none⟩])
 (.cond (.t 66)
 (.reg [⟨some 69, .mov (.t 0), none⟩, ⟨some 70, .call false 209 [(.t 69), (.k (.i .i64 5))], none⟩])
 .skip)))))))
 (.seq (.seq (.reg [⟨some 71, .mov (.t 0), none⟩, ⟨some 72, .nilck (.t 71), none⟩, ⟨some 73, .faddr 2 (.t 72), none⟩, ⟨some 74, .load false 1 (.t 73), none⟩, ⟨some 75, .bin .neq (.t 74) (.k (.i .i64 0)), none⟩])
 (.cond (.t 75)
 (.seq (.reg [⟨some 76, .mov (.t 0), none⟩, ⟨some 77, .mov (.t 3), none⟩, ⟨some 78, .nilck (.t 76), none⟩, ⟨some 79, .faddr 1 (.t 78), none⟩, ⟨none, .store 1 (.t 79) (.t 77), none⟩])
 (.seq (.reg [⟨some 2, .mov (.k (.i .i64 0)), none⟩])
 .ret))
 .skip))
 (.seq (.reg [⟨some 80, .mov (.t 5), none⟩, ⟨some 81, .conv (.int .i64) (.t 80), none⟩, ⟨some 2, .mov (.t 81), none⟩])
 .ret))))))))))))
/-- (*tidemark/wire.Reader).Number -/
def af131 : AFunc := { n := 82, depth := 7, kl := [], res := [.tmp 2], body := B131 }

def B132 : AC := (.seq (.reg [⟨some 2, .mov (.k (.i .i64 0)), none⟩])
 (.seq (.seq (.reg [⟨some 3, .mov (.t 0), none⟩, ⟨some 4, .call false 207 [(.t 3)], none⟩])
 (.cond (.t 4)
 (.seq (.reg [⟨some 2, .mov (.k (.i .i64 6)), none⟩])
 .ret)
 .skip))
 (.seq (.reg [⟨some 5, .mov (.t 0), none⟩, ⟨some 6, .nilck (.t 5), none⟩, ⟨some 7, .faddr 2 (.t 6), none⟩, ⟨some 8, .load false 1 (.t 7), none⟩, ⟨some 2, .mov (.t 8), none⟩])
 .ret)))
/-- (*tidemark/wire.Reader).Err -/
def af132 : AFunc := { n := 9, depth := 4, kl := [], res := [.tmp 2], body := B132 }

def B133 : AC := (.seq (.reg [⟨some 6, .mov (.k (.i .i64 0)), none⟩])
 (.seq (.seq (.reg [⟨some 9, .mov (.t 0), none⟩, ⟨some 10, .call false 207 [(.t 9)], none⟩])
 (.cond (.t 10)
 (.seq (.reg [⟨some 6, .mov (.k (.i .i64 0)), none⟩])
 .ret)
 .skip))
 (.seq (.reg [⟨some 11, .mov (.t 0), none⟩, ⟨some 12, .nilck (.t 11), none⟩, ⟨some 13, .faddr 1 (.t 12), none⟩, ⟨some 14, .load false 1 (.t 13), none⟩, ⟨some 7, .mov (.t 14), none⟩])
 (.seq (.reg [⟨some 15, .mov (.t 0), none⟩, ⟨some 16, .call false 131 [(.t 15)], none⟩, ⟨some 8, .mov (.t 16), none⟩])
 (.seq (.seq (.reg [⟨some 17, .mov (.t 0), none⟩, ⟨some 18, .nilck (.t 17), none⟩, ⟨some 19, .faddr 2 (.t 18), none⟩, ⟨some 20, .load false 1 (.t 19), none⟩, ⟨some 21, .bin .eql (.t 20) (.k (.i .i64 0)), none⟩, ⟨some 22, .mov (.t 21), none⟩, ⟨some 23, .mov (.t 8), some (22, true)⟩,
 ⟨some 24, .mov (.t 1), some (22, true)⟩,
 ⟨some 25, .bin .lss (.t 23) (.t 24), some (22, true)⟩,
 ⟨some 26, .mov (.t 25), some (22, true)⟩,
 ⟨some 27, .mov (.t 8), some (26, false)⟩,
 ⟨some 28, .mov (.t 2), some (26, false)⟩,
 ⟨some 29, .bin .gtr (.t 27) (.t 28), some (26, false)⟩,
 ⟨some 30, .pick (.t 26) (.k (.b true)) (.t 29), some (22, true)⟩,
 ⟨some 31, .pick (.t 22) (.t 30) (.k (.b false)), none⟩])
 (.cond (.t 31)
 (.seq (.reg [⟨some 32, .mov (.t 0), none⟩, ⟨some 33, .mov (.t 7), none⟩, ⟨some 34, .nilck (.t 32), none⟩, ⟨some 35, .faddr 1 (.t 34), none⟩, ⟨none, .store 1 (.t 35) (.t 33), none⟩])
 (.reg [⟨some 36, .mov (.t 0), none⟩, ⟨some 37, .call false 209 [(.t 36), (.k (.i .i64 5))], none⟩]))
 .skip))
 (.seq (.seq (.reg [⟨some 38, .mov (.t 0), none⟩, ⟨some 39, .nilck (.t 38), none⟩, ⟨some 40, .faddr 2 (.t 39), none⟩, ⟨some 41, .load false 1 (.t 40), none⟩, ⟨some 42, .bin .neq (.t 41) (.k (.i .i64 0)), none⟩])
 (.cond (.t 42)
 (.seq (.reg [⟨some 6, .mov (.k (.i .i64 0)), none⟩])
 .ret)
 .skip))
 (.seq (.reg [⟨some 43, .mov (.t 8), none⟩, ⟨some 6, .mov (.t 43), none⟩])
 .ret)))))))
/-- (*tidemark/wire.Reader).Within -/
def af133 : AFunc := { n := 44, depth := 6, kl := [], res := [.tmp 6], body := B133 }

def B134 : AC := (.seq (.reg [⟨some 4, .mov (.k (.s [])), none⟩])
 (.seq (.seq (.reg [⟨some 8, .mov (.t 0), none⟩, ⟨some 9, .call false 207 [(.t 8)], none⟩])
 (.cond (.t 9)
 (.seq (.reg [⟨some 4, .mov (.k (.s [])), none⟩])
 .ret)
 .skip))
 (.seq (.reg [⟨some 10, .mov (.t 0), none⟩, ⟨some 11, .nilck (.t 10), none⟩, ⟨some 12, .faddr 1 (.t 11), none⟩, ⟨some 13, .load false 1 (.t 12), none⟩, ⟨some 5, .mov (.t 13), none⟩])
 (.seq (.reg [⟨some 14, .mov (.t 0), none⟩, ⟨some 15, .call false 131 [(.t 14)], none⟩, ⟨some 6, .mov (.t 15), none⟩])
 (.seq (.seq (.reg [⟨some 16, .mov (.t 0), none⟩, ⟨some 17, .nilck (.t 16), none⟩, ⟨some 18, .faddr 2 (.t 17), none⟩, ⟨some 19, .load false 1 (.t 18), none⟩, ⟨some 20, .bin .eql (.t 19) (.k (.i .i64 0)), none⟩, ⟨some 21, .mov (.t 20), none⟩, ⟨some 22, .mov (.t 6), some (21, true)⟩,
 ⟨some 23, .mov (.t 1), some (21, true)⟩,
 ⟨some 24, .minmax true (.t 23) (.k (.i .i64 0)), some (21, true)⟩,
 ⟨some 25, .bin .gtr (.t 22) (.t 24), some (21, true)⟩,
 ⟨some 26, .pick (.t 21) (.t 25) (.k (.b false)), none⟩])
 (.cond (.t 26)
 (.reg [⟨some 27, .mov (.t 0), none⟩, ⟨some 28, .call false 209 [(.t 27), (.k (.i .i64 4))], none⟩])
 .skip))
 (.seq (.reg [⟨some 29, .mov (.t 0), none⟩, ⟨some 30, .mov (.t 6), none⟩, ⟨some 31, .call false 208 [(.t 29), (.t 30)], none⟩, ⟨some 32, .conv .toStr (.t 31), none⟩, ⟨some 7, .mov (.t 32), none⟩])
 (.seq (.seq (.reg [⟨some 33, .mov (.t 0), none⟩, ⟨some 34, .nilck (.t 33), none⟩, ⟨some 35, .faddr 2 (.t 34), none⟩, ⟨some 36, .load false 1 (.t 35), none⟩, ⟨some 37, .bin .neq (.t 36) (.k (.i .i64 0)), none⟩])
 (.cond (.t 37)
 (.seq (.reg [⟨some 38, .mov (.t 0), none⟩, ⟨some 39, .mov (.t 5), none⟩, ⟨some 40, .nilck (.t 38), none⟩, ⟨some 41, .faddr 1 (.t 40), none⟩, ⟨none, .store 1 (.t 41) (.t 39), none⟩])
 (.seq (.reg [⟨some 4, .mov (.k (.s [])), none⟩])
 .ret))
 .skip))
 (.seq (.reg [⟨some 42, .mov (.t 7), none⟩, ⟨some 4, .mov (.t 42), none⟩])
 .ret))))))))
/-- (*tidemark/wire.Reader).Text -/
def af134 : AFunc := { n := 43, depth := 6, kl := [], res := [.tmp 4], body := B134 }

def B136 : AC := (.seq (.reg [⟨some 2, .mov (.k (.i .i64 0)), none⟩])
 (.seq (.blk 0 (.seq (.reg [⟨some 4, .mov (.t 0), none⟩, ⟨some 5, .call false 132 [(.t 4)], none⟩, ⟨some 6, .bin .neq (.t 5) (.k (.i .i64 0)), none⟩, ⟨some 3, .mov (.t 6), none⟩])
 (.cond (.t 3)
 (.seq (.reg [⟨some 7, .mov (.t 0), none⟩, ⟨some 8, .call false 132 [(.t 7)], none⟩, ⟨some 2, .mov (.t 8), none⟩])
 .ret)
 (.seq (.reg [⟨some 10, .mov (.t 0), none⟩, ⟨some 11, .call false 217 [(.t 10)], none⟩, ⟨some 12, .bin .gtr (.t 11) (.k (.i .i64 0)), none⟩, ⟨some 9, .mov (.t 12), none⟩])
 (.cond (.t 9)
 (.seq (.reg [⟨some 2, .mov (.k (.i .i64 3)), none⟩])
 .ret)
 .skip)))))
 (.seq (.reg [⟨some 2, .mov (.k (.i .i64 0)), none⟩])
 .ret)))
/-- (*tidemark/wire.Reader).End -/
def af136 : AFunc := { n := 13, depth := 4, kl := [], res := [.tmp 2], body := B136 }

def L137_1 : AC := (.seq (.seq (.reg [⟨some 11, .mov (.t 7), none⟩, ⟨some 12, .mov (.t 6), none⟩, ⟨some 13, .bin .lss (.t 11) (.t 12), none⟩, ⟨some 14, .mov (.t 13), none⟩, ⟨some 15, .mov (.t 0), some (14, true)⟩,
 ⟨some 16, .call false 132 [(.t 15)], some (14, true)⟩,
 ⟨some 17, .bin .eql (.t 16) (.k (.i .i64 0)), some (14, true)⟩,
 ⟨some 18, .pick (.t 14) (.t 17) (.k (.b false)), none⟩])
 (.cond (.t 18)
 .skip
 (.exit 0)))
 (.seq (.blk 1 (.reg [⟨some 21, .mov (.t 5), none⟩, ⟨some 22, .mov (.t 0), none⟩, ⟨some 23, .call false 134 [(.t 22), (.k (.i .i64 96))], none⟩, ⟨some 24, .mov (.t 0), none⟩, ⟨some 25, .call false 218 [(.t 24)], none⟩, ⟨some 26, .mov (.t 0), none⟩, ⟨some 27, .call false 134 [(.t 26), (.k (.i .i64 192))], none⟩, ⟨some 28, .build [(.s []), (.b false), (.s [])] [(0, 1, (.t 23)), (1, 1, (.t 25)), (2, 1, (.t 27))], none⟩, ⟨some 29, .bslice false 176 3 1 [(.s []), (.b false), (.s [])] [(0, (.t 28))], none⟩, ⟨some 30, .app 176 3 (.t 21) (.t 29), none⟩, ⟨some 5, .mov (.t 30), none⟩]))
 (.reg [⟨some 19, .mov (.t 7), none⟩, ⟨some 20, .bin .add (.t 19) (.k (.i .i64 1)), none⟩, ⟨some 7, .mov (.t 20), none⟩])))
def B137 : AC := (.seq (.reg [⟨some 4, .mov (.k (.sl [] 0 .nil)), none⟩])
 (.seq (.reg [⟨some 5, .mov (.k (.sl [] 0 .nil)), none⟩])
 (.seq (.reg [⟨some 8, .mov (.t 0), none⟩, ⟨some 9, .mov (.t 1), none⟩, ⟨some 10, .call false 133 [(.t 8), (.k (.i .i64 0)), (.t 9)], none⟩, ⟨some 6, .mov (.t 10), none⟩])
 (.seq (.seq (.reg [⟨some 7, .mov (.k (.i .i64 0)), none⟩])
 (.blk 0 (.loop L137_1)))
 (.seq (.reg [⟨some 31, .mov (.t 5), none⟩, ⟨some 4, .mov (.t 31), none⟩])
 .ret)))))
/-- tidemark/kv.Get -/
def af137 : AFunc := { n := 32, depth := 6, kl := [], res := [.tmp 4], body := B137 }

def B138 : AC := (.seq (.reg [⟨some 2, .lalloc [(.s []), (.i .i64 0), (.s []), (.s [])] [2], none⟩])
 (.seq (.reg [⟨some 3, .mov (.t 0), none⟩, ⟨some 4, .call false 131 [(.t 3)], none⟩, ⟨some 5, .mov (.t 0), none⟩, ⟨some 6, .call false 134 [(.t 5), (.k (.i .i64 32))], none⟩, ⟨some 7, .mov (.t 0), none⟩, ⟨some 8, .call false 134 [(.t 7), (.k (.i .i64 32))], none⟩, ⟨some 9, .mov (.t 0), none⟩, ⟨some 10, .call false 134 [(.t 9), (.k (.i .i64 32))], none⟩, ⟨some 11, .build [(.s []), (.i .i64 0), (.s []), (.s [])] [(1, 1, (.t 4)), (0, 1, (.t 6)), (2, 1, (.t 8)), (3, 1, (.t 10))], none⟩, ⟨none, .store 4 (.t 2) (.t 11), none⟩])
 .ret))
/-- tidemark/views.Get -/
def af138 : AFunc := { n := 12, depth := 4, kl := [(2, [2])], res := [.cell 2 true 4], body := B138 }


end Go.Proofs.YtopbdgdfnmlldaaGreatDoor
