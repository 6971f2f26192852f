/- The abstract interpreter's code of the functions that the laws of this seat reach. Printed by a program. -/
import Derived.Test.YtpcjhfchpelonaaGreatDoorAi08
namespace Go.Proofs.YtpcjhfchpelonaaGreatDoor
open Go Ai

def B5 : AC := (.seq (.reg [⟨some 1, .lbox (.t 0) [1], none⟩, ⟨some 2, .mov (.k (.b false)), none⟩])
 (.seq (.seq (.reg [⟨some 11, .load true 10 (.t 1), none⟩, ⟨some 12, .call true 7 [(.t 11)], none⟩, ⟨some 13, .un .not (.t 12), none⟩])
 (.cond (.t 13)
 (.seq (.reg [⟨some 14, .call true 10 [], none⟩, ⟨some 2, .mov (.t 14), none⟩])
 .ret)
 .skip))
 (.seq (.reg [⟨some 16, .load true 10 (.t 1), none⟩, ⟨some 17, .call false 17 [(.t 16), (.k .nili)], none⟩, ⟨some 15, .mov (.t 17), none⟩, ⟨some 18, .ext (.t 15) 0, none⟩, ⟨some 19, .ext (.t 15) 1, none⟩, ⟨some 20, .ext (.t 15) 2, none⟩, ⟨some 4, .lalloc [(.i .i64 0), (.s []), (.s [])] [4], none⟩, ⟨some 3, .mov (.t 18), none⟩, ⟨none, .store 3 (.t 4) (.t 19), none⟩, ⟨some 5, .mov (.t 20), none⟩])
 (.seq (.reg [⟨some 6, .mov (.k .nilp), none⟩])
 (.seq (.reg [⟨some 22, .load true 10 (.t 1), none⟩, ⟨some 23, .mov (.t 6), none⟩, ⟨some 24, .mkif 47 (.t 23), none⟩, ⟨some 25, .call false 17 [(.t 22), (.t 24)], none⟩, ⟨some 21, .mov (.t 25), none⟩, ⟨some 26, .ext (.t 21) 0, none⟩, ⟨some 27, .ext (.t 21) 1, none⟩, ⟨some 28, .ext (.t 21) 2, none⟩, ⟨some 8, .lalloc [(.i .i64 0), (.s []), (.s [])] [8], none⟩, ⟨some 7, .mov (.t 26), none⟩, ⟨none, .store 3 (.t 8) (.t 27), none⟩, ⟨some 9, .mov (.t 28), none⟩])
 (.seq (.seq (.reg [⟨some 29, .load true 10 (.t 1), none⟩, ⟨some 30, .call true 9 [(.t 29)], none⟩, ⟨some 10, .mov (.t 30), none⟩])
 (.seq (.reg [⟨some 31, .mov (.t 10), none⟩, ⟨some 32, .bin .neq (.t 31) (.k (.i .i64 0)), none⟩])
 (.cond (.t 32)
 (.seq (.reg [⟨some 33, .mov (.t 5), none⟩, ⟨some 34, .mov (.t 10), none⟩, ⟨some 35, .bin .eql (.t 33) (.t 34), none⟩, ⟨some 36, .mov (.t 35), none⟩, ⟨some 37, .mov (.t 9), some (36, true)⟩,
 ⟨some 38, .mov (.t 10), some (36, true)⟩,
 ⟨some 39, .bin .eql (.t 37) (.t 38), some (36, true)⟩,
 ⟨some 40, .pick (.t 36) (.t 39) (.k (.b false)), none⟩, ⟨some 41, .mov (.t 40), none⟩, ⟨some 42, .mov (.t 3), some (41, true)⟩,
 ⟨some 43, .len .slice (.t 42), some (41, true)⟩,
 ⟨some 44, .mov (.t 7), some (41, true)⟩,
 ⟨some 45, .len .slice (.t 44), some (41, true)⟩,
 ⟨some 46, .bin .add (.t 43) (.t 45), some (41, true)⟩,
 ⟨some 47, .bin .eql (.t 46) (.k (.i .i64 0)), some (41, true)⟩,
 ⟨some 48, .pick (.t 41) (.t 47) (.k (.b false)), none⟩, ⟨some 49, .mov (.t 48), none⟩, ⟨some 50, .call true 10 [], some (49, true)⟩,
 ⟨some 51, .pick (.t 49) (.t 50) (.k (.b false)), none⟩, ⟨some 2, .mov (.t 51), none⟩])
 .ret)
 .skip)))
 (.seq (.reg [⟨some 52, .mov (.t 5), none⟩, ⟨some 53, .bin .eql (.t 52) (.k (.i .i64 6)), none⟩, ⟨some 54, .mov (.t 53), none⟩, ⟨some 55, .mov (.t 9), some (54, true)⟩,
 ⟨some 56, .bin .eql (.t 55) (.k (.i .i64 0)), some (54, true)⟩,
 ⟨some 57, .pick (.t 54) (.t 56) (.k (.b false)), none⟩, ⟨some 58, .mov (.t 57), none⟩, ⟨some 59, .mov (.t 3), some (58, true)⟩,
 ⟨some 60, .len .slice (.t 59), some (58, true)⟩,
 ⟨some 61, .mov (.t 7), some (58, true)⟩,
 ⟨some 62, .len .slice (.t 61), some (58, true)⟩,
 ⟨some 63, .bin .add (.t 60) (.t 62), some (58, true)⟩,
 ⟨some 64, .bin .eql (.t 63) (.k (.i .i64 0)), some (58, true)⟩,
 ⟨some 65, .pick (.t 58) (.t 64) (.k (.b false)), none⟩, ⟨some 66, .mov (.t 65), none⟩, ⟨some 67, .load true 3 (.t 4), some (66, true)⟩,
 ⟨some 68, .build [(.i .i64 0), (.s []), (.s [])] [], some (66, true)⟩,
 ⟨some 69, .eq false (.struct [(0, 1, false, .int), (1, 1, false, .str), (2, 1, false, .str)]) (.t 67) (.t 68), some (66, true)⟩,
 ⟨some 70, .pick (.t 66) (.t 69) (.k (.b false)), none⟩, ⟨some 71, .mov (.t 70), none⟩, ⟨some 72, .call true 10 [], some (71, true)⟩,
 ⟨some 73, .pick (.t 71) (.t 72) (.k (.b false)), none⟩, ⟨some 2, .mov (.t 73), none⟩])
 .ret)))))))
/-- tidemark/tidemarklaw16.QueryNobody -/
def af5 : AFunc := { n := 74, depth := 7, kl := [(1, [1]), (4, [4]), (8, [8])], res := [.tmp 2], body := B5 }

def B7 : AC := (.seq (.reg [⟨some 1, .lbox (.t 0) [1, 4, 8, 13], none⟩, ⟨some 2, .mov (.k (.b false)), none⟩])
 (.seq (.reg [⟨some 4, .faddr 1 (.t 1), none⟩, ⟨some 5, .load false 1 (.t 4), none⟩, ⟨some 6, .len .str (.t 5), none⟩, ⟨some 7, .minmax false (.t 6) (.k (.i .i64 8192)), none⟩, ⟨some 8, .faddr 6 (.t 1), none⟩, ⟨some 9, .load false 1 (.t 8), none⟩, ⟨some 10, .len .str (.t 9), none⟩, ⟨some 11, .minmax false (.t 10) (.k (.i .i64 8192)), none⟩, ⟨some 12, .bin .add (.t 7) (.t 11), none⟩, ⟨some 3, .alloc 3 [(.i .i64 0)], none⟩, ⟨none, .store 1 (.t 3) (.t 12), none⟩])
 (.seq (.reg [⟨some 13, .faddr 2 (.t 1), none⟩, ⟨some 14, .load true 4 (.t 13), none⟩, ⟨some 15, .call false 22 [(.t 14), (.k (.i .i64 0)), (.t 3)], none⟩, ⟨some 2, .mov (.t 15), none⟩])
 .ret)))
/-- tidemark/tidemarklaw16.light -/
def af7 : AFunc := { n := 16, depth := 5, kl := [(1, [1, 4, 8, 13])], res := [.tmp 2], body := B7 }

def B8 : AC := (.seq (.reg [⟨some 1, .lbox (.t 0) [1, 5, 13, 19, 25, 28, 34, 39, 44, 49, 54, 58, 63, 67, 73, 77], none⟩, ⟨some 2, .mov (.k (.i .i64 0)), none⟩])
 (.seq (.seq (.reg [⟨some 5, .faddr 2 (.t 1), none⟩, ⟨some 6, .load true 4 (.t 5), none⟩, ⟨some 7, .call true 23 [(.t 6)], none⟩, ⟨some 3, .mov (.t 7), none⟩])
 (.seq (.reg [⟨some 8, .mov (.t 3), none⟩, ⟨some 9, .bin .neq (.t 8) (.k (.i .i64 0)), none⟩])
 (.cond (.t 9)
 (.seq (.reg [⟨some 10, .mov (.t 3), none⟩, ⟨some 2, .mov (.t 10), none⟩])
 .ret)
 .skip)))
 (.seq (.reg [⟨some 4, .mov (.f 24), none⟩])
 (.seq (.blk 0 (.seq (.reg [⟨some 12, .mov (.t 4), none⟩, ⟨some 13, .faddr 6 (.t 1), none⟩, ⟨some 14, .load false 1 (.t 13), none⟩, ⟨some 15, .callv true (.t 12) [(.t 14)], none⟩, ⟨some 16, .un .not (.t 15), none⟩, ⟨some 17, .mov (.t 16), none⟩, ⟨some 18, .mov (.t 4), some (17, false)⟩,
 ⟨some 19, .faddr 1 (.t 1), some (17, false)⟩,
 ⟨some 20, .load false 1 (.t 19), some (17, false)⟩,
 ⟨some 21, .callv true (.t 18) [(.t 20)], some (17, false)⟩,
 ⟨some 22, .un .not (.t 21), some (17, false)⟩,
 ⟨some 23, .pick (.t 17) (.k (.b true)) (.t 22), none⟩, ⟨some 24, .mov (.t 23), none⟩, ⟨some 25, .faddr 7 (.t 1), some (24, false)⟩,
 ⟨some 26, .load false 1 (.t 25), some (24, false)⟩,
 ⟨some 27, .mov (.t 26), some (24, false)⟩,
 ⟨some 28, .faddr 6 (.t 1), some (27, true)⟩,
 ⟨some 29, .load false 1 (.t 28), some (27, true)⟩,
 ⟨some 30, .bin .eql (.t 29) (.k (.s [])), some (27, true)⟩,
 ⟨some 31, .pick (.t 27) (.t 30) (.k (.b false)), some (24, false)⟩,
 ⟨some 32, .pick (.t 24) (.k (.b true)) (.t 31), none⟩, ⟨some 33, .mov (.t 32), none⟩, ⟨some 34, .faddr 8 (.t 1), some (33, false)⟩,
 ⟨some 35, .load false 1 (.t 34), some (33, false)⟩,
 ⟨some 36, .bin .lss (.t 35) (.k (.i .i64 0)), some (33, false)⟩,
 ⟨some 37, .pick (.t 33) (.k (.b true)) (.t 36), none⟩, ⟨some 38, .mov (.t 37), none⟩, ⟨some 39, .faddr 8 (.t 1), some (38, false)⟩,
 ⟨some 40, .load false 1 (.t 39), some (38, false)⟩,
 ⟨some 41, .bin .gtr (.t 40) (.k (.i .i64 1099511627776)), some (38, false)⟩,
 ⟨some 42, .pick (.t 38) (.k (.b true)) (.t 41), none⟩, ⟨some 43, .mov (.t 42), none⟩, ⟨some 44, .faddr 9 (.t 1), some (43, false)⟩,
 ⟨some 45, .load false 1 (.t 44), some (43, false)⟩,
 ⟨some 46, .bin .lss (.t 45) (.k (.i .i64 0)), some (43, false)⟩,
 ⟨some 47, .pick (.t 43) (.k (.b true)) (.t 46), none⟩, ⟨some 48, .mov (.t 47), none⟩, ⟨some 49, .faddr 9 (.t 1), some (48, false)⟩,
 ⟨some 50, .load false 1 (.t 49), some (48, false)⟩,
 ⟨some 51, .bin .gtr (.t 50) (.k (.i .i64 1099511627776)), some (48, false)⟩,
 ⟨some 52, .pick (.t 48) (.k (.b true)) (.t 51), none⟩, ⟨some 11, .mov (.t 52), none⟩])
 (.cond (.t 11)
 (.seq (.reg [⟨some 2, .mov (.k (.i .i64 230)), none⟩])
 .ret)
 (.seq (.reg [⟨some 54, .faddr 0 (.t 1), none⟩, ⟨some 55, .load false 1 (.t 54), none⟩, ⟨some 56, .bin .lss (.t 55) (.k (.i .i64 0)), none⟩, ⟨some 57, .mov (.t 56), none⟩, ⟨some 58, .faddr 0 (.t 1), some (57, false)⟩,
 ⟨some 59, .load false 1 (.t 58), some (57, false)⟩,
 ⟨some 60, .bin .gtr (.t 59) (.k (.i .i64 4)), some (57, false)⟩,
 ⟨some 61, .pick (.t 57) (.k (.b true)) (.t 60), none⟩, ⟨some 62, .mov (.t 61), none⟩, ⟨some 63, .faddr 0 (.t 1), some (62, false)⟩,
 ⟨some 64, .load false 1 (.t 63), some (62, false)⟩,
 ⟨some 65, .bin .geq (.t 64) (.k (.i .i64 2)), some (62, false)⟩,
 ⟨some 66, .mov (.t 65), some (62, false)⟩,
 ⟨some 67, .faddr 1 (.t 1), some (66, true)⟩,
 ⟨some 68, .load false 1 (.t 67), some (66, true)⟩,
 ⟨some 69, .bin .eql (.t 68) (.k (.s [])), some (66, true)⟩,
 ⟨some 70, .pick (.t 66) (.t 69) (.k (.b false)), some (62, false)⟩,
 ⟨some 71, .pick (.t 62) (.k (.b true)) (.t 70), none⟩, ⟨some 72, .mov (.t 71), none⟩, ⟨some 73, .faddr 0 (.t 1), some (72, false)⟩,
 ⟨some 74, .load false 1 (.t 73), some (72, false)⟩,
 ⟨some 75, .bin .lss (.t 74) (.k (.i .i64 2)), some (72, false)⟩,
 ⟨some 76, .mov (.t 75), some (72, false)⟩,
 ⟨some 77, .faddr 1 (.t 1), some (76, true)⟩,
 ⟨some 78, .load false 1 (.t 77), some (76, true)⟩,
 ⟨some 79, .bin .neq (.t 78) (.k (.s [])), some (76, true)⟩,
 ⟨some 80, .pick (.t 76) (.t 79) (.k (.b false)), some (72, false)⟩,
 ⟨some 81, .pick (.t 72) (.k (.b true)) (.t 80), none⟩, ⟨some 53, .mov (.t 81), none⟩])
 (.cond (.t 53)
 (.seq (.reg [⟨some 2, .mov (.k (.i .i64 230)), none⟩])
 .ret)
 .skip)))))
 (.seq (.reg [⟨some 2, .mov (.k (.i .i64 0)), none⟩])
 .ret)))))
/-- tidemark/query.Check -/
def af8 : AFunc := { n := 82, depth := 7, kl := [(1, [1, 5, 13, 19, 25, 28, 34, 39, 44, 49, 54, 58, 63, 67, 73, 77])], res := [.tmp 2], body := B8 }

def B9 : AC := (.seq (.reg [⟨some 1, .lbox (.t 0) [1, 5, 11, 15, 20, 25, 30, 33, 39, 43, 51, 56, 61, 66], none⟩, ⟨some 2, .mov (.k (.i .i64 0)), none⟩])
 (.seq (.seq (.reg [⟨some 5, .faddr 2 (.t 1), none⟩, ⟨some 6, .load true 4 (.t 5), none⟩, ⟨some 7, .call true 26 [(.t 6)], none⟩, ⟨some 3, .mov (.t 7), none⟩])
 (.seq (.reg [⟨some 8, .mov (.t 3), none⟩, ⟨some 9, .bin .neq (.t 8) (.k (.i .i64 0)), none⟩])
 (.cond (.t 9)
 (.seq (.reg [⟨some 10, .mov (.t 3), none⟩, ⟨some 2, .mov (.t 10), none⟩])
 .ret)
 .skip)))
 (.seq (.reg [⟨some 11, .faddr 0 (.t 1), none⟩, ⟨some 12, .load false 1 (.t 11), none⟩, ⟨some 13, .bin .geq (.t 12) (.k (.i .i64 0)), none⟩, ⟨some 14, .mov (.t 13), none⟩, ⟨some 15, .faddr 0 (.t 1), some (14, true)⟩,
 ⟨some 16, .load false 1 (.t 15), some (14, true)⟩,
 ⟨some 17, .bin .leq (.t 16) (.k (.i .i64 4)), some (14, true)⟩,
 ⟨some 18, .pick (.t 14) (.t 17) (.k (.b false)), none⟩, ⟨some 19, .mov (.t 18), none⟩, ⟨some 20, .faddr 1 (.t 1), some (19, true)⟩,
 ⟨some 21, .load false 1 (.t 20), some (19, true)⟩,
 ⟨some 22, .call true 27 [(.t 21)], some (19, true)⟩,
 ⟨some 23, .pick (.t 19) (.t 22) (.k (.b false)), none⟩, ⟨some 24, .mov (.t 23), none⟩, ⟨some 25, .faddr 6 (.t 1), some (24, true)⟩,
 ⟨some 26, .load false 1 (.t 25), some (24, true)⟩,
 ⟨some 27, .call true 27 [(.t 26)], some (24, true)⟩,
 ⟨some 28, .pick (.t 24) (.t 27) (.k (.b false)), none⟩, ⟨some 29, .mov (.t 28), none⟩, ⟨some 30, .faddr 1 (.t 1), some (29, true)⟩,
 ⟨some 31, .load false 1 (.t 30), some (29, true)⟩,
 ⟨some 32, .bin .neq (.t 31) (.k (.s [])), some (29, true)⟩,
 ⟨some 33, .faddr 0 (.t 1), some (29, true)⟩,
 ⟨some 34, .load false 1 (.t 33), some (29, true)⟩,
 ⟨some 35, .bin .gtr (.t 34) (.k (.i .i64 1)), some (29, true)⟩,
 ⟨some 36, .eq false .bool (.t 32) (.t 35), some (29, true)⟩,
 ⟨some 37, .pick (.t 29) (.t 36) (.k (.b false)), none⟩, ⟨some 38, .mov (.t 37), none⟩, ⟨some 39, .faddr 6 (.t 1), some (38, true)⟩,
 ⟨some 40, .load false 1 (.t 39), some (38, true)⟩,
 ⟨some 41, .bin .neq (.t 40) (.k (.s [])), some (38, true)⟩,
 ⟨some 42, .mov (.t 41), some (38, true)⟩,
 ⟨some 43, .faddr 7 (.t 1), some (42, false)⟩,
 ⟨some 44, .load false 1 (.t 43), some (42, false)⟩,
 ⟨some 45, .un .not (.t 44), some (42, false)⟩,
 ⟨some 46, .pick (.t 42) (.k (.b true)) (.t 45), some (38, true)⟩,
 ⟨some 47, .pick (.t 38) (.t 46) (.k (.b false)), none⟩, ⟨some 4, .mov (.t 47), none⟩])
 (.seq (.seq (.reg [⟨some 48, .mov (.t 4), none⟩, ⟨some 49, .un .not (.t 48), none⟩, ⟨some 50, .mov (.t 49), none⟩, ⟨some 51, .faddr 8 (.t 1), some (50, false)⟩,
 ⟨some 52, .load false 1 (.t 51), some (50, false)⟩,
 ⟨some 53, .bin .lss (.t 52) (.k (.i .i64 0)), some (50, false)⟩,
 ⟨some 54, .pick (.t 50) (.k (.b true)) (.t 53), none⟩, ⟨some 55, .mov (.t 54), none⟩, ⟨some 56, .faddr 8 (.t 1), some (55, false)⟩,
 ⟨some 57, .load false 1 (.t 56), some (55, false)⟩,
 ⟨some 58, .bin .gtr (.t 57) (.k (.i .i64 1099511627776)), some (55, false)⟩,
 ⟨some 59, .pick (.t 55) (.k (.b true)) (.t 58), none⟩, ⟨some 60, .mov (.t 59), none⟩, ⟨some 61, .faddr 9 (.t 1), some (60, false)⟩,
 ⟨some 62, .load false 1 (.t 61), some (60, false)⟩,
 ⟨some 63, .bin .lss (.t 62) (.k (.i .i64 0)), some (60, false)⟩,
 ⟨some 64, .pick (.t 60) (.k (.b true)) (.t 63), none⟩, ⟨some 65, .mov (.t 64), none⟩, ⟨some 66, .faddr 9 (.t 1), some (65, false)⟩,
 ⟨some 67, .load false 1 (.t 66), some (65, false)⟩,
 ⟨some 68, .bin .gtr (.t 67) (.k (.i .i64 1099511627776)), some (65, false)⟩,
 ⟨some 69, .pick (.t 65) (.k (.b true)) (.t 68), none⟩])
 (.cond (.t 69)
 (.seq (.reg [⟨some 2, .mov (.k (.i .i64 230)), none⟩])
 .ret)
 .skip))
 (.seq (.reg [⟨some 2, .mov (.k (.i .i64 0)), none⟩])
 .ret)))))
/-- tidemark/tidemarkref16.Check -/
def af9 : AFunc := { n := 70, depth := 7, kl := [(1, [1, 5, 11, 15, 20, 25, 30, 33, 39, 43, 51, 56, 61, 66])], res := [.tmp 2], body := B9 }

def B10 : AC := (.seq (.reg [⟨some 0, .mov (.k (.b false)), none⟩])
 (.seq (.reg [⟨some 9, .call true 20 [(.k (.s [99, 111, 117, 110, 116, 32, 119, 104, 101, 114, 101, 32, 107, 101, 121, 32, 94, 32, 34, 97, 34, 32, 98, 121, 32, 103]))], none⟩, ⟨some 8, .mov (.t 9), none⟩, ⟨some 10, .ext (.t 8) 0, none⟩, ⟨some 11, .ext (.t 8) 1, none⟩, ⟨some 12, .ext (.t 8) 2, none⟩, ⟨some 1, .lalloc [(.i .i64 0), (.s []), (.i .i64 0), (.s []), (.s []), (.sl [] 0 .nil), (.s []), (.b false), (.i .i64 0), (.i .i64 0)] [1], none⟩, ⟨none, .store 10 (.t 1) (.t 10), none⟩, ⟨some 2, .mov (.t 11), none⟩, ⟨some 3, .mov (.t 12), none⟩])
 (.seq (.reg [⟨some 14, .load true 10 (.t 1), none⟩, ⟨some 15, .build [(.s []), (.s [])] [(0, 1, (.k (.s [97, 49]))), (1, 1, (.k (.s [103, 58, 120])))], none⟩, ⟨some 16, .build [(.s []), (.s [])] [(0, 1, (.k (.s [97, 50]))), (1, 1, (.k (.s [103, 58, 121])))], none⟩, ⟨some 17, .build [(.s []), (.s [])] [(0, 1, (.k (.s [97, 51]))), (1, 1, (.k (.s [103, 58, 120])))], none⟩, ⟨some 18, .build [(.s []), (.s [])] [(0, 1, (.k (.s [98]))), (1, 1, (.k (.s [103, 58, 120])))], none⟩, ⟨some 19, .bslice false 35 2 4 [(.s []), (.s [])] [(0, (.t 15)), (1, (.t 16)), (2, (.t 17)), (3, (.t 18))], none⟩, ⟨some 20, .call true 13 [(.t 14), (.t 19)], none⟩, ⟨some 13, .mov (.t 20), none⟩, ⟨some 21, .ext (.t 13) 0, none⟩, ⟨some 22, .ext (.t 13) 1, none⟩, ⟨some 4, .mov (.t 21), none⟩, ⟨some 5, .mov (.t 22), none⟩])
 (.seq (.reg [⟨some 24, .build [(.i .i64 0), (.s []), (.i .i64 0), (.s []), (.s []), (.sl [] 0 .nil), (.s []), (.b false), (.i .i64 0), (.i .i64 0)] [(0, 1, (.k (.i .i64 4))), (1, 1, (.k (.s [110])))], none⟩, ⟨some 25, .build [(.s []), (.s [])] [(0, 1, (.k (.s [97]))), (1, 1, (.k (.s [110, 58, 53])))], none⟩, ⟨some 26, .build [(.s []), (.s [])] [(0, 1, (.k (.s [98]))), (1, 1, (.k (.s [110, 58, 45, 50])))], none⟩, ⟨some 27, .build [(.s []), (.s [])] [(0, 1, (.k (.s [99]))), (1, 1, (.k (.s [109, 58, 57])))], none⟩, ⟨some 28, .bslice false 35 2 3 [(.s []), (.s [])] [(0, (.t 25)), (1, (.t 26)), (2, (.t 27))], none⟩, ⟨some 29, .call true 13 [(.t 24), (.t 28)], none⟩, ⟨some 23, .mov (.t 29), none⟩, ⟨some 30, .ext (.t 23) 0, none⟩, ⟨some 31, .ext (.t 23) 1, none⟩, ⟨some 6, .mov (.t 30), none⟩, ⟨some 7, .mov (.t 31), none⟩])
 (.seq (.reg [⟨some 32, .mov (.t 3), none⟩, ⟨some 33, .bin .eql (.t 32) (.k (.i .i64 0)), none⟩, ⟨some 34, .mov (.t 33), none⟩, ⟨some 35, .mov (.t 5), some (34, true)⟩,
 ⟨some 36, .bin .eql (.t 35) (.k (.i .i64 0)), some (34, true)⟩,
 ⟨some 37, .pick (.t 34) (.t 36) (.k (.b false)), none⟩, ⟨some 38, .mov (.t 37), none⟩, ⟨some 39, .mov (.t 7), some (38, true)⟩,
 ⟨some 40, .bin .eql (.t 39) (.k (.i .i64 0)), some (38, true)⟩,
 ⟨some 41, .pick (.t 38) (.t 40) (.k (.b false)), none⟩, ⟨some 42, .mov (.t 41), none⟩, ⟨some 43, .mov (.t 4), some (42, true)⟩,
 ⟨some 44, .build [(.s []), (.sl [] 0 .nil), (.i .i64 0)] [(0, 1, (.k (.s [120]))), (2, 1, (.k (.i .i64 2)))], some (42, true)⟩,
 ⟨some 45, .build [(.s []), (.sl [] 0 .nil), (.i .i64 0)] [(0, 1, (.k (.s [121]))), (2, 1, (.k (.i .i64 1)))], some (42, true)⟩,
 ⟨some 46, .bslice false 60 3 2 [(.s []), (.sl [] 0 .nil), (.i .i64 0)] [(0, (.t 44)), (1, (.t 45))], some (42, true)⟩,
 ⟨some 47, .call true 15 [(.t 43), (.t 46)], some (42, true)⟩,
 ⟨some 48, .pick (.t 42) (.t 47) (.k (.b false)), none⟩, ⟨some 49, .mov (.t 48), none⟩, ⟨some 50, .mov (.t 6), some (49, true)⟩,
 ⟨some 51, .build [(.s []), (.sl [] 0 .nil), (.i .i64 0)] [(2, 1, (.k (.i .i64 5)))], some (49, true)⟩,
 ⟨some 52, .bslice false 60 3 1 [(.s []), (.sl [] 0 .nil), (.i .i64 0)] [(0, (.t 51))], some (49, true)⟩,
 ⟨some 53, .call true 15 [(.t 50), (.t 52)], some (49, true)⟩,
 ⟨some 54, .pick (.t 49) (.t 53) (.k (.b false)), none⟩, ⟨some 55, .mov (.t 54), none⟩, ⟨some 56, .build [(.i .i64 0), (.s []), (.i .i64 0), (.s []), (.s []), (.sl [] 0 .nil), (.s []), (.b false), (.i .i64 0), (.i .i64 0)] [(0, 1, (.k (.i .i64 5)))], some (55, true)⟩,
 ⟨some 57, .call true 8 [(.t 56)], some (55, true)⟩,
 ⟨some 58, .bin .eql (.t 57) (.k (.i .i64 230)), some (55, true)⟩,
 ⟨some 59, .pick (.t 55) (.t 58) (.k (.b false)), none⟩, ⟨some 0, .mov (.t 59), none⟩])
 .ret)))))
/-- tidemark/tidemarklaw16.awake -/
def af10 : AFunc := { n := 60, depth := 6, kl := [(1, [1])], res := [.tmp 0], body := B10 }

def B13 : AC := (.seq (.reg [⟨some 2, .lbox (.t 0) [2], none⟩, ⟨some 3, .box 31 (.t 1), none⟩, ⟨some 4, .mov (.k (.sl [] 0 .nil)), none⟩, ⟨some 5, .mov (.k (.i .i64 0)), none⟩])
 (.seq (.seq (.reg [⟨some 8, .load true 10 (.t 2), none⟩, ⟨some 9, .call true 8 [(.t 8)], none⟩, ⟨some 6, .mov (.t 9), none⟩])
 (.seq (.reg [⟨some 10, .mov (.t 6), none⟩, ⟨some 11, .bin .neq (.t 10) (.k (.i .i64 0)), none⟩])
 (.cond (.t 11)
 (.seq (.reg [⟨some 12, .mov (.t 6), none⟩, ⟨some 4, .mov (.k (.sl [] 0 .nil)), none⟩, ⟨some 5, .mov (.t 12), none⟩])
 .ret)
 .skip)))
 (.seq (.reg [⟨some 13, .mkfn 28 [] [(.t 3)], none⟩, ⟨some 14, .build [.nilf, .nilf, .nilf] [(0, 1, (.t 13))], none⟩, ⟨some 7, .lalloc [.nilf, .nilf, .nilf] [7], none⟩, ⟨none, .store 3 (.t 7) (.t 14), none⟩])
 (.seq (.reg [⟨some 15, .load true 10 (.t 2), none⟩, ⟨some 16, .build [(.i .i64 0), (.s []), (.s [])] [(0, 1, (.k (.i .i64 0)))], none⟩, ⟨some 17, .build [(.i .i64 0), (.s []), (.s [])] [(0, 3, (.t 16))], none⟩, ⟨some 18, .load true 3 (.t 7), none⟩, ⟨some 19, .call false 29 [(.t 15), (.t 17), (.t 18)], none⟩, ⟨some 20, .ext (.t 19) 0, none⟩, ⟨some 21, .ext (.t 19) 1, none⟩, ⟨some 4, .mov (.t 20), none⟩, ⟨some 5, .mov (.t 21), none⟩])
 .ret))))
/-- tidemark/query.Over -/
def af13 : AFunc := { n := 22, depth := 5, kl := [(2, [2]), (7, [7])], res := [.tmp 4, .tmp 5], body := B13 }

def L15_2 : AC := (.seq (.reg [⟨some 63, .bin .lss (.t 62) (.t 61), none⟩])
 (.seq (.cond (.t 63)
 .skip
 (.exit 2))
 (.seq (.blk 3 (.seq (.reg [⟨some 64, .mov (.t 62), none⟩, ⟨some 6, .mov (.t 64), none⟩])
 (.seq (.reg [⟨some 65, .mov (.t 0), none⟩, ⟨some 66, .mov (.t 5), none⟩, ⟨some 67, .iaddr (.slice 3) (.t 65) (.t 66), none⟩, ⟨some 68, .faddr 1 (.t 67), none⟩, ⟨some 69, .load false 1 (.t 68), none⟩, ⟨some 70, .mov (.t 6), none⟩, ⟨some 71, .iaddr (.slice 1) (.t 69) (.t 70), none⟩, ⟨some 72, .load false 1 (.t 71), none⟩, ⟨some 73, .mov (.t 1), none⟩, ⟨some 74, .mov (.t 5), none⟩, ⟨some 75, .iaddr (.slice 3) (.t 73) (.t 74), none⟩, ⟨some 76, .faddr 1 (.t 75), none⟩, ⟨some 77, .load false 1 (.t 76), none⟩, ⟨some 78, .mov (.t 6), none⟩, ⟨some 79, .iaddr (.slice 1) (.t 77) (.t 78), none⟩, ⟨some 80, .load false 1 (.t 79), none⟩, ⟨some 81, .bin .neq (.t 72) (.t 80), none⟩])
 (.cond (.t 81)
 (.seq (.reg [⟨some 4, .mov (.k (.b false)), none⟩])
 .ret)
 .skip))))
 (.reg [⟨some 82, .bin .add (.t 62) (.k (.i .i64 1)), none⟩, ⟨some 62, .mov (.t 82), none⟩]))))
def L15_1 : AC := (.seq (.reg [⟨some 15, .bin .lss (.t 14) (.t 13), none⟩])
 (.seq (.cond (.t 15)
 .skip
 (.exit 0))
 (.seq (.blk 1 (.seq (.reg [⟨some 16, .mov (.t 14), none⟩, ⟨some 5, .mov (.t 16), none⟩])
 (.seq (.seq (.reg [⟨some 17, .mov (.t 0), none⟩, ⟨some 18, .mov (.t 5), none⟩, ⟨some 19, .iaddr (.slice 3) (.t 17) (.t 18), none⟩, ⟨some 20, .faddr 0 (.t 19), none⟩, ⟨some 21, .load false 1 (.t 20), none⟩, ⟨some 22, .mov (.t 1), none⟩, ⟨some 23, .mov (.t 5), none⟩, ⟨some 24, .iaddr (.slice 3) (.t 22) (.t 23), none⟩, ⟨some 25, .faddr 0 (.t 24), none⟩, ⟨some 26, .load false 1 (.t 25), none⟩, ⟨some 27, .bin .neq (.t 21) (.t 26), none⟩, ⟨some 28, .mov (.t 27), none⟩, ⟨some 29, .mov (.t 0), some (28, false)⟩,
 ⟨some 30, .mov (.t 5), some (28, false)⟩,
 ⟨some 31, .iaddr (.slice 3) (.t 29) (.t 30), some (28, false)⟩,
 ⟨some 32, .faddr 2 (.t 31), some (28, false)⟩,
 ⟨some 33, .load false 1 (.t 32), some (28, false)⟩,
 ⟨some 34, .mov (.t 1), some (28, false)⟩,
 ⟨some 35, .mov (.t 5), some (28, false)⟩,
 ⟨some 36, .iaddr (.slice 3) (.t 34) (.t 35), some (28, false)⟩,
 ⟨some 37, .faddr 2 (.t 36), some (28, false)⟩,
 ⟨some 38, .load false 1 (.t 37), some (28, false)⟩,
 ⟨some 39, .bin .neq (.t 33) (.t 38), some (28, false)⟩,
 ⟨some 40, .pick (.t 28) (.k (.b true)) (.t 39), none⟩, ⟨some 41, .mov (.t 40), none⟩, ⟨some 42, .mov (.t 0), some (41, false)⟩,
 ⟨some 43, .mov (.t 5), some (41, false)⟩,
 ⟨some 44, .iaddr (.slice 3) (.t 42) (.t 43), some (41, false)⟩,
 ⟨some 45, .faddr 1 (.t 44), some (41, false)⟩,
 ⟨some 46, .load false 1 (.t 45), some (41, false)⟩,
 ⟨some 47, .len .slice (.t 46), some (41, false)⟩,
 ⟨some 48, .mov (.t 1), some (41, false)⟩,
 ⟨some 49, .mov (.t 5), some (41, false)⟩,
 ⟨some 50, .iaddr (.slice 3) (.t 48) (.t 49), some (41, false)⟩,
 ⟨some 51, .faddr 1 (.t 50), some (41, false)⟩,
 ⟨some 52, .load false 1 (.t 51), some (41, false)⟩,
 ⟨some 53, .len .slice (.t 52), some (41, false)⟩,
 ⟨some 54, .bin .neq (.t 47) (.t 53), some (41, false)⟩,
 ⟨some 55, .pick (.t 41) (.k (.b true)) (.t 54), none⟩])
 (.cond (.t 55)
 (.seq (.reg [⟨some 4, .mov (.k (.b false)), none⟩])
 .ret)
 .skip))
 (.seq (.reg [⟨some 56, .mov (.t 0), none⟩, ⟨some 57, .mov (.t 5), none⟩, ⟨some 58, .iaddr (.slice 3) (.t 56) (.t 57), none⟩, ⟨some 59, .faddr 1 (.t 58), none⟩, ⟨some 60, .load false 1 (.t 59), none⟩, ⟨some 61, .len .slice (.t 60), none⟩, ⟨some 62, .mov (.k (.i .i64 0)), none⟩])
 (.blk 2 (.loop L15_2))))))
 (.reg [⟨some 83, .bin .add (.t 14) (.k (.i .i64 1)), none⟩, ⟨some 14, .mov (.t 83), none⟩]))))
def B15 : AC := (.seq (.reg [⟨some 4, .mov (.k (.b false)), none⟩])
 (.seq (.seq (.reg [⟨some 7, .mov (.t 0), none⟩, ⟨some 8, .len .slice (.t 7), none⟩, ⟨some 9, .mov (.t 1), none⟩, ⟨some 10, .len .slice (.t 9), none⟩, ⟨some 11, .bin .neq (.t 8) (.t 10), none⟩])
 (.cond (.t 11)
 (.seq (.reg [⟨some 4, .mov (.k (.b false)), none⟩])
 .ret)
 .skip))
 (.seq (.seq (.reg [⟨some 12, .mov (.t 0), none⟩, ⟨some 13, .len .slice (.t 12), none⟩, ⟨some 14, .mov (.k (.i .i64 0)), none⟩])
 (.blk 0 (.loop L15_1)))
 (.seq (.reg [⟨some 4, .mov (.k (.b true)), none⟩])
 .ret))))
/-- tidemark/tidemarkref11.Same -/
def af15 : AFunc := { n := 84, depth := 7, kl := [], res := [.tmp 4], body := B15 }

def B17 : AC := (.seq (.reg [⟨some 2, .lbox (.t 0) [2, 23], none⟩, ⟨some 4, .mov (.k (.sl [] 0 .nil)), none⟩, ⟨some 5, .lalloc [(.i .i64 0), (.s []), (.s [])] [5], none⟩, ⟨some 6, .mov (.k (.i .i64 0)), none⟩])
 (.seq (.seq (.reg [⟨some 12, .load true 10 (.t 2), none⟩, ⟨some 13, .call true 8 [(.t 12)], none⟩, ⟨some 7, .mov (.t 13), none⟩])
 (.seq (.reg [⟨some 14, .mov (.t 7), none⟩, ⟨some 15, .bin .neq (.t 14) (.k (.i .i64 0)), none⟩])
 (.cond (.t 15)
 (.seq (.reg [⟨some 16, .build [(.i .i64 0), (.s []), (.s [])] [], none⟩, ⟨some 17, .mov (.t 7), none⟩, ⟨some 4, .mov (.k (.sl [] 0 .nil)), none⟩, ⟨none, .store 3 (.t 5) (.t 16), none⟩, ⟨some 6, .mov (.t 17), none⟩])
 .ret)
 .skip)))
 (.seq (.seq (.reg [⟨some 18, .mov (.t 1), none⟩, ⟨some 19, .eq false .iface (.t 18) (.k .nili), none⟩])
 (.cond (.t 19)
 (.seq (.reg [⟨some 20, .build [(.i .i64 0), (.s []), (.s [])] [], none⟩, ⟨some 4, .mov (.k (.sl [] 0 .nil)), none⟩, ⟨none, .store 3 (.t 5) (.t 20), none⟩, ⟨some 6, .mov (.k (.i .i64 6)), none⟩])
 .ret)
 .skip))
 (.seq (.reg [⟨some 21, .mov (.t 1), none⟩, ⟨some 22, .call false 35 [(.t 21)], none⟩, ⟨some 8, .lalloc [.nilf, .nilf, .nilf] [8], none⟩, ⟨none, .store 3 (.t 8) (.t 22), none⟩])
 (.seq (.reg [⟨some 23, .faddr 2 (.t 2), none⟩, ⟨some 24, .load true 4 (.t 23), none⟩, ⟨some 25, .load true 3 (.t 8), none⟩, ⟨some 26, .call false 36 [(.t 24), (.t 25)], none⟩, ⟨some 9, .lalloc [(.i .i64 0), (.s []), (.s [])] [9, 35], none⟩, ⟨none, .store 3 (.t 9) (.t 26), none⟩])
 (.seq (.reg [⟨some 28, .load true 10 (.t 2), none⟩, ⟨some 29, .load true 3 (.t 9), none⟩, ⟨some 30, .load true 3 (.t 8), none⟩, ⟨some 31, .call false 29 [(.t 28), (.t 29), (.t 30)], none⟩, ⟨some 27, .mov (.t 31), none⟩, ⟨some 32, .ext (.t 27) 0, none⟩, ⟨some 33, .ext (.t 27) 1, none⟩, ⟨some 10, .mov (.t 32), none⟩, ⟨some 11, .mov (.t 33), none⟩])
 (.seq (.reg [⟨some 34, .mov (.t 10), none⟩, ⟨some 35, .faddr 0 (.t 9), none⟩, ⟨some 36, .load true 3 (.t 35), none⟩, ⟨some 37, .mov (.t 11), none⟩, ⟨some 4, .mov (.t 34), none⟩, ⟨none, .store 3 (.t 5) (.t 36), none⟩, ⟨some 6, .mov (.t 37), none⟩])
 .ret)))))))
/-- tidemark/query.Ask -/
def af17 : AFunc := { n := 38, depth := 6, kl := [(2, [2, 23]), (5, [5]), (8, [8]), (9, [9, 35])], res := [.tmp 4, .cell 5 true 3, .tmp 6], body := B17 }

def B20 : AC := (.seq (.reg [⟨some 2, .lalloc [(.i .i64 0), (.s []), (.i .i64 0), (.s []), (.s []), (.sl [] 0 .nil), (.s []), (.b false), (.i .i64 0), (.i .i64 0)] [2], none⟩, ⟨some 3, .mov (.k (.i .i64 0)), none⟩, ⟨some 4, .mov (.k (.i .i64 0)), none⟩])
 (.seq (.reg [⟨some 10, .mov (.t 0), none⟩, ⟨some 11, .call false 43 [(.t 10)], none⟩, ⟨some 9, .mov (.t 11), none⟩, ⟨some 12, .ext (.t 9) 0, none⟩, ⟨some 13, .ext (.t 9) 1, none⟩, ⟨some 14, .ext (.t 9) 2, none⟩, ⟨some 5, .mov (.t 12), none⟩, ⟨some 6, .mov (.t 13), none⟩, ⟨some 7, .mov (.t 14), none⟩])
 (.seq (.seq (.reg [⟨some 15, .mov (.t 7), none⟩, ⟨some 16, .bin .neq (.t 15) (.k (.i .i64 0)), none⟩])
 (.cond (.t 16)
 (.seq (.reg [⟨some 17, .build [(.i .i64 0), (.s []), (.i .i64 0), (.s []), (.s []), (.sl [] 0 .nil), (.s []), (.b false), (.i .i64 0), (.i .i64 0)] [], none⟩, ⟨some 18, .mov (.t 6), none⟩, ⟨some 19, .mov (.t 7), none⟩, ⟨none, .store 10 (.t 2) (.t 17), none⟩, ⟨some 3, .mov (.t 18), none⟩, ⟨some 4, .mov (.t 19), none⟩])
 .ret)
 .skip))
 (.seq (.reg [⟨some 20, .mov (.t 5), none⟩, ⟨some 21, .build [.nilp, (.i .i64 0), (.s []), (.i .i64 0), (.s []), (.s []), (.sl [] 0 .nil), (.s []), (.b false), (.i .i64 0), (.i .i64 0)] [(0, 1, (.t 20))], none⟩, ⟨some 22, .box 91 (.t 21), none⟩, ⟨some 8, .mov (.t 22), none⟩])
 (.seq (.seq (.reg [⟨some 24, .mov (.t 8), none⟩, ⟨some 25, .call false 44 [(.t 24)], none⟩, ⟨some 23, .mov (.t 25), none⟩, ⟨some 26, .ext (.t 23) 0, none⟩, ⟨some 27, .ext (.t 23) 1, none⟩, ⟨some 6, .mov (.t 26), none⟩, ⟨some 7, .mov (.t 27), none⟩])
 (.seq (.reg [⟨some 28, .mov (.t 7), none⟩, ⟨some 29, .bin .neq (.t 28) (.k (.i .i64 0)), none⟩])
 (.cond (.t 29)
 (.seq (.reg [⟨some 30, .build [(.i .i64 0), (.s []), (.i .i64 0), (.s []), (.s []), (.sl [] 0 .nil), (.s []), (.b false), (.i .i64 0), (.i .i64 0)] [], none⟩, ⟨some 31, .mov (.t 6), none⟩, ⟨some 32, .mov (.t 7), none⟩, ⟨none, .store 10 (.t 2) (.t 30), none⟩, ⟨some 3, .mov (.t 31), none⟩, ⟨some 4, .mov (.t 32), none⟩])
 .ret)
 .skip)))
 (.seq (.seq (.reg [⟨some 33, .mov (.t 8), none⟩, ⟨some 34, .nilck (.t 33), none⟩, ⟨some 35, .faddr 1 (.t 34), none⟩, ⟨some 36, .load true 10 (.t 35), none⟩, ⟨some 37, .call true 8 [(.t 36)], none⟩, ⟨some 7, .mov (.t 37), none⟩])
 (.seq (.reg [⟨some 38, .mov (.t 7), none⟩, ⟨some 39, .bin .neq (.t 38) (.k (.i .i64 0)), none⟩])
 (.cond (.t 39)
 (.seq (.reg [⟨some 40, .build [(.i .i64 0), (.s []), (.i .i64 0), (.s []), (.s []), (.sl [] 0 .nil), (.s []), (.b false), (.i .i64 0), (.i .i64 0)] [], none⟩, ⟨some 41, .mov (.t 7), none⟩, ⟨none, .store 10 (.t 2) (.t 40), none⟩, ⟨some 3, .mov (.k (.i .i64 0)), none⟩, ⟨some 4, .mov (.t 41), none⟩])
 .ret)
 .skip)))
 (.seq (.reg [⟨some 42, .mov (.t 8), none⟩, ⟨some 43, .nilck (.t 42), none⟩, ⟨some 44, .faddr 1 (.t 43), none⟩, ⟨some 45, .load true 10 (.t 44), none⟩, ⟨none, .store 10 (.t 2) (.t 45), none⟩, ⟨some 3, .mov (.k (.i .i64 0)), none⟩, ⟨some 4, .mov (.k (.i .i64 0)), none⟩])
 .ret)))))))
/-- tidemark/query.Parse -/
def af20 : AFunc := { n := 46, depth := 6, kl := [(2, [2])], res := [.cell 2 true 10, .tmp 3, .tmp 4], body := B20 }

def L22_1 : AC := (.seq (.reg [⟨some 42, .bin .lss (.t 41) (.t 40), none⟩])
 (.seq (.cond (.t 42)
 .skip
 (.exit 0))
 (.seq (.blk 1 (.seq (.reg [⟨some 43, .iaddr (.slice 4) (.t 39) (.t 41), none⟩, ⟨some 44, .load true 4 (.t 43), none⟩, ⟨some 8, .lalloc [(.i .i64 0), (.s []), (.s []), (.sl [] 0 .nil)] [8], none⟩, ⟨none, .store 4 (.t 8) (.t 44), none⟩])
 (.seq (.reg [⟨some 45, .load true 4 (.t 8), none⟩, ⟨some 46, .mov (.t 1), none⟩, ⟨some 47, .bin .add (.t 46) (.k (.i .i64 1)), none⟩, ⟨some 48, .mov (.t 2), none⟩, ⟨some 49, .call false 22 [(.t 45), (.t 47), (.t 48)], none⟩, ⟨some 50, .un .not (.t 49), none⟩])
 (.cond (.t 50)
 (.seq (.reg [⟨some 6, .mov (.k (.b false)), none⟩])
 .ret)
 .skip))))
 (.reg [⟨some 51, .bin .add (.t 41) (.k (.i .i64 1)), none⟩, ⟨some 41, .mov (.t 51), none⟩]))))
def B22 : AC := (.seq (.reg [⟨some 3, .lbox (.t 0) [3, 12, 17, 33, 38], none⟩, ⟨some 6, .mov (.k (.b false)), none⟩])
 (.seq (.reg [⟨some 9, .mov (.t 2), none⟩, ⟨some 10, .nilck (.t 9), none⟩, ⟨some 11, .load false 1 (.t 10), none⟩, ⟨some 12, .faddr 1 (.t 3), none⟩, ⟨some 13, .load false 1 (.t 12), none⟩, ⟨some 14, .len .str (.t 13), none⟩, ⟨some 15, .minmax false (.t 14) (.k (.i .i64 8192)), none⟩, ⟨some 16, .bin .add (.k (.i .i64 1)) (.t 15), none⟩, ⟨some 17, .faddr 2 (.t 3), none⟩, ⟨some 18, .load false 1 (.t 17), none⟩, ⟨some 19, .len .str (.t 18), none⟩, ⟨some 20, .minmax false (.t 19) (.k (.i .i64 8192)), none⟩, ⟨some 21, .bin .add (.t 16) (.t 20), none⟩, ⟨some 22, .bin .add (.t 11) (.t 21), none⟩, ⟨some 23, .nilck (.t 9), none⟩, ⟨none, .store 1 (.t 23) (.t 22), none⟩])
 (.seq (.seq (.reg [⟨some 24, .mov (.t 2), none⟩, ⟨some 25, .nilck (.t 24), none⟩, ⟨some 26, .load false 1 (.t 25), none⟩, ⟨some 27, .bin .gtr (.t 26) (.k (.i .i64 8192)), none⟩, ⟨some 28, .mov (.t 27), none⟩, ⟨some 29, .mov (.t 1), some (28, false)⟩,
 ⟨some 30, .bin .gtr (.t 29) (.k (.i .i64 50)), some (28, false)⟩,
 ⟨some 31, .pick (.t 28) (.k (.b true)) (.t 30), none⟩, ⟨some 32, .mov (.t 31), none⟩, ⟨some 33, .faddr 3 (.t 3), some (32, false)⟩,
 ⟨some 34, .load false 1 (.t 33), some (32, false)⟩,
 ⟨some 35, .len .slice (.t 34), some (32, false)⟩,
 ⟨some 36, .bin .gtr (.t 35) (.k (.i .i64 500)), some (32, false)⟩,
 ⟨some 37, .pick (.t 32) (.k (.b true)) (.t 36), none⟩])
 (.cond (.t 37)
 (.seq (.reg [⟨some 6, .mov (.k (.b false)), none⟩])
 .ret)
 .skip))
 (.seq (.seq (.reg [⟨some 38, .faddr 3 (.t 3), none⟩, ⟨some 39, .load false 1 (.t 38), none⟩, ⟨some 40, .len .slice (.t 39), none⟩, ⟨some 41, .mov (.k (.i .i64 0)), none⟩])
 (.blk 0 (.loop L22_1)))
 (.seq (.reg [⟨some 6, .mov (.k (.b true)), none⟩])
 .ret)))))
/-- tidemark/tidemarklaw16.weigh -/
def af22 : AFunc := { n := 52, depth := 6, kl := [(3, [3, 12, 17, 33, 38]), (8, [8])], res := [.tmp 6], body := B22 }

def B23 : AC := (.seq (.reg [⟨some 1, .lbox (.t 0) [1], none⟩, ⟨some 2, .mov (.k (.i .i64 0)), none⟩])
 (.seq (.reg [⟨some 6, .load true 4 (.t 1), none⟩, ⟨some 7, .call false 46 [(.t 6)], none⟩, ⟨some 5, .mov (.t 7), none⟩, ⟨some 8, .ext (.t 5) 0, none⟩, ⟨some 9, .ext (.t 5) 1, none⟩, ⟨some 3, .mov (.t 8), none⟩, ⟨some 4, .mov (.t 9), none⟩])
 (.seq (.reg [⟨some 10, .mov (.t 4), none⟩, ⟨some 2, .mov (.t 10), none⟩])
 .ret)))
/-- tidemark/filter.Check -/
def af23 : AFunc := { n := 11, depth := 4, kl := [(1, [1])], res := [.tmp 2], body := B23 }

def B24 : AC := (.seq (.reg [⟨some 2, .mov (.k (.b false)), none⟩])
 (.seq (.reg [⟨some 3, .mov (.t 0), none⟩, ⟨some 4, .bin .eql (.t 3) (.k (.s [])), none⟩, ⟨some 5, .mov (.t 4), none⟩, ⟨some 6, .mov (.t 0), some (5, false)⟩,
 ⟨some 7, .call true 25 [(.t 6)], some (5, false)⟩,
 ⟨some 8, .bin .eql (.t 7) (.k (.i .i64 0)), some (5, false)⟩,
 ⟨some 9, .pick (.t 5) (.k (.b true)) (.t 8), none⟩, ⟨some 2, .mov (.t 9), none⟩])
 .ret))
/-- tidemark/query.Check$1 -/
def af24 : AFunc := { n := 10, depth := 4, kl := [], res := [.tmp 2], body := B24 }

def B25 : AC := (.seq (.reg [⟨some 2, .mov (.k (.i .i64 0)), none⟩])
 (.seq (.seq (.reg [⟨some 3, .mov (.t 0), none⟩, ⟨some 4, .call true 47 [(.t 3), (.k (.i .i64 1)), (.k (.i .i64 8)), (.f 48)], none⟩, ⟨some 5, .un .not (.t 4), none⟩])
 (.cond (.t 5)
 (.seq (.reg [⟨some 2, .mov (.k (.i .i64 22)), none⟩])
 .ret)
 .skip))
 (.seq (.reg [⟨some 2, .mov (.k (.i .i64 0)), none⟩])
 .ret)))
/-- tidemark/text.Name -/
def af25 : AFunc := { n := 6, depth := 3, kl := [], res := [.tmp 2], body := B25 }

def B26 : AC := (.seq (.reg [⟨some 1, .lbox (.t 0) [1], none⟩, ⟨some 2, .mov (.k (.i .i64 0)), none⟩])
 (.seq (.reg [⟨some 6, .load true 4 (.t 1), none⟩, ⟨some 7, .call true 49 [(.t 6), (.k (.i .i64 0)), (.k (.i .i64 0))], none⟩, ⟨some 5, .mov (.t 7), none⟩, ⟨some 8, .ext (.t 5) 0, none⟩, ⟨some 9, .ext (.t 5) 1, none⟩, ⟨some 3, .mov (.t 8), none⟩, ⟨some 4, .mov (.t 9), none⟩])
 (.seq (.reg [⟨some 10, .mov (.t 4), none⟩, ⟨some 2, .mov (.t 10), none⟩])
 .ret)))
/-- tidemark/tidemarkref07.Check -/
def af26 : AFunc := { n := 11, depth := 4, kl := [(1, [1])], res := [.tmp 2], body := B26 }

def B27 : AC := (.seq (.reg [⟨some 2, .mov (.k (.b false)), none⟩])
 (.seq (.reg [⟨some 3, .mov (.t 0), none⟩, ⟨some 4, .bin .eql (.t 3) (.k (.s [])), none⟩, ⟨some 5, .mov (.t 4), none⟩, ⟨some 6, .mov (.t 0), some (5, false)⟩,
 ⟨some 7, .call true 50 [(.t 6)], some (5, false)⟩,
 ⟨some 8, .bin .eql (.t 7) (.k (.i .i64 0)), some (5, false)⟩,
 ⟨some 9, .pick (.t 5) (.k (.b true)) (.t 8), none⟩, ⟨some 2, .mov (.t 9), none⟩])
 .ret))
/-- tidemark/tidemarkref16.name -/
def af27 : AFunc := { n := 10, depth := 4, kl := [], res := [.tmp 2], body := B27 }

def B28 : AC := (.seq (.reg [⟨some 5, .mov (.k (.sl [] 0 .nil)), none⟩])
 (.seq (.reg [⟨some 6, .load false 1 (.t 2), none⟩, ⟨some 5, .mov (.t 6), none⟩])
 .ret))
/-- tidemark/query.Over$1 -/
def af28 : AFunc := { n := 7, depth := 3, kl := [], res := [.tmp 5], body := B28 }

def L29_2 : AC := (.seq (.reg [⟨some 59, .bin .lss (.t 58) (.t 57), none⟩])
 (.seq (.cond (.t 59)
 .skip
 (.exit 2))
 (.seq (.blk 3 (.seq (.reg [⟨some 60, .iaddr (.slice 2) (.t 56) (.t 58), none⟩, ⟨some 61, .load true 2 (.t 60), none⟩, ⟨some 15, .lalloc [(.s []), (.s [])] [15, 63, 65], none⟩, ⟨none, .store 2 (.t 15) (.t 61), none⟩])
 (.reg [⟨some 62, .mov (.t 13), none⟩, ⟨some 63, .faddr 1 (.t 15), none⟩, ⟨some 64, .load false 1 (.t 63), none⟩, ⟨some 65, .faddr 0 (.t 15), none⟩, ⟨some 66, .load false 1 (.t 65), none⟩, ⟨some 67, .bslice false 9 1 1 [(.s [])] [(0, (.t 66))], none⟩, ⟨some 68, .build [(.s []), (.sl [] 0 .nil), (.i .i64 0)] [(0, 1, (.t 64)), (1, 1, (.t 67)), (2, 1, (.k (.i .i64 1)))], none⟩, ⟨some 69, .bslice false 60 3 1 [(.s []), (.sl [] 0 .nil), (.i .i64 0)] [(0, (.t 68))], none⟩, ⟨some 70, .app 60 3 (.t 62) (.t 69), none⟩, ⟨some 13, .mov (.t 70), none⟩])))
 (.reg [⟨some 71, .bin .add (.t 58) (.k (.i .i64 1)), none⟩, ⟨some 58, .mov (.t 71), none⟩]))))
def L29_1 : AC := (.seq (.reg [⟨some 21, .bin .lss (.t 20) (.t 19), none⟩])
 (.seq (.cond (.t 21)
 .skip
 (.exit 0))
 (.seq (.blk 1 (.seq (.reg [⟨some 22, .iaddr (.slice 2) (.t 18) (.t 20), none⟩, ⟨some 23, .load true 2 (.t 22), none⟩, ⟨some 10, .lalloc [(.s []), (.s [])] [10], none⟩, ⟨none, .store 2 (.t 10) (.t 23), none⟩])
 (.seq (.reg [⟨some 24, .faddr 2 (.t 3), none⟩, ⟨some 25, .load true 4 (.t 24), none⟩, ⟨some 26, .load true 2 (.t 10), none⟩, ⟨some 27, .call true 53 [(.t 26)], none⟩, ⟨some 28, .call true 52 [(.t 25), (.t 27)], none⟩])
 (.cond (.t 28)
 (.reg [⟨some 29, .mov (.t 8), none⟩, ⟨some 30, .load true 2 (.t 10), none⟩, ⟨some 31, .bslice false 35 2 1 [(.s []), (.s [])] [(0, (.t 30))], none⟩, ⟨some 32, .app 35 2 (.t 29) (.t 31), none⟩, ⟨some 8, .mov (.t 32), none⟩])
 .skip))))
 (.reg [⟨some 33, .bin .add (.t 20) (.k (.i .i64 1)), none⟩, ⟨some 20, .mov (.t 33), none⟩]))))
def B29 : AC := (.seq (.reg [⟨some 3, .box 26 (.t 0), none⟩, ⟨some 4, .lbox (.t 1) [4], none⟩, ⟨some 5, .lbox (.t 2) [5], none⟩, ⟨some 6, .mov (.k (.sl [] 0 .nil)), none⟩, ⟨some 7, .mov (.k (.i .i64 0)), none⟩])
 (.seq (.reg [⟨some 8, .movnil 35, none⟩])
 (.seq (.seq (.reg [⟨some 16, .load true 3 (.t 4), none⟩, ⟨some 17, .load true 3 (.t 5), none⟩, ⟨some 18, .call false 51 [(.t 16), (.t 17)], none⟩, ⟨some 19, .len .slice (.t 18), none⟩, ⟨some 20, .mov (.k (.i .i64 0)), none⟩])
 (.blk 0 (.loop L29_1)))
 (.seq (.seq (.reg [⟨some 34, .faddr 0 (.t 3), none⟩, ⟨some 35, .load false 1 (.t 34), none⟩, ⟨some 36, .bin .neq (.t 35) (.k (.i .i64 0)), none⟩])
 (.cond (.t 36)
 (.seq (.reg [⟨some 38, .load true 10 (.t 3), none⟩, ⟨some 39, .mov (.t 8), none⟩, ⟨some 40, .call true 54 [(.t 38), (.t 39)], none⟩, ⟨some 37, .mov (.t 40), none⟩, ⟨some 41, .ext (.t 37) 0, none⟩, ⟨some 42, .ext (.t 37) 1, none⟩, ⟨some 11, .mov (.t 41), none⟩, ⟨some 12, .mov (.t 42), none⟩])
 (.seq (.seq (.reg [⟨some 43, .mov (.t 12), none⟩, ⟨some 44, .bin .neq (.t 43) (.k (.i .i64 0)), none⟩])
 (.cond (.t 44)
 (.seq (.reg [⟨some 45, .mov (.t 12), none⟩, ⟨some 6, .mov (.k (.sl [] 0 .nil)), none⟩, ⟨some 7, .mov (.t 45), none⟩])
 .ret)
 .skip))
 (.seq (.seq (.reg [⟨some 46, .faddr 7 (.t 3), none⟩, ⟨some 47, .load false 1 (.t 46), none⟩])
 (.cond (.t 47)
 (.reg [⟨some 48, .mov (.t 11), none⟩, ⟨some 49, .call false 55 [(.t 48)], none⟩])
 .skip))
 (.seq (.reg [⟨some 50, .load true 10 (.t 3), none⟩, ⟨some 51, .mov (.t 11), none⟩, ⟨some 52, .call true 56 [(.t 50), (.t 51)], none⟩, ⟨some 6, .mov (.t 52), none⟩, ⟨some 7, .mov (.k (.i .i64 0)), none⟩])
 .ret))))
 .skip))
 (.seq (.reg [⟨some 53, .mov (.t 8), none⟩, ⟨some 54, .mkfn 58 [] [(.t 3)], none⟩, ⟨some 55, .call false 57 [(.t 53), (.t 54)], none⟩])
 (.seq (.reg [⟨some 13, .movnil 60, none⟩])
 (.seq (.seq (.reg [⟨some 56, .mov (.t 8), none⟩, ⟨some 57, .len .slice (.t 56), none⟩, ⟨some 58, .mov (.k (.i .i64 0)), none⟩])
 (.blk 2 (.loop L29_2)))
 (.seq (.reg [⟨some 72, .load true 10 (.t 3), none⟩, ⟨some 73, .mov (.t 13), none⟩, ⟨some 74, .call true 56 [(.t 72), (.t 73)], none⟩, ⟨some 6, .mov (.t 74), none⟩, ⟨some 7, .mov (.k (.i .i64 0)), none⟩])
 .ret))))))))
/-- tidemark/query.run -/
def af29 : AFunc := { n := 75, depth := 7, kl := [(4, [4]), (5, [5]), (10, [10]), (15, [15, 63, 65])], res := [.tmp 6, .tmp 7], body := B29 }

def B35 : AC := (.seq (.reg [⟨some 1, .box 79 (.t 0), none⟩, ⟨some 2, .lalloc [.nilf, .nilf, .nilf] [2], none⟩])
 (.seq (.reg [⟨some 4, .mkfn 65 [] [(.t 1)], none⟩, ⟨some 3, .alloc 61 [.nilf], none⟩, ⟨none, .store 1 (.t 3) (.t 4), none⟩])
 (.seq (.reg [⟨some 5, .load false 1 (.t 3), none⟩, ⟨some 6, .mkfn 66 [] [(.t 3)], none⟩, ⟨some 7, .mkfn 67 [] [(.t 1)], none⟩, ⟨some 8, .build [.nilf, .nilf, .nilf] [(0, 1, (.t 5)), (1, 1, (.t 6)), (2, 1, (.t 7))], none⟩, ⟨none, .store 3 (.t 2) (.t 8), none⟩])
 .ret)))
/-- tidemark/query.of -/
def af35 : AFunc := { n := 9, depth := 4, kl := [(2, [2])], res := [.cell 2 true 3], body := B35 }

def L36_2 : AC := (.seq (.reg [⟨some 43, .bin .lss (.t 42) (.t 41), none⟩])
 (.seq (.cond (.t 43)
 .skip
 (.exit 2))
 (.seq (.blk 3 (.seq (.reg [⟨some 44, .iaddr (.slice 4) (.t 40) (.t 42), none⟩, ⟨some 45, .load true 4 (.t 44), none⟩, ⟨some 12, .lalloc [(.i .i64 0), (.s []), (.s []), (.sl [] 0 .nil)] [12, 46, 50, 57], none⟩, ⟨none, .store 4 (.t 12) (.t 45), none⟩])
 (.seq (.reg [⟨some 46, .faddr 0 (.t 12), none⟩, ⟨some 47, .load false 1 (.t 46), none⟩, ⟨some 48, .bin .eql (.t 47) (.k (.i .i64 1)), none⟩, ⟨some 49, .mov (.t 48), none⟩, ⟨some 50, .faddr 2 (.t 12), some (49, true)⟩,
 ⟨some 51, .load false 1 (.t 50), some (49, true)⟩,
 ⟨some 52, .len .str (.t 51), some (49, true)⟩,
 ⟨some 53, .mov (.t 10), some (49, true)⟩,
 ⟨some 54, .len .str (.t 53), some (49, true)⟩,
 ⟨some 55, .bin .gtr (.t 52) (.t 54), some (49, true)⟩,
 ⟨some 56, .pick (.t 49) (.t 55) (.k (.b false)), none⟩])
 (.cond (.t 56)
 (.reg [⟨some 57, .faddr 2 (.t 12), none⟩, ⟨some 58, .load false 1 (.t 57), none⟩, ⟨some 10, .mov (.t 58), none⟩])
 .skip))))
 (.reg [⟨some 59, .bin .add (.t 42) (.k (.i .i64 1)), none⟩, ⟨some 42, .mov (.t 59), none⟩]))))
def L36_1 : AC := (.seq (.reg [⟨some 18, .bin .lss (.t 17) (.t 16), none⟩])
 (.seq (.cond (.t 18)
 .skip
 (.exit 0))
 (.seq (.blk 1 (.seq (.reg [⟨some 19, .iaddr (.slice 4) (.t 15) (.t 17), none⟩, ⟨some 20, .load true 4 (.t 19), none⟩, ⟨some 7, .lalloc [(.i .i64 0), (.s []), (.s []), (.sl [] 0 .nil)] [7, 21, 27, 33, 35], none⟩, ⟨none, .store 4 (.t 7) (.t 20), none⟩])
 (.seq (.reg [⟨some 21, .faddr 0 (.t 7), none⟩, ⟨some 22, .load false 1 (.t 21), none⟩, ⟨some 23, .bin .eql (.t 22) (.k (.i .i64 2)), none⟩])
 (.cond (.t 23)
 (.seq (.reg [⟨some 25, .faddr 2 (.t 3), none⟩, ⟨some 26, .load false 1 (.t 25), none⟩, ⟨some 27, .faddr 1 (.t 7), none⟩, ⟨some 28, .load false 1 (.t 27), none⟩, ⟨some 29, .callv false (.t 26) [(.t 28)], none⟩, ⟨some 24, .mov (.t 29), none⟩, ⟨some 30, .ext (.t 24) 0, none⟩, ⟨some 31, .ext (.t 24) 1, none⟩, ⟨some 8, .mov (.t 30), none⟩, ⟨some 9, .mov (.t 31), none⟩])
 (.seq (.reg [⟨some 32, .mov (.t 9), none⟩])
 (.cond (.t 32)
 (.seq (.reg [⟨some 33, .faddr 1 (.t 7), none⟩, ⟨some 34, .load false 1 (.t 33), none⟩, ⟨some 35, .faddr 2 (.t 7), none⟩, ⟨some 36, .load false 1 (.t 35), none⟩, ⟨some 37, .build [(.i .i64 0), (.s []), (.s [])] [(0, 1, (.k (.i .i64 2))), (1, 1, (.t 34)), (2, 1, (.t 36))], none⟩, ⟨some 38, .build [(.i .i64 0), (.s []), (.s [])] [(0, 3, (.t 37))], none⟩, ⟨none, .store 3 (.t 4) (.t 38), none⟩])
 .ret)
 .skip)))
 .skip))))
 (.reg [⟨some 39, .bin .add (.t 17) (.k (.i .i64 1)), none⟩, ⟨some 17, .mov (.t 39), none⟩]))))
def B36 : AC := (.seq (.reg [⟨some 2, .lbox (.t 0) [2], none⟩, ⟨some 3, .lbox (.t 1) [3, 25], none⟩, ⟨some 4, .lalloc [(.i .i64 0), (.s []), (.s [])] [4], none⟩])
 (.seq (.reg [⟨some 13, .load true 4 (.t 2), none⟩, ⟨some 14, .call true 68 [(.t 13)], none⟩, ⟨some 5, .mov (.t 14), none⟩])
 (.seq (.seq (.reg [⟨some 15, .mov (.t 5), none⟩, ⟨some 16, .len .slice (.t 15), none⟩, ⟨some 17, .mov (.k (.i .i64 0)), none⟩])
 (.blk 0 (.loop L36_1)))
 (.seq (.reg [⟨some 10, .mov (.k (.s [])), none⟩])
 (.seq (.seq (.reg [⟨some 40, .mov (.t 5), none⟩, ⟨some 41, .len .slice (.t 40), none⟩, ⟨some 42, .mov (.k (.i .i64 0)), none⟩])
 (.blk 2 (.loop L36_2)))
 (.seq (.seq (.reg [⟨some 60, .mov (.t 10), none⟩, ⟨some 61, .bin .neq (.t 60) (.k (.s [])), none⟩])
 (.cond (.t 61)
 (.seq (.reg [⟨some 62, .mov (.t 10), none⟩, ⟨some 63, .build [(.i .i64 0), (.s []), (.s [])] [(0, 1, (.k (.i .i64 1))), (2, 1, (.t 62))], none⟩, ⟨some 64, .build [(.i .i64 0), (.s []), (.s [])] [(0, 3, (.t 63))], none⟩, ⟨none, .store 3 (.t 4) (.t 64), none⟩])
 .ret)
 .skip))
 (.seq (.reg [⟨some 65, .build [(.i .i64 0), (.s []), (.s [])] [(0, 1, (.k (.i .i64 0)))], none⟩, ⟨some 66, .build [(.i .i64 0), (.s []), (.s [])] [(0, 3, (.t 65))], none⟩, ⟨none, .store 3 (.t 4) (.t 66), none⟩])
 .ret)))))))
/-- tidemark/query.choose -/
def af36 : AFunc := { n := 67, depth := 7, kl := [(2, [2]), (3, [3, 25]), (4, [4]), (7, [7, 21, 27, 33, 35]), (12, [12, 46, 50, 57])], res := [.cell 4 true 3], body := B36 }

def B43 : AC := (.seq (.reg [⟨some 2, .mov (.k .nilp), none⟩, ⟨some 3, .mov (.k (.i .i64 0)), none⟩, ⟨some 4, .mov (.k (.i .i64 0)), none⟩])
 (.seq (.reg [⟨some 9, .mov (.t 0), none⟩, ⟨some 10, .call true 75 [(.t 9)], none⟩, ⟨some 8, .mov (.t 10), none⟩, ⟨some 11, .ext (.t 8) 0, none⟩, ⟨some 12, .ext (.t 8) 1, none⟩, ⟨some 13, .ext (.t 8) 2, none⟩, ⟨some 5, .mov (.t 11), none⟩, ⟨some 6, .mov (.t 12), none⟩, ⟨some 7, .mov (.t 13), none⟩])
 (.seq (.seq (.reg [⟨some 14, .mov (.t 7), none⟩, ⟨some 15, .bin .neq (.t 14) (.k (.i .i64 0)), none⟩])
 (.cond (.t 15)
 (.seq (.reg [⟨some 16, .mov (.t 6), none⟩, ⟨some 17, .mov (.t 7), none⟩, ⟨some 2, .mov (.k .nilp), none⟩, ⟨some 3, .mov (.t 16), none⟩, ⟨some 4, .mov (.t 17), none⟩])
 .ret)
 .skip))
 (.seq (.reg [⟨some 18, .mov (.t 5), none⟩, ⟨some 19, .mov (.t 0), none⟩, ⟨some 20, .len .str (.t 19), none⟩, ⟨some 21, .build [(.sl [] 0 .nil), (.i .i64 0), (.i .i64 0), (.b false)] [(0, 1, (.t 18)), (2, 1, (.t 20)), (3, 1, (.k (.b true)))], none⟩, ⟨some 22, .box 141 (.t 21), none⟩, ⟨some 2, .mov (.t 22), none⟩, ⟨some 3, .mov (.k (.i .i64 0)), none⟩, ⟨some 4, .mov (.k (.i .i64 0)), none⟩])
 .ret))))
/-- tidemark/lang.Read -/
def af43 : AFunc := { n := 23, depth := 5, kl := [], res := [.tmp 2, .tmp 3, .tmp 4], body := B43 }

def B44 : AC := (.seq (.reg [⟨some 2, .mov (.k (.i .i64 0)), none⟩, ⟨some 3, .mov (.k (.i .i64 0)), none⟩])
 (.seq (.reg [⟨some 9, .mov (.t 0), none⟩, ⟨some 10, .nilck (.t 9), none⟩, ⟨some 11, .faddr 0 (.t 10), none⟩, ⟨some 12, .load false 1 (.t 11), none⟩, ⟨some 13, .call false 76 [(.t 12)], none⟩, ⟨some 4, .lalloc [(.i .i64 0), (.s []), (.i .i64 0)] [4, 15, 28, 32], none⟩, ⟨none, .store 3 (.t 4) (.t 13), none⟩])
 (.seq (.seq (.reg [⟨some 14, .mov (.t 0), none⟩, ⟨some 15, .faddr 1 (.t 4), none⟩, ⟨some 16, .load false 1 (.t 15), none⟩, ⟨some 17, .call true 77 [(.t 16)], none⟩, ⟨some 18, .nilck (.t 14), none⟩, ⟨some 19, .faddr 1 (.t 18), none⟩, ⟨some 20, .faddr 0 (.t 19), none⟩, ⟨none, .store 1 (.t 20) (.t 17), none⟩])
 (.seq (.reg [⟨some 21, .mov (.t 0), none⟩, ⟨some 22, .nilck (.t 21), none⟩, ⟨some 23, .faddr 1 (.t 22), none⟩, ⟨some 24, .faddr 0 (.t 23), none⟩, ⟨some 25, .load false 1 (.t 24), none⟩, ⟨some 26, .bin .lss (.t 25) (.k (.i .i64 0)), none⟩, ⟨some 27, .mov (.t 26), none⟩, ⟨some 28, .faddr 0 (.t 4), some (27, false)⟩,
 ⟨some 29, .load false 1 (.t 28), some (27, false)⟩,
 ⟨some 30, .bin .neq (.t 29) (.k (.i .i64 1)), some (27, false)⟩,
 ⟨some 31, .pick (.t 27) (.k (.b true)) (.t 30), none⟩])
 (.cond (.t 31)
 (.seq (.reg [⟨some 32, .faddr 2 (.t 4), none⟩, ⟨some 33, .load false 1 (.t 32), none⟩, ⟨some 2, .mov (.t 33), none⟩, ⟨some 3, .mov (.k (.i .i64 192)), none⟩])
 .ret)
 .skip)))
 (.seq (.reg [⟨some 34, .mov (.t 0), none⟩, ⟨some 35, .nilck (.t 34), none⟩, ⟨some 36, .faddr 0 (.t 35), none⟩, ⟨some 37, .load false 1 (.t 36), none⟩, ⟨some 38, .call false 78 [(.t 37)], none⟩])
 (.seq (.reg [⟨some 5, .mov (.k (.b true)), none⟩])
 (.seq (.seq (.reg [⟨some 39, .mov (.t 0), none⟩, ⟨some 40, .nilck (.t 39), none⟩, ⟨some 41, .faddr 1 (.t 40), none⟩, ⟨some 42, .faddr 0 (.t 41), none⟩, ⟨some 43, .load false 1 (.t 42), none⟩, ⟨some 44, .bin .geq (.t 43) (.k (.i .i64 2)), none⟩])
 (.cond (.t 44)
 (.reg [⟨some 46, .mov (.t 0), none⟩, ⟨some 47, .mov (.t 0), none⟩, ⟨some 48, .call false 79 [(.t 47)], none⟩, ⟨some 45, .mov (.t 48), none⟩, ⟨some 49, .ext (.t 45) 0, none⟩, ⟨some 50, .ext (.t 45) 1, none⟩, ⟨some 51, .nilck (.t 46), none⟩, ⟨some 52, .faddr 1 (.t 51), none⟩, ⟨some 53, .faddr 1 (.t 52), none⟩, ⟨none, .store 1 (.t 53) (.t 49), none⟩, ⟨some 5, .mov (.t 50), none⟩])
 .skip))
 (.seq (.seq (.reg [⟨some 54, .mov (.t 5), none⟩, ⟨some 55, .un .not (.t 54), none⟩])
 (.cond (.t 55)
 (.seq (.reg [⟨some 56, .mov (.t 0), none⟩, ⟨some 57, .nilck (.t 56), none⟩, ⟨some 58, .faddr 0 (.t 57), none⟩, ⟨some 59, .load false 1 (.t 58), none⟩, ⟨some 60, .call false 76 [(.t 59)], none⟩, ⟨some 61, .fld false 2 1 (.t 60), none⟩, ⟨some 2, .mov (.t 61), none⟩, ⟨some 3, .mov (.k (.i .i64 192)), none⟩])
 .ret)
 .skip))
 (.seq (.seq (.reg [⟨some 62, .mov (.t 0), none⟩, ⟨some 63, .nilck (.t 62), none⟩, ⟨some 64, .faddr 0 (.t 63), none⟩, ⟨some 65, .load false 1 (.t 64), none⟩, ⟨some 66, .call false 80 [(.t 65), (.k (.i .i64 1)), (.k (.s [119, 104, 101, 114, 101]))], none⟩])
 (.cond (.t 66)
 (.seq (.reg [⟨some 68, .mov (.t 0), none⟩, ⟨some 69, .nilck (.t 68), none⟩, ⟨some 70, .faddr 0 (.t 69), none⟩, ⟨some 71, .load false 1 (.t 70), none⟩, ⟨some 72, .call false 81 [(.t 71)], none⟩, ⟨some 67, .mov (.t 72), none⟩, ⟨some 73, .ext (.t 67) 0, none⟩, ⟨some 74, .ext (.t 67) 1, none⟩, ⟨some 75, .ext (.t 67) 2, none⟩, ⟨some 6, .lalloc [(.i .i64 0), (.s []), (.s []), (.sl [] 0 .nil)] [6], none⟩, ⟨none, .store 4 (.t 6) (.t 73), none⟩, ⟨some 7, .mov (.t 74), none⟩, ⟨some 8, .mov (.t 75), none⟩])
 (.seq (.seq (.reg [⟨some 76, .mov (.t 8), none⟩, ⟨some 77, .bin .neq (.t 76) (.k (.i .i64 0)), none⟩])
 (.cond (.t 77)
 (.seq (.reg [⟨some 78, .mov (.t 7), none⟩, ⟨some 79, .mov (.t 8), none⟩, ⟨some 2, .mov (.t 78), none⟩, ⟨some 3, .mov (.t 79), none⟩])
 .ret)
 .skip))
 (.reg [⟨some 80, .mov (.t 0), none⟩, ⟨some 81, .load true 4 (.t 6), none⟩, ⟨some 82, .nilck (.t 80), none⟩, ⟨some 83, .faddr 1 (.t 82), none⟩, ⟨some 84, .faddr 2 (.t 83), none⟩, ⟨none, .store 4 (.t 84) (.t 81), none⟩])))
 .skip))
 (.seq (.seq (.reg [⟨some 85, .mov (.t 0), none⟩, ⟨some 86, .nilck (.t 85), none⟩, ⟨some 87, .faddr 0 (.t 86), none⟩, ⟨some 88, .load false 1 (.t 87), none⟩, ⟨some 89, .call false 80 [(.t 88), (.k (.i .i64 1)), (.k (.s [98, 121]))], none⟩])
 (.cond (.t 89)
 (.seq (.reg [⟨some 91, .mov (.t 0), none⟩, ⟨some 92, .mov (.t 0), none⟩, ⟨some 93, .call false 79 [(.t 92)], none⟩, ⟨some 90, .mov (.t 93), none⟩, ⟨some 94, .ext (.t 90) 0, none⟩, ⟨some 95, .ext (.t 90) 1, none⟩, ⟨some 96, .nilck (.t 91), none⟩, ⟨some 97, .faddr 1 (.t 96), none⟩, ⟨some 98, .faddr 6 (.t 97), none⟩, ⟨none, .store 1 (.t 98) (.t 94), none⟩, ⟨some 5, .mov (.t 95), none⟩])
 (.seq (.reg [⟨some 99, .mov (.t 5), none⟩, ⟨some 100, .un .not (.t 99), none⟩])
 (.cond (.t 100)
 (.seq (.reg [⟨some 101, .mov (.t 0), none⟩, ⟨some 102, .nilck (.t 101), none⟩, ⟨some 103, .faddr 0 (.t 102), none⟩, ⟨some 104, .load false 1 (.t 103), none⟩, ⟨some 105, .call false 76 [(.t 104)], none⟩, ⟨some 106, .fld false 2 1 (.t 105), none⟩, ⟨some 2, .mov (.t 106), none⟩, ⟨some 3, .mov (.k (.i .i64 192)), none⟩])
 .ret)
 .skip)))
 .skip))
 (.seq (.reg [⟨some 107, .mov (.t 0), none⟩, ⟨some 108, .mov (.t 0), none⟩, ⟨some 109, .nilck (.t 108), none⟩, ⟨some 110, .faddr 0 (.t 109), none⟩, ⟨some 111, .load false 1 (.t 110), none⟩, ⟨some 112, .call false 80 [(.t 111), (.k (.i .i64 1)), (.k (.s [100, 111, 119, 110]))], none⟩, ⟨some 113, .nilck (.t 107), none⟩, ⟨some 114, .faddr 1 (.t 113), none⟩, ⟨some 115, .faddr 7 (.t 114), none⟩, ⟨none, .store 1 (.t 115) (.t 112), none⟩])
 (.seq (.seq (.reg [⟨some 116, .mov (.t 0), none⟩, ⟨some 117, .mov (.t 0), none⟩, ⟨some 118, .nilck (.t 117), none⟩, ⟨some 119, .faddr 1 (.t 118), none⟩, ⟨some 120, .faddr 8 (.t 119), none⟩, ⟨some 121, .call false 82 [(.t 116), (.k (.s [115, 107, 105, 112])), (.t 120)], none⟩, ⟨some 122, .un .not (.t 121), none⟩, ⟨some 123, .mov (.t 122), none⟩, ⟨some 124, .mov (.t 0), some (123, false)⟩,
 ⟨some 125, .mov (.t 0), some (123, false)⟩,
 ⟨some 126, .nilck (.t 125), some (123, false)⟩,
 ⟨some 127, .faddr 1 (.t 126), some (123, false)⟩,
 ⟨some 128, .faddr 9 (.t 127), some (123, false)⟩,
 ⟨some 129, .call false 82 [(.t 124), (.k (.s [102, 105, 114, 115, 116])), (.t 128)], some (123, false)⟩,
 ⟨some 130, .un .not (.t 129), some (123, false)⟩,
 ⟨some 131, .pick (.t 123) (.k (.b true)) (.t 130), none⟩])
 (.cond (.t 131)
 (.seq (.reg [⟨some 132, .mov (.t 0), none⟩, ⟨some 133, .nilck (.t 132), none⟩, ⟨some 134, .faddr 0 (.t 133), none⟩, ⟨some 135, .load false 1 (.t 134), none⟩, ⟨some 136, .call false 76 [(.t 135)], none⟩, ⟨some 137, .fld false 2 1 (.t 136), none⟩, ⟨some 2, .mov (.t 137), none⟩, ⟨some 3, .mov (.k (.i .i64 192)), none⟩])
 .ret)
 .skip))
 (.seq (.seq (.reg [⟨some 138, .mov (.t 0), none⟩, ⟨some 139, .nilck (.t 138), none⟩, ⟨some 140, .faddr 0 (.t 139), none⟩, ⟨some 141, .load false 1 (.t 140), none⟩, ⟨some 142, .call false 76 [(.t 141)], none⟩, ⟨some 143, .fld false 0 1 (.t 142), none⟩, ⟨some 144, .bin .neq (.t 143) (.k (.i .i64 0)), none⟩])
 (.cond (.t 144)
 (.seq (.reg [⟨some 145, .mov (.t 0), none⟩, ⟨some 146, .nilck (.t 145), none⟩, ⟨some 147, .faddr 0 (.t 146), none⟩, ⟨some 148, .load false 1 (.t 147), none⟩, ⟨some 149, .call false 76 [(.t 148)], none⟩, ⟨some 150, .fld false 2 1 (.t 149), none⟩, ⟨some 2, .mov (.t 150), none⟩, ⟨some 3, .mov (.k (.i .i64 3)), none⟩])
 .ret)
 .skip))
 (.seq (.reg [⟨some 2, .mov (.k (.i .i64 0)), none⟩, ⟨some 3, .mov (.k (.i .i64 0)), none⟩])
 .ret)))))))))))))
/-- (*tidemark/query.reader).all -/
def af44 : AFunc := { n := 151, depth := 8, kl := [(4, [4, 15, 28, 32]), (6, [6])], res := [.tmp 2, .tmp 3], body := B44 }

def B46 : AC := (.seq (.reg [⟨some 1, .lbox (.t 0) [1], none⟩, ⟨some 2, .mov (.k .nili), none⟩, ⟨some 3, .mov (.k (.i .i64 0)), none⟩])
 (.seq (.reg [⟨some 4, .alloc 3 [(.i .i64 0)], none⟩, ⟨none, .store 1 (.t 4) (.k (.i .i64 0)), none⟩])
 (.seq (.reg [⟨some 8, .load true 4 (.t 1), none⟩, ⟨some 9, .call false 83 [(.t 8), (.k (.i .i64 1)), (.t 4)], none⟩, ⟨some 7, .mov (.t 9), none⟩, ⟨some 10, .ext (.t 7) 0, none⟩, ⟨some 11, .ext (.t 7) 1, none⟩, ⟨some 5, .mov (.t 10), none⟩, ⟨some 6, .mov (.t 11), none⟩])
 (.seq (.seq (.reg [⟨some 12, .mov (.t 6), none⟩, ⟨some 13, .bin .neq (.t 12) (.k (.i .i64 0)), none⟩])
 (.cond (.t 13)
 (.seq (.reg [⟨some 14, .mov (.t 6), none⟩, ⟨some 2, .mov (.k .nili), none⟩, ⟨some 3, .mov (.t 14), none⟩])
 .ret)
 .skip))
 (.seq (.reg [⟨some 15, .mov (.t 5), none⟩, ⟨some 16, .tas false [181, 183, 185, 186, 190, 192, 193] [9, 47] .nili false (.t 15), none⟩, ⟨some 2, .mov (.t 16), none⟩, ⟨some 3, .mov (.k (.i .i64 0)), none⟩])
 .ret)))))
/-- tidemark/filter.ready -/
def af46 : AFunc := { n := 17, depth := 5, kl := [(1, [1])], res := [.tmp 2, .tmp 3], body := B46 }

def L47_1 : AC := (.seq (.reg [⟨some 14, .next 13, none⟩, ⟨some 15, .ext (.t 14) 0, none⟩])
 (.seq (.cond (.t 15)
 .skip
 (.exit 0))
 (.blk 1 (.seq (.reg [⟨some 16, .ext (.t 14) 2, none⟩, ⟨some 11, .mov (.t 16), none⟩])
 (.seq (.reg [⟨some 17, .mov (.t 9), none⟩, ⟨some 18, .bin .add (.t 17) (.k (.i .i64 1)), none⟩, ⟨some 9, .mov (.t 18), none⟩])
 (.seq (.reg [⟨some 19, .mov (.t 9), none⟩, ⟨some 20, .mov (.t 2), none⟩, ⟨some 21, .bin .gtr (.t 19) (.t 20), none⟩, ⟨some 22, .mov (.t 21), none⟩, ⟨some 23, .mov (.t 3), some (22, false)⟩,
 ⟨some 24, .mov (.t 11), some (22, false)⟩,
 ⟨some 25, .callv true (.t 23) [(.t 24)], some (22, false)⟩,
 ⟨some 26, .un .not (.t 25), some (22, false)⟩,
 ⟨some 27, .pick (.t 22) (.k (.b true)) (.t 26), none⟩])
 (.cond (.t 27)
 (.seq (.reg [⟨some 8, .mov (.k (.b false)), none⟩])
 .ret)
 .skip)))))))
def B47 : AC := (.seq (.reg [⟨some 8, .mov (.k (.b false)), none⟩])
 (.seq (.reg [⟨some 9, .mov (.k (.i .i64 0)), none⟩])
 (.seq (.seq (.reg [⟨some 12, .mov (.t 0), none⟩, ⟨some 13, .range (.t 12), none⟩])
 (.blk 0 (.loop L47_1)))
 (.seq (.reg [⟨some 28, .mov (.t 9), none⟩, ⟨some 29, .mov (.t 1), none⟩, ⟨some 30, .bin .geq (.t 28) (.t 29), none⟩, ⟨some 8, .mov (.t 30), none⟩])
 .ret))))
/-- tidemark/text.all -/
def af47 : AFunc := { n := 31, depth := 5, kl := [], res := [.tmp 8], body := B47 }

def B48 : AC := (.seq (.reg [⟨some 2, .mov (.k (.b false)), none⟩])
 (.seq (.reg [⟨some 3, .mov (.t 0), none⟩, ⟨some 4, .bin .geq (.t 3) (.k (.i .i32 97)), none⟩, ⟨some 5, .mov (.t 4), none⟩, ⟨some 6, .mov (.t 0), some (5, true)⟩,
 ⟨some 7, .bin .leq (.t 6) (.k (.i .i32 122)), some (5, true)⟩,
 ⟨some 8, .pick (.t 5) (.t 7) (.k (.b false)), none⟩, ⟨some 2, .mov (.t 8), none⟩])
 .ret))
/-- tidemark/text.letter -/
def af48 : AFunc := { n := 9, depth := 4, kl := [], res := [.tmp 2], body := B48 }

def L49_1 : AC := (.seq (.reg [⟨some 29, .bin .lss (.t 28) (.t 27), none⟩])
 (.seq (.cond (.t 29)
 .skip
 (.exit 0))
 (.seq (.blk 1 (.seq (.reg [⟨some 30, .iaddr (.slice 4) (.t 26) (.t 28), none⟩, ⟨some 31, .load true 4 (.t 30), none⟩, ⟨some 9, .lalloc [(.i .i64 0), (.s []), (.s []), (.sl [] 0 .nil)] [9], none⟩, ⟨none, .store 4 (.t 9) (.t 31), none⟩])
 (.seq (.reg [⟨some 33, .load true 4 (.t 9), none⟩, ⟨some 34, .mov (.t 1), none⟩, ⟨some 35, .bin .add (.t 34) (.k (.i .i64 1)), none⟩, ⟨some 36, .mov (.t 2), none⟩, ⟨some 37, .call true 49 [(.t 33), (.t 35), (.t 36)], none⟩, ⟨some 32, .mov (.t 37), none⟩, ⟨some 38, .ext (.t 32) 0, none⟩, ⟨some 39, .ext (.t 32) 1, none⟩, ⟨some 10, .mov (.t 38), none⟩, ⟨some 11, .mov (.t 39), none⟩])
 (.seq (.seq (.reg [⟨some 40, .mov (.t 11), none⟩, ⟨some 41, .bin .neq (.t 40) (.k (.i .i64 0)), none⟩])
 (.cond (.t 41)
 (.seq (.reg [⟨some 42, .mov (.t 10), none⟩, ⟨some 43, .mov (.t 11), none⟩, ⟨some 6, .mov (.t 42), none⟩, ⟨some 7, .mov (.t 43), none⟩])
 .ret)
 .skip))
 (.reg [⟨some 44, .mov (.t 10), none⟩, ⟨some 2, .mov (.t 44), none⟩])))))
 (.reg [⟨some 45, .bin .add (.t 28) (.k (.i .i64 1)), none⟩, ⟨some 28, .mov (.t 45), none⟩]))))
def B49 : AC := (.seq (.reg [⟨some 3, .lbox (.t 0) [3, 25], none⟩, ⟨some 6, .mov (.k (.i .i64 0)), none⟩, ⟨some 7, .mov (.k (.i .i64 0)), none⟩])
 (.seq (.seq (.reg [⟨some 12, .mov (.t 1), none⟩, ⟨some 13, .bin .geq (.t 12) (.k (.i .i64 6)), none⟩, ⟨some 14, .mov (.t 13), none⟩, ⟨some 15, .mov (.t 2), some (14, false)⟩,
 ⟨some 16, .bin .geq (.t 15) (.k (.i .i64 24)), some (14, false)⟩,
 ⟨some 17, .pick (.t 14) (.k (.b true)) (.t 16), none⟩])
 (.cond (.t 17)
 (.seq (.reg [⟨some 18, .mov (.t 2), none⟩, ⟨some 6, .mov (.t 18), none⟩, ⟨some 7, .mov (.k (.i .i64 51)), none⟩])
 .ret)
 .skip))
 (.seq (.seq (.reg [⟨some 19, .load true 4 (.t 3), none⟩, ⟨some 20, .call true 84 [(.t 19)], none⟩, ⟨some 21, .un .not (.t 20), none⟩])
 (.cond (.t 21)
 (.seq (.reg [⟨some 22, .mov (.t 2), none⟩, ⟨some 6, .mov (.t 22), none⟩, ⟨some 7, .mov (.k (.i .i64 50)), none⟩])
 .ret)
 .skip))
 (.seq (.reg [⟨some 23, .mov (.t 2), none⟩, ⟨some 24, .bin .add (.t 23) (.k (.i .i64 1)), none⟩, ⟨some 2, .mov (.t 24), none⟩])
 (.seq (.seq (.reg [⟨some 25, .faddr 3 (.t 3), none⟩, ⟨some 26, .load false 1 (.t 25), none⟩, ⟨some 27, .len .slice (.t 26), none⟩, ⟨some 28, .mov (.k (.i .i64 0)), none⟩])
 (.blk 0 (.loop L49_1)))
 (.seq (.reg [⟨some 46, .mov (.t 2), none⟩, ⟨some 6, .mov (.t 46), none⟩, ⟨some 7, .mov (.k (.i .i64 0)), none⟩])
 .ret))))))
/-- tidemark/tidemarkref07.walk -/
def af49 : AFunc := { n := 47, depth := 6, kl := [(3, [3, 25]), (9, [9])], res := [.tmp 6, .tmp 7], body := B49 }

def L50_1 : AC := (.seq (.reg [⟨some 16, .bin .lss (.t 15) (.t 14), none⟩])
 (.seq (.cond (.t 16)
 .skip
 (.exit 0))
 (.seq (.blk 1 (.seq (.reg [⟨some 17, .mov (.t 15), none⟩, ⟨some 4, .mov (.t 17), none⟩])
 (.reg [⟨some 18, .mov (.t 3), none⟩, ⟨some 19, .mov (.t 18), none⟩, ⟨some 20, .mov (.t 0), some (19, true)⟩,
 ⟨some 21, .mov (.t 4), some (19, true)⟩,
 ⟨some 22, .idx .str (.t 20) (.t 21), some (19, true)⟩,
 ⟨some 23, .bin .geq (.t 22) (.k (.i .u8 97)), some (19, true)⟩,
 ⟨some 24, .pick (.t 19) (.t 23) (.k (.b false)), none⟩, ⟨some 25, .mov (.t 24), none⟩, ⟨some 26, .mov (.t 0), some (25, true)⟩,
 ⟨some 27, .mov (.t 4), some (25, true)⟩,
 ⟨some 28, .idx .str (.t 26) (.t 27), some (25, true)⟩,
 ⟨some 29, .bin .leq (.t 28) (.k (.i .u8 122)), some (25, true)⟩,
 ⟨some 30, .pick (.t 25) (.t 29) (.k (.b false)), none⟩, ⟨some 3, .mov (.t 30), none⟩])))
 (.reg [⟨some 31, .bin .add (.t 15) (.k (.i .i64 1)), none⟩, ⟨some 15, .mov (.t 31), none⟩]))))
def B50 : AC := (.seq (.reg [⟨some 2, .mov (.k (.i .i64 0)), none⟩])
 (.seq (.reg [⟨some 5, .mov (.t 0), none⟩, ⟨some 6, .len .str (.t 5), none⟩, ⟨some 7, .bin .geq (.t 6) (.k (.i .i64 1)), none⟩, ⟨some 8, .mov (.t 7), none⟩, ⟨some 9, .mov (.t 0), some (8, true)⟩,
 ⟨some 10, .len .str (.t 9), some (8, true)⟩,
 ⟨some 11, .bin .leq (.t 10) (.k (.i .i64 8)), some (8, true)⟩,
 ⟨some 12, .pick (.t 8) (.t 11) (.k (.b false)), none⟩, ⟨some 3, .mov (.t 12), none⟩])
 (.seq (.seq (.reg [⟨some 13, .mov (.t 0), none⟩, ⟨some 14, .len .str (.t 13), none⟩, ⟨some 15, .mov (.k (.i .i64 0)), none⟩])
 (.blk 0 (.loop L50_1)))
 (.seq (.seq (.reg [⟨some 32, .mov (.t 3), none⟩, ⟨some 33, .un .not (.t 32), none⟩])
 (.cond (.t 33)
 (.seq (.reg [⟨some 2, .mov (.k (.i .i64 22)), none⟩])
 .ret)
 .skip))
 (.seq (.reg [⟨some 2, .mov (.k (.i .i64 0)), none⟩])
 .ret)))))
/-- tidemark/tidemarkref02.Name -/
def af50 : AFunc := { n := 34, depth := 6, kl := [], res := [.tmp 2], body := B50 }

def L51_2 : AC := (.seq (.reg [⟨some 44, .bin .lss (.t 43) (.t 42), none⟩])
 (.seq (.cond (.t 44)
 .skip
 (.exit 3))
 (.seq (.blk 4 (.seq (.reg [⟨some 45, .iaddr (.slice 1) (.t 41) (.t 43), none⟩, ⟨some 46, .load false 1 (.t 45), none⟩, ⟨some 11, .mov (.t 46), none⟩])
 (.seq (.reg [⟨some 48, .faddr 1 (.t 3), none⟩, ⟨some 49, .load false 1 (.t 48), none⟩, ⟨some 50, .mov (.t 11), none⟩, ⟨some 51, .callv false (.t 49) [(.t 50)], none⟩, ⟨some 47, .mov (.t 51), none⟩, ⟨some 52, .ext (.t 47) 0, none⟩, ⟨some 53, .ext (.t 47) 1, none⟩, ⟨some 12, .mov (.t 52), none⟩, ⟨some 13, .mov (.t 53), none⟩])
 (.seq (.reg [⟨some 54, .mov (.t 13), none⟩])
 (.cond (.t 54)
 (.reg [⟨some 55, .mov (.t 5), none⟩, ⟨some 56, .mov (.t 11), none⟩, ⟨some 57, .mov (.t 12), none⟩, ⟨some 58, .build [(.s []), (.s [])] [(0, 1, (.t 56)), (1, 1, (.t 57))], none⟩, ⟨some 59, .bslice false 35 2 1 [(.s []), (.s [])] [(0, (.t 58))], none⟩, ⟨some 60, .app 35 2 (.t 55) (.t 59), none⟩, ⟨some 5, .mov (.t 60), none⟩])
 .skip)))))
 (.reg [⟨some 61, .bin .add (.t 43) (.k (.i .i64 1)), none⟩, ⟨some 43, .mov (.t 61), none⟩]))))
def L51_1 : AC := (.seq (.reg [⟨some 31, .bin .lss (.t 30) (.t 29), none⟩])
 (.seq (.cond (.t 31)
 .skip
 (.exit 1))
 (.seq (.blk 2 (.seq (.reg [⟨some 32, .iaddr (.slice 3) (.t 28) (.t 30), none⟩, ⟨some 33, .load true 3 (.t 32), none⟩, ⟨some 9, .lalloc [(.s []), (.sl [] 0 .nil), (.i .i64 0)] [9, 34, 40], none⟩, ⟨none, .store 3 (.t 9) (.t 33), none⟩])
 (.seq (.seq (.reg [⟨some 34, .faddr 0 (.t 9), none⟩, ⟨some 35, .load false 1 (.t 34), none⟩, ⟨some 36, .faddr 0 (.t 2), none⟩, ⟨some 37, .faddr 2 (.t 36), none⟩, ⟨some 38, .load false 1 (.t 37), none⟩, ⟨some 39, .bin .neq (.t 35) (.t 38), none⟩])
 (.cond (.t 39)
 (.exit 2)
 .skip))
 (.seq (.reg [⟨some 40, .faddr 1 (.t 9), none⟩, ⟨some 41, .load false 1 (.t 40), none⟩, ⟨some 42, .len .slice (.t 41), none⟩, ⟨some 43, .mov (.k (.i .i64 0)), none⟩])
 (.blk 3 (.loop L51_2))))))
 (.reg [⟨some 62, .bin .add (.t 30) (.k (.i .i64 1)), none⟩, ⟨some 30, .mov (.t 62), none⟩]))))
def B51 : AC := (.seq (.reg [⟨some 2, .lbox (.t 0) [2, 14, 15, 22, 23, 36, 37, 68, 69, 71, 72], none⟩, ⟨some 3, .lbox (.t 1) [3, 20, 48, 66, 76], none⟩, ⟨some 4, .movnil 35, none⟩])
 (.seq (.seq (.reg [⟨some 14, .faddr 0 (.t 2), none⟩, ⟨some 15, .faddr 0 (.t 14), none⟩, ⟨some 16, .load false 1 (.t 15), none⟩])
 (.blk 0 (.seq (.reg [⟨some 18, .bin .eql (.t 16) (.k (.i .i64 2)), none⟩, ⟨some 17, .mov (.t 18), none⟩])
 (.cond (.t 17)
 (.seq (.reg [⟨some 5, .movnil 35, none⟩])
 (.seq (.reg [⟨some 20, .faddr 2 (.t 3), none⟩, ⟨some 21, .load false 1 (.t 20), none⟩, ⟨some 22, .faddr 0 (.t 2), none⟩, ⟨some 23, .faddr 1 (.t 22), none⟩, ⟨some 24, .load false 1 (.t 23), none⟩, ⟨some 25, .callv false (.t 21) [(.t 24)], none⟩, ⟨some 19, .mov (.t 25), none⟩, ⟨some 26, .ext (.t 19) 0, none⟩, ⟨some 27, .ext (.t 19) 1, none⟩, ⟨some 6, .mov (.t 26), none⟩, ⟨some 7, .mov (.t 27), none⟩])
 (.seq (.seq (.reg [⟨some 28, .mov (.t 6), none⟩, ⟨some 29, .len .slice (.t 28), none⟩, ⟨some 30, .mov (.k (.i .i64 0)), none⟩])
 (.blk 1 (.loop L51_1)))
 (.seq (.reg [⟨some 63, .mov (.t 5), none⟩, ⟨some 4, .mov (.t 63), none⟩])
 .ret))))
 (.seq (.reg [⟨some 65, .bin .eql (.t 16) (.k (.i .i64 1)), none⟩, ⟨some 64, .mov (.t 65), none⟩])
 (.cond (.t 64)
 (.seq (.reg [⟨some 66, .faddr 0 (.t 3), none⟩, ⟨some 67, .load false 1 (.t 66), none⟩, ⟨some 68, .faddr 0 (.t 2), none⟩, ⟨some 69, .faddr 2 (.t 68), none⟩, ⟨some 70, .load false 1 (.t 69), none⟩, ⟨some 71, .faddr 0 (.t 2), none⟩, ⟨some 72, .faddr 2 (.t 71), none⟩, ⟨some 73, .load false 1 (.t 72), none⟩, ⟨some 74, .call true 85 [(.t 73)], none⟩, ⟨some 75, .callv false (.t 67) [(.t 70), (.t 74)], none⟩, ⟨some 4, .mov (.t 75), none⟩])
 .ret)
 .skip))))))
 (.seq (.reg [⟨some 76, .faddr 0 (.t 3), none⟩, ⟨some 77, .load false 1 (.t 76), none⟩, ⟨some 78, .callv false (.t 77) [(.k (.s [])), (.k (.s []))], none⟩, ⟨some 4, .mov (.t 78), none⟩])
 .ret)))
/-- (tidemark/query.plan).found -/
def af51 : AFunc := { n := 79, depth := 7, kl := [(2, [2, 14, 15, 22, 23, 36, 37, 68, 69, 71, 72]), (3, [3, 20, 48, 66, 76]), (9, [9, 34, 40])], res := [.tmp 4], body := B51 }

def B52 : AC := (.seq (.reg [⟨some 2, .lbox (.t 0) [2], none⟩, ⟨some 3, .lbox (.t 1) [3], none⟩, ⟨some 4, .mov (.k (.b false)), none⟩])
 (.seq (.reg [⟨some 8, .load true 4 (.t 2), none⟩, ⟨some 9, .call false 46 [(.t 8)], none⟩, ⟨some 7, .mov (.t 9), none⟩, ⟨some 10, .ext (.t 7) 0, none⟩, ⟨some 11, .ext (.t 7) 1, none⟩, ⟨some 5, .mov (.t 10), none⟩, ⟨some 6, .mov (.t 11), none⟩])
 (.seq (.reg [⟨some 12, .mov (.t 6), none⟩, ⟨some 13, .bin .eql (.t 12) (.k (.i .i64 0)), none⟩, ⟨some 14, .mov (.t 13), none⟩, ⟨some 15, .mov (.t 5), some (14, true)⟩,
 ⟨some 16, .load true 6 (.t 3), some (14, true)⟩,
 ⟨some 17, .inv false [(181, 226), (183, 227), (185, 229), (186, 230), (190, 231), (192, 232), (193, 233)] (.t 15) [(.t 16)], some (14, true)⟩,
 ⟨some 18, .pick (.t 14) (.t 17) (.k (.b false)), none⟩, ⟨some 4, .mov (.t 18), none⟩])
 .ret)))
/-- tidemark/filter.Holds -/
def af52 : AFunc := { n := 19, depth := 5, kl := [(2, [2]), (3, [3])], res := [.tmp 4], body := B52 }

def B53 : AC := (.seq (.reg [⟨some 1, .lbox (.t 0) [1, 3, 5], none⟩, ⟨some 2, .lalloc [(.i .i64 0), (.s []), (.b false), (.s []), (.b false), (.s [])] [2], none⟩])
 (.seq (.reg [⟨some 3, .faddr 0 (.t 1), none⟩, ⟨some 4, .load false 1 (.t 3), none⟩, ⟨some 5, .faddr 1 (.t 1), none⟩, ⟨some 6, .load false 1 (.t 5), none⟩, ⟨some 7, .build [(.i .i64 0), (.s []), (.b false), (.s []), (.b false), (.s [])] [(1, 1, (.t 4)), (4, 1, (.k (.b true))), (5, 1, (.t 6))], none⟩, ⟨none, .store 6 (.t 2) (.t 7), none⟩])
 .ret))
/-- tidemark/query.event -/
def af53 : AFunc := { n := 8, depth := 4, kl := [(1, [1, 3, 5]), (2, [2])], res := [.cell 2 true 6], body := B53 }

def L54_2 : AC := (.seq (.reg [⟨some 67, .bin .lss (.t 66) (.t 65), none⟩])
 (.seq (.cond (.t 67)
 .skip
 (.exit 2))
 (.seq (.blk 3 (.seq (.reg [⟨some 68, .iaddr (.slice 1) (.t 64) (.t 66), none⟩, ⟨some 69, .load false 1 (.t 68), none⟩, ⟨some 17, .mov (.t 69), none⟩])
 (.seq (.reg [⟨some 71, .load true 10 (.t 2), none⟩, ⟨some 72, .mov (.t 7), none⟩, ⟨some 73, .mov (.t 17), none⟩, ⟨some 74, .mget .str false (.sl [] 0 .nil) (.t 72) (.t 73), none⟩, ⟨some 75, .call true 88 [(.t 71), (.t 74)], none⟩, ⟨some 70, .mov (.t 75), none⟩, ⟨some 76, .ext (.t 70) 0, none⟩, ⟨some 77, .ext (.t 70) 1, none⟩, ⟨some 78, .ext (.t 70) 2, none⟩, ⟨some 18, .lalloc [(.s []), (.sl [] 0 .nil), (.i .i64 0)] [18, 84], none⟩, ⟨none, .store 3 (.t 18) (.t 76), none⟩, ⟨some 19, .mov (.t 77), none⟩, ⟨some 20, .mov (.t 78), none⟩])
 (.seq (.seq (.reg [⟨some 79, .mov (.t 20), none⟩, ⟨some 80, .bin .neq (.t 79) (.k (.i .i64 0)), none⟩])
 (.cond (.t 80)
 (.seq (.reg [⟨some 81, .mov (.t 20), none⟩, ⟨some 4, .movnil 60, none⟩, ⟨some 5, .mov (.t 81), none⟩])
 .ret)
 .skip))
 (.seq (.reg [⟨some 82, .mov (.t 19), none⟩])
 (.cond (.t 82)
 (.seq (.reg [⟨some 83, .mov (.t 17), none⟩, ⟨some 84, .faddr 0 (.t 18), none⟩, ⟨none, .store 1 (.t 84) (.t 83), none⟩])
 (.reg [⟨some 85, .mov (.t 15), none⟩, ⟨some 86, .load true 3 (.t 18), none⟩, ⟨some 87, .bslice false 60 3 1 [(.s []), (.sl [] 0 .nil), (.i .i64 0)] [(0, (.t 86))], none⟩, ⟨some 88, .app 60 3 (.t 85) (.t 87), none⟩, ⟨some 15, .mov (.t 88), none⟩]))
 .skip))))))
 (.reg [⟨some 89, .bin .add (.t 66) (.k (.i .i64 1)), none⟩, ⟨some 66, .mov (.t 89), none⟩]))))
def L54_1 : AC := (.seq (.reg [⟨some 25, .bin .lss (.t 24) (.t 23), none⟩])
 (.seq (.cond (.t 25)
 .skip
 (.exit 0))
 (.seq (.blk 1 (.seq (.reg [⟨some 26, .iaddr (.slice 2) (.t 22) (.t 24), none⟩, ⟨some 27, .load true 2 (.t 26), none⟩, ⟨some 9, .lalloc [(.s []), (.s [])] [9], none⟩, ⟨none, .store 2 (.t 9) (.t 27), none⟩])
 (.seq (.reg [⟨some 10, .mov (.k (.s [])), none⟩])
 (.seq (.seq (.reg [⟨some 28, .faddr 6 (.t 2), none⟩, ⟨some 29, .load false 1 (.t 28), none⟩, ⟨some 30, .bin .neq (.t 29) (.k (.s [])), none⟩])
 (.cond (.t 30)
 (.seq (.reg [⟨some 32, .load true 2 (.t 9), none⟩, ⟨some 33, .faddr 6 (.t 2), none⟩, ⟨some 34, .load false 1 (.t 33), none⟩, ⟨some 35, .call true 86 [(.t 32), (.t 34)], none⟩, ⟨some 31, .mov (.t 35), none⟩, ⟨some 36, .ext (.t 31) 0, none⟩, ⟨some 37, .ext (.t 31) 1, none⟩, ⟨some 11, .mov (.t 36), none⟩, ⟨some 12, .mov (.t 37), none⟩])
 (.seq (.seq (.reg [⟨some 38, .mov (.t 12), none⟩, ⟨some 39, .un .not (.t 38), none⟩])
 (.cond (.t 39)
 (.exit 1)
 .skip))
 (.reg [⟨some 40, .mov (.t 11), none⟩, ⟨some 10, .mov (.t 40), none⟩])))
 .skip))
 (.seq (.seq (.reg [⟨some 42, .mov (.t 7), none⟩, ⟨some 43, .mov (.t 10), none⟩, ⟨some 44, .mget .str true (.sl [] 0 .nil) (.t 42) (.t 43), none⟩, ⟨some 41, .mov (.t 44), none⟩, ⟨some 45, .ext (.t 41) 0, none⟩, ⟨some 46, .ext (.t 41) 1, none⟩, ⟨some 13, .mov (.t 45), none⟩, ⟨some 14, .mov (.t 46), none⟩])
 (.seq (.reg [⟨some 47, .mov (.t 14), none⟩, ⟨some 48, .un .not (.t 47), none⟩])
 (.cond (.t 48)
 (.reg [⟨some 49, .mov (.t 6), none⟩, ⟨some 50, .mov (.t 10), none⟩, ⟨some 51, .bslice false 9 1 1 [(.s [])] [(0, (.t 50))], none⟩, ⟨some 52, .app 9 1 (.t 49) (.t 51), none⟩, ⟨some 6, .mov (.t 52), none⟩])
 .skip)))
 (.reg [⟨some 53, .mov (.t 7), none⟩, ⟨some 54, .mov (.t 10), none⟩, ⟨some 55, .mov (.t 7), none⟩, ⟨some 56, .mov (.t 10), none⟩, ⟨some 57, .mget .str false (.sl [] 0 .nil) (.t 55) (.t 56), none⟩, ⟨some 58, .load true 2 (.t 9), none⟩, ⟨some 59, .bslice false 35 2 1 [(.s []), (.s [])] [(0, (.t 58))], none⟩, ⟨some 60, .app 35 2 (.t 57) (.t 59), none⟩, ⟨none, .mput .str (.t 53) (.t 54) (.t 60), none⟩]))))))
 (.reg [⟨some 61, .bin .add (.t 24) (.k (.i .i64 1)), none⟩, ⟨some 24, .mov (.t 61), none⟩]))))
def B54 : AC := (.seq (.reg [⟨some 2, .lbox (.t 0) [2, 28, 33], none⟩, ⟨some 4, .movnil 60, none⟩, ⟨some 5, .mov (.k (.i .i64 0)), none⟩])
 (.seq (.reg [⟨some 6, .movnil 9, none⟩])
 (.seq (.reg [⟨some 21, .mkmap, none⟩, ⟨some 7, .mov (.t 21), none⟩])
 (.seq (.seq (.reg [⟨some 22, .mov (.t 1), none⟩, ⟨some 23, .len .slice (.t 22), none⟩, ⟨some 24, .mov (.k (.i .i64 0)), none⟩])
 (.blk 0 (.loop L54_1)))
 (.seq (.reg [⟨some 62, .mov (.t 6), none⟩, ⟨some 63, .call false 87 [(.t 62)], none⟩])
 (.seq (.reg [⟨some 15, .movnil 60, none⟩])
 (.seq (.seq (.reg [⟨some 64, .mov (.t 6), none⟩, ⟨some 65, .len .slice (.t 64), none⟩, ⟨some 66, .mov (.k (.i .i64 0)), none⟩])
 (.blk 2 (.loop L54_2)))
 (.seq (.reg [⟨some 90, .mov (.t 15), none⟩, ⟨some 4, .mov (.t 90), none⟩, ⟨some 5, .mov (.k (.i .i64 0)), none⟩])
 .ret))))))))
/-- tidemark/query.lines -/
def af54 : AFunc := { n := 91, depth := 7, kl := [(2, [2, 28, 33]), (9, [9]), (18, [18, 84])], res := [.tmp 4, .tmp 5], body := B54 }

def L55_1 : AC := (.seq (.seq (.reg [⟨some 7, .mov (.t 2), none⟩, ⟨some 8, .mov (.t 3), none⟩, ⟨some 9, .bin .lss (.t 7) (.t 8), none⟩])
 (.cond (.t 9)
 .skip
 (.exit 0)))
 (.seq (.blk 1 (.reg [⟨some 14, .mov (.t 0), none⟩, ⟨some 15, .mov (.t 2), none⟩, ⟨some 16, .mov (.t 0), none⟩, ⟨some 17, .mov (.t 3), none⟩, ⟨some 18, .mov (.t 0), none⟩, ⟨some 19, .mov (.t 3), none⟩, ⟨some 20, .iaddr (.slice 3) (.t 18) (.t 19), none⟩, ⟨some 21, .load true 3 (.t 20), none⟩, ⟨some 22, .mov (.t 0), none⟩, ⟨some 23, .mov (.t 2), none⟩, ⟨some 24, .iaddr (.slice 3) (.t 22) (.t 23), none⟩, ⟨some 25, .load true 3 (.t 24), none⟩, ⟨some 26, .iaddr (.slice 3) (.t 14) (.t 15), none⟩, ⟨none, .store 3 (.t 26) (.t 21), none⟩, ⟨some 27, .iaddr (.slice 3) (.t 16) (.t 17), none⟩, ⟨none, .store 3 (.t 27) (.t 25), none⟩]))
 (.reg [⟨some 10, .mov (.t 2), none⟩, ⟨some 11, .bin .add (.t 10) (.k (.i .i64 1)), none⟩, ⟨some 12, .mov (.t 3), none⟩, ⟨some 13, .bin .sub (.t 12) (.k (.i .i64 1)), none⟩, ⟨some 2, .mov (.t 11), none⟩, ⟨some 3, .mov (.t 13), none⟩])))
def B55 : AC := (.seq (.reg [⟨some 4, .mov (.t 0), none⟩, ⟨some 5, .len .slice (.t 4), none⟩, ⟨some 6, .bin .sub (.t 5) (.k (.i .i64 1)), none⟩, ⟨some 2, .mov (.k (.i .i64 0)), none⟩, ⟨some 3, .mov (.t 6), none⟩])
 (.blk 0 (.loop L55_1)))
/-- slices.Reverse[[]tidemark/api.Row,tidemark/api.Row] -/
def af55 : AFunc := { n := 28, depth := 5, kl := [], res := [], body := B55 }

def B56 : AC := (.seq (.reg [⟨some 2, .lbox (.t 0) [2, 6, 12, 16], none⟩, ⟨some 4, .mov (.k (.sl [] 0 .nil)), none⟩])
 (.seq (.reg [⟨some 5, .mov (.t 1), none⟩, ⟨some 6, .faddr 8 (.t 2), none⟩, ⟨some 7, .load false 1 (.t 6), none⟩, ⟨some 8, .mov (.t 1), none⟩, ⟨some 9, .len .slice (.t 8), none⟩, ⟨some 10, .minmax false (.t 7) (.t 9), none⟩, ⟨some 11, .slc (.slice 3) (.t 5) (some (.t 10)) none none, none⟩, ⟨some 1, .mov (.t 11), none⟩])
 (.seq (.seq (.reg [⟨some 12, .faddr 9 (.t 2), none⟩, ⟨some 13, .load false 1 (.t 12), none⟩, ⟨some 14, .bin .gtr (.t 13) (.k (.i .i64 0)), none⟩])
 (.cond (.t 14)
 (.reg [⟨some 15, .mov (.t 1), none⟩, ⟨some 16, .faddr 9 (.t 2), none⟩, ⟨some 17, .load false 1 (.t 16), none⟩, ⟨some 18, .mov (.t 1), none⟩, ⟨some 19, .len .slice (.t 18), none⟩, ⟨some 20, .minmax false (.t 17) (.t 19), none⟩, ⟨some 21, .slc (.slice 3) (.t 15) none (some (.t 20)) none, none⟩, ⟨some 1, .mov (.t 21), none⟩])
 .skip))
 (.seq (.reg [⟨some 22, .mov (.t 1), none⟩, ⟨some 4, .mov (.t 22), none⟩])
 .ret))))
/-- tidemark/query.cut -/
def af56 : AFunc := { n := 23, depth := 5, kl := [(2, [2, 6, 12, 16])], res := [.tmp 4], body := B56 }

def B57 : AC := (.reg [⟨some 4, .mov (.t 0), none⟩, ⟨some 5, .mov (.t 0), none⟩, ⟨some 6, .len .slice (.t 5), none⟩, ⟨some 7, .mov (.t 1), none⟩, ⟨some 8, .call false 89 [(.t 4), (.t 6), (.t 7)], none⟩])
/-- slices.SortStableFunc[[]tidemark/api.Pair,tidemark/api.Pair] -/
def af57 : AFunc := { n := 9, depth := 4, kl := [], res := [], body := B57 }

def B58 : AC := (.seq (.reg [⟨some 3, .lbox (.t 0) [3], none⟩, ⟨some 4, .lbox (.t 1) [4], none⟩, ⟨some 5, .mov (.k (.i .i64 0)), none⟩])
 (.seq (.seq (.reg [⟨some 6, .faddr 7 (.t 2), none⟩, ⟨some 7, .load false 1 (.t 6), none⟩])
 (.cond (.t 7)
 (.seq (.reg [⟨some 8, .load true 2 (.t 4), none⟩, ⟨some 9, .load true 2 (.t 3), none⟩, ⟨some 10, .faddr 6 (.t 2), none⟩, ⟨some 11, .load false 1 (.t 10), none⟩, ⟨some 12, .call true 59 [(.t 8), (.t 9), (.t 11)], none⟩, ⟨some 5, .mov (.t 12), none⟩])
 .ret)
 .skip))
 (.seq (.reg [⟨some 13, .load true 2 (.t 3), none⟩, ⟨some 14, .load true 2 (.t 4), none⟩, ⟨some 15, .faddr 6 (.t 2), none⟩, ⟨some 16, .load false 1 (.t 15), none⟩, ⟨some 17, .call true 59 [(.t 13), (.t 14), (.t 16)], none⟩, ⟨some 5, .mov (.t 17), none⟩])
 .ret)))
/-- tidemark/query.run$1 -/
def af58 : AFunc := { n := 18, depth := 5, kl := [(3, [3]), (4, [4])], res := [.tmp 5], body := B58 }

def B59 : AC := (.seq (.reg [⟨some 3, .lbox (.t 0) [3, 94], none⟩, ⟨some 4, .lbox (.t 1) [4, 96], none⟩, ⟨some 6, .mov (.k (.i .i64 0)), none⟩])
 (.seq (.seq (.reg [⟨some 15, .mov (.t 2), none⟩, ⟨some 16, .bin .neq (.t 15) (.k (.s [])), none⟩])
 (.cond (.t 16)
 (.seq (.reg [⟨some 18, .load true 2 (.t 3), none⟩, ⟨some 19, .mov (.t 2), none⟩, ⟨some 20, .call true 86 [(.t 18), (.t 19)], none⟩, ⟨some 17, .mov (.t 20), none⟩, ⟨some 21, .ext (.t 17) 0, none⟩, ⟨some 22, .ext (.t 17) 1, none⟩, ⟨some 7, .mov (.t 21), none⟩, ⟨some 8, .mov (.t 22), none⟩])
 (.seq (.reg [⟨some 24, .load true 2 (.t 4), none⟩, ⟨some 25, .mov (.t 2), none⟩, ⟨some 26, .call true 86 [(.t 24), (.t 25)], none⟩, ⟨some 23, .mov (.t 26), none⟩, ⟨some 27, .ext (.t 23) 0, none⟩, ⟨some 28, .ext (.t 23) 1, none⟩, ⟨some 9, .mov (.t 27), none⟩, ⟨some 10, .mov (.t 28), none⟩])
 (.seq (.reg [⟨some 30, .load true 2 (.t 3), none⟩, ⟨some 31, .mov (.t 2), none⟩, ⟨some 32, .call true 90 [(.t 30), (.t 31)], none⟩, ⟨some 29, .mov (.t 32), none⟩, ⟨some 33, .ext (.t 29) 0, none⟩, ⟨some 34, .ext (.t 29) 1, none⟩, ⟨some 11, .mov (.t 33), none⟩, ⟨some 12, .mov (.t 34), none⟩])
 (.seq (.reg [⟨some 36, .load true 2 (.t 4), none⟩, ⟨some 37, .mov (.t 2), none⟩, ⟨some 38, .call true 90 [(.t 36), (.t 37)], none⟩, ⟨some 35, .mov (.t 38), none⟩, ⟨some 39, .ext (.t 35) 0, none⟩, ⟨some 40, .ext (.t 35) 1, none⟩, ⟨some 13, .mov (.t 39), none⟩, ⟨some 14, .mov (.t 40), none⟩])
 (.blk 0 (.seq (.seq (.reg [⟨some 42, .mov (.t 8), none⟩, ⟨some 43, .mov (.t 10), none⟩, ⟨some 44, .eq true .bool (.t 42) (.t 43), none⟩, ⟨some 45, .mov (.t 44), none⟩, ⟨some 46, .mov (.t 8), some (45, true)⟩,
 ⟨some 47, .pick (.t 45) (.t 46) (.k (.b false)), none⟩, ⟨some 41, .mov (.t 47), none⟩])
 (.cond (.t 41)
 .skip
 (.reg [⟨some 48, .mov (.t 12), none⟩, ⟨some 49, .mov (.t 14), none⟩, ⟨some 50, .eq true .bool (.t 48) (.t 49), none⟩, ⟨some 51, .mov (.t 50), none⟩, ⟨some 52, .mov (.t 12), some (51, true)⟩,
 ⟨some 53, .pick (.t 51) (.t 52) (.k (.b false)), none⟩, ⟨some 41, .mov (.t 53), none⟩])))
 (.cond (.t 41)
 (.seq (.reg [⟨some 6, .mov (.k (.i .i64 (-1))), none⟩])
 .ret)
 (.seq (.seq (.reg [⟨some 55, .mov (.t 8), none⟩, ⟨some 56, .mov (.t 10), none⟩, ⟨some 57, .eq true .bool (.t 55) (.t 56), none⟩, ⟨some 54, .mov (.t 57), none⟩])
 (.cond (.t 54)
 .skip
 (.reg [⟨some 58, .mov (.t 12), none⟩, ⟨some 59, .mov (.t 14), none⟩, ⟨some 60, .eq true .bool (.t 58) (.t 59), none⟩, ⟨some 54, .mov (.t 60), none⟩])))
 (.cond (.t 54)
 (.seq (.reg [⟨some 6, .mov (.k (.i .i64 1)), none⟩])
 .ret)
 (.seq (.seq (.reg [⟨some 62, .mov (.t 12), none⟩, ⟨some 63, .mov (.t 62), none⟩, ⟨some 64, .mov (.t 11), some (63, true)⟩,
 ⟨some 65, .mov (.t 13), some (63, true)⟩,
 ⟨some 66, .bin .neq (.t 64) (.t 65), some (63, true)⟩,
 ⟨some 67, .pick (.t 63) (.t 66) (.k (.b false)), none⟩, ⟨some 68, .mov (.t 67), none⟩, ⟨some 69, .mov (.t 11), some (68, true)⟩,
 ⟨some 70, .mov (.t 13), some (68, true)⟩,
 ⟨some 71, .bin .lss (.t 69) (.t 70), some (68, true)⟩,
 ⟨some 72, .pick (.t 68) (.t 71) (.k (.b false)), none⟩, ⟨some 61, .mov (.t 72), none⟩])
 (.cond (.t 61)
 .skip
 (.reg [⟨some 73, .mov (.t 12), none⟩, ⟨some 74, .un .not (.t 73), none⟩, ⟨some 75, .mov (.t 74), none⟩, ⟨some 76, .mov (.t 7), some (75, true)⟩,
 ⟨some 77, .mov (.t 9), some (75, true)⟩,
 ⟨some 78, .bin .lss (.t 76) (.t 77), some (75, true)⟩,
 ⟨some 79, .pick (.t 75) (.t 78) (.k (.b false)), none⟩, ⟨some 61, .mov (.t 79), none⟩])))
 (.cond (.t 61)
 (.seq (.reg [⟨some 6, .mov (.k (.i .i64 (-1))), none⟩])
 .ret)
 (.seq (.seq (.reg [⟨some 81, .mov (.t 12), none⟩, ⟨some 82, .mov (.t 81), none⟩, ⟨some 83, .mov (.t 11), some (82, true)⟩,
 ⟨some 84, .mov (.t 13), some (82, true)⟩,
 ⟨some 85, .bin .neq (.t 83) (.t 84), some (82, true)⟩,
 ⟨some 86, .pick (.t 82) (.t 85) (.k (.b false)), none⟩, ⟨some 80, .mov (.t 86), none⟩])
 (.cond (.t 80)
 .skip
 (.reg [⟨some 87, .mov (.t 12), none⟩, ⟨some 88, .un .not (.t 87), none⟩, ⟨some 89, .mov (.t 88), none⟩, ⟨some 90, .mov (.t 7), some (89, true)⟩,
 ⟨some 91, .mov (.t 9), some (89, true)⟩,
 ⟨some 92, .bin .gtr (.t 90) (.t 91), some (89, true)⟩,
 ⟨some 93, .pick (.t 89) (.t 92) (.k (.b false)), none⟩, ⟨some 80, .mov (.t 93), none⟩])))
 (.cond (.t 80)
 (.seq (.reg [⟨some 6, .mov (.k (.i .i64 1)), none⟩])
 .ret)
 .skip)))))))))))))
 .skip))
 (.seq (.reg [⟨some 94, .faddr 0 (.t 3), none⟩, ⟨some 95, .load false 1 (.t 94), none⟩, ⟨some 96, .faddr 0 (.t 4), none⟩, ⟨some 97, .load false 1 (.t 96), none⟩, ⟨some 98, .call true 91 [(.t 95), (.t 97)], none⟩, ⟨some 6, .mov (.t 98), none⟩])
 .ret)))
/-- tidemark/query.compare -/
def af59 : AFunc := { n := 99, depth := 7, kl := [(3, [3, 94]), (4, [4, 96])], res := [.tmp 6], body := B59 }

def L65_1 : AC := (.seq (.reg [⟨some 15, .bin .lss (.t 14) (.t 13), none⟩])
 (.seq (.cond (.t 15)
 .skip
 (.exit 0))
 (.seq (.blk 1 (.seq (.reg [⟨some 16, .iaddr (.slice 3) (.t 12) (.t 14), none⟩, ⟨some 17, .load true 3 (.t 16), none⟩, ⟨some 8, .lalloc [(.s []), (.b false), (.s [])] [8, 19, 21], none⟩, ⟨none, .store 3 (.t 8) (.t 17), none⟩])
 (.reg [⟨some 18, .mov (.t 6), none⟩, ⟨some 19, .faddr 0 (.t 8), none⟩, ⟨some 20, .load false 1 (.t 19), none⟩, ⟨some 21, .faddr 2 (.t 8), none⟩, ⟨some 22, .load false 1 (.t 21), none⟩, ⟨some 23, .build [(.s []), (.s [])] [(0, 1, (.t 20)), (1, 1, (.t 22))], none⟩, ⟨some 24, .bslice false 35 2 1 [(.s []), (.s [])] [(0, (.t 23))], none⟩, ⟨some 25, .app 35 2 (.t 18) (.t 24), none⟩, ⟨some 6, .mov (.t 25), none⟩])))
 (.reg [⟨some 26, .bin .add (.t 14) (.k (.i .i64 1)), none⟩, ⟨some 14, .mov (.t 26), none⟩]))))
def B65 : AC := (.seq (.reg [⟨some 5, .movnil 35, none⟩])
 (.seq (.reg [⟨some 6, .movnil 35, none⟩])
 (.seq (.seq (.reg [⟨some 9, .load false 1 (.t 2), none⟩, ⟨some 10, .mov (.t 0), none⟩, ⟨some 11, .mov (.t 1), none⟩, ⟨some 12, .inv false [(47, 199)] (.t 9) [(.t 10), (.t 11)], none⟩, ⟨some 13, .len .slice (.t 12), none⟩, ⟨some 14, .mov (.k (.i .i64 0)), none⟩])
 (.blk 0 (.loop L65_1)))
 (.seq (.reg [⟨some 27, .mov (.t 6), none⟩, ⟨some 5, .mov (.t 27), none⟩])
 .ret))))
/-- tidemark/query.of$1 -/
def af65 : AFunc := { n := 28, depth := 5, kl := [(8, [8, 19, 21])], res := [.tmp 5], body := B65 }

def B66 : AC := (.seq (.reg [⟨some 3, .mov (.k (.s [])), none⟩, ⟨some 4, .mov (.k (.b false)), none⟩])
 (.seq (.reg [⟨some 6, .load false 1 (.t 1), none⟩, ⟨some 7, .mov (.t 0), none⟩, ⟨some 8, .mov (.t 0), none⟩, ⟨some 9, .bin .add (.t 8) (.k (.s [0])), none⟩, ⟨some 10, .callv false (.t 6) [(.t 7), (.t 9)], none⟩, ⟨some 5, .mov (.t 10), none⟩])
 (.seq (.seq (.reg [⟨some 11, .mov (.t 5), none⟩, ⟨some 12, .len .slice (.t 11), none⟩, ⟨some 13, .bin .eql (.t 12) (.k (.i .i64 0)), none⟩])
 (.cond (.t 13)
 (.seq (.reg [⟨some 3, .mov (.k (.s [])), none⟩, ⟨some 4, .mov (.k (.b false)), none⟩])
 .ret)
 .skip))
 (.seq (.reg [⟨some 14, .mov (.t 5), none⟩, ⟨some 15, .iaddr (.slice 2) (.t 14) (.k (.i .i64 0)), none⟩, ⟨some 16, .faddr 1 (.t 15), none⟩, ⟨some 17, .load false 1 (.t 16), none⟩, ⟨some 3, .mov (.t 17), none⟩, ⟨some 4, .mov (.k (.b true)), none⟩])
 .ret))))
/-- tidemark/query.of$2 -/
def af66 : AFunc := { n := 18, depth := 5, kl := [], res := [.tmp 3, .tmp 4], body := B66 }

def L67_1 : AC := (.seq (.reg [⟨some 13, .bin .lss (.t 12) (.t 11), none⟩])
 (.seq (.cond (.t 13)
 .skip
 (.exit 0))
 (.seq (.blk 1 (.seq (.reg [⟨some 14, .iaddr (.slice 4) (.t 10) (.t 12), none⟩, ⟨some 15, .load true 4 (.t 14), none⟩, ⟨some 6, .lalloc [(.s []), (.i .i64 0), (.s []), (.s [])] [6, 16, 20, 27], none⟩, ⟨none, .store 4 (.t 6) (.t 15), none⟩])
 (.seq (.reg [⟨some 16, .faddr 1 (.t 6), none⟩, ⟨some 17, .load false 1 (.t 16), none⟩, ⟨some 18, .bin .eql (.t 17) (.k (.i .i64 1)), none⟩, ⟨some 19, .mov (.t 18), none⟩, ⟨some 20, .faddr 2 (.t 6), some (19, true)⟩,
 ⟨some 21, .load false 1 (.t 20), some (19, true)⟩,
 ⟨some 22, .mov (.t 0), some (19, true)⟩,
 ⟨some 23, .bin .eql (.t 21) (.t 22), some (19, true)⟩,
 ⟨some 24, .pick (.t 19) (.t 23) (.k (.b false)), none⟩])
 (.cond (.t 24)
 (.seq (.reg [⟨some 26, .load false 1 (.t 1), none⟩, ⟨some 27, .faddr 0 (.t 6), none⟩, ⟨some 28, .load false 1 (.t 27), none⟩, ⟨some 29, .inv false [(47, 200)] (.t 26) [(.t 28)], none⟩, ⟨some 25, .mov (.t 29), none⟩, ⟨some 30, .ext (.t 25) 0, none⟩, ⟨some 31, .ext (.t 25) 1, none⟩, ⟨some 7, .mov (.t 30), none⟩, ⟨some 8, .mov (.t 31), none⟩])
 (.seq (.reg [⟨some 32, .mov (.t 7), none⟩, ⟨some 33, .mov (.t 8), none⟩, ⟨some 34, .bin .eql (.t 33) (.k (.i .i64 0)), none⟩, ⟨some 3, .mov (.t 32), none⟩, ⟨some 4, .mov (.t 34), none⟩])
 .ret))
 .skip))))
 (.reg [⟨some 35, .bin .add (.t 12) (.k (.i .i64 1)), none⟩, ⟨some 12, .mov (.t 35), none⟩]))))
def B67 : AC := (.seq (.reg [⟨some 3, .mov (.k (.sl [] 0 .nil)), none⟩, ⟨some 4, .mov (.k (.b false)), none⟩])
 (.seq (.seq (.reg [⟨some 9, .load false 1 (.t 1), none⟩, ⟨some 10, .inv false [(47, 201)] (.t 9) [], none⟩, ⟨some 11, .len .slice (.t 10), none⟩, ⟨some 12, .mov (.k (.i .i64 0)), none⟩])
 (.blk 0 (.loop L67_1)))
 (.seq (.reg [⟨some 3, .mov (.k (.sl [] 0 .nil)), none⟩, ⟨some 4, .mov (.k (.b false)), none⟩])
 .ret)))
/-- tidemark/query.of$3 -/
def af67 : AFunc := { n := 36, depth := 6, kl := [(6, [6, 16, 20, 27])], res := [.tmp 3, .tmp 4], body := B67 }

def L68_1 : AC := (.seq (.reg [⟨some 15, .bin .lss (.t 14) (.t 13), none⟩])
 (.seq (.cond (.t 15)
 .skip
 (.exit 0))
 (.seq (.blk 1 (.seq (.reg [⟨some 16, .iaddr (.slice 4) (.t 12) (.t 14), none⟩, ⟨some 17, .load true 4 (.t 16), none⟩, ⟨some 5, .lalloc [(.i .i64 0), (.s []), (.s []), (.sl [] 0 .nil)] [5], none⟩, ⟨none, .store 4 (.t 5) (.t 17), none⟩])
 (.reg [⟨some 18, .mov (.t 3), none⟩, ⟨some 19, .load true 4 (.t 5), none⟩, ⟨some 20, .call true 68 [(.t 19)], none⟩, ⟨some 21, .app 24 4 (.t 18) (.t 20), none⟩, ⟨some 3, .mov (.t 21), none⟩])))
 (.reg [⟨some 22, .bin .add (.t 14) (.k (.i .i64 1)), none⟩, ⟨some 14, .mov (.t 22), none⟩]))))
def B68 : AC := (.seq (.reg [⟨some 1, .lbox (.t 0) [1, 6, 11], none⟩, ⟨some 2, .movnil 24, none⟩])
 (.seq (.seq (.reg [⟨some 6, .faddr 0 (.t 1), none⟩, ⟨some 7, .load false 1 (.t 6), none⟩, ⟨some 8, .bin .neq (.t 7) (.k (.i .i64 5)), none⟩])
 (.cond (.t 8)
 (.seq (.reg [⟨some 9, .load true 4 (.t 1), none⟩, ⟨some 10, .bslice false 24 4 1 [(.i .i64 0), (.s []), (.s []), (.sl [] 0 .nil)] [(0, (.t 9))], none⟩, ⟨some 2, .mov (.t 10), none⟩])
 .ret)
 .skip))
 (.seq (.reg [⟨some 3, .movnil 24, none⟩])
 (.seq (.seq (.reg [⟨some 11, .faddr 3 (.t 1), none⟩, ⟨some 12, .load false 1 (.t 11), none⟩, ⟨some 13, .len .slice (.t 12), none⟩, ⟨some 14, .mov (.k (.i .i64 0)), none⟩])
 (.blk 0 (.loop L68_1)))
 (.seq (.reg [⟨some 23, .mov (.t 3), none⟩, ⟨some 2, .mov (.t 23), none⟩])
 .ret)))))
/-- tidemark/query.must -/
def af68 : AFunc := { n := 24, depth := 5, kl := [(1, [1, 6, 11]), (5, [5])], res := [.tmp 2], body := B68 }

def B73 : AC := (.seq (.reg [⟨some 2, .mov (.k (.s [])), none⟩])
 (.seq (.reg [⟨some 3, .mov (.t 0), none⟩, ⟨some 4, .nilck (.t 3), none⟩, ⟨some 5, .faddr 1 (.t 4), none⟩, ⟨some 6, .load false 1 (.t 5), none⟩, ⟨some 7, .sdata (.t 6), none⟩, ⟨some 8, .mov (.t 0), none⟩, ⟨some 9, .nilck (.t 8), none⟩, ⟨some 10, .faddr 1 (.t 9), none⟩, ⟨some 11, .load false 1 (.t 10), none⟩, ⟨some 12, .len .slice (.t 11), none⟩, ⟨some 13, .ustr 5 (.t 7) (.t 12), none⟩, ⟨some 2, .mov (.t 13), none⟩])
 .ret))
/-- (*strings.Builder).String -/
def af73 : AFunc := { n := 14, depth := 4, kl := [], res := [.tmp 2], body := B73 }

def L75_1 : AC := (.seq (.seq (.reg [⟨some 12, .mov (.t 6), none⟩, ⟨some 13, .mov (.t 0), none⟩, ⟨some 14, .len .str (.t 13), none⟩, ⟨some 15, .bin .lss (.t 12) (.t 14), none⟩])
 (.cond (.t 15)
 .skip
 (.exit 0)))
 (.blk 1 (.seq (.reg [⟨some 17, .mov (.t 0), none⟩, ⟨some 18, .mov (.t 6), none⟩, ⟨some 19, .slc .str (.t 17) (some (.t 18)) none none, none⟩, ⟨some 20, .call true 101 [(.t 19)], none⟩, ⟨some 16, .mov (.t 20), none⟩, ⟨some 21, .ext (.t 16) 0, none⟩, ⟨some 22, .ext (.t 16) 1, none⟩, ⟨some 7, .mov (.t 21), none⟩, ⟨some 8, .mov (.t 22), none⟩])
 (.seq (.reg [⟨some 23, .mov (.t 6), none⟩, ⟨some 24, .build [(.i .i64 0), (.s []), (.i .i64 0)] [(2, 1, (.t 23))], none⟩, ⟨some 9, .lalloc [(.i .i64 0), (.s []), (.i .i64 0)] [9, 46, 47, 61, 62, 76, 77, 108, 109, 119, 120], none⟩, ⟨none, .store 3 (.t 9) (.t 24), none⟩])
 (.seq (.blk 2 (.seq (.reg [⟨some 27, .mov (.t 7), none⟩, ⟨some 28, .bin .eql (.t 27) (.k (.i .i32 32)), none⟩, ⟨some 26, .mov (.t 28), none⟩])
 (.cond (.t 26)
 (.seq (.reg [⟨some 29, .mov (.t 6), none⟩, ⟨some 30, .bin .add (.t 29) (.k (.i .i64 1)), none⟩, ⟨some 6, .mov (.t 30), none⟩])
 (.exit 1))
 (.seq (.reg [⟨some 32, .mov (.t 7), none⟩, ⟨some 33, .bin .eql (.t 32) (.k (.i .i32 34)), none⟩, ⟨some 31, .mov (.t 33), none⟩])
 (.cond (.t 31)
 (.seq (.reg [⟨some 35, .mov (.t 0), none⟩, ⟨some 36, .mov (.t 6), none⟩, ⟨some 37, .slc .str (.t 35) (some (.t 36)) none none, none⟩, ⟨some 38, .call true 102 [(.t 37)], none⟩, ⟨some 34, .mov (.t 38), none⟩, ⟨some 39, .ext (.t 34) 0, none⟩, ⟨some 40, .ext (.t 34) 1, none⟩, ⟨some 10, .mov (.t 39), none⟩, ⟨some 11, .mov (.t 40), none⟩])
 (.seq (.seq (.reg [⟨some 41, .mov (.t 11), none⟩, ⟨some 42, .bin .eql (.t 41) (.k (.i .i64 0)), none⟩])
 (.cond (.t 42)
 (.seq (.reg [⟨some 43, .mov (.t 6), none⟩, ⟨some 2, .movnil 143, none⟩, ⟨some 3, .mov (.t 43), none⟩, ⟨some 4, .mov (.k (.i .i64 191)), none⟩])
 .ret)
 .skip))
 (.reg [⟨some 44, .mov (.t 10), none⟩, ⟨some 45, .mov (.t 11), none⟩, ⟨some 46, .faddr 0 (.t 9), none⟩, ⟨none, .store 1 (.t 46) (.k (.i .i64 2)), none⟩, ⟨some 47, .faddr 1 (.t 9), none⟩, ⟨none, .store 1 (.t 47) (.t 44), none⟩, ⟨some 8, .mov (.t 45), none⟩])))
 (.seq (.reg [⟨some 49, .mov (.t 7), none⟩, ⟨some 50, .call true 103 [(.t 49)], none⟩, ⟨some 48, .mov (.t 50), none⟩])
 (.cond (.t 48)
 (.seq (.reg [⟨some 51, .mov (.t 0), none⟩, ⟨some 52, .mov (.t 6), none⟩, ⟨some 53, .slc .str (.t 51) (some (.t 52)) none none, none⟩, ⟨some 54, .call true 104 [(.t 53), (.f 103)], none⟩, ⟨some 8, .mov (.t 54), none⟩])
 (.reg [⟨some 55, .mov (.t 0), none⟩, ⟨some 56, .mov (.t 6), none⟩, ⟨some 57, .mov (.t 6), none⟩, ⟨some 58, .mov (.t 8), none⟩, ⟨some 59, .bin .add (.t 57) (.t 58), none⟩, ⟨some 60, .slc .str (.t 55) (some (.t 56)) (some (.t 59)) none, none⟩, ⟨some 61, .faddr 0 (.t 9), none⟩, ⟨none, .store 1 (.t 61) (.k (.i .i64 1)), none⟩, ⟨some 62, .faddr 1 (.t 9), none⟩, ⟨none, .store 1 (.t 62) (.t 60), none⟩]))
 (.seq (.reg [⟨some 64, .mov (.t 7), none⟩, ⟨some 65, .call true 105 [(.t 64)], none⟩, ⟨some 63, .mov (.t 65), none⟩])
 (.cond (.t 63)
 (.seq (.reg [⟨some 66, .mov (.t 0), none⟩, ⟨some 67, .mov (.t 6), none⟩, ⟨some 68, .slc .str (.t 66) (some (.t 67)) none none, none⟩, ⟨some 69, .call true 104 [(.t 68), (.f 105)], none⟩, ⟨some 8, .mov (.t 69), none⟩])
 (.reg [⟨some 70, .mov (.t 0), none⟩, ⟨some 71, .mov (.t 6), none⟩, ⟨some 72, .mov (.t 6), none⟩, ⟨some 73, .mov (.t 8), none⟩, ⟨some 74, .bin .add (.t 72) (.t 73), none⟩, ⟨some 75, .slc .str (.t 70) (some (.t 71)) (some (.t 74)) none, none⟩, ⟨some 76, .faddr 0 (.t 9), none⟩, ⟨none, .store 1 (.t 76) (.k (.i .i64 3)), none⟩, ⟨some 77, .faddr 1 (.t 9), none⟩, ⟨none, .store 1 (.t 77) (.t 75), none⟩]))
 (.seq (.reg [⟨some 79, .mov (.t 7), none⟩, ⟨some 80, .bin .eql (.t 79) (.k (.i .i32 45)), none⟩, ⟨some 81, .mov (.t 80), none⟩, ⟨some 82, .mov (.t 6), some (81, true)⟩,
 ⟨some 83, .bin .add (.t 82) (.k (.i .i64 1)), some (81, true)⟩,
 ⟨some 84, .mov (.t 0), some (81, true)⟩,
 ⟨some 85, .len .str (.t 84), some (81, true)⟩,
 ⟨some 86, .bin .lss (.t 83) (.t 85), some (81, true)⟩,
 ⟨some 87, .pick (.t 81) (.t 86) (.k (.b false)), none⟩, ⟨some 88, .mov (.t 87), none⟩, ⟨some 89, .mov (.t 0), some (88, true)⟩,
 ⟨some 90, .mov (.t 6), some (88, true)⟩,
 ⟨some 91, .bin .add (.t 90) (.k (.i .i64 1)), some (88, true)⟩,
 ⟨some 92, .idx .str (.t 89) (.t 91), some (88, true)⟩,
 ⟨some 93, .conv (.int .i32) (.t 92), some (88, true)⟩,
 ⟨some 94, .call true 105 [(.t 93)], some (88, true)⟩,
 ⟨some 95, .pick (.t 88) (.t 94) (.k (.b false)), none⟩, ⟨some 78, .mov (.t 95), none⟩])
 (.cond (.t 78)
 (.seq (.reg [⟨some 96, .mov (.t 0), none⟩, ⟨some 97, .mov (.t 6), none⟩, ⟨some 98, .bin .add (.t 97) (.k (.i .i64 1)), none⟩, ⟨some 99, .slc .str (.t 96) (some (.t 98)) none none, none⟩, ⟨some 100, .call true 104 [(.t 99), (.f 105)], none⟩, ⟨some 101, .bin .add (.k (.i .i64 1)) (.t 100), none⟩, ⟨some 8, .mov (.t 101), none⟩])
 (.reg [⟨some 102, .mov (.t 0), none⟩, ⟨some 103, .mov (.t 6), none⟩, ⟨some 104, .mov (.t 6), none⟩, ⟨some 105, .mov (.t 8), none⟩, ⟨some 106, .bin .add (.t 104) (.t 105), none⟩, ⟨some 107, .slc .str (.t 102) (some (.t 103)) (some (.t 106)) none, none⟩, ⟨some 108, .faddr 0 (.t 9), none⟩, ⟨none, .store 1 (.t 108) (.k (.i .i64 3)), none⟩, ⟨some 109, .faddr 1 (.t 9), none⟩, ⟨none, .store 1 (.t 109) (.t 107), none⟩]))
 (.seq (.reg [⟨some 111, .mov (.t 7), none⟩, ⟨some 112, .call true 106 [(.t 111)], none⟩, ⟨some 110, .mov (.t 112), none⟩])
 (.cond (.t 110)
 (.reg [⟨some 113, .mov (.t 0), none⟩, ⟨some 114, .mov (.t 6), none⟩, ⟨some 115, .mov (.t 6), none⟩, ⟨some 116, .mov (.t 8), none⟩, ⟨some 117, .bin .add (.t 115) (.t 116), none⟩, ⟨some 118, .slc .str (.t 113) (some (.t 114)) (some (.t 117)) none, none⟩, ⟨some 119, .faddr 0 (.t 9), none⟩, ⟨none, .store 1 (.t 119) (.k (.i .i64 4)), none⟩, ⟨some 120, .faddr 1 (.t 9), none⟩, ⟨none, .store 1 (.t 120) (.t 118), none⟩])
 (.seq (.reg [⟨some 25, .mov (.t 6), none⟩, ⟨some 2, .movnil 143, none⟩, ⟨some 3, .mov (.t 25), none⟩, ⟨some 4, .mov (.k (.i .i64 190)), none⟩])
 .ret))))))))))))))
 (.seq (.reg [⟨some 121, .mov (.t 5), none⟩, ⟨some 122, .load true 3 (.t 9), none⟩, ⟨some 123, .bslice false 143 3 1 [(.i .i64 0), (.s []), (.i .i64 0)] [(0, (.t 122))], none⟩, ⟨some 124, .app 143 3 (.t 121) (.t 123), none⟩, ⟨some 5, .mov (.t 124), none⟩])
 (.reg [⟨some 125, .mov (.t 6), none⟩, ⟨some 126, .mov (.t 8), none⟩, ⟨some 127, .bin .add (.t 125) (.t 126), none⟩, ⟨some 6, .mov (.t 127), none⟩])))))))
def B75 : AC := (.seq (.reg [⟨some 2, .movnil 143, none⟩, ⟨some 3, .mov (.k (.i .i64 0)), none⟩, ⟨some 4, .mov (.k (.i .i64 0)), none⟩])
 (.seq (.reg [⟨some 5, .movnil 143, none⟩])
 (.seq (.seq (.reg [⟨some 6, .mov (.k (.i .i64 0)), none⟩])
 (.blk 0 (.loop L75_1)))
 (.seq (.reg [⟨some 128, .mov (.t 5), none⟩, ⟨some 2, .mov (.t 128), none⟩, ⟨some 3, .mov (.k (.i .i64 0)), none⟩, ⟨some 4, .mov (.k (.i .i64 0)), none⟩])
 .ret))))
/-- tidemark/lang.Tokens -/
def af75 : AFunc := { n := 129, depth := 8, kl := [(9, [9, 46, 47, 61, 62, 76, 77, 108, 109, 119, 120])], res := [.tmp 2, .tmp 3, .tmp 4], body := B75 }

def B76 : AC := (.seq (.reg [⟨some 2, .lalloc [(.i .i64 0), (.s []), (.i .i64 0)] [2], none⟩])
 (.seq (.reg [⟨some 3, .mov (.t 0), none⟩, ⟨some 4, .call false 107 [(.t 3), (.k (.i .i64 0))], none⟩, ⟨none, .store 3 (.t 2) (.t 4), none⟩])
 .ret))
/-- (*tidemark/lang.Source).Peek -/
def af76 : AFunc := { n := 5, depth := 3, kl := [(2, [2])], res := [.cell 2 true 3], body := B76 }

def B77 : AC := (.seq (.reg [⟨some 2, .mov (.k (.i .i64 0)), none⟩])
 (.seq (.reg [⟨some 3, .bslice false 9 1 5 [(.s [])] [(0, (.k (.s [107, 101, 121, 115]))), (1, (.k (.s [99, 111, 117, 110, 116]))), (2, (.k (.s [115, 117, 109]))), (3, (.k (.s [108, 101, 97, 115, 116]))), (4, (.k (.s [116, 111, 112])))], none⟩, ⟨some 4, .mov (.t 0), none⟩, ⟨some 5, .call true 108 [(.t 3), (.t 4)], none⟩, ⟨some 2, .mov (.t 5), none⟩])
 .ret))
/-- tidemark/query.kinds -/
def af77 : AFunc := { n := 6, depth := 3, kl := [], res := [.tmp 2], body := B77 }

def B78 : AC := (.seq (.reg [⟨some 2, .lalloc [(.i .i64 0), (.s []), (.i .i64 0)] [2], none⟩])
 (.seq (.reg [⟨some 4, .mov (.t 0), none⟩, ⟨some 5, .call false 76 [(.t 4)], none⟩, ⟨some 3, .lalloc [(.i .i64 0), (.s []), (.i .i64 0)] [3, 6], none⟩, ⟨none, .store 3 (.t 3) (.t 5), none⟩])
 (.seq (.seq (.reg [⟨some 6, .faddr 0 (.t 3), none⟩, ⟨some 7, .load false 1 (.t 6), none⟩, ⟨some 8, .bin .neq (.t 7) (.k (.i .i64 0)), none⟩])
 (.cond (.t 8)
 (.reg [⟨some 9, .mov (.t 0), none⟩, ⟨some 10, .nilck (.t 9), none⟩, ⟨some 11, .faddr 1 (.t 10), none⟩, ⟨some 12, .load false 1 (.t 11), none⟩, ⟨some 13, .bin .add (.t 12) (.k (.i .i64 1)), none⟩, ⟨some 14, .nilck (.t 9), none⟩, ⟨some 15, .faddr 1 (.t 14), none⟩, ⟨none, .store 1 (.t 15) (.t 13), none⟩])
 .skip))
 (.seq (.reg [⟨some 16, .load true 3 (.t 3), none⟩, ⟨none, .store 3 (.t 2) (.t 16), none⟩])
 .ret))))
/-- (*tidemark/lang.Source).Take -/
def af78 : AFunc := { n := 17, depth := 5, kl := [(2, [2]), (3, [3, 6])], res := [.cell 2 true 3], body := B78 }

def B79 : AC := (.seq (.reg [⟨some 2, .mov (.k (.s [])), none⟩, ⟨some 3, .mov (.k (.b false)), none⟩])
 (.seq (.seq (.reg [⟨some 4, .mov (.t 0), none⟩, ⟨some 5, .nilck (.t 4), none⟩, ⟨some 6, .faddr 0 (.t 5), none⟩, ⟨some 7, .load false 1 (.t 6), none⟩, ⟨some 8, .call false 76 [(.t 7)], none⟩, ⟨some 9, .fld false 0 1 (.t 8), none⟩, ⟨some 10, .bin .neq (.t 9) (.k (.i .i64 1)), none⟩])
 (.cond (.t 10)
 (.seq (.reg [⟨some 2, .mov (.k (.s [])), none⟩, ⟨some 3, .mov (.k (.b false)), none⟩])
 .ret)
 .skip))
 (.seq (.reg [⟨some 11, .mov (.t 0), none⟩, ⟨some 12, .nilck (.t 11), none⟩, ⟨some 13, .faddr 0 (.t 12), none⟩, ⟨some 14, .load false 1 (.t 13), none⟩, ⟨some 15, .call false 78 [(.t 14)], none⟩, ⟨some 16, .fld false 1 1 (.t 15), none⟩, ⟨some 2, .mov (.t 16), none⟩, ⟨some 3, .mov (.k (.b true)), none⟩])
 .ret)))
/-- (*tidemark/query.reader).word -/
def af79 : AFunc := { n := 17, depth := 5, kl := [], res := [.tmp 2, .tmp 3], body := B79 }

def B80 : AC := (.seq (.reg [⟨some 6, .mov (.k (.b false)), none⟩])
 (.seq (.reg [⟨some 8, .mov (.t 0), none⟩, ⟨some 9, .call false 76 [(.t 8)], none⟩, ⟨some 7, .lalloc [(.i .i64 0), (.s []), (.i .i64 0)] [7, 10, 15], none⟩, ⟨none, .store 3 (.t 7) (.t 9), none⟩])
 (.seq (.seq (.reg [⟨some 10, .faddr 0 (.t 7), none⟩, ⟨some 11, .load false 1 (.t 10), none⟩, ⟨some 12, .mov (.t 1), none⟩, ⟨some 13, .bin .neq (.t 11) (.t 12), none⟩, ⟨some 14, .mov (.t 13), none⟩, ⟨some 15, .faddr 1 (.t 7), some (14, false)⟩,
 ⟨some 16, .load false 1 (.t 15), some (14, false)⟩,
 ⟨some 17, .mov (.t 2), some (14, false)⟩,
 ⟨some 18, .bin .neq (.t 16) (.t 17), some (14, false)⟩,
 ⟨some 19, .pick (.t 14) (.k (.b true)) (.t 18), none⟩, ⟨some 20, .mov (.t 19), none⟩, ⟨some 21, .mov (.t 1), some (20, false)⟩,
 ⟨some 22, .bin .eql (.t 21) (.k (.i .i64 0)), some (20, false)⟩,
 ⟨some 23, .pick (.t 20) (.k (.b true)) (.t 22), none⟩])
 (.cond (.t 23)
 (.seq (.reg [⟨some 6, .mov (.k (.b false)), none⟩])
 .ret)
 .skip))
 (.seq (.reg [⟨some 24, .mov (.t 0), none⟩, ⟨some 25, .call false 78 [(.t 24)], none⟩])
 (.seq (.reg [⟨some 6, .mov (.k (.b true)), none⟩])
 .ret)))))
/-- (*tidemark/lang.Source).Is -/
def af80 : AFunc := { n := 26, depth := 5, kl := [(7, [7, 10, 15])], res := [.tmp 6], body := B80 }

def B81 : AC := (.seq (.reg [⟨some 2, .lalloc [(.i .i64 0), (.s []), (.s []), (.sl [] 0 .nil)] [2], none⟩, ⟨some 3, .mov (.k (.i .i64 0)), none⟩, ⟨some 4, .mov (.k (.i .i64 0)), none⟩])
 (.seq (.seq (.reg [⟨some 8, .mov (.t 0), none⟩, ⟨some 9, .eq false .ptr (.t 8) (.k .nilp), none⟩, ⟨some 10, .mov (.t 9), none⟩, ⟨some 11, .mov (.t 0), some (10, false)⟩,
 ⟨some 12, .nilck (.t 11), some (10, false)⟩,
 ⟨some 13, .faddr 3 (.t 12), some (10, false)⟩,
 ⟨some 14, .load false 1 (.t 13), some (10, false)⟩,
 ⟨some 15, .un .not (.t 14), some (10, false)⟩,
 ⟨some 16, .pick (.t 10) (.k (.b true)) (.t 15), none⟩])
 (.cond (.t 16)
 (.seq (.reg [⟨some 17, .build [(.i .i64 0), (.s []), (.s []), (.sl [] 0 .nil)] [], none⟩, ⟨none, .store 4 (.t 2) (.t 17), none⟩, ⟨some 3, .mov (.k (.i .i64 0)), none⟩, ⟨some 4, .mov (.k (.i .i64 6)), none⟩])
 .ret)
 .skip))
 (.seq (.reg [⟨some 18, .mov (.t 0), none⟩, ⟨some 19, .call false 76 [(.t 18)], none⟩, ⟨some 20, .fld false 2 1 (.t 19), none⟩, ⟨some 5, .mov (.t 20), none⟩])
 (.seq (.reg [⟨some 22, .mov (.t 0), none⟩, ⟨some 23, .call false 109 [(.t 22), (.k (.i .i64 1)), (.k (.i .i64 1))], none⟩, ⟨some 21, .mov (.t 23), none⟩, ⟨some 24, .ext (.t 21) 0, none⟩, ⟨some 25, .ext (.t 21) 1, none⟩, ⟨some 6, .lalloc [(.i .i64 0), (.s []), (.s []), (.sl [] 0 .nil)] [6], none⟩, ⟨none, .store 4 (.t 6) (.t 24), none⟩, ⟨some 7, .mov (.t 25), none⟩])
 (.seq (.seq (.reg [⟨some 26, .mov (.t 7), none⟩, ⟨some 27, .bin .neq (.t 26) (.k (.i .i64 0)), none⟩])
 (.cond (.t 27)
 (.seq (.reg [⟨some 28, .build [(.i .i64 0), (.s []), (.s []), (.sl [] 0 .nil)] [], none⟩, ⟨some 29, .mov (.t 0), none⟩, ⟨some 30, .call false 76 [(.t 29)], none⟩, ⟨some 31, .fld false 2 1 (.t 30), none⟩, ⟨some 32, .mov (.t 7), none⟩, ⟨none, .store 4 (.t 2) (.t 28), none⟩, ⟨some 3, .mov (.t 31), none⟩, ⟨some 4, .mov (.t 32), none⟩])
 .ret)
 .skip))
 (.seq (.seq (.reg [⟨some 33, .load true 4 (.t 6), none⟩, ⟨some 34, .call true 23 [(.t 33)], none⟩, ⟨some 7, .mov (.t 34), none⟩])
 (.seq (.reg [⟨some 35, .mov (.t 7), none⟩, ⟨some 36, .bin .neq (.t 35) (.k (.i .i64 0)), none⟩])
 (.cond (.t 36)
 (.seq (.reg [⟨some 37, .build [(.i .i64 0), (.s []), (.s []), (.sl [] 0 .nil)] [], none⟩, ⟨some 38, .mov (.t 5), none⟩, ⟨some 39, .mov (.t 7), none⟩, ⟨none, .store 4 (.t 2) (.t 37), none⟩, ⟨some 3, .mov (.t 38), none⟩, ⟨some 4, .mov (.t 39), none⟩])
 .ret)
 .skip)))
 (.seq (.reg [⟨some 40, .load true 4 (.t 6), none⟩, ⟨none, .store 4 (.t 2) (.t 40), none⟩, ⟨some 3, .mov (.k (.i .i64 0)), none⟩, ⟨some 4, .mov (.k (.i .i64 0)), none⟩])
 .ret)))))))
/-- (*tidemark/lang.Source).Filter -/
def af81 : AFunc := { n := 41, depth := 6, kl := [(2, [2]), (6, [6])], res := [.cell 2 true 4, .tmp 3, .tmp 4], body := B81 }

def B82 : AC := (.seq (.reg [⟨some 6, .mov (.k (.b false)), none⟩])
 (.seq (.seq (.reg [⟨some 9, .mov (.t 0), none⟩, ⟨some 10, .nilck (.t 9), none⟩, ⟨some 11, .faddr 0 (.t 10), none⟩, ⟨some 12, .load false 1 (.t 11), none⟩, ⟨some 13, .mov (.t 1), none⟩, ⟨some 14, .call false 80 [(.t 12), (.k (.i .i64 1)), (.t 13)], none⟩, ⟨some 15, .un .not (.t 14), none⟩])
 (.cond (.t 15)
 (.seq (.reg [⟨some 6, .mov (.k (.b true)), none⟩])
 .ret)
 .skip))
 (.seq (.reg [⟨some 17, .mov (.t 0), none⟩, ⟨some 18, .nilck (.t 17), none⟩, ⟨some 19, .faddr 0 (.t 18), none⟩, ⟨some 20, .load false 1 (.t 19), none⟩, ⟨some 21, .call false 76 [(.t 20)], none⟩, ⟨some 22, .call true 110 [(.t 21)], none⟩, ⟨some 16, .mov (.t 22), none⟩, ⟨some 23, .ext (.t 16) 0, none⟩, ⟨some 24, .ext (.t 16) 1, none⟩, ⟨some 7, .mov (.t 23), none⟩, ⟨some 8, .mov (.t 24), none⟩])
 (.seq (.seq (.reg [⟨some 25, .mov (.t 8), none⟩, ⟨some 26, .un .not (.t 25), none⟩, ⟨some 27, .mov (.t 26), none⟩, ⟨some 28, .mov (.t 7), some (27, false)⟩,
 ⟨some 29, .bin .eql (.t 28) (.k (.i .i64 0)), some (27, false)⟩,
 ⟨some 30, .pick (.t 27) (.k (.b true)) (.t 29), none⟩])
 (.cond (.t 30)
 (.seq (.reg [⟨some 6, .mov (.k (.b false)), none⟩])
 .ret)
 .skip))
 (.seq (.reg [⟨some 31, .mov (.t 0), none⟩, ⟨some 32, .nilck (.t 31), none⟩, ⟨some 33, .faddr 0 (.t 32), none⟩, ⟨some 34, .load false 1 (.t 33), none⟩, ⟨some 35, .call false 78 [(.t 34)], none⟩])
 (.seq (.reg [⟨some 36, .mov (.t 2), none⟩, ⟨some 37, .mov (.t 7), none⟩, ⟨some 38, .nilck (.t 36), none⟩, ⟨none, .store 1 (.t 38) (.t 37), none⟩])
 (.seq (.reg [⟨some 6, .mov (.k (.b true)), none⟩])
 .ret)))))))
/-- (*tidemark/query.reader).number -/
def af82 : AFunc := { n := 39, depth := 6, kl := [], res := [.tmp 6], body := B82 }

def L83_1 : AC := (.seq (.reg [⟨some 152, .bin .lss (.t 151) (.t 150), none⟩])
 (.seq (.cond (.t 152)
 .skip
 (.exit 1))
 (.seq (.blk 2 (.seq (.reg [⟨some 153, .iaddr (.slice 4) (.t 149) (.t 151), none⟩, ⟨some 154, .load true 4 (.t 153), none⟩, ⟨some 11, .lalloc [(.i .i64 0), (.s []), (.s []), (.sl [] 0 .nil)] [11], none⟩, ⟨none, .store 4 (.t 11) (.t 154), none⟩])
 (.seq (.reg [⟨some 156, .load true 4 (.t 11), none⟩, ⟨some 157, .mov (.t 1), none⟩, ⟨some 158, .bin .add (.t 157) (.k (.i .i64 1)), none⟩, ⟨some 159, .mov (.t 2), none⟩, ⟨some 160, .call false 83 [(.t 156), (.t 158), (.t 159)], none⟩, ⟨some 155, .mov (.t 160), none⟩, ⟨some 161, .ext (.t 155) 0, none⟩, ⟨some 162, .ext (.t 155) 1, none⟩, ⟨some 12, .mov (.t 161), none⟩, ⟨some 13, .mov (.t 162), none⟩])
 (.seq (.seq (.reg [⟨some 163, .mov (.t 13), none⟩, ⟨some 164, .bin .neq (.t 163) (.k (.i .i64 0)), none⟩])
 (.cond (.t 164)
 (.seq (.reg [⟨some 165, .mov (.t 13), none⟩, ⟨some 6, .mov (.k .nili), none⟩, ⟨some 7, .mov (.t 165), none⟩])
 .ret)
 .skip))
 (.seq (.reg [⟨some 167, .mov (.t 12), none⟩, ⟨some 168, .tas false [181, 183, 185, 186, 190, 192, 193] [9, 47] .nili true (.t 167), none⟩, ⟨some 166, .mov (.t 168), none⟩, ⟨some 169, .ext (.t 166) 0, none⟩, ⟨some 170, .ext (.t 166) 1, none⟩, ⟨some 14, .mov (.t 169), none⟩, ⟨some 15, .mov (.t 170), none⟩])
 (.seq (.reg [⟨some 171, .mov (.t 15), none⟩])
 (.cond (.t 171)
 (.reg [⟨some 172, .mov (.t 9), none⟩, ⟨some 173, .mov (.t 14), none⟩, ⟨some 174, .bslice false 96 1 1 [.nili] [(0, (.t 173))], none⟩, ⟨some 175, .app 96 1 (.t 172) (.t 174), none⟩, ⟨some 9, .mov (.t 175), none⟩])
 .skip)))))))
 (.reg [⟨some 176, .bin .add (.t 151) (.k (.i .i64 1)), none⟩, ⟨some 151, .mov (.t 176), none⟩]))))
def B83 : AC := (.seq (.reg [⟨some 3, .lbox (.t 0) [3, 29, 34, 41, 46, 53, 60, 65, 70, 75, 82, 88, 93, 95, 100, 107, 112, 119, 123, 128, 133, 138, 142, 148, 177], none⟩, ⟨some 6, .mov (.k .nili), none⟩, ⟨some 7, .mov (.k (.i .i64 0)), none⟩])
 (.seq (.reg [⟨some 16, .mov (.t 2), none⟩, ⟨some 17, .nilck (.t 16), none⟩, ⟨some 18, .load false 1 (.t 17), none⟩, ⟨some 19, .bin .add (.t 18) (.k (.i .i64 1)), none⟩, ⟨some 20, .nilck (.t 16), none⟩, ⟨none, .store 1 (.t 20) (.t 19), none⟩])
 (.seq (.seq (.reg [⟨some 21, .mov (.t 1), none⟩, ⟨some 22, .bin .gtr (.t 21) (.k (.i .i64 6)), none⟩, ⟨some 23, .mov (.t 22), none⟩, ⟨some 24, .mov (.t 2), some (23, false)⟩,
 ⟨some 25, .nilck (.t 24), some (23, false)⟩,
 ⟨some 26, .load false 1 (.t 25), some (23, false)⟩,
 ⟨some 27, .bin .gtr (.t 26) (.k (.i .i64 24)), some (23, false)⟩,
 ⟨some 28, .pick (.t 23) (.k (.b true)) (.t 27), none⟩])
 (.cond (.t 28)
 (.seq (.reg [⟨some 6, .mov (.k .nili), none⟩, ⟨some 7, .mov (.k (.i .i64 51)), none⟩])
 .ret)
 .skip))
 (.seq (.reg [⟨some 29, .faddr 3 (.t 3), none⟩, ⟨some 30, .load false 1 (.t 29), none⟩, ⟨some 31, .len .slice (.t 30), none⟩, ⟨some 32, .bin .eql (.t 31) (.k (.i .i64 0)), none⟩, ⟨some 8, .mov (.t 32), none⟩])
 (.seq (.blk 0 (.seq (.reg [⟨some 34, .faddr 0 (.t 3), none⟩, ⟨some 35, .load false 1 (.t 34), none⟩, ⟨some 36, .bin .eql (.t 35) (.k (.i .i64 0)), none⟩, ⟨some 37, .mov (.t 36), none⟩, ⟨some 38, .mov (.t 8), some (37, true)⟩,
 ⟨some 39, .pick (.t 37) (.t 38) (.k (.b false)), none⟩, ⟨some 40, .mov (.t 39), none⟩, ⟨some 41, .faddr 1 (.t 3), some (40, true)⟩,
 ⟨some 42, .load false 1 (.t 41), some (40, true)⟩,
 ⟨some 43, .bin .eql (.t 42) (.k (.s [])), some (40, true)⟩,
 ⟨some 44, .pick (.t 40) (.t 43) (.k (.b false)), none⟩, ⟨some 45, .mov (.t 44), none⟩, ⟨some 46, .faddr 2 (.t 3), some (45, true)⟩,
 ⟨some 47, .load false 1 (.t 46), some (45, true)⟩,
 ⟨some 48, .bin .eql (.t 47) (.k (.s [])), some (45, true)⟩,
 ⟨some 49, .pick (.t 45) (.t 48) (.k (.b false)), none⟩, ⟨some 33, .mov (.t 49), none⟩])
 (.cond (.t 33)
 (.seq (.reg [⟨some 50, .build [] [], none⟩, ⟨some 51, .mkif 181 (.t 50), none⟩, ⟨some 6, .mov (.t 51), none⟩, ⟨some 7, .mov (.k (.i .i64 0)), none⟩])
 .ret)
 (.seq (.reg [⟨some 53, .faddr 0 (.t 3), none⟩, ⟨some 54, .load false 1 (.t 53), none⟩, ⟨some 55, .bin .eql (.t 54) (.k (.i .i64 1)), none⟩, ⟨some 56, .mov (.t 55), none⟩, ⟨some 57, .mov (.t 8), some (56, true)⟩,
 ⟨some 58, .pick (.t 56) (.t 57) (.k (.b false)), none⟩, ⟨some 59, .mov (.t 58), none⟩, ⟨some 60, .faddr 1 (.t 3), some (59, true)⟩,
 ⟨some 61, .load false 1 (.t 60), some (59, true)⟩,
 ⟨some 62, .bin .eql (.t 61) (.k (.s [])), some (59, true)⟩,
 ⟨some 63, .pick (.t 59) (.t 62) (.k (.b false)), none⟩, ⟨some 64, .mov (.t 63), none⟩, ⟨some 65, .faddr 2 (.t 3), some (64, true)⟩,
 ⟨some 66, .load false 1 (.t 65), some (64, true)⟩,
 ⟨some 67, .call true 111 [(.t 66)], some (64, true)⟩,
 ⟨some 68, .bin .eql (.t 67) (.k (.i .i64 0)), some (64, true)⟩,
 ⟨some 69, .pick (.t 64) (.t 68) (.k (.b false)), none⟩, ⟨some 52, .mov (.t 69), none⟩])
 (.cond (.t 52)
 (.seq (.reg [⟨some 70, .faddr 2 (.t 3), none⟩, ⟨some 71, .load false 1 (.t 70), none⟩, ⟨some 72, .build [(.s [])] [(0, 1, (.t 71))], none⟩, ⟨some 73, .mkif 183 (.t 72), none⟩, ⟨some 6, .mov (.t 73), none⟩, ⟨some 7, .mov (.k (.i .i64 0)), none⟩])
 .ret)
 (.seq (.reg [⟨some 75, .faddr 0 (.t 3), none⟩, ⟨some 76, .load false 1 (.t 75), none⟩, ⟨some 77, .bin .eql (.t 76) (.k (.i .i64 2)), none⟩, ⟨some 78, .mov (.t 77), none⟩, ⟨some 79, .mov (.t 8), some (78, true)⟩,
 ⟨some 80, .pick (.t 78) (.t 79) (.k (.b false)), none⟩, ⟨some 81, .mov (.t 80), none⟩, ⟨some 82, .faddr 1 (.t 3), some (81, true)⟩,
 ⟨some 83, .load false 1 (.t 82), some (81, true)⟩,
 ⟨some 84, .call true 25 [(.t 83)], some (81, true)⟩,
 ⟨some 85, .bin .eql (.t 84) (.k (.i .i64 0)), some (81, true)⟩,
 ⟨some 86, .pick (.t 81) (.t 85) (.k (.b false)), none⟩, ⟨some 87, .mov (.t 86), none⟩, ⟨some 88, .faddr 2 (.t 3), some (87, true)⟩,
 ⟨some 89, .load false 1 (.t 88), some (87, true)⟩,
 ⟨some 90, .call true 112 [(.t 89)], some (87, true)⟩,
 ⟨some 91, .bin .eql (.t 90) (.k (.i .i64 0)), some (87, true)⟩,
 ⟨some 92, .pick (.t 87) (.t 91) (.k (.b false)), none⟩, ⟨some 74, .mov (.t 92), none⟩])
 (.cond (.t 74)
 (.seq (.reg [⟨some 93, .faddr 1 (.t 3), none⟩, ⟨some 94, .load false 1 (.t 93), none⟩, ⟨some 95, .faddr 2 (.t 3), none⟩, ⟨some 96, .load false 1 (.t 95), none⟩, ⟨some 97, .build [(.s []), (.s [])] [(0, 1, (.t 94)), (1, 1, (.t 96))], none⟩, ⟨some 98, .mkif 185 (.t 97), none⟩, ⟨some 6, .mov (.t 98), none⟩, ⟨some 7, .mov (.k (.i .i64 0)), none⟩])
 .ret)
 (.seq (.reg [⟨some 100, .faddr 0 (.t 3), none⟩, ⟨some 101, .load false 1 (.t 100), none⟩, ⟨some 102, .bin .eql (.t 101) (.k (.i .i64 3)), none⟩, ⟨some 103, .mov (.t 102), none⟩, ⟨some 104, .mov (.t 8), some (103, true)⟩,
 ⟨some 105, .pick (.t 103) (.t 104) (.k (.b false)), none⟩, ⟨some 106, .mov (.t 105), none⟩, ⟨some 107, .faddr 1 (.t 3), some (106, true)⟩,
 ⟨some 108, .load false 1 (.t 107), some (106, true)⟩,
 ⟨some 109, .bin .eql (.t 108) (.k (.s [])), some (106, true)⟩,
 ⟨some 110, .pick (.t 106) (.t 109) (.k (.b false)), none⟩, ⟨some 111, .mov (.t 110), none⟩, ⟨some 112, .faddr 2 (.t 3), some (111, true)⟩,
 ⟨some 113, .load false 1 (.t 112), some (111, true)⟩,
 ⟨some 114, .bin .eql (.t 113) (.k (.s [])), some (111, true)⟩,
 ⟨some 115, .pick (.t 111) (.t 114) (.k (.b false)), none⟩, ⟨some 99, .mov (.t 115), none⟩])
 (.cond (.t 99)
 (.seq (.reg [⟨some 116, .build [] [], none⟩, ⟨some 117, .mkif 186 (.t 116), none⟩, ⟨some 6, .mov (.t 117), none⟩, ⟨some 7, .mov (.k (.i .i64 0)), none⟩])
 .ret)
 (.seq (.reg [⟨some 119, .faddr 1 (.t 3), none⟩, ⟨some 120, .load false 1 (.t 119), none⟩, ⟨some 121, .bin .neq (.t 120) (.k (.s [])), none⟩, ⟨some 122, .mov (.t 121), none⟩, ⟨some 123, .faddr 2 (.t 3), some (122, false)⟩,
 ⟨some 124, .load false 1 (.t 123), some (122, false)⟩,
 ⟨some 125, .bin .neq (.t 124) (.k (.s [])), some (122, false)⟩,
 ⟨some 126, .pick (.t 122) (.k (.b true)) (.t 125), none⟩, ⟨some 127, .mov (.t 126), none⟩, ⟨some 128, .faddr 0 (.t 3), some (127, false)⟩,
 ⟨some 129, .load false 1 (.t 128), some (127, false)⟩,
 ⟨some 130, .bin .lss (.t 129) (.k (.i .i64 4)), some (127, false)⟩,
 ⟨some 131, .pick (.t 127) (.k (.b true)) (.t 130), none⟩, ⟨some 132, .mov (.t 131), none⟩, ⟨some 133, .faddr 0 (.t 3), some (132, false)⟩,
 ⟨some 134, .load false 1 (.t 133), some (132, false)⟩,
 ⟨some 135, .bin .gtr (.t 134) (.k (.i .i64 6)), some (132, false)⟩,
 ⟨some 136, .pick (.t 132) (.k (.b true)) (.t 135), none⟩, ⟨some 137, .mov (.t 136), none⟩, ⟨some 138, .faddr 0 (.t 3), some (137, false)⟩,
 ⟨some 139, .load false 1 (.t 138), some (137, false)⟩,
 ⟨some 140, .bin .eql (.t 139) (.k (.i .i64 4)), some (137, false)⟩,
 ⟨some 141, .mov (.t 140), some (137, false)⟩,
 ⟨some 142, .faddr 3 (.t 3), some (141, true)⟩,
 ⟨some 143, .load false 1 (.t 142), some (141, true)⟩,
 ⟨some 144, .len .slice (.t 143), some (141, true)⟩,
 ⟨some 145, .bin .neq (.t 144) (.k (.i .i64 1)), some (141, true)⟩,
 ⟨some 146, .pick (.t 141) (.t 145) (.k (.b false)), some (137, false)⟩,
 ⟨some 147, .pick (.t 137) (.k (.b true)) (.t 146), none⟩, ⟨some 118, .mov (.t 147), none⟩])
 (.cond (.t 118)
 (.seq (.reg [⟨some 6, .mov (.k .nili), none⟩, ⟨some 7, .mov (.k (.i .i64 50)), none⟩])
 .ret)
 .skip)))))))))))
 (.seq (.reg [⟨some 9, .movnil 96, none⟩])
 (.seq (.seq (.reg [⟨some 148, .faddr 3 (.t 3), none⟩, ⟨some 149, .load false 1 (.t 148), none⟩, ⟨some 150, .len .slice (.t 149), none⟩, ⟨some 151, .mov (.k (.i .i64 0)), none⟩])
 (.blk 1 (.loop L83_1)))
 (.seq (.seq (.reg [⟨some 177, .faddr 0 (.t 3), none⟩, ⟨some 178, .load false 1 (.t 177), none⟩])
 (.blk 3 (.seq (.reg [⟨some 180, .bin .eql (.t 178) (.k (.i .i64 4)), none⟩, ⟨some 179, .mov (.t 180), none⟩])
 (.cond (.t 179)
 (.seq (.reg [⟨some 181, .mov (.t 9), none⟩, ⟨some 182, .iaddr (.slice 1) (.t 181) (.k (.i .i64 0)), none⟩, ⟨some 183, .load false 1 (.t 182), none⟩, ⟨some 184, .build [.nili] [(0, 1, (.t 183))], none⟩, ⟨some 185, .mkif 190 (.t 184), none⟩, ⟨some 6, .mov (.t 185), none⟩, ⟨some 7, .mov (.k (.i .i64 0)), none⟩])
 .ret)
 (.seq (.reg [⟨some 187, .bin .eql (.t 178) (.k (.i .i64 5)), none⟩, ⟨some 186, .mov (.t 187), none⟩])
 (.cond (.t 186)
 (.seq (.reg [⟨some 188, .mov (.t 9), none⟩, ⟨some 189, .build [(.sl [] 0 .nil)] [(0, 1, (.t 188))], none⟩, ⟨some 190, .mkif 192 (.t 189), none⟩, ⟨some 6, .mov (.t 190), none⟩, ⟨some 7, .mov (.k (.i .i64 0)), none⟩])
 .ret)
 .skip))))))
 (.seq (.reg [⟨some 191, .mov (.t 9), none⟩, ⟨some 192, .build [(.sl [] 0 .nil)] [(0, 1, (.t 191))], none⟩, ⟨some 193, .mkif 193 (.t 192), none⟩, ⟨some 6, .mov (.t 193), none⟩, ⟨some 7, .mov (.k (.i .i64 0)), none⟩])
 .ret)))))))))
/-- tidemark/filter.build -/
def af83 : AFunc := { n := 194, depth := 8, kl := [(3, [3, 29, 34, 41, 46, 53, 60, 65, 70, 75, 82, 88, 93, 95, 100, 107, 112, 119, 123, 128, 133, 138, 142, 148, 177]), (11, [11])], res := [.tmp 6, .tmp 7], body := B83 }

def B84 : AC := (.seq (.reg [⟨some 1, .lbox (.t 0) [1, 5, 9, 13, 17, 30, 35, 44, 50, 59], none⟩, ⟨some 2, .mov (.k (.b false)), none⟩])
 (.seq (.reg [⟨some 5, .faddr 1 (.t 1), none⟩, ⟨some 6, .load false 1 (.t 5), none⟩, ⟨some 7, .bin .eql (.t 6) (.k (.s [])), none⟩, ⟨some 8, .mov (.t 7), none⟩, ⟨some 9, .faddr 2 (.t 1), some (8, true)⟩,
 ⟨some 10, .load false 1 (.t 9), some (8, true)⟩,
 ⟨some 11, .bin .eql (.t 10) (.k (.s [])), some (8, true)⟩,
 ⟨some 12, .pick (.t 8) (.t 11) (.k (.b false)), none⟩, ⟨some 3, .mov (.t 12), none⟩])
 (.seq (.reg [⟨some 13, .faddr 3 (.t 1), none⟩, ⟨some 14, .load false 1 (.t 13), none⟩, ⟨some 15, .len .slice (.t 14), none⟩, ⟨some 16, .bin .eql (.t 15) (.k (.i .i64 0)), none⟩, ⟨some 4, .mov (.t 16), none⟩])
 (.seq (.seq (.reg [⟨some 17, .faddr 0 (.t 1), none⟩, ⟨some 18, .load false 1 (.t 17), none⟩])
 (.blk 0 (.seq (.seq (.reg [⟨some 20, .bin .eql (.t 18) (.k (.i .i64 0)), none⟩, ⟨some 19, .mov (.t 20), none⟩])
 (.cond (.t 19)
 .skip
 (.reg [⟨some 21, .bin .eql (.t 18) (.k (.i .i64 3)), none⟩, ⟨some 19, .mov (.t 21), none⟩])))
 (.cond (.t 19)
 (.seq (.reg [⟨some 22, .mov (.t 3), none⟩, ⟨some 23, .mov (.t 22), none⟩, ⟨some 24, .mov (.t 4), some (23, true)⟩,
 ⟨some 25, .pick (.t 23) (.t 24) (.k (.b false)), none⟩, ⟨some 2, .mov (.t 25), none⟩])
 .ret)
 (.seq (.reg [⟨some 27, .bin .eql (.t 18) (.k (.i .i64 1)), none⟩, ⟨some 26, .mov (.t 27), none⟩])
 (.cond (.t 26)
 (.seq (.reg [⟨some 28, .mov (.t 4), none⟩, ⟨some 29, .mov (.t 28), none⟩, ⟨some 30, .faddr 1 (.t 1), some (29, true)⟩,
 ⟨some 31, .load false 1 (.t 30), some (29, true)⟩,
 ⟨some 32, .bin .eql (.t 31) (.k (.s [])), some (29, true)⟩,
 ⟨some 33, .pick (.t 29) (.t 32) (.k (.b false)), none⟩, ⟨some 34, .mov (.t 33), none⟩, ⟨some 35, .faddr 2 (.t 1), some (34, true)⟩,
 ⟨some 36, .load false 1 (.t 35), some (34, true)⟩,
 ⟨some 37, .call true 113 [(.t 36)], some (34, true)⟩,
 ⟨some 38, .bin .eql (.t 37) (.k (.i .i64 0)), some (34, true)⟩,
 ⟨some 39, .pick (.t 34) (.t 38) (.k (.b false)), none⟩, ⟨some 2, .mov (.t 39), none⟩])
 .ret)
 (.seq (.reg [⟨some 41, .bin .eql (.t 18) (.k (.i .i64 2)), none⟩, ⟨some 40, .mov (.t 41), none⟩])
 (.cond (.t 40)
 (.seq (.reg [⟨some 42, .mov (.t 4), none⟩, ⟨some 43, .mov (.t 42), none⟩, ⟨some 44, .faddr 1 (.t 1), some (43, true)⟩,
 ⟨some 45, .load false 1 (.t 44), some (43, true)⟩,
 ⟨some 46, .call true 50 [(.t 45)], some (43, true)⟩,
 ⟨some 47, .bin .eql (.t 46) (.k (.i .i64 0)), some (43, true)⟩,
 ⟨some 48, .pick (.t 43) (.t 47) (.k (.b false)), none⟩, ⟨some 49, .mov (.t 48), none⟩, ⟨some 50, .faddr 2 (.t 1), some (49, true)⟩,
 ⟨some 51, .load false 1 (.t 50), some (49, true)⟩,
 ⟨some 52, .call true 114 [(.t 51)], some (49, true)⟩,
 ⟨some 53, .bin .eql (.t 52) (.k (.i .i64 0)), some (49, true)⟩,
 ⟨some 54, .pick (.t 49) (.t 53) (.k (.b false)), none⟩, ⟨some 2, .mov (.t 54), none⟩])
 .ret)
 (.seq (.reg [⟨some 56, .bin .eql (.t 18) (.k (.i .i64 4)), none⟩, ⟨some 55, .mov (.t 56), none⟩])
 (.cond (.t 55)
 (.seq (.reg [⟨some 57, .mov (.t 3), none⟩, ⟨some 58, .mov (.t 57), none⟩, ⟨some 59, .faddr 3 (.t 1), some (58, true)⟩,
 ⟨some 60, .load false 1 (.t 59), some (58, true)⟩,
 ⟨some 61, .len .slice (.t 60), some (58, true)⟩,
 ⟨some 62, .bin .eql (.t 61) (.k (.i .i64 1)), some (58, true)⟩,
 ⟨some 63, .pick (.t 58) (.t 62) (.k (.b false)), none⟩, ⟨some 2, .mov (.t 63), none⟩])
 .ret)
 (.seq (.seq (.reg [⟨some 65, .bin .eql (.t 18) (.k (.i .i64 5)), none⟩, ⟨some 64, .mov (.t 65), none⟩])
 (.cond (.t 64)
 .skip
 (.reg [⟨some 66, .bin .eql (.t 18) (.k (.i .i64 6)), none⟩, ⟨some 64, .mov (.t 66), none⟩])))
 (.cond (.t 64)
 (.seq (.reg [⟨some 67, .mov (.t 3), none⟩, ⟨some 2, .mov (.t 67), none⟩])
 .ret)
 .skip))))))))))))
 (.seq (.reg [⟨some 2, .mov (.k (.b false)), none⟩])
 .ret)))))
/-- tidemark/tidemarkref07.May -/
def af84 : AFunc := { n := 68, depth := 7, kl := [(1, [1, 5, 9, 13, 17, 30, 35, 44, 50, 59])], res := [.tmp 2], body := B84 }

def L85_1 : AC := (.seq (.seq (.reg [⟨some 9, .mov (.t 4), none⟩, ⟨some 10, .bin .gtr (.t 9) (.k (.i .i64 0)), none⟩])
 (.cond (.t 10)
 .skip
 (.exit 0)))
 (.seq (.blk 1 (.seq (.reg [⟨some 13, .mov (.t 3), none⟩, ⟨some 14, .mov (.t 4), none⟩, ⟨some 15, .bin .sub (.t 14) (.k (.i .i64 1)), none⟩, ⟨some 16, .iaddr (.slice 1) (.t 13) (.t 15), none⟩, ⟨some 17, .load false 1 (.t 16), none⟩, ⟨some 18, .bin .lss (.t 17) (.k (.i .u8 255)), none⟩])
 (.cond (.t 18)
 (.seq (.reg [⟨some 19, .mov (.t 3), none⟩, ⟨some 20, .mov (.t 4), none⟩, ⟨some 21, .bin .sub (.t 20) (.k (.i .i64 1)), none⟩, ⟨some 22, .mov (.t 4), none⟩, ⟨some 23, .bin .sub (.t 22) (.k (.i .i64 1)), none⟩, ⟨some 24, .slc (.slice 1) (.t 19) none (some (.t 21)) (some (.t 23)), none⟩, ⟨some 25, .mov (.t 3), none⟩, ⟨some 26, .mov (.t 4), none⟩, ⟨some 27, .bin .sub (.t 26) (.k (.i .i64 1)), none⟩, ⟨some 28, .iaddr (.slice 1) (.t 25) (.t 27), none⟩, ⟨some 29, .load false 1 (.t 28), none⟩, ⟨some 30, .bin .add (.t 29) (.k (.i .u8 1)), none⟩, ⟨some 31, .bslice false 5 1 1 [(.i .u8 0)] [(0, (.t 30))], none⟩, ⟨some 32, .app 5 1 (.t 24) (.t 31), none⟩, ⟨some 33, .conv .toStr (.t 32), none⟩, ⟨some 2, .mov (.t 33), none⟩])
 .ret)
 .skip)))
 (.reg [⟨some 11, .mov (.t 4), none⟩, ⟨some 12, .bin .sub (.t 11) (.k (.i .i64 1)), none⟩, ⟨some 4, .mov (.t 12), none⟩])))
def B85 : AC := (.seq (.reg [⟨some 2, .mov (.k (.s [])), none⟩])
 (.seq (.reg [⟨some 5, .mov (.t 0), none⟩, ⟨some 6, .conv .bytes (.t 5), none⟩, ⟨some 3, .mov (.t 6), none⟩])
 (.seq (.seq (.reg [⟨some 7, .mov (.t 3), none⟩, ⟨some 8, .len .slice (.t 7), none⟩, ⟨some 4, .mov (.t 8), none⟩])
 (.blk 0 (.loop L85_1)))
 (.seq (.reg [⟨some 2, .mov (.k (.s [])), none⟩])
 .ret))))
/-- tidemark/query.after -/
def af85 : AFunc := { n := 34, depth := 6, kl := [], res := [.tmp 2], body := B85 }

def B86 : AC := (.seq (.reg [⟨some 2, .lbox (.t 0) [2, 6], none⟩, ⟨some 4, .mov (.k (.s [])), none⟩, ⟨some 5, .mov (.k (.b false)), none⟩])
 (.seq (.reg [⟨some 6, .faddr 1 (.t 2), none⟩, ⟨some 7, .load false 1 (.t 6), none⟩, ⟨some 8, .mov (.t 1), none⟩, ⟨some 9, .call true 115 [(.t 7), (.t 8)], none⟩, ⟨some 10, .ext (.t 9) 0, none⟩, ⟨some 11, .ext (.t 9) 1, none⟩, ⟨some 4, .mov (.t 10), none⟩, ⟨some 5, .mov (.t 11), none⟩])
 .ret))
/-- tidemark/query.bears -/
def af86 : AFunc := { n := 12, depth := 4, kl := [(2, [2, 6])], res := [.tmp 4, .tmp 5], body := B86 }

def B87 : AC := (.seq (.reg [⟨some 3, .mov (.t 0), none⟩, ⟨some 4, .len .slice (.t 3), none⟩, ⟨some 2, .mov (.t 4), none⟩])
 (.reg [⟨some 5, .mov (.t 0), none⟩, ⟨some 6, .mov (.t 2), none⟩, ⟨some 7, .mov (.t 2), none⟩, ⟨some 8, .conv (.int .u64) (.t 7), none⟩, ⟨some 9, .call true 117 [(.t 8)], none⟩, ⟨some 10, .call false 116 [(.t 5), (.k (.i .i64 0)), (.t 6), (.t 9)], none⟩]))
/-- slices.Sort[[]string,string] -/
def af87 : AFunc := { n := 11, depth := 4, kl := [], res := [], body := B87 }

def L88_1 : AC := (.seq (.reg [⟨some 26, .bin .lss (.t 25) (.t 24), none⟩])
 (.seq (.cond (.t 26)
 .skip
 (.exit 0))
 (.seq (.blk 1 (.seq (.reg [⟨some 27, .iaddr (.slice 2) (.t 23) (.t 25), none⟩, ⟨some 28, .load true 2 (.t 27), none⟩, ⟨some 11, .lalloc [(.s []), (.s [])] [11], none⟩, ⟨none, .store 2 (.t 11) (.t 28), none⟩])
 (.seq (.reg [⟨some 30, .load true 2 (.t 11), none⟩, ⟨some 31, .faddr 1 (.t 2), none⟩, ⟨some 32, .load false 1 (.t 31), none⟩, ⟨some 33, .call true 90 [(.t 30), (.t 32)], none⟩, ⟨some 29, .mov (.t 33), none⟩, ⟨some 34, .ext (.t 29) 0, none⟩, ⟨some 35, .ext (.t 29) 1, none⟩, ⟨some 12, .mov (.t 34), none⟩, ⟨some 13, .mov (.t 35), none⟩])
 (.seq (.seq (.reg [⟨some 36, .mov (.t 13), none⟩, ⟨some 37, .un .not (.t 36), none⟩])
 (.cond (.t 37)
 (.exit 1)
 .skip))
 (.seq (.reg [⟨some 38, .load true 2 (.t 7), none⟩, ⟨some 39, .mov (.t 12), none⟩, ⟨some 40, .call true 118 [(.t 38), (.t 39)], none⟩, ⟨none, .store 2 (.t 7) (.t 40), none⟩])
 (.seq (.seq (.reg [⟨some 41, .mov (.t 9), none⟩, ⟨some 42, .un .not (.t 41), none⟩, ⟨some 43, .mov (.t 42), none⟩, ⟨some 44, .faddr 0 (.t 2), some (43, false)⟩,
 ⟨some 45, .load false 1 (.t 44), some (43, false)⟩,
 ⟨some 46, .bin .eql (.t 45) (.k (.i .i64 3)), some (43, false)⟩,
 ⟨some 47, .mov (.t 46), some (43, false)⟩,
 ⟨some 48, .mov (.t 12), some (47, true)⟩,
 ⟨some 49, .faddr 2 (.t 8), some (47, true)⟩,
 ⟨some 50, .load false 1 (.t 49), some (47, true)⟩,
 ⟨some 51, .bin .lss (.t 48) (.t 50), some (47, true)⟩,
 ⟨some 52, .pick (.t 47) (.t 51) (.k (.b false)), some (43, false)⟩,
 ⟨some 53, .pick (.t 43) (.k (.b true)) (.t 52), none⟩, ⟨some 54, .mov (.t 53), none⟩, ⟨some 55, .faddr 0 (.t 2), some (54, false)⟩,
 ⟨some 56, .load false 1 (.t 55), some (54, false)⟩,
 ⟨some 57, .bin .eql (.t 56) (.k (.i .i64 4)), some (54, false)⟩,
 ⟨some 58, .mov (.t 57), some (54, false)⟩,
 ⟨some 59, .mov (.t 12), some (58, true)⟩,
 ⟨some 60, .faddr 2 (.t 8), some (58, true)⟩,
 ⟨some 61, .load false 1 (.t 60), some (58, true)⟩,
 ⟨some 62, .bin .gtr (.t 59) (.t 61), some (58, true)⟩,
 ⟨some 63, .pick (.t 58) (.t 62) (.k (.b false)), some (54, false)⟩,
 ⟨some 64, .pick (.t 54) (.k (.b true)) (.t 63), none⟩])
 (.cond (.t 64)
 (.reg [⟨some 65, .mov (.t 12), none⟩, ⟨some 66, .faddr 2 (.t 8), none⟩, ⟨none, .store 1 (.t 66) (.t 65), none⟩])
 .skip))
 (.reg [⟨some 9, .mov (.k (.b true)), none⟩])))))))
 (.reg [⟨some 67, .bin .add (.t 25) (.k (.i .i64 1)), none⟩, ⟨some 25, .mov (.t 67), none⟩]))))
def B88 : AC := (.seq (.reg [⟨some 2, .lbox (.t 0) [2, 16, 31, 44, 55, 68], none⟩, ⟨some 4, .lalloc [(.s []), (.sl [] 0 .nil), (.i .i64 0)] [4], none⟩, ⟨some 5, .mov (.k (.b false)), none⟩, ⟨some 6, .mov (.k (.i .i64 0)), none⟩])
 (.seq (.seq (.reg [⟨some 16, .faddr 0 (.t 2), none⟩, ⟨some 17, .load false 1 (.t 16), none⟩, ⟨some 18, .bin .eql (.t 17) (.k (.i .i64 1)), none⟩])
 (.cond (.t 18)
 (.seq (.reg [⟨some 19, .mov (.t 1), none⟩, ⟨some 20, .len .slice (.t 19), none⟩, ⟨some 21, .build [(.s []), (.sl [] 0 .nil), (.i .i64 0)] [(2, 1, (.t 20))], none⟩, ⟨none, .store 3 (.t 4) (.t 21), none⟩, ⟨some 5, .mov (.k (.b true)), none⟩, ⟨some 6, .mov (.k (.i .i64 0)), none⟩])
 .ret)
 .skip))
 (.seq (.reg [⟨some 7, .lalloc [(.i .u64 0), (.i .i64 0)] [7], none⟩])
 (.seq (.reg [⟨some 22, .build [(.s []), (.sl [] 0 .nil), (.i .i64 0)] [], none⟩, ⟨some 8, .lalloc [(.s []), (.sl [] 0 .nil), (.i .i64 0)] [8, 49, 60, 66], none⟩, ⟨none, .store 3 (.t 8) (.t 22), none⟩, ⟨some 9, .mov (.k (.b false)), none⟩])
 (.seq (.seq (.reg [⟨some 23, .mov (.t 1), none⟩, ⟨some 24, .len .slice (.t 23), none⟩, ⟨some 25, .mov (.k (.i .i64 0)), none⟩])
 (.blk 0 (.loop L88_1)))
 (.seq (.seq (.reg [⟨some 68, .faddr 0 (.t 2), none⟩, ⟨some 69, .load false 1 (.t 68), none⟩, ⟨some 70, .bin .eql (.t 69) (.k (.i .i64 2)), none⟩])
 (.cond (.t 70)
 (.seq (.reg [⟨some 72, .load true 2 (.t 7), none⟩, ⟨some 73, .call true 119 [(.t 72)], none⟩, ⟨some 71, .mov (.t 73), none⟩, ⟨some 74, .ext (.t 71) 0, none⟩, ⟨some 75, .ext (.t 71) 1, none⟩, ⟨some 14, .mov (.t 74), none⟩, ⟨some 15, .mov (.t 75), none⟩])
 (.seq (.seq (.reg [⟨some 76, .mov (.t 15), none⟩, ⟨some 77, .un .not (.t 76), none⟩])
 (.cond (.t 77)
 (.seq (.reg [⟨some 78, .build [(.s []), (.sl [] 0 .nil), (.i .i64 0)] [], none⟩, ⟨none, .store 3 (.t 4) (.t 78), none⟩, ⟨some 5, .mov (.k (.b false)), none⟩, ⟨some 6, .mov (.k (.i .i64 72)), none⟩])
 .ret)
 .skip))
 (.seq (.reg [⟨some 79, .mov (.t 14), none⟩, ⟨some 80, .build [(.s []), (.sl [] 0 .nil), (.i .i64 0)] [(2, 1, (.t 79))], none⟩, ⟨none, .store 3 (.t 4) (.t 80), none⟩, ⟨some 5, .mov (.k (.b true)), none⟩, ⟨some 6, .mov (.k (.i .i64 0)), none⟩])
 .ret)))
 .skip))
 (.seq (.reg [⟨some 81, .load true 3 (.t 8), none⟩, ⟨some 82, .mov (.t 9), none⟩, ⟨none, .store 3 (.t 4) (.t 81), none⟩, ⟨some 5, .mov (.t 82), none⟩, ⟨some 6, .mov (.k (.i .i64 0)), none⟩])
 .ret)))))))
/-- tidemark/query.line -/
def af88 : AFunc := { n := 83, depth := 7, kl := [(2, [2, 16, 31, 44, 55, 68]), (4, [4]), (7, [7]), (8, [8, 49, 60, 66]), (11, [11])], res := [.cell 4 true 3, .tmp 5, .tmp 6], body := B88 }

def L89_3 : AC := (.seq (.seq (.reg [⟨some 33, .mov (.t 8), none⟩, ⟨some 34, .mov (.t 1), none⟩, ⟨some 35, .bin .leq (.t 33) (.t 34), none⟩])
 (.cond (.t 35)
 .skip
 (.exit 4)))
 (.blk 5 (.seq (.reg [⟨some 36, .mov (.t 0), none⟩, ⟨some 37, .mov (.t 7), none⟩, ⟨some 38, .mov (.t 7), none⟩, ⟨some 39, .mov (.t 6), none⟩, ⟨some 40, .bin .add (.t 38) (.t 39), none⟩, ⟨some 41, .mov (.t 8), none⟩, ⟨some 42, .mov (.t 2), none⟩, ⟨some 43, .call false 121 [(.t 36), (.t 37), (.t 40), (.t 41), (.t 42)], none⟩])
 (.seq (.reg [⟨some 44, .mov (.t 8), none⟩, ⟨some 7, .mov (.t 44), none⟩])
 (.reg [⟨some 45, .mov (.t 8), none⟩, ⟨some 46, .mov (.t 6), none⟩, ⟨some 47, .bin .mul (.k (.i .i64 2)) (.t 46), none⟩, ⟨some 48, .bin .add (.t 45) (.t 47), none⟩, ⟨some 8, .mov (.t 48), none⟩])))))
def L89_2 : AC := (.seq (.seq (.reg [⟨some 28, .mov (.t 6), none⟩, ⟨some 29, .mov (.t 1), none⟩, ⟨some 30, .bin .lss (.t 28) (.t 29), none⟩])
 (.cond (.t 30)
 .skip
 (.exit 2)))
 (.blk 3 (.seq (.reg [⟨some 31, .mov (.t 6), none⟩, ⟨some 32, .bin .mul (.k (.i .i64 2)) (.t 31), none⟩, ⟨some 7, .mov (.k (.i .i64 0)), none⟩, ⟨some 8, .mov (.t 32), none⟩])
 (.seq (.blk 4 (.loop L89_3))
 (.seq (.seq (.reg [⟨some 49, .mov (.t 7), none⟩, ⟨some 50, .mov (.t 6), none⟩, ⟨some 51, .bin .add (.t 49) (.t 50), none⟩, ⟨some 9, .mov (.t 51), none⟩])
 (.seq (.reg [⟨some 52, .mov (.t 9), none⟩, ⟨some 53, .mov (.t 1), none⟩, ⟨some 54, .bin .lss (.t 52) (.t 53), none⟩])
 (.cond (.t 54)
 (.reg [⟨some 55, .mov (.t 0), none⟩, ⟨some 56, .mov (.t 7), none⟩, ⟨some 57, .mov (.t 9), none⟩, ⟨some 58, .mov (.t 1), none⟩, ⟨some 59, .mov (.t 2), none⟩, ⟨some 60, .call false 121 [(.t 55), (.t 56), (.t 57), (.t 58), (.t 59)], none⟩])
 .skip)))
 (.reg [⟨some 61, .mov (.t 6), none⟩, ⟨some 62, .bin .mul (.t 61) (.k (.i .i64 2)), none⟩, ⟨some 6, .mov (.t 62), none⟩]))))))
def L89_1 : AC := (.seq (.seq (.reg [⟨some 11, .mov (.t 8), none⟩, ⟨some 12, .mov (.t 1), none⟩, ⟨some 13, .bin .leq (.t 11) (.t 12), none⟩])
 (.cond (.t 13)
 .skip
 (.exit 0)))
 (.blk 1 (.seq (.reg [⟨some 14, .mov (.t 0), none⟩, ⟨some 15, .mov (.t 7), none⟩, ⟨some 16, .mov (.t 8), none⟩, ⟨some 17, .mov (.t 2), none⟩, ⟨some 18, .call false 120 [(.t 14), (.t 15), (.t 16), (.t 17)], none⟩])
 (.seq (.reg [⟨some 19, .mov (.t 8), none⟩, ⟨some 7, .mov (.t 19), none⟩])
 (.reg [⟨some 20, .mov (.t 8), none⟩, ⟨some 21, .mov (.t 6), none⟩, ⟨some 22, .bin .add (.t 20) (.t 21), none⟩, ⟨some 8, .mov (.t 22), none⟩])))))
def B89 : AC := (.seq (.reg [⟨some 6, .mov (.k (.i .i64 20)), none⟩])
 (.seq (.reg [⟨some 10, .mov (.t 6), none⟩, ⟨some 7, .mov (.k (.i .i64 0)), none⟩, ⟨some 8, .mov (.t 10), none⟩])
 (.seq (.blk 0 (.loop L89_1))
 (.seq (.reg [⟨some 23, .mov (.t 0), none⟩, ⟨some 24, .mov (.t 7), none⟩, ⟨some 25, .mov (.t 1), none⟩, ⟨some 26, .mov (.t 2), none⟩, ⟨some 27, .call false 120 [(.t 23), (.t 24), (.t 25), (.t 26)], none⟩])
 (.blk 2 (.loop L89_2))))))
/-- slices.stableCmpFunc[tidemark/api.Pair] -/
def af89 : AFunc := { n := 63, depth := 6, kl := [], res := [], body := B89 }

def B90 : AC := (.seq (.reg [⟨some 2, .lbox (.t 0) [2], none⟩, ⟨some 4, .mov (.k (.i .i64 0)), none⟩, ⟨some 5, .mov (.k (.b false)), none⟩])
 (.seq (.reg [⟨some 11, .load true 2 (.t 2), none⟩, ⟨some 12, .mov (.t 1), none⟩, ⟨some 13, .call true 86 [(.t 11), (.t 12)], none⟩, ⟨some 10, .mov (.t 13), none⟩, ⟨some 14, .ext (.t 10) 0, none⟩, ⟨some 15, .ext (.t 10) 1, none⟩, ⟨some 6, .mov (.t 14), none⟩, ⟨some 7, .mov (.t 15), none⟩])
 (.seq (.reg [⟨some 17, .mov (.t 6), none⟩, ⟨some 18, .call true 122 [(.t 17)], none⟩, ⟨some 16, .mov (.t 18), none⟩, ⟨some 19, .ext (.t 16) 0, none⟩, ⟨some 20, .ext (.t 16) 1, none⟩, ⟨some 8, .mov (.t 19), none⟩, ⟨some 9, .mov (.t 20), none⟩])
 (.seq (.reg [⟨some 21, .mov (.t 8), none⟩, ⟨some 22, .mov (.t 7), none⟩, ⟨some 23, .mov (.t 22), none⟩, ⟨some 24, .mov (.t 9), some (23, true)⟩,
 ⟨some 25, .bin .eql (.t 24) (.k (.i .i64 0)), some (23, true)⟩,
 ⟨some 26, .pick (.t 23) (.t 25) (.k (.b false)), none⟩, ⟨some 4, .mov (.t 21), none⟩, ⟨some 5, .mov (.t 26), none⟩])
 .ret))))
/-- tidemark/query.number -/
def af90 : AFunc := { n := 27, depth := 5, kl := [(2, [2])], res := [.tmp 4, .tmp 5], body := B90 }

def B91 : AC := (.seq (.reg [⟨some 4, .mov (.k (.i .i64 0)), none⟩])
 (.seq (.reg [⟨some 5, .mov (.t 0), none⟩, ⟨some 6, .mov (.t 1), none⟩, ⟨some 7, .call true 123 [(.t 5), (.t 6)], none⟩, ⟨some 4, .mov (.t 7), none⟩])
 .ret))
/-- strings.Compare -/
def af91 : AFunc := { n := 8, depth := 4, kl := [], res := [.tmp 4], body := B91 }

def B97 : AC := (.seq (.reg [⟨some 2, .mov (.t 0), none⟩, ⟨some 3, .nilck (.t 2), none⟩, ⟨some 4, .faddr 0 (.t 3), none⟩, ⟨some 5, .load false 1 (.t 4), none⟩, ⟨some 6, .eq false .ptr (.t 5) (.k .nilp), none⟩])
 (.cond (.t 6)
 (.reg [⟨some 7, .mov (.t 0), none⟩, ⟨some 8, .mov (.t 0), none⟩, ⟨some 9, .conv .uns (.t 8), none⟩, ⟨some 10, .noesc 132 (.t 9), none⟩, ⟨some 11, .conv (.toPtr 130 2) (.t 10), none⟩, ⟨some 12, .nilck (.t 7), none⟩, ⟨some 13, .faddr 0 (.t 12), none⟩, ⟨none, .store 1 (.t 13) (.t 11), none⟩])
 (.seq (.reg [⟨some 14, .mov (.t 0), none⟩, ⟨some 15, .nilck (.t 14), none⟩, ⟨some 16, .faddr 0 (.t 15), none⟩, ⟨some 17, .load false 1 (.t 16), none⟩, ⟨some 18, .mov (.t 0), none⟩, ⟨some 19, .eq true .ptr (.t 17) (.t 18), none⟩])
 (.cond (.t 19)
    .refuse
 .skip))))
/-- (*strings.Builder).copyCheck -/
def af97 : AFunc := { n := 20, depth := 5, kl := [], res := [], body := B97 }

def B101 : AC := (.seq (.reg [⟨some 2, .mov (.k (.i .i32 0)), none⟩, ⟨some 3, .mov (.k (.i .i64 0)), none⟩])
 (.seq (.seq (.reg [⟨some 4, .mov (.t 0), none⟩, ⟨some 5, .bin .neq (.t 4) (.k (.s [])), none⟩, ⟨some 6, .mov (.t 5), none⟩, ⟨some 7, .mov (.t 0), some (6, true)⟩,
 ⟨some 8, .idx .str (.t 7) (.k (.i .i64 0)), some (6, true)⟩,
 ⟨some 9, .bin .lss (.t 8) (.k (.i .u8 128)), some (6, true)⟩,
 ⟨some 10, .pick (.t 6) (.t 9) (.k (.b false)), none⟩])
 (.cond (.t 10)
 (.seq (.reg [⟨some 11, .mov (.t 0), none⟩, ⟨some 12, .idx .str (.t 11) (.k (.i .i64 0)), none⟩, ⟨some 13, .conv (.int .i32) (.t 12), none⟩, ⟨some 2, .mov (.t 13), none⟩, ⟨some 3, .mov (.k (.i .i64 1)), none⟩])
 .ret)
 (.reg [⟨some 15, .mov (.t 0), none⟩, ⟨some 16, .call true 135 [(.t 15)], none⟩, ⟨some 14, .mov (.t 16), none⟩, ⟨some 17, .ext (.t 14) 0, none⟩, ⟨some 18, .ext (.t 14) 1, none⟩, ⟨some 2, .mov (.t 17), none⟩, ⟨some 3, .mov (.t 18), none⟩])))
 .ret))
/-- unicode/utf8.DecodeRuneInString -/
def af101 : AFunc := { n := 19, depth := 5, kl := [], res := [.tmp 2, .tmp 3], body := B101 }

def L102_1 : AC := (.seq (.seq (.reg [⟨some 10, .mov (.t 5), none⟩, ⟨some 11, .mov (.t 0), none⟩, ⟨some 12, .len .str (.t 11), none⟩, ⟨some 13, .bin .lss (.t 10) (.t 12), none⟩])
 (.cond (.t 13)
 .skip
 (.exit 0)))
 (.blk 1 (.seq (.reg [⟨some 15, .mov (.t 0), none⟩, ⟨some 16, .mov (.t 5), none⟩, ⟨some 17, .slc .str (.t 15) (some (.t 16)) none none, none⟩, ⟨some 18, .call true 101 [(.t 17)], none⟩, ⟨some 14, .mov (.t 18), none⟩, ⟨some 19, .ext (.t 14) 0, none⟩, ⟨some 20, .ext (.t 14) 1, none⟩, ⟨some 6, .mov (.t 19), none⟩, ⟨some 7, .mov (.t 20), none⟩])
 (.seq (.blk 2 (.seq (.reg [⟨some 22, .mov (.t 6), none⟩, ⟨some 23, .bin .eql (.t 22) (.k (.i .i32 34)), none⟩, ⟨some 21, .mov (.t 23), none⟩])
 (.cond (.t 21)
 (.seq (.reg [⟨some 24, .call false 73 [(.t 4)], none⟩, ⟨some 25, .mov (.t 5), none⟩, ⟨some 26, .bin .add (.t 25) (.k (.i .i64 1)), none⟩, ⟨some 2, .mov (.t 24), none⟩, ⟨some 3, .mov (.t 26), none⟩])
 .ret)
 (.seq (.reg [⟨some 28, .mov (.t 6), none⟩, ⟨some 29, .bin .eql (.t 28) (.k (.i .i32 65533)), none⟩, ⟨some 30, .mov (.t 29), none⟩, ⟨some 31, .mov (.t 7), some (30, true)⟩,
 ⟨some 32, .bin .eql (.t 31) (.k (.i .i64 1)), some (30, true)⟩,
 ⟨some 33, .pick (.t 30) (.t 32) (.k (.b false)), none⟩, ⟨some 27, .mov (.t 33), none⟩])
 (.cond (.t 27)
 (.seq (.reg [⟨some 2, .mov (.k (.s [])), none⟩, ⟨some 3, .mov (.k (.i .i64 0)), none⟩])
 .ret)
 (.seq (.reg [⟨some 35, .mov (.t 6), none⟩, ⟨some 36, .bin .neq (.t 35) (.k (.i .i32 92)), none⟩, ⟨some 34, .mov (.t 36), none⟩])
 (.cond (.t 34)
 (.seq (.reg [⟨some 37, .mov (.t 6), none⟩, ⟨some 38, .call false 125 [(.t 4), (.t 37)], none⟩])
 (.seq (.reg [⟨some 39, .mov (.t 5), none⟩, ⟨some 40, .mov (.t 7), none⟩, ⟨some 41, .bin .add (.t 39) (.t 40), none⟩, ⟨some 5, .mov (.t 41), none⟩])
 (.exit 1)))
 (.seq (.reg [⟨some 43, .mov (.t 5), none⟩, ⟨some 44, .bin .add (.t 43) (.k (.i .i64 1)), none⟩, ⟨some 45, .mov (.t 0), none⟩, ⟨some 46, .len .str (.t 45), none⟩, ⟨some 47, .bin .geq (.t 44) (.t 46), none⟩, ⟨some 42, .mov (.t 47), none⟩])
 (.cond (.t 42)
 (.seq (.reg [⟨some 2, .mov (.k (.s [])), none⟩, ⟨some 3, .mov (.k (.i .i64 0)), none⟩])
 .ret)
 .skip)))))))))
 (.seq (.reg [⟨some 48, .mov (.t 0), none⟩, ⟨some 49, .mov (.t 5), none⟩, ⟨some 50, .bin .add (.t 49) (.k (.i .i64 1)), none⟩, ⟨some 51, .idx .str (.t 48) (.t 50), none⟩])
 (.blk 3 (.seq (.seq (.reg [⟨some 53, .bin .eql (.t 51) (.k (.i .u8 34)), none⟩, ⟨some 52, .mov (.t 53), none⟩])
 (.cond (.t 52)
 .skip
 (.reg [⟨some 54, .bin .eql (.t 51) (.k (.i .u8 92)), none⟩, ⟨some 52, .mov (.t 54), none⟩])))
 (.cond (.t 52)
 (.seq (.reg [⟨some 55, .mov (.t 0), none⟩, ⟨some 56, .mov (.t 5), none⟩, ⟨some 57, .bin .add (.t 56) (.k (.i .i64 1)), none⟩, ⟨some 58, .idx .str (.t 55) (.t 57), none⟩, ⟨some 59, .call false 124 [(.t 4), (.t 58)], none⟩])
 (.reg [⟨some 60, .mov (.t 5), none⟩, ⟨some 61, .bin .add (.t 60) (.k (.i .i64 2)), none⟩, ⟨some 5, .mov (.t 61), none⟩]))
 (.seq (.reg [⟨some 63, .bin .eql (.t 51) (.k (.i .u8 117)), none⟩, ⟨some 62, .mov (.t 63), none⟩])
 (.cond (.t 62)
 (.seq (.reg [⟨some 65, .mov (.t 0), none⟩, ⟨some 66, .mov (.t 5), none⟩, ⟨some 67, .bin .add (.t 66) (.k (.i .i64 2)), none⟩, ⟨some 68, .slc .str (.t 65) (some (.t 67)) none none, none⟩, ⟨some 69, .call true 136 [(.t 68)], none⟩, ⟨some 64, .mov (.t 69), none⟩, ⟨some 70, .ext (.t 64) 0, none⟩, ⟨some 71, .ext (.t 64) 1, none⟩, ⟨some 8, .mov (.t 70), none⟩, ⟨some 9, .mov (.t 71), none⟩])
 (.seq (.seq (.reg [⟨some 72, .mov (.t 9), none⟩, ⟨some 73, .bin .eql (.t 72) (.k (.i .i64 0)), none⟩])
 (.cond (.t 73)
 (.seq (.reg [⟨some 2, .mov (.k (.s [])), none⟩, ⟨some 3, .mov (.k (.i .i64 0)), none⟩])
 .ret)
 .skip))
 (.seq (.reg [⟨some 74, .mov (.t 8), none⟩, ⟨some 75, .call false 125 [(.t 4), (.t 74)], none⟩])
 (.reg [⟨some 76, .mov (.t 5), none⟩, ⟨some 77, .mov (.t 9), none⟩, ⟨some 78, .bin .add (.k (.i .i64 2)) (.t 77), none⟩, ⟨some 79, .bin .add (.t 76) (.t 78), none⟩, ⟨some 5, .mov (.t 79), none⟩]))))
 (.seq (.reg [⟨some 2, .mov (.k (.s [])), none⟩, ⟨some 3, .mov (.k (.i .i64 0)), none⟩])
 .ret)))))))))))
def B102 : AC := (.seq (.reg [⟨some 2, .mov (.k (.s [])), none⟩, ⟨some 3, .mov (.k (.i .i64 0)), none⟩])
 (.seq (.reg [⟨some 4, .alloc 130 [.nilp, (.sl [] 0 .nil)], none⟩])
 (.seq (.seq (.reg [⟨some 5, .mov (.k (.i .i64 1)), none⟩])
 (.blk 0 (.loop L102_1)))
 (.seq (.reg [⟨some 2, .mov (.k (.s [])), none⟩, ⟨some 3, .mov (.k (.i .i64 0)), none⟩])
 .ret))))
/-- tidemark/lang.quoted -/
def af102 : AFunc := { n := 80, depth := 7, kl := [], res := [.tmp 2, .tmp 3], body := B102 }

def B103 : AC := (.seq (.reg [⟨some 2, .mov (.k (.b false)), none⟩])
 (.seq (.reg [⟨some 3, .mov (.t 0), none⟩, ⟨some 4, .bin .geq (.t 3) (.k (.i .i32 97)), none⟩, ⟨some 5, .mov (.t 4), none⟩, ⟨some 6, .mov (.t 0), some (5, true)⟩,
 ⟨some 7, .bin .leq (.t 6) (.k (.i .i32 122)), some (5, true)⟩,
 ⟨some 8, .pick (.t 5) (.t 7) (.k (.b false)), none⟩, ⟨some 2, .mov (.t 8), none⟩])
 .ret))
/-- tidemark/lang.letter -/
def af103 : AFunc := { n := 9, depth := 4, kl := [], res := [.tmp 2], body := B103 }

def L104_1 : AC := (.seq (.reg [⟨some 9, .next 8, none⟩, ⟨some 10, .ext (.t 9) 0, none⟩])
 (.seq (.cond (.t 10)
 .skip
 (.exit 0))
 (.blk 1 (.seq (.reg [⟨some 11, .ext (.t 9) 1, none⟩, ⟨some 12, .ext (.t 9) 2, none⟩, ⟨some 5, .mov (.t 11), none⟩, ⟨some 6, .mov (.t 12), none⟩])
 (.seq (.reg [⟨some 13, .mov (.t 1), none⟩, ⟨some 14, .mov (.t 6), none⟩, ⟨some 15, .callv true (.t 13) [(.t 14)], none⟩, ⟨some 16, .un .not (.t 15), none⟩])
 (.cond (.t 16)
 (.seq (.reg [⟨some 17, .mov (.t 5), none⟩, ⟨some 4, .mov (.t 17), none⟩])
 .ret)
 .skip))))))
def B104 : AC := (.seq (.reg [⟨some 4, .mov (.k (.i .i64 0)), none⟩])
 (.seq (.seq (.reg [⟨some 7, .mov (.t 0), none⟩, ⟨some 8, .range (.t 7), none⟩])
 (.blk 0 (.loop L104_1)))
 (.seq (.reg [⟨some 18, .mov (.t 0), none⟩, ⟨some 19, .len .str (.t 18), none⟩, ⟨some 4, .mov (.t 19), none⟩])
 .ret)))
/-- tidemark/lang.while -/
def af104 : AFunc := { n := 20, depth := 5, kl := [], res := [.tmp 4], body := B104 }

def B105 : AC := (.seq (.reg [⟨some 2, .mov (.k (.b false)), none⟩])
 (.seq (.reg [⟨some 3, .mov (.t 0), none⟩, ⟨some 4, .bin .geq (.t 3) (.k (.i .i32 48)), none⟩, ⟨some 5, .mov (.t 4), none⟩, ⟨some 6, .mov (.t 0), some (5, true)⟩,
 ⟨some 7, .bin .leq (.t 6) (.k (.i .i32 57)), some (5, true)⟩,
 ⟨some 8, .pick (.t 5) (.t 7) (.k (.b false)), none⟩, ⟨some 2, .mov (.t 8), none⟩])
 .ret))
/-- tidemark/lang.digit -/
def af105 : AFunc := { n := 9, depth := 4, kl := [], res := [.tmp 2], body := B105 }

def B106 : AC := (.seq (.reg [⟨some 2, .mov (.k (.b false)), none⟩])
 (.seq (.seq (.reg [⟨some 3, .mov (.t 0), none⟩])
 (.blk 0 (.seq (.seq (.reg [⟨some 5, .bin .eql (.t 3) (.k (.i .i32 40)), none⟩, ⟨some 4, .mov (.t 5), none⟩])
 (.cond (.t 4)
 .skip
 (.seq (.reg [⟨some 6, .bin .eql (.t 3) (.k (.i .i32 41)), none⟩, ⟨some 4, .mov (.t 6), none⟩])
 (.cond (.t 4)
 .skip
 (.seq (.reg [⟨some 7, .bin .eql (.t 3) (.k (.i .i32 61)), none⟩, ⟨some 4, .mov (.t 7), none⟩])
 (.cond (.t 4)
 .skip
 (.seq (.reg [⟨some 8, .bin .eql (.t 3) (.k (.i .i32 94)), none⟩, ⟨some 4, .mov (.t 8), none⟩])
 (.cond (.t 4)
 .skip
 (.seq (.reg [⟨some 9, .bin .eql (.t 3) (.k (.i .i32 60)), none⟩, ⟨some 4, .mov (.t 9), none⟩])
 (.cond (.t 4)
 .skip
 (.seq (.reg [⟨some 10, .bin .eql (.t 3) (.k (.i .i32 62)), none⟩, ⟨some 4, .mov (.t 10), none⟩])
 (.cond (.t 4)
 .skip
 (.reg [⟨some 11, .bin .eql (.t 3) (.k (.i .i32 44)), none⟩, ⟨some 4, .mov (.t 11), none⟩])))))))))))))
 (.cond (.t 4)
 (.seq (.reg [⟨some 2, .mov (.k (.b true)), none⟩])
 .ret)
 .skip))))
 (.seq (.reg [⟨some 2, .mov (.k (.b false)), none⟩])
 .ret)))
/-- tidemark/lang.sign -/
def af106 : AFunc := { n := 12, depth := 4, kl := [], res := [.tmp 2], body := B106 }

def B107 : AC := (.seq (.reg [⟨some 4, .lalloc [(.i .i64 0), (.s []), (.i .i64 0)] [4], none⟩])
 (.seq (.seq (.reg [⟨some 5, .mov (.t 0), none⟩, ⟨some 6, .eq false .ptr (.t 5) (.k .nilp), none⟩, ⟨some 7, .mov (.t 6), none⟩, ⟨some 8, .mov (.t 1), some (7, false)⟩,
 ⟨some 9, .mov (.t 0), some (7, false)⟩,
 ⟨some 10, .nilck (.t 9), some (7, false)⟩,
 ⟨some 11, .faddr 0 (.t 10), some (7, false)⟩,
 ⟨some 12, .load false 1 (.t 11), some (7, false)⟩,
 ⟨some 13, .len .slice (.t 12), some (7, false)⟩,
 ⟨some 14, .mov (.t 0), some (7, false)⟩,
 ⟨some 15, .nilck (.t 14), some (7, false)⟩,
 ⟨some 16, .faddr 1 (.t 15), some (7, false)⟩,
 ⟨some 17, .load false 1 (.t 16), some (7, false)⟩,
 ⟨some 18, .bin .sub (.t 13) (.t 17), some (7, false)⟩,
 ⟨some 19, .bin .sub (.t 18) (.k (.i .i64 1)), some (7, false)⟩,
 ⟨some 20, .bin .gtr (.t 8) (.t 19), some (7, false)⟩,
 ⟨some 21, .pick (.t 7) (.k (.b true)) (.t 20), none⟩])
 (.cond (.t 21)
 (.seq (.seq (.reg [⟨some 22, .mov (.t 0), none⟩, ⟨some 23, .eq false .ptr (.t 22) (.k .nilp), none⟩])
 (.cond (.t 23)
 (.seq (.reg [⟨some 24, .build [(.i .i64 0), (.s []), (.i .i64 0)] [], none⟩, ⟨none, .store 3 (.t 4) (.t 24), none⟩])
 .ret)
 .skip))
 (.seq (.reg [⟨some 25, .mov (.t 0), none⟩, ⟨some 26, .nilck (.t 25), none⟩, ⟨some 27, .faddr 2 (.t 26), none⟩, ⟨some 28, .load false 1 (.t 27), none⟩, ⟨some 29, .build [(.i .i64 0), (.s []), (.i .i64 0)] [(2, 1, (.t 28))], none⟩, ⟨none, .store 3 (.t 4) (.t 29), none⟩])
 .ret))
 .skip))
 (.seq (.reg [⟨some 30, .mov (.t 0), none⟩, ⟨some 31, .nilck (.t 30), none⟩, ⟨some 32, .faddr 0 (.t 31), none⟩, ⟨some 33, .load false 1 (.t 32), none⟩, ⟨some 34, .mov (.t 0), none⟩, ⟨some 35, .nilck (.t 34), none⟩, ⟨some 36, .faddr 1 (.t 35), none⟩, ⟨some 37, .load false 1 (.t 36), none⟩, ⟨some 38, .mov (.t 1), none⟩, ⟨some 39, .bin .add (.t 37) (.t 38), none⟩, ⟨some 40, .iaddr (.slice 3) (.t 33) (.t 39), none⟩, ⟨some 41, .load true 3 (.t 40), none⟩, ⟨none, .store 3 (.t 4) (.t 41), none⟩])
 .ret)))
/-- (*tidemark/lang.Source).ahead -/
def af107 : AFunc := { n := 42, depth := 6, kl := [(4, [4])], res := [.cell 4 true 3], body := B107 }

def L108_1 : AC := (.seq (.reg [⟨some 9, .bin .lss (.t 8) (.t 7), none⟩])
 (.seq (.cond (.t 9)
 .skip
 (.exit 0))
 (.seq (.blk 1 (.seq (.reg [⟨some 10, .mov (.t 8), none⟩, ⟨some 5, .mov (.t 10), none⟩])
 (.seq (.reg [⟨some 11, .mov (.t 1), none⟩, ⟨some 12, .mov (.t 0), none⟩, ⟨some 13, .mov (.t 5), none⟩, ⟨some 14, .iaddr (.slice 1) (.t 12) (.t 13), none⟩, ⟨some 15, .load false 1 (.t 14), none⟩, ⟨some 16, .bin .eql (.t 11) (.t 15), none⟩])
 (.cond (.t 16)
 (.seq (.reg [⟨some 17, .mov (.t 5), none⟩, ⟨some 4, .mov (.t 17), none⟩])
 .ret)
 .skip))))
 (.reg [⟨some 18, .bin .add (.t 8) (.k (.i .i64 1)), none⟩, ⟨some 8, .mov (.t 18), none⟩]))))
def B108 : AC := (.seq (.reg [⟨some 4, .mov (.k (.i .i64 0)), none⟩])
 (.seq (.seq (.reg [⟨some 6, .mov (.t 0), none⟩, ⟨some 7, .len .slice (.t 6), none⟩, ⟨some 8, .mov (.k (.i .i64 0)), none⟩])
 (.blk 0 (.loop L108_1)))
 (.seq (.reg [⟨some 4, .mov (.k (.i .i64 (-1))), none⟩])
 .ret)))
/-- slices.Index[[]string,string] -/
def af108 : AFunc := { n := 19, depth := 5, kl := [], res := [.tmp 4], body := B108 }

def L109_1 : AC := (.seq (.seq (.reg [⟨some 47, .mov (.t 0), none⟩, ⟨some 48, .mov (.t 8), none⟩, ⟨some 49, .call false 138 [(.t 47), (.t 48)], none⟩])
 (.cond (.t 49)
 .skip
 (.exit 0)))
 (.blk 1 (.seq (.reg [⟨some 50, .mov (.t 0), none⟩, ⟨some 51, .call false 78 [(.t 50)], none⟩])
 (.seq (.seq (.reg [⟨some 53, .mov (.t 0), none⟩, ⟨some 54, .mov (.t 1), none⟩, ⟨some 55, .bin .add (.t 54) (.k (.i .i64 1)), none⟩, ⟨some 56, .mov (.t 2), none⟩, ⟨some 57, .call false 109 [(.t 53), (.t 55), (.t 56)], none⟩, ⟨some 52, .mov (.t 57), none⟩, ⟨some 58, .ext (.t 52) 0, none⟩, ⟨some 59, .ext (.t 52) 1, none⟩, ⟨none, .store 4 (.t 10) (.t 58), none⟩, ⟨some 11, .mov (.t 59), none⟩])
 (.seq (.reg [⟨some 60, .mov (.t 11), none⟩, ⟨some 61, .bin .neq (.t 60) (.k (.i .i64 0)), none⟩])
 (.cond (.t 61)
 (.seq (.reg [⟨some 62, .load true 4 (.t 10), none⟩, ⟨some 63, .mov (.t 11), none⟩, ⟨none, .store 4 (.t 6) (.t 62), none⟩, ⟨some 7, .mov (.t 63), none⟩])
 .ret)
 .skip)))
 (.reg [⟨some 64, .faddr 3 (.t 12), none⟩, ⟨some 65, .load false 1 (.t 64), none⟩, ⟨some 66, .load true 4 (.t 10), none⟩, ⟨some 67, .bslice false 24 4 1 [(.i .i64 0), (.s []), (.s []), (.sl [] 0 .nil)] [(0, (.t 66))], none⟩, ⟨some 68, .app 24 4 (.t 65) (.t 67), none⟩, ⟨some 69, .faddr 3 (.t 12), none⟩, ⟨none, .store 1 (.t 69) (.t 68), none⟩])))))
def B109 : AC := (.seq (.reg [⟨some 6, .lalloc [(.i .i64 0), (.s []), (.s []), (.sl [] 0 .nil)] [6], none⟩, ⟨some 7, .mov (.k (.i .i64 0)), none⟩])
 (.seq (.seq (.reg [⟨some 13, .mov (.t 2), none⟩, ⟨some 14, .bin .gtr (.t 13) (.k (.i .i64 40)), none⟩])
 (.cond (.t 14)
 (.seq (.reg [⟨some 15, .build [(.i .i64 0), (.s []), (.s []), (.sl [] 0 .nil)] [], none⟩, ⟨none, .store 4 (.t 6) (.t 15), none⟩, ⟨some 7, .mov (.k (.i .i64 51)), none⟩])
 .ret)
 .skip))
 (.seq (.seq (.reg [⟨some 16, .mov (.t 1), none⟩, ⟨some 17, .bin .gtr (.t 16) (.k (.i .i64 2)), none⟩])
 (.cond (.t 17)
 (.seq (.reg [⟨some 18, .mov (.t 0), none⟩, ⟨some 19, .mov (.t 2), none⟩, ⟨some 20, .call false 137 [(.t 18), (.t 19)], none⟩, ⟨some 21, .ext (.t 20) 0, none⟩, ⟨some 22, .ext (.t 20) 1, none⟩, ⟨none, .store 4 (.t 6) (.t 21), none⟩, ⟨some 7, .mov (.t 22), none⟩])
 .ret)
 .skip))
 (.seq (.reg [⟨some 8, .mov (.k (.s [111, 114])), none⟩, ⟨some 9, .mov (.k (.i .i64 6)), none⟩])
 (.seq (.seq (.reg [⟨some 23, .mov (.t 1), none⟩, ⟨some 24, .bin .eql (.t 23) (.k (.i .i64 2)), none⟩])
 (.cond (.t 24)
 (.reg [⟨some 8, .mov (.k (.s [97, 110, 100])), none⟩, ⟨some 9, .mov (.k (.i .i64 5)), none⟩])
 .skip))
 (.seq (.reg [⟨some 26, .mov (.t 0), none⟩, ⟨some 27, .mov (.t 1), none⟩, ⟨some 28, .bin .add (.t 27) (.k (.i .i64 1)), none⟩, ⟨some 29, .mov (.t 2), none⟩, ⟨some 30, .call false 109 [(.t 26), (.t 28), (.t 29)], none⟩, ⟨some 25, .mov (.t 30), none⟩, ⟨some 31, .ext (.t 25) 0, none⟩, ⟨some 32, .ext (.t 25) 1, none⟩, ⟨some 10, .lalloc [(.i .i64 0), (.s []), (.s []), (.sl [] 0 .nil)] [10], none⟩, ⟨none, .store 4 (.t 10) (.t 31), none⟩, ⟨some 11, .mov (.t 32), none⟩])
 (.seq (.seq (.reg [⟨some 33, .mov (.t 11), none⟩, ⟨some 34, .bin .neq (.t 33) (.k (.i .i64 0)), none⟩, ⟨some 35, .mov (.t 34), none⟩, ⟨some 36, .mov (.t 0), some (35, false)⟩,
 ⟨some 37, .mov (.t 8), some (35, false)⟩,
 ⟨some 38, .call false 138 [(.t 36), (.t 37)], some (35, false)⟩,
 ⟨some 39, .un .not (.t 38), some (35, false)⟩,
 ⟨some 40, .pick (.t 35) (.k (.b true)) (.t 39), none⟩])
 (.cond (.t 40)
 (.seq (.reg [⟨some 41, .load true 4 (.t 10), none⟩, ⟨some 42, .mov (.t 11), none⟩, ⟨none, .store 4 (.t 6) (.t 41), none⟩, ⟨some 7, .mov (.t 42), none⟩])
 .ret)
 .skip))
 (.seq (.reg [⟨some 43, .mov (.t 9), none⟩, ⟨some 44, .load true 4 (.t 10), none⟩, ⟨some 45, .bslice false 24 4 1 [(.i .i64 0), (.s []), (.s []), (.sl [] 0 .nil)] [(0, (.t 44))], none⟩, ⟨some 46, .build [(.i .i64 0), (.s []), (.s []), (.sl [] 0 .nil)] [(0, 1, (.t 43)), (3, 1, (.t 45))], none⟩, ⟨some 12, .lalloc [(.i .i64 0), (.s []), (.s []), (.sl [] 0 .nil)] [12, 64, 69], none⟩, ⟨none, .store 4 (.t 12) (.t 46), none⟩])
 (.seq (.blk 0 (.loop L109_1))
 (.seq (.reg [⟨some 70, .load true 4 (.t 12), none⟩, ⟨none, .store 4 (.t 6) (.t 70), none⟩, ⟨some 7, .mov (.k (.i .i64 0)), none⟩])
 .ret))))))))))
/-- (*tidemark/lang.Source).parse -/
def af109 : AFunc := { n := 71, depth := 7, kl := [(6, [6]), (10, [10]), (12, [12, 64, 69])], res := [.cell 6 true 4, .tmp 7], body := B109 }

def B110 : AC := (.seq (.reg [⟨some 1, .lbox (.t 0) [1, 7, 13], none⟩, ⟨some 2, .mov (.k (.i .i64 0)), none⟩, ⟨some 3, .mov (.k (.b false)), none⟩])
 (.seq (.reg [⟨some 7, .faddr 1 (.t 1), none⟩, ⟨some 8, .load false 1 (.t 7), none⟩, ⟨some 9, .call true 122 [(.t 8)], none⟩, ⟨some 6, .mov (.t 9), none⟩, ⟨some 10, .ext (.t 6) 0, none⟩, ⟨some 11, .ext (.t 6) 1, none⟩, ⟨some 4, .mov (.t 10), none⟩, ⟨some 5, .mov (.t 11), none⟩])
 (.seq (.reg [⟨some 12, .mov (.t 4), none⟩, ⟨some 13, .faddr 0 (.t 1), none⟩, ⟨some 14, .load false 1 (.t 13), none⟩, ⟨some 15, .bin .eql (.t 14) (.k (.i .i64 3)), none⟩, ⟨some 16, .mov (.t 15), none⟩, ⟨some 17, .mov (.t 5), some (16, true)⟩,
 ⟨some 18, .bin .eql (.t 17) (.k (.i .i64 0)), some (16, true)⟩,
 ⟨some 19, .pick (.t 16) (.t 18) (.k (.b false)), none⟩, ⟨some 20, .mov (.t 19), none⟩, ⟨some 21, .mov (.t 4), some (20, true)⟩,
 ⟨some 22, .bin .geq (.t 21) (.k (.i .i64 0)), some (20, true)⟩,
 ⟨some 23, .pick (.t 20) (.t 22) (.k (.b false)), none⟩, ⟨some 24, .mov (.t 23), none⟩, ⟨some 25, .mov (.t 4), some (24, true)⟩,
 ⟨some 26, .bin .leq (.t 25) (.k (.i .i64 1099511627776)), some (24, true)⟩,
 ⟨some 27, .pick (.t 24) (.t 26) (.k (.b false)), none⟩, ⟨some 2, .mov (.t 12), none⟩, ⟨some 3, .mov (.t 27), none⟩])
 .ret)))
/-- tidemark/query.digits -/
def af110 : AFunc := { n := 28, depth := 5, kl := [(1, [1, 7, 13])], res := [.tmp 2, .tmp 3], body := B110 }

def B111 : AC := (.seq (.reg [⟨some 2, .mov (.k (.i .i64 0)), none⟩])
 (.seq (.seq (.reg [⟨some 3, .mov (.t 0), none⟩, ⟨some 4, .call true 47 [(.t 3), (.k (.i .i64 1)), (.k (.i .i64 24)), (.f 139)], none⟩, ⟨some 5, .un .not (.t 4), none⟩])
 (.cond (.t 5)
 (.seq (.reg [⟨some 2, .mov (.k (.i .i64 20)), none⟩])
 .ret)
 .skip))
 (.seq (.reg [⟨some 2, .mov (.k (.i .i64 0)), none⟩])
 .ret)))
/-- tidemark/text.Key -/
def af111 : AFunc := { n := 6, depth := 3, kl := [], res := [.tmp 2], body := B111 }

def B112 : AC := (.seq (.reg [⟨some 2, .mov (.k (.i .i64 0)), none⟩])
 (.seq (.seq (.reg [⟨some 3, .mov (.t 0), none⟩, ⟨some 4, .call true 47 [(.t 3), (.k (.i .i64 0)), (.k (.i .i64 48)), (.f 139)], none⟩, ⟨some 5, .un .not (.t 4), none⟩])
 (.cond (.t 5)
 (.seq (.reg [⟨some 2, .mov (.k (.i .i64 21)), none⟩])
 .ret)
 .skip))
 (.seq (.reg [⟨some 2, .mov (.k (.i .i64 0)), none⟩])
 .ret)))
/-- tidemark/text.Value -/
def af112 : AFunc := { n := 6, depth := 3, kl := [], res := [.tmp 2], body := B112 }

def B113 : AC := (.seq (.reg [⟨some 2, .mov (.k (.i .i64 0)), none⟩])
 (.seq (.seq (.reg [⟨some 3, .mov (.t 0), none⟩, ⟨some 4, .call true 140 [(.t 3), (.k (.i .i64 1)), (.k (.i .i64 24))], none⟩, ⟨some 5, .un .not (.t 4), none⟩])
 (.cond (.t 5)
 (.seq (.reg [⟨some 2, .mov (.k (.i .i64 20)), none⟩])
 .ret)
 .skip))
 (.seq (.reg [⟨some 2, .mov (.k (.i .i64 0)), none⟩])
 .ret)))
/-- tidemark/tidemarkref02.Key -/
def af113 : AFunc := { n := 6, depth := 3, kl := [], res := [.tmp 2], body := B113 }

def B114 : AC := (.seq (.reg [⟨some 2, .mov (.k (.i .i64 0)), none⟩])
 (.seq (.seq (.reg [⟨some 3, .mov (.t 0), none⟩, ⟨some 4, .call true 140 [(.t 3), (.k (.i .i64 0)), (.k (.i .i64 48))], none⟩, ⟨some 5, .un .not (.t 4), none⟩])
 (.cond (.t 5)
 (.seq (.reg [⟨some 2, .mov (.k (.i .i64 21)), none⟩])
 .ret)
 .skip))
 (.seq (.reg [⟨some 2, .mov (.k (.i .i64 0)), none⟩])
 .ret)))
/-- tidemark/tidemarkref02.Value -/
def af114 : AFunc := { n := 6, depth := 3, kl := [], res := [.tmp 2], body := B114 }

def L115_2 : AC := (.seq (.reg [⟨some 19, .next 18, none⟩, ⟨some 20, .ext (.t 19) 0, none⟩])
 (.seq (.cond (.t 20)
 .skip
 (.exit 2))
 (.blk 3 (.seq (.reg [⟨some 21, .ext (.t 19) 1, none⟩, ⟨some 22, .ext (.t 19) 2, none⟩, ⟨some 8, .mov (.t 21), none⟩, ⟨some 9, .mov (.t 22), none⟩])
 (.seq (.reg [⟨some 23, .mov (.t 9), none⟩, ⟨some 24, .bin .eql (.t 23) (.k (.i .i32 58)), none⟩])
 (.cond (.t 24)
 (.seq (.seq (.reg [⟨some 25, .mov (.t 7), none⟩, ⟨some 26, .mov (.t 8), none⟩, ⟨some 27, .slc .str (.t 25) none (some (.t 26)) none, none⟩, ⟨some 28, .mov (.t 1), none⟩, ⟨some 29, .bin .eql (.t 27) (.t 28), none⟩])
 (.cond (.t 29)
 (.seq (.reg [⟨some 30, .mov (.t 7), none⟩, ⟨some 31, .mov (.t 8), none⟩, ⟨some 32, .bin .add (.t 31) (.k (.i .i64 1)), none⟩, ⟨some 33, .slc .str (.t 30) (some (.t 32)) none none, none⟩, ⟨some 4, .mov (.t 33), none⟩, ⟨some 5, .mov (.k (.b true)), none⟩])
 .ret)
 .skip))
 (.exit 2))
 .skip))))))
def L115_1 : AC := (.seq (.reg [⟨some 14, .bin .lss (.t 13) (.t 12), none⟩])
 (.seq (.cond (.t 14)
 .skip
 (.exit 0))
 (.seq (.blk 1 (.seq (.reg [⟨some 15, .iaddr (.slice 1) (.t 11) (.t 13), none⟩, ⟨some 16, .load false 1 (.t 15), none⟩, ⟨some 7, .mov (.t 16), none⟩])
 (.seq (.reg [⟨some 17, .mov (.t 7), none⟩, ⟨some 18, .range (.t 17), none⟩])
 (.blk 2 (.loop L115_2)))))
 (.reg [⟨some 34, .bin .add (.t 13) (.k (.i .i64 1)), none⟩, ⟨some 13, .mov (.t 34), none⟩]))))
def B115 : AC := (.seq (.reg [⟨some 4, .mov (.k (.s [])), none⟩, ⟨some 5, .mov (.k (.b false)), none⟩])
 (.seq (.seq (.reg [⟨some 10, .mov (.t 0), none⟩, ⟨some 11, .call true 141 [(.t 10), (.k (.i .i32 32))], none⟩, ⟨some 12, .len .slice (.t 11), none⟩, ⟨some 13, .mov (.k (.i .i64 0)), none⟩])
 (.blk 0 (.loop L115_1)))
 (.seq (.reg [⟨some 4, .mov (.k (.s [])), none⟩, ⟨some 5, .mov (.k (.b false)), none⟩])
 .ret)))
/-- tidemark/text.Field -/
def af115 : AFunc := { n := 35, depth := 6, kl := [], res := [.tmp 4, .tmp 5], body := B115 }

def L116_1 : AC := (.blk 1 (.seq (.reg [⟨some 19, .mov (.t 2), none⟩, ⟨some 20, .mov (.t 1), none⟩, ⟨some 21, .bin .sub (.t 19) (.t 20), none⟩, ⟨some 10, .mov (.t 21), none⟩])
 (.seq (.seq (.reg [⟨some 22, .mov (.t 10), none⟩, ⟨some 23, .bin .leq (.t 22) (.k (.i .i64 12)), none⟩])
 (.cond (.t 23)
 (.seq (.reg [⟨some 24, .mov (.t 0), none⟩, ⟨some 25, .mov (.t 1), none⟩, ⟨some 26, .mov (.t 2), none⟩, ⟨some 27, .call false 142 [(.t 24), (.t 25), (.t 26)], none⟩])
 .ret)
 .skip))
 (.seq (.seq (.reg [⟨some 28, .mov (.t 3), none⟩, ⟨some 29, .bin .eql (.t 28) (.k (.i .i64 0)), none⟩])
 (.cond (.t 29)
 (.seq (.reg [⟨some 30, .mov (.t 0), none⟩, ⟨some 31, .mov (.t 1), none⟩, ⟨some 32, .mov (.t 2), none⟩, ⟨some 33, .call false 143 [(.t 30), (.t 31), (.t 32)], none⟩])
 .ret)
 .skip))
 (.seq (.seq (.reg [⟨some 34, .mov (.t 8), none⟩, ⟨some 35, .un .not (.t 34), none⟩])
 (.cond (.t 35)
 (.seq (.reg [⟨some 36, .mov (.t 0), none⟩, ⟨some 37, .mov (.t 1), none⟩, ⟨some 38, .mov (.t 2), none⟩, ⟨some 39, .call false 144 [(.t 36), (.t 37), (.t 38)], none⟩])
 (.reg [⟨some 40, .mov (.t 3), none⟩, ⟨some 41, .bin .sub (.t 40) (.k (.i .i64 1)), none⟩, ⟨some 3, .mov (.t 41), none⟩]))
 .skip))
 (.seq (.reg [⟨some 43, .mov (.t 0), none⟩, ⟨some 44, .mov (.t 1), none⟩, ⟨some 45, .mov (.t 2), none⟩, ⟨some 46, .call true 145 [(.t 43), (.t 44), (.t 45)], none⟩, ⟨some 42, .mov (.t 46), none⟩, ⟨some 47, .ext (.t 42) 0, none⟩, ⟨some 48, .ext (.t 42) 1, none⟩, ⟨some 11, .mov (.t 47), none⟩, ⟨some 12, .mov (.t 48), none⟩])
 (.seq (.seq (.reg [⟨some 49, .mov (.t 12), none⟩, ⟨some 50, .bin .eql (.t 49) (.k (.i .i64 2)), none⟩])
 (.cond (.t 50)
 (.seq (.reg [⟨some 51, .mov (.t 0), none⟩, ⟨some 52, .mov (.t 1), none⟩, ⟨some 53, .mov (.t 2), none⟩, ⟨some 54, .call false 146 [(.t 51), (.t 52), (.t 53)], none⟩])
 (.seq (.reg [⟨some 55, .mov (.t 2), none⟩, ⟨some 56, .bin .sub (.t 55) (.k (.i .i64 1)), none⟩, ⟨some 57, .mov (.t 11), none⟩, ⟨some 58, .mov (.t 1), none⟩, ⟨some 59, .bin .sub (.t 57) (.t 58), none⟩, ⟨some 60, .bin .sub (.t 56) (.t 59), none⟩, ⟨some 11, .mov (.t 60), none⟩])
 (.reg [⟨some 12, .mov (.k (.i .i64 1)), none⟩])))
 .skip))
 (.seq (.seq (.reg [⟨some 61, .mov (.t 8), none⟩, ⟨some 62, .mov (.t 61), none⟩, ⟨some 63, .mov (.t 9), some (62, true)⟩,
 ⟨some 64, .pick (.t 62) (.t 63) (.k (.b false)), none⟩, ⟨some 65, .mov (.t 64), none⟩, ⟨some 66, .mov (.t 12), some (65, true)⟩,
 ⟨some 67, .bin .eql (.t 66) (.k (.i .i64 1)), some (65, true)⟩,
 ⟨some 68, .pick (.t 65) (.t 67) (.k (.b false)), none⟩])
 (.cond (.t 68)
 (.seq (.reg [⟨some 69, .mov (.t 0), none⟩, ⟨some 70, .mov (.t 1), none⟩, ⟨some 71, .mov (.t 2), none⟩, ⟨some 72, .call false 147 [(.t 69), (.t 70), (.t 71)], none⟩])
 (.cond (.t 72)
 .ret
 .skip))
 .skip))
 (.seq (.seq (.reg [⟨some 73, .mov (.t 1), none⟩, ⟨some 74, .bin .gtr (.t 73) (.k (.i .i64 0)), none⟩, ⟨some 75, .mov (.t 74), none⟩, ⟨some 76, .mov (.t 0), some (75, true)⟩,
 ⟨some 77, .mov (.t 1), some (75, true)⟩,
 ⟨some 78, .bin .sub (.t 77) (.k (.i .i64 1)), some (75, true)⟩,
 ⟨some 79, .iaddr (.slice 1) (.t 76) (.t 78), some (75, true)⟩,
 ⟨some 80, .load false 1 (.t 79), some (75, true)⟩,
 ⟨some 81, .mov (.t 0), some (75, true)⟩,
 ⟨some 82, .mov (.t 11), some (75, true)⟩,
 ⟨some 83, .iaddr (.slice 1) (.t 81) (.t 82), some (75, true)⟩,
 ⟨some 84, .load false 1 (.t 83), some (75, true)⟩,
 ⟨some 85, .call true 148 [(.t 80), (.t 84)], some (75, true)⟩,
 ⟨some 86, .un .not (.t 85), some (75, true)⟩,
 ⟨some 87, .pick (.t 75) (.t 86) (.k (.b false)), none⟩])
 (.cond (.t 87)
 (.seq (.reg [⟨some 88, .mov (.t 0), none⟩, ⟨some 89, .mov (.t 1), none⟩, ⟨some 90, .mov (.t 2), none⟩, ⟨some 91, .mov (.t 11), none⟩, ⟨some 92, .call false 149 [(.t 88), (.t 89), (.t 90), (.t 91)], none⟩, ⟨some 13, .mov (.t 92), none⟩])
 (.seq (.reg [⟨some 93, .mov (.t 13), none⟩, ⟨some 1, .mov (.t 93), none⟩])
 (.exit 1)))
 .skip))
 (.seq (.reg [⟨some 95, .mov (.t 0), none⟩, ⟨some 96, .mov (.t 1), none⟩, ⟨some 97, .mov (.t 2), none⟩, ⟨some 98, .mov (.t 11), none⟩, ⟨some 99, .call false 150 [(.t 95), (.t 96), (.t 97), (.t 98)], none⟩, ⟨some 94, .mov (.t 99), none⟩, ⟨some 100, .ext (.t 94) 0, none⟩, ⟨some 101, .ext (.t 94) 1, none⟩, ⟨some 14, .mov (.t 100), none⟩, ⟨some 15, .mov (.t 101), none⟩])
 (.seq (.reg [⟨some 102, .mov (.t 15), none⟩, ⟨some 9, .mov (.t 102), none⟩])
 (.seq (.reg [⟨some 103, .mov (.t 14), none⟩, ⟨some 104, .mov (.t 1), none⟩, ⟨some 105, .bin .sub (.t 103) (.t 104), none⟩, ⟨some 106, .mov (.t 2), none⟩, ⟨some 107, .mov (.t 14), none⟩, ⟨some 108, .bin .sub (.t 106) (.t 107), none⟩, ⟨some 16, .mov (.t 105), none⟩, ⟨some 17, .mov (.t 108), none⟩])
 (.seq (.reg [⟨some 109, .mov (.t 10), none⟩, ⟨some 110, .bin .quo (.t 109) (.k (.i .i64 8)), none⟩, ⟨some 18, .mov (.t 110), none⟩])
 (.seq (.reg [⟨some 111, .mov (.t 16), none⟩, ⟨some 112, .mov (.t 17), none⟩, ⟨some 113, .bin .lss (.t 111) (.t 112), none⟩])
 (.cond (.t 113)
 (.seq (.reg [⟨some 114, .mov (.t 16), none⟩, ⟨some 115, .mov (.t 18), none⟩, ⟨some 116, .bin .geq (.t 114) (.t 115), none⟩, ⟨some 8, .mov (.t 116), none⟩])
 (.seq (.reg [⟨some 117, .mov (.t 0), none⟩, ⟨some 118, .mov (.t 1), none⟩, ⟨some 119, .mov (.t 14), none⟩, ⟨some 120, .mov (.t 3), none⟩, ⟨some 121, .call false 116 [(.t 117), (.t 118), (.t 119), (.t 120)], none⟩])
 (.reg [⟨some 122, .mov (.t 14), none⟩, ⟨some 123, .bin .add (.t 122) (.k (.i .i64 1)), none⟩, ⟨some 1, .mov (.t 123), none⟩])))
 (.seq (.reg [⟨some 124, .mov (.t 17), none⟩, ⟨some 125, .mov (.t 18), none⟩, ⟨some 126, .bin .geq (.t 124) (.t 125), none⟩, ⟨some 8, .mov (.t 126), none⟩])
 (.seq (.reg [⟨some 127, .mov (.t 0), none⟩, ⟨some 128, .mov (.t 14), none⟩, ⟨some 129, .bin .add (.t 128) (.k (.i .i64 1)), none⟩, ⟨some 130, .mov (.t 2), none⟩, ⟨some 131, .mov (.t 3), none⟩, ⟨some 132, .call false 116 [(.t 127), (.t 129), (.t 130), (.t 131)], none⟩])
 (.reg [⟨some 133, .mov (.t 14), none⟩, ⟨some 2, .mov (.t 133), none⟩]))))))))))))))))))
def B116 : AC := (.seq (.reg [⟨some 8, .mov (.k (.b true)), none⟩])
 (.seq (.reg [⟨some 9, .mov (.k (.b true)), none⟩])
 (.blk 0 (.loop L116_1))))
/-- slices.pdqsortOrdered[string] -/
def af116 : AFunc := { n := 134, depth := 8, kl := [], res := [], body := B116 }

def B117 : AC := (.seq (.reg [⟨some 2, .mov (.k (.i .i64 0)), none⟩])
 (.seq (.cond (.k (.b false))
 (.seq (.reg [⟨some 3, .mov (.t 0), none⟩, ⟨some 4, .conv (.int .u32) (.t 3), none⟩, ⟨some 5, .call true 151 [(.t 4)], none⟩, ⟨some 2, .mov (.t 5), none⟩])
 .ret)
 .skip)
 (.seq (.reg [⟨some 6, .mov (.t 0), none⟩, ⟨some 7, .call true 152 [(.t 6)], none⟩, ⟨some 2, .mov (.t 7), none⟩])
 .ret)))
/-- math/bits.Len -/
def af117 : AFunc := { n := 8, depth := 4, kl := [], res := [.tmp 2], body := B117 }

def B118 : AC := (.seq (.reg [⟨some 2, .lbox (.t 0) [2, 7, 12, 18], none⟩, ⟨some 4, .lalloc [(.i .u64 0), (.i .i64 0)] [4], none⟩])
 (.seq (.reg [⟨some 7, .faddr 0 (.t 2), none⟩, ⟨some 8, .load false 1 (.t 7), none⟩, ⟨some 9, .mov (.t 1), none⟩, ⟨some 10, .conv (.int .u64) (.t 9), none⟩, ⟨some 11, .bin .add (.t 8) (.t 10), none⟩, ⟨some 5, .mov (.t 11), none⟩])
 (.seq (.reg [⟨some 12, .faddr 1 (.t 2), none⟩, ⟨some 13, .load false 1 (.t 12), none⟩, ⟨some 14, .mov (.t 1), none⟩, ⟨some 15, .bin .shr (.t 14) (.k (.i .u64 63)), none⟩, ⟨some 16, .bin .add (.t 13) (.t 15), none⟩, ⟨some 6, .mov (.t 16), none⟩])
 (.seq (.seq (.reg [⟨some 17, .mov (.t 5), none⟩, ⟨some 18, .faddr 0 (.t 2), none⟩, ⟨some 19, .load false 1 (.t 18), none⟩, ⟨some 20, .bin .lss (.t 17) (.t 19), none⟩])
 (.cond (.t 20)
 (.reg [⟨some 21, .mov (.t 6), none⟩, ⟨some 22, .bin .add (.t 21) (.k (.i .i64 1)), none⟩, ⟨some 6, .mov (.t 22), none⟩])
 .skip))
 (.seq (.reg [⟨some 23, .mov (.t 5), none⟩, ⟨some 24, .mov (.t 6), none⟩, ⟨some 25, .build [(.i .u64 0), (.i .i64 0)] [(0, 1, (.t 23)), (1, 1, (.t 24))], none⟩, ⟨none, .store 2 (.t 4) (.t 25), none⟩])
 .ret)))))
/-- (tidemark/query.wide).add -/
def af118 : AFunc := { n := 26, depth := 5, kl := [(2, [2, 7, 12, 18]), (4, [4])], res := [.cell 4 true 2], body := B118 }

def B119 : AC := (.seq (.reg [⟨some 1, .lbox (.t 0) [1, 5, 9], none⟩, ⟨some 2, .mov (.k (.i .i64 0)), none⟩, ⟨some 3, .mov (.k (.b false)), none⟩])
 (.seq (.reg [⟨some 5, .faddr 0 (.t 1), none⟩, ⟨some 6, .load false 1 (.t 5), none⟩, ⟨some 7, .conv (.int .i64) (.t 6), none⟩, ⟨some 4, .mov (.t 7), none⟩])
 (.seq (.reg [⟨some 8, .mov (.t 4), none⟩, ⟨some 9, .faddr 1 (.t 1), none⟩, ⟨some 10, .load false 1 (.t 9), none⟩, ⟨some 11, .mov (.t 4), none⟩, ⟨some 12, .bin .shr (.t 11) (.k (.i .u64 63)), none⟩, ⟨some 13, .bin .eql (.t 10) (.t 12), none⟩, ⟨some 2, .mov (.t 8), none⟩, ⟨some 3, .mov (.t 13), none⟩])
 .ret)))
/-- (tidemark/query.wide).fits -/
def af119 : AFunc := { n := 14, depth := 4, kl := [(1, [1, 5, 9])], res := [.tmp 2, .tmp 3], body := B119 }

def L120_2 : AC := (.seq (.seq (.reg [⟨some 18, .mov (.t 9), none⟩, ⟨some 19, .mov (.t 1), none⟩, ⟨some 20, .bin .gtr (.t 18) (.t 19), none⟩, ⟨some 21, .mov (.t 20), none⟩, ⟨some 22, .mov (.t 3), some (21, true)⟩,
 ⟨some 23, .mov (.t 0), some (21, true)⟩,
 ⟨some 24, .mov (.t 9), some (21, true)⟩,
 ⟨some 25, .iaddr (.slice 2) (.t 23) (.t 24), some (21, true)⟩,
 ⟨some 26, .load true 2 (.t 25), some (21, true)⟩,
 ⟨some 27, .mov (.t 0), some (21, true)⟩,
 ⟨some 28, .mov (.t 9), some (21, true)⟩,
 ⟨some 29, .bin .sub (.t 28) (.k (.i .i64 1)), some (21, true)⟩,
 ⟨some 30, .iaddr (.slice 2) (.t 27) (.t 29), some (21, true)⟩,
 ⟨some 31, .load true 2 (.t 30), some (21, true)⟩,
 ⟨some 32, .callv true (.t 22) [(.t 26), (.t 31)], some (21, true)⟩,
 ⟨some 33, .bin .lss (.t 32) (.k (.i .i64 0)), some (21, true)⟩,
 ⟨some 34, .pick (.t 21) (.t 33) (.k (.b false)), none⟩])
 (.cond (.t 34)
 .skip
 (.exit 2)))
 (.seq (.blk 3 (.reg [⟨some 37, .mov (.t 0), none⟩, ⟨some 38, .mov (.t 9), none⟩, ⟨some 39, .mov (.t 0), none⟩, ⟨some 40, .mov (.t 9), none⟩, ⟨some 41, .bin .sub (.t 40) (.k (.i .i64 1)), none⟩, ⟨some 42, .mov (.t 0), none⟩, ⟨some 43, .mov (.t 9), none⟩, ⟨some 44, .bin .sub (.t 43) (.k (.i .i64 1)), none⟩, ⟨some 45, .iaddr (.slice 2) (.t 42) (.t 44), none⟩, ⟨some 46, .load true 2 (.t 45), none⟩, ⟨some 47, .mov (.t 0), none⟩, ⟨some 48, .mov (.t 9), none⟩, ⟨some 49, .iaddr (.slice 2) (.t 47) (.t 48), none⟩, ⟨some 50, .load true 2 (.t 49), none⟩, ⟨some 51, .iaddr (.slice 2) (.t 37) (.t 38), none⟩, ⟨none, .store 2 (.t 51) (.t 46), none⟩, ⟨some 52, .iaddr (.slice 2) (.t 39) (.t 41), none⟩, ⟨none, .store 2 (.t 52) (.t 50), none⟩]))
 (.reg [⟨some 35, .mov (.t 9), none⟩, ⟨some 36, .bin .sub (.t 35) (.k (.i .i64 1)), none⟩, ⟨some 9, .mov (.t 36), none⟩])))
def L120_1 : AC := (.seq (.seq (.reg [⟨some 12, .mov (.t 8), none⟩, ⟨some 13, .mov (.t 2), none⟩, ⟨some 14, .bin .lss (.t 12) (.t 13), none⟩])
 (.cond (.t 14)
 .skip
 (.exit 0)))
 (.seq (.blk 1 (.seq (.reg [⟨some 17, .mov (.t 8), none⟩, ⟨some 9, .mov (.t 17), none⟩])
 (.blk 2 (.loop L120_2))))
 (.reg [⟨some 15, .mov (.t 8), none⟩, ⟨some 16, .bin .add (.t 15) (.k (.i .i64 1)), none⟩, ⟨some 8, .mov (.t 16), none⟩])))
def B120 : AC := (.seq (.reg [⟨some 10, .mov (.t 1), none⟩, ⟨some 11, .bin .add (.t 10) (.k (.i .i64 1)), none⟩, ⟨some 8, .mov (.t 11), none⟩])
 (.blk 0 (.loop L120_1)))
/-- slices.insertionSortCmpFunc[tidemark/api.Pair] -/
def af120 : AFunc := { n := 53, depth := 6, kl := [], res := [], body := B120 }

def L121_5 : AC := (.seq (.seq (.reg [⟨some 149, .mov (.t 20), none⟩, ⟨some 150, .mov (.t 21), none⟩, ⟨some 151, .bin .lss (.t 149) (.t 150), none⟩])
 (.cond (.t 151)
 .skip
 (.exit 8)))
 (.blk 9 (.seq (.reg [⟨some 152, .mov (.t 20), none⟩, ⟨some 153, .mov (.t 21), none⟩, ⟨some 154, .bin .add (.t 152) (.t 153), none⟩, ⟨some 155, .conv (.int .u64) (.t 154), none⟩, ⟨some 156, .bin .shr (.t 155) (.k (.i .u64 1)), none⟩, ⟨some 157, .conv (.int .i64) (.t 156), none⟩, ⟨some 23, .mov (.t 157), none⟩])
 (.seq (.reg [⟨some 158, .mov (.t 4), none⟩, ⟨some 159, .mov (.t 0), none⟩, ⟨some 160, .mov (.t 22), none⟩, ⟨some 161, .mov (.t 23), none⟩, ⟨some 162, .bin .sub (.t 160) (.t 161), none⟩, ⟨some 163, .iaddr (.slice 2) (.t 159) (.t 162), none⟩, ⟨some 164, .load true 2 (.t 163), none⟩, ⟨some 165, .mov (.t 0), none⟩, ⟨some 166, .mov (.t 23), none⟩, ⟨some 167, .iaddr (.slice 2) (.t 165) (.t 166), none⟩, ⟨some 168, .load true 2 (.t 167), none⟩, ⟨some 169, .callv true (.t 158) [(.t 164), (.t 168)], none⟩, ⟨some 170, .bin .lss (.t 169) (.k (.i .i64 0)), none⟩, ⟨some 171, .un .not (.t 170), none⟩])
 (.cond (.t 171)
 (.reg [⟨some 172, .mov (.t 23), none⟩, ⟨some 173, .bin .add (.t 172) (.k (.i .i64 1)), none⟩, ⟨some 20, .mov (.t 173), none⟩])
 (.reg [⟨some 174, .mov (.t 23), none⟩, ⟨some 21, .mov (.t 174), none⟩]))))))
def L121_4 : AC := (.seq (.seq (.reg [⟨some 108, .mov (.t 17), none⟩, ⟨some 109, .mov (.t 14), none⟩, ⟨some 110, .bin .gtr (.t 108) (.t 109), none⟩])
 (.cond (.t 110)
 .skip
 (.exit 6)))
 (.seq (.blk 7 (.reg [⟨some 113, .mov (.t 0), none⟩, ⟨some 114, .mov (.t 17), none⟩, ⟨some 115, .mov (.t 0), none⟩, ⟨some 116, .mov (.t 17), none⟩, ⟨some 117, .bin .sub (.t 116) (.k (.i .i64 1)), none⟩, ⟨some 118, .mov (.t 0), none⟩, ⟨some 119, .mov (.t 17), none⟩, ⟨some 120, .bin .sub (.t 119) (.k (.i .i64 1)), none⟩, ⟨some 121, .iaddr (.slice 2) (.t 118) (.t 120), none⟩, ⟨some 122, .load true 2 (.t 121), none⟩, ⟨some 123, .mov (.t 0), none⟩, ⟨some 124, .mov (.t 17), none⟩, ⟨some 125, .iaddr (.slice 2) (.t 123) (.t 124), none⟩, ⟨some 126, .load true 2 (.t 125), none⟩, ⟨some 127, .iaddr (.slice 2) (.t 113) (.t 114), none⟩, ⟨none, .store 2 (.t 127) (.t 122), none⟩, ⟨some 128, .iaddr (.slice 2) (.t 115) (.t 117), none⟩, ⟨none, .store 2 (.t 128) (.t 126), none⟩]))
 (.reg [⟨some 111, .mov (.t 17), none⟩, ⟨some 112, .bin .sub (.t 111) (.k (.i .i64 1)), none⟩, ⟨some 17, .mov (.t 112), none⟩])))
def L121_3 : AC := (.seq (.seq (.reg [⟨some 83, .mov (.t 14), none⟩, ⟨some 84, .mov (.t 15), none⟩, ⟨some 85, .bin .lss (.t 83) (.t 84), none⟩])
 (.cond (.t 85)
 .skip
 (.exit 4)))
 (.blk 5 (.seq (.reg [⟨some 86, .mov (.t 14), none⟩, ⟨some 87, .mov (.t 15), none⟩, ⟨some 88, .bin .add (.t 86) (.t 87), none⟩, ⟨some 89, .conv (.int .u64) (.t 88), none⟩, ⟨some 90, .bin .shr (.t 89) (.k (.i .u64 1)), none⟩, ⟨some 91, .conv (.int .i64) (.t 90), none⟩, ⟨some 16, .mov (.t 91), none⟩])
 (.seq (.reg [⟨some 92, .mov (.t 4), none⟩, ⟨some 93, .mov (.t 0), none⟩, ⟨some 94, .mov (.t 2), none⟩, ⟨some 95, .iaddr (.slice 2) (.t 93) (.t 94), none⟩, ⟨some 96, .load true 2 (.t 95), none⟩, ⟨some 97, .mov (.t 0), none⟩, ⟨some 98, .mov (.t 16), none⟩, ⟨some 99, .iaddr (.slice 2) (.t 97) (.t 98), none⟩, ⟨some 100, .load true 2 (.t 99), none⟩, ⟨some 101, .callv true (.t 92) [(.t 96), (.t 100)], none⟩, ⟨some 102, .bin .lss (.t 101) (.k (.i .i64 0)), none⟩, ⟨some 103, .un .not (.t 102), none⟩])
 (.cond (.t 103)
 (.reg [⟨some 104, .mov (.t 16), none⟩, ⟨some 105, .bin .add (.t 104) (.k (.i .i64 1)), none⟩, ⟨some 14, .mov (.t 105), none⟩])
 (.reg [⟨some 106, .mov (.t 16), none⟩, ⟨some 15, .mov (.t 106), none⟩]))))))
def L121_2 : AC := (.seq (.seq (.reg [⟨some 55, .mov (.t 13), none⟩, ⟨some 56, .mov (.t 10), none⟩, ⟨some 57, .bin .sub (.t 56) (.k (.i .i64 1)), none⟩, ⟨some 58, .bin .lss (.t 55) (.t 57), none⟩])
 (.cond (.t 58)
 .skip
 (.exit 2)))
 (.seq (.blk 3 (.reg [⟨some 61, .mov (.t 0), none⟩, ⟨some 62, .mov (.t 13), none⟩, ⟨some 63, .mov (.t 0), none⟩, ⟨some 64, .mov (.t 13), none⟩, ⟨some 65, .bin .add (.t 64) (.k (.i .i64 1)), none⟩, ⟨some 66, .mov (.t 0), none⟩, ⟨some 67, .mov (.t 13), none⟩, ⟨some 68, .bin .add (.t 67) (.k (.i .i64 1)), none⟩, ⟨some 69, .iaddr (.slice 2) (.t 66) (.t 68), none⟩, ⟨some 70, .load true 2 (.t 69), none⟩, ⟨some 71, .mov (.t 0), none⟩, ⟨some 72, .mov (.t 13), none⟩, ⟨some 73, .iaddr (.slice 2) (.t 71) (.t 72), none⟩, ⟨some 74, .load true 2 (.t 73), none⟩, ⟨some 75, .iaddr (.slice 2) (.t 61) (.t 62), none⟩, ⟨none, .store 2 (.t 75) (.t 70), none⟩, ⟨some 76, .iaddr (.slice 2) (.t 63) (.t 65), none⟩, ⟨none, .store 2 (.t 76) (.t 74), none⟩]))
 (.reg [⟨some 59, .mov (.t 13), none⟩, ⟨some 60, .bin .add (.t 59) (.k (.i .i64 1)), none⟩, ⟨some 13, .mov (.t 60), none⟩])))
def L121_1 : AC := (.seq (.seq (.reg [⟨some 31, .mov (.t 10), none⟩, ⟨some 32, .mov (.t 11), none⟩, ⟨some 33, .bin .lss (.t 31) (.t 32), none⟩])
 (.cond (.t 33)
 .skip
 (.exit 0)))
 (.blk 1 (.seq (.reg [⟨some 34, .mov (.t 10), none⟩, ⟨some 35, .mov (.t 11), none⟩, ⟨some 36, .bin .add (.t 34) (.t 35), none⟩, ⟨some 37, .conv (.int .u64) (.t 36), none⟩, ⟨some 38, .bin .shr (.t 37) (.k (.i .u64 1)), none⟩, ⟨some 39, .conv (.int .i64) (.t 38), none⟩, ⟨some 12, .mov (.t 39), none⟩])
 (.seq (.reg [⟨some 40, .mov (.t 4), none⟩, ⟨some 41, .mov (.t 0), none⟩, ⟨some 42, .mov (.t 12), none⟩, ⟨some 43, .iaddr (.slice 2) (.t 41) (.t 42), none⟩, ⟨some 44, .load true 2 (.t 43), none⟩, ⟨some 45, .mov (.t 0), none⟩, ⟨some 46, .mov (.t 1), none⟩, ⟨some 47, .iaddr (.slice 2) (.t 45) (.t 46), none⟩, ⟨some 48, .load true 2 (.t 47), none⟩, ⟨some 49, .callv true (.t 40) [(.t 44), (.t 48)], none⟩, ⟨some 50, .bin .lss (.t 49) (.k (.i .i64 0)), none⟩])
 (.cond (.t 50)
 (.reg [⟨some 51, .mov (.t 12), none⟩, ⟨some 52, .bin .add (.t 51) (.k (.i .i64 1)), none⟩, ⟨some 10, .mov (.t 52), none⟩])
 (.reg [⟨some 53, .mov (.t 12), none⟩, ⟨some 11, .mov (.t 53), none⟩]))))))
def B121 : AC := (.seq (.seq (.reg [⟨some 25, .mov (.t 2), none⟩, ⟨some 26, .mov (.t 1), none⟩, ⟨some 27, .bin .sub (.t 25) (.t 26), none⟩, ⟨some 28, .bin .eql (.t 27) (.k (.i .i64 1)), none⟩])
 (.cond (.t 28)
 (.seq (.reg [⟨some 29, .mov (.t 2), none⟩, ⟨some 10, .mov (.t 29), none⟩])
 (.seq (.reg [⟨some 30, .mov (.t 3), none⟩, ⟨some 11, .mov (.t 30), none⟩])
 (.seq (.blk 0 (.loop L121_1))
 (.seq (.seq (.reg [⟨some 54, .mov (.t 1), none⟩, ⟨some 13, .mov (.t 54), none⟩])
 (.blk 2 (.loop L121_2)))
 .ret))))
 .skip))
 (.seq (.seq (.reg [⟨some 77, .mov (.t 3), none⟩, ⟨some 78, .mov (.t 2), none⟩, ⟨some 79, .bin .sub (.t 77) (.t 78), none⟩, ⟨some 80, .bin .eql (.t 79) (.k (.i .i64 1)), none⟩])
 (.cond (.t 80)
 (.seq (.reg [⟨some 81, .mov (.t 1), none⟩, ⟨some 14, .mov (.t 81), none⟩])
 (.seq (.reg [⟨some 82, .mov (.t 2), none⟩, ⟨some 15, .mov (.t 82), none⟩])
 (.seq (.blk 4 (.loop L121_3))
 (.seq (.seq (.reg [⟨some 107, .mov (.t 2), none⟩, ⟨some 17, .mov (.t 107), none⟩])
 (.blk 6 (.loop L121_4)))
 .ret))))
 .skip))
 (.seq (.reg [⟨some 129, .mov (.t 1), none⟩, ⟨some 130, .mov (.t 3), none⟩, ⟨some 131, .bin .add (.t 129) (.t 130), none⟩, ⟨some 132, .conv (.int .u64) (.t 131), none⟩, ⟨some 133, .bin .shr (.t 132) (.k (.i .u64 1)), none⟩, ⟨some 134, .conv (.int .i64) (.t 133), none⟩, ⟨some 18, .mov (.t 134), none⟩])
 (.seq (.reg [⟨some 135, .mov (.t 18), none⟩, ⟨some 136, .mov (.t 2), none⟩, ⟨some 137, .bin .add (.t 135) (.t 136), none⟩, ⟨some 19, .mov (.t 137), none⟩])
 (.seq (.reg [⟨some 20, .mov (.k (.i .i64 0)), none⟩, ⟨some 21, .mov (.k (.i .i64 0)), none⟩])
 (.seq (.seq (.reg [⟨some 138, .mov (.t 2), none⟩, ⟨some 139, .mov (.t 18), none⟩, ⟨some 140, .bin .gtr (.t 138) (.t 139), none⟩])
 (.cond (.t 140)
 (.seq (.reg [⟨some 141, .mov (.t 19), none⟩, ⟨some 142, .mov (.t 3), none⟩, ⟨some 143, .bin .sub (.t 141) (.t 142), none⟩, ⟨some 20, .mov (.t 143), none⟩])
 (.reg [⟨some 144, .mov (.t 18), none⟩, ⟨some 21, .mov (.t 144), none⟩]))
 (.seq (.reg [⟨some 145, .mov (.t 1), none⟩, ⟨some 20, .mov (.t 145), none⟩])
 (.reg [⟨some 146, .mov (.t 2), none⟩, ⟨some 21, .mov (.t 146), none⟩]))))
 (.seq (.reg [⟨some 147, .mov (.t 19), none⟩, ⟨some 148, .bin .sub (.t 147) (.k (.i .i64 1)), none⟩, ⟨some 22, .mov (.t 148), none⟩])
 (.seq (.blk 8 (.loop L121_5))
 (.seq (.reg [⟨some 175, .mov (.t 19), none⟩, ⟨some 176, .mov (.t 20), none⟩, ⟨some 177, .bin .sub (.t 175) (.t 176), none⟩, ⟨some 24, .mov (.t 177), none⟩])
 (.seq (.seq (.reg [⟨some 178, .mov (.t 20), none⟩, ⟨some 179, .mov (.t 2), none⟩, ⟨some 180, .bin .lss (.t 178) (.t 179), none⟩, ⟨some 181, .mov (.t 180), none⟩, ⟨some 182, .mov (.t 2), some (181, true)⟩,
 ⟨some 183, .mov (.t 24), some (181, true)⟩,
 ⟨some 184, .bin .lss (.t 182) (.t 183), some (181, true)⟩,
 ⟨some 185, .pick (.t 181) (.t 184) (.k (.b false)), none⟩])
 (.cond (.t 185)
 (.reg [⟨some 186, .mov (.t 0), none⟩, ⟨some 187, .mov (.t 20), none⟩, ⟨some 188, .mov (.t 2), none⟩, ⟨some 189, .mov (.t 24), none⟩, ⟨some 190, .mov (.t 4), none⟩, ⟨some 191, .call false 153 [(.t 186), (.t 187), (.t 188), (.t 189), (.t 190)], none⟩])
 .skip))
 (.seq (.seq (.reg [⟨some 192, .mov (.t 1), none⟩, ⟨some 193, .mov (.t 20), none⟩, ⟨some 194, .bin .lss (.t 192) (.t 193), none⟩, ⟨some 195, .mov (.t 194), none⟩, ⟨some 196, .mov (.t 20), some (195, true)⟩,
 ⟨some 197, .mov (.t 18), some (195, true)⟩,
 ⟨some 198, .bin .lss (.t 196) (.t 197), some (195, true)⟩,
 ⟨some 199, .pick (.t 195) (.t 198) (.k (.b false)), none⟩])
 (.cond (.t 199)
 (.reg [⟨some 200, .mov (.t 0), none⟩, ⟨some 201, .mov (.t 1), none⟩, ⟨some 202, .mov (.t 20), none⟩, ⟨some 203, .mov (.t 18), none⟩, ⟨some 204, .mov (.t 4), none⟩, ⟨some 205, .call false 121 [(.t 200), (.t 201), (.t 202), (.t 203), (.t 204)], none⟩])
 .skip))
 (.seq (.reg [⟨some 206, .mov (.t 18), none⟩, ⟨some 207, .mov (.t 24), none⟩, ⟨some 208, .bin .lss (.t 206) (.t 207), none⟩, ⟨some 209, .mov (.t 208), none⟩, ⟨some 210, .mov (.t 24), some (209, true)⟩,
 ⟨some 211, .mov (.t 3), some (209, true)⟩,
 ⟨some 212, .bin .lss (.t 210) (.t 211), some (209, true)⟩,
 ⟨some 213, .pick (.t 209) (.t 212) (.k (.b false)), none⟩])
 (.cond (.t 213)
 (.reg [⟨some 214, .mov (.t 0), none⟩, ⟨some 215, .mov (.t 18), none⟩, ⟨some 216, .mov (.t 24), none⟩, ⟨some 217, .mov (.t 3), none⟩, ⟨some 218, .mov (.t 4), none⟩, ⟨some 219, .call false 121 [(.t 214), (.t 215), (.t 216), (.t 217), (.t 218)], none⟩])
 .skip)))))))))))))
/-- slices.symMergeCmpFunc[tidemark/api.Pair] -/
def af121 : AFunc := { n := 220, depth := 8, kl := [], res := [], body := B121 }

def L122_1 : AC := (.seq (.reg [⟨some 11, .next 10, none⟩, ⟨some 12, .ext (.t 11) 0, none⟩])
 (.seq (.cond (.t 12)
 .skip
 (.exit 0))
 (.blk 1 (.seq (.reg [⟨some 13, .ext (.t 11) 1, none⟩, ⟨some 14, .ext (.t 11) 2, none⟩, ⟨some 7, .mov (.t 13), none⟩, ⟨some 8, .mov (.t 14), none⟩])
 (.blk 2 (.seq (.reg [⟨some 24, .mov (.t 7), none⟩, ⟨some 25, .bin .eql (.t 24) (.k (.i .i64 0)), none⟩, ⟨some 26, .mov (.t 25), none⟩, ⟨some 27, .mov (.t 8), some (26, true)⟩,
 ⟨some 28, .bin .eql (.t 27) (.k (.i .i32 45)), some (26, true)⟩,
 ⟨some 29, .pick (.t 26) (.t 28) (.k (.b false)), none⟩, ⟨some 30, .mov (.t 29), none⟩, ⟨some 31, .mov (.t 0), some (30, true)⟩,
 ⟨some 32, .len .str (.t 31), some (30, true)⟩,
 ⟨some 33, .bin .gtr (.t 32) (.k (.i .i64 1)), some (30, true)⟩,
 ⟨some 34, .pick (.t 30) (.t 33) (.k (.b false)), none⟩, ⟨some 23, .mov (.t 34), none⟩])
 (.cond (.t 23)
 (.reg [⟨some 4, .mov (.k (.b true)), none⟩])
 (.seq (.reg [⟨some 36, .mov (.t 8), none⟩, ⟨some 37, .bin .lss (.t 36) (.k (.i .i32 48)), none⟩, ⟨some 38, .mov (.t 37), none⟩, ⟨some 39, .mov (.t 8), some (38, false)⟩,
 ⟨some 40, .bin .gtr (.t 39) (.k (.i .i32 57)), some (38, false)⟩,
 ⟨some 41, .pick (.t 38) (.k (.b true)) (.t 40), none⟩, ⟨some 42, .mov (.t 41), none⟩, ⟨some 43, .mov (.t 6), some (42, false)⟩,
 ⟨some 44, .bin .gtr (.t 43) (.k (.i .i64 0)), some (42, false)⟩,
 ⟨some 45, .mov (.t 44), some (42, false)⟩,
 ⟨some 46, .mov (.t 5), some (45, true)⟩,
 ⟨some 47, .bin .eql (.t 46) (.k (.i .u64 0)), some (45, true)⟩,
 ⟨some 48, .pick (.t 45) (.t 47) (.k (.b false)), some (42, false)⟩,
 ⟨some 49, .pick (.t 42) (.k (.b true)) (.t 48), none⟩, ⟨some 50, .mov (.t 49), none⟩, ⟨some 51, .mov (.t 6), some (50, false)⟩,
 ⟨some 52, .bin .gtr (.t 51) (.k (.i .i64 18)), some (50, false)⟩,
 ⟨some 53, .pick (.t 50) (.k (.b true)) (.t 52), none⟩, ⟨some 35, .mov (.t 53), none⟩])
 (.cond (.t 35)
 (.seq (.reg [⟨some 2, .mov (.k (.i .i64 0)), none⟩, ⟨some 3, .mov (.k (.i .i64 23)), none⟩])
 .ret)
 (.seq (.reg [⟨some 15, .mov (.t 5), none⟩, ⟨some 16, .bin .mul (.k (.i .u64 10)) (.t 15), none⟩, ⟨some 17, .mov (.t 8), none⟩, ⟨some 18, .bin .sub (.t 17) (.k (.i .i32 48)), none⟩, ⟨some 19, .conv (.int .u64) (.t 18), none⟩, ⟨some 20, .bin .add (.t 16) (.t 19), none⟩, ⟨some 5, .mov (.t 20), none⟩])
 (.reg [⟨some 21, .mov (.t 6), none⟩, ⟨some 22, .bin .add (.t 21) (.k (.i .i64 1)), none⟩, ⟨some 6, .mov (.t 22), none⟩])))))))))))
def B122 : AC := (.seq (.reg [⟨some 2, .mov (.k (.i .i64 0)), none⟩, ⟨some 3, .mov (.k (.i .i64 0)), none⟩])
 (.seq (.reg [⟨some 4, .mov (.k (.b false)), none⟩])
 (.seq (.reg [⟨some 5, .mov (.k (.i .u64 0)), none⟩])
 (.seq (.reg [⟨some 6, .mov (.k (.i .i64 0)), none⟩])
 (.seq (.seq (.reg [⟨some 9, .mov (.t 0), none⟩, ⟨some 10, .range (.t 9), none⟩])
 (.blk 0 (.loop L122_1)))
 (.seq (.blk 3 (.seq (.reg [⟨some 55, .mov (.t 6), none⟩, ⟨some 56, .bin .eql (.t 55) (.k (.i .i64 0)), none⟩, ⟨some 57, .mov (.t 56), none⟩, ⟨some 58, .mov (.t 4), some (57, false)⟩,
 ⟨some 59, .mov (.t 58), some (57, false)⟩,
 ⟨some 60, .mov (.t 5), some (59, true)⟩,
 ⟨some 61, .bin .eql (.t 60) (.k (.i .u64 0)), some (59, true)⟩,
 ⟨some 62, .pick (.t 59) (.t 61) (.k (.b false)), some (57, false)⟩,
 ⟨some 63, .pick (.t 57) (.k (.b true)) (.t 62), none⟩, ⟨some 54, .mov (.t 63), none⟩])
 (.cond (.t 54)
 (.seq (.reg [⟨some 2, .mov (.k (.i .i64 0)), none⟩, ⟨some 3, .mov (.k (.i .i64 23)), none⟩])
 .ret)
 (.seq (.reg [⟨some 65, .mov (.t 4), none⟩, ⟨some 66, .mov (.t 65), none⟩, ⟨some 67, .mov (.t 5), some (66, true)⟩,
 ⟨some 68, .bin .leq (.t 67) (.k (.i .u64 9223372036854775808)), some (66, true)⟩,
 ⟨some 69, .pick (.t 66) (.t 68) (.k (.b false)), none⟩, ⟨some 64, .mov (.t 69), none⟩])
 (.cond (.t 64)
 (.seq (.reg [⟨some 70, .mov (.t 5), none⟩, ⟨some 71, .conv (.int .i64) (.t 70), none⟩, ⟨some 72, .un .neg (.t 71), none⟩, ⟨some 2, .mov (.t 72), none⟩, ⟨some 3, .mov (.k (.i .i64 0)), none⟩])
 .ret)
 (.seq (.reg [⟨some 74, .mov (.t 5), none⟩, ⟨some 75, .bin .gtr (.t 74) (.k (.i .u64 9223372036854775807)), none⟩, ⟨some 73, .mov (.t 75), none⟩])
 (.cond (.t 73)
 (.seq (.reg [⟨some 2, .mov (.k (.i .i64 0)), none⟩, ⟨some 3, .mov (.k (.i .i64 5)), none⟩])
 .ret)
 .skip)))))))
 (.seq (.reg [⟨some 76, .mov (.t 5), none⟩, ⟨some 77, .conv (.int .i64) (.t 76), none⟩, ⟨some 2, .mov (.t 77), none⟩, ⟨some 3, .mov (.k (.i .i64 0)), none⟩])
 .ret)))))))
/-- tidemark/text.Number -/
def af122 : AFunc := { n := 78, depth := 7, kl := [], res := [.tmp 2, .tmp 3], body := B122 }

def B123 : AC := (.seq (.reg [⟨some 4, .mov (.k (.i .i64 0)), none⟩])
 (.seq (.reg [⟨some 5, .mov (.t 0), none⟩, ⟨some 6, .mov (.t 1), none⟩, ⟨some 7, .call true 154 [(.t 5), (.t 6)], none⟩, ⟨some 4, .mov (.t 7), none⟩])
 .ret))
/-- internal/bytealg.CompareString -/
def af123 : AFunc := { n := 8, depth := 4, kl := [], res := [.tmp 4], body := B123 }

def B124 : AC := (.seq (.reg [⟨some 4, .mov (.k .nili), none⟩])
 (.seq (.reg [⟨some 5, .mov (.t 0), none⟩, ⟨some 6, .call false 97 [(.t 5)], none⟩])
 (.seq (.reg [⟨some 7, .mov (.t 0), none⟩, ⟨some 8, .mov (.t 0), none⟩, ⟨some 9, .nilck (.t 8), none⟩, ⟨some 10, .faddr 1 (.t 9), none⟩, ⟨some 11, .load false 1 (.t 10), none⟩, ⟨some 12, .mov (.t 1), none⟩, ⟨some 13, .bslice false 5 1 1 [(.i .u8 0)] [(0, (.t 12))], none⟩, ⟨some 14, .app 5 1 (.t 11) (.t 13), none⟩, ⟨some 15, .nilck (.t 7), none⟩, ⟨some 16, .faddr 1 (.t 15), none⟩, ⟨none, .store 1 (.t 16) (.t 14), none⟩])
 (.seq (.reg [⟨some 4, .mov (.k .nili), none⟩])
 .ret))))
/-- (*strings.Builder).WriteByte -/
def af124 : AFunc := { n := 17, depth := 5, kl := [], res := [.tmp 4], body := B124 }

def B125 : AC := (.seq (.reg [⟨some 4, .mov (.k (.i .i64 0)), none⟩, ⟨some 5, .mov (.k .nili), none⟩])
 (.seq (.reg [⟨some 7, .mov (.t 0), none⟩, ⟨some 8, .call false 97 [(.t 7)], none⟩])
 (.seq (.reg [⟨some 9, .mov (.t 0), none⟩, ⟨some 10, .nilck (.t 9), none⟩, ⟨some 11, .faddr 1 (.t 10), none⟩, ⟨some 12, .load false 1 (.t 11), none⟩, ⟨some 13, .len .slice (.t 12), none⟩, ⟨some 6, .mov (.t 13), none⟩])
 (.seq (.reg [⟨some 14, .mov (.t 0), none⟩, ⟨some 15, .mov (.t 0), none⟩, ⟨some 16, .nilck (.t 15), none⟩, ⟨some 17, .faddr 1 (.t 16), none⟩, ⟨some 18, .load false 1 (.t 17), none⟩, ⟨some 19, .mov (.t 1), none⟩, ⟨some 20, .call false 155 [(.t 18), (.t 19)], none⟩, ⟨some 21, .nilck (.t 14), none⟩, ⟨some 22, .faddr 1 (.t 21), none⟩, ⟨none, .store 1 (.t 22) (.t 20), none⟩])
 (.seq (.reg [⟨some 23, .mov (.t 0), none⟩, ⟨some 24, .nilck (.t 23), none⟩, ⟨some 25, .faddr 1 (.t 24), none⟩, ⟨some 26, .load false 1 (.t 25), none⟩, ⟨some 27, .len .slice (.t 26), none⟩, ⟨some 28, .mov (.t 6), none⟩, ⟨some 29, .bin .sub (.t 27) (.t 28), none⟩, ⟨some 4, .mov (.t 29), none⟩, ⟨some 5, .mov (.k .nili), none⟩])
 .ret)))))
/-- (*strings.Builder).WriteRune -/
def af125 : AFunc := { n := 30, depth := 5, kl := [], res := [.tmp 4, .tmp 5], body := B125 }

def B135 : AC := (.seq (.reg [⟨some 2, .mov (.k (.i .i32 0)), none⟩, ⟨some 3, .mov (.k (.i .i64 0)), none⟩])
 (.seq (.reg [⟨some 13, .mov (.t 0), none⟩, ⟨some 14, .len .str (.t 13), none⟩, ⟨some 4, .mov (.t 14), none⟩])
 (.seq (.seq (.reg [⟨some 15, .mov (.t 4), none⟩, ⟨some 16, .bin .lss (.t 15) (.k (.i .i64 1)), none⟩])
 (.cond (.t 16)
 (.seq (.reg [⟨some 2, .mov (.k (.i .i32 65533)), none⟩, ⟨some 3, .mov (.k (.i .i64 0)), none⟩])
 .ret)
 .skip))
 (.seq (.reg [⟨some 17, .mov (.t 0), none⟩, ⟨some 18, .idx .str (.t 17) (.k (.i .i64 0)), none⟩, ⟨some 5, .mov (.t 18), none⟩])
 (.seq (.reg [⟨some 19, .mov (.t 5), none⟩, ⟨some 20, .iaddr (.arr 256 1) (.g 2) (.t 19), none⟩, ⟨some 21, .load false 1 (.t 20), none⟩, ⟨some 6, .mov (.t 21), none⟩])
 (.seq (.seq (.reg [⟨some 22, .mov (.t 6), none⟩, ⟨some 23, .bin .geq (.t 22) (.k (.i .u8 240)), none⟩])
 (.cond (.t 23)
 (.seq (.reg [⟨some 24, .mov (.t 6), none⟩, ⟨some 25, .conv (.int .i32) (.t 24), none⟩, ⟨some 26, .bin .shl (.t 25) (.k (.i .u64 31)), none⟩, ⟨some 27, .bin .shr (.t 26) (.k (.i .u64 31)), none⟩, ⟨some 7, .mov (.t 27), none⟩])
 (.seq (.reg [⟨some 28, .mov (.t 0), none⟩, ⟨some 29, .idx .str (.t 28) (.k (.i .i64 0)), none⟩, ⟨some 30, .conv (.int .i32) (.t 29), none⟩, ⟨some 31, .mov (.t 7), none⟩, ⟨some 32, .bin .andNot (.t 30) (.t 31), none⟩, ⟨some 33, .mov (.t 7), none⟩, ⟨some 34, .bin .and (.k (.i .i32 65533)) (.t 33), none⟩, ⟨some 35, .bin .or (.t 32) (.t 34), none⟩, ⟨some 2, .mov (.t 35), none⟩, ⟨some 3, .mov (.k (.i .i64 1)), none⟩])
 .ret))
 .skip))
 (.seq (.reg [⟨some 36, .mov (.t 6), none⟩, ⟨some 37, .bin .and (.t 36) (.k (.i .u8 7)), none⟩, ⟨some 38, .conv (.int .i64) (.t 37), none⟩, ⟨some 8, .mov (.t 38), none⟩])
 (.seq (.reg [⟨some 39, .mov (.t 6), none⟩, ⟨some 40, .bin .shr (.t 39) (.k (.i .u64 4)), none⟩, ⟨some 41, .iaddr (.arr 16 2) (.g 3) (.t 40), none⟩, ⟨some 42, .load true 2 (.t 41), none⟩, ⟨some 9, .lalloc [(.i .u8 0), (.i .u8 0)] [9, 49, 53], none⟩, ⟨none, .store 2 (.t 9) (.t 42), none⟩])
 (.seq (.seq (.reg [⟨some 43, .mov (.t 4), none⟩, ⟨some 44, .mov (.t 8), none⟩, ⟨some 45, .bin .lss (.t 43) (.t 44), none⟩])
 (.cond (.t 45)
 (.seq (.reg [⟨some 2, .mov (.k (.i .i32 65533)), none⟩, ⟨some 3, .mov (.k (.i .i64 1)), none⟩])
 .ret)
 .skip))
 (.seq (.reg [⟨some 46, .mov (.t 0), none⟩, ⟨some 47, .idx .str (.t 46) (.k (.i .i64 1)), none⟩, ⟨some 10, .mov (.t 47), none⟩])
 (.seq (.seq (.reg [⟨some 48, .mov (.t 10), none⟩, ⟨some 49, .faddr 0 (.t 9), none⟩, ⟨some 50, .load false 1 (.t 49), none⟩, ⟨some 51, .bin .lss (.t 48) (.t 50), none⟩, ⟨some 52, .mov (.t 51), none⟩, ⟨some 53, .faddr 1 (.t 9), some (52, false)⟩,
 ⟨some 54, .load false 1 (.t 53), some (52, false)⟩,
 ⟨some 55, .mov (.t 10), some (52, false)⟩,
 ⟨some 56, .bin .lss (.t 54) (.t 55), some (52, false)⟩,
 ⟨some 57, .pick (.t 52) (.k (.b true)) (.t 56), none⟩])
 (.cond (.t 57)
 (.seq (.reg [⟨some 2, .mov (.k (.i .i32 65533)), none⟩, ⟨some 3, .mov (.k (.i .i64 1)), none⟩])
 .ret)
 .skip))
 (.seq (.seq (.reg [⟨some 58, .mov (.t 8), none⟩, ⟨some 59, .bin .leq (.t 58) (.k (.i .i64 2)), none⟩])
 (.cond (.t 59)
 (.seq (.reg [⟨some 60, .mov (.t 5), none⟩, ⟨some 61, .bin .and (.t 60) (.k (.i .u8 31)), none⟩, ⟨some 62, .conv (.int .i32) (.t 61), none⟩, ⟨some 63, .bin .shl (.t 62) (.k (.i .u64 6)), none⟩, ⟨some 64, .mov (.t 10), none⟩, ⟨some 65, .bin .and (.t 64) (.k (.i .u8 63)), none⟩, ⟨some 66, .conv (.int .i32) (.t 65), none⟩, ⟨some 67, .bin .or (.t 63) (.t 66), none⟩, ⟨some 2, .mov (.t 67), none⟩, ⟨some 3, .mov (.k (.i .i64 2)), none⟩])
 .ret)
 .skip))
 (.seq (.reg [⟨some 68, .mov (.t 0), none⟩, ⟨some 69, .idx .str (.t 68) (.k (.i .i64 2)), none⟩, ⟨some 11, .mov (.t 69), none⟩])
 (.seq (.seq (.reg [⟨some 70, .mov (.t 11), none⟩, ⟨some 71, .bin .lss (.t 70) (.k (.i .u8 128)), none⟩, ⟨some 72, .mov (.t 71), none⟩, ⟨some 73, .mov (.t 11), some (72, false)⟩,
 ⟨some 74, .bin .lss (.k (.i .u8 191)) (.t 73), some (72, false)⟩,
 ⟨some 75, .pick (.t 72) (.k (.b true)) (.t 74), none⟩])
 (.cond (.t 75)
 (.seq (.reg [⟨some 2, .mov (.k (.i .i32 65533)), none⟩, ⟨some 3, .mov (.k (.i .i64 1)), none⟩])
 .ret)
 .skip))
 (.seq (.seq (.reg [⟨some 76, .mov (.t 8), none⟩, ⟨some 77, .bin .leq (.t 76) (.k (.i .i64 3)), none⟩])
 (.cond (.t 77)
 (.seq (.reg [⟨some 78, .mov (.t 5), none⟩, ⟨some 79, .bin .and (.t 78) (.k (.i .u8 15)), none⟩, ⟨some 80, .conv (.int .i32) (.t 79), none⟩, ⟨some 81, .bin .shl (.t 80) (.k (.i .u64 12)), none⟩, ⟨some 82, .mov (.t 10), none⟩, ⟨some 83, .bin .and (.t 82) (.k (.i .u8 63)), none⟩, ⟨some 84, .conv (.int .i32) (.t 83), none⟩, ⟨some 85, .bin .shl (.t 84) (.k (.i .u64 6)), none⟩, ⟨some 86, .bin .or (.t 81) (.t 85), none⟩, ⟨some 87, .mov (.t 11), none⟩, ⟨some 88, .bin .and (.t 87) (.k (.i .u8 63)), none⟩, ⟨some 89, .conv (.int .i32) (.t 88), none⟩, ⟨some 90, .bin .or (.t 86) (.t 89), none⟩, ⟨some 2, .mov (.t 90), none⟩, ⟨some 3, .mov (.k (.i .i64 3)), none⟩])
 .ret)
 .skip))
 (.seq (.reg [⟨some 91, .mov (.t 0), none⟩, ⟨some 92, .idx .str (.t 91) (.k (.i .i64 3)), none⟩, ⟨some 12, .mov (.t 92), none⟩])
 (.seq (.seq (.reg [⟨some 93, .mov (.t 12), none⟩, ⟨some 94, .bin .lss (.t 93) (.k (.i .u8 128)), none⟩, ⟨some 95, .mov (.t 94), none⟩, ⟨some 96, .mov (.t 12), some (95, false)⟩,
 ⟨some 97, .bin .lss (.k (.i .u8 191)) (.t 96), some (95, false)⟩,
 ⟨some 98, .pick (.t 95) (.k (.b true)) (.t 97), none⟩])
 (.cond (.t 98)
 (.seq (.reg [⟨some 2, .mov (.k (.i .i32 65533)), none⟩, ⟨some 3, .mov (.k (.i .i64 1)), none⟩])
 .ret)
 .skip))
 (.seq (.reg [⟨some 99, .mov (.t 5), none⟩, ⟨some 100, .bin .and (.t 99) (.k (.i .u8 7)), none⟩, ⟨some 101, .conv (.int .i32) (.t 100), none⟩, ⟨some 102, .bin .shl (.t 101) (.k (.i .u64 18)), none⟩, ⟨some 103, .mov (.t 10), none⟩, ⟨some 104, .bin .and (.t 103) (.k (.i .u8 63)), none⟩, ⟨some 105, .conv (.int .i32) (.t 104), none⟩, ⟨some 106, .bin .shl (.t 105) (.k (.i .u64 12)), none⟩, ⟨some 107, .bin .or (.t 102) (.t 106), none⟩, ⟨some 108, .mov (.t 11), none⟩, ⟨some 109, .bin .and (.t 108) (.k (.i .u8 63)), none⟩, ⟨some 110, .conv (.int .i32) (.t 109), none⟩, ⟨some 111, .bin .shl (.t 110) (.k (.i .u64 6)), none⟩, ⟨some 112, .bin .or (.t 107) (.t 111), none⟩, ⟨some 113, .mov (.t 12), none⟩, ⟨some 114, .bin .and (.t 113) (.k (.i .u8 63)), none⟩, ⟨some 115, .conv (.int .i32) (.t 114), none⟩, ⟨some 116, .bin .or (.t 112) (.t 115), none⟩, ⟨some 2, .mov (.t 116), none⟩, ⟨some 3, .mov (.k (.i .i64 4)), none⟩])
 .ret))))))))))))))))))
/-- unicode/utf8.decodeRuneInStringSlow -/
def af135 : AFunc := { n := 117, depth := 7, kl := [(9, [9, 49, 53])], res := [.tmp 2, .tmp 3], body := B135 }

def L136_1 : AC := (.seq (.reg [⟨some 30, .next 29, none⟩, ⟨some 31, .ext (.t 30) 0, none⟩])
 (.seq (.cond (.t 31)
 .skip
 (.exit 0))
 (.blk 1 (.seq (.reg [⟨some 32, .ext (.t 30) 2, none⟩, ⟨some 7, .mov (.t 32), none⟩])
 (.blk 2 (.seq (.reg [⟨some 34, .mov (.t 7), none⟩, ⟨some 35, .call true 105 [(.t 34)], none⟩, ⟨some 33, .mov (.t 35), none⟩])
 (.cond (.t 33)
 (.reg [⟨some 36, .mov (.t 5), none⟩, ⟨some 37, .bin .shl (.t 36) (.k (.i .u64 4)), none⟩, ⟨some 38, .mov (.t 7), none⟩, ⟨some 39, .bin .sub (.t 38) (.k (.i .i32 48)), none⟩, ⟨some 40, .bin .or (.t 37) (.t 39), none⟩, ⟨some 5, .mov (.t 40), none⟩])
 (.seq (.reg [⟨some 42, .mov (.t 7), none⟩, ⟨some 43, .bin .geq (.t 42) (.k (.i .i32 97)), none⟩, ⟨some 44, .mov (.t 43), none⟩, ⟨some 45, .mov (.t 7), some (44, true)⟩,
 ⟨some 46, .bin .leq (.t 45) (.k (.i .i32 102)), some (44, true)⟩,
 ⟨some 47, .pick (.t 44) (.t 46) (.k (.b false)), none⟩, ⟨some 41, .mov (.t 47), none⟩])
 (.cond (.t 41)
 (.reg [⟨some 48, .mov (.t 5), none⟩, ⟨some 49, .bin .shl (.t 48) (.k (.i .u64 4)), none⟩, ⟨some 50, .mov (.t 7), none⟩, ⟨some 51, .bin .sub (.t 50) (.k (.i .i32 97)), none⟩, ⟨some 52, .bin .add (.t 51) (.k (.i .i32 10)), none⟩, ⟨some 53, .bin .or (.t 49) (.t 52), none⟩, ⟨some 5, .mov (.t 53), none⟩])
 (.seq (.reg [⟨some 2, .mov (.k (.i .i32 0)), none⟩, ⟨some 3, .mov (.k (.i .i64 0)), none⟩])
 .ret))))))))))
def B136 : AC := (.seq (.reg [⟨some 2, .mov (.k (.i .i32 0)), none⟩, ⟨some 3, .mov (.k (.i .i64 0)), none⟩])
 (.seq (.reg [⟨some 8, .mov (.t 0), none⟩, ⟨some 9, .call true 160 [(.t 8), (.k (.i .u8 125))], none⟩, ⟨some 4, .mov (.t 9), none⟩])
 (.seq (.seq (.reg [⟨some 10, .mov (.t 0), none⟩, ⟨some 11, .len .str (.t 10), none⟩, ⟨some 12, .bin .lss (.t 11) (.k (.i .i64 3)), none⟩, ⟨some 13, .mov (.t 12), none⟩, ⟨some 14, .mov (.t 0), some (13, false)⟩,
 ⟨some 15, .idx .str (.t 14) (.k (.i .i64 0)), some (13, false)⟩,
 ⟨some 16, .bin .neq (.t 15) (.k (.i .u8 123)), some (13, false)⟩,
 ⟨some 17, .pick (.t 13) (.k (.b true)) (.t 16), none⟩, ⟨some 18, .mov (.t 17), none⟩, ⟨some 19, .mov (.t 4), some (18, false)⟩,
 ⟨some 20, .bin .lss (.t 19) (.k (.i .i64 2)), some (18, false)⟩,
 ⟨some 21, .pick (.t 18) (.k (.b true)) (.t 20), none⟩, ⟨some 22, .mov (.t 21), none⟩, ⟨some 23, .mov (.t 4), some (22, false)⟩,
 ⟨some 24, .bin .gtr (.t 23) (.k (.i .i64 7)), some (22, false)⟩,
 ⟨some 25, .pick (.t 22) (.k (.b true)) (.t 24), none⟩])
 (.cond (.t 25)
 (.seq (.reg [⟨some 2, .mov (.k (.i .i32 0)), none⟩, ⟨some 3, .mov (.k (.i .i64 0)), none⟩])
 .ret)
 .skip))
 (.seq (.reg [⟨some 5, .mov (.k (.i .i32 0)), none⟩])
 (.seq (.seq (.reg [⟨some 26, .mov (.t 0), none⟩, ⟨some 27, .mov (.t 4), none⟩, ⟨some 28, .slc .str (.t 26) (some (.k (.i .i64 1))) (some (.t 27)) none, none⟩, ⟨some 29, .range (.t 28), none⟩])
 (.blk 0 (.loop L136_1)))
 (.seq (.seq (.reg [⟨some 54, .mov (.t 5), none⟩, ⟨some 55, .call true 161 [(.t 54)], none⟩, ⟨some 56, .un .not (.t 55), none⟩])
 (.cond (.t 56)
 (.seq (.reg [⟨some 2, .mov (.k (.i .i32 0)), none⟩, ⟨some 3, .mov (.k (.i .i64 0)), none⟩])
 .ret)
 .skip))
 (.seq (.reg [⟨some 57, .mov (.t 5), none⟩, ⟨some 58, .mov (.t 4), none⟩, ⟨some 59, .bin .add (.t 58) (.k (.i .i64 1)), none⟩, ⟨some 2, .mov (.t 57), none⟩, ⟨some 3, .mov (.t 59), none⟩])
 .ret)))))))
/-- tidemark/lang.hex -/
def af136 : AFunc := { n := 60, depth := 6, kl := [], res := [.tmp 2, .tmp 3], body := B136 }

def B137 : AC := (.seq (.reg [⟨some 4, .lalloc [(.i .i64 0), (.s []), (.s []), (.sl [] 0 .nil)] [4], none⟩, ⟨some 5, .mov (.k (.i .i64 0)), none⟩])
 (.seq (.reg [⟨some 6, .lalloc [(.i .i64 0), (.s []), (.s []), (.sl [] 0 .nil)] [6, 31], none⟩])
 (.seq (.reg [⟨some 7, .mov (.k (.i .i64 0)), none⟩])
 (.seq (.seq (.reg [⟨some 9, .mov (.t 0), none⟩, ⟨some 10, .call false 76 [(.t 9)], none⟩, ⟨some 8, .lalloc [(.i .i64 0), (.s []), (.i .i64 0)] [8, 50], none⟩, ⟨none, .store 3 (.t 8) (.t 10), none⟩])
 (.blk 0 (.seq (.reg [⟨some 18, .mov (.t 0), none⟩, ⟨some 19, .call false 162 [(.t 18)], none⟩, ⟨some 17, .mov (.t 19), none⟩])
 (.cond (.t 17)
 (.seq (.reg [⟨some 20, .mov (.t 0), none⟩, ⟨some 21, .call false 78 [(.t 20)], none⟩, ⟨some 22, .fld false 1 1 (.t 21), none⟩, ⟨some 23, .build [(.i .i64 0), (.s []), (.s []), (.sl [] 0 .nil)] [(0, 1, (.k (.i .i64 2))), (1, 1, (.t 22))], none⟩, ⟨none, .store 4 (.t 6) (.t 23), none⟩])
 (.seq (.reg [⟨some 24, .mov (.t 0), none⟩, ⟨some 25, .call false 78 [(.t 24)], none⟩])
 (.reg [⟨some 27, .mov (.t 0), none⟩, ⟨some 28, .call false 163 [(.t 27)], none⟩, ⟨some 26, .mov (.t 28), none⟩, ⟨some 29, .ext (.t 26) 0, none⟩, ⟨some 30, .ext (.t 26) 1, none⟩, ⟨some 31, .faddr 2 (.t 6), none⟩, ⟨none, .store 1 (.t 31) (.t 29), none⟩, ⟨some 7, .mov (.t 30), none⟩])))
 (.seq (.reg [⟨some 33, .mov (.t 0), none⟩, ⟨some 34, .call false 80 [(.t 33), (.k (.i .i64 4)), (.k (.s [40]))], none⟩, ⟨some 32, .mov (.t 34), none⟩])
 (.cond (.t 32)
 (.seq (.reg [⟨some 36, .mov (.t 0), none⟩, ⟨some 37, .mov (.t 1), none⟩, ⟨some 38, .bin .add (.t 37) (.k (.i .i64 1)), none⟩, ⟨some 39, .call false 109 [(.t 36), (.k (.i .i64 1)), (.t 38)], none⟩, ⟨some 35, .mov (.t 39), none⟩, ⟨some 40, .ext (.t 35) 0, none⟩, ⟨some 41, .ext (.t 35) 1, none⟩, ⟨none, .store 4 (.t 6) (.t 40), none⟩, ⟨some 7, .mov (.t 41), none⟩])
 (.seq (.reg [⟨some 42, .mov (.t 7), none⟩, ⟨some 43, .bin .eql (.t 42) (.k (.i .i64 0)), none⟩, ⟨some 44, .mov (.t 43), none⟩, ⟨some 45, .mov (.t 0), some (44, true)⟩,
 ⟨some 46, .call false 80 [(.t 45), (.k (.i .i64 4)), (.k (.s [41]))], some (44, true)⟩,
 ⟨some 47, .un .not (.t 46), some (44, true)⟩,
 ⟨some 48, .pick (.t 44) (.t 47) (.k (.b false)), none⟩])
 (.cond (.t 48)
 (.reg [⟨some 7, .mov (.k (.i .i64 192)), none⟩])
 .skip)))
 (.seq (.reg [⟨some 50, .faddr 0 (.t 8), none⟩, ⟨some 51, .load false 1 (.t 50), none⟩, ⟨some 52, .bin .neq (.t 51) (.k (.i .i64 1)), none⟩, ⟨some 49, .mov (.t 52), none⟩])
 (.cond (.t 49)
 (.reg [⟨some 7, .mov (.k (.i .i64 192)), none⟩])
 (.reg [⟨some 12, .mov (.t 0), none⟩, ⟨some 13, .mov (.t 1), none⟩, ⟨some 14, .call false 164 [(.t 12), (.t 13)], none⟩, ⟨some 11, .mov (.t 14), none⟩, ⟨some 15, .ext (.t 11) 0, none⟩, ⟨some 16, .ext (.t 11) 1, none⟩, ⟨none, .store 4 (.t 6) (.t 15), none⟩, ⟨some 7, .mov (.t 16), none⟩])))))))))
 (.seq (.seq (.reg [⟨some 53, .mov (.t 7), none⟩, ⟨some 54, .bin .neq (.t 53) (.k (.i .i64 0)), none⟩])
 (.cond (.t 54)
 (.seq (.reg [⟨some 55, .build [(.i .i64 0), (.s []), (.s []), (.sl [] 0 .nil)] [], none⟩, ⟨some 56, .mov (.t 7), none⟩, ⟨none, .store 4 (.t 4) (.t 55), none⟩, ⟨some 5, .mov (.t 56), none⟩])
 .ret)
 .skip))
 (.seq (.reg [⟨some 57, .load true 4 (.t 6), none⟩, ⟨none, .store 4 (.t 4) (.t 57), none⟩, ⟨some 5, .mov (.k (.i .i64 0)), none⟩])
 .ret))))))
/-- (*tidemark/lang.Source).unary -/
def af137 : AFunc := { n := 58, depth := 6, kl := [(4, [4]), (6, [6, 31]), (8, [8, 50])], res := [.cell 4 true 4, .tmp 5], body := B137 }

def B138 : AC := (.seq (.reg [⟨some 4, .mov (.k (.b false)), none⟩])
 (.seq (.reg [⟨some 6, .mov (.t 0), none⟩, ⟨some 7, .call false 76 [(.t 6)], none⟩, ⟨some 5, .lalloc [(.i .i64 0), (.s []), (.i .i64 0)] [5, 8, 12], none⟩, ⟨none, .store 3 (.t 5) (.t 7), none⟩])
 (.seq (.reg [⟨some 8, .faddr 0 (.t 5), none⟩, ⟨some 9, .load false 1 (.t 8), none⟩, ⟨some 10, .bin .eql (.t 9) (.k (.i .i64 1)), none⟩, ⟨some 11, .mov (.t 10), none⟩, ⟨some 12, .faddr 1 (.t 5), some (11, true)⟩,
 ⟨some 13, .load false 1 (.t 12), some (11, true)⟩,
 ⟨some 14, .mov (.t 1), some (11, true)⟩,
 ⟨some 15, .bin .eql (.t 13) (.t 14), some (11, true)⟩,
 ⟨some 16, .pick (.t 11) (.t 15) (.k (.b false)), none⟩, ⟨some 4, .mov (.t 16), none⟩])
 .ret)))
/-- (*tidemark/lang.Source).joins -/
def af138 : AFunc := { n := 17, depth := 5, kl := [(5, [5, 8, 12])], res := [.tmp 4], body := B138 }

def B139 : AC := (.seq (.reg [⟨some 2, .mov (.k (.b false)), none⟩])
 (.seq (.reg [⟨some 3, .mov (.t 0), none⟩, ⟨some 4, .bin .geq (.t 3) (.k (.i .i32 32)), none⟩, ⟨some 5, .mov (.t 4), none⟩, ⟨some 6, .mov (.t 0), some (5, true)⟩,
 ⟨some 7, .bin .neq (.t 6) (.k (.i .i32 127)), some (5, true)⟩,
 ⟨some 8, .pick (.t 5) (.t 7) (.k (.b false)), none⟩, ⟨some 9, .mov (.t 8), none⟩, ⟨some 10, .mov (.t 0), some (9, true)⟩,
 ⟨some 11, .bin .neq (.t 10) (.k (.i .i32 65533)), some (9, true)⟩,
 ⟨some 12, .pick (.t 9) (.t 11) (.k (.b false)), none⟩, ⟨some 2, .mov (.t 12), none⟩])
 .ret))
/-- tidemark/text.plain -/
def af139 : AFunc := { n := 13, depth := 4, kl := [], res := [.tmp 2], body := B139 }

def L140_1 : AC := (.seq (.reg [⟨some 26, .bin .lss (.t 25) (.t 24), none⟩])
 (.seq (.cond (.t 26)
 .skip
 (.exit 0))
 (.seq (.blk 1 (.seq (.reg [⟨some 27, .iaddr (.slice 1) (.t 23) (.t 25), none⟩, ⟨some 28, .load false 1 (.t 27), none⟩, ⟨some 10, .mov (.t 28), none⟩])
 (.reg [⟨some 29, .mov (.t 8), none⟩, ⟨some 30, .mov (.t 29), none⟩, ⟨some 31, .mov (.t 10), some (30, true)⟩,
 ⟨some 32, .call true 166 [(.t 31)], some (30, true)⟩,
 ⟨some 33, .pick (.t 30) (.t 32) (.k (.b false)), none⟩, ⟨some 8, .mov (.t 33), none⟩])))
 (.reg [⟨some 34, .bin .add (.t 25) (.k (.i .i64 1)), none⟩, ⟨some 25, .mov (.t 34), none⟩]))))
def B140 : AC := (.seq (.reg [⟨some 6, .mov (.k (.b false)), none⟩])
 (.seq (.reg [⟨some 11, .mov (.t 0), none⟩, ⟨some 12, .call true 165 [(.t 11)], none⟩, ⟨some 7, .mov (.t 12), none⟩])
 (.seq (.reg [⟨some 13, .mov (.t 7), none⟩, ⟨some 14, .len .slice (.t 13), none⟩, ⟨some 15, .mov (.t 1), none⟩, ⟨some 16, .bin .geq (.t 14) (.t 15), none⟩, ⟨some 17, .mov (.t 16), none⟩, ⟨some 18, .mov (.t 7), some (17, true)⟩,
 ⟨some 19, .len .slice (.t 18), some (17, true)⟩,
 ⟨some 20, .mov (.t 2), some (17, true)⟩,
 ⟨some 21, .bin .leq (.t 19) (.t 20), some (17, true)⟩,
 ⟨some 22, .pick (.t 17) (.t 21) (.k (.b false)), none⟩, ⟨some 8, .mov (.t 22), none⟩])
 (.seq (.seq (.reg [⟨some 23, .mov (.t 7), none⟩, ⟨some 24, .len .slice (.t 23), none⟩, ⟨some 25, .mov (.k (.i .i64 0)), none⟩])
 (.blk 0 (.loop L140_1)))
 (.seq (.reg [⟨some 35, .mov (.t 8), none⟩, ⟨some 6, .mov (.t 35), none⟩])
 .ret)))))
/-- tidemark/tidemarkref02.many -/
def af140 : AFunc := { n := 36, depth := 6, kl := [], res := [.tmp 6], body := B140 }

def L141_1 : AC := (.seq (.reg [⟨some 12, .next 11, none⟩, ⟨some 13, .ext (.t 12) 0, none⟩])
 (.seq (.cond (.t 13)
 .skip
 (.exit 0))
 (.blk 1 (.seq (.reg [⟨some 14, .ext (.t 12) 1, none⟩, ⟨some 15, .ext (.t 12) 2, none⟩, ⟨some 8, .mov (.t 14), none⟩, ⟨some 9, .mov (.t 15), none⟩])
 (.seq (.seq (.reg [⟨some 16, .mov (.t 7), none⟩])
 (.cond (.t 16)
 (.reg [⟨some 17, .mov (.t 8), none⟩, ⟨some 6, .mov (.t 17), none⟩, ⟨some 7, .mov (.k (.b false)), none⟩])
 .skip))
 (.seq (.reg [⟨some 18, .mov (.t 9), none⟩, ⟨some 19, .mov (.t 1), none⟩, ⟨some 20, .bin .eql (.t 18) (.t 19), none⟩])
 (.cond (.t 20)
 (.seq (.reg [⟨some 21, .mov (.t 5), none⟩, ⟨some 22, .mov (.t 0), none⟩, ⟨some 23, .mov (.t 6), none⟩, ⟨some 24, .mov (.t 8), none⟩, ⟨some 25, .slc .str (.t 22) (some (.t 23)) (some (.t 24)) none, none⟩, ⟨some 26, .bslice false 9 1 1 [(.s [])] [(0, (.t 25))], none⟩, ⟨some 27, .app 9 1 (.t 21) (.t 26), none⟩, ⟨some 5, .mov (.t 27), none⟩])
 (.reg [⟨some 7, .mov (.k (.b true)), none⟩]))
 .skip)))))))
def B141 : AC := (.seq (.reg [⟨some 4, .movnil 9, none⟩])
 (.seq (.reg [⟨some 5, .movnil 9, none⟩])
 (.seq (.reg [⟨some 6, .mov (.k (.i .i64 0)), none⟩, ⟨some 7, .mov (.k (.b false)), none⟩])
 (.seq (.seq (.reg [⟨some 10, .mov (.t 0), none⟩, ⟨some 11, .range (.t 10), none⟩])
 (.blk 0 (.loop L141_1)))
 (.seq (.seq (.reg [⟨some 28, .mov (.t 7), none⟩])
 (.cond (.t 28)
 (.reg [⟨some 29, .mov (.t 0), none⟩, ⟨some 30, .len .str (.t 29), none⟩, ⟨some 6, .mov (.t 30), none⟩])
 .skip))
 (.seq (.reg [⟨some 31, .mov (.t 5), none⟩, ⟨some 32, .mov (.t 0), none⟩, ⟨some 33, .mov (.t 6), none⟩, ⟨some 34, .slc .str (.t 32) (some (.t 33)) none none, none⟩, ⟨some 35, .bslice false 9 1 1 [(.s [])] [(0, (.t 34))], none⟩, ⟨some 36, .app 9 1 (.t 31) (.t 35), none⟩, ⟨some 4, .mov (.t 36), none⟩])
 .ret))))))
/-- tidemark/text.Parts -/
def af141 : AFunc := { n := 37, depth := 6, kl := [], res := [.tmp 4], body := B141 }

def L142_2 : AC := (.seq (.seq (.reg [⟨some 16, .mov (.t 7), none⟩, ⟨some 17, .mov (.t 1), none⟩, ⟨some 18, .bin .gtr (.t 16) (.t 17), none⟩, ⟨some 19, .mov (.t 18), none⟩, ⟨some 20, .mov (.t 0), some (19, true)⟩,
 ⟨some 21, .mov (.t 7), some (19, true)⟩,
 ⟨some 22, .iaddr (.slice 1) (.t 20) (.t 21), some (19, true)⟩,
 ⟨some 23, .load false 1 (.t 22), some (19, true)⟩,
 ⟨some 24, .mov (.t 0), some (19, true)⟩,
 ⟨some 25, .mov (.t 7), some (19, true)⟩,
 ⟨some 26, .bin .sub (.t 25) (.k (.i .i64 1)), some (19, true)⟩,
 ⟨some 27, .iaddr (.slice 1) (.t 24) (.t 26), some (19, true)⟩,
 ⟨some 28, .load false 1 (.t 27), some (19, true)⟩,
 ⟨some 29, .call true 148 [(.t 23), (.t 28)], some (19, true)⟩,
 ⟨some 30, .pick (.t 19) (.t 29) (.k (.b false)), none⟩])
 (.cond (.t 30)
 .skip
 (.exit 2)))
 (.seq (.blk 3 (.reg [⟨some 33, .mov (.t 0), none⟩, ⟨some 34, .mov (.t 7), none⟩, ⟨some 35, .mov (.t 0), none⟩, ⟨some 36, .mov (.t 7), none⟩, ⟨some 37, .bin .sub (.t 36) (.k (.i .i64 1)), none⟩, ⟨some 38, .mov (.t 0), none⟩, ⟨some 39, .mov (.t 7), none⟩, ⟨some 40, .bin .sub (.t 39) (.k (.i .i64 1)), none⟩, ⟨some 41, .iaddr (.slice 1) (.t 38) (.t 40), none⟩, ⟨some 42, .load false 1 (.t 41), none⟩, ⟨some 43, .mov (.t 0), none⟩, ⟨some 44, .mov (.t 7), none⟩, ⟨some 45, .iaddr (.slice 1) (.t 43) (.t 44), none⟩, ⟨some 46, .load false 1 (.t 45), none⟩, ⟨some 47, .iaddr (.slice 1) (.t 33) (.t 34), none⟩, ⟨none, .store 1 (.t 47) (.t 42), none⟩, ⟨some 48, .iaddr (.slice 1) (.t 35) (.t 37), none⟩, ⟨none, .store 1 (.t 48) (.t 46), none⟩]))
 (.reg [⟨some 31, .mov (.t 7), none⟩, ⟨some 32, .bin .sub (.t 31) (.k (.i .i64 1)), none⟩, ⟨some 7, .mov (.t 32), none⟩])))
def L142_1 : AC := (.seq (.seq (.reg [⟨some 10, .mov (.t 6), none⟩, ⟨some 11, .mov (.t 2), none⟩, ⟨some 12, .bin .lss (.t 10) (.t 11), none⟩])
 (.cond (.t 12)
 .skip
 (.exit 0)))
 (.seq (.blk 1 (.seq (.reg [⟨some 15, .mov (.t 6), none⟩, ⟨some 7, .mov (.t 15), none⟩])
 (.blk 2 (.loop L142_2))))
 (.reg [⟨some 13, .mov (.t 6), none⟩, ⟨some 14, .bin .add (.t 13) (.k (.i .i64 1)), none⟩, ⟨some 6, .mov (.t 14), none⟩])))
def B142 : AC := (.seq (.reg [⟨some 8, .mov (.t 1), none⟩, ⟨some 9, .bin .add (.t 8) (.k (.i .i64 1)), none⟩, ⟨some 6, .mov (.t 9), none⟩])
 (.blk 0 (.loop L142_1)))
/-- slices.insertionSortOrdered[string] -/
def af142 : AFunc := { n := 49, depth := 6, kl := [], res := [], body := B142 }


end Go.Proofs.YtpcjhfchpelonaaGreatDoor
