/- The abstract interpreter's code of the functions that the laws of this seat reach, and that it is the program's: each by the kernel. Printed by a program. -/
import Derived.Test.YtpcjhfchpelonaaGreatDoorTab1
import Derived.Test.YtpcjhfchpelonaaGreatDoorProg
import Derived.KernelRfl
namespace Go.Proofs.YtpcjhfchpelonaaGreatDoor
open Go Ai

def L143_2 : AC := (.seq (.seq (.reg [⟨some 29, .mov (.t 10), none⟩, ⟨some 30, .bin .geq (.t 29) (.k (.i .i64 0)), none⟩])
 (.cond (.t 30)
 .skip
 (.exit 2)))
 (.seq (.blk 3 (.seq (.reg [⟨some 33, .mov (.t 0), none⟩, ⟨some 34, .mov (.t 6), none⟩, ⟨some 35, .mov (.t 0), none⟩, ⟨some 36, .mov (.t 6), none⟩, ⟨some 37, .mov (.t 10), none⟩, ⟨some 38, .bin .add (.t 36) (.t 37), none⟩, ⟨some 39, .mov (.t 0), none⟩, ⟨some 40, .mov (.t 6), none⟩, ⟨some 41, .mov (.t 10), none⟩, ⟨some 42, .bin .add (.t 40) (.t 41), none⟩, ⟨some 43, .iaddr (.slice 1) (.t 39) (.t 42), none⟩, ⟨some 44, .load false 1 (.t 43), none⟩, ⟨some 45, .mov (.t 0), none⟩, ⟨some 46, .mov (.t 6), none⟩, ⟨some 47, .iaddr (.slice 1) (.t 45) (.t 46), none⟩, ⟨some 48, .load false 1 (.t 47), none⟩, ⟨some 49, .iaddr (.slice 1) (.t 33) (.t 34), none⟩, ⟨none, .store 1 (.t 49) (.t 44), none⟩, ⟨some 50, .iaddr (.slice 1) (.t 35) (.t 38), none⟩, ⟨none, .store 1 (.t 50) (.t 48), none⟩])
 (.reg [⟨some 51, .mov (.t 0), none⟩, ⟨some 52, .mov (.t 7), none⟩, ⟨some 53, .mov (.t 10), none⟩, ⟨some 54, .mov (.t 6), none⟩, ⟨some 55, .call false 167 [(.t 51), (.t 52), (.t 53), (.t 54)], none⟩])))
 (.reg [⟨some 31, .mov (.t 10), none⟩, ⟨some 32, .bin .sub (.t 31) (.k (.i .i64 1)), none⟩, ⟨some 10, .mov (.t 32), none⟩])))
def L143_1 : AC := (.seq (.seq (.reg [⟨some 18, .mov (.t 9), none⟩, ⟨some 19, .bin .geq (.t 18) (.k (.i .i64 0)), none⟩])
 (.cond (.t 19)
 .skip
 (.exit 0)))
 (.seq (.blk 1 (.reg [⟨some 22, .mov (.t 0), none⟩, ⟨some 23, .mov (.t 9), none⟩, ⟨some 24, .mov (.t 8), none⟩, ⟨some 25, .mov (.t 6), none⟩, ⟨some 26, .call false 167 [(.t 22), (.t 23), (.t 24), (.t 25)], none⟩]))
 (.reg [⟨some 20, .mov (.t 9), none⟩, ⟨some 21, .bin .sub (.t 20) (.k (.i .i64 1)), none⟩, ⟨some 9, .mov (.t 21), none⟩])))
def B143 : AC := (.seq (.reg [⟨some 11, .mov (.t 1), none⟩, ⟨some 6, .mov (.t 11), none⟩])
 (.seq (.reg [⟨some 7, .mov (.k (.i .i64 0)), none⟩])
 (.seq (.reg [⟨some 12, .mov (.t 2), none⟩, ⟨some 13, .mov (.t 1), none⟩, ⟨some 14, .bin .sub (.t 12) (.t 13), none⟩, ⟨some 8, .mov (.t 14), none⟩])
 (.seq (.seq (.reg [⟨some 15, .mov (.t 8), none⟩, ⟨some 16, .bin .sub (.t 15) (.k (.i .i64 1)), none⟩, ⟨some 17, .bin .quo (.t 16) (.k (.i .i64 2)), none⟩, ⟨some 9, .mov (.t 17), none⟩])
 (.blk 0 (.loop L143_1)))
 (.seq (.reg [⟨some 27, .mov (.t 8), none⟩, ⟨some 28, .bin .sub (.t 27) (.k (.i .i64 1)), none⟩, ⟨some 10, .mov (.t 28), none⟩])
 (.blk 2 (.loop L143_2)))))))
/-- slices.heapSortOrdered[string] -/
def af143 : AFunc := { n := 56, depth := 6, kl := [], res := [], body := B143 }

def L144_1 : AC := (.seq (.seq (.reg [⟨some 26, .mov (.t 9), none⟩, ⟨some 27, .mov (.t 1), none⟩, ⟨some 28, .mov (.t 6), none⟩, ⟨some 29, .bin .quo (.t 28) (.k (.i .i64 4)), none⟩, ⟨some 30, .bin .mul (.t 29) (.k (.i .i64 2)), none⟩, ⟨some 31, .bin .add (.t 27) (.t 30), none⟩, ⟨some 32, .bin .add (.t 31) (.k (.i .i64 1)), none⟩, ⟨some 33, .bin .leq (.t 26) (.t 32), none⟩])
 (.cond (.t 33)
 .skip
 (.exit 0)))
 (.seq (.blk 1 (.seq (.reg [⟨some 36, .call false 169 [(.t 7)], none⟩, ⟨some 37, .mov (.t 8), none⟩, ⟨some 38, .bin .sub (.t 37) (.k (.i .u64 1)), none⟩, ⟨some 39, .bin .and (.t 36) (.t 38), none⟩, ⟨some 40, .conv (.int .i64) (.t 39), none⟩, ⟨some 10, .mov (.t 40), none⟩])
 (.seq (.seq (.reg [⟨some 41, .mov (.t 10), none⟩, ⟨some 42, .mov (.t 6), none⟩, ⟨some 43, .bin .geq (.t 41) (.t 42), none⟩])
 (.cond (.t 43)
 (.reg [⟨some 44, .mov (.t 10), none⟩, ⟨some 45, .mov (.t 6), none⟩, ⟨some 46, .bin .sub (.t 44) (.t 45), none⟩, ⟨some 10, .mov (.t 46), none⟩])
 .skip))
 (.reg [⟨some 47, .mov (.t 0), none⟩, ⟨some 48, .mov (.t 9), none⟩, ⟨some 49, .mov (.t 0), none⟩, ⟨some 50, .mov (.t 1), none⟩, ⟨some 51, .mov (.t 10), none⟩, ⟨some 52, .bin .add (.t 50) (.t 51), none⟩, ⟨some 53, .mov (.t 0), none⟩, ⟨some 54, .mov (.t 1), none⟩, ⟨some 55, .mov (.t 10), none⟩, ⟨some 56, .bin .add (.t 54) (.t 55), none⟩, ⟨some 57, .iaddr (.slice 1) (.t 53) (.t 56), none⟩, ⟨some 58, .load false 1 (.t 57), none⟩, ⟨some 59, .mov (.t 0), none⟩, ⟨some 60, .mov (.t 9), none⟩, ⟨some 61, .iaddr (.slice 1) (.t 59) (.t 60), none⟩, ⟨some 62, .load false 1 (.t 61), none⟩, ⟨some 63, .iaddr (.slice 1) (.t 47) (.t 48), none⟩, ⟨none, .store 1 (.t 63) (.t 58), none⟩, ⟨some 64, .iaddr (.slice 1) (.t 49) (.t 52), none⟩, ⟨none, .store 1 (.t 64) (.t 62), none⟩]))))
 (.reg [⟨some 34, .mov (.t 9), none⟩, ⟨some 35, .bin .add (.t 34) (.k (.i .i64 1)), none⟩, ⟨some 9, .mov (.t 35), none⟩])))
def B144 : AC := (.seq (.reg [⟨some 11, .mov (.t 2), none⟩, ⟨some 12, .mov (.t 1), none⟩, ⟨some 13, .bin .sub (.t 11) (.t 12), none⟩, ⟨some 6, .mov (.t 13), none⟩])
 (.seq (.reg [⟨some 14, .mov (.t 6), none⟩, ⟨some 15, .bin .geq (.t 14) (.k (.i .i64 8)), none⟩])
 (.cond (.t 15)
 (.seq (.reg [⟨some 16, .mov (.t 6), none⟩, ⟨some 17, .conv (.int .u64) (.t 16), none⟩, ⟨some 7, .alloc 242 [(.i .u64 0)], none⟩, ⟨none, .store 1 (.t 7) (.t 17), none⟩])
 (.seq (.reg [⟨some 18, .mov (.t 6), none⟩, ⟨some 19, .call true 168 [(.t 18)], none⟩, ⟨some 8, .mov (.t 19), none⟩])
 (.seq (.reg [⟨some 20, .mov (.t 1), none⟩, ⟨some 21, .mov (.t 6), none⟩, ⟨some 22, .bin .quo (.t 21) (.k (.i .i64 4)), none⟩, ⟨some 23, .bin .mul (.t 22) (.k (.i .i64 2)), none⟩, ⟨some 24, .bin .add (.t 20) (.t 23), none⟩, ⟨some 25, .bin .sub (.t 24) (.k (.i .i64 1)), none⟩, ⟨some 9, .mov (.t 25), none⟩])
 (.blk 0 (.loop L144_1)))))
 .skip)))
/-- slices.breakPatternsOrdered[string] -/
def af144 : AFunc := { n := 65, depth := 7, kl := [], res := [], body := B144 }

def B145 : AC := (.seq (.reg [⟨some 6, .mov (.k (.i .i64 0)), none⟩, ⟨some 7, .mov (.k (.i .i64 0)), none⟩])
 (.seq (.reg [⟨some 13, .mov (.t 2), none⟩, ⟨some 14, .mov (.t 1), none⟩, ⟨some 15, .bin .sub (.t 13) (.t 14), none⟩, ⟨some 8, .mov (.t 15), none⟩])
 (.seq (.reg [⟨some 9, .alloc 3 [(.i .i64 0)], none⟩])
 (.seq (.reg [⟨some 16, .mov (.t 1), none⟩, ⟨some 17, .mov (.t 8), none⟩, ⟨some 18, .bin .quo (.t 17) (.k (.i .i64 4)), none⟩, ⟨some 19, .bin .mul (.t 18) (.k (.i .i64 1)), none⟩, ⟨some 20, .bin .add (.t 16) (.t 19), none⟩, ⟨some 10, .mov (.t 20), none⟩])
 (.seq (.reg [⟨some 21, .mov (.t 1), none⟩, ⟨some 22, .mov (.t 8), none⟩, ⟨some 23, .bin .quo (.t 22) (.k (.i .i64 4)), none⟩, ⟨some 24, .bin .mul (.t 23) (.k (.i .i64 2)), none⟩, ⟨some 25, .bin .add (.t 21) (.t 24), none⟩, ⟨some 11, .mov (.t 25), none⟩])
 (.seq (.reg [⟨some 26, .mov (.t 1), none⟩, ⟨some 27, .mov (.t 8), none⟩, ⟨some 28, .bin .quo (.t 27) (.k (.i .i64 4)), none⟩, ⟨some 29, .bin .mul (.t 28) (.k (.i .i64 3)), none⟩, ⟨some 30, .bin .add (.t 26) (.t 29), none⟩, ⟨some 12, .mov (.t 30), none⟩])
 (.seq (.seq (.reg [⟨some 31, .mov (.t 8), none⟩, ⟨some 32, .bin .geq (.t 31) (.k (.i .i64 8)), none⟩])
 (.cond (.t 32)
 (.seq (.seq (.reg [⟨some 33, .mov (.t 8), none⟩, ⟨some 34, .bin .geq (.t 33) (.k (.i .i64 50)), none⟩])
 (.cond (.t 34)
 (.seq (.reg [⟨some 35, .mov (.t 0), none⟩, ⟨some 36, .mov (.t 10), none⟩, ⟨some 37, .call false 170 [(.t 35), (.t 36), (.t 9)], none⟩, ⟨some 10, .mov (.t 37), none⟩])
 (.seq (.reg [⟨some 38, .mov (.t 0), none⟩, ⟨some 39, .mov (.t 11), none⟩, ⟨some 40, .call false 170 [(.t 38), (.t 39), (.t 9)], none⟩, ⟨some 11, .mov (.t 40), none⟩])
 (.reg [⟨some 41, .mov (.t 0), none⟩, ⟨some 42, .mov (.t 12), none⟩, ⟨some 43, .call false 170 [(.t 41), (.t 42), (.t 9)], none⟩, ⟨some 12, .mov (.t 43), none⟩])))
 .skip))
 (.reg [⟨some 44, .mov (.t 0), none⟩, ⟨some 45, .mov (.t 10), none⟩, ⟨some 46, .mov (.t 11), none⟩, ⟨some 47, .mov (.t 12), none⟩, ⟨some 48, .call false 171 [(.t 44), (.t 45), (.t 46), (.t 47), (.t 9)], none⟩, ⟨some 11, .mov (.t 48), none⟩]))
 .skip))
 (.seq (.reg [⟨some 49, .load false 1 (.t 9), none⟩])
 (.blk 0 (.seq (.reg [⟨some 52, .bin .eql (.t 49) (.k (.i .i64 0)), none⟩, ⟨some 51, .mov (.t 52), none⟩])
 (.cond (.t 51)
 (.seq (.reg [⟨some 53, .mov (.t 11), none⟩, ⟨some 6, .mov (.t 53), none⟩, ⟨some 7, .mov (.k (.i .i64 1)), none⟩])
 .ret)
 (.seq (.reg [⟨some 55, .bin .eql (.t 49) (.k (.i .i64 12)), none⟩, ⟨some 54, .mov (.t 55), none⟩])
 (.cond (.t 54)
 (.seq (.reg [⟨some 56, .mov (.t 11), none⟩, ⟨some 6, .mov (.t 56), none⟩, ⟨some 7, .mov (.k (.i .i64 2)), none⟩])
 .ret)
 (.seq (.reg [⟨some 50, .mov (.t 11), none⟩, ⟨some 6, .mov (.t 50), none⟩, ⟨some 7, .mov (.k (.i .i64 0)), none⟩])
 .ret))))))))))))))
/-- slices.choosePivotOrdered[string] -/
def af145 : AFunc := { n := 57, depth := 6, kl := [], res := [.tmp 6, .tmp 7], body := B145 }

def L146_1 : AC := (.seq (.seq (.reg [⟨some 11, .mov (.t 6), none⟩, ⟨some 12, .mov (.t 7), none⟩, ⟨some 13, .bin .lss (.t 11) (.t 12), none⟩])
 (.cond (.t 13)
 .skip
 (.exit 0)))
 (.blk 1 (.seq (.reg [⟨some 14, .mov (.t 0), none⟩, ⟨some 15, .mov (.t 6), none⟩, ⟨some 16, .mov (.t 0), none⟩, ⟨some 17, .mov (.t 7), none⟩, ⟨some 18, .mov (.t 0), none⟩, ⟨some 19, .mov (.t 7), none⟩, ⟨some 20, .iaddr (.slice 1) (.t 18) (.t 19), none⟩, ⟨some 21, .load false 1 (.t 20), none⟩, ⟨some 22, .mov (.t 0), none⟩, ⟨some 23, .mov (.t 6), none⟩, ⟨some 24, .iaddr (.slice 1) (.t 22) (.t 23), none⟩, ⟨some 25, .load false 1 (.t 24), none⟩, ⟨some 26, .iaddr (.slice 1) (.t 14) (.t 15), none⟩, ⟨none, .store 1 (.t 26) (.t 21), none⟩, ⟨some 27, .iaddr (.slice 1) (.t 16) (.t 17), none⟩, ⟨none, .store 1 (.t 27) (.t 25), none⟩])
 (.seq (.reg [⟨some 28, .mov (.t 6), none⟩, ⟨some 29, .bin .add (.t 28) (.k (.i .i64 1)), none⟩, ⟨some 6, .mov (.t 29), none⟩])
 (.reg [⟨some 30, .mov (.t 7), none⟩, ⟨some 31, .bin .sub (.t 30) (.k (.i .i64 1)), none⟩, ⟨some 7, .mov (.t 31), none⟩])))))
def B146 : AC := (.seq (.reg [⟨some 8, .mov (.t 1), none⟩, ⟨some 6, .mov (.t 8), none⟩])
 (.seq (.reg [⟨some 9, .mov (.t 2), none⟩, ⟨some 10, .bin .sub (.t 9) (.k (.i .i64 1)), none⟩, ⟨some 7, .mov (.t 10), none⟩])
 (.blk 0 (.loop L146_1))))
/-- slices.reverseRangeOrdered[string] -/
def af146 : AFunc := { n := 32, depth := 6, kl := [], res := [], body := B146 }

def L147_4 : AC := (.seq (.seq (.reg [⟨some 101, .mov (.t 10), none⟩, ⟨some 102, .mov (.t 2), none⟩, ⟨some 103, .bin .lss (.t 101) (.t 102), none⟩])
 (.cond (.t 103)
 .skip
 (.exit 6)))
 (.seq (.blk 7 (.seq (.seq (.reg [⟨some 106, .mov (.t 0), none⟩, ⟨some 107, .mov (.t 10), none⟩, ⟨some 108, .iaddr (.slice 1) (.t 106) (.t 107), none⟩, ⟨some 109, .load false 1 (.t 108), none⟩, ⟨some 110, .mov (.t 0), none⟩, ⟨some 111, .mov (.t 10), none⟩, ⟨some 112, .bin .sub (.t 111) (.k (.i .i64 1)), none⟩, ⟨some 113, .iaddr (.slice 1) (.t 110) (.t 112), none⟩, ⟨some 114, .load false 1 (.t 113), none⟩, ⟨some 115, .call true 148 [(.t 109), (.t 114)], none⟩, ⟨some 116, .un .not (.t 115), none⟩])
 (.cond (.t 116)
 (.exit 6)
 .skip))
 (.reg [⟨some 117, .mov (.t 0), none⟩, ⟨some 118, .mov (.t 10), none⟩, ⟨some 119, .mov (.t 0), none⟩, ⟨some 120, .mov (.t 10), none⟩, ⟨some 121, .bin .sub (.t 120) (.k (.i .i64 1)), none⟩, ⟨some 122, .mov (.t 0), none⟩, ⟨some 123, .mov (.t 10), none⟩, ⟨some 124, .bin .sub (.t 123) (.k (.i .i64 1)), none⟩, ⟨some 125, .iaddr (.slice 1) (.t 122) (.t 124), none⟩, ⟨some 126, .load false 1 (.t 125), none⟩, ⟨some 127, .mov (.t 0), none⟩, ⟨some 128, .mov (.t 10), none⟩, ⟨some 129, .iaddr (.slice 1) (.t 127) (.t 128), none⟩, ⟨some 130, .load false 1 (.t 129), none⟩, ⟨some 131, .iaddr (.slice 1) (.t 117) (.t 118), none⟩, ⟨none, .store 1 (.t 131) (.t 126), none⟩, ⟨some 132, .iaddr (.slice 1) (.t 119) (.t 121), none⟩, ⟨none, .store 1 (.t 132) (.t 130), none⟩])))
 (.reg [⟨some 104, .mov (.t 10), none⟩, ⟨some 105, .bin .add (.t 104) (.k (.i .i64 1)), none⟩, ⟨some 10, .mov (.t 105), none⟩])))
def L147_3 : AC := (.seq (.seq (.reg [⟨some 64, .mov (.t 9), none⟩, ⟨some 65, .bin .geq (.t 64) (.k (.i .i64 1)), none⟩])
 (.cond (.t 65)
 .skip
 (.exit 4)))
 (.seq (.blk 5 (.seq (.seq (.reg [⟨some 68, .mov (.t 0), none⟩, ⟨some 69, .mov (.t 9), none⟩, ⟨some 70, .iaddr (.slice 1) (.t 68) (.t 69), none⟩, ⟨some 71, .load false 1 (.t 70), none⟩, ⟨some 72, .mov (.t 0), none⟩, ⟨some 73, .mov (.t 9), none⟩, ⟨some 74, .bin .sub (.t 73) (.k (.i .i64 1)), none⟩, ⟨some 75, .iaddr (.slice 1) (.t 72) (.t 74), none⟩, ⟨some 76, .load false 1 (.t 75), none⟩, ⟨some 77, .call true 148 [(.t 71), (.t 76)], none⟩, ⟨some 78, .un .not (.t 77), none⟩])
 (.cond (.t 78)
 (.exit 4)
 .skip))
 (.reg [⟨some 79, .mov (.t 0), none⟩, ⟨some 80, .mov (.t 9), none⟩, ⟨some 81, .mov (.t 0), none⟩, ⟨some 82, .mov (.t 9), none⟩, ⟨some 83, .bin .sub (.t 82) (.k (.i .i64 1)), none⟩, ⟨some 84, .mov (.t 0), none⟩, ⟨some 85, .mov (.t 9), none⟩, ⟨some 86, .bin .sub (.t 85) (.k (.i .i64 1)), none⟩, ⟨some 87, .iaddr (.slice 1) (.t 84) (.t 86), none⟩, ⟨some 88, .load false 1 (.t 87), none⟩, ⟨some 89, .mov (.t 0), none⟩, ⟨some 90, .mov (.t 9), none⟩, ⟨some 91, .iaddr (.slice 1) (.t 89) (.t 90), none⟩, ⟨some 92, .load false 1 (.t 91), none⟩, ⟨some 93, .iaddr (.slice 1) (.t 79) (.t 80), none⟩, ⟨none, .store 1 (.t 93) (.t 88), none⟩, ⟨some 94, .iaddr (.slice 1) (.t 81) (.t 83), none⟩, ⟨none, .store 1 (.t 94) (.t 92), none⟩])))
 (.reg [⟨some 66, .mov (.t 9), none⟩, ⟨some 67, .bin .sub (.t 66) (.k (.i .i64 1)), none⟩, ⟨some 9, .mov (.t 67), none⟩])))
def L147_2 : AC := (.seq (.seq (.reg [⟨some 17, .mov (.t 7), none⟩, ⟨some 18, .mov (.t 2), none⟩, ⟨some 19, .bin .lss (.t 17) (.t 18), none⟩, ⟨some 20, .mov (.t 19), none⟩, ⟨some 21, .mov (.t 0), some (20, true)⟩,
 ⟨some 22, .mov (.t 7), some (20, true)⟩,
 ⟨some 23, .iaddr (.slice 1) (.t 21) (.t 22), some (20, true)⟩,
 ⟨some 24, .load false 1 (.t 23), some (20, true)⟩,
 ⟨some 25, .mov (.t 0), some (20, true)⟩,
 ⟨some 26, .mov (.t 7), some (20, true)⟩,
 ⟨some 27, .bin .sub (.t 26) (.k (.i .i64 1)), some (20, true)⟩,
 ⟨some 28, .iaddr (.slice 1) (.t 25) (.t 27), some (20, true)⟩,
 ⟨some 29, .load false 1 (.t 28), some (20, true)⟩,
 ⟨some 30, .call true 148 [(.t 24), (.t 29)], some (20, true)⟩,
 ⟨some 31, .un .not (.t 30), some (20, true)⟩,
 ⟨some 32, .pick (.t 20) (.t 31) (.k (.b false)), none⟩])
 (.cond (.t 32)
 .skip
 (.exit 2)))
 (.blk 3 (.reg [⟨some 33, .mov (.t 7), none⟩, ⟨some 34, .bin .add (.t 33) (.k (.i .i64 1)), none⟩, ⟨some 7, .mov (.t 34), none⟩])))
def L147_1 : AC := (.seq (.seq (.reg [⟨some 13, .mov (.t 8), none⟩, ⟨some 14, .bin .lss (.t 13) (.k (.i .i64 5)), none⟩])
 (.cond (.t 14)
 .skip
 (.exit 0)))
 (.seq (.blk 1 (.seq (.blk 2 (.loop L147_2))
 (.seq (.seq (.reg [⟨some 35, .mov (.t 7), none⟩, ⟨some 36, .mov (.t 2), none⟩, ⟨some 37, .bin .eql (.t 35) (.t 36), none⟩])
 (.cond (.t 37)
 (.seq (.reg [⟨some 6, .mov (.k (.b true)), none⟩])
 .ret)
 .skip))
 (.seq (.seq (.reg [⟨some 38, .mov (.t 2), none⟩, ⟨some 39, .mov (.t 1), none⟩, ⟨some 40, .bin .sub (.t 38) (.t 39), none⟩, ⟨some 41, .bin .lss (.t 40) (.k (.i .i64 50)), none⟩])
 (.cond (.t 41)
 (.seq (.reg [⟨some 6, .mov (.k (.b false)), none⟩])
 .ret)
 .skip))
 (.seq (.reg [⟨some 42, .mov (.t 0), none⟩, ⟨some 43, .mov (.t 7), none⟩, ⟨some 44, .mov (.t 0), none⟩, ⟨some 45, .mov (.t 7), none⟩, ⟨some 46, .bin .sub (.t 45) (.k (.i .i64 1)), none⟩, ⟨some 47, .mov (.t 0), none⟩, ⟨some 48, .mov (.t 7), none⟩, ⟨some 49, .bin .sub (.t 48) (.k (.i .i64 1)), none⟩, ⟨some 50, .iaddr (.slice 1) (.t 47) (.t 49), none⟩, ⟨some 51, .load false 1 (.t 50), none⟩, ⟨some 52, .mov (.t 0), none⟩, ⟨some 53, .mov (.t 7), none⟩, ⟨some 54, .iaddr (.slice 1) (.t 52) (.t 53), none⟩, ⟨some 55, .load false 1 (.t 54), none⟩, ⟨some 56, .iaddr (.slice 1) (.t 42) (.t 43), none⟩, ⟨none, .store 1 (.t 56) (.t 51), none⟩, ⟨some 57, .iaddr (.slice 1) (.t 44) (.t 46), none⟩, ⟨none, .store 1 (.t 57) (.t 55), none⟩])
 (.seq (.seq (.reg [⟨some 58, .mov (.t 7), none⟩, ⟨some 59, .mov (.t 1), none⟩, ⟨some 60, .bin .sub (.t 58) (.t 59), none⟩, ⟨some 61, .bin .geq (.t 60) (.k (.i .i64 2)), none⟩])
 (.cond (.t 61)
 (.seq (.reg [⟨some 62, .mov (.t 7), none⟩, ⟨some 63, .bin .sub (.t 62) (.k (.i .i64 1)), none⟩, ⟨some 9, .mov (.t 63), none⟩])
 (.blk 4 (.loop L147_3)))
 .skip))
 (.seq (.reg [⟨some 95, .mov (.t 2), none⟩, ⟨some 96, .mov (.t 7), none⟩, ⟨some 97, .bin .sub (.t 95) (.t 96), none⟩, ⟨some 98, .bin .geq (.t 97) (.k (.i .i64 2)), none⟩])
 (.cond (.t 98)
 (.seq (.reg [⟨some 99, .mov (.t 7), none⟩, ⟨some 100, .bin .add (.t 99) (.k (.i .i64 1)), none⟩, ⟨some 10, .mov (.t 100), none⟩])
 (.blk 6 (.loop L147_4)))
 .skip))))))))
 (.reg [⟨some 15, .mov (.t 8), none⟩, ⟨some 16, .bin .add (.t 15) (.k (.i .i64 1)), none⟩, ⟨some 8, .mov (.t 16), none⟩])))
def B147 : AC := (.seq (.reg [⟨some 6, .mov (.k (.b false)), none⟩])
 (.seq (.reg [⟨some 11, .mov (.t 1), none⟩, ⟨some 12, .bin .add (.t 11) (.k (.i .i64 1)), none⟩, ⟨some 7, .mov (.t 12), none⟩])
 (.seq (.seq (.reg [⟨some 8, .mov (.k (.i .i64 0)), none⟩])
 (.blk 0 (.loop L147_1)))
 (.seq (.reg [⟨some 6, .mov (.k (.b false)), none⟩])
 .ret))))
/-- slices.partialInsertionSortOrdered[string] -/
def af147 : AFunc := { n := 133, depth := 8, kl := [], res := [.tmp 6], body := B147 }

def B148 : AC := (.seq (.reg [⟨some 4, .mov (.k (.b false)), none⟩])
 (.seq (.reg [⟨some 5, .mov (.t 0), none⟩, ⟨some 6, .call true 172 [(.t 5)], none⟩, ⟨some 7, .mov (.t 6), none⟩, ⟨some 8, .mov (.t 1), some (7, true)⟩,
 ⟨some 9, .call true 172 [(.t 8)], some (7, true)⟩,
 ⟨some 10, .un .not (.t 9), some (7, true)⟩,
 ⟨some 11, .pick (.t 7) (.t 10) (.k (.b false)), none⟩, ⟨some 12, .mov (.t 11), none⟩, ⟨some 13, .mov (.t 0), some (12, false)⟩,
 ⟨some 14, .mov (.t 1), some (12, false)⟩,
 ⟨some 15, .bin .lss (.t 13) (.t 14), some (12, false)⟩,
 ⟨some 16, .pick (.t 12) (.k (.b true)) (.t 15), none⟩, ⟨some 4, .mov (.t 16), none⟩])
 .ret))
/-- cmp.Less[string] -/
def af148 : AFunc := { n := 17, depth := 5, kl := [], res := [.tmp 4], body := B148 }

def L149_3 : AC := (.seq (.seq (.reg [⟨some 46, .mov (.t 9), none⟩, ⟨some 47, .mov (.t 10), none⟩, ⟨some 48, .bin .leq (.t 46) (.t 47), none⟩, ⟨some 49, .mov (.t 48), none⟩, ⟨some 50, .mov (.t 0), some (49, true)⟩,
 ⟨some 51, .mov (.t 1), some (49, true)⟩,
 ⟨some 52, .iaddr (.slice 1) (.t 50) (.t 51), some (49, true)⟩,
 ⟨some 53, .load false 1 (.t 52), some (49, true)⟩,
 ⟨some 54, .mov (.t 0), some (49, true)⟩,
 ⟨some 55, .mov (.t 10), some (49, true)⟩,
 ⟨some 56, .iaddr (.slice 1) (.t 54) (.t 55), some (49, true)⟩,
 ⟨some 57, .load false 1 (.t 56), some (49, true)⟩,
 ⟨some 58, .call true 148 [(.t 53), (.t 57)], some (49, true)⟩,
 ⟨some 59, .pick (.t 49) (.t 58) (.k (.b false)), none⟩])
 (.cond (.t 59)
 .skip
 (.exit 4)))
 (.blk 5 (.reg [⟨some 60, .mov (.t 10), none⟩, ⟨some 61, .bin .sub (.t 60) (.k (.i .i64 1)), none⟩, ⟨some 10, .mov (.t 61), none⟩])))
def L149_2 : AC := (.seq (.seq (.reg [⟨some 29, .mov (.t 9), none⟩, ⟨some 30, .mov (.t 10), none⟩, ⟨some 31, .bin .leq (.t 29) (.t 30), none⟩, ⟨some 32, .mov (.t 31), none⟩, ⟨some 33, .mov (.t 0), some (32, true)⟩,
 ⟨some 34, .mov (.t 1), some (32, true)⟩,
 ⟨some 35, .iaddr (.slice 1) (.t 33) (.t 34), some (32, true)⟩,
 ⟨some 36, .load false 1 (.t 35), some (32, true)⟩,
 ⟨some 37, .mov (.t 0), some (32, true)⟩,
 ⟨some 38, .mov (.t 9), some (32, true)⟩,
 ⟨some 39, .iaddr (.slice 1) (.t 37) (.t 38), some (32, true)⟩,
 ⟨some 40, .load false 1 (.t 39), some (32, true)⟩,
 ⟨some 41, .call true 148 [(.t 36), (.t 40)], some (32, true)⟩,
 ⟨some 42, .un .not (.t 41), some (32, true)⟩,
 ⟨some 43, .pick (.t 32) (.t 42) (.k (.b false)), none⟩])
 (.cond (.t 43)
 .skip
 (.exit 2)))
 (.blk 3 (.reg [⟨some 44, .mov (.t 9), none⟩, ⟨some 45, .bin .add (.t 44) (.k (.i .i64 1)), none⟩, ⟨some 9, .mov (.t 45), none⟩])))
def L149_1 : AC := (.blk 1 (.seq (.blk 2 (.loop L149_2))
 (.seq (.blk 4 (.loop L149_3))
 (.seq (.seq (.reg [⟨some 62, .mov (.t 9), none⟩, ⟨some 63, .mov (.t 10), none⟩, ⟨some 64, .bin .gtr (.t 62) (.t 63), none⟩])
 (.cond (.t 64)
 (.exit 0)
 .skip))
 (.seq (.reg [⟨some 65, .mov (.t 0), none⟩, ⟨some 66, .mov (.t 9), none⟩, ⟨some 67, .mov (.t 0), none⟩, ⟨some 68, .mov (.t 10), none⟩, ⟨some 69, .mov (.t 0), none⟩, ⟨some 70, .mov (.t 10), none⟩, ⟨some 71, .iaddr (.slice 1) (.t 69) (.t 70), none⟩, ⟨some 72, .load false 1 (.t 71), none⟩, ⟨some 73, .mov (.t 0), none⟩, ⟨some 74, .mov (.t 9), none⟩, ⟨some 75, .iaddr (.slice 1) (.t 73) (.t 74), none⟩, ⟨some 76, .load false 1 (.t 75), none⟩, ⟨some 77, .iaddr (.slice 1) (.t 65) (.t 66), none⟩, ⟨none, .store 1 (.t 77) (.t 72), none⟩, ⟨some 78, .iaddr (.slice 1) (.t 67) (.t 68), none⟩, ⟨none, .store 1 (.t 78) (.t 76), none⟩])
 (.seq (.reg [⟨some 79, .mov (.t 9), none⟩, ⟨some 80, .bin .add (.t 79) (.k (.i .i64 1)), none⟩, ⟨some 9, .mov (.t 80), none⟩])
 (.reg [⟨some 81, .mov (.t 10), none⟩, ⟨some 82, .bin .sub (.t 81) (.k (.i .i64 1)), none⟩, ⟨some 10, .mov (.t 82), none⟩])))))))
def B149 : AC := (.seq (.reg [⟨some 8, .mov (.k (.i .i64 0)), none⟩])
 (.seq (.reg [⟨some 11, .mov (.t 0), none⟩, ⟨some 12, .mov (.t 1), none⟩, ⟨some 13, .mov (.t 0), none⟩, ⟨some 14, .mov (.t 3), none⟩, ⟨some 15, .mov (.t 0), none⟩, ⟨some 16, .mov (.t 3), none⟩, ⟨some 17, .iaddr (.slice 1) (.t 15) (.t 16), none⟩, ⟨some 18, .load false 1 (.t 17), none⟩, ⟨some 19, .mov (.t 0), none⟩, ⟨some 20, .mov (.t 1), none⟩, ⟨some 21, .iaddr (.slice 1) (.t 19) (.t 20), none⟩, ⟨some 22, .load false 1 (.t 21), none⟩, ⟨some 23, .iaddr (.slice 1) (.t 11) (.t 12), none⟩, ⟨none, .store 1 (.t 23) (.t 18), none⟩, ⟨some 24, .iaddr (.slice 1) (.t 13) (.t 14), none⟩, ⟨none, .store 1 (.t 24) (.t 22), none⟩])
 (.seq (.reg [⟨some 25, .mov (.t 1), none⟩, ⟨some 26, .bin .add (.t 25) (.k (.i .i64 1)), none⟩, ⟨some 27, .mov (.t 2), none⟩, ⟨some 28, .bin .sub (.t 27) (.k (.i .i64 1)), none⟩, ⟨some 9, .mov (.t 26), none⟩, ⟨some 10, .mov (.t 28), none⟩])
 (.seq (.blk 0 (.loop L149_1))
 (.seq (.reg [⟨some 83, .mov (.t 9), none⟩, ⟨some 8, .mov (.t 83), none⟩])
 .ret)))))
/-- slices.partitionEqualOrdered[string] -/
def af149 : AFunc := { n := 84, depth := 7, kl := [], res := [.tmp 8], body := B149 }

def L150_5 : AC := (.seq (.seq (.reg [⟨some 115, .mov (.t 10), none⟩, ⟨some 116, .mov (.t 11), none⟩, ⟨some 117, .bin .leq (.t 115) (.t 116), none⟩, ⟨some 118, .mov (.t 117), none⟩, ⟨some 119, .mov (.t 0), some (118, true)⟩,
 ⟨some 120, .mov (.t 11), some (118, true)⟩,
 ⟨some 121, .iaddr (.slice 1) (.t 119) (.t 120), some (118, true)⟩,
 ⟨some 122, .load false 1 (.t 121), some (118, true)⟩,
 ⟨some 123, .mov (.t 0), some (118, true)⟩,
 ⟨some 124, .mov (.t 1), some (118, true)⟩,
 ⟨some 125, .iaddr (.slice 1) (.t 123) (.t 124), some (118, true)⟩,
 ⟨some 126, .load false 1 (.t 125), some (118, true)⟩,
 ⟨some 127, .call true 148 [(.t 122), (.t 126)], some (118, true)⟩,
 ⟨some 128, .un .not (.t 127), some (118, true)⟩,
 ⟨some 129, .pick (.t 118) (.t 128) (.k (.b false)), none⟩])
 (.cond (.t 129)
 .skip
 (.exit 8)))
 (.blk 9 (.reg [⟨some 130, .mov (.t 11), none⟩, ⟨some 131, .bin .sub (.t 130) (.k (.i .i64 1)), none⟩, ⟨some 11, .mov (.t 131), none⟩])))
def L150_4 : AC := (.seq (.seq (.reg [⟨some 99, .mov (.t 10), none⟩, ⟨some 100, .mov (.t 11), none⟩, ⟨some 101, .bin .leq (.t 99) (.t 100), none⟩, ⟨some 102, .mov (.t 101), none⟩, ⟨some 103, .mov (.t 0), some (102, true)⟩,
 ⟨some 104, .mov (.t 10), some (102, true)⟩,
 ⟨some 105, .iaddr (.slice 1) (.t 103) (.t 104), some (102, true)⟩,
 ⟨some 106, .load false 1 (.t 105), some (102, true)⟩,
 ⟨some 107, .mov (.t 0), some (102, true)⟩,
 ⟨some 108, .mov (.t 1), some (102, true)⟩,
 ⟨some 109, .iaddr (.slice 1) (.t 107) (.t 108), some (102, true)⟩,
 ⟨some 110, .load false 1 (.t 109), some (102, true)⟩,
 ⟨some 111, .call true 148 [(.t 106), (.t 110)], some (102, true)⟩,
 ⟨some 112, .pick (.t 102) (.t 111) (.k (.b false)), none⟩])
 (.cond (.t 112)
 .skip
 (.exit 6)))
 (.blk 7 (.reg [⟨some 113, .mov (.t 10), none⟩, ⟨some 114, .bin .add (.t 113) (.k (.i .i64 1)), none⟩, ⟨some 10, .mov (.t 114), none⟩])))
def L150_3 : AC := (.blk 5 (.seq (.blk 6 (.loop L150_4))
 (.seq (.blk 8 (.loop L150_5))
 (.seq (.seq (.reg [⟨some 132, .mov (.t 10), none⟩, ⟨some 133, .mov (.t 11), none⟩, ⟨some 134, .bin .gtr (.t 132) (.t 133), none⟩])
 (.cond (.t 134)
 (.exit 4)
 .skip))
 (.seq (.reg [⟨some 135, .mov (.t 0), none⟩, ⟨some 136, .mov (.t 10), none⟩, ⟨some 137, .mov (.t 0), none⟩, ⟨some 138, .mov (.t 11), none⟩, ⟨some 139, .mov (.t 0), none⟩, ⟨some 140, .mov (.t 11), none⟩, ⟨some 141, .iaddr (.slice 1) (.t 139) (.t 140), none⟩, ⟨some 142, .load false 1 (.t 141), none⟩, ⟨some 143, .mov (.t 0), none⟩, ⟨some 144, .mov (.t 10), none⟩, ⟨some 145, .iaddr (.slice 1) (.t 143) (.t 144), none⟩, ⟨some 146, .load false 1 (.t 145), none⟩, ⟨some 147, .iaddr (.slice 1) (.t 135) (.t 136), none⟩, ⟨none, .store 1 (.t 147) (.t 142), none⟩, ⟨some 148, .iaddr (.slice 1) (.t 137) (.t 138), none⟩, ⟨none, .store 1 (.t 148) (.t 146), none⟩])
 (.seq (.reg [⟨some 149, .mov (.t 10), none⟩, ⟨some 150, .bin .add (.t 149) (.k (.i .i64 1)), none⟩, ⟨some 10, .mov (.t 150), none⟩])
 (.reg [⟨some 151, .mov (.t 11), none⟩, ⟨some 152, .bin .sub (.t 151) (.k (.i .i64 1)), none⟩, ⟨some 11, .mov (.t 152), none⟩])))))))
def L150_2 : AC := (.seq (.seq (.reg [⟨some 46, .mov (.t 10), none⟩, ⟨some 47, .mov (.t 11), none⟩, ⟨some 48, .bin .leq (.t 46) (.t 47), none⟩, ⟨some 49, .mov (.t 48), none⟩, ⟨some 50, .mov (.t 0), some (49, true)⟩,
 ⟨some 51, .mov (.t 11), some (49, true)⟩,
 ⟨some 52, .iaddr (.slice 1) (.t 50) (.t 51), some (49, true)⟩,
 ⟨some 53, .load false 1 (.t 52), some (49, true)⟩,
 ⟨some 54, .mov (.t 0), some (49, true)⟩,
 ⟨some 55, .mov (.t 1), some (49, true)⟩,
 ⟨some 56, .iaddr (.slice 1) (.t 54) (.t 55), some (49, true)⟩,
 ⟨some 57, .load false 1 (.t 56), some (49, true)⟩,
 ⟨some 58, .call true 148 [(.t 53), (.t 57)], some (49, true)⟩,
 ⟨some 59, .un .not (.t 58), some (49, true)⟩,
 ⟨some 60, .pick (.t 49) (.t 59) (.k (.b false)), none⟩])
 (.cond (.t 60)
 .skip
 (.exit 2)))
 (.blk 3 (.reg [⟨some 61, .mov (.t 11), none⟩, ⟨some 62, .bin .sub (.t 61) (.k (.i .i64 1)), none⟩, ⟨some 11, .mov (.t 62), none⟩])))
def L150_1 : AC := (.seq (.seq (.reg [⟨some 30, .mov (.t 10), none⟩, ⟨some 31, .mov (.t 11), none⟩, ⟨some 32, .bin .leq (.t 30) (.t 31), none⟩, ⟨some 33, .mov (.t 32), none⟩, ⟨some 34, .mov (.t 0), some (33, true)⟩,
 ⟨some 35, .mov (.t 10), some (33, true)⟩,
 ⟨some 36, .iaddr (.slice 1) (.t 34) (.t 35), some (33, true)⟩,
 ⟨some 37, .load false 1 (.t 36), some (33, true)⟩,
 ⟨some 38, .mov (.t 0), some (33, true)⟩,
 ⟨some 39, .mov (.t 1), some (33, true)⟩,
 ⟨some 40, .iaddr (.slice 1) (.t 38) (.t 39), some (33, true)⟩,
 ⟨some 41, .load false 1 (.t 40), some (33, true)⟩,
 ⟨some 42, .call true 148 [(.t 37), (.t 41)], some (33, true)⟩,
 ⟨some 43, .pick (.t 33) (.t 42) (.k (.b false)), none⟩])
 (.cond (.t 43)
 .skip
 (.exit 0)))
 (.blk 1 (.reg [⟨some 44, .mov (.t 10), none⟩, ⟨some 45, .bin .add (.t 44) (.k (.i .i64 1)), none⟩, ⟨some 10, .mov (.t 45), none⟩])))
def B150 : AC := (.seq (.reg [⟨some 8, .mov (.k (.i .i64 0)), none⟩, ⟨some 9, .mov (.k (.b false)), none⟩])
 (.seq (.reg [⟨some 12, .mov (.t 0), none⟩, ⟨some 13, .mov (.t 1), none⟩, ⟨some 14, .mov (.t 0), none⟩, ⟨some 15, .mov (.t 3), none⟩, ⟨some 16, .mov (.t 0), none⟩, ⟨some 17, .mov (.t 3), none⟩, ⟨some 18, .iaddr (.slice 1) (.t 16) (.t 17), none⟩, ⟨some 19, .load false 1 (.t 18), none⟩, ⟨some 20, .mov (.t 0), none⟩, ⟨some 21, .mov (.t 1), none⟩, ⟨some 22, .iaddr (.slice 1) (.t 20) (.t 21), none⟩, ⟨some 23, .load false 1 (.t 22), none⟩, ⟨some 24, .iaddr (.slice 1) (.t 12) (.t 13), none⟩, ⟨none, .store 1 (.t 24) (.t 19), none⟩, ⟨some 25, .iaddr (.slice 1) (.t 14) (.t 15), none⟩, ⟨none, .store 1 (.t 25) (.t 23), none⟩])
 (.seq (.reg [⟨some 26, .mov (.t 1), none⟩, ⟨some 27, .bin .add (.t 26) (.k (.i .i64 1)), none⟩, ⟨some 28, .mov (.t 2), none⟩, ⟨some 29, .bin .sub (.t 28) (.k (.i .i64 1)), none⟩, ⟨some 10, .mov (.t 27), none⟩, ⟨some 11, .mov (.t 29), none⟩])
 (.seq (.blk 0 (.loop L150_1))
 (.seq (.blk 2 (.loop L150_2))
 (.seq (.seq (.reg [⟨some 63, .mov (.t 10), none⟩, ⟨some 64, .mov (.t 11), none⟩, ⟨some 65, .bin .gtr (.t 63) (.t 64), none⟩])
 (.cond (.t 65)
 (.seq (.reg [⟨some 66, .mov (.t 0), none⟩, ⟨some 67, .mov (.t 11), none⟩, ⟨some 68, .mov (.t 0), none⟩, ⟨some 69, .mov (.t 1), none⟩, ⟨some 70, .mov (.t 0), none⟩, ⟨some 71, .mov (.t 1), none⟩, ⟨some 72, .iaddr (.slice 1) (.t 70) (.t 71), none⟩, ⟨some 73, .load false 1 (.t 72), none⟩, ⟨some 74, .mov (.t 0), none⟩, ⟨some 75, .mov (.t 11), none⟩, ⟨some 76, .iaddr (.slice 1) (.t 74) (.t 75), none⟩, ⟨some 77, .load false 1 (.t 76), none⟩, ⟨some 78, .iaddr (.slice 1) (.t 66) (.t 67), none⟩, ⟨none, .store 1 (.t 78) (.t 73), none⟩, ⟨some 79, .iaddr (.slice 1) (.t 68) (.t 69), none⟩, ⟨none, .store 1 (.t 79) (.t 77), none⟩])
 (.seq (.reg [⟨some 80, .mov (.t 11), none⟩, ⟨some 8, .mov (.t 80), none⟩, ⟨some 9, .mov (.k (.b true)), none⟩])
 .ret))
 .skip))
 (.seq (.reg [⟨some 81, .mov (.t 0), none⟩, ⟨some 82, .mov (.t 10), none⟩, ⟨some 83, .mov (.t 0), none⟩, ⟨some 84, .mov (.t 11), none⟩, ⟨some 85, .mov (.t 0), none⟩, ⟨some 86, .mov (.t 11), none⟩, ⟨some 87, .iaddr (.slice 1) (.t 85) (.t 86), none⟩, ⟨some 88, .load false 1 (.t 87), none⟩, ⟨some 89, .mov (.t 0), none⟩, ⟨some 90, .mov (.t 10), none⟩, ⟨some 91, .iaddr (.slice 1) (.t 89) (.t 90), none⟩, ⟨some 92, .load false 1 (.t 91), none⟩, ⟨some 93, .iaddr (.slice 1) (.t 81) (.t 82), none⟩, ⟨none, .store 1 (.t 93) (.t 88), none⟩, ⟨some 94, .iaddr (.slice 1) (.t 83) (.t 84), none⟩, ⟨none, .store 1 (.t 94) (.t 92), none⟩])
 (.seq (.reg [⟨some 95, .mov (.t 10), none⟩, ⟨some 96, .bin .add (.t 95) (.k (.i .i64 1)), none⟩, ⟨some 10, .mov (.t 96), none⟩])
 (.seq (.reg [⟨some 97, .mov (.t 11), none⟩, ⟨some 98, .bin .sub (.t 97) (.k (.i .i64 1)), none⟩, ⟨some 11, .mov (.t 98), none⟩])
 (.seq (.blk 4 (.loop L150_3))
 (.seq (.reg [⟨some 153, .mov (.t 0), none⟩, ⟨some 154, .mov (.t 11), none⟩, ⟨some 155, .mov (.t 0), none⟩, ⟨some 156, .mov (.t 1), none⟩, ⟨some 157, .mov (.t 0), none⟩, ⟨some 158, .mov (.t 1), none⟩, ⟨some 159, .iaddr (.slice 1) (.t 157) (.t 158), none⟩, ⟨some 160, .load false 1 (.t 159), none⟩, ⟨some 161, .mov (.t 0), none⟩, ⟨some 162, .mov (.t 11), none⟩, ⟨some 163, .iaddr (.slice 1) (.t 161) (.t 162), none⟩, ⟨some 164, .load false 1 (.t 163), none⟩, ⟨some 165, .iaddr (.slice 1) (.t 153) (.t 154), none⟩, ⟨none, .store 1 (.t 165) (.t 160), none⟩, ⟨some 166, .iaddr (.slice 1) (.t 155) (.t 156), none⟩, ⟨none, .store 1 (.t 166) (.t 164), none⟩])
 (.seq (.reg [⟨some 167, .mov (.t 11), none⟩, ⟨some 8, .mov (.t 167), none⟩, ⟨some 9, .mov (.k (.b false)), none⟩])
 .ret))))))))))))
/-- slices.partitionOrdered[string] -/
def af150 : AFunc := { n := 168, depth := 8, kl := [], res := [.tmp 8, .tmp 9], body := B150 }

def B151 : AC := (.seq (.reg [⟨some 2, .mov (.k (.i .i64 0)), none⟩])
 (.seq (.seq (.reg [⟨some 3, .mov (.t 0), none⟩, ⟨some 4, .bin .geq (.t 3) (.k (.i .u32 65536)), none⟩])
 (.cond (.t 4)
 (.seq (.reg [⟨some 5, .mov (.t 0), none⟩, ⟨some 6, .bin .shr (.t 5) (.k (.i .u64 16)), none⟩, ⟨some 0, .mov (.t 6), none⟩])
 (.reg [⟨some 2, .mov (.k (.i .i64 16)), none⟩]))
 .skip))
 (.seq (.seq (.reg [⟨some 7, .mov (.t 0), none⟩, ⟨some 8, .bin .geq (.t 7) (.k (.i .u32 256)), none⟩])
 (.cond (.t 8)
 (.seq (.reg [⟨some 9, .mov (.t 0), none⟩, ⟨some 10, .bin .shr (.t 9) (.k (.i .u64 8)), none⟩, ⟨some 0, .mov (.t 10), none⟩])
 (.reg [⟨some 11, .mov (.t 2), none⟩, ⟨some 12, .bin .add (.t 11) (.k (.i .i64 8)), none⟩, ⟨some 2, .mov (.t 12), none⟩]))
 .skip))
 (.seq (.reg [⟨some 13, .mov (.t 2), none⟩, ⟨some 14, .mov (.t 0), none⟩, ⟨some 15, .conv (.int .u8) (.t 14), none⟩, ⟨some 16, .idx .str (.k (.s [0, 1, 2, 2, 3, 3, 3, 3, 4, 4, 4, 4, 4, 4, 4, 4, 5, 5, 5, 5, 5, 5, 5, 5, 5, 5, 5, 5, 5, 5, 5, 5, 6, 6, 6, 6, 6, 6, 6, 6, 6, 6, 6, 6, 6, 6, 6, 6, 6, 6, 6, 6, 6, 6, 6, 6, 6, 6, 6, 6, 6, 6, 6, 6, 7, 7, 7, 7, 7, 7, 7, 7, 7, 7, 7, 7, 7, 7, 7, 7, 7, 7, 7, 7, 7, 7, 7, 7, 7, 7, 7, 7, 7, 7, 7, 7, 7, 7, 7, 7, 7, 7, 7, 7, 7, 7, 7, 7, 7, 7, 7, 7, 7, 7, 7, 7, 7, 7, 7, 7, 7, 7, 7, 7, 7, 7, 7, 7, 8, 8, 8, 8, 8, 8, 8, 8, 8, 8, 8, 8, 8, 8, 8, 8, 8, 8, 8, 8, 8, 8, 8, 8, 8, 8, 8, 8, 8, 8, 8, 8, 8, 8, 8, 8, 8, 8, 8, 8, 8, 8, 8, 8, 8, 8, 8, 8, 8, 8, 8, 8, 8, 8, 8, 8, 8, 8, 8, 8, 8, 8, 8, 8, 8, 8, 8, 8, 8, 8, 8, 8, 8, 8, 8, 8, 8, 8, 8, 8, 8, 8, 8, 8, 8, 8, 8, 8, 8, 8, 8, 8, 8, 8, 8, 8, 8, 8, 8, 8, 8, 8, 8, 8, 8, 8, 8, 8, 8, 8, 8, 8, 8, 8, 8, 8, 8, 8, 8, 8, 8, 8, 8, 8, 8, 8, 8, 8])) (.t 15), none⟩, ⟨some 17, .conv (.int .i64) (.t 16), none⟩, ⟨some 18, .bin .add (.t 13) (.t 17), none⟩, ⟨some 2, .mov (.t 18), none⟩])
 .ret))))
/-- math/bits.Len32 -/
def af151 : AFunc := { n := 19, depth := 5, kl := [], res := [.tmp 2], body := B151 }

def B152 : AC := (.seq (.reg [⟨some 2, .mov (.k (.i .i64 0)), none⟩])
 (.seq (.seq (.reg [⟨some 3, .mov (.t 0), none⟩, ⟨some 4, .bin .geq (.t 3) (.k (.i .u64 4294967296)), none⟩])
 (.cond (.t 4)
 (.seq (.reg [⟨some 5, .mov (.t 0), none⟩, ⟨some 6, .bin .shr (.t 5) (.k (.i .u64 32)), none⟩, ⟨some 0, .mov (.t 6), none⟩])
 (.reg [⟨some 2, .mov (.k (.i .i64 32)), none⟩]))
 .skip))
 (.seq (.seq (.reg [⟨some 7, .mov (.t 0), none⟩, ⟨some 8, .bin .geq (.t 7) (.k (.i .u64 65536)), none⟩])
 (.cond (.t 8)
 (.seq (.reg [⟨some 9, .mov (.t 0), none⟩, ⟨some 10, .bin .shr (.t 9) (.k (.i .u64 16)), none⟩, ⟨some 0, .mov (.t 10), none⟩])
 (.reg [⟨some 11, .mov (.t 2), none⟩, ⟨some 12, .bin .add (.t 11) (.k (.i .i64 16)), none⟩, ⟨some 2, .mov (.t 12), none⟩]))
 .skip))
 (.seq (.seq (.reg [⟨some 13, .mov (.t 0), none⟩, ⟨some 14, .bin .geq (.t 13) (.k (.i .u64 256)), none⟩])
 (.cond (.t 14)
 (.seq (.reg [⟨some 15, .mov (.t 0), none⟩, ⟨some 16, .bin .shr (.t 15) (.k (.i .u64 8)), none⟩, ⟨some 0, .mov (.t 16), none⟩])
 (.reg [⟨some 17, .mov (.t 2), none⟩, ⟨some 18, .bin .add (.t 17) (.k (.i .i64 8)), none⟩, ⟨some 2, .mov (.t 18), none⟩]))
 .skip))
 (.seq (.reg [⟨some 19, .mov (.t 2), none⟩, ⟨some 20, .mov (.t 0), none⟩, ⟨some 21, .conv (.int .u8) (.t 20), none⟩, ⟨some 22, .idx .str (.k (.s [0, 1, 2, 2, 3, 3, 3, 3, 4, 4, 4, 4, 4, 4, 4, 4, 5, 5, 5, 5, 5, 5, 5, 5, 5, 5, 5, 5, 5, 5, 5, 5, 6, 6, 6, 6, 6, 6, 6, 6, 6, 6, 6, 6, 6, 6, 6, 6, 6, 6, 6, 6, 6, 6, 6, 6, 6, 6, 6, 6, 6, 6, 6, 6, 7, 7, 7, 7, 7, 7, 7, 7, 7, 7, 7, 7, 7, 7, 7, 7, 7, 7, 7, 7, 7, 7, 7, 7, 7, 7, 7, 7, 7, 7, 7, 7, 7, 7, 7, 7, 7, 7, 7, 7, 7, 7, 7, 7, 7, 7, 7, 7, 7, 7, 7, 7, 7, 7, 7, 7, 7, 7, 7, 7, 7, 7, 7, 7, 8, 8, 8, 8, 8, 8, 8, 8, 8, 8, 8, 8, 8, 8, 8, 8, 8, 8, 8, 8, 8, 8, 8, 8, 8, 8, 8, 8, 8, 8, 8, 8, 8, 8, 8, 8, 8, 8, 8, 8, 8, 8, 8, 8, 8, 8, 8, 8, 8, 8, 8, 8, 8, 8, 8, 8, 8, 8, 8, 8, 8, 8, 8, 8, 8, 8, 8, 8, 8, 8, 8, 8, 8, 8, 8, 8, 8, 8, 8, 8, 8, 8, 8, 8, 8, 8, 8, 8, 8, 8, 8, 8, 8, 8, 8, 8, 8, 8, 8, 8, 8, 8, 8, 8, 8, 8, 8, 8, 8, 8, 8, 8, 8, 8, 8, 8, 8, 8, 8, 8, 8, 8, 8, 8, 8, 8, 8, 8])) (.t 21), none⟩, ⟨some 23, .conv (.int .i64) (.t 22), none⟩, ⟨some 24, .bin .add (.t 19) (.t 23), none⟩, ⟨some 2, .mov (.t 24), none⟩])
 .ret)))))
/-- math/bits.Len64 -/
def af152 : AFunc := { n := 25, depth := 5, kl := [], res := [.tmp 2], body := B152 }

def L153_1 : AC := (.seq (.seq (.reg [⟨some 18, .mov (.t 10), none⟩, ⟨some 19, .mov (.t 11), none⟩, ⟨some 20, .bin .neq (.t 18) (.t 19), none⟩])
 (.cond (.t 20)
 .skip
 (.exit 0)))
 (.blk 1 (.seq (.reg [⟨some 21, .mov (.t 10), none⟩, ⟨some 22, .mov (.t 11), none⟩, ⟨some 23, .bin .gtr (.t 21) (.t 22), none⟩])
 (.cond (.t 23)
 (.seq (.reg [⟨some 24, .mov (.t 0), none⟩, ⟨some 25, .mov (.t 2), none⟩, ⟨some 26, .mov (.t 10), none⟩, ⟨some 27, .bin .sub (.t 25) (.t 26), none⟩, ⟨some 28, .mov (.t 2), none⟩, ⟨some 29, .mov (.t 11), none⟩, ⟨some 30, .mov (.t 4), none⟩, ⟨some 31, .call false 173 [(.t 24), (.t 27), (.t 28), (.t 29), (.t 30)], none⟩])
 (.reg [⟨some 32, .mov (.t 10), none⟩, ⟨some 33, .mov (.t 11), none⟩, ⟨some 34, .bin .sub (.t 32) (.t 33), none⟩, ⟨some 10, .mov (.t 34), none⟩]))
 (.seq (.reg [⟨some 35, .mov (.t 0), none⟩, ⟨some 36, .mov (.t 2), none⟩, ⟨some 37, .mov (.t 10), none⟩, ⟨some 38, .bin .sub (.t 36) (.t 37), none⟩, ⟨some 39, .mov (.t 2), none⟩, ⟨some 40, .mov (.t 11), none⟩, ⟨some 41, .bin .add (.t 39) (.t 40), none⟩, ⟨some 42, .mov (.t 10), none⟩, ⟨some 43, .bin .sub (.t 41) (.t 42), none⟩, ⟨some 44, .mov (.t 10), none⟩, ⟨some 45, .mov (.t 4), none⟩, ⟨some 46, .call false 173 [(.t 35), (.t 38), (.t 43), (.t 44), (.t 45)], none⟩])
 (.reg [⟨some 47, .mov (.t 11), none⟩, ⟨some 48, .mov (.t 10), none⟩, ⟨some 49, .bin .sub (.t 47) (.t 48), none⟩, ⟨some 11, .mov (.t 49), none⟩]))))))
def B153 : AC := (.seq (.reg [⟨some 12, .mov (.t 2), none⟩, ⟨some 13, .mov (.t 1), none⟩, ⟨some 14, .bin .sub (.t 12) (.t 13), none⟩, ⟨some 10, .mov (.t 14), none⟩])
 (.seq (.reg [⟨some 15, .mov (.t 3), none⟩, ⟨some 16, .mov (.t 2), none⟩, ⟨some 17, .bin .sub (.t 15) (.t 16), none⟩, ⟨some 11, .mov (.t 17), none⟩])
 (.seq (.blk 0 (.loop L153_1))
 (.reg [⟨some 50, .mov (.t 0), none⟩, ⟨some 51, .mov (.t 2), none⟩, ⟨some 52, .mov (.t 10), none⟩, ⟨some 53, .bin .sub (.t 51) (.t 52), none⟩, ⟨some 54, .mov (.t 2), none⟩, ⟨some 55, .mov (.t 10), none⟩, ⟨some 56, .mov (.t 4), none⟩, ⟨some 57, .call false 173 [(.t 50), (.t 53), (.t 54), (.t 55), (.t 56)], none⟩]))))
/-- slices.rotateCmpFunc[tidemark/api.Pair] -/
def af153 : AFunc := { n := 58, depth := 6, kl := [], res := [], body := B153 }

def B155 : AC := (.seq (.reg [⟨some 4, .movnil 5, none⟩])
 (.seq (.seq (.reg [⟨some 5, .mov (.t 1), none⟩, ⟨some 6, .conv (.int .u32) (.t 5), none⟩, ⟨some 7, .bin .leq (.t 6) (.k (.i .u32 127)), none⟩])
 (.cond (.t 7)
 (.seq (.reg [⟨some 8, .mov (.t 0), none⟩, ⟨some 9, .mov (.t 1), none⟩, ⟨some 10, .conv (.int .u8) (.t 9), none⟩, ⟨some 11, .bslice false 5 1 1 [(.i .u8 0)] [(0, (.t 10))], none⟩, ⟨some 12, .app 5 1 (.t 8) (.t 11), none⟩, ⟨some 4, .mov (.t 12), none⟩])
 .ret)
 .skip))
 (.seq (.reg [⟨some 13, .mov (.t 0), none⟩, ⟨some 14, .mov (.t 1), none⟩, ⟨some 15, .call false 174 [(.t 13), (.t 14)], none⟩, ⟨some 4, .mov (.t 15), none⟩])
 .ret)))
/-- unicode/utf8.AppendRune -/
def af155 : AFunc := { n := 16, depth := 5, kl := [], res := [.tmp 4], body := B155 }

def B160 : AC := (.seq (.reg [⟨some 4, .mov (.k (.i .i64 0)), none⟩])
 (.seq (.reg [⟨some 5, .mov (.t 0), none⟩, ⟨some 6, .mov (.t 1), none⟩, ⟨some 7, .call true 177 [(.t 5), (.t 6)], none⟩, ⟨some 4, .mov (.t 7), none⟩])
 .ret))
/-- strings.IndexByte -/
def af160 : AFunc := { n := 8, depth := 4, kl := [], res := [.tmp 4], body := B160 }

def B161 : AC := (.seq (.reg [⟨some 2, .mov (.k (.b false)), none⟩])
 (.seq (.blk 0 (.seq (.reg [⟨some 4, .mov (.t 0), none⟩, ⟨some 5, .bin .leq (.k (.i .i32 0)) (.t 4), none⟩, ⟨some 6, .mov (.t 5), none⟩, ⟨some 7, .mov (.t 0), some (6, true)⟩,
 ⟨some 8, .bin .lss (.t 7) (.k (.i .i32 55296)), some (6, true)⟩,
 ⟨some 9, .pick (.t 6) (.t 8) (.k (.b false)), none⟩, ⟨some 3, .mov (.t 9), none⟩])
 (.cond (.t 3)
 (.seq (.reg [⟨some 2, .mov (.k (.b true)), none⟩])
 .ret)
 (.seq (.reg [⟨some 11, .mov (.t 0), none⟩, ⟨some 12, .bin .lss (.k (.i .i32 57343)) (.t 11), none⟩, ⟨some 13, .mov (.t 12), none⟩, ⟨some 14, .mov (.t 0), some (13, true)⟩,
 ⟨some 15, .bin .leq (.t 14) (.k (.i .i32 1114111)), some (13, true)⟩,
 ⟨some 16, .pick (.t 13) (.t 15) (.k (.b false)), none⟩, ⟨some 10, .mov (.t 16), none⟩])
 (.cond (.t 10)
 (.seq (.reg [⟨some 2, .mov (.k (.b true)), none⟩])
 .ret)
 .skip)))))
 (.seq (.reg [⟨some 2, .mov (.k (.b false)), none⟩])
 .ret)))
/-- unicode/utf8.ValidRune -/
def af161 : AFunc := { n := 17, depth := 5, kl := [], res := [.tmp 2], body := B161 }

def B162 : AC := (.seq (.reg [⟨some 2, .mov (.k (.b false)), none⟩])
 (.seq (.reg [⟨some 4, .mov (.t 0), none⟩, ⟨some 5, .call false 107 [(.t 4), (.k (.i .i64 1))], none⟩, ⟨some 3, .lalloc [(.i .i64 0), (.s []), (.i .i64 0)] [3, 11, 16], none⟩, ⟨none, .store 3 (.t 3) (.t 5), none⟩])
 (.seq (.reg [⟨some 6, .mov (.t 0), none⟩, ⟨some 7, .call false 76 [(.t 6)], none⟩, ⟨some 8, .fld false 0 1 (.t 7), none⟩, ⟨some 9, .bin .eql (.t 8) (.k (.i .i64 1)), none⟩, ⟨some 10, .mov (.t 9), none⟩, ⟨some 11, .faddr 0 (.t 3), some (10, true)⟩,
 ⟨some 12, .load false 1 (.t 11), some (10, true)⟩,
 ⟨some 13, .bin .eql (.t 12) (.k (.i .i64 4)), some (10, true)⟩,
 ⟨some 14, .pick (.t 10) (.t 13) (.k (.b false)), none⟩, ⟨some 15, .mov (.t 14), none⟩, ⟨some 16, .faddr 1 (.t 3), some (15, true)⟩,
 ⟨some 17, .load false 1 (.t 16), some (15, true)⟩,
 ⟨some 18, .bin .eql (.t 17) (.k (.s [61])), some (15, true)⟩,
 ⟨some 19, .pick (.t 15) (.t 18) (.k (.b false)), none⟩, ⟨some 2, .mov (.t 19), none⟩])
 .ret)))
/-- (*tidemark/lang.Source).field -/
def af162 : AFunc := { n := 20, depth := 5, kl := [(3, [3, 11, 16])], res := [.tmp 2], body := B162 }

def B163 : AC := (.seq (.reg [⟨some 2, .mov (.k (.s [])), none⟩, ⟨some 3, .mov (.k (.i .i64 0)), none⟩])
 (.seq (.seq (.reg [⟨some 4, .mov (.t 0), none⟩, ⟨some 5, .call false 76 [(.t 4)], none⟩, ⟨some 6, .fld false 0 1 (.t 5), none⟩, ⟨some 7, .bin .neq (.t 6) (.k (.i .i64 2)), none⟩])
 (.cond (.t 7)
 (.seq (.reg [⟨some 2, .mov (.k (.s [])), none⟩, ⟨some 3, .mov (.k (.i .i64 192)), none⟩])
 .ret)
 .skip))
 (.seq (.reg [⟨some 8, .mov (.t 0), none⟩, ⟨some 9, .call false 78 [(.t 8)], none⟩, ⟨some 10, .fld false 1 1 (.t 9), none⟩, ⟨some 2, .mov (.t 10), none⟩, ⟨some 3, .mov (.k (.i .i64 0)), none⟩])
 .ret)))
/-- (*tidemark/lang.Source).text -/
def af163 : AFunc := { n := 11, depth := 4, kl := [], res := [.tmp 2, .tmp 3], body := B163 }

def B164 : AC := (.seq (.reg [⟨some 4, .lalloc [(.i .i64 0), (.s []), (.s []), (.sl [] 0 .nil)] [4], none⟩, ⟨some 5, .mov (.k (.i .i64 0)), none⟩])
 (.seq (.seq (.reg [⟨some 10, .mov (.t 0), none⟩, ⟨some 11, .call false 76 [(.t 10)], none⟩, ⟨some 12, .fld false 1 1 (.t 11), none⟩])
 (.blk 0 (.seq (.reg [⟨some 14, .bin .eql (.t 12) (.k (.s [97, 108, 108])), none⟩, ⟨some 13, .mov (.t 14), none⟩])
 (.cond (.t 13)
 (.seq (.reg [⟨some 15, .mov (.t 0), none⟩, ⟨some 16, .call false 78 [(.t 15)], none⟩])
 (.seq (.reg [⟨some 17, .build [(.i .i64 0), (.s []), (.s []), (.sl [] 0 .nil)] [], none⟩, ⟨none, .store 4 (.t 4) (.t 17), none⟩, ⟨some 5, .mov (.k (.i .i64 0)), none⟩])
 .ret))
 (.seq (.reg [⟨some 19, .bin .eql (.t 12) (.k (.s [112, 117, 116])), none⟩, ⟨some 18, .mov (.t 19), none⟩])
 (.cond (.t 18)
 (.seq (.reg [⟨some 20, .mov (.t 0), none⟩, ⟨some 21, .call false 78 [(.t 20)], none⟩])
 (.seq (.reg [⟨some 22, .build [(.i .i64 0), (.s []), (.s []), (.sl [] 0 .nil)] [(0, 1, (.k (.i .i64 3)))], none⟩, ⟨none, .store 4 (.t 4) (.t 22), none⟩, ⟨some 5, .mov (.k (.i .i64 0)), none⟩])
 .ret))
 (.seq (.reg [⟨some 24, .bin .eql (.t 12) (.k (.s [110, 111, 116])), none⟩, ⟨some 23, .mov (.t 24), none⟩])
 (.cond (.t 23)
 (.seq (.reg [⟨some 25, .mov (.t 0), none⟩, ⟨some 26, .call false 78 [(.t 25)], none⟩])
 (.seq (.reg [⟨some 28, .mov (.t 0), none⟩, ⟨some 29, .mov (.t 1), none⟩, ⟨some 30, .call false 178 [(.t 28), (.t 29)], none⟩, ⟨some 27, .mov (.t 30), none⟩, ⟨some 31, .ext (.t 27) 0, none⟩, ⟨some 32, .ext (.t 27) 1, none⟩, ⟨some 6, .lalloc [(.i .i64 0), (.s []), (.s []), (.sl [] 0 .nil)] [6], none⟩, ⟨none, .store 4 (.t 6) (.t 31), none⟩, ⟨some 7, .mov (.t 32), none⟩])
 (.seq (.reg [⟨some 33, .load true 4 (.t 6), none⟩, ⟨some 34, .bslice false 24 4 1 [(.i .i64 0), (.s []), (.s []), (.sl [] 0 .nil)] [(0, (.t 33))], none⟩, ⟨some 35, .build [(.i .i64 0), (.s []), (.s []), (.sl [] 0 .nil)] [(0, 1, (.k (.i .i64 4))), (3, 1, (.t 34))], none⟩, ⟨some 36, .mov (.t 7), none⟩, ⟨none, .store 4 (.t 4) (.t 35), none⟩, ⟨some 5, .mov (.t 36), none⟩])
 .ret)))
 (.seq (.reg [⟨some 38, .bin .eql (.t 12) (.k (.s [107, 101, 121])), none⟩, ⟨some 37, .mov (.t 38), none⟩])
 (.cond (.t 37)
 (.seq (.reg [⟨some 39, .mov (.t 0), none⟩, ⟨some 40, .call false 78 [(.t 39)], none⟩])
 (.seq (.seq (.reg [⟨some 41, .mov (.t 0), none⟩, ⟨some 42, .call false 80 [(.t 41), (.k (.i .i64 4)), (.k (.s [94]))], none⟩, ⟨some 43, .un .not (.t 42), none⟩])
 (.cond (.t 43)
 (.seq (.reg [⟨some 44, .build [(.i .i64 0), (.s []), (.s []), (.sl [] 0 .nil)] [], none⟩, ⟨none, .store 4 (.t 4) (.t 44), none⟩, ⟨some 5, .mov (.k (.i .i64 192)), none⟩])
 .ret)
 .skip))
 (.seq (.reg [⟨some 46, .mov (.t 0), none⟩, ⟨some 47, .call false 163 [(.t 46)], none⟩, ⟨some 45, .mov (.t 47), none⟩, ⟨some 48, .ext (.t 45) 0, none⟩, ⟨some 49, .ext (.t 45) 1, none⟩, ⟨some 8, .mov (.t 48), none⟩, ⟨some 9, .mov (.t 49), none⟩])
 (.seq (.reg [⟨some 50, .mov (.t 8), none⟩, ⟨some 51, .build [(.i .i64 0), (.s []), (.s []), (.sl [] 0 .nil)] [(0, 1, (.k (.i .i64 1))), (2, 1, (.t 50))], none⟩, ⟨some 52, .mov (.t 9), none⟩, ⟨none, .store 4 (.t 4) (.t 51), none⟩, ⟨some 5, .mov (.t 52), none⟩])
 .ret))))
 (.seq (.reg [⟨some 54, .bin .eql (.t 12) (.k (.s [97, 110, 121])), none⟩, ⟨some 53, .mov (.t 54), none⟩])
 (.cond (.t 53)
 (.seq (.reg [⟨some 55, .mov (.t 0), none⟩, ⟨some 56, .call false 78 [(.t 55)], none⟩])
 (.seq (.reg [⟨some 57, .mov (.t 0), none⟩, ⟨some 58, .mov (.t 1), none⟩, ⟨some 59, .call false 179 [(.t 57), (.k (.i .i64 6)), (.t 58)], none⟩, ⟨some 60, .ext (.t 59) 0, none⟩, ⟨some 61, .ext (.t 59) 1, none⟩, ⟨none, .store 4 (.t 4) (.t 60), none⟩, ⟨some 5, .mov (.t 61), none⟩])
 .ret))
 (.seq (.reg [⟨some 63, .bin .eql (.t 12) (.k (.s [101, 97, 99, 104])), none⟩, ⟨some 62, .mov (.t 63), none⟩])
 (.cond (.t 62)
 (.seq (.reg [⟨some 64, .mov (.t 0), none⟩, ⟨some 65, .call false 78 [(.t 64)], none⟩])
 (.seq (.reg [⟨some 66, .mov (.t 0), none⟩, ⟨some 67, .mov (.t 1), none⟩, ⟨some 68, .call false 179 [(.t 66), (.k (.i .i64 5)), (.t 67)], none⟩, ⟨some 69, .ext (.t 68) 0, none⟩, ⟨some 70, .ext (.t 68) 1, none⟩, ⟨none, .store 4 (.t 4) (.t 69), none⟩, ⟨some 5, .mov (.t 70), none⟩])
 .ret))
 .skip))))))))))))))
 (.seq (.reg [⟨some 71, .build [(.i .i64 0), (.s []), (.s []), (.sl [] 0 .nil)] [], none⟩, ⟨none, .store 4 (.t 4) (.t 71), none⟩, ⟨some 5, .mov (.k (.i .i64 192)), none⟩])
 .ret)))
/-- (*tidemark/lang.Source).word -/
def af164 : AFunc := { n := 72, depth := 7, kl := [(4, [4]), (6, [6])], res := [.cell 4 true 4, .tmp 5], body := B164 }

def L165_1 : AC := (.seq (.reg [⟨some 8, .next 7, none⟩, ⟨some 9, .ext (.t 8) 0, none⟩])
 (.seq (.cond (.t 9)
 .skip
 (.exit 0))
 (.blk 1 (.seq (.reg [⟨some 10, .ext (.t 8) 2, none⟩, ⟨some 5, .mov (.t 10), none⟩])
 (.reg [⟨some 11, .mov (.t 3), none⟩, ⟨some 12, .mov (.t 5), none⟩, ⟨some 13, .bslice false 21 1 1 [(.i .i32 0)] [(0, (.t 12))], none⟩, ⟨some 14, .app 21 1 (.t 11) (.t 13), none⟩, ⟨some 3, .mov (.t 14), none⟩])))))
def B165 : AC := (.seq (.reg [⟨some 2, .movnil 21, none⟩])
 (.seq (.reg [⟨some 3, .movnil 21, none⟩])
 (.seq (.seq (.reg [⟨some 6, .mov (.t 0), none⟩, ⟨some 7, .range (.t 6), none⟩])
 (.blk 0 (.loop L165_1)))
 (.seq (.reg [⟨some 15, .mov (.t 3), none⟩, ⟨some 2, .mov (.t 15), none⟩])
 .ret))))
/-- tidemark/tidemarkref02.Runes -/
def af165 : AFunc := { n := 16, depth := 5, kl := [], res := [.tmp 2], body := B165 }

def B166 : AC := (.seq (.reg [⟨some 2, .mov (.k (.b false)), none⟩])
 (.seq (.reg [⟨some 3, .mov (.t 0), none⟩, ⟨some 4, .bin .gtr (.t 3) (.k (.i .i32 31)), none⟩, ⟨some 5, .mov (.t 4), none⟩, ⟨some 6, .mov (.t 0), some (5, true)⟩,
 ⟨some 7, .bin .neq (.t 6) (.k (.i .i32 127)), some (5, true)⟩,
 ⟨some 8, .pick (.t 5) (.t 7) (.k (.b false)), none⟩, ⟨some 9, .mov (.t 8), none⟩, ⟨some 10, .mov (.t 0), some (9, true)⟩,
 ⟨some 11, .bin .neq (.t 10) (.k (.i .i32 65533)), some (9, true)⟩,
 ⟨some 12, .pick (.t 9) (.t 11) (.k (.b false)), none⟩, ⟨some 2, .mov (.t 12), none⟩])
 .ret))
/-- tidemark/tidemarkref02.plain -/
def af166 : AFunc := { n := 13, depth := 4, kl := [], res := [.tmp 2], body := B166 }

def L167_1 : AC := (.blk 1 (.seq (.reg [⟨some 11, .mov (.t 8), none⟩, ⟨some 12, .bin .mul (.k (.i .i64 2)) (.t 11), none⟩, ⟨some 13, .bin .add (.t 12) (.k (.i .i64 1)), none⟩, ⟨some 9, .mov (.t 13), none⟩])
 (.seq (.seq (.reg [⟨some 14, .mov (.t 9), none⟩, ⟨some 15, .mov (.t 2), none⟩, ⟨some 16, .bin .geq (.t 14) (.t 15), none⟩])
 (.cond (.t 16)
 (.exit 0)
 .skip))
 (.seq (.seq (.reg [⟨some 17, .mov (.t 9), none⟩, ⟨some 18, .bin .add (.t 17) (.k (.i .i64 1)), none⟩, ⟨some 19, .mov (.t 2), none⟩, ⟨some 20, .bin .lss (.t 18) (.t 19), none⟩, ⟨some 21, .mov (.t 20), none⟩, ⟨some 22, .mov (.t 0), some (21, true)⟩,
 ⟨some 23, .mov (.t 3), some (21, true)⟩,
 ⟨some 24, .mov (.t 9), some (21, true)⟩,
 ⟨some 25, .bin .add (.t 23) (.t 24), some (21, true)⟩,
 ⟨some 26, .iaddr (.slice 1) (.t 22) (.t 25), some (21, true)⟩,
 ⟨some 27, .load false 1 (.t 26), some (21, true)⟩,
 ⟨some 28, .mov (.t 0), some (21, true)⟩,
 ⟨some 29, .mov (.t 3), some (21, true)⟩,
 ⟨some 30, .mov (.t 9), some (21, true)⟩,
 ⟨some 31, .bin .add (.t 29) (.t 30), some (21, true)⟩,
 ⟨some 32, .bin .add (.t 31) (.k (.i .i64 1)), some (21, true)⟩,
 ⟨some 33, .iaddr (.slice 1) (.t 28) (.t 32), some (21, true)⟩,
 ⟨some 34, .load false 1 (.t 33), some (21, true)⟩,
 ⟨some 35, .call true 148 [(.t 27), (.t 34)], some (21, true)⟩,
 ⟨some 36, .pick (.t 21) (.t 35) (.k (.b false)), none⟩])
 (.cond (.t 36)
 (.reg [⟨some 37, .mov (.t 9), none⟩, ⟨some 38, .bin .add (.t 37) (.k (.i .i64 1)), none⟩, ⟨some 9, .mov (.t 38), none⟩])
 .skip))
 (.seq (.seq (.reg [⟨some 39, .mov (.t 0), none⟩, ⟨some 40, .mov (.t 3), none⟩, ⟨some 41, .mov (.t 8), none⟩, ⟨some 42, .bin .add (.t 40) (.t 41), none⟩, ⟨some 43, .iaddr (.slice 1) (.t 39) (.t 42), none⟩, ⟨some 44, .load false 1 (.t 43), none⟩, ⟨some 45, .mov (.t 0), none⟩, ⟨some 46, .mov (.t 3), none⟩, ⟨some 47, .mov (.t 9), none⟩, ⟨some 48, .bin .add (.t 46) (.t 47), none⟩, ⟨some 49, .iaddr (.slice 1) (.t 45) (.t 48), none⟩, ⟨some 50, .load false 1 (.t 49), none⟩, ⟨some 51, .call true 148 [(.t 44), (.t 50)], none⟩, ⟨some 52, .un .not (.t 51), none⟩])
 (.cond (.t 52)
 .ret
 .skip))
 (.seq (.reg [⟨some 53, .mov (.t 0), none⟩, ⟨some 54, .mov (.t 3), none⟩, ⟨some 55, .mov (.t 8), none⟩, ⟨some 56, .bin .add (.t 54) (.t 55), none⟩, ⟨some 57, .mov (.t 0), none⟩, ⟨some 58, .mov (.t 3), none⟩, ⟨some 59, .mov (.t 9), none⟩, ⟨some 60, .bin .add (.t 58) (.t 59), none⟩, ⟨some 61, .mov (.t 0), none⟩, ⟨some 62, .mov (.t 3), none⟩, ⟨some 63, .mov (.t 9), none⟩, ⟨some 64, .bin .add (.t 62) (.t 63), none⟩, ⟨some 65, .iaddr (.slice 1) (.t 61) (.t 64), none⟩, ⟨some 66, .load false 1 (.t 65), none⟩, ⟨some 67, .mov (.t 0), none⟩, ⟨some 68, .mov (.t 3), none⟩, ⟨some 69, .mov (.t 8), none⟩, ⟨some 70, .bin .add (.t 68) (.t 69), none⟩, ⟨some 71, .iaddr (.slice 1) (.t 67) (.t 70), none⟩, ⟨some 72, .load false 1 (.t 71), none⟩, ⟨some 73, .iaddr (.slice 1) (.t 53) (.t 56), none⟩, ⟨none, .store 1 (.t 73) (.t 66), none⟩, ⟨some 74, .iaddr (.slice 1) (.t 57) (.t 60), none⟩, ⟨none, .store 1 (.t 74) (.t 72), none⟩])
 (.reg [⟨some 75, .mov (.t 9), none⟩, ⟨some 8, .mov (.t 75), none⟩])))))))
def B167 : AC := (.seq (.reg [⟨some 10, .mov (.t 1), none⟩, ⟨some 8, .mov (.t 10), none⟩])
 (.blk 0 (.loop L167_1)))
/-- slices.siftDownOrdered[string] -/
def af167 : AFunc := { n := 76, depth := 7, kl := [], res := [], body := B167 }

def B168 : AC := (.seq (.reg [⟨some 2, .mov (.k (.i .u64 0)), none⟩])
 (.seq (.reg [⟨some 3, .mov (.t 0), none⟩, ⟨some 4, .conv (.int .u64) (.t 3), none⟩, ⟨some 5, .call true 117 [(.t 4)], none⟩, ⟨some 6, .bin .shl (.k (.i .u64 1)) (.t 5), none⟩, ⟨some 2, .mov (.t 6), none⟩])
 .ret))
/-- slices.nextPowerOfTwo -/
def af168 : AFunc := { n := 7, depth := 3, kl := [], res := [.tmp 2], body := B168 }

def B169 : AC := (.seq (.reg [⟨some 2, .mov (.k (.i .u64 0)), none⟩])
 (.seq (.reg [⟨some 3, .mov (.t 0), none⟩, ⟨some 4, .nilck (.t 3), none⟩, ⟨some 5, .load false 1 (.t 4), none⟩, ⟨some 6, .mov (.t 0), none⟩, ⟨some 7, .nilck (.t 6), none⟩, ⟨some 8, .load false 1 (.t 7), none⟩, ⟨some 9, .bin .shl (.t 8) (.k (.i .u64 13)), none⟩, ⟨some 10, .bin .xor (.t 5) (.t 9), none⟩, ⟨some 11, .nilck (.t 3), none⟩, ⟨none, .store 1 (.t 11) (.t 10), none⟩])
 (.seq (.reg [⟨some 12, .mov (.t 0), none⟩, ⟨some 13, .nilck (.t 12), none⟩, ⟨some 14, .load false 1 (.t 13), none⟩, ⟨some 15, .mov (.t 0), none⟩, ⟨some 16, .nilck (.t 15), none⟩, ⟨some 17, .load false 1 (.t 16), none⟩, ⟨some 18, .bin .shr (.t 17) (.k (.i .u64 7)), none⟩, ⟨some 19, .bin .xor (.t 14) (.t 18), none⟩, ⟨some 20, .nilck (.t 12), none⟩, ⟨none, .store 1 (.t 20) (.t 19), none⟩])
 (.seq (.reg [⟨some 21, .mov (.t 0), none⟩, ⟨some 22, .nilck (.t 21), none⟩, ⟨some 23, .load false 1 (.t 22), none⟩, ⟨some 24, .mov (.t 0), none⟩, ⟨some 25, .nilck (.t 24), none⟩, ⟨some 26, .load false 1 (.t 25), none⟩, ⟨some 27, .bin .shl (.t 26) (.k (.i .u64 17)), none⟩, ⟨some 28, .bin .xor (.t 23) (.t 27), none⟩, ⟨some 29, .nilck (.t 21), none⟩, ⟨none, .store 1 (.t 29) (.t 28), none⟩])
 (.seq (.reg [⟨some 30, .mov (.t 0), none⟩, ⟨some 31, .nilck (.t 30), none⟩, ⟨some 32, .load false 1 (.t 31), none⟩, ⟨some 2, .mov (.t 32), none⟩])
 .ret)))))
/-- (*slices.xorshift).Next -/
def af169 : AFunc := { n := 33, depth := 6, kl := [], res := [.tmp 2], body := B169 }

def B170 : AC := (.seq (.reg [⟨some 6, .mov (.k (.i .i64 0)), none⟩])
 (.seq (.reg [⟨some 7, .mov (.t 0), none⟩, ⟨some 8, .mov (.t 1), none⟩, ⟨some 9, .bin .sub (.t 8) (.k (.i .i64 1)), none⟩, ⟨some 10, .mov (.t 1), none⟩, ⟨some 11, .mov (.t 1), none⟩, ⟨some 12, .bin .add (.t 11) (.k (.i .i64 1)), none⟩, ⟨some 13, .mov (.t 2), none⟩, ⟨some 14, .call false 171 [(.t 7), (.t 9), (.t 10), (.t 12), (.t 13)], none⟩, ⟨some 6, .mov (.t 14), none⟩])
 .ret))
/-- slices.medianAdjacentOrdered[string] -/
def af170 : AFunc := { n := 15, depth := 4, kl := [], res := [.tmp 6], body := B170 }

def B171 : AC := (.seq (.reg [⟨some 10, .mov (.k (.i .i64 0)), none⟩])
 (.seq (.reg [⟨some 12, .mov (.t 0), none⟩, ⟨some 13, .mov (.t 1), none⟩, ⟨some 14, .mov (.t 2), none⟩, ⟨some 15, .mov (.t 4), none⟩, ⟨some 16, .call false 180 [(.t 12), (.t 13), (.t 14), (.t 15)], none⟩, ⟨some 11, .mov (.t 16), none⟩, ⟨some 17, .ext (.t 11) 0, none⟩, ⟨some 18, .ext (.t 11) 1, none⟩, ⟨some 1, .mov (.t 17), none⟩, ⟨some 2, .mov (.t 18), none⟩])
 (.seq (.reg [⟨some 20, .mov (.t 0), none⟩, ⟨some 21, .mov (.t 2), none⟩, ⟨some 22, .mov (.t 3), none⟩, ⟨some 23, .mov (.t 4), none⟩, ⟨some 24, .call false 180 [(.t 20), (.t 21), (.t 22), (.t 23)], none⟩, ⟨some 19, .mov (.t 24), none⟩, ⟨some 25, .ext (.t 19) 0, none⟩, ⟨some 26, .ext (.t 19) 1, none⟩, ⟨some 2, .mov (.t 25), none⟩, ⟨some 3, .mov (.t 26), none⟩])
 (.seq (.reg [⟨some 28, .mov (.t 0), none⟩, ⟨some 29, .mov (.t 1), none⟩, ⟨some 30, .mov (.t 2), none⟩, ⟨some 31, .mov (.t 4), none⟩, ⟨some 32, .call false 180 [(.t 28), (.t 29), (.t 30), (.t 31)], none⟩, ⟨some 27, .mov (.t 32), none⟩, ⟨some 33, .ext (.t 27) 0, none⟩, ⟨some 34, .ext (.t 27) 1, none⟩, ⟨some 1, .mov (.t 33), none⟩, ⟨some 2, .mov (.t 34), none⟩])
 (.seq (.reg [⟨some 35, .mov (.t 2), none⟩, ⟨some 10, .mov (.t 35), none⟩])
 .ret)))))
/-- slices.medianOrdered[string] -/
def af171 : AFunc := { n := 36, depth := 6, kl := [], res := [.tmp 10], body := B171 }

def B172 : AC := (.seq (.reg [⟨some 2, .mov (.k (.b false)), none⟩])
 (.seq (.reg [⟨some 3, .mov (.t 0), none⟩, ⟨some 4, .mov (.t 0), none⟩, ⟨some 5, .bin .neq (.t 3) (.t 4), none⟩, ⟨some 2, .mov (.t 5), none⟩])
 .ret))
/-- cmp.isNaN[string] -/
def af172 : AFunc := { n := 6, depth := 3, kl := [], res := [.tmp 2], body := B172 }

def L173_1 : AC := (.seq (.seq (.reg [⟨some 11, .mov (.t 10), none⟩, ⟨some 12, .mov (.t 3), none⟩, ⟨some 13, .bin .lss (.t 11) (.t 12), none⟩])
 (.cond (.t 13)
 .skip
 (.exit 0)))
 (.seq (.blk 1 (.reg [⟨some 16, .mov (.t 0), none⟩, ⟨some 17, .mov (.t 1), none⟩, ⟨some 18, .mov (.t 10), none⟩, ⟨some 19, .bin .add (.t 17) (.t 18), none⟩, ⟨some 20, .mov (.t 0), none⟩, ⟨some 21, .mov (.t 2), none⟩, ⟨some 22, .mov (.t 10), none⟩, ⟨some 23, .bin .add (.t 21) (.t 22), none⟩, ⟨some 24, .mov (.t 0), none⟩, ⟨some 25, .mov (.t 2), none⟩, ⟨some 26, .mov (.t 10), none⟩, ⟨some 27, .bin .add (.t 25) (.t 26), none⟩, ⟨some 28, .iaddr (.slice 2) (.t 24) (.t 27), none⟩, ⟨some 29, .load true 2 (.t 28), none⟩, ⟨some 30, .mov (.t 0), none⟩, ⟨some 31, .mov (.t 1), none⟩, ⟨some 32, .mov (.t 10), none⟩, ⟨some 33, .bin .add (.t 31) (.t 32), none⟩, ⟨some 34, .iaddr (.slice 2) (.t 30) (.t 33), none⟩, ⟨some 35, .load true 2 (.t 34), none⟩, ⟨some 36, .iaddr (.slice 2) (.t 16) (.t 19), none⟩, ⟨none, .store 2 (.t 36) (.t 29), none⟩, ⟨some 37, .iaddr (.slice 2) (.t 20) (.t 23), none⟩, ⟨none, .store 2 (.t 37) (.t 35), none⟩]))
 (.reg [⟨some 14, .mov (.t 10), none⟩, ⟨some 15, .bin .add (.t 14) (.k (.i .i64 1)), none⟩, ⟨some 10, .mov (.t 15), none⟩])))
def B173 : AC := (.seq (.reg [⟨some 10, .mov (.k (.i .i64 0)), none⟩])
 (.blk 0 (.loop L173_1)))
/-- slices.swapRangeCmpFunc[tidemark/api.Pair] -/
def af173 : AFunc := { n := 38, depth := 6, kl := [], res := [], body := B173 }

def B174 : AC := (.seq (.reg [⟨some 4, .movnil 5, none⟩])
 (.seq (.reg [⟨some 6, .mov (.t 1), none⟩, ⟨some 7, .conv (.int .u32) (.t 6), none⟩, ⟨some 5, .mov (.t 7), none⟩])
 (.blk 0 (.seq (.reg [⟨some 12, .mov (.t 5), none⟩, ⟨some 13, .bin .leq (.t 12) (.k (.i .u32 2047)), none⟩, ⟨some 11, .mov (.t 13), none⟩])
 (.cond (.t 11)
 (.seq (.reg [⟨some 14, .mov (.t 0), none⟩, ⟨some 15, .mov (.t 1), none⟩, ⟨some 16, .bin .shr (.t 15) (.k (.i .u64 6)), none⟩, ⟨some 17, .conv (.int .u8) (.t 16), none⟩, ⟨some 18, .bin .or (.k (.i .u8 192)) (.t 17), none⟩, ⟨some 19, .mov (.t 1), none⟩, ⟨some 20, .conv (.int .u8) (.t 19), none⟩, ⟨some 21, .bin .and (.t 20) (.k (.i .u8 63)), none⟩, ⟨some 22, .bin .or (.k (.i .u8 128)) (.t 21), none⟩, ⟨some 23, .bslice false 5 1 2 [(.i .u8 0)] [(0, (.t 18)), (1, (.t 22))], none⟩, ⟨some 24, .app 5 1 (.t 14) (.t 23), none⟩, ⟨some 4, .mov (.t 24), none⟩])
 .ret)
 (.seq (.seq (.reg [⟨some 26, .mov (.t 5), none⟩, ⟨some 27, .bin .lss (.t 26) (.k (.i .u32 55296)), none⟩, ⟨some 25, .mov (.t 27), none⟩])
 (.cond (.t 25)
 .skip
 (.reg [⟨some 28, .mov (.t 5), none⟩, ⟨some 29, .bin .lss (.k (.i .u32 57343)) (.t 28), none⟩, ⟨some 30, .mov (.t 29), none⟩, ⟨some 31, .mov (.t 5), some (30, true)⟩,
 ⟨some 32, .bin .leq (.t 31) (.k (.i .u32 65535)), some (30, true)⟩,
 ⟨some 33, .pick (.t 30) (.t 32) (.k (.b false)), none⟩, ⟨some 25, .mov (.t 33), none⟩])))
 (.cond (.t 25)
 (.seq (.reg [⟨some 34, .mov (.t 0), none⟩, ⟨some 35, .mov (.t 1), none⟩, ⟨some 36, .bin .shr (.t 35) (.k (.i .u64 12)), none⟩, ⟨some 37, .conv (.int .u8) (.t 36), none⟩, ⟨some 38, .bin .or (.k (.i .u8 224)) (.t 37), none⟩, ⟨some 39, .mov (.t 1), none⟩, ⟨some 40, .bin .shr (.t 39) (.k (.i .u64 6)), none⟩, ⟨some 41, .conv (.int .u8) (.t 40), none⟩, ⟨some 42, .bin .and (.t 41) (.k (.i .u8 63)), none⟩, ⟨some 43, .bin .or (.k (.i .u8 128)) (.t 42), none⟩, ⟨some 44, .mov (.t 1), none⟩, ⟨some 45, .conv (.int .u8) (.t 44), none⟩, ⟨some 46, .bin .and (.t 45) (.k (.i .u8 63)), none⟩, ⟨some 47, .bin .or (.k (.i .u8 128)) (.t 46), none⟩, ⟨some 48, .bslice false 5 1 3 [(.i .u8 0)] [(0, (.t 38)), (1, (.t 43)), (2, (.t 47))], none⟩, ⟨some 49, .app 5 1 (.t 34) (.t 48), none⟩, ⟨some 4, .mov (.t 49), none⟩])
 .ret)
 (.seq (.reg [⟨some 51, .mov (.t 5), none⟩, ⟨some 52, .bin .gtr (.t 51) (.k (.i .u32 65535)), none⟩, ⟨some 53, .mov (.t 52), none⟩, ⟨some 54, .mov (.t 5), some (53, true)⟩,
 ⟨some 55, .bin .leq (.t 54) (.k (.i .u32 1114111)), some (53, true)⟩,
 ⟨some 56, .pick (.t 53) (.t 55) (.k (.b false)), none⟩, ⟨some 50, .mov (.t 56), none⟩])
 (.cond (.t 50)
 (.seq (.reg [⟨some 57, .mov (.t 0), none⟩, ⟨some 58, .mov (.t 1), none⟩, ⟨some 59, .bin .shr (.t 58) (.k (.i .u64 18)), none⟩, ⟨some 60, .conv (.int .u8) (.t 59), none⟩, ⟨some 61, .bin .or (.k (.i .u8 240)) (.t 60), none⟩, ⟨some 62, .mov (.t 1), none⟩, ⟨some 63, .bin .shr (.t 62) (.k (.i .u64 12)), none⟩, ⟨some 64, .conv (.int .u8) (.t 63), none⟩, ⟨some 65, .bin .and (.t 64) (.k (.i .u8 63)), none⟩, ⟨some 66, .bin .or (.k (.i .u8 128)) (.t 65), none⟩, ⟨some 67, .mov (.t 1), none⟩, ⟨some 68, .bin .shr (.t 67) (.k (.i .u64 6)), none⟩, ⟨some 69, .conv (.int .u8) (.t 68), none⟩, ⟨some 70, .bin .and (.t 69) (.k (.i .u8 63)), none⟩, ⟨some 71, .bin .or (.k (.i .u8 128)) (.t 70), none⟩, ⟨some 72, .mov (.t 1), none⟩, ⟨some 73, .conv (.int .u8) (.t 72), none⟩, ⟨some 74, .bin .and (.t 73) (.k (.i .u8 63)), none⟩, ⟨some 75, .bin .or (.k (.i .u8 128)) (.t 74), none⟩, ⟨some 76, .bslice false 5 1 4 [(.i .u8 0)] [(0, (.t 61)), (1, (.t 66)), (2, (.t 71)), (3, (.t 75))], none⟩, ⟨some 77, .app 5 1 (.t 57) (.t 76), none⟩, ⟨some 4, .mov (.t 77), none⟩])
 .ret)
 (.seq (.reg [⟨some 8, .mov (.t 0), none⟩, ⟨some 9, .bslice false 5 1 3 [(.i .u8 0)] [(0, (.k (.i .u8 239))), (1, (.k (.i .u8 191))), (2, (.k (.i .u8 189)))], none⟩, ⟨some 10, .app 5 1 (.t 8) (.t 9), none⟩, ⟨some 4, .mov (.t 10), none⟩])
 .ret))))))))))
/-- unicode/utf8.appendRuneNonASCII -/
def af174 : AFunc := { n := 78, depth := 7, kl := [], res := [.tmp 4], body := B174 }

def B177 : AC := (.seq (.reg [⟨some 4, .mov (.k (.i .i64 0)), none⟩])
 (.seq (.reg [⟨some 5, .mov (.t 0), none⟩, ⟨some 6, .mov (.t 1), none⟩, ⟨some 7, .call true 181 [(.t 5), (.t 6)], none⟩, ⟨some 4, .mov (.t 7), none⟩])
 .ret))
/-- internal/stringslite.IndexByte -/
def af177 : AFunc := { n := 8, depth := 4, kl := [], res := [.tmp 4], body := B177 }

def B178 : AC := (.seq (.reg [⟨some 4, .lalloc [(.i .i64 0), (.s []), (.s []), (.sl [] 0 .nil)] [4], none⟩, ⟨some 5, .mov (.k (.i .i64 0)), none⟩])
 (.seq (.seq (.reg [⟨some 6, .mov (.t 1), none⟩, ⟨some 7, .bin .geq (.t 6) (.k (.i .i64 40)), none⟩])
 (.cond (.t 7)
 (.seq (.reg [⟨some 8, .build [(.i .i64 0), (.s []), (.s []), (.sl [] 0 .nil)] [], none⟩, ⟨none, .store 4 (.t 4) (.t 8), none⟩, ⟨some 5, .mov (.k (.i .i64 51)), none⟩])
 .ret)
 .skip))
 (.seq (.reg [⟨some 9, .mov (.t 0), none⟩, ⟨some 10, .mov (.t 1), none⟩, ⟨some 11, .bin .add (.t 10) (.k (.i .i64 1)), none⟩, ⟨some 12, .call false 137 [(.t 9), (.t 11)], none⟩, ⟨some 13, .ext (.t 12) 0, none⟩, ⟨some 14, .ext (.t 12) 1, none⟩, ⟨none, .store 4 (.t 4) (.t 13), none⟩, ⟨some 5, .mov (.t 14), none⟩])
 .ret)))
/-- (*tidemark/lang.Source).nested -/
def af178 : AFunc := { n := 15, depth := 4, kl := [(4, [4])], res := [.cell 4 true 4, .tmp 5], body := B178 }

def L179_1 : AC := (.blk 1 (.seq (.reg [⟨some 21, .mov (.t 0), none⟩, ⟨some 22, .mov (.t 2), none⟩, ⟨some 23, .bin .add (.t 22) (.k (.i .i64 1)), none⟩, ⟨some 24, .call false 109 [(.t 21), (.k (.i .i64 1)), (.t 23)], none⟩, ⟨some 20, .mov (.t 24), none⟩, ⟨some 25, .ext (.t 20) 0, none⟩, ⟨some 26, .ext (.t 20) 1, none⟩, ⟨some 9, .lalloc [(.i .i64 0), (.s []), (.s []), (.sl [] 0 .nil)] [9], none⟩, ⟨none, .store 4 (.t 9) (.t 25), none⟩, ⟨some 10, .mov (.t 26), none⟩])
 (.seq (.seq (.reg [⟨some 27, .mov (.t 10), none⟩, ⟨some 28, .bin .neq (.t 27) (.k (.i .i64 0)), none⟩])
 (.cond (.t 28)
 (.seq (.reg [⟨some 29, .load true 4 (.t 8), none⟩, ⟨some 30, .mov (.t 10), none⟩, ⟨none, .store 4 (.t 6) (.t 29), none⟩, ⟨some 7, .mov (.t 30), none⟩])
 .ret)
 .skip))
 (.seq (.reg [⟨some 31, .faddr 3 (.t 8), none⟩, ⟨some 32, .load false 1 (.t 31), none⟩, ⟨some 33, .load true 4 (.t 9), none⟩, ⟨some 34, .bslice false 24 4 1 [(.i .i64 0), (.s []), (.s []), (.sl [] 0 .nil)] [(0, (.t 33))], none⟩, ⟨some 35, .app 24 4 (.t 32) (.t 34), none⟩, ⟨some 36, .faddr 3 (.t 8), none⟩, ⟨none, .store 1 (.t 36) (.t 35), none⟩])
 (.seq (.seq (.reg [⟨some 37, .mov (.t 0), none⟩, ⟨some 38, .call false 80 [(.t 37), (.k (.i .i64 4)), (.k (.s [41]))], none⟩])
 (.cond (.t 38)
 (.seq (.reg [⟨some 39, .load true 4 (.t 8), none⟩, ⟨none, .store 4 (.t 6) (.t 39), none⟩, ⟨some 7, .mov (.k (.i .i64 0)), none⟩])
 .ret)
 .skip))
 (.seq (.reg [⟨some 40, .mov (.t 0), none⟩, ⟨some 41, .call false 80 [(.t 40), (.k (.i .i64 4)), (.k (.s [44]))], none⟩, ⟨some 42, .un .not (.t 41), none⟩])
 (.cond (.t 42)
 (.seq (.reg [⟨some 43, .load true 4 (.t 8), none⟩, ⟨none, .store 4 (.t 6) (.t 43), none⟩, ⟨some 7, .mov (.k (.i .i64 192)), none⟩])
 .ret)
 .skip)))))))
def B179 : AC := (.seq (.reg [⟨some 6, .lalloc [(.i .i64 0), (.s []), (.s []), (.sl [] 0 .nil)] [6], none⟩, ⟨some 7, .mov (.k (.i .i64 0)), none⟩])
 (.seq (.reg [⟨some 11, .mov (.t 1), none⟩, ⟨some 12, .build [(.i .i64 0), (.s []), (.s []), (.sl [] 0 .nil)] [(0, 1, (.t 11))], none⟩, ⟨some 8, .lalloc [(.i .i64 0), (.s []), (.s []), (.sl [] 0 .nil)] [8, 31, 36], none⟩, ⟨none, .store 4 (.t 8) (.t 12), none⟩])
 (.seq (.seq (.reg [⟨some 13, .mov (.t 0), none⟩, ⟨some 14, .call false 80 [(.t 13), (.k (.i .i64 4)), (.k (.s [40]))], none⟩, ⟨some 15, .un .not (.t 14), none⟩])
 (.cond (.t 15)
 (.seq (.reg [⟨some 16, .load true 4 (.t 8), none⟩, ⟨none, .store 4 (.t 6) (.t 16), none⟩, ⟨some 7, .mov (.k (.i .i64 192)), none⟩])
 .ret)
 .skip))
 (.seq (.seq (.reg [⟨some 17, .mov (.t 0), none⟩, ⟨some 18, .call false 80 [(.t 17), (.k (.i .i64 4)), (.k (.s [41]))], none⟩])
 (.cond (.t 18)
 (.seq (.reg [⟨some 19, .load true 4 (.t 8), none⟩, ⟨none, .store 4 (.t 6) (.t 19), none⟩, ⟨some 7, .mov (.k (.i .i64 0)), none⟩])
 .ret)
 .skip))
 (.blk 0 (.loop L179_1))))))
/-- (*tidemark/lang.Source).list -/
def af179 : AFunc := { n := 44, depth := 6, kl := [(6, [6]), (8, [8, 31, 36]), (9, [9])], res := [.cell 6 true 4, .tmp 7], body := B179 }

def B180 : AC := (.seq (.reg [⟨some 8, .mov (.k (.i .i64 0)), none⟩, ⟨some 9, .mov (.k (.i .i64 0)), none⟩])
 (.seq (.seq (.reg [⟨some 10, .mov (.t 0), none⟩, ⟨some 11, .mov (.t 2), none⟩, ⟨some 12, .iaddr (.slice 1) (.t 10) (.t 11), none⟩, ⟨some 13, .load false 1 (.t 12), none⟩, ⟨some 14, .mov (.t 0), none⟩, ⟨some 15, .mov (.t 1), none⟩, ⟨some 16, .iaddr (.slice 1) (.t 14) (.t 15), none⟩, ⟨some 17, .load false 1 (.t 16), none⟩, ⟨some 18, .call true 148 [(.t 13), (.t 17)], none⟩])
 (.cond (.t 18)
 (.seq (.reg [⟨some 19, .mov (.t 3), none⟩, ⟨some 20, .nilck (.t 19), none⟩, ⟨some 21, .load false 1 (.t 20), none⟩, ⟨some 22, .bin .add (.t 21) (.k (.i .i64 1)), none⟩, ⟨some 23, .nilck (.t 19), none⟩, ⟨none, .store 1 (.t 23) (.t 22), none⟩])
 (.seq (.reg [⟨some 24, .mov (.t 2), none⟩, ⟨some 25, .mov (.t 1), none⟩, ⟨some 8, .mov (.t 24), none⟩, ⟨some 9, .mov (.t 25), none⟩])
 .ret))
 .skip))
 (.seq (.reg [⟨some 26, .mov (.t 1), none⟩, ⟨some 27, .mov (.t 2), none⟩, ⟨some 8, .mov (.t 26), none⟩, ⟨some 9, .mov (.t 27), none⟩])
 .ret)))
/-- slices.order2Ordered[string] -/
def af180 : AFunc := { n := 28, depth := 5, kl := [], res := [.tmp 8, .tmp 9], body := B180 }

def B199 : AC := (.seq (.reg [⟨some 6, .mov (.k (.sl [] 0 .nil)), none⟩])
 (.seq (.seq (.reg [⟨some 7, .mov (.t 0), none⟩, ⟨some 8, .call false 202 [(.t 7)], none⟩])
 (.cond (.t 8)
 (.seq (.reg [⟨some 6, .mov (.k (.sl [] 0 .nil)), none⟩])
 .ret)
 .skip))
 (.seq (.reg [⟨some 9, .mov (.t 0), none⟩, ⟨some 10, .nilck (.t 9), none⟩, ⟨some 11, .faddr 0 (.t 10), none⟩, ⟨some 12, .faddr 0 (.t 11), none⟩, ⟨some 13, .load false 1 (.t 12), none⟩, ⟨some 14, .mov (.t 1), none⟩, ⟨some 15, .mov (.t 2), none⟩, ⟨some 16, .call false 203 [(.t 13), (.t 14), (.t 15)], none⟩, ⟨some 6, .mov (.t 16), none⟩])
 .ret)))
/-- (*tidemark/machine.Machine).Keys -/
def af199 : AFunc := { n := 17, depth := 5, kl := [], res := [.tmp 6], body := B199 }

def B200 : AC := (.seq (.reg [⟨some 4, .mov (.k (.sl [] 0 .nil)), none⟩, ⟨some 5, .mov (.k (.i .i64 0)), none⟩])
 (.seq (.seq (.reg [⟨some 6, .mov (.t 0), none⟩, ⟨some 7, .call false 202 [(.t 6)], none⟩])
 (.cond (.t 7)
 (.seq (.reg [⟨some 4, .mov (.k (.sl [] 0 .nil)), none⟩, ⟨some 5, .mov (.k (.i .i64 6)), none⟩])
 .ret)
 .skip))
 (.seq (.reg [⟨some 8, .mov (.t 0), none⟩, ⟨some 9, .nilck (.t 8), none⟩, ⟨some 10, .faddr 0 (.t 9), none⟩, ⟨some 11, .faddr 1 (.t 10), none⟩, ⟨some 12, .load false 1 (.t 11), none⟩, ⟨some 13, .mov (.t 1), none⟩, ⟨some 14, .call false 204 [(.t 12), (.t 13)], none⟩, ⟨some 15, .ext (.t 14) 0, none⟩, ⟨some 16, .ext (.t 14) 1, none⟩, ⟨some 4, .mov (.t 15), none⟩, ⟨some 5, .mov (.t 16), none⟩])
 .ret)))
/-- (*tidemark/machine.Machine).Rows -/
def af200 : AFunc := { n := 17, depth := 5, kl := [], res := [.tmp 4, .tmp 5], body := B200 }

def B201 : AC := (.seq (.reg [⟨some 2, .mov (.k (.sl [] 0 .nil)), none⟩])
 (.seq (.seq (.reg [⟨some 3, .mov (.t 0), none⟩, ⟨some 4, .call false 202 [(.t 3)], none⟩])
 (.cond (.t 4)
 (.seq (.reg [⟨some 2, .mov (.k (.sl [] 0 .nil)), none⟩])
 .ret)
 .skip))
 (.seq (.reg [⟨some 5, .mov (.t 0), none⟩, ⟨some 6, .nilck (.t 5), none⟩, ⟨some 7, .faddr 0 (.t 6), none⟩, ⟨some 8, .faddr 1 (.t 7), none⟩, ⟨some 9, .load false 1 (.t 8), none⟩, ⟨some 10, .call false 205 [(.t 9)], none⟩, ⟨some 2, .mov (.t 10), none⟩])
 .ret)))
/-- (*tidemark/machine.Machine).Views -/
def af201 : AFunc := { n := 11, depth := 4, kl := [], res := [.tmp 2], body := B201 }

def B202 : AC := (.seq (.reg [⟨some 2, .mov (.k (.b false)), none⟩])
 (.seq (.reg [⟨some 3, .mov (.t 0), none⟩, ⟨some 4, .eq false .ptr (.t 3) (.k .nilp), none⟩, ⟨some 5, .mov (.t 4), none⟩, ⟨some 6, .mov (.t 0), some (5, false)⟩,
 ⟨some 7, .nilck (.t 6), some (5, false)⟩,
 ⟨some 8, .faddr 0 (.t 7), some (5, false)⟩,
 ⟨some 9, .faddr 0 (.t 8), some (5, false)⟩,
 ⟨some 10, .load false 1 (.t 9), some (5, false)⟩,
 ⟨some 11, .eq false .ptr (.t 10) (.k .nilp), some (5, false)⟩,
 ⟨some 12, .pick (.t 5) (.k (.b true)) (.t 11), none⟩, ⟨some 2, .mov (.t 12), none⟩])
 .ret))
/-- (*tidemark/machine.Machine).dead -/
def af202 : AFunc := { n := 13, depth := 4, kl := [], res := [.tmp 2], body := B202 }

def L203_1 : AC := (.seq (.reg [⟨some 28, .bin .lss (.t 27) (.t 26), none⟩])
 (.seq (.cond (.t 28)
 .skip
 (.exit 0))
 (.seq (.blk 1 (.seq (.reg [⟨some 29, .iaddr (.slice 2) (.t 25) (.t 27), none⟩, ⟨some 30, .load true 2 (.t 29), none⟩, ⟨some 9, .lalloc [(.s []), (.s [])] [9, 32, 34], none⟩, ⟨none, .store 2 (.t 9) (.t 30), none⟩])
 (.reg [⟨some 31, .mov (.t 7), none⟩, ⟨some 32, .faddr 0 (.t 9), none⟩, ⟨some 33, .load false 1 (.t 32), none⟩, ⟨some 34, .faddr 1 (.t 9), none⟩, ⟨some 35, .load false 1 (.t 34), none⟩, ⟨some 36, .build [(.s []), (.b false), (.s [])] [(0, 1, (.t 33)), (1, 1, (.k (.b true))), (2, 1, (.t 35))], none⟩, ⟨some 37, .bslice false 118 3 1 [(.s []), (.b false), (.s [])] [(0, (.t 36))], none⟩, ⟨some 38, .app 118 3 (.t 31) (.t 37), none⟩, ⟨some 7, .mov (.t 38), none⟩])))
 (.reg [⟨some 39, .bin .add (.t 27) (.k (.i .i64 1)), none⟩, ⟨some 27, .mov (.t 39), none⟩]))))
def B203 : AC := (.seq (.reg [⟨some 6, .movnil 118, none⟩])
 (.seq (.reg [⟨some 7, .movnil 118, none⟩])
 (.seq (.seq (.reg [⟨some 10, .mov (.t 0), none⟩, ⟨some 11, .call false 206 [(.t 10)], none⟩, ⟨some 12, .un .not (.t 11), none⟩])
 (.cond (.t 12)
 (.seq (.reg [⟨some 13, .mov (.t 7), none⟩, ⟨some 6, .mov (.t 13), none⟩])
 .ret)
 .skip))
 (.seq (.seq (.regd [(⟨some 14, .mov (.t 0), none⟩, []),
      (⟨some 15, .nilck (.t 14), none⟩, []),
      (⟨some 16, .faddr 0 (.t 15), none⟩, []),
      (⟨some 17, .load false 1 (.t 16), none⟩, []),
      (⟨some 18, .mov (.t 1), none⟩, [0, 1, 2, 3]),
      (⟨some 19, .mov (.t 2), none⟩, [0, 1, 2, 3, 4]),
      (⟨some 20, .mov (.t 0), none⟩, [0, 1, 2, 3, 4, 5]),
      (⟨some 21, .nilck (.t 20), none⟩, [0, 1, 2, 3, 4, 5]),
      (⟨some 22, .faddr 0 (.t 21), none⟩, [0, 1, 2, 3, 4, 5]),
      (⟨some 23, .load false 1 (.t 22), none⟩, [0, 1, 2, 3, 4, 5]),
      (⟨some 24, .call false 208 [(.t 23)], none⟩, [0, 1, 2, 3, 4, 5]),
      (⟨some 25, .call false 207 [(.t 17), (.t 18), (.t 19), (.t 24)], none⟩, []),
      (⟨some 26, .len .slice (.t 25), none⟩, []),
      (⟨some 27, .mov (.k (.i .i64 0)), none⟩, [0, 1, 2, 3, 4, 5, 6, 7, 8, 9, 10, 11, 12])])
 (.blk 0 (.loop L203_1)))
 (.seq (.reg [⟨some 40, .mov (.t 7), none⟩, ⟨some 6, .mov (.t 40), none⟩])
 .ret)))))
/-- (*tidemark/kv.Map).Scan -/
def af203 : AFunc := { n := 41, depth := 6, kl := [(9, [9, 32, 34])], res := [.tmp 6], body := B203 }

def B204 : AC := (.seq (.reg [⟨some 4, .mov (.k (.sl [] 0 .nil)), none⟩, ⟨some 5, .mov (.k (.i .i64 0)), none⟩])
 (.seq (.seq (.reg [⟨some 7, .mov (.t 0), none⟩, ⟨some 8, .call false 209 [(.t 7)], none⟩])
 (.cond (.t 8)
 (.seq (.reg [⟨some 4, .mov (.k (.sl [] 0 .nil)), none⟩, ⟨some 5, .mov (.k (.i .i64 6)), none⟩])
 .ret)
 .skip))
 (.seq (.reg [⟨some 9, .mov (.t 0), none⟩, ⟨some 10, .mov (.t 1), none⟩, ⟨some 11, .call false 210 [(.t 9), (.t 10)], none⟩, ⟨some 6, .mov (.t 11), none⟩])
 (.seq (.seq (.reg [⟨some 12, .mov (.t 6), none⟩, ⟨some 13, .bin .lss (.t 12) (.k (.i .i64 0)), none⟩])
 (.cond (.t 13)
 (.seq (.reg [⟨some 4, .mov (.k (.sl [] 0 .nil)), none⟩, ⟨some 5, .mov (.k (.i .i64 71)), none⟩])
 .ret)
 .skip))
 (.seq (.reg [⟨some 14, .mov (.t 0), none⟩, ⟨some 15, .nilck (.t 14), none⟩, ⟨some 16, .faddr 0 (.t 15), none⟩, ⟨some 17, .load false 1 (.t 16), none⟩, ⟨some 18, .mov (.t 6), none⟩, ⟨some 19, .iaddr (.slice 5) (.t 17) (.t 18), none⟩, ⟨some 20, .call false 211 [(.t 19)], none⟩, ⟨some 4, .mov (.t 20), none⟩, ⟨some 5, .mov (.k (.i .i64 0)), none⟩])
 .ret)))))
/-- (*tidemark/views.Views).Rows -/
def af204 : AFunc := { n := 21, depth := 5, kl := [], res := [.tmp 4, .tmp 5], body := B204 }

def L205_1 : AC := (.seq (.reg [⟨some 15, .bin .lss (.t 14) (.t 13), none⟩])
 (.seq (.cond (.t 15)
 .skip
 (.exit 0))
 (.seq (.blk 1 (.seq (.reg [⟨some 16, .iaddr (.slice 5) (.t 12) (.t 14), none⟩, ⟨some 17, .load true 5 (.t 16), none⟩, ⟨some 5, .lalloc [(.s []), (.i .i64 0), (.s []), (.s []), (.m none)] [5, 19], none⟩, ⟨none, .store 5 (.t 5) (.t 17), none⟩])
 (.reg [⟨some 18, .mov (.t 3), none⟩, ⟨some 19, .faddr 0 (.t 5), none⟩, ⟨some 20, .load true 4 (.t 19), none⟩, ⟨some 21, .bslice false 122 4 1 [(.s []), (.i .i64 0), (.s []), (.s [])] [(0, (.t 20))], none⟩, ⟨some 22, .app 122 4 (.t 18) (.t 21), none⟩, ⟨some 3, .mov (.t 22), none⟩])))
 (.reg [⟨some 23, .bin .add (.t 14) (.k (.i .i64 1)), none⟩, ⟨some 14, .mov (.t 23), none⟩]))))
def B205 : AC := (.seq (.reg [⟨some 2, .movnil 122, none⟩])
 (.seq (.reg [⟨some 3, .movnil 122, none⟩])
 (.seq (.seq (.reg [⟨some 6, .mov (.t 0), none⟩, ⟨some 7, .call false 209 [(.t 6)], none⟩])
 (.cond (.t 7)
 (.seq (.reg [⟨some 8, .mov (.t 3), none⟩, ⟨some 2, .mov (.t 8), none⟩])
 .ret)
 .skip))
 (.seq (.seq (.reg [⟨some 9, .mov (.t 0), none⟩, ⟨some 10, .nilck (.t 9), none⟩, ⟨some 11, .faddr 0 (.t 10), none⟩, ⟨some 12, .load false 1 (.t 11), none⟩, ⟨some 13, .len .slice (.t 12), none⟩, ⟨some 14, .mov (.k (.i .i64 0)), none⟩])
 (.blk 0 (.loop L205_1)))
 (.seq (.reg [⟨some 24, .mov (.t 3), none⟩, ⟨some 2, .mov (.t 24), none⟩])
 .ret)))))
/-- (*tidemark/views.Views).List -/
def af205 : AFunc := { n := 25, depth := 5, kl := [(5, [5, 19])], res := [.tmp 2], body := B205 }

def B206 : AC := (.seq (.reg [⟨some 2, .mov (.k (.b false)), none⟩])
 (.seq (.reg [⟨some 3, .mov (.t 0), none⟩, ⟨some 4, .eq true .ptr (.t 3) (.k .nilp), none⟩, ⟨some 5, .mov (.t 4), none⟩, ⟨some 6, .mov (.t 0), some (5, true)⟩,
 ⟨some 7, .nilck (.t 6), some (5, true)⟩,
 ⟨some 8, .faddr 0 (.t 7), some (5, true)⟩,
 ⟨some 9, .load false 1 (.t 8), some (5, true)⟩,
 ⟨some 10, .eq true .ptr (.t 9) (.k .nilp), some (5, true)⟩,
 ⟨some 11, .pick (.t 5) (.t 10) (.k (.b false)), none⟩, ⟨some 2, .mov (.t 11), none⟩])
 .ret))
/-- (*tidemark/kv.Map).made -/
def af206 : AFunc := { n := 12, depth := 4, kl := [], res := [.tmp 2], body := B206 }

def B207 : AC := (.seq (.reg [⟨some 8, .mov (.k (.sl [] 0 .nil)), none⟩])
 (.seq (.reg [⟨some 9, .mov (.t 0), none⟩, ⟨some 10, .call false 213 [(.t 9)], none⟩, ⟨some 11, .mov (.t 1), none⟩, ⟨some 12, .mov (.t 2), none⟩, ⟨some 13, .mov (.t 3), none⟩, ⟨some 14, .call false 212 [(.t 10), (.t 11), (.t 12), (.t 13), (.k (.sl [] 0 .nil))], none⟩, ⟨some 8, .mov (.t 14), none⟩])
 .ret))
/-- (*tidemark/tree.Tree).Scan -/
def af207 : AFunc := { n := 15, depth := 4, kl := [], res := [.tmp 8], body := B207 }

def B208 : AC := (.seq (.reg [⟨some 2, .mov (.k (.i .i64 0)), none⟩])
 (.seq (.reg [⟨some 3, .mov (.t 0), none⟩, ⟨some 4, .call false 213 [(.t 3)], none⟩, ⟨some 5, .call false 214 [(.t 4)], none⟩, ⟨some 2, .mov (.t 5), none⟩])
 .ret))
/-- (*tidemark/tree.Tree).Len -/
def af208 : AFunc := { n := 6, depth := 3, kl := [], res := [.tmp 2], body := B208 }

def B209 : AC := (.seq (.reg [⟨some 2, .mov (.k (.b false)), none⟩])
 (.seq (.reg [⟨some 3, .mov (.t 0), none⟩, ⟨some 4, .eq false .ptr (.t 3) (.k .nilp), none⟩, ⟨some 5, .mov (.t 4), none⟩, ⟨some 6, .mov (.t 0), some (5, false)⟩,
 ⟨some 7, .nilck (.t 6), some (5, false)⟩,
 ⟨some 8, .faddr 1 (.t 7), some (5, false)⟩,
 ⟨some 9, .load false 1 (.t 8), some (5, false)⟩,
 ⟨some 10, .un .not (.t 9), some (5, false)⟩,
 ⟨some 11, .pick (.t 5) (.k (.b true)) (.t 10), none⟩, ⟨some 2, .mov (.t 11), none⟩])
 .ret))
/-- (*tidemark/views.Views).dead -/
def af209 : AFunc := { n := 12, depth := 4, kl := [], res := [.tmp 2], body := B209 }

def B210 : AC := (.seq (.reg [⟨some 3, .box 9 (.t 1), none⟩, ⟨some 4, .mov (.k (.i .i64 0)), none⟩])
 (.seq (.reg [⟨some 5, .mov (.t 0), none⟩, ⟨some 6, .nilck (.t 5), none⟩, ⟨some 7, .faddr 0 (.t 6), none⟩, ⟨some 8, .load false 1 (.t 7), none⟩, ⟨some 9, .mkfn 216 [] [(.t 3)], none⟩, ⟨some 10, .call false 215 [(.t 8), (.t 9)], none⟩, ⟨some 4, .mov (.t 10), none⟩])
 .ret))
/-- (*tidemark/views.Views).find -/
def af210 : AFunc := { n := 11, depth := 4, kl := [], res := [.tmp 4], body := B210 }

def L211_1 : AC := (.seq (.reg [⟨some 16, .bin .lss (.t 15) (.t 14), none⟩])
 (.seq (.cond (.t 16)
 .skip
 (.exit 0))
 (.seq (.blk 1 (.seq (.reg [⟨some 17, .iaddr (.slice 1) (.t 13) (.t 15), none⟩, ⟨some 18, .load false 1 (.t 17), none⟩, ⟨some 5, .mov (.t 18), none⟩])
 (.seq (.reg [⟨some 19, .mov (.t 0), none⟩, ⟨some 20, .nilck (.t 19), none⟩, ⟨some 21, .faddr 4 (.t 20), none⟩, ⟨some 22, .load false 1 (.t 21), none⟩, ⟨some 23, .mov (.t 5), none⟩, ⟨some 24, .mget .str false (.agg [(.m none), (.i .i64 0), (.i .i64 0)]) (.t 22) (.t 23), none⟩, ⟨some 6, .lalloc [(.m none), (.i .i64 0), (.i .i64 0)] [6, 26, 37, 45], none⟩, ⟨none, .store 3 (.t 6) (.t 24), none⟩])
 (.seq (.reg [⟨some 25, .mov (.t 5), none⟩, ⟨some 26, .faddr 0 (.t 6), none⟩, ⟨some 27, .load false 1 (.t 26), none⟩, ⟨some 28, .len .map (.t 27), none⟩, ⟨some 29, .build [(.s []), (.sl [] 0 .nil), (.i .i64 0)] [(0, 1, (.t 25)), (2, 1, (.t 28))], none⟩, ⟨some 7, .lalloc [(.s []), (.sl [] 0 .nil), (.i .i64 0)] [7, 41, 50], none⟩, ⟨none, .store 3 (.t 7) (.t 29), none⟩])
 (.seq (.seq (.reg [⟨some 30, .mov (.t 0), none⟩, ⟨some 31, .nilck (.t 30), none⟩, ⟨some 32, .faddr 0 (.t 31), none⟩, ⟨some 33, .faddr 1 (.t 32), none⟩, ⟨some 34, .load false 1 (.t 33), none⟩])
 (.blk 2 (.seq (.reg [⟨some 36, .bin .eql (.t 34) (.k (.i .i64 1)), none⟩, ⟨some 35, .mov (.t 36), none⟩])
 (.cond (.t 35)
 (.reg [⟨some 37, .faddr 0 (.t 6), none⟩, ⟨some 38, .load false 1 (.t 37), none⟩, ⟨some 39, .call false 219 [(.t 38)], none⟩, ⟨some 40, .call true 217 [(.t 39)], none⟩, ⟨some 41, .faddr 1 (.t 7), none⟩, ⟨none, .store 1 (.t 41) (.t 40), none⟩])
 (.seq (.reg [⟨some 43, .bin .eql (.t 34) (.k (.i .i64 3)), none⟩, ⟨some 42, .mov (.t 43), none⟩])
 (.cond (.t 42)
 (.reg [⟨some 45, .faddr 1 (.t 6), none⟩, ⟨some 46, .load true 2 (.t 45), none⟩, ⟨some 47, .call true 220 [(.t 46)], none⟩, ⟨some 44, .mov (.t 47), none⟩, ⟨some 48, .ext (.t 44) 0, none⟩, ⟨some 49, .ext (.t 44) 1, none⟩, ⟨some 50, .faddr 2 (.t 7), none⟩, ⟨none, .store 1 (.t 50) (.t 48), none⟩])
 .skip))))))
 (.reg [⟨some 51, .mov (.t 3), none⟩, ⟨some 52, .load true 3 (.t 7), none⟩, ⟨some 53, .bslice false 60 3 1 [(.s []), (.sl [] 0 .nil), (.i .i64 0)] [(0, (.t 52))], none⟩, ⟨some 54, .app 60 3 (.t 51) (.t 53), none⟩, ⟨some 3, .mov (.t 54), none⟩]))))))
 (.reg [⟨some 55, .bin .add (.t 15) (.k (.i .i64 1)), none⟩, ⟨some 15, .mov (.t 55), none⟩]))))
def B211 : AC := (.seq (.reg [⟨some 2, .movnil 60, none⟩])
 (.seq (.reg [⟨some 3, .movnil 60, none⟩])
 (.seq (.seq (.reg [⟨some 8, .mov (.t 0), none⟩, ⟨some 9, .nilck (.t 8), none⟩, ⟨some 10, .faddr 4 (.t 9), none⟩, ⟨some 11, .load false 1 (.t 10), none⟩, ⟨some 12, .call false 218 [(.t 11)], none⟩, ⟨some 13, .call true 217 [(.t 12)], none⟩, ⟨some 14, .len .slice (.t 13), none⟩, ⟨some 15, .mov (.k (.i .i64 0)), none⟩])
 (.blk 0 (.loop L211_1)))
 (.seq (.reg [⟨some 56, .mov (.t 3), none⟩, ⟨some 2, .mov (.t 56), none⟩])
 .ret))))
/-- (*tidemark/views.table).rows -/
def af211 : AFunc := { n := 57, depth := 6, kl := [(6, [6, 26, 37, 45]), (7, [7, 41, 50])], res := [.tmp 2], body := B211 }

def B212 : AC := (.seq (.reg [⟨some 10, .movnil 35, none⟩])
 (.seq (.seq (.reg [⟨some 12, .mov (.t 0), none⟩, ⟨some 13, .eq false .ptr (.t 12) (.k .nilp), none⟩, ⟨some 14, .mov (.t 13), none⟩, ⟨some 15, .mov (.t 4), some (14, false)⟩,
 ⟨some 16, .len .slice (.t 15), some (14, false)⟩,
 ⟨some 17, .mov (.t 3), some (14, false)⟩,
 ⟨some 18, .bin .geq (.t 16) (.t 17), some (14, false)⟩,
 ⟨some 19, .pick (.t 14) (.k (.b true)) (.t 18), none⟩])
 (.cond (.t 19)
 (.seq (.reg [⟨some 20, .mov (.t 4), none⟩, ⟨some 10, .mov (.t 20), none⟩])
 .ret)
 .skip))
 (.seq (.seq (.reg [⟨some 21, .mov (.t 1), none⟩, ⟨some 22, .mov (.t 0), none⟩, ⟨some 23, .nilck (.t 22), none⟩, ⟨some 24, .faddr 0 (.t 23), none⟩, ⟨some 25, .faddr 0 (.t 24), none⟩, ⟨some 26, .load false 1 (.t 25), none⟩, ⟨some 27, .bin .lss (.t 21) (.t 26), none⟩])
 (.cond (.t 27)
 (.reg [⟨some 28, .mov (.t 0), none⟩, ⟨some 29, .nilck (.t 28), none⟩, ⟨some 30, .faddr 2 (.t 29), none⟩, ⟨some 31, .load false 1 (.t 30), none⟩, ⟨some 32, .mov (.t 1), none⟩, ⟨some 33, .mov (.t 2), none⟩, ⟨some 34, .mov (.t 3), none⟩, ⟨some 35, .mov (.t 4), none⟩, ⟨some 36, .call false 212 [(.t 31), (.t 32), (.t 33), (.t 34), (.t 35)], none⟩, ⟨some 4, .mov (.t 36), none⟩])
 .skip))
 (.seq (.reg [⟨some 37, .mov (.t 2), none⟩, ⟨some 38, .bin .eql (.t 37) (.k (.s [])), none⟩, ⟨some 39, .mov (.t 38), none⟩, ⟨some 40, .mov (.t 0), some (39, false)⟩,
 ⟨some 41, .nilck (.t 40), some (39, false)⟩,
 ⟨some 42, .faddr 0 (.t 41), some (39, false)⟩,
 ⟨some 43, .faddr 0 (.t 42), some (39, false)⟩,
 ⟨some 44, .load false 1 (.t 43), some (39, false)⟩,
 ⟨some 45, .mov (.t 2), some (39, false)⟩,
 ⟨some 46, .bin .lss (.t 44) (.t 45), some (39, false)⟩,
 ⟨some 47, .pick (.t 39) (.k (.b true)) (.t 46), none⟩, ⟨some 11, .mov (.t 47), none⟩])
 (.seq (.seq (.reg [⟨some 48, .mov (.t 0), none⟩, ⟨some 49, .nilck (.t 48), none⟩, ⟨some 50, .faddr 0 (.t 49), none⟩, ⟨some 51, .faddr 0 (.t 50), none⟩, ⟨some 52, .load false 1 (.t 51), none⟩, ⟨some 53, .mov (.t 1), none⟩, ⟨some 54, .bin .geq (.t 52) (.t 53), none⟩, ⟨some 55, .mov (.t 54), none⟩, ⟨some 56, .mov (.t 11), some (55, true)⟩,
 ⟨some 57, .pick (.t 55) (.t 56) (.k (.b false)), none⟩, ⟨some 58, .mov (.t 57), none⟩, ⟨some 59, .mov (.t 4), some (58, true)⟩,
 ⟨some 60, .len .slice (.t 59), some (58, true)⟩,
 ⟨some 61, .mov (.t 3), some (58, true)⟩,
 ⟨some 62, .bin .lss (.t 60) (.t 61), some (58, true)⟩,
 ⟨some 63, .pick (.t 58) (.t 62) (.k (.b false)), none⟩])
 (.cond (.t 63)
 (.reg [⟨some 64, .mov (.t 4), none⟩, ⟨some 65, .mov (.t 0), none⟩, ⟨some 66, .nilck (.t 65), none⟩, ⟨some 67, .faddr 0 (.t 66), none⟩, ⟨some 68, .load true 2 (.t 67), none⟩, ⟨some 69, .bslice false 35 2 1 [(.s []), (.s [])] [(0, (.t 68))], none⟩, ⟨some 70, .app 35 2 (.t 64) (.t 69), none⟩, ⟨some 4, .mov (.t 70), none⟩])
 .skip))
 (.seq (.seq (.reg [⟨some 71, .mov (.t 11), none⟩])
 (.cond (.t 71)
 (.reg [⟨some 72, .mov (.t 0), none⟩, ⟨some 73, .nilck (.t 72), none⟩, ⟨some 74, .faddr 3 (.t 73), none⟩, ⟨some 75, .load false 1 (.t 74), none⟩, ⟨some 76, .mov (.t 1), none⟩, ⟨some 77, .mov (.t 2), none⟩, ⟨some 78, .mov (.t 3), none⟩, ⟨some 79, .mov (.t 4), none⟩, ⟨some 80, .call false 212 [(.t 75), (.t 76), (.t 77), (.t 78), (.t 79)], none⟩, ⟨some 4, .mov (.t 80), none⟩])
 .skip))
 (.seq (.reg [⟨some 81, .mov (.t 4), none⟩, ⟨some 10, .mov (.t 81), none⟩])
 .ret)))))))
/-- tidemark/tree.scan -/
def af212 : AFunc := { n := 82, depth := 7, kl := [], res := [.tmp 10], body := B212 }

def B213 : AC := (.seq (.reg [⟨some 2, .mov (.k .nilp), none⟩])
 (.seq (.seq (.reg [⟨some 3, .mov (.t 0), none⟩, ⟨some 4, .eq false .ptr (.t 3) (.k .nilp), none⟩])
 (.cond (.t 4)
 (.seq (.reg [⟨some 2, .mov (.k .nilp), none⟩])
 .ret)
 .skip))
 (.seq (.reg [⟨some 5, .mov (.t 0), none⟩, ⟨some 6, .nilck (.t 5), none⟩, ⟨some 7, .faddr 0 (.t 6), none⟩, ⟨some 8, .load false 1 (.t 7), none⟩, ⟨some 2, .mov (.t 8), none⟩])
 .ret)))
/-- (*tidemark/tree.Tree).top -/
def af213 : AFunc := { n := 9, depth := 4, kl := [], res := [.tmp 2], body := B213 }

def B214 : AC := (.seq (.reg [⟨some 2, .mov (.k (.i .i64 0)), none⟩])
 (.seq (.seq (.reg [⟨some 3, .mov (.t 0), none⟩, ⟨some 4, .eq false .ptr (.t 3) (.k .nilp), none⟩])
 (.cond (.t 4)
 (.seq (.reg [⟨some 2, .mov (.k (.i .i64 0)), none⟩])
 .ret)
 .skip))
 (.seq (.reg [⟨some 5, .mov (.t 0), none⟩, ⟨some 6, .nilck (.t 5), none⟩, ⟨some 7, .faddr 5 (.t 6), none⟩, ⟨some 8, .load false 1 (.t 7), none⟩, ⟨some 2, .mov (.t 8), none⟩])
 .ret)))
/-- tidemark/tree.size -/
def af214 : AFunc := { n := 9, depth := 4, kl := [], res := [.tmp 2], body := B214 }

def L215_1 : AC := (.seq (.reg [⟨some 9, .bin .lss (.t 8) (.t 7), none⟩])
 (.seq (.cond (.t 9)
 .skip
 (.exit 0))
 (.seq (.blk 1 (.seq (.reg [⟨some 10, .mov (.t 8), none⟩, ⟨some 5, .mov (.t 10), none⟩])
 (.seq (.reg [⟨some 11, .mov (.t 1), none⟩, ⟨some 12, .mov (.t 0), none⟩, ⟨some 13, .mov (.t 5), none⟩, ⟨some 14, .iaddr (.slice 5) (.t 12) (.t 13), none⟩, ⟨some 15, .load true 5 (.t 14), none⟩, ⟨some 16, .callv true (.t 11) [(.t 15)], none⟩])
 (.cond (.t 16)
 (.seq (.reg [⟨some 17, .mov (.t 5), none⟩, ⟨some 4, .mov (.t 17), none⟩])
 .ret)
 .skip))))
 (.reg [⟨some 18, .bin .add (.t 8) (.k (.i .i64 1)), none⟩, ⟨some 8, .mov (.t 18), none⟩]))))
def B215 : AC := (.seq (.reg [⟨some 4, .mov (.k (.i .i64 0)), none⟩])
 (.seq (.seq (.reg [⟨some 6, .mov (.t 0), none⟩, ⟨some 7, .len .slice (.t 6), none⟩, ⟨some 8, .mov (.k (.i .i64 0)), none⟩])
 (.blk 0 (.loop L215_1)))
 (.seq (.reg [⟨some 4, .mov (.k (.i .i64 (-1))), none⟩])
 .ret)))
/-- slices.IndexFunc[[]tidemark/views.table,tidemark/views.table] -/
def af215 : AFunc := { n := 19, depth := 5, kl := [], res := [.tmp 4], body := B215 }

def B216 : AC := (.seq (.reg [⟨some 2, .lbox (.t 0) [2, 4, 5], none⟩, ⟨some 3, .mov (.k (.b false)), none⟩])
 (.seq (.reg [⟨some 4, .faddr 0 (.t 2), none⟩, ⟨some 5, .faddr 0 (.t 4), none⟩, ⟨some 6, .load false 1 (.t 5), none⟩, ⟨some 7, .load false 1 (.t 1), none⟩, ⟨some 8, .bin .eql (.t 6) (.t 7), none⟩, ⟨some 3, .mov (.t 8), none⟩])
 .ret))
/-- (*tidemark/views.Views).find$1 -/
def af216 : AFunc := { n := 9, depth := 4, kl := [(2, [2, 4, 5])], res := [.tmp 3], body := B216 }

def B217 : AC := (.seq (.reg [⟨some 2, .mov (.k (.sl [] 0 .nil)), none⟩])
 (.seq (.reg [⟨some 4, .mov (.t 0), none⟩, ⟨some 5, .call false 221 [(.t 4)], none⟩, ⟨some 3, .mov (.t 5), none⟩])
 (.seq (.reg [⟨some 6, .mov (.t 3), none⟩, ⟨some 7, .call false 87 [(.t 6)], none⟩])
 (.seq (.reg [⟨some 8, .mov (.t 3), none⟩, ⟨some 2, .mov (.t 8), none⟩])
 .ret))))
/-- slices.Sorted[string] -/
def af217 : AFunc := { n := 9, depth := 4, kl := [], res := [.tmp 2], body := B217 }

def B218 : AC := (.seq (.reg [⟨some 1, .box 278 (.t 0), none⟩, ⟨some 2, .mov (.k .nilf), none⟩])
 (.seq (.reg [⟨some 3, .mkfn 222 [] [(.t 1)], none⟩, ⟨some 2, .mov (.t 3), none⟩])
 .ret))
/-- maps.Keys[map[string]tidemark/views.group,string,tidemark/views.group] -/
def af218 : AFunc := { n := 4, depth := 3, kl := [], res := [.tmp 2], body := B218 }

def B219 : AC := (.seq (.reg [⟨some 1, .box 296 (.t 0), none⟩, ⟨some 2, .mov (.k .nilf), none⟩])
 (.seq (.reg [⟨some 3, .mkfn 223 [] [(.t 1)], none⟩, ⟨some 2, .mov (.t 3), none⟩])
 .ret))
/-- maps.Keys[map[string]bool,string,bool] -/
def af219 : AFunc := { n := 4, depth := 3, kl := [], res := [.tmp 2], body := B219 }

def B220 : AC := (.seq (.reg [⟨some 1, .lbox (.t 0) [1, 5, 7, 19], none⟩, ⟨some 2, .mov (.k (.i .i64 0)), none⟩, ⟨some 3, .mov (.k (.b false)), none⟩])
 (.seq (.reg [⟨some 5, .faddr 0 (.t 1), none⟩, ⟨some 6, .load false 1 (.t 5), none⟩, ⟨some 7, .faddr 1 (.t 1), none⟩, ⟨some 8, .load false 1 (.t 7), none⟩, ⟨some 9, .bin .shr (.t 8) (.k (.i .u64 32)), none⟩, ⟨some 10, .bin .add (.t 6) (.t 9), none⟩, ⟨some 4, .mov (.t 10), none⟩])
 (.seq (.seq (.reg [⟨some 11, .mov (.t 4), none⟩, ⟨some 12, .bin .lss (.t 11) (.k (.i .i64 (-2147483648))), none⟩, ⟨some 13, .mov (.t 12), none⟩, ⟨some 14, .mov (.t 4), some (13, false)⟩,
 ⟨some 15, .bin .geq (.t 14) (.k (.i .i64 2147483648)), some (13, false)⟩,
 ⟨some 16, .pick (.t 13) (.k (.b true)) (.t 15), none⟩])
 (.cond (.t 16)
 (.seq (.reg [⟨some 2, .mov (.k (.i .i64 0)), none⟩, ⟨some 3, .mov (.k (.b false)), none⟩])
 .ret)
 .skip))
 (.seq (.reg [⟨some 17, .mov (.t 4), none⟩, ⟨some 18, .bin .shl (.t 17) (.k (.i .u64 32)), none⟩, ⟨some 19, .faddr 1 (.t 1), none⟩, ⟨some 20, .load false 1 (.t 19), none⟩, ⟨some 21, .bin .and (.t 20) (.k (.i .i64 4294967295)), none⟩, ⟨some 22, .bin .or (.t 18) (.t 21), none⟩, ⟨some 2, .mov (.t 22), none⟩, ⟨some 3, .mov (.k (.b true)), none⟩])
 .ret))))
/-- (tidemark/views.total).whole -/
def af220 : AFunc := { n := 23, depth := 5, kl := [(1, [1, 5, 7, 19])], res := [.tmp 2, .tmp 3], body := B220 }

def B221 : AC := (.seq (.reg [⟨some 2, .mov (.k (.sl [] 0 .nil)), none⟩])
 (.seq (.reg [⟨some 3, .mov (.t 0), none⟩, ⟨some 4, .call true 224 [(.k (.sl [] 0 .nil)), (.t 3)], none⟩, ⟨some 2, .mov (.t 4), none⟩])
 .ret))
/-- slices.Collect[string] -/
def af221 : AFunc := { n := 5, depth := 3, kl := [], res := [.tmp 2], body := B221 }

def L222_1 : AC := (.seq (.reg [⟨some 6, .bad, none⟩, ⟨some 7, .ext (.t 6) 0, none⟩])
 (.seq (.cond (.t 7)
 .skip
 (.exit 0))
 (.blk 1 (.seq (.reg [⟨some 8, .bad, none⟩, ⟨some 9, .ext (.t 8) 0, none⟩, ⟨some 3, .mov (.t 9), none⟩])
 (.seq (.reg [⟨some 10, .mov (.t 0), none⟩, ⟨some 11, .mov (.t 3), none⟩, ⟨some 12, .callv true (.t 10) [(.t 11)], none⟩, ⟨some 13, .un .not (.t 12), none⟩])
 (.cond (.t 13)
 .ret
 .skip))))))
def B222 : AC := (.seq (.reg [⟨some 4, .load false 1 (.t 1), none⟩, ⟨some 5, .bad, none⟩])
 (.blk 0 (.loop L222_1)))
/-- maps.Keys[map[string]tidemark/views.group,string,tidemark/views.group]$1 -/
def af222 : AFunc := { n := 14, depth := 4, kl := [], res := [], body := B222 }

def L223_1 : AC := (.seq (.reg [⟨some 6, .bad, none⟩, ⟨some 7, .ext (.t 6) 0, none⟩])
 (.seq (.cond (.t 7)
 .skip
 (.exit 0))
 (.blk 1 (.seq (.reg [⟨some 8, .bad, none⟩, ⟨some 9, .ext (.t 8) 0, none⟩, ⟨some 3, .mov (.t 9), none⟩])
 (.seq (.reg [⟨some 10, .mov (.t 0), none⟩, ⟨some 11, .mov (.t 3), none⟩, ⟨some 12, .callv true (.t 10) [(.t 11)], none⟩, ⟨some 13, .un .not (.t 12), none⟩])
 (.cond (.t 13)
 .ret
 .skip))))))
def B223 : AC := (.seq (.reg [⟨some 4, .load false 1 (.t 1), none⟩, ⟨some 5, .bad, none⟩])
 (.blk 0 (.loop L223_1)))
/-- maps.Keys[map[string]bool,string,bool]$1 -/
def af223 : AFunc := { n := 14, depth := 4, kl := [], res := [], body := B223 }

def B224 : AC := (.seq (.reg [⟨some 2, .lbox (.t 0) [2], none⟩, ⟨some 4, .mov (.k (.sl [] 0 .nil)), none⟩])
 (.seq (.seq (.reg [⟨some 6, .mov (.t 1), none⟩])
 (.blk 0 .refuse))
 (.seq (.reg [⟨some 12, .load false 1 (.t 2), none⟩, ⟨some 4, .mov (.t 12), none⟩])
 .ret)))
/-- slices.AppendSeq[[]string,string] -/
def af224 : AFunc := { n := 13, depth := 4, kl := [(2, [2])], res := [.tmp 4], body := B224 }

def B226 : AC := (.seq (.reg [⟨some 2, .lbox (.t 0) [2], none⟩, ⟨some 3, .lbox (.t 1) [3], none⟩, ⟨some 4, .mov (.k (.b false)), none⟩])
 (.seq (.reg [⟨some 4, .mov (.k (.b true)), none⟩])
 .ret))
/-- (tidemark/filter.always).holds -/
def af226 : AFunc := { n := 5, depth := 3, kl := [(2, [2]), (3, [3])], res := [.tmp 4], body := B226 }

def B227 : AC := (.seq (.reg [⟨some 2, .lbox (.t 0) [2, 7], none⟩, ⟨some 3, .lbox (.t 1) [3, 5], none⟩, ⟨some 4, .mov (.k (.b false)), none⟩])
 (.seq (.reg [⟨some 5, .faddr 1 (.t 3), none⟩, ⟨some 6, .load false 1 (.t 5), none⟩, ⟨some 7, .faddr 0 (.t 2), none⟩, ⟨some 8, .load false 1 (.t 7), none⟩, ⟨some 9, .call true 228 [(.t 6), (.t 8)], none⟩, ⟨some 4, .mov (.t 9), none⟩])
 .ret))
/-- (tidemark/filter.begins).holds -/
def af227 : AFunc := { n := 10, depth := 4, kl := [(2, [2, 7]), (3, [3, 5])], res := [.tmp 4], body := B227 }

def B228 : AC := (.seq (.reg [⟨some 4, .mov (.k (.b false)), none⟩])
 (.seq (.reg [⟨some 5, .mov (.t 0), none⟩, ⟨some 6, .len .str (.t 5), none⟩, ⟨some 7, .mov (.t 1), none⟩, ⟨some 8, .len .str (.t 7), none⟩, ⟨some 9, .bin .geq (.t 6) (.t 8), none⟩, ⟨some 10, .mov (.t 9), none⟩, ⟨some 11, .mov (.t 0), some (10, true)⟩,
 ⟨some 12, .mov (.t 1), some (10, true)⟩,
 ⟨some 13, .len .str (.t 12), some (10, true)⟩,
 ⟨some 14, .slc .str (.t 11) none (some (.t 13)) none, some (10, true)⟩,
 ⟨some 15, .mov (.t 1), some (10, true)⟩,
 ⟨some 16, .bin .eql (.t 14) (.t 15), some (10, true)⟩,
 ⟨some 17, .pick (.t 10) (.t 16) (.k (.b false)), none⟩, ⟨some 4, .mov (.t 17), none⟩])
 .ret))
/-- tidemark/text.Begins -/
def af228 : AFunc := { n := 18, depth := 5, kl := [], res := [.tmp 4], body := B228 }

def B229 : AC := (.seq (.reg [⟨some 2, .lbox (.t 0) [2, 10, 22], none⟩, ⟨some 3, .lbox (.t 1) [3, 8, 15], none⟩, ⟨some 4, .mov (.k (.b false)), none⟩])
 (.seq (.reg [⟨some 8, .faddr 5 (.t 3), none⟩, ⟨some 9, .load false 1 (.t 8), none⟩, ⟨some 10, .faddr 0 (.t 2), none⟩, ⟨some 11, .load false 1 (.t 10), none⟩, ⟨some 12, .call true 115 [(.t 9), (.t 11)], none⟩, ⟨some 7, .mov (.t 12), none⟩, ⟨some 13, .ext (.t 7) 0, none⟩, ⟨some 14, .ext (.t 7) 1, none⟩, ⟨some 5, .mov (.t 13), none⟩, ⟨some 6, .mov (.t 14), none⟩])
 (.seq (.reg [⟨some 15, .faddr 4 (.t 3), none⟩, ⟨some 16, .load false 1 (.t 15), none⟩, ⟨some 17, .mov (.t 16), none⟩, ⟨some 18, .mov (.t 6), some (17, true)⟩,
 ⟨some 19, .pick (.t 17) (.t 18) (.k (.b false)), none⟩, ⟨some 20, .mov (.t 19), none⟩, ⟨some 21, .mov (.t 5), some (20, true)⟩,
 ⟨some 22, .faddr 1 (.t 2), some (20, true)⟩,
 ⟨some 23, .load false 1 (.t 22), some (20, true)⟩,
 ⟨some 24, .bin .eql (.t 21) (.t 23), some (20, true)⟩,
 ⟨some 25, .pick (.t 20) (.t 24) (.k (.b false)), none⟩, ⟨some 4, .mov (.t 25), none⟩])
 .ret)))
/-- (tidemark/filter.equals).holds -/
def af229 : AFunc := { n := 26, depth := 5, kl := [(2, [2, 10, 22]), (3, [3, 8, 15])], res := [.tmp 4], body := B229 }

def B230 : AC := (.seq (.reg [⟨some 2, .lbox (.t 0) [2], none⟩, ⟨some 3, .lbox (.t 1) [3, 5], none⟩, ⟨some 4, .mov (.k (.b false)), none⟩])
 (.seq (.reg [⟨some 5, .faddr 4 (.t 3), none⟩, ⟨some 6, .load false 1 (.t 5), none⟩, ⟨some 4, .mov (.t 6), none⟩])
 .ret))
/-- (tidemark/filter.puts).holds -/
def af230 : AFunc := { n := 7, depth := 3, kl := [(2, [2]), (3, [3, 5])], res := [.tmp 4], body := B230 }

def B231 : AC := (.seq (.reg [⟨some 2, .lbox (.t 0) [2, 5], none⟩, ⟨some 3, .lbox (.t 1) [3], none⟩, ⟨some 4, .mov (.k (.b false)), none⟩])
 (.seq (.reg [⟨some 5, .faddr 0 (.t 2), none⟩, ⟨some 6, .load false 1 (.t 5), none⟩, ⟨some 7, .load true 6 (.t 3), none⟩, ⟨some 8, .inv false [(181, 226), (183, 227), (185, 229), (186, 230), (190, 231), (192, 232), (193, 233)] (.t 6) [(.t 7)], none⟩, ⟨some 9, .un .not (.t 8), none⟩, ⟨some 4, .mov (.t 9), none⟩])
 .ret))
/-- (tidemark/filter.not).holds -/
def af231 : AFunc := { n := 10, depth := 4, kl := [(2, [2, 5]), (3, [3])], res := [.tmp 4], body := B231 }

def L232_1 : AC := (.seq (.reg [⟨some 11, .bin .lss (.t 10) (.t 9), none⟩])
 (.seq (.cond (.t 11)
 .skip
 (.exit 0))
 (.seq (.blk 1 (.seq (.reg [⟨some 12, .iaddr (.slice 1) (.t 8) (.t 10), none⟩, ⟨some 13, .load false 1 (.t 12), none⟩, ⟨some 6, .mov (.t 13), none⟩])
 (.seq (.reg [⟨some 14, .mov (.t 6), none⟩, ⟨some 15, .load true 6 (.t 3), none⟩, ⟨some 16, .inv false [(181, 226), (183, 227), (185, 229), (186, 230), (190, 231), (192, 232), (193, 233)] (.t 14) [(.t 15)], none⟩, ⟨some 17, .un .not (.t 16), none⟩])
 (.cond (.t 17)
 (.seq (.reg [⟨some 4, .mov (.k (.b false)), none⟩])
 .ret)
 .skip))))
 (.reg [⟨some 18, .bin .add (.t 10) (.k (.i .i64 1)), none⟩, ⟨some 10, .mov (.t 18), none⟩]))))
def B232 : AC := (.seq (.reg [⟨some 2, .lbox (.t 0) [2, 7], none⟩, ⟨some 3, .lbox (.t 1) [3], none⟩, ⟨some 4, .mov (.k (.b false)), none⟩])
 (.seq (.seq (.reg [⟨some 7, .faddr 0 (.t 2), none⟩, ⟨some 8, .load false 1 (.t 7), none⟩, ⟨some 9, .len .slice (.t 8), none⟩, ⟨some 10, .mov (.k (.i .i64 0)), none⟩])
 (.blk 0 (.loop L232_1)))
 (.seq (.reg [⟨some 4, .mov (.k (.b true)), none⟩])
 .ret)))
/-- (tidemark/filter.every).holds -/
def af232 : AFunc := { n := 19, depth := 5, kl := [(2, [2, 7]), (3, [3])], res := [.tmp 4], body := B232 }

def L233_1 : AC := (.seq (.reg [⟨some 11, .bin .lss (.t 10) (.t 9), none⟩])
 (.seq (.cond (.t 11)
 .skip
 (.exit 0))
 (.seq (.blk 1 (.seq (.reg [⟨some 12, .iaddr (.slice 1) (.t 8) (.t 10), none⟩, ⟨some 13, .load false 1 (.t 12), none⟩, ⟨some 6, .mov (.t 13), none⟩])
 (.seq (.reg [⟨some 14, .mov (.t 6), none⟩, ⟨some 15, .load true 6 (.t 3), none⟩, ⟨some 16, .inv false [(181, 226), (183, 227), (185, 229), (186, 230), (190, 231), (192, 232), (193, 233)] (.t 14) [(.t 15)], none⟩])
 (.cond (.t 16)
 (.seq (.reg [⟨some 4, .mov (.k (.b true)), none⟩])
 .ret)
 .skip))))
 (.reg [⟨some 17, .bin .add (.t 10) (.k (.i .i64 1)), none⟩, ⟨some 10, .mov (.t 17), none⟩]))))
def B233 : AC := (.seq (.reg [⟨some 2, .lbox (.t 0) [2, 7], none⟩, ⟨some 3, .lbox (.t 1) [3], none⟩, ⟨some 4, .mov (.k (.b false)), none⟩])
 (.seq (.seq (.reg [⟨some 7, .faddr 0 (.t 2), none⟩, ⟨some 8, .load false 1 (.t 7), none⟩, ⟨some 9, .len .slice (.t 8), none⟩, ⟨some 10, .mov (.k (.i .i64 0)), none⟩])
 (.blk 0 (.loop L233_1)))
 (.seq (.reg [⟨some 4, .mov (.k (.b false)), none⟩])
 .ret)))
/-- (tidemark/filter.some).holds -/
def af233 : AFunc := { n := 18, depth := 5, kl := [(2, [2, 7]), (3, [3])], res := [.tmp 4], body := B233 }

def kn : Known := ⟨[132]⟩

def lst : List (Nat × AFunc) := [(5, af5), (7, af7), (8, af8), (9, af9), (10, af10), (13, af13), (15, af15), (17, af17), (20, af20), (22, af22), (23, af23), (24, af24), (25, af25), (26, af26), (27, af27), (28, af28), (29, af29), (35, af35), (36, af36), (43, af43), (44, af44), (46, af46), (47, af47), (48, af48), (49, af49), (50, af50), (51, af51), (52, af52), (53, af53), (54, af54), (55, af55), (56, af56), (57, af57), (58, af58), (59, af59), (65, af65), (66, af66), (67, af67), (68, af68), (73, af73), (75, af75), (76, af76), (77, af77), (78, af78), (79, af79), (80, af80), (81, af81), (82, af82), (83, af83), (84, af84), (85, af85), (86, af86), (87, af87), (88, af88), (89, af89), (90, af90), (91, af91), (97, af97), (101, af101), (102, af102), (103, af103), (104, af104), (105, af105), (106, af106), (107, af107), (108, af108), (109, af109), (110, af110), (111, af111), (112, af112), (113, af113), (114, af114), (115, af115), (116, af116), (117, af117), (118, af118), (119, af119), (120, af120), (121, af121), (122, af122), (123, af123), (124, af124), (125, af125), (135, af135), (136, af136), (137, af137), (138, af138), (139, af139), (140, af140), (141, af141), (142, af142), (143, af143), (144, af144), (145, af145), (146, af146), (147, af147), (148, af148), (149, af149), (150, af150), (151, af151), (152, af152), (153, af153), (155, af155), (160, af160), (161, af161), (162, af162), (163, af163), (164, af164), (165, af165), (166, af166), (167, af167), (168, af168), (169, af169), (170, af170), (171, af171), (172, af172), (173, af173), (174, af174), (177, af177), (178, af178), (179, af179), (180, af180), (199, af199), (200, af200), (201, af201), (202, af202), (203, af203), (204, af204), (205, af205), (206, af206), (207, af207), (208, af208), (209, af209), (210, af210), (211, af211), (212, af212), (213, af213), (214, af214), (215, af215), (216, af216), (217, af217), (218, af218), (219, af219), (220, af220), (221, af221), (222, af222), (223, af223), (224, af224), (226, af226), (227, af227), (228, af228), (229, af229), (230, af230), (231, af231), (232, af232), (233, af233)]
theorem lst_ok : lst.all (fun x => fnOk Tryz.prog kn x.1 x.2) = true := by kernel_rfl
def tab (g : FuncId) : Option AFunc := al lst g

end Go.Proofs.YtpcjhfchpelonaaGreatDoor
