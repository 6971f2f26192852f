/- The abstract interpreter's code of the functions that the laws of this seat reach, and that it is the program's: each by the kernel. Printed by a program. -/
import Derived.Test.YtbhclhgljnoioaaDoorAi08
import Derived.Test.YtbhclhgljnoioaaDoorProg
import Derived.KernelRfl
namespace Go.Proofs.YtbhclhgljnoioaaDoor
open Go Ai

def L11_1 : AC := (.seq (.reg [⟨some 45, .bin .lss (.t 44) (.t 43), none⟩])
 (.seq (.cond (.t 45)
 .skip
 (.exit 0))
 (.seq (.blk 1 (.seq (.reg [⟨some 46, .mov (.t 44), none⟩, ⟨some 47, .iaddr (.slice 3) (.t 42) (.t 44), none⟩, ⟨some 48, .load true 3 (.t 47), none⟩, ⟨some 11, .lalloc [(.i .i64 0), (.s []), (.i .i64 0)] [11, 64], none⟩, ⟨some 10, .mov (.t 46), none⟩, ⟨none, .store 3 (.t 11) (.t 48), none⟩])
 (.seq (.reg [⟨some 49, .mov (.t 0), none⟩, ⟨some 50, .len .str (.t 49), none⟩, ⟨some 12, .mov (.t 50), none⟩])
 (.seq (.seq (.reg [⟨some 51, .mov (.t 10), none⟩, ⟨some 52, .bin .add (.t 51) (.k (.i .i64 1)), none⟩, ⟨some 53, .mov (.t 5), none⟩, ⟨some 54, .len .slice (.t 53), none⟩, ⟨some 55, .bin .lss (.t 52) (.t 54), none⟩])
 (.cond (.t 55)
 (.reg [⟨some 56, .mov (.t 5), none⟩, ⟨some 57, .mov (.t 10), none⟩, ⟨some 58, .bin .add (.t 57) (.k (.i .i64 1)), none⟩, ⟨some 59, .iaddr (.slice 3) (.t 56) (.t 58), none⟩, ⟨some 60, .faddr 2 (.t 59), none⟩, ⟨some 61, .load false 1 (.t 60), none⟩, ⟨some 12, .mov (.t 61), none⟩])
 .skip))
 (.reg [⟨some 62, .mov (.t 9), none⟩, ⟨some 63, .mov (.t 0), none⟩, ⟨some 64, .faddr 2 (.t 11), none⟩, ⟨some 65, .load false 1 (.t 64), none⟩, ⟨some 66, .mov (.t 12), none⟩, ⟨some 67, .slc .str (.t 63) (some (.t 65)) (some (.t 66)) none, none⟩, ⟨some 68, .call true 30 [(.t 67), (.k (.s [32]))], none⟩, ⟨some 69, .mov (.t 8), none⟩, ⟨some 70, .bin .add (.t 68) (.t 69), none⟩, ⟨some 71, .bin .add (.t 62) (.t 70), none⟩, ⟨some 9, .mov (.t 71), none⟩])))))
 (.reg [⟨some 72, .bin .add (.t 44) (.k (.i .i64 1)), none⟩, ⟨some 44, .mov (.t 72), none⟩]))))
def B11 : AC := (.seq (.reg [⟨some 4, .mov (.k (.b false)), none⟩])
 (.seq (.seq (.reg [⟨some 22, .mov (.t 0), none⟩, ⟨some 23, .len .str (.t 22), none⟩, ⟨some 24, .bin .gtr (.t 23) (.k (.i .i64 4096)), none⟩])
 (.cond (.t 24)
 (.seq (.reg [⟨some 25, .call true 14 [], none⟩, ⟨some 4, .mov (.t 25), none⟩])
 .ret)
 .skip))
 (.seq (.reg [⟨some 27, .mov (.t 0), none⟩, ⟨some 28, .call true 21 [(.t 27)], none⟩, ⟨some 26, .mov (.t 28), none⟩, ⟨some 29, .ext (.t 26) 0, none⟩, ⟨some 30, .ext (.t 26) 1, none⟩, ⟨some 31, .ext (.t 26) 2, none⟩, ⟨some 5, .mov (.t 29), none⟩, ⟨some 6, .mov (.t 30), none⟩, ⟨some 7, .mov (.t 31), none⟩])
 (.seq (.seq (.reg [⟨some 32, .mov (.t 7), none⟩, ⟨some 33, .bin .neq (.t 32) (.k (.i .i64 0)), none⟩])
 (.cond (.t 33)
 (.seq (.reg [⟨some 34, .call true 14 [], none⟩, ⟨some 4, .mov (.t 34), none⟩])
 .ret)
 .skip))
 (.seq (.reg [⟨some 35, .mov (.t 1), none⟩, ⟨some 36, .conv (.int .u64) (.t 35), none⟩, ⟨some 37, .bin .rem (.t 36) (.k (.i .u64 5)), none⟩, ⟨some 38, .conv (.int .i64) (.t 37), none⟩, ⟨some 39, .bin .add (.k (.i .i64 1)) (.t 38), none⟩, ⟨some 40, .call true 29 [(.k (.s [32])), (.t 39)], none⟩, ⟨some 8, .mov (.t 40), none⟩])
 (.seq (.reg [⟨some 41, .mov (.t 8), none⟩, ⟨some 9, .mov (.t 41), none⟩])
 (.seq (.seq (.reg [⟨some 42, .mov (.t 5), none⟩, ⟨some 43, .len .slice (.t 42), none⟩, ⟨some 44, .mov (.k (.i .i64 0)), none⟩])
 (.blk 0 (.loop L11_1)))
 (.seq (.reg [⟨some 74, .mov (.t 9), none⟩, ⟨some 75, .call true 21 [(.t 74)], none⟩, ⟨some 73, .mov (.t 75), none⟩, ⟨some 76, .ext (.t 73) 0, none⟩, ⟨some 77, .ext (.t 73) 1, none⟩, ⟨some 78, .ext (.t 73) 2, none⟩, ⟨some 13, .mov (.t 76), none⟩, ⟨some 14, .mov (.t 77), none⟩, ⟨some 15, .mov (.t 78), none⟩])
 (.seq (.seq (.reg [⟨some 79, .mov (.t 15), none⟩, ⟨some 80, .bin .neq (.t 79) (.k (.i .i64 0)), none⟩, ⟨some 81, .mov (.t 80), none⟩, ⟨some 82, .mov (.t 13), some (81, false)⟩,
 ⟨some 83, .len .slice (.t 82), some (81, false)⟩,
 ⟨some 84, .mov (.t 5), some (81, false)⟩,
 ⟨some 85, .len .slice (.t 84), some (81, false)⟩,
 ⟨some 86, .bin .neq (.t 83) (.t 85), some (81, false)⟩,
 ⟨some 87, .pick (.t 81) (.k (.b true)) (.t 86), none⟩])
 (.cond (.t 87)
 (.seq (.reg [⟨some 4, .mov (.k (.b false)), none⟩])
 .ret)
 .skip))
 (.seq (.reg [⟨some 89, .mov (.t 0), none⟩, ⟨some 90, .call true 19 [(.t 89)], none⟩, ⟨some 88, .mov (.t 90), none⟩, ⟨some 91, .ext (.t 88) 0, none⟩, ⟨some 92, .ext (.t 88) 1, none⟩, ⟨some 93, .ext (.t 88) 2, none⟩, ⟨some 16, .lalloc [(.i .i64 0), (.s []), (.s []), (.sl [] 0 .nil)] [16], none⟩, ⟨none, .store 4 (.t 16) (.t 91), none⟩, ⟨some 17, .mov (.t 92), none⟩, ⟨some 18, .mov (.t 93), none⟩])
 (.seq (.reg [⟨some 95, .mov (.t 9), none⟩, ⟨some 96, .call true 19 [(.t 95)], none⟩, ⟨some 94, .mov (.t 96), none⟩, ⟨some 97, .ext (.t 94) 0, none⟩, ⟨some 98, .ext (.t 94) 1, none⟩, ⟨some 99, .ext (.t 94) 2, none⟩, ⟨some 19, .lalloc [(.i .i64 0), (.s []), (.s []), (.sl [] 0 .nil)] [19], none⟩, ⟨none, .store 4 (.t 19) (.t 97), none⟩, ⟨some 20, .mov (.t 98), none⟩, ⟨some 21, .mov (.t 99), none⟩])
 (.seq (.reg [⟨some 100, .mov (.t 18), none⟩, ⟨some 101, .mov (.t 21), none⟩, ⟨some 102, .bin .eql (.t 100) (.t 101), none⟩, ⟨some 103, .mov (.t 102), none⟩, ⟨some 104, .load true 4 (.t 16), some (103, true)⟩,
 ⟨some 105, .load true 4 (.t 19), some (103, true)⟩,
 ⟨some 106, .call true 20 [(.t 104), (.t 105)], some (103, true)⟩,
 ⟨some 107, .pick (.t 103) (.t 106) (.k (.b false)), none⟩, ⟨some 108, .mov (.t 107), none⟩, ⟨some 109, .call true 14 [], some (108, true)⟩,
 ⟨some 110, .pick (.t 108) (.t 109) (.k (.b false)), none⟩, ⟨some 4, .mov (.t 110), none⟩])
 .ret))))))))))))
/-- tidemark/tidemarklaw08.LangBlanks -/
def af11 : AFunc := { n := 111, depth := 7, kl := [(11, [11, 64]), (16, [16]), (19, [19])], res := [.tmp 4], body := B11 }

def L12_1 : AC := (.seq (.reg [⟨some 9, .next 8, none⟩, ⟨some 10, .ext (.t 9) 0, none⟩])
 (.seq (.cond (.t 10)
 .skip
 (.exit 0))
 (.blk 1 (.seq (.reg [⟨some 11, .ext (.t 9) 2, none⟩, ⟨some 5, .mov (.t 11), none⟩])
 (.blk 2 (.seq (.reg [⟨some 15, .mov (.t 5), none⟩, ⟨some 16, .bin .eql (.t 15) (.k (.i .i32 34)), none⟩, ⟨some 17, .mov (.t 16), none⟩, ⟨some 18, .mov (.t 5), some (17, false)⟩,
 ⟨some 19, .bin .eql (.t 18) (.k (.i .i32 92)), some (17, false)⟩,
 ⟨some 20, .pick (.t 17) (.k (.b true)) (.t 19), none⟩, ⟨some 14, .mov (.t 20), none⟩])
 (.cond (.t 14)
 (.seq (.reg [⟨some 21, .call false 31 [(.t 3), (.k (.i .u8 92))], none⟩])
 (.reg [⟨some 22, .mov (.t 5), none⟩, ⟨some 23, .call false 32 [(.t 3), (.t 22)], none⟩]))
 (.seq (.reg [⟨some 25, .mov (.t 5), none⟩, ⟨some 26, .bin .lss (.t 25) (.k (.i .i32 32)), none⟩, ⟨some 27, .mov (.t 26), none⟩, ⟨some 28, .mov (.t 5), some (27, false)⟩,
 ⟨some 29, .bin .eql (.t 28) (.k (.i .i32 127)), some (27, false)⟩,
 ⟨some 30, .pick (.t 27) (.k (.b true)) (.t 29), none⟩, ⟨some 31, .mov (.t 30), none⟩, ⟨some 32, .mov (.t 5), some (31, false)⟩,
 ⟨some 33, .bin .eql (.t 32) (.k (.i .i32 65533)), some (31, false)⟩,
 ⟨some 34, .pick (.t 31) (.k (.b true)) (.t 33), none⟩, ⟨some 24, .mov (.t 34), none⟩])
 (.cond (.t 24)
 (.reg [⟨some 35, .mov (.t 5), none⟩, ⟨some 36, .conv (.int .i64) (.t 35), none⟩, ⟨some 37, .call true 34 [(.t 36), (.k (.i .i64 16))], none⟩, ⟨some 38, .bin .add (.k (.s [92, 117, 123])) (.t 37), none⟩, ⟨some 39, .bin .add (.t 38) (.k (.s [125])), none⟩, ⟨some 40, .call false 33 [(.t 3), (.t 39)], none⟩])
 (.reg [⟨some 12, .mov (.t 5), none⟩, ⟨some 13, .call false 32 [(.t 3), (.t 12)], none⟩]))))))))))
def B12 : AC := (.seq (.reg [⟨some 2, .mov (.k (.s [])), none⟩])
 (.seq (.reg [⟨some 3, .alloc 57 [.nilp, (.sl [] 0 .nil)], none⟩])
 (.seq (.reg [⟨some 6, .call false 31 [(.t 3), (.k (.i .u8 34))], none⟩])
 (.seq (.seq (.reg [⟨some 7, .mov (.t 0), none⟩, ⟨some 8, .range (.t 7), none⟩])
 (.blk 0 (.loop L12_1)))
 (.seq (.reg [⟨some 41, .call false 31 [(.t 3), (.k (.i .u8 34))], none⟩])
 (.seq (.reg [⟨some 42, .call false 35 [(.t 3)], none⟩, ⟨some 2, .mov (.t 42), none⟩])
 .ret))))))
/-- tidemark/lang.Quote -/
def af12 : AFunc := { n := 43, depth := 6, kl := [], res := [.tmp 2], body := B12 }

def B14 : AC := (.seq (.reg [⟨some 0, .mov (.k (.b false)), none⟩])
 (.seq (.reg [⟨some 13, .call true 19 [(.k (.s [107, 101, 121, 32, 94, 32, 34, 97, 34, 32, 97, 110, 100, 32, 110, 111, 116, 32, 110, 32, 61, 32, 34, 53, 34]))], none⟩, ⟨some 12, .mov (.t 13), none⟩, ⟨some 14, .ext (.t 12) 0, none⟩, ⟨some 15, .ext (.t 12) 1, none⟩, ⟨some 16, .ext (.t 12) 2, none⟩, ⟨some 1, .lalloc [(.i .i64 0), (.s []), (.s []), (.sl [] 0 .nil)] [1, 59], none⟩, ⟨none, .store 4 (.t 1) (.t 14), none⟩, ⟨some 2, .mov (.t 15), none⟩, ⟨some 3, .mov (.t 16), none⟩])
 (.seq (.reg [⟨some 18, .load true 4 (.t 1), none⟩, ⟨some 19, .call true 16 [(.t 18)], none⟩, ⟨some 17, .mov (.t 19), none⟩, ⟨some 20, .ext (.t 17) 0, none⟩, ⟨some 21, .ext (.t 17) 1, none⟩, ⟨some 4, .mov (.t 20), none⟩, ⟨some 5, .mov (.t 21), none⟩])
 (.seq (.reg [⟨some 23, .call true 19 [(.k (.s [97, 32, 61, 32, 34, 49, 34, 32, 98]))], none⟩, ⟨some 22, .mov (.t 23), none⟩, ⟨some 24, .ext (.t 22) 0, none⟩, ⟨some 25, .ext (.t 22) 1, none⟩, ⟨some 26, .ext (.t 22) 2, none⟩, ⟨some 6, .lalloc [(.i .i64 0), (.s []), (.s []), (.sl [] 0 .nil)] [6], none⟩, ⟨none, .store 4 (.t 6) (.t 24), none⟩, ⟨some 7, .mov (.t 25), none⟩, ⟨some 8, .mov (.t 26), none⟩])
 (.seq (.reg [⟨some 28, .call true 19 [(.k (.s [40, 97, 32, 61, 32, 34, 49, 34]))], none⟩, ⟨some 27, .mov (.t 28), none⟩, ⟨some 29, .ext (.t 27) 0, none⟩, ⟨some 30, .ext (.t 27) 1, none⟩, ⟨some 31, .ext (.t 27) 2, none⟩, ⟨some 9, .lalloc [(.i .i64 0), (.s []), (.s []), (.sl [] 0 .nil)] [9], none⟩, ⟨none, .store 4 (.t 9) (.t 29), none⟩, ⟨some 10, .mov (.t 30), none⟩, ⟨some 11, .mov (.t 31), none⟩])
 (.seq (.reg [⟨some 32, .mov (.t 3), none⟩, ⟨some 33, .bin .eql (.t 32) (.k (.i .i64 0)), none⟩, ⟨some 34, .mov (.t 33), none⟩, ⟨some 35, .mov (.t 5), some (34, true)⟩,
 ⟨some 36, .bin .eql (.t 35) (.k (.i .i64 0)), some (34, true)⟩,
 ⟨some 37, .pick (.t 34) (.t 36) (.k (.b false)), none⟩, ⟨some 38, .mov (.t 37), none⟩, ⟨some 39, .mov (.t 4), some (38, true)⟩,
 ⟨some 40, .bin .eql (.t 39) (.k (.s [107, 101, 121, 32, 94, 32, 34, 97, 34, 32, 97, 110, 100, 32, 110, 111, 116, 32, 110, 32, 61, 32, 34, 53, 34])), some (38, true)⟩,
 ⟨some 41, .pick (.t 38) (.t 40) (.k (.b false)), none⟩, ⟨some 42, .mov (.t 41), none⟩, ⟨some 43, .mov (.t 7), some (42, true)⟩,
 ⟨some 44, .bin .eql (.t 43) (.k (.i .i64 8)), some (42, true)⟩,
 ⟨some 45, .pick (.t 42) (.t 44) (.k (.b false)), none⟩, ⟨some 46, .mov (.t 45), none⟩, ⟨some 47, .mov (.t 8), some (46, true)⟩,
 ⟨some 48, .bin .eql (.t 47) (.k (.i .i64 3)), some (46, true)⟩,
 ⟨some 49, .pick (.t 46) (.t 48) (.k (.b false)), none⟩, ⟨some 50, .mov (.t 49), none⟩, ⟨some 51, .mov (.t 10), some (50, true)⟩,
 ⟨some 52, .bin .eql (.t 51) (.k (.i .i64 8)), some (50, true)⟩,
 ⟨some 53, .pick (.t 50) (.t 52) (.k (.b false)), none⟩, ⟨some 54, .mov (.t 53), none⟩, ⟨some 55, .mov (.t 11), some (54, true)⟩,
 ⟨some 56, .bin .eql (.t 55) (.k (.i .i64 192)), some (54, true)⟩,
 ⟨some 57, .pick (.t 54) (.t 56) (.k (.b false)), none⟩, ⟨some 58, .mov (.t 57), none⟩, ⟨some 59, .faddr 3 (.t 1), some (58, true)⟩,
 ⟨some 60, .load false 1 (.t 59), some (58, true)⟩,
 ⟨some 61, .len .slice (.t 60), some (58, true)⟩,
 ⟨some 62, .bin .eql (.t 61) (.k (.i .i64 2)), some (58, true)⟩,
 ⟨some 63, .pick (.t 58) (.t 62) (.k (.b false)), none⟩, ⟨some 0, .mov (.t 63), none⟩])
 .ret))))))
/-- tidemark/tidemarklaw08.awake -/
def af14 : AFunc := { n := 64, depth := 7, kl := [(1, [1, 59]), (6, [6]), (9, [9])], res := [.tmp 0], body := B14 }

def B16 : AC := (.seq (.reg [⟨some 1, .lbox (.t 0) [1], none⟩, ⟨some 2, .mov (.k (.s [])), none⟩, ⟨some 3, .mov (.k (.i .i64 0)), none⟩])
 (.seq (.seq (.reg [⟨some 5, .load true 4 (.t 1), none⟩, ⟨some 6, .call true 18 [(.t 5)], none⟩, ⟨some 4, .mov (.t 6), none⟩])
 (.seq (.reg [⟨some 7, .mov (.t 4), none⟩, ⟨some 8, .bin .neq (.t 7) (.k (.i .i64 0)), none⟩])
 (.cond (.t 8)
 (.seq (.reg [⟨some 9, .mov (.t 4), none⟩, ⟨some 2, .mov (.k (.s [])), none⟩, ⟨some 3, .mov (.t 9), none⟩])
 .ret)
 .skip)))
 (.seq (.reg [⟨some 10, .load true 4 (.t 1), none⟩, ⟨some 11, .call true 38 [(.t 10)], none⟩, ⟨some 2, .mov (.t 11), none⟩, ⟨some 3, .mov (.k (.i .i64 0)), none⟩])
 .ret)))
/-- tidemark/lang.Print -/
def af16 : AFunc := { n := 12, depth := 4, kl := [(1, [1])], res := [.tmp 2, .tmp 3], body := B16 }

def B18 : AC := (.seq (.reg [⟨some 1, .lbox (.t 0) [1], none⟩, ⟨some 2, .mov (.k (.i .i64 0)), none⟩])
 (.seq (.reg [⟨some 6, .load true 4 (.t 1), none⟩, ⟨some 7, .call false 41 [(.t 6)], none⟩, ⟨some 5, .mov (.t 7), none⟩, ⟨some 8, .ext (.t 5) 0, none⟩, ⟨some 9, .ext (.t 5) 1, none⟩, ⟨some 3, .mov (.t 8), none⟩, ⟨some 4, .mov (.t 9), none⟩])
 (.seq (.reg [⟨some 10, .mov (.t 4), none⟩, ⟨some 2, .mov (.t 10), none⟩])
 .ret)))
/-- tidemark/filter.Check -/
def af18 : AFunc := { n := 11, depth := 4, kl := [(1, [1])], res := [.tmp 2], body := B18 }

def B19 : AC := (.seq (.reg [⟨some 2, .lalloc [(.i .i64 0), (.s []), (.s []), (.sl [] 0 .nil)] [2], none⟩, ⟨some 3, .mov (.k (.i .i64 0)), none⟩, ⟨some 4, .mov (.k (.i .i64 0)), none⟩])
 (.seq (.reg [⟨some 10, .mov (.t 0), none⟩, ⟨some 11, .call false 42 [(.t 10)], none⟩, ⟨some 9, .mov (.t 11), none⟩, ⟨some 12, .ext (.t 9) 0, none⟩, ⟨some 13, .ext (.t 9) 1, none⟩, ⟨some 14, .ext (.t 9) 2, none⟩, ⟨some 5, .mov (.t 12), none⟩, ⟨some 6, .mov (.t 13), none⟩, ⟨some 7, .mov (.t 14), none⟩])
 (.seq (.seq (.reg [⟨some 15, .mov (.t 7), none⟩, ⟨some 16, .bin .neq (.t 15) (.k (.i .i64 0)), none⟩])
 (.cond (.t 16)
 (.seq (.reg [⟨some 17, .build [(.i .i64 0), (.s []), (.s []), (.sl [] 0 .nil)] [], none⟩, ⟨some 18, .mov (.t 6), none⟩, ⟨some 19, .mov (.t 7), none⟩, ⟨none, .store 4 (.t 2) (.t 17), none⟩, ⟨some 3, .mov (.t 18), none⟩, ⟨some 4, .mov (.t 19), none⟩])
 .ret)
 .skip))
 (.seq (.reg [⟨some 21, .mov (.t 5), none⟩, ⟨some 22, .call false 22 [(.t 21)], none⟩, ⟨some 20, .mov (.t 22), none⟩, ⟨some 23, .ext (.t 20) 0, none⟩, ⟨some 24, .ext (.t 20) 1, none⟩, ⟨some 25, .ext (.t 20) 2, none⟩, ⟨some 8, .lalloc [(.i .i64 0), (.s []), (.s []), (.sl [] 0 .nil)] [8], none⟩, ⟨none, .store 4 (.t 8) (.t 23), none⟩, ⟨some 6, .mov (.t 24), none⟩, ⟨some 7, .mov (.t 25), none⟩])
 (.seq (.seq (.reg [⟨some 26, .mov (.t 7), none⟩, ⟨some 27, .bin .eql (.t 26) (.k (.i .i64 0)), none⟩, ⟨some 28, .mov (.t 27), none⟩, ⟨some 29, .mov (.t 5), some (28, true)⟩,
 ⟨some 30, .call false 23 [(.t 29)], some (28, true)⟩,
 ⟨some 31, .fld false 0 1 (.t 30), some (28, true)⟩,
 ⟨some 32, .bin .neq (.t 31) (.k (.i .i64 0)), some (28, true)⟩,
 ⟨some 33, .pick (.t 28) (.t 32) (.k (.b false)), none⟩])
 (.cond (.t 33)
 (.seq (.reg [⟨some 34, .build [(.i .i64 0), (.s []), (.s []), (.sl [] 0 .nil)] [], none⟩, ⟨some 35, .mov (.t 5), none⟩, ⟨some 36, .call false 23 [(.t 35)], none⟩, ⟨some 37, .fld false 2 1 (.t 36), none⟩, ⟨none, .store 4 (.t 2) (.t 34), none⟩, ⟨some 3, .mov (.t 37), none⟩, ⟨some 4, .mov (.k (.i .i64 3)), none⟩])
 .ret)
 .skip))
 (.seq (.reg [⟨some 38, .load true 4 (.t 8), none⟩, ⟨some 39, .mov (.t 6), none⟩, ⟨some 40, .mov (.t 7), none⟩, ⟨none, .store 4 (.t 2) (.t 38), none⟩, ⟨some 3, .mov (.t 39), none⟩, ⟨some 4, .mov (.t 40), none⟩])
 .ret))))))
/-- tidemark/lang.Parse -/
def af19 : AFunc := { n := 41, depth := 6, kl := [(2, [2]), (8, [8])], res := [.cell 2 true 4, .tmp 3, .tmp 4], body := B19 }

def L20_1 : AC := (.seq (.reg [⟨some 38, .bin .lss (.t 37) (.t 36), none⟩])
 (.seq (.cond (.t 38)
 .skip
 (.exit 0))
 (.seq (.blk 1 (.seq (.reg [⟨some 39, .mov (.t 37), none⟩, ⟨some 5, .mov (.t 39), none⟩])
 (.seq (.reg [⟨some 40, .faddr 3 (.t 2), none⟩, ⟨some 41, .load false 1 (.t 40), none⟩, ⟨some 42, .mov (.t 5), none⟩, ⟨some 43, .iaddr (.slice 4) (.t 41) (.t 42), none⟩, ⟨some 44, .load true 4 (.t 43), none⟩, ⟨some 45, .faddr 3 (.t 3), none⟩, ⟨some 46, .load false 1 (.t 45), none⟩, ⟨some 47, .mov (.t 5), none⟩, ⟨some 48, .iaddr (.slice 4) (.t 46) (.t 47), none⟩, ⟨some 49, .load true 4 (.t 48), none⟩, ⟨some 50, .call true 20 [(.t 44), (.t 49)], none⟩, ⟨some 51, .un .not (.t 50), none⟩])
 (.cond (.t 51)
 (.seq (.reg [⟨some 4, .mov (.k (.b false)), none⟩])
 .ret)
 .skip))))
 (.reg [⟨some 52, .bin .add (.t 37) (.k (.i .i64 1)), none⟩, ⟨some 37, .mov (.t 52), none⟩]))))
def B20 : AC := (.seq (.reg [⟨some 2, .lbox (.t 0) [2, 6, 12, 19, 26, 34, 40], none⟩, ⟨some 3, .lbox (.t 1) [3, 8, 14, 21, 29, 45], none⟩, ⟨some 4, .mov (.k (.b false)), none⟩])
 (.seq (.seq (.reg [⟨some 6, .faddr 0 (.t 2), none⟩, ⟨some 7, .load false 1 (.t 6), none⟩, ⟨some 8, .faddr 0 (.t 3), none⟩, ⟨some 9, .load false 1 (.t 8), none⟩, ⟨some 10, .bin .neq (.t 7) (.t 9), none⟩, ⟨some 11, .mov (.t 10), none⟩, ⟨some 12, .faddr 1 (.t 2), some (11, false)⟩,
 ⟨some 13, .load false 1 (.t 12), some (11, false)⟩,
 ⟨some 14, .faddr 1 (.t 3), some (11, false)⟩,
 ⟨some 15, .load false 1 (.t 14), some (11, false)⟩,
 ⟨some 16, .bin .neq (.t 13) (.t 15), some (11, false)⟩,
 ⟨some 17, .pick (.t 11) (.k (.b true)) (.t 16), none⟩, ⟨some 18, .mov (.t 17), none⟩, ⟨some 19, .faddr 2 (.t 2), some (18, false)⟩,
 ⟨some 20, .load false 1 (.t 19), some (18, false)⟩,
 ⟨some 21, .faddr 2 (.t 3), some (18, false)⟩,
 ⟨some 22, .load false 1 (.t 21), some (18, false)⟩,
 ⟨some 23, .bin .neq (.t 20) (.t 22), some (18, false)⟩,
 ⟨some 24, .pick (.t 18) (.k (.b true)) (.t 23), none⟩, ⟨some 25, .mov (.t 24), none⟩, ⟨some 26, .faddr 3 (.t 2), some (25, false)⟩,
 ⟨some 27, .load false 1 (.t 26), some (25, false)⟩,
 ⟨some 28, .len .slice (.t 27), some (25, false)⟩,
 ⟨some 29, .faddr 3 (.t 3), some (25, false)⟩,
 ⟨some 30, .load false 1 (.t 29), some (25, false)⟩,
 ⟨some 31, .len .slice (.t 30), some (25, false)⟩,
 ⟨some 32, .bin .neq (.t 28) (.t 31), some (25, false)⟩,
 ⟨some 33, .pick (.t 25) (.k (.b true)) (.t 32), none⟩])
 (.cond (.t 33)
 (.seq (.reg [⟨some 4, .mov (.k (.b false)), none⟩])
 .ret)
 .skip))
 (.seq (.seq (.reg [⟨some 34, .faddr 3 (.t 2), none⟩, ⟨some 35, .load false 1 (.t 34), none⟩, ⟨some 36, .len .slice (.t 35), none⟩, ⟨some 37, .mov (.k (.i .i64 0)), none⟩])
 (.blk 0 (.loop L20_1)))
 (.seq (.reg [⟨some 4, .mov (.k (.b true)), none⟩])
 .ret))))
/-- tidemark/tidemarkref07.Same -/
def af20 : AFunc := { n := 53, depth := 6, kl := [(2, [2, 6, 12, 19, 26, 34, 40]), (3, [3, 8, 14, 21, 29, 45])], res := [.tmp 4], body := B20 }

def L21_1 : AC := (.seq (.seq (.reg [⟨some 12, .mov (.t 6), none⟩, ⟨some 13, .mov (.t 0), none⟩, ⟨some 14, .len .str (.t 13), none⟩, ⟨some 15, .bin .lss (.t 12) (.t 14), none⟩])
 (.cond (.t 15)
 .skip
 (.exit 0)))
 (.blk 1 (.seq (.reg [⟨some 17, .mov (.t 0), none⟩, ⟨some 18, .mov (.t 6), none⟩, ⟨some 19, .slc .str (.t 17) (some (.t 18)) none none, none⟩, ⟨some 20, .call true 43 [(.t 19)], none⟩, ⟨some 16, .mov (.t 20), none⟩, ⟨some 21, .ext (.t 16) 0, none⟩, ⟨some 22, .ext (.t 16) 1, none⟩, ⟨some 7, .mov (.t 21), none⟩, ⟨some 8, .mov (.t 22), none⟩])
 (.seq (.reg [⟨some 23, .mov (.t 6), none⟩, ⟨some 24, .build [(.i .i64 0), (.s []), (.i .i64 0)] [(2, 1, (.t 23))], none⟩, ⟨some 9, .lalloc [(.i .i64 0), (.s []), (.i .i64 0)] [9, 46, 47, 61, 62, 76, 77, 108, 109, 119, 120], none⟩, ⟨none, .store 3 (.t 9) (.t 24), none⟩])
 (.seq (.blk 2 (.seq (.reg [⟨some 27, .mov (.t 7), none⟩, ⟨some 28, .bin .eql (.t 27) (.k (.i .i32 32)), none⟩, ⟨some 26, .mov (.t 28), none⟩])
 (.cond (.t 26)
 (.seq (.reg [⟨some 29, .mov (.t 6), none⟩, ⟨some 30, .bin .add (.t 29) (.k (.i .i64 1)), none⟩, ⟨some 6, .mov (.t 30), none⟩])
 (.exit 1))
 (.seq (.reg [⟨some 32, .mov (.t 7), none⟩, ⟨some 33, .bin .eql (.t 32) (.k (.i .i32 34)), none⟩, ⟨some 31, .mov (.t 33), none⟩])
 (.cond (.t 31)
 (.seq (.reg [⟨some 35, .mov (.t 0), none⟩, ⟨some 36, .mov (.t 6), none⟩, ⟨some 37, .slc .str (.t 35) (some (.t 36)) none none, none⟩, ⟨some 38, .call true 44 [(.t 37)], none⟩, ⟨some 34, .mov (.t 38), none⟩, ⟨some 39, .ext (.t 34) 0, none⟩, ⟨some 40, .ext (.t 34) 1, none⟩, ⟨some 10, .mov (.t 39), none⟩, ⟨some 11, .mov (.t 40), none⟩])
 (.seq (.seq (.reg [⟨some 41, .mov (.t 11), none⟩, ⟨some 42, .bin .eql (.t 41) (.k (.i .i64 0)), none⟩])
 (.cond (.t 42)
 (.seq (.reg [⟨some 43, .mov (.t 6), none⟩, ⟨some 2, .movnil 45, none⟩, ⟨some 3, .mov (.t 43), none⟩, ⟨some 4, .mov (.k (.i .i64 191)), none⟩])
 .ret)
 .skip))
 (.reg [⟨some 44, .mov (.t 10), none⟩, ⟨some 45, .mov (.t 11), none⟩, ⟨some 46, .faddr 0 (.t 9), none⟩, ⟨none, .store 1 (.t 46) (.k (.i .i64 2)), none⟩, ⟨some 47, .faddr 1 (.t 9), none⟩, ⟨none, .store 1 (.t 47) (.t 44), none⟩, ⟨some 8, .mov (.t 45), none⟩])))
 (.seq (.reg [⟨some 49, .mov (.t 7), none⟩, ⟨some 50, .call true 45 [(.t 49)], none⟩, ⟨some 48, .mov (.t 50), none⟩])
 (.cond (.t 48)
 (.seq (.reg [⟨some 51, .mov (.t 0), none⟩, ⟨some 52, .mov (.t 6), none⟩, ⟨some 53, .slc .str (.t 51) (some (.t 52)) none none, none⟩, ⟨some 54, .call true 46 [(.t 53), (.f 45)], none⟩, ⟨some 8, .mov (.t 54), none⟩])
 (.reg [⟨some 55, .mov (.t 0), none⟩, ⟨some 56, .mov (.t 6), none⟩, ⟨some 57, .mov (.t 6), none⟩, ⟨some 58, .mov (.t 8), none⟩, ⟨some 59, .bin .add (.t 57) (.t 58), none⟩, ⟨some 60, .slc .str (.t 55) (some (.t 56)) (some (.t 59)) none, none⟩, ⟨some 61, .faddr 0 (.t 9), none⟩, ⟨none, .store 1 (.t 61) (.k (.i .i64 1)), none⟩, ⟨some 62, .faddr 1 (.t 9), none⟩, ⟨none, .store 1 (.t 62) (.t 60), none⟩]))
 (.seq (.reg [⟨some 64, .mov (.t 7), none⟩, ⟨some 65, .call true 47 [(.t 64)], none⟩, ⟨some 63, .mov (.t 65), none⟩])
 (.cond (.t 63)
 (.seq (.reg [⟨some 66, .mov (.t 0), none⟩, ⟨some 67, .mov (.t 6), none⟩, ⟨some 68, .slc .str (.t 66) (some (.t 67)) none none, none⟩, ⟨some 69, .call true 46 [(.t 68), (.f 47)], none⟩, ⟨some 8, .mov (.t 69), none⟩])
 (.reg [⟨some 70, .mov (.t 0), none⟩, ⟨some 71, .mov (.t 6), none⟩, ⟨some 72, .mov (.t 6), none⟩, ⟨some 73, .mov (.t 8), none⟩, ⟨some 74, .bin .add (.t 72) (.t 73), none⟩, ⟨some 75, .slc .str (.t 70) (some (.t 71)) (some (.t 74)) none, none⟩, ⟨some 76, .faddr 0 (.t 9), none⟩, ⟨none, .store 1 (.t 76) (.k (.i .i64 3)), none⟩, ⟨some 77, .faddr 1 (.t 9), none⟩, ⟨none, .store 1 (.t 77) (.t 75), none⟩]))
 (.seq (.reg [⟨some 79, .mov (.t 7), none⟩, ⟨some 80, .bin .eql (.t 79) (.k (.i .i32 45)), none⟩, ⟨some 81, .mov (.t 80), none⟩, ⟨some 82, .mov (.t 6), some (81, true)⟩,
 ⟨some 83, .bin .add (.t 82) (.k (.i .i64 1)), some (81, true)⟩,
 ⟨some 84, .mov (.t 0), some (81, true)⟩,
 ⟨some 85, .len .str (.t 84), some (81, true)⟩,
 ⟨some 86, .bin .lss (.t 83) (.t 85), some (81, true)⟩,
 ⟨some 87, .pick (.t 81) (.t 86) (.k (.b false)), none⟩, ⟨some 88, .mov (.t 87), none⟩, ⟨some 89, .mov (.t 0), some (88, true)⟩,
 ⟨some 90, .mov (.t 6), some (88, true)⟩,
 ⟨some 91, .bin .add (.t 90) (.k (.i .i64 1)), some (88, true)⟩,
 ⟨some 92, .idx .str (.t 89) (.t 91), some (88, true)⟩,
 ⟨some 93, .conv (.int .i32) (.t 92), some (88, true)⟩,
 ⟨some 94, .call true 47 [(.t 93)], some (88, true)⟩,
 ⟨some 95, .pick (.t 88) (.t 94) (.k (.b false)), none⟩, ⟨some 78, .mov (.t 95), none⟩])
 (.cond (.t 78)
 (.seq (.reg [⟨some 96, .mov (.t 0), none⟩, ⟨some 97, .mov (.t 6), none⟩, ⟨some 98, .bin .add (.t 97) (.k (.i .i64 1)), none⟩, ⟨some 99, .slc .str (.t 96) (some (.t 98)) none none, none⟩, ⟨some 100, .call true 46 [(.t 99), (.f 47)], none⟩, ⟨some 101, .bin .add (.k (.i .i64 1)) (.t 100), none⟩, ⟨some 8, .mov (.t 101), none⟩])
 (.reg [⟨some 102, .mov (.t 0), none⟩, ⟨some 103, .mov (.t 6), none⟩, ⟨some 104, .mov (.t 6), none⟩, ⟨some 105, .mov (.t 8), none⟩, ⟨some 106, .bin .add (.t 104) (.t 105), none⟩, ⟨some 107, .slc .str (.t 102) (some (.t 103)) (some (.t 106)) none, none⟩, ⟨some 108, .faddr 0 (.t 9), none⟩, ⟨none, .store 1 (.t 108) (.k (.i .i64 3)), none⟩, ⟨some 109, .faddr 1 (.t 9), none⟩, ⟨none, .store 1 (.t 109) (.t 107), none⟩]))
 (.seq (.reg [⟨some 111, .mov (.t 7), none⟩, ⟨some 112, .call true 48 [(.t 111)], none⟩, ⟨some 110, .mov (.t 112), none⟩])
 (.cond (.t 110)
 (.reg [⟨some 113, .mov (.t 0), none⟩, ⟨some 114, .mov (.t 6), none⟩, ⟨some 115, .mov (.t 6), none⟩, ⟨some 116, .mov (.t 8), none⟩, ⟨some 117, .bin .add (.t 115) (.t 116), none⟩, ⟨some 118, .slc .str (.t 113) (some (.t 114)) (some (.t 117)) none, none⟩, ⟨some 119, .faddr 0 (.t 9), none⟩, ⟨none, .store 1 (.t 119) (.k (.i .i64 4)), none⟩, ⟨some 120, .faddr 1 (.t 9), none⟩, ⟨none, .store 1 (.t 120) (.t 118), none⟩])
 (.seq (.reg [⟨some 25, .mov (.t 6), none⟩, ⟨some 2, .movnil 45, none⟩, ⟨some 3, .mov (.t 25), none⟩, ⟨some 4, .mov (.k (.i .i64 190)), none⟩])
 .ret))))))))))))))
 (.seq (.reg [⟨some 121, .mov (.t 5), none⟩, ⟨some 122, .load true 3 (.t 9), none⟩, ⟨some 123, .bslice false 45 3 1 [(.i .i64 0), (.s []), (.i .i64 0)] [(0, (.t 122))], none⟩, ⟨some 124, .app 45 3 (.t 121) (.t 123), none⟩, ⟨some 5, .mov (.t 124), none⟩])
 (.reg [⟨some 125, .mov (.t 6), none⟩, ⟨some 126, .mov (.t 8), none⟩, ⟨some 127, .bin .add (.t 125) (.t 126), none⟩, ⟨some 6, .mov (.t 127), none⟩])))))))
def B21 : AC := (.seq (.reg [⟨some 2, .movnil 45, none⟩, ⟨some 3, .mov (.k (.i .i64 0)), none⟩, ⟨some 4, .mov (.k (.i .i64 0)), none⟩])
 (.seq (.reg [⟨some 5, .movnil 45, none⟩])
 (.seq (.seq (.reg [⟨some 6, .mov (.k (.i .i64 0)), none⟩])
 (.blk 0 (.loop L21_1)))
 (.seq (.reg [⟨some 128, .mov (.t 5), none⟩, ⟨some 2, .mov (.t 128), none⟩, ⟨some 3, .mov (.k (.i .i64 0)), none⟩, ⟨some 4, .mov (.k (.i .i64 0)), none⟩])
 .ret))))
/-- tidemark/lang.Tokens -/
def af21 : AFunc := { n := 129, depth := 8, kl := [(9, [9, 46, 47, 61, 62, 76, 77, 108, 109, 119, 120])], res := [.tmp 2, .tmp 3, .tmp 4], body := B21 }

def B22 : AC := (.seq (.reg [⟨some 2, .lalloc [(.i .i64 0), (.s []), (.s []), (.sl [] 0 .nil)] [2], none⟩, ⟨some 3, .mov (.k (.i .i64 0)), none⟩, ⟨some 4, .mov (.k (.i .i64 0)), none⟩])
 (.seq (.seq (.reg [⟨some 8, .mov (.t 0), none⟩, ⟨some 9, .eq false .ptr (.t 8) (.k .nilp), none⟩, ⟨some 10, .mov (.t 9), none⟩, ⟨some 11, .mov (.t 0), some (10, false)⟩,
 ⟨some 12, .nilck (.t 11), some (10, false)⟩,
 ⟨some 13, .faddr 3 (.t 12), some (10, false)⟩,
 ⟨some 14, .load false 1 (.t 13), some (10, false)⟩,
 ⟨some 15, .un .not (.t 14), some (10, false)⟩,
 ⟨some 16, .pick (.t 10) (.k (.b true)) (.t 15), none⟩])
 (.cond (.t 16)
 (.seq (.reg [⟨some 17, .build [(.i .i64 0), (.s []), (.s []), (.sl [] 0 .nil)] [], none⟩, ⟨none, .store 4 (.t 2) (.t 17), none⟩, ⟨some 3, .mov (.k (.i .i64 0)), none⟩, ⟨some 4, .mov (.k (.i .i64 6)), none⟩])
 .ret)
 .skip))
 (.seq (.reg [⟨some 18, .mov (.t 0), none⟩, ⟨some 19, .call false 23 [(.t 18)], none⟩, ⟨some 20, .fld false 2 1 (.t 19), none⟩, ⟨some 5, .mov (.t 20), none⟩])
 (.seq (.reg [⟨some 22, .mov (.t 0), none⟩, ⟨some 23, .call false 49 [(.t 22), (.k (.i .i64 1)), (.k (.i .i64 1))], none⟩, ⟨some 21, .mov (.t 23), none⟩, ⟨some 24, .ext (.t 21) 0, none⟩, ⟨some 25, .ext (.t 21) 1, none⟩, ⟨some 6, .lalloc [(.i .i64 0), (.s []), (.s []), (.sl [] 0 .nil)] [6], none⟩, ⟨none, .store 4 (.t 6) (.t 24), none⟩, ⟨some 7, .mov (.t 25), none⟩])
 (.seq (.seq (.reg [⟨some 26, .mov (.t 7), none⟩, ⟨some 27, .bin .neq (.t 26) (.k (.i .i64 0)), none⟩])
 (.cond (.t 27)
 (.seq (.reg [⟨some 28, .build [(.i .i64 0), (.s []), (.s []), (.sl [] 0 .nil)] [], none⟩, ⟨some 29, .mov (.t 0), none⟩, ⟨some 30, .call false 23 [(.t 29)], none⟩, ⟨some 31, .fld false 2 1 (.t 30), none⟩, ⟨some 32, .mov (.t 7), none⟩, ⟨none, .store 4 (.t 2) (.t 28), none⟩, ⟨some 3, .mov (.t 31), none⟩, ⟨some 4, .mov (.t 32), none⟩])
 .ret)
 .skip))
 (.seq (.seq (.reg [⟨some 33, .load true 4 (.t 6), none⟩, ⟨some 34, .call true 18 [(.t 33)], none⟩, ⟨some 7, .mov (.t 34), none⟩])
 (.seq (.reg [⟨some 35, .mov (.t 7), none⟩, ⟨some 36, .bin .neq (.t 35) (.k (.i .i64 0)), none⟩])
 (.cond (.t 36)
 (.seq (.reg [⟨some 37, .build [(.i .i64 0), (.s []), (.s []), (.sl [] 0 .nil)] [], none⟩, ⟨some 38, .mov (.t 5), none⟩, ⟨some 39, .mov (.t 7), none⟩, ⟨none, .store 4 (.t 2) (.t 37), none⟩, ⟨some 3, .mov (.t 38), none⟩, ⟨some 4, .mov (.t 39), none⟩])
 .ret)
 .skip)))
 (.seq (.reg [⟨some 40, .load true 4 (.t 6), none⟩, ⟨none, .store 4 (.t 2) (.t 40), none⟩, ⟨some 3, .mov (.k (.i .i64 0)), none⟩, ⟨some 4, .mov (.k (.i .i64 0)), none⟩])
 .ret)))))))
/-- (*tidemark/lang.Source).Filter -/
def af22 : AFunc := { n := 41, depth := 6, kl := [(2, [2]), (6, [6])], res := [.cell 2 true 4, .tmp 3, .tmp 4], body := B22 }

def B23 : AC := (.seq (.reg [⟨some 2, .lalloc [(.i .i64 0), (.s []), (.i .i64 0)] [2], none⟩])
 (.seq (.reg [⟨some 3, .mov (.t 0), none⟩, ⟨some 4, .call false 50 [(.t 3), (.k (.i .i64 0))], none⟩, ⟨none, .store 3 (.t 2) (.t 4), none⟩])
 .ret))
/-- (*tidemark/lang.Source).Peek -/
def af23 : AFunc := { n := 5, depth := 3, kl := [(2, [2])], res := [.cell 2 true 3], body := B23 }

def B24 : AC := (.seq (.reg [⟨some 2, .lalloc [(.i .i64 0), (.s []), (.i .i64 0)] [2], none⟩])
 (.seq (.reg [⟨some 4, .mov (.t 0), none⟩, ⟨some 5, .call false 23 [(.t 4)], none⟩, ⟨some 3, .lalloc [(.i .i64 0), (.s []), (.i .i64 0)] [3, 6], none⟩, ⟨none, .store 3 (.t 3) (.t 5), none⟩])
 (.seq (.seq (.reg [⟨some 6, .faddr 0 (.t 3), none⟩, ⟨some 7, .load false 1 (.t 6), none⟩, ⟨some 8, .bin .neq (.t 7) (.k (.i .i64 0)), none⟩])
 (.cond (.t 8)
 (.reg [⟨some 9, .mov (.t 0), none⟩, ⟨some 10, .nilck (.t 9), none⟩, ⟨some 11, .faddr 1 (.t 10), none⟩, ⟨some 12, .load false 1 (.t 11), none⟩, ⟨some 13, .bin .add (.t 12) (.k (.i .i64 1)), none⟩, ⟨some 14, .nilck (.t 9), none⟩, ⟨some 15, .faddr 1 (.t 14), none⟩, ⟨none, .store 1 (.t 15) (.t 13), none⟩])
 .skip))
 (.seq (.reg [⟨some 16, .load true 3 (.t 3), none⟩, ⟨none, .store 3 (.t 2) (.t 16), none⟩])
 .ret))))
/-- (*tidemark/lang.Source).Take -/
def af24 : AFunc := { n := 17, depth := 5, kl := [(2, [2]), (3, [3, 6])], res := [.cell 2 true 3], body := B24 }

def B25 : AC := (.seq (.reg [⟨some 6, .mov (.k (.b false)), none⟩])
 (.seq (.reg [⟨some 8, .mov (.t 0), none⟩, ⟨some 9, .call false 23 [(.t 8)], none⟩, ⟨some 7, .lalloc [(.i .i64 0), (.s []), (.i .i64 0)] [7, 10, 15], none⟩, ⟨none, .store 3 (.t 7) (.t 9), none⟩])
 (.seq (.seq (.reg [⟨some 10, .faddr 0 (.t 7), none⟩, ⟨some 11, .load false 1 (.t 10), none⟩, ⟨some 12, .mov (.t 1), none⟩, ⟨some 13, .bin .neq (.t 11) (.t 12), none⟩, ⟨some 14, .mov (.t 13), none⟩, ⟨some 15, .faddr 1 (.t 7), some (14, false)⟩,
 ⟨some 16, .load false 1 (.t 15), some (14, false)⟩,
 ⟨some 17, .mov (.t 2), some (14, false)⟩,
 ⟨some 18, .bin .neq (.t 16) (.t 17), some (14, false)⟩,
 ⟨some 19, .pick (.t 14) (.k (.b true)) (.t 18), none⟩, ⟨some 20, .mov (.t 19), none⟩, ⟨some 21, .mov (.t 1), some (20, false)⟩,
 ⟨some 22, .bin .eql (.t 21) (.k (.i .i64 0)), some (20, false)⟩,
 ⟨some 23, .pick (.t 20) (.k (.b true)) (.t 22), none⟩])
 (.cond (.t 23)
 (.seq (.reg [⟨some 6, .mov (.k (.b false)), none⟩])
 .ret)
 .skip))
 (.seq (.reg [⟨some 24, .mov (.t 0), none⟩, ⟨some 25, .call false 24 [(.t 24)], none⟩])
 (.seq (.reg [⟨some 6, .mov (.k (.b true)), none⟩])
 .ret)))))
/-- (*tidemark/lang.Source).Is -/
def af25 : AFunc := { n := 26, depth := 5, kl := [(7, [7, 10, 15])], res := [.tmp 6], body := B25 }

def L29_1 : AC := (.seq (.seq (.reg [⟨some 111, .call false 57 [(.t 9)], none⟩, ⟨some 112, .mov (.t 7), none⟩, ⟨some 113, .bin .lss (.t 111) (.t 112), none⟩])
 (.cond (.t 113)
 .skip
 (.exit 3)))
 (.blk 4 (.seq (.reg [⟨some 114, .mov (.t 7), none⟩, ⟨some 115, .call false 57 [(.t 9)], none⟩, ⟨some 116, .bin .sub (.t 114) (.t 115), none⟩, ⟨some 117, .call false 57 [(.t 9)], none⟩, ⟨some 118, .mov (.t 8), none⟩, ⟨some 119, .mm3 false (.t 116) (.t 117) (.t 118), none⟩, ⟨some 10, .mov (.t 119), none⟩])
 (.reg [⟨some 120, .call false 35 [(.t 9)], none⟩, ⟨some 121, .mov (.t 10), none⟩, ⟨some 122, .slc .str (.t 120) none (some (.t 121)) none, none⟩, ⟨some 123, .call false 33 [(.t 9), (.t 122)], none⟩]))))
def B29 : AC := (.seq (.reg [⟨some 4, .mov (.k (.s [])), none⟩])
 (.seq (.seq (.reg [⟨some 11, .mov (.t 1), none⟩])
 (.blk 0 (.seq (.reg [⟨some 13, .bin .eql (.t 11) (.k (.i .i64 0)), none⟩, ⟨some 12, .mov (.t 13), none⟩])
 (.cond (.t 12)
 (.seq (.reg [⟨some 4, .mov (.k (.s [])), none⟩])
 .ret)
 (.seq (.reg [⟨some 15, .bin .eql (.t 11) (.k (.i .i64 1)), none⟩, ⟨some 14, .mov (.t 15), none⟩])
 (.cond (.t 14)
 (.seq (.reg [⟨some 16, .mov (.t 0), none⟩, ⟨some 4, .mov (.t 16), none⟩])
 .ret)
 .skip))))))
 (.seq (.seq (.reg [⟨some 17, .mov (.t 1), none⟩, ⟨some 18, .bin .lss (.t 17) (.k (.i .i64 0)), none⟩])
 (.cond (.t 18)
 (.reg [⟨some 19, .mkif 9 (.k (.s [115, 116, 114, 105, 110, 103, 115, 58, 32, 110, 101, 103, 97, 116, 105, 118, 101, 32, 82, 101, 112, 101, 97, 116, 32, 99, 111, 117, 110, 116])), none⟩, ⟨none, .bad, none⟩])
 .skip))
 (.seq (.reg [⟨some 21, .mov (.t 0), none⟩, ⟨some 22, .len .str (.t 21), none⟩, ⟨some 23, .conv (.int .u64) (.t 22), none⟩, ⟨some 24, .mov (.t 1), none⟩, ⟨some 25, .conv (.int .u64) (.t 24), none⟩, ⟨some 26, .call true 54 [(.t 23), (.t 25)], none⟩, ⟨some 20, .mov (.t 26), none⟩, ⟨some 27, .ext (.t 20) 0, none⟩, ⟨some 28, .ext (.t 20) 1, none⟩, ⟨some 5, .mov (.t 27), none⟩, ⟨some 6, .mov (.t 28), none⟩])
 (.seq (.seq (.reg [⟨some 29, .mov (.t 5), none⟩, ⟨some 30, .bin .gtr (.t 29) (.k (.i .u64 0)), none⟩, ⟨some 31, .mov (.t 30), none⟩, ⟨some 32, .mov (.t 6), some (31, false)⟩,
 ⟨some 33, .bin .gtr (.t 32) (.k (.i .u64 9223372036854775807)), some (31, false)⟩,
 ⟨some 34, .pick (.t 31) (.k (.b true)) (.t 33), none⟩])
 (.cond (.t 34)
 (.reg [⟨some 35, .mkif 9 (.k (.s [115, 116, 114, 105, 110, 103, 115, 58, 32, 82, 101, 112, 101, 97, 116, 32, 111, 117, 116, 112, 117, 116, 32, 108, 101, 110, 103, 116, 104, 32, 111, 118, 101, 114, 102, 108, 111, 119])), none⟩, ⟨none, .bad, none⟩])
 .skip))
 (.seq (.reg [⟨some 36, .mov (.t 6), none⟩, ⟨some 37, .conv (.int .i64) (.t 36), none⟩, ⟨some 7, .mov (.t 37), none⟩])
 (.seq (.seq (.reg [⟨some 38, .mov (.t 0), none⟩, ⟨some 39, .len .str (.t 38), none⟩, ⟨some 40, .bin .eql (.t 39) (.k (.i .i64 0)), none⟩])
 (.cond (.t 40)
 (.seq (.reg [⟨some 4, .mov (.k (.s [])), none⟩])
 .ret)
 .skip))
 (.seq (.seq (.reg [⟨some 41, .mov (.t 0), none⟩, ⟨some 42, .idx .str (.t 41) (.k (.i .i64 0)), none⟩])
 (.blk 1 (.seq (.seq (.reg [⟨some 44, .bin .eql (.t 42) (.k (.i .u8 32)), none⟩, ⟨some 43, .mov (.t 44), none⟩])
 (.cond (.t 43)
 .skip
 (.seq (.reg [⟨some 45, .bin .eql (.t 42) (.k (.i .u8 45)), none⟩, ⟨some 43, .mov (.t 45), none⟩])
 (.cond (.t 43)
 .skip
 (.seq (.reg [⟨some 46, .bin .eql (.t 42) (.k (.i .u8 48)), none⟩, ⟨some 43, .mov (.t 46), none⟩])
 (.cond (.t 43)
 .skip
 (.seq (.reg [⟨some 47, .bin .eql (.t 42) (.k (.i .u8 61)), none⟩, ⟨some 43, .mov (.t 47), none⟩])
 (.cond (.t 43)
 .skip
 (.reg [⟨some 48, .bin .eql (.t 42) (.k (.i .u8 9)), none⟩, ⟨some 43, .mov (.t 48), none⟩])))))))))
 (.cond (.t 43)
 (.blk 2 (.seq (.reg [⟨some 50, .mov (.t 7), none⟩, ⟨some 51, .bin .leq (.t 50) (.k (.i .i64 128)), none⟩, ⟨some 52, .mov (.t 51), none⟩, ⟨some 53, .mov (.t 0), some (52, true)⟩,
 ⟨some 54, .call true 55 [(.k (.s [32, 32, 32, 32, 32, 32, 32, 32, 32, 32, 32, 32, 32, 32, 32, 32, 32, 32, 32, 32, 32, 32, 32, 32, 32, 32, 32, 32, 32, 32, 32, 32, 32, 32, 32, 32, 32, 32, 32, 32, 32, 32, 32, 32, 32, 32, 32, 32, 32, 32, 32, 32, 32, 32, 32, 32, 32, 32, 32, 32, 32, 32, 32, 32, 32, 32, 32, 32, 32, 32, 32, 32, 32, 32, 32, 32, 32, 32, 32, 32, 32, 32, 32, 32, 32, 32, 32, 32, 32, 32, 32, 32, 32, 32, 32, 32, 32, 32, 32, 32, 32, 32, 32, 32, 32, 32, 32, 32, 32, 32, 32, 32, 32, 32, 32, 32, 32, 32, 32, 32, 32, 32, 32, 32, 32, 32, 32, 32])), (.t 53)], some (52, true)⟩,
 ⟨some 55, .pick (.t 52) (.t 54) (.k (.b false)), none⟩, ⟨some 49, .mov (.t 55), none⟩])
 (.cond (.t 49)
 (.seq (.reg [⟨some 56, .mov (.t 7), none⟩, ⟨some 57, .slc .str (.k (.s [32, 32, 32, 32, 32, 32, 32, 32, 32, 32, 32, 32, 32, 32, 32, 32, 32, 32, 32, 32, 32, 32, 32, 32, 32, 32, 32, 32, 32, 32, 32, 32, 32, 32, 32, 32, 32, 32, 32, 32, 32, 32, 32, 32, 32, 32, 32, 32, 32, 32, 32, 32, 32, 32, 32, 32, 32, 32, 32, 32, 32, 32, 32, 32, 32, 32, 32, 32, 32, 32, 32, 32, 32, 32, 32, 32, 32, 32, 32, 32, 32, 32, 32, 32, 32, 32, 32, 32, 32, 32, 32, 32, 32, 32, 32, 32, 32, 32, 32, 32, 32, 32, 32, 32, 32, 32, 32, 32, 32, 32, 32, 32, 32, 32, 32, 32, 32, 32, 32, 32, 32, 32, 32, 32, 32, 32, 32, 32])) none (some (.t 56)) none, none⟩, ⟨some 4, .mov (.t 57), none⟩])
 .ret)
 (.seq (.reg [⟨some 59, .mov (.t 7), none⟩, ⟨some 60, .bin .leq (.t 59) (.k (.i .i64 128)), none⟩, ⟨some 61, .mov (.t 60), none⟩, ⟨some 62, .mov (.t 0), some (61, true)⟩,
 ⟨some 63, .call true 55 [(.k (.s [45, 45, 45, 45, 45, 45, 45, 45, 45, 45, 45, 45, 45, 45, 45, 45, 45, 45, 45, 45, 45, 45, 45, 45, 45, 45, 45, 45, 45, 45, 45, 45, 45, 45, 45, 45, 45, 45, 45, 45, 45, 45, 45, 45, 45, 45, 45, 45, 45, 45, 45, 45, 45, 45, 45, 45, 45, 45, 45, 45, 45, 45, 45, 45, 45, 45, 45, 45, 45, 45, 45, 45, 45, 45, 45, 45, 45, 45, 45, 45, 45, 45, 45, 45, 45, 45, 45, 45, 45, 45, 45, 45, 45, 45, 45, 45, 45, 45, 45, 45, 45, 45, 45, 45, 45, 45, 45, 45, 45, 45, 45, 45, 45, 45, 45, 45, 45, 45, 45, 45, 45, 45, 45, 45, 45, 45, 45, 45])), (.t 62)], some (61, true)⟩,
 ⟨some 64, .pick (.t 61) (.t 63) (.k (.b false)), none⟩, ⟨some 58, .mov (.t 64), none⟩])
 (.cond (.t 58)
 (.seq (.reg [⟨some 65, .mov (.t 7), none⟩, ⟨some 66, .slc .str (.k (.s [45, 45, 45, 45, 45, 45, 45, 45, 45, 45, 45, 45, 45, 45, 45, 45, 45, 45, 45, 45, 45, 45, 45, 45, 45, 45, 45, 45, 45, 45, 45, 45, 45, 45, 45, 45, 45, 45, 45, 45, 45, 45, 45, 45, 45, 45, 45, 45, 45, 45, 45, 45, 45, 45, 45, 45, 45, 45, 45, 45, 45, 45, 45, 45, 45, 45, 45, 45, 45, 45, 45, 45, 45, 45, 45, 45, 45, 45, 45, 45, 45, 45, 45, 45, 45, 45, 45, 45, 45, 45, 45, 45, 45, 45, 45, 45, 45, 45, 45, 45, 45, 45, 45, 45, 45, 45, 45, 45, 45, 45, 45, 45, 45, 45, 45, 45, 45, 45, 45, 45, 45, 45, 45, 45, 45, 45, 45, 45])) none (some (.t 65)) none, none⟩, ⟨some 4, .mov (.t 66), none⟩])
 .ret)
 (.seq (.reg [⟨some 68, .mov (.t 7), none⟩, ⟨some 69, .bin .leq (.t 68) (.k (.i .i64 64)), none⟩, ⟨some 70, .mov (.t 69), none⟩, ⟨some 71, .mov (.t 0), some (70, true)⟩,
 ⟨some 72, .call true 55 [(.k (.s [48, 48, 48, 48, 48, 48, 48, 48, 48, 48, 48, 48, 48, 48, 48, 48, 48, 48, 48, 48, 48, 48, 48, 48, 48, 48, 48, 48, 48, 48, 48, 48, 48, 48, 48, 48, 48, 48, 48, 48, 48, 48, 48, 48, 48, 48, 48, 48, 48, 48, 48, 48, 48, 48, 48, 48, 48, 48, 48, 48, 48, 48, 48, 48])), (.t 71)], some (70, true)⟩,
 ⟨some 73, .pick (.t 70) (.t 72) (.k (.b false)), none⟩, ⟨some 67, .mov (.t 73), none⟩])
 (.cond (.t 67)
 (.seq (.reg [⟨some 74, .mov (.t 7), none⟩, ⟨some 75, .slc .str (.k (.s [48, 48, 48, 48, 48, 48, 48, 48, 48, 48, 48, 48, 48, 48, 48, 48, 48, 48, 48, 48, 48, 48, 48, 48, 48, 48, 48, 48, 48, 48, 48, 48, 48, 48, 48, 48, 48, 48, 48, 48, 48, 48, 48, 48, 48, 48, 48, 48, 48, 48, 48, 48, 48, 48, 48, 48, 48, 48, 48, 48, 48, 48, 48, 48])) none (some (.t 74)) none, none⟩, ⟨some 4, .mov (.t 75), none⟩])
 .ret)
 (.seq (.reg [⟨some 77, .mov (.t 7), none⟩, ⟨some 78, .bin .leq (.t 77) (.k (.i .i64 128)), none⟩, ⟨some 79, .mov (.t 78), none⟩, ⟨some 80, .mov (.t 0), some (79, true)⟩,
 ⟨some 81, .call true 55 [(.k (.s [61, 61, 61, 61, 61, 61, 61, 61, 61, 61, 61, 61, 61, 61, 61, 61, 61, 61, 61, 61, 61, 61, 61, 61, 61, 61, 61, 61, 61, 61, 61, 61, 61, 61, 61, 61, 61, 61, 61, 61, 61, 61, 61, 61, 61, 61, 61, 61, 61, 61, 61, 61, 61, 61, 61, 61, 61, 61, 61, 61, 61, 61, 61, 61, 61, 61, 61, 61, 61, 61, 61, 61, 61, 61, 61, 61, 61, 61, 61, 61, 61, 61, 61, 61, 61, 61, 61, 61, 61, 61, 61, 61, 61, 61, 61, 61, 61, 61, 61, 61, 61, 61, 61, 61, 61, 61, 61, 61, 61, 61, 61, 61, 61, 61, 61, 61, 61, 61, 61, 61, 61, 61, 61, 61, 61, 61, 61, 61])), (.t 80)], some (79, true)⟩,
 ⟨some 82, .pick (.t 79) (.t 81) (.k (.b false)), none⟩, ⟨some 76, .mov (.t 82), none⟩])
 (.cond (.t 76)
 (.seq (.reg [⟨some 83, .mov (.t 7), none⟩, ⟨some 84, .slc .str (.k (.s [61, 61, 61, 61, 61, 61, 61, 61, 61, 61, 61, 61, 61, 61, 61, 61, 61, 61, 61, 61, 61, 61, 61, 61, 61, 61, 61, 61, 61, 61, 61, 61, 61, 61, 61, 61, 61, 61, 61, 61, 61, 61, 61, 61, 61, 61, 61, 61, 61, 61, 61, 61, 61, 61, 61, 61, 61, 61, 61, 61, 61, 61, 61, 61, 61, 61, 61, 61, 61, 61, 61, 61, 61, 61, 61, 61, 61, 61, 61, 61, 61, 61, 61, 61, 61, 61, 61, 61, 61, 61, 61, 61, 61, 61, 61, 61, 61, 61, 61, 61, 61, 61, 61, 61, 61, 61, 61, 61, 61, 61, 61, 61, 61, 61, 61, 61, 61, 61, 61, 61, 61, 61, 61, 61, 61, 61, 61, 61])) none (some (.t 83)) none, none⟩, ⟨some 4, .mov (.t 84), none⟩])
 .ret)
 (.seq (.reg [⟨some 86, .mov (.t 7), none⟩, ⟨some 87, .bin .leq (.t 86) (.k (.i .i64 64)), none⟩, ⟨some 88, .mov (.t 87), none⟩, ⟨some 89, .mov (.t 0), some (88, true)⟩,
 ⟨some 90, .call true 55 [(.k (.s [9, 9, 9, 9, 9, 9, 9, 9, 9, 9, 9, 9, 9, 9, 9, 9, 9, 9, 9, 9, 9, 9, 9, 9, 9, 9, 9, 9, 9, 9, 9, 9, 9, 9, 9, 9, 9, 9, 9, 9, 9, 9, 9, 9, 9, 9, 9, 9, 9, 9, 9, 9, 9, 9, 9, 9, 9, 9, 9, 9, 9, 9, 9, 9])), (.t 89)], some (88, true)⟩,
 ⟨some 91, .pick (.t 88) (.t 90) (.k (.b false)), none⟩, ⟨some 85, .mov (.t 91), none⟩])
 (.cond (.t 85)
 (.seq (.reg [⟨some 92, .mov (.t 7), none⟩, ⟨some 93, .slc .str (.k (.s [9, 9, 9, 9, 9, 9, 9, 9, 9, 9, 9, 9, 9, 9, 9, 9, 9, 9, 9, 9, 9, 9, 9, 9, 9, 9, 9, 9, 9, 9, 9, 9, 9, 9, 9, 9, 9, 9, 9, 9, 9, 9, 9, 9, 9, 9, 9, 9, 9, 9, 9, 9, 9, 9, 9, 9, 9, 9, 9, 9, 9, 9, 9, 9])) none (some (.t 92)) none, none⟩, ⟨some 4, .mov (.t 93), none⟩])
 .ret)
 .skip)))))))))))
 .skip))))
 (.seq (.reg [⟨some 94, .mov (.t 7), none⟩, ⟨some 8, .mov (.t 94), none⟩])
 (.seq (.seq (.reg [⟨some 95, .mov (.t 7), none⟩, ⟨some 96, .bin .gtr (.t 95) (.k (.i .i64 8192)), none⟩])
 (.cond (.t 96)
 (.seq (.reg [⟨some 97, .mov (.t 0), none⟩, ⟨some 98, .len .str (.t 97), none⟩, ⟨some 99, .bin .quo (.k (.i .i64 8192)) (.t 98), none⟩, ⟨some 100, .mov (.t 0), none⟩, ⟨some 101, .len .str (.t 100), none⟩, ⟨some 102, .bin .mul (.t 99) (.t 101), none⟩, ⟨some 8, .mov (.t 102), none⟩])
 (.seq (.reg [⟨some 103, .mov (.t 8), none⟩, ⟨some 104, .bin .eql (.t 103) (.k (.i .i64 0)), none⟩])
 (.cond (.t 104)
 (.reg [⟨some 105, .mov (.t 0), none⟩, ⟨some 106, .len .str (.t 105), none⟩, ⟨some 8, .mov (.t 106), none⟩])
 .skip)))
 .skip))
 (.seq (.reg [⟨some 9, .alloc 57 [.nilp, (.sl [] 0 .nil)], none⟩])
 (.seq (.reg [⟨some 107, .mov (.t 7), none⟩, ⟨some 108, .call false 56 [(.t 9), (.t 107)], none⟩])
 (.seq (.reg [⟨some 109, .mov (.t 0), none⟩, ⟨some 110, .call false 33 [(.t 9), (.t 109)], none⟩])
 (.seq (.blk 3 (.loop L29_1))
 (.seq (.reg [⟨some 124, .call false 35 [(.t 9)], none⟩, ⟨some 4, .mov (.t 124), none⟩])
 .ret)))))))))))))))
/-- strings.Repeat -/
def af29 : AFunc := { n := 125, depth := 7, kl := [], res := [.tmp 4], body := B29 }

def B30 : AC := (.seq (.reg [⟨some 4, .mov (.k (.s [])), none⟩])
 (.seq (.seq (.reg [⟨some 7, .mov (.t 0), none⟩, ⟨some 8, .bin .eql (.t 7) (.k (.s [])), none⟩, ⟨some 9, .mov (.t 8), none⟩, ⟨some 10, .mov (.t 1), some (9, false)⟩,
 ⟨some 11, .bin .eql (.t 10) (.k (.s [])), some (9, false)⟩,
 ⟨some 12, .pick (.t 9) (.k (.b true)) (.t 11), none⟩])
 (.cond (.t 12)
 (.seq (.reg [⟨some 13, .mov (.t 0), none⟩, ⟨some 4, .mov (.t 13), none⟩])
 .ret)
 .skip))
 (.seq (.seq (.reg [⟨some 14, .mov (.t 1), none⟩, ⟨some 15, .len .str (.t 14), none⟩, ⟨some 16, .bin .eql (.t 15) (.k (.i .i64 1)), none⟩, ⟨some 17, .mov (.t 16), none⟩, ⟨some 18, .mov (.t 1), some (17, true)⟩,
 ⟨some 19, .idx .str (.t 18) (.k (.i .i64 0)), some (17, true)⟩,
 ⟨some 20, .bin .lss (.t 19) (.k (.i .u8 128)), some (17, true)⟩,
 ⟨some 21, .pick (.t 17) (.t 20) (.k (.b false)), none⟩])
 (.cond (.t 21)
 (.seq (.reg [⟨some 22, .mov (.t 0), none⟩, ⟨some 23, .mov (.t 1), none⟩, ⟨some 24, .idx .str (.t 23) (.k (.i .i64 0)), none⟩, ⟨some 25, .call true 58 [(.t 22), (.t 24)], none⟩, ⟨some 4, .mov (.t 25), none⟩])
 .ret)
 .skip))
 (.seq (.seq (.reg [⟨some 27, .mov (.t 1), none⟩, ⟨some 28, .call true 59 [(.t 27)], none⟩, ⟨some 26, .mov (.t 28), none⟩, ⟨some 29, .ext (.t 26) 0, none⟩, ⟨some 30, .ext (.t 26) 1, none⟩, ⟨some 5, .alloc 98 [(.b false), (.b false), (.b false), (.b false), (.b false), (.b false), (.b false), (.b false), (.b false), (.b false), (.b false), (.b false), (.b false), (.b false), (.b false), (.b false), (.b false), (.b false), (.b false), (.b false), (.b false), (.b false), (.b false), (.b false), (.b false), (.b false), (.b false), (.b false), (.b false), (.b false), (.b false), (.b false), (.b false), (.b false), (.b false), (.b false), (.b false), (.b false), (.b false), (.b false), (.b false), (.b false), (.b false), (.b false), (.b false), (.b false), (.b false), (.b false), (.b false), (.b false), (.b false), (.b false), (.b false), (.b false), (.b false), (.b false), (.b false), (.b false), (.b false), (.b false), (.b false), (.b false), (.b false), (.b false), (.b false), (.b false), (.b false), (.b false), (.b false), (.b false), (.b false), (.b false), (.b false), (.b false), (.b false), (.b false), (.b false), (.b false), (.b false), (.b false), (.b false), (.b false), (.b false), (.b false), (.b false), (.b false), (.b false), (.b false), (.b false), (.b false), (.b false), (.b false), (.b false), (.b false), (.b false), (.b false), (.b false), (.b false), (.b false), (.b false), (.b false), (.b false), (.b false), (.b false), (.b false), (.b false), (.b false), (.b false), (.b false), (.b false), (.b false), (.b false), (.b false), (.b false), (.b false), (.b false), (.b false), (.b false), (.b false), (.b false), (.b false), (.b false), (.b false), (.b false), (.b false), (.b false), (.b false), (.b false), (.b false), (.b false), (.b false), (.b false), (.b false), (.b false), (.b false), (.b false), (.b false), (.b false), (.b false), (.b false), (.b false), (.b false), (.b false), (.b false), (.b false), (.b false), (.b false), (.b false), (.b false), (.b false), (.b false), (.b false), (.b false), (.b false), (.b false), (.b false), (.b false), (.b false), (.b false), (.b false), (.b false), (.b false), (.b false), (.b false), (.b false), (.b false), (.b false), (.b false), (.b false), (.b false), (.b false), (.b false), (.b false), (.b false), (.b false), (.b false), (.b false), (.b false), (.b false), (.b false), (.b false), (.b false), (.b false), (.b false), (.b false), (.b false), (.b false), (.b false), (.b false), (.b false), (.b false), (.b false), (.b false), (.b false), (.b false), (.b false), (.b false), (.b false), (.b false), (.b false), (.b false), (.b false), (.b false), (.b false), (.b false), (.b false), (.b false), (.b false), (.b false), (.b false), (.b false), (.b false), (.b false), (.b false), (.b false), (.b false), (.b false), (.b false), (.b false), (.b false), (.b false), (.b false), (.b false), (.b false), (.b false), (.b false), (.b false), (.b false), (.b false), (.b false), (.b false), (.b false), (.b false), (.b false), (.b false), (.b false), (.b false), (.b false), (.b false), (.b false), (.b false), (.b false), (.b false), (.b false), (.b false), (.b false), (.b false), (.b false), (.b false), (.b false), (.b false), (.b false), (.b false), (.b false), (.b false), (.b false)], none⟩, ⟨none, .store 256 (.t 5) (.t 29), none⟩, ⟨some 6, .mov (.t 30), none⟩])
 (.seq (.reg [⟨some 31, .mov (.t 6), none⟩])
 (.cond (.t 31)
 (.seq (.reg [⟨some 32, .mov (.t 0), none⟩, ⟨some 33, .call false 60 [(.t 32), (.t 5)], none⟩, ⟨some 4, .mov (.t 33), none⟩])
 .ret)
 .skip)))
 (.seq (.reg [⟨some 34, .mov (.t 0), none⟩, ⟨some 35, .mov (.t 1), none⟩, ⟨some 36, .call true 61 [(.t 34), (.t 35)], none⟩, ⟨some 4, .mov (.t 36), none⟩])
 .ret)))))
/-- strings.TrimRight -/
def af30 : AFunc := { n := 37, depth := 6, kl := [], res := [.tmp 4], body := B30 }

def B31 : AC := (.seq (.reg [⟨some 4, .mov (.k .nili), none⟩])
 (.seq (.reg [⟨some 5, .mov (.t 0), none⟩, ⟨some 6, .call false 62 [(.t 5)], none⟩])
 (.seq (.reg [⟨some 7, .mov (.t 0), none⟩, ⟨some 8, .mov (.t 0), none⟩, ⟨some 9, .nilck (.t 8), none⟩, ⟨some 10, .faddr 1 (.t 9), none⟩, ⟨some 11, .load false 1 (.t 10), none⟩, ⟨some 12, .mov (.t 1), none⟩, ⟨some 13, .bslice false 5 1 1 [(.i .u8 0)] [(0, (.t 12))], none⟩, ⟨some 14, .app 5 1 (.t 11) (.t 13), none⟩, ⟨some 15, .nilck (.t 7), none⟩, ⟨some 16, .faddr 1 (.t 15), none⟩, ⟨none, .store 1 (.t 16) (.t 14), none⟩])
 (.seq (.reg [⟨some 4, .mov (.k .nili), none⟩])
 .ret))))
/-- (*strings.Builder).WriteByte -/
def af31 : AFunc := { n := 17, depth := 5, kl := [], res := [.tmp 4], body := B31 }

def B32 : AC := (.seq (.reg [⟨some 4, .mov (.k (.i .i64 0)), none⟩, ⟨some 5, .mov (.k .nili), none⟩])
 (.seq (.reg [⟨some 7, .mov (.t 0), none⟩, ⟨some 8, .call false 62 [(.t 7)], none⟩])
 (.seq (.reg [⟨some 9, .mov (.t 0), none⟩, ⟨some 10, .nilck (.t 9), none⟩, ⟨some 11, .faddr 1 (.t 10), none⟩, ⟨some 12, .load false 1 (.t 11), none⟩, ⟨some 13, .len .slice (.t 12), none⟩, ⟨some 6, .mov (.t 13), none⟩])
 (.seq (.reg [⟨some 14, .mov (.t 0), none⟩, ⟨some 15, .mov (.t 0), none⟩, ⟨some 16, .nilck (.t 15), none⟩, ⟨some 17, .faddr 1 (.t 16), none⟩, ⟨some 18, .load false 1 (.t 17), none⟩, ⟨some 19, .mov (.t 1), none⟩, ⟨some 20, .call false 63 [(.t 18), (.t 19)], none⟩, ⟨some 21, .nilck (.t 14), none⟩, ⟨some 22, .faddr 1 (.t 21), none⟩, ⟨none, .store 1 (.t 22) (.t 20), none⟩])
 (.seq (.reg [⟨some 23, .mov (.t 0), none⟩, ⟨some 24, .nilck (.t 23), none⟩, ⟨some 25, .faddr 1 (.t 24), none⟩, ⟨some 26, .load false 1 (.t 25), none⟩, ⟨some 27, .len .slice (.t 26), none⟩, ⟨some 28, .mov (.t 6), none⟩, ⟨some 29, .bin .sub (.t 27) (.t 28), none⟩, ⟨some 4, .mov (.t 29), none⟩, ⟨some 5, .mov (.k .nili), none⟩])
 .ret)))))
/-- (*strings.Builder).WriteRune -/
def af32 : AFunc := { n := 30, depth := 5, kl := [], res := [.tmp 4, .tmp 5], body := B32 }

def B33 : AC := (.seq (.reg [⟨some 4, .mov (.k (.i .i64 0)), none⟩, ⟨some 5, .mov (.k .nili), none⟩])
 (.seq (.reg [⟨some 6, .mov (.t 0), none⟩, ⟨some 7, .call false 62 [(.t 6)], none⟩])
 (.seq (.reg [⟨some 8, .mov (.t 0), none⟩, ⟨some 9, .mov (.t 0), none⟩, ⟨some 10, .nilck (.t 9), none⟩, ⟨some 11, .faddr 1 (.t 10), none⟩, ⟨some 12, .load false 1 (.t 11), none⟩, ⟨some 13, .mov (.t 1), none⟩, ⟨some 14, .app 5 1 (.t 12) (.t 13), none⟩, ⟨some 15, .nilck (.t 8), none⟩, ⟨some 16, .faddr 1 (.t 15), none⟩, ⟨none, .store 1 (.t 16) (.t 14), none⟩])
 (.seq (.reg [⟨some 17, .mov (.t 1), none⟩, ⟨some 18, .len .str (.t 17), none⟩, ⟨some 4, .mov (.t 18), none⟩, ⟨some 5, .mov (.k .nili), none⟩])
 .ret))))
/-- (*strings.Builder).WriteString -/
def af33 : AFunc := { n := 19, depth := 5, kl := [], res := [.tmp 4, .tmp 5], body := B33 }

def B34 : AC := (.seq (.reg [⟨some 4, .mov (.k (.s [])), none⟩])
 (.seq (.reg [⟨some 5, .mov (.t 0), none⟩, ⟨some 6, .mov (.t 1), none⟩, ⟨some 7, .call true 64 [(.t 5), (.t 6)], none⟩, ⟨some 4, .mov (.t 7), none⟩])
 .ret))
/-- strconv.FormatInt -/
def af34 : AFunc := { n := 8, depth := 4, kl := [], res := [.tmp 4], body := B34 }

def B35 : AC := (.seq (.reg [⟨some 2, .mov (.k (.s [])), none⟩])
 (.seq (.reg [⟨some 3, .mov (.t 0), none⟩, ⟨some 4, .nilck (.t 3), none⟩, ⟨some 5, .faddr 1 (.t 4), none⟩, ⟨some 6, .load false 1 (.t 5), none⟩, ⟨some 7, .sdata (.t 6), none⟩, ⟨some 8, .mov (.t 0), none⟩, ⟨some 9, .nilck (.t 8), none⟩, ⟨some 10, .faddr 1 (.t 9), none⟩, ⟨some 11, .load false 1 (.t 10), none⟩, ⟨some 12, .len .slice (.t 11), none⟩, ⟨some 13, .ustr 5 (.t 7) (.t 12), none⟩, ⟨some 2, .mov (.t 13), none⟩])
 .ret))
/-- (*strings.Builder).String -/
def af35 : AFunc := { n := 14, depth := 4, kl := [], res := [.tmp 2], body := B35 }

def L38_2 : AC := (.seq (.reg [⟨some 68, .bin .lss (.t 67) (.t 66), none⟩])
 (.seq (.cond (.t 68)
 .skip
 (.exit 3))
 (.seq (.blk 4 (.seq (.reg [⟨some 69, .mov (.t 67), none⟩, ⟨some 70, .iaddr (.slice 4) (.t 65) (.t 67), none⟩, ⟨some 71, .load true 4 (.t 70), none⟩, ⟨some 10, .lalloc [(.i .i64 0), (.s []), (.s []), (.sl [] 0 .nil)] [10], none⟩, ⟨some 9, .mov (.t 69), none⟩, ⟨none, .store 4 (.t 10) (.t 71), none⟩])
 (.reg [⟨some 72, .mov (.t 6), none⟩, ⟨some 73, .mov (.t 9), none⟩, ⟨some 74, .load true 4 (.t 10), none⟩, ⟨some 75, .call true 38 [(.t 74)], none⟩, ⟨some 76, .iaddr (.slice 1) (.t 72) (.t 73), none⟩, ⟨none, .store 1 (.t 76) (.t 75), none⟩])))
 (.reg [⟨some 77, .bin .add (.t 67) (.k (.i .i64 1)), none⟩, ⟨some 67, .mov (.t 77), none⟩]))))
def L38_1 : AC := (.seq (.reg [⟨some 47, .bin .lss (.t 46) (.t 45), none⟩])
 (.seq (.cond (.t 47)
 .skip
 (.exit 1))
 (.seq (.blk 2 (.seq (.reg [⟨some 48, .iaddr (.slice 4) (.t 44) (.t 46), none⟩, ⟨some 49, .load true 4 (.t 48), none⟩, ⟨some 8, .lalloc [(.i .i64 0), (.s []), (.s []), (.sl [] 0 .nil)] [8], none⟩, ⟨none, .store 4 (.t 8) (.t 49), none⟩])
 (.reg [⟨some 50, .mov (.t 6), none⟩, ⟨some 51, .load true 4 (.t 8), none⟩, ⟨some 52, .mov (.t 5), none⟩, ⟨some 53, .bin .add (.t 52) (.k (.i .i64 1)), none⟩, ⟨some 54, .call true 65 [(.t 51), (.t 53)], none⟩, ⟨some 55, .bslice true 9 1 1 [(.s [])] [(0, (.t 54))], none⟩, ⟨some 56, .appo 9 1 (.t 50) (.t 55), none⟩, ⟨some 6, .mov (.t 56), none⟩])))
 (.reg [⟨some 57, .bin .add (.t 46) (.k (.i .i64 1)), none⟩, ⟨some 46, .mov (.t 57), none⟩]))))
def B38 : AC := (.seq (.reg [⟨some 1, .lbox (.t 0) [1, 11, 17, 23, 26, 34, 40, 43, 64], none⟩, ⟨some 2, .mov (.k (.s [])), none⟩])
 (.seq (.seq (.reg [⟨some 11, .faddr 0 (.t 1), none⟩, ⟨some 12, .load false 1 (.t 11), none⟩])
 (.blk 0 (.seq (.reg [⟨some 14, .bin .eql (.t 12) (.k (.i .i64 0)), none⟩, ⟨some 13, .mov (.t 14), none⟩])
 (.cond (.t 13)
 (.seq (.reg [⟨some 2, .mov (.k (.s [97, 108, 108])), none⟩])
 .ret)
 (.seq (.reg [⟨some 16, .bin .eql (.t 12) (.k (.i .i64 1)), none⟩, ⟨some 15, .mov (.t 16), none⟩])
 (.cond (.t 15)
 (.seq (.reg [⟨some 17, .faddr 2 (.t 1), none⟩, ⟨some 18, .load false 1 (.t 17), none⟩, ⟨some 19, .call true 12 [(.t 18)], none⟩, ⟨some 20, .bin .add (.k (.s [107, 101, 121, 32, 94, 32])) (.t 19), none⟩, ⟨some 2, .mov (.t 20), none⟩])
 .ret)
 (.seq (.reg [⟨some 22, .bin .eql (.t 12) (.k (.i .i64 2)), none⟩, ⟨some 21, .mov (.t 22), none⟩])
 (.cond (.t 21)
 (.seq (.reg [⟨some 23, .faddr 1 (.t 1), none⟩, ⟨some 24, .load false 1 (.t 23), none⟩, ⟨some 25, .bin .add (.t 24) (.k (.s [32, 61, 32])), none⟩, ⟨some 26, .faddr 2 (.t 1), none⟩, ⟨some 27, .load false 1 (.t 26), none⟩, ⟨some 28, .call true 12 [(.t 27)], none⟩, ⟨some 29, .bin .add (.t 25) (.t 28), none⟩, ⟨some 2, .mov (.t 29), none⟩])
 .ret)
 (.seq (.reg [⟨some 31, .bin .eql (.t 12) (.k (.i .i64 3)), none⟩, ⟨some 30, .mov (.t 31), none⟩])
 (.cond (.t 30)
 (.seq (.reg [⟨some 2, .mov (.k (.s [112, 117, 116])), none⟩])
 .ret)
 (.seq (.reg [⟨some 33, .bin .eql (.t 12) (.k (.i .i64 4)), none⟩, ⟨some 32, .mov (.t 33), none⟩])
 (.cond (.t 32)
 (.seq (.reg [⟨some 34, .faddr 3 (.t 1), none⟩, ⟨some 35, .load false 1 (.t 34), none⟩, ⟨some 36, .iaddr (.slice 4) (.t 35) (.k (.i .i64 0)), none⟩, ⟨some 37, .load true 4 (.t 36), none⟩, ⟨some 38, .call true 65 [(.t 37), (.k (.i .i64 3))], none⟩, ⟨some 39, .bin .add (.k (.s [110, 111, 116, 32])) (.t 38), none⟩, ⟨some 2, .mov (.t 39), none⟩])
 .ret)
 .skip))))))))))))
 (.seq (.reg [⟨some 3, .mov (.k (.s [32, 111, 114, 32])), none⟩, ⟨some 4, .mov (.k (.s [97, 110, 121, 40])), none⟩, ⟨some 5, .mov (.k (.i .i64 1)), none⟩])
 (.seq (.seq (.reg [⟨some 40, .faddr 0 (.t 1), none⟩, ⟨some 41, .load false 1 (.t 40), none⟩, ⟨some 42, .bin .eql (.t 41) (.k (.i .i64 5)), none⟩])
 (.cond (.t 42)
 (.reg [⟨some 3, .mov (.k (.s [32, 97, 110, 100, 32])), none⟩, ⟨some 4, .mov (.k (.s [101, 97, 99, 104, 40])), none⟩, ⟨some 5, .mov (.k (.i .i64 2)), none⟩])
 .skip))
 (.seq (.reg [⟨some 6, .mov (.k (.sl [] 0 .nil)), none⟩])
 (.seq (.seq (.reg [⟨some 43, .faddr 3 (.t 1), none⟩, ⟨some 44, .load false 1 (.t 43), none⟩, ⟨some 45, .len .slice (.t 44), none⟩, ⟨some 46, .mov (.k (.i .i64 0)), none⟩])
 (.blk 1 (.loop L38_1)))
 (.seq (.seq (.reg [⟨some 58, .mov (.t 6), none⟩, ⟨some 59, .len .slice (.t 58), none⟩, ⟨some 60, .bin .gtr (.t 59) (.k (.i .i64 1)), none⟩])
 (.cond (.t 60)
 (.seq (.reg [⟨some 61, .mov (.t 6), none⟩, ⟨some 62, .mov (.t 3), none⟩, ⟨some 63, .call false 66 [(.t 61), (.t 62)], none⟩, ⟨some 2, .mov (.t 63), none⟩])
 .ret)
 .skip))
 (.seq (.seq (.reg [⟨some 64, .faddr 3 (.t 1), none⟩, ⟨some 65, .load false 1 (.t 64), none⟩, ⟨some 66, .len .slice (.t 65), none⟩, ⟨some 67, .mov (.k (.i .i64 0)), none⟩])
 (.blk 3 (.loop L38_2)))
 (.seq (.reg [⟨some 78, .mov (.t 4), none⟩, ⟨some 79, .mov (.t 6), none⟩, ⟨some 80, .call false 66 [(.t 79), (.k (.s [44, 32]))], none⟩, ⟨some 81, .bin .add (.t 78) (.t 80), none⟩, ⟨some 82, .bin .add (.t 81) (.k (.s [41])), none⟩, ⟨some 2, .mov (.t 82), none⟩])
 .ret)))))))))
/-- tidemark/lang.tell -/
def af38 : AFunc := { n := 83, depth := 7, kl := [(1, [1, 11, 17, 23, 26, 34, 40, 43, 64]), (8, [8]), (10, [10])], res := [.tmp 2], body := B38 }

def B41 : AC := (.seq (.reg [⟨some 1, .lbox (.t 0) [1], none⟩, ⟨some 2, .mov (.k .nili), none⟩, ⟨some 3, .mov (.k (.i .i64 0)), none⟩])
 (.seq (.reg [⟨some 4, .alloc 3 [(.i .i64 0)], none⟩, ⟨none, .store 1 (.t 4) (.k (.i .i64 0)), none⟩])
 (.seq (.reg [⟨some 8, .load true 4 (.t 1), none⟩, ⟨some 9, .call false 69 [(.t 8), (.k (.i .i64 1)), (.t 4)], none⟩, ⟨some 7, .mov (.t 9), none⟩, ⟨some 10, .ext (.t 7) 0, none⟩, ⟨some 11, .ext (.t 7) 1, none⟩, ⟨some 5, .mov (.t 10), none⟩, ⟨some 6, .mov (.t 11), none⟩])
 (.seq (.seq (.reg [⟨some 12, .mov (.t 6), none⟩, ⟨some 13, .bin .neq (.t 12) (.k (.i .i64 0)), none⟩])
 (.cond (.t 13)
 (.seq (.reg [⟨some 14, .mov (.t 6), none⟩, ⟨some 2, .mov (.k .nili), none⟩, ⟨some 3, .mov (.t 14), none⟩])
 .ret)
 .skip))
 (.seq (.reg [⟨some 15, .mov (.t 5), none⟩, ⟨some 16, .tas false [132, 135, 137, 138, 142, 144, 145] [9] .nili false (.t 15), none⟩, ⟨some 2, .mov (.t 16), none⟩, ⟨some 3, .mov (.k (.i .i64 0)), none⟩])
 .ret)))))
/-- tidemark/filter.ready -/
def af41 : AFunc := { n := 17, depth := 5, kl := [(1, [1])], res := [.tmp 2, .tmp 3], body := B41 }

def B42 : AC := (.seq (.reg [⟨some 2, .mov (.k .nilp), none⟩, ⟨some 3, .mov (.k (.i .i64 0)), none⟩, ⟨some 4, .mov (.k (.i .i64 0)), none⟩])
 (.seq (.reg [⟨some 9, .mov (.t 0), none⟩, ⟨some 10, .call true 21 [(.t 9)], none⟩, ⟨some 8, .mov (.t 10), none⟩, ⟨some 11, .ext (.t 8) 0, none⟩, ⟨some 12, .ext (.t 8) 1, none⟩, ⟨some 13, .ext (.t 8) 2, none⟩, ⟨some 5, .mov (.t 11), none⟩, ⟨some 6, .mov (.t 12), none⟩, ⟨some 7, .mov (.t 13), none⟩])
 (.seq (.seq (.reg [⟨some 14, .mov (.t 7), none⟩, ⟨some 15, .bin .neq (.t 14) (.k (.i .i64 0)), none⟩])
 (.cond (.t 15)
 (.seq (.reg [⟨some 16, .mov (.t 6), none⟩, ⟨some 17, .mov (.t 7), none⟩, ⟨some 2, .mov (.k .nilp), none⟩, ⟨some 3, .mov (.t 16), none⟩, ⟨some 4, .mov (.t 17), none⟩])
 .ret)
 .skip))
 (.seq (.reg [⟨some 18, .mov (.t 5), none⟩, ⟨some 19, .mov (.t 0), none⟩, ⟨some 20, .len .str (.t 19), none⟩, ⟨some 21, .build [(.sl [] 0 .nil), (.i .i64 0), (.i .i64 0), (.b false)] [(0, 1, (.t 18)), (2, 1, (.t 20)), (3, 1, (.k (.b true)))], none⟩, ⟨some 22, .box 41 (.t 21), none⟩, ⟨some 2, .mov (.t 22), none⟩, ⟨some 3, .mov (.k (.i .i64 0)), none⟩, ⟨some 4, .mov (.k (.i .i64 0)), none⟩])
 .ret))))
/-- tidemark/lang.Read -/
def af42 : AFunc := { n := 23, depth := 5, kl := [], res := [.tmp 2, .tmp 3, .tmp 4], body := B42 }

def B43 : AC := (.seq (.reg [⟨some 2, .mov (.k (.i .i32 0)), none⟩, ⟨some 3, .mov (.k (.i .i64 0)), none⟩])
 (.seq (.seq (.reg [⟨some 4, .mov (.t 0), none⟩, ⟨some 5, .bin .neq (.t 4) (.k (.s [])), none⟩, ⟨some 6, .mov (.t 5), none⟩, ⟨some 7, .mov (.t 0), some (6, true)⟩,
 ⟨some 8, .idx .str (.t 7) (.k (.i .i64 0)), some (6, true)⟩,
 ⟨some 9, .bin .lss (.t 8) (.k (.i .u8 128)), some (6, true)⟩,
 ⟨some 10, .pick (.t 6) (.t 9) (.k (.b false)), none⟩])
 (.cond (.t 10)
 (.seq (.reg [⟨some 11, .mov (.t 0), none⟩, ⟨some 12, .idx .str (.t 11) (.k (.i .i64 0)), none⟩, ⟨some 13, .conv (.int .i32) (.t 12), none⟩, ⟨some 2, .mov (.t 13), none⟩, ⟨some 3, .mov (.k (.i .i64 1)), none⟩])
 .ret)
 (.reg [⟨some 15, .mov (.t 0), none⟩, ⟨some 16, .call true 70 [(.t 15)], none⟩, ⟨some 14, .mov (.t 16), none⟩, ⟨some 17, .ext (.t 14) 0, none⟩, ⟨some 18, .ext (.t 14) 1, none⟩, ⟨some 2, .mov (.t 17), none⟩, ⟨some 3, .mov (.t 18), none⟩])))
 .ret))
/-- unicode/utf8.DecodeRuneInString -/
def af43 : AFunc := { n := 19, depth := 5, kl := [], res := [.tmp 2, .tmp 3], body := B43 }

def L44_1 : AC := (.seq (.seq (.reg [⟨some 10, .mov (.t 5), none⟩, ⟨some 11, .mov (.t 0), none⟩, ⟨some 12, .len .str (.t 11), none⟩, ⟨some 13, .bin .lss (.t 10) (.t 12), none⟩])
 (.cond (.t 13)
 .skip
 (.exit 0)))
 (.blk 1 (.seq (.reg [⟨some 15, .mov (.t 0), none⟩, ⟨some 16, .mov (.t 5), none⟩, ⟨some 17, .slc .str (.t 15) (some (.t 16)) none none, none⟩, ⟨some 18, .call true 43 [(.t 17)], none⟩, ⟨some 14, .mov (.t 18), none⟩, ⟨some 19, .ext (.t 14) 0, none⟩, ⟨some 20, .ext (.t 14) 1, none⟩, ⟨some 6, .mov (.t 19), none⟩, ⟨some 7, .mov (.t 20), none⟩])
 (.seq (.blk 2 (.seq (.reg [⟨some 22, .mov (.t 6), none⟩, ⟨some 23, .bin .eql (.t 22) (.k (.i .i32 34)), none⟩, ⟨some 21, .mov (.t 23), none⟩])
 (.cond (.t 21)
 (.seq (.reg [⟨some 24, .call false 35 [(.t 4)], none⟩, ⟨some 25, .mov (.t 5), none⟩, ⟨some 26, .bin .add (.t 25) (.k (.i .i64 1)), none⟩, ⟨some 2, .mov (.t 24), none⟩, ⟨some 3, .mov (.t 26), none⟩])
 .ret)
 (.seq (.reg [⟨some 28, .mov (.t 6), none⟩, ⟨some 29, .bin .eql (.t 28) (.k (.i .i32 65533)), none⟩, ⟨some 30, .mov (.t 29), none⟩, ⟨some 31, .mov (.t 7), some (30, true)⟩,
 ⟨some 32, .bin .eql (.t 31) (.k (.i .i64 1)), some (30, true)⟩,
 ⟨some 33, .pick (.t 30) (.t 32) (.k (.b false)), none⟩, ⟨some 27, .mov (.t 33), none⟩])
 (.cond (.t 27)
 (.seq (.reg [⟨some 2, .mov (.k (.s [])), none⟩, ⟨some 3, .mov (.k (.i .i64 0)), none⟩])
 .ret)
 (.seq (.reg [⟨some 35, .mov (.t 6), none⟩, ⟨some 36, .bin .neq (.t 35) (.k (.i .i32 92)), none⟩, ⟨some 34, .mov (.t 36), none⟩])
 (.cond (.t 34)
 (.seq (.reg [⟨some 37, .mov (.t 6), none⟩, ⟨some 38, .call false 32 [(.t 4), (.t 37)], none⟩])
 (.seq (.reg [⟨some 39, .mov (.t 5), none⟩, ⟨some 40, .mov (.t 7), none⟩, ⟨some 41, .bin .add (.t 39) (.t 40), none⟩, ⟨some 5, .mov (.t 41), none⟩])
 (.exit 1)))
 (.seq (.reg [⟨some 43, .mov (.t 5), none⟩, ⟨some 44, .bin .add (.t 43) (.k (.i .i64 1)), none⟩, ⟨some 45, .mov (.t 0), none⟩, ⟨some 46, .len .str (.t 45), none⟩, ⟨some 47, .bin .geq (.t 44) (.t 46), none⟩, ⟨some 42, .mov (.t 47), none⟩])
 (.cond (.t 42)
 (.seq (.reg [⟨some 2, .mov (.k (.s [])), none⟩, ⟨some 3, .mov (.k (.i .i64 0)), none⟩])
 .ret)
 .skip)))))))))
 (.seq (.reg [⟨some 48, .mov (.t 0), none⟩, ⟨some 49, .mov (.t 5), none⟩, ⟨some 50, .bin .add (.t 49) (.k (.i .i64 1)), none⟩, ⟨some 51, .idx .str (.t 48) (.t 50), none⟩])
 (.blk 3 (.seq (.seq (.reg [⟨some 53, .bin .eql (.t 51) (.k (.i .u8 34)), none⟩, ⟨some 52, .mov (.t 53), none⟩])
 (.cond (.t 52)
 .skip
 (.reg [⟨some 54, .bin .eql (.t 51) (.k (.i .u8 92)), none⟩, ⟨some 52, .mov (.t 54), none⟩])))
 (.cond (.t 52)
 (.seq (.reg [⟨some 55, .mov (.t 0), none⟩, ⟨some 56, .mov (.t 5), none⟩, ⟨some 57, .bin .add (.t 56) (.k (.i .i64 1)), none⟩, ⟨some 58, .idx .str (.t 55) (.t 57), none⟩, ⟨some 59, .call false 31 [(.t 4), (.t 58)], none⟩])
 (.reg [⟨some 60, .mov (.t 5), none⟩, ⟨some 61, .bin .add (.t 60) (.k (.i .i64 2)), none⟩, ⟨some 5, .mov (.t 61), none⟩]))
 (.seq (.reg [⟨some 63, .bin .eql (.t 51) (.k (.i .u8 117)), none⟩, ⟨some 62, .mov (.t 63), none⟩])
 (.cond (.t 62)
 (.seq (.reg [⟨some 65, .mov (.t 0), none⟩, ⟨some 66, .mov (.t 5), none⟩, ⟨some 67, .bin .add (.t 66) (.k (.i .i64 2)), none⟩, ⟨some 68, .slc .str (.t 65) (some (.t 67)) none none, none⟩, ⟨some 69, .call true 71 [(.t 68)], none⟩, ⟨some 64, .mov (.t 69), none⟩, ⟨some 70, .ext (.t 64) 0, none⟩, ⟨some 71, .ext (.t 64) 1, none⟩, ⟨some 8, .mov (.t 70), none⟩, ⟨some 9, .mov (.t 71), none⟩])
 (.seq (.seq (.reg [⟨some 72, .mov (.t 9), none⟩, ⟨some 73, .bin .eql (.t 72) (.k (.i .i64 0)), none⟩])
 (.cond (.t 73)
 (.seq (.reg [⟨some 2, .mov (.k (.s [])), none⟩, ⟨some 3, .mov (.k (.i .i64 0)), none⟩])
 .ret)
 .skip))
 (.seq (.reg [⟨some 74, .mov (.t 8), none⟩, ⟨some 75, .call false 32 [(.t 4), (.t 74)], none⟩])
 (.reg [⟨some 76, .mov (.t 5), none⟩, ⟨some 77, .mov (.t 9), none⟩, ⟨some 78, .bin .add (.k (.i .i64 2)) (.t 77), none⟩, ⟨some 79, .bin .add (.t 76) (.t 78), none⟩, ⟨some 5, .mov (.t 79), none⟩]))))
 (.seq (.reg [⟨some 2, .mov (.k (.s [])), none⟩, ⟨some 3, .mov (.k (.i .i64 0)), none⟩])
 .ret)))))))))))
def B44 : AC := (.seq (.reg [⟨some 2, .mov (.k (.s [])), none⟩, ⟨some 3, .mov (.k (.i .i64 0)), none⟩])
 (.seq (.reg [⟨some 4, .alloc 57 [.nilp, (.sl [] 0 .nil)], none⟩])
 (.seq (.seq (.reg [⟨some 5, .mov (.k (.i .i64 1)), none⟩])
 (.blk 0 (.loop L44_1)))
 (.seq (.reg [⟨some 2, .mov (.k (.s [])), none⟩, ⟨some 3, .mov (.k (.i .i64 0)), none⟩])
 .ret))))
/-- tidemark/lang.quoted -/
def af44 : AFunc := { n := 80, depth := 7, kl := [], res := [.tmp 2, .tmp 3], body := B44 }

def B45 : AC := (.seq (.reg [⟨some 2, .mov (.k (.b false)), none⟩])
 (.seq (.reg [⟨some 3, .mov (.t 0), none⟩, ⟨some 4, .bin .geq (.t 3) (.k (.i .i32 97)), none⟩, ⟨some 5, .mov (.t 4), none⟩, ⟨some 6, .mov (.t 0), some (5, true)⟩,
 ⟨some 7, .bin .leq (.t 6) (.k (.i .i32 122)), some (5, true)⟩,
 ⟨some 8, .pick (.t 5) (.t 7) (.k (.b false)), none⟩, ⟨some 2, .mov (.t 8), none⟩])
 .ret))
/-- tidemark/lang.letter -/
def af45 : AFunc := { n := 9, depth := 4, kl := [], res := [.tmp 2], body := B45 }

def L46_1 : AC := (.seq (.reg [⟨some 9, .next 8, none⟩, ⟨some 10, .ext (.t 9) 0, none⟩])
 (.seq (.cond (.t 10)
 .skip
 (.exit 0))
 (.blk 1 (.seq (.reg [⟨some 11, .ext (.t 9) 1, none⟩, ⟨some 12, .ext (.t 9) 2, none⟩, ⟨some 5, .mov (.t 11), none⟩, ⟨some 6, .mov (.t 12), none⟩])
 (.seq (.reg [⟨some 13, .mov (.t 1), none⟩, ⟨some 14, .mov (.t 6), none⟩, ⟨some 15, .callv true (.t 13) [(.t 14)], none⟩, ⟨some 16, .un .not (.t 15), none⟩])
 (.cond (.t 16)
 (.seq (.reg [⟨some 17, .mov (.t 5), none⟩, ⟨some 4, .mov (.t 17), none⟩])
 .ret)
 .skip))))))
def B46 : AC := (.seq (.reg [⟨some 4, .mov (.k (.i .i64 0)), none⟩])
 (.seq (.seq (.reg [⟨some 7, .mov (.t 0), none⟩, ⟨some 8, .range (.t 7), none⟩])
 (.blk 0 (.loop L46_1)))
 (.seq (.reg [⟨some 18, .mov (.t 0), none⟩, ⟨some 19, .len .str (.t 18), none⟩, ⟨some 4, .mov (.t 19), none⟩])
 .ret)))
/-- tidemark/lang.while -/
def af46 : AFunc := { n := 20, depth := 5, kl := [], res := [.tmp 4], body := B46 }

def B47 : AC := (.seq (.reg [⟨some 2, .mov (.k (.b false)), none⟩])
 (.seq (.reg [⟨some 3, .mov (.t 0), none⟩, ⟨some 4, .bin .geq (.t 3) (.k (.i .i32 48)), none⟩, ⟨some 5, .mov (.t 4), none⟩, ⟨some 6, .mov (.t 0), some (5, true)⟩,
 ⟨some 7, .bin .leq (.t 6) (.k (.i .i32 57)), some (5, true)⟩,
 ⟨some 8, .pick (.t 5) (.t 7) (.k (.b false)), none⟩, ⟨some 2, .mov (.t 8), none⟩])
 .ret))
/-- tidemark/lang.digit -/
def af47 : AFunc := { n := 9, depth := 4, kl := [], res := [.tmp 2], body := B47 }

def B48 : AC := (.seq (.reg [⟨some 2, .mov (.k (.b false)), none⟩])
 (.seq (.seq (.reg [⟨some 3, .mov (.t 0), none⟩])
 (.blk 0 (.seq (.seq (.reg [⟨some 5, .bin .eql (.t 3) (.k (.i .i32 40)), none⟩, ⟨some 4, .mov (.t 5), none⟩])
 (.cond (.t 4)
 .skip
 (.seq (.reg [⟨some 6, .bin .eql (.t 3) (.k (.i .i32 41)), none⟩, ⟨some 4, .mov (.t 6), none⟩])
 (.cond (.t 4)
 .skip
 (.seq (.reg [⟨some 7, .bin .eql (.t 3) (.k (.i .i32 61)), none⟩, ⟨some 4, .mov (.t 7), none⟩])
 (.cond (.t 4)
 .skip
 (.seq (.reg [⟨some 8, .bin .eql (.t 3) (.k (.i .i32 94)), none⟩, ⟨some 4, .mov (.t 8), none⟩])
 (.cond (.t 4)
 .skip
 (.seq (.reg [⟨some 9, .bin .eql (.t 3) (.k (.i .i32 60)), none⟩, ⟨some 4, .mov (.t 9), none⟩])
 (.cond (.t 4)
 .skip
 (.seq (.reg [⟨some 10, .bin .eql (.t 3) (.k (.i .i32 62)), none⟩, ⟨some 4, .mov (.t 10), none⟩])
 (.cond (.t 4)
 .skip
 (.reg [⟨some 11, .bin .eql (.t 3) (.k (.i .i32 44)), none⟩, ⟨some 4, .mov (.t 11), none⟩])))))))))))))
 (.cond (.t 4)
 (.seq (.reg [⟨some 2, .mov (.k (.b true)), none⟩])
 .ret)
 .skip))))
 (.seq (.reg [⟨some 2, .mov (.k (.b false)), none⟩])
 .ret)))
/-- tidemark/lang.sign -/
def af48 : AFunc := { n := 12, depth := 4, kl := [], res := [.tmp 2], body := B48 }

def L49_1 : AC := (.seq (.seq (.reg [⟨some 47, .mov (.t 0), none⟩, ⟨some 48, .mov (.t 8), none⟩, ⟨some 49, .call false 73 [(.t 47), (.t 48)], none⟩])
 (.cond (.t 49)
 .skip
 (.exit 0)))
 (.blk 1 (.seq (.reg [⟨some 50, .mov (.t 0), none⟩, ⟨some 51, .call false 24 [(.t 50)], none⟩])
 (.seq (.seq (.reg [⟨some 53, .mov (.t 0), none⟩, ⟨some 54, .mov (.t 1), none⟩, ⟨some 55, .bin .add (.t 54) (.k (.i .i64 1)), none⟩, ⟨some 56, .mov (.t 2), none⟩, ⟨some 57, .call false 49 [(.t 53), (.t 55), (.t 56)], none⟩, ⟨some 52, .mov (.t 57), none⟩, ⟨some 58, .ext (.t 52) 0, none⟩, ⟨some 59, .ext (.t 52) 1, none⟩, ⟨none, .store 4 (.t 10) (.t 58), none⟩, ⟨some 11, .mov (.t 59), none⟩])
 (.seq (.reg [⟨some 60, .mov (.t 11), none⟩, ⟨some 61, .bin .neq (.t 60) (.k (.i .i64 0)), none⟩])
 (.cond (.t 61)
 (.seq (.reg [⟨some 62, .load true 4 (.t 10), none⟩, ⟨some 63, .mov (.t 11), none⟩, ⟨none, .store 4 (.t 6) (.t 62), none⟩, ⟨some 7, .mov (.t 63), none⟩])
 .ret)
 .skip)))
 (.reg [⟨some 64, .faddr 3 (.t 12), none⟩, ⟨some 65, .load false 1 (.t 64), none⟩, ⟨some 66, .load true 4 (.t 10), none⟩, ⟨some 67, .bslice false 27 4 1 [(.i .i64 0), (.s []), (.s []), (.sl [] 0 .nil)] [(0, (.t 66))], none⟩, ⟨some 68, .app 27 4 (.t 65) (.t 67), none⟩, ⟨some 69, .faddr 3 (.t 12), none⟩, ⟨none, .store 1 (.t 69) (.t 68), none⟩])))))
def B49 : AC := (.seq (.reg [⟨some 6, .lalloc [(.i .i64 0), (.s []), (.s []), (.sl [] 0 .nil)] [6], none⟩, ⟨some 7, .mov (.k (.i .i64 0)), none⟩])
 (.seq (.seq (.reg [⟨some 13, .mov (.t 2), none⟩, ⟨some 14, .bin .gtr (.t 13) (.k (.i .i64 40)), none⟩])
 (.cond (.t 14)
 (.seq (.reg [⟨some 15, .build [(.i .i64 0), (.s []), (.s []), (.sl [] 0 .nil)] [], none⟩, ⟨none, .store 4 (.t 6) (.t 15), none⟩, ⟨some 7, .mov (.k (.i .i64 51)), none⟩])
 .ret)
 .skip))
 (.seq (.seq (.reg [⟨some 16, .mov (.t 1), none⟩, ⟨some 17, .bin .gtr (.t 16) (.k (.i .i64 2)), none⟩])
 (.cond (.t 17)
 (.seq (.reg [⟨some 18, .mov (.t 0), none⟩, ⟨some 19, .mov (.t 2), none⟩, ⟨some 20, .call false 72 [(.t 18), (.t 19)], none⟩, ⟨some 21, .ext (.t 20) 0, none⟩, ⟨some 22, .ext (.t 20) 1, none⟩, ⟨none, .store 4 (.t 6) (.t 21), none⟩, ⟨some 7, .mov (.t 22), none⟩])
 .ret)
 .skip))
 (.seq (.reg [⟨some 8, .mov (.k (.s [111, 114])), none⟩, ⟨some 9, .mov (.k (.i .i64 6)), none⟩])
 (.seq (.seq (.reg [⟨some 23, .mov (.t 1), none⟩, ⟨some 24, .bin .eql (.t 23) (.k (.i .i64 2)), none⟩])
 (.cond (.t 24)
 (.reg [⟨some 8, .mov (.k (.s [97, 110, 100])), none⟩, ⟨some 9, .mov (.k (.i .i64 5)), none⟩])
 .skip))
 (.seq (.reg [⟨some 26, .mov (.t 0), none⟩, ⟨some 27, .mov (.t 1), none⟩, ⟨some 28, .bin .add (.t 27) (.k (.i .i64 1)), none⟩, ⟨some 29, .mov (.t 2), none⟩, ⟨some 30, .call false 49 [(.t 26), (.t 28), (.t 29)], none⟩, ⟨some 25, .mov (.t 30), none⟩, ⟨some 31, .ext (.t 25) 0, none⟩, ⟨some 32, .ext (.t 25) 1, none⟩, ⟨some 10, .lalloc [(.i .i64 0), (.s []), (.s []), (.sl [] 0 .nil)] [10], none⟩, ⟨none, .store 4 (.t 10) (.t 31), none⟩, ⟨some 11, .mov (.t 32), none⟩])
 (.seq (.seq (.reg [⟨some 33, .mov (.t 11), none⟩, ⟨some 34, .bin .neq (.t 33) (.k (.i .i64 0)), none⟩, ⟨some 35, .mov (.t 34), none⟩, ⟨some 36, .mov (.t 0), some (35, false)⟩,
 ⟨some 37, .mov (.t 8), some (35, false)⟩,
 ⟨some 38, .call false 73 [(.t 36), (.t 37)], some (35, false)⟩,
 ⟨some 39, .un .not (.t 38), some (35, false)⟩,
 ⟨some 40, .pick (.t 35) (.k (.b true)) (.t 39), none⟩])
 (.cond (.t 40)
 (.seq (.reg [⟨some 41, .load true 4 (.t 10), none⟩, ⟨some 42, .mov (.t 11), none⟩, ⟨none, .store 4 (.t 6) (.t 41), none⟩, ⟨some 7, .mov (.t 42), none⟩])
 .ret)
 .skip))
 (.seq (.reg [⟨some 43, .mov (.t 9), none⟩, ⟨some 44, .load true 4 (.t 10), none⟩, ⟨some 45, .bslice false 27 4 1 [(.i .i64 0), (.s []), (.s []), (.sl [] 0 .nil)] [(0, (.t 44))], none⟩, ⟨some 46, .build [(.i .i64 0), (.s []), (.s []), (.sl [] 0 .nil)] [(0, 1, (.t 43)), (3, 1, (.t 45))], none⟩, ⟨some 12, .lalloc [(.i .i64 0), (.s []), (.s []), (.sl [] 0 .nil)] [12, 64, 69], none⟩, ⟨none, .store 4 (.t 12) (.t 46), none⟩])
 (.seq (.blk 0 (.loop L49_1))
 (.seq (.reg [⟨some 70, .load true 4 (.t 12), none⟩, ⟨none, .store 4 (.t 6) (.t 70), none⟩, ⟨some 7, .mov (.k (.i .i64 0)), none⟩])
 .ret))))))))))
/-- (*tidemark/lang.Source).parse -/
def af49 : AFunc := { n := 71, depth := 7, kl := [(6, [6]), (10, [10]), (12, [12, 64, 69])], res := [.cell 6 true 4, .tmp 7], body := B49 }

def B50 : AC := (.seq (.reg [⟨some 4, .lalloc [(.i .i64 0), (.s []), (.i .i64 0)] [4], none⟩])
 (.seq (.seq (.reg [⟨some 5, .mov (.t 0), none⟩, ⟨some 6, .eq false .ptr (.t 5) (.k .nilp), none⟩, ⟨some 7, .mov (.t 6), none⟩, ⟨some 8, .mov (.t 1), some (7, false)⟩,
 ⟨some 9, .mov (.t 0), some (7, false)⟩,
 ⟨some 10, .nilck (.t 9), some (7, false)⟩,
 ⟨some 11, .faddr 0 (.t 10), some (7, false)⟩,
 ⟨some 12, .load false 1 (.t 11), some (7, false)⟩,
 ⟨some 13, .len .slice (.t 12), some (7, false)⟩,
 ⟨some 14, .mov (.t 0), some (7, false)⟩,
 ⟨some 15, .nilck (.t 14), some (7, false)⟩,
 ⟨some 16, .faddr 1 (.t 15), some (7, false)⟩,
 ⟨some 17, .load false 1 (.t 16), some (7, false)⟩,
 ⟨some 18, .bin .sub (.t 13) (.t 17), some (7, false)⟩,
 ⟨some 19, .bin .sub (.t 18) (.k (.i .i64 1)), some (7, false)⟩,
 ⟨some 20, .bin .gtr (.t 8) (.t 19), some (7, false)⟩,
 ⟨some 21, .pick (.t 7) (.k (.b true)) (.t 20), none⟩])
 (.cond (.t 21)
 (.seq (.seq (.reg [⟨some 22, .mov (.t 0), none⟩, ⟨some 23, .eq false .ptr (.t 22) (.k .nilp), none⟩])
 (.cond (.t 23)
 (.seq (.reg [⟨some 24, .build [(.i .i64 0), (.s []), (.i .i64 0)] [], none⟩, ⟨none, .store 3 (.t 4) (.t 24), none⟩])
 .ret)
 .skip))
 (.seq (.reg [⟨some 25, .mov (.t 0), none⟩, ⟨some 26, .nilck (.t 25), none⟩, ⟨some 27, .faddr 2 (.t 26), none⟩, ⟨some 28, .load false 1 (.t 27), none⟩, ⟨some 29, .build [(.i .i64 0), (.s []), (.i .i64 0)] [(2, 1, (.t 28))], none⟩, ⟨none, .store 3 (.t 4) (.t 29), none⟩])
 .ret))
 .skip))
 (.seq (.reg [⟨some 30, .mov (.t 0), none⟩, ⟨some 31, .nilck (.t 30), none⟩, ⟨some 32, .faddr 0 (.t 31), none⟩, ⟨some 33, .load false 1 (.t 32), none⟩, ⟨some 34, .mov (.t 0), none⟩, ⟨some 35, .nilck (.t 34), none⟩, ⟨some 36, .faddr 1 (.t 35), none⟩, ⟨some 37, .load false 1 (.t 36), none⟩, ⟨some 38, .mov (.t 1), none⟩, ⟨some 39, .bin .add (.t 37) (.t 38), none⟩, ⟨some 40, .iaddr (.slice 3) (.t 33) (.t 39), none⟩, ⟨some 41, .load true 3 (.t 40), none⟩, ⟨none, .store 3 (.t 4) (.t 41), none⟩])
 .ret)))
/-- (*tidemark/lang.Source).ahead -/
def af50 : AFunc := { n := 42, depth := 6, kl := [(4, [4])], res := [.cell 4 true 3], body := B50 }

def B54 : AC := (.seq (.reg [⟨some 4, .mov (.k (.i .u64 0)), none⟩, ⟨some 5, .mov (.k (.i .u64 0)), none⟩])
 (.seq (.cond (.k (.b false))
 (.seq (.reg [⟨some 11, .mov (.t 0), none⟩, ⟨some 12, .conv (.int .u32) (.t 11), none⟩, ⟨some 13, .mov (.t 1), none⟩, ⟨some 14, .conv (.int .u32) (.t 13), none⟩, ⟨some 15, .call true 75 [(.t 12), (.t 14)], none⟩, ⟨some 10, .mov (.t 15), none⟩, ⟨some 16, .ext (.t 10) 0, none⟩, ⟨some 17, .ext (.t 10) 1, none⟩, ⟨some 6, .mov (.t 16), none⟩, ⟨some 7, .mov (.t 17), none⟩])
 (.seq (.reg [⟨some 18, .mov (.t 6), none⟩, ⟨some 19, .conv (.int .u64) (.t 18), none⟩, ⟨some 20, .mov (.t 7), none⟩, ⟨some 21, .conv (.int .u64) (.t 20), none⟩, ⟨some 4, .mov (.t 19), none⟩, ⟨some 5, .mov (.t 21), none⟩])
 .ret))
 .skip)
 (.seq (.reg [⟨some 23, .mov (.t 0), none⟩, ⟨some 24, .mov (.t 1), none⟩, ⟨some 25, .call true 76 [(.t 23), (.t 24)], none⟩, ⟨some 22, .mov (.t 25), none⟩, ⟨some 26, .ext (.t 22) 0, none⟩, ⟨some 27, .ext (.t 22) 1, none⟩, ⟨some 8, .mov (.t 26), none⟩, ⟨some 9, .mov (.t 27), none⟩])
 (.seq (.reg [⟨some 28, .mov (.t 8), none⟩, ⟨some 29, .mov (.t 9), none⟩, ⟨some 4, .mov (.t 28), none⟩, ⟨some 5, .mov (.t 29), none⟩])
 .ret))))
/-- math/bits.Mul -/
def af54 : AFunc := { n := 30, depth := 5, kl := [], res := [.tmp 4, .tmp 5], body := B54 }

def B55 : AC := (.seq (.reg [⟨some 4, .mov (.k (.b false)), none⟩])
 (.seq (.reg [⟨some 5, .mov (.t 0), none⟩, ⟨some 6, .mov (.t 1), none⟩, ⟨some 7, .call true 77 [(.t 5), (.t 6)], none⟩, ⟨some 4, .mov (.t 7), none⟩])
 .ret))
/-- strings.HasPrefix -/
def af55 : AFunc := { n := 8, depth := 4, kl := [], res := [.tmp 4], body := B55 }

def B56 : AC := (.seq (.reg [⟨some 4, .mov (.t 0), none⟩, ⟨some 5, .call false 62 [(.t 4)], none⟩])
 (.seq (.seq (.reg [⟨some 6, .mov (.t 1), none⟩, ⟨some 7, .bin .lss (.t 6) (.k (.i .i64 0)), none⟩])
 (.cond (.t 7)
 (.reg [⟨some 8, .mkif 9 (.k (.s [115, 116, 114, 105, 110, 103, 115, 46, 66, 117, 105, 108, 100, 101, 114, 46, 71, 114, 111, 119, 58, 32, 110, 101, 103, 97, 116, 105, 118, 101, 32, 99, 111, 117, 110, 116])), none⟩, ⟨none, .bad, none⟩])
 .skip))
 (.seq (.reg [⟨some 9, .mov (.t 0), none⟩, ⟨some 10, .nilck (.t 9), none⟩, ⟨some 11, .faddr 1 (.t 10), none⟩, ⟨some 12, .load false 1 (.t 11), none⟩, ⟨some 13, .cap (.t 12), none⟩, ⟨some 14, .mov (.t 0), none⟩, ⟨some 15, .nilck (.t 14), none⟩, ⟨some 16, .faddr 1 (.t 15), none⟩, ⟨some 17, .load false 1 (.t 16), none⟩, ⟨some 18, .len .slice (.t 17), none⟩, ⟨some 19, .bin .sub (.t 13) (.t 18), none⟩, ⟨some 20, .mov (.t 1), none⟩, ⟨some 21, .bin .lss (.t 19) (.t 20), none⟩])
 (.cond (.t 21)
 (.reg [⟨some 22, .mov (.t 0), none⟩, ⟨some 23, .mov (.t 1), none⟩, ⟨some 24, .call false 78 [(.t 22), (.t 23)], none⟩])
 .skip))))
/-- (*strings.Builder).Grow -/
def af56 : AFunc := { n := 25, depth := 5, kl := [], res := [], body := B56 }

def B57 : AC := (.seq (.reg [⟨some 2, .mov (.k (.i .i64 0)), none⟩])
 (.seq (.reg [⟨some 3, .mov (.t 0), none⟩, ⟨some 4, .nilck (.t 3), none⟩, ⟨some 5, .faddr 1 (.t 4), none⟩, ⟨some 6, .load false 1 (.t 5), none⟩, ⟨some 7, .len .slice (.t 6), none⟩, ⟨some 2, .mov (.t 7), none⟩])
 .ret))
/-- (*strings.Builder).Len -/
def af57 : AFunc := { n := 8, depth := 4, kl := [], res := [.tmp 2], body := B57 }

def L58_1 : AC := (.seq (.seq (.reg [⟨some 5, .mov (.t 0), none⟩, ⟨some 6, .len .str (.t 5), none⟩, ⟨some 7, .bin .gtr (.t 6) (.k (.i .i64 0)), none⟩, ⟨some 8, .mov (.t 7), none⟩, ⟨some 9, .mov (.t 0), some (8, true)⟩,
 ⟨some 10, .mov (.t 0), some (8, true)⟩,
 ⟨some 11, .len .str (.t 10), some (8, true)⟩,
 ⟨some 12, .bin .sub (.t 11) (.k (.i .i64 1)), some (8, true)⟩,
 ⟨some 13, .idx .str (.t 9) (.t 12), some (8, true)⟩,
 ⟨some 14, .mov (.t 1), some (8, true)⟩,
 ⟨some 15, .bin .eql (.t 13) (.t 14), some (8, true)⟩,
 ⟨some 16, .pick (.t 8) (.t 15) (.k (.b false)), none⟩])
 (.cond (.t 16)
 .skip
 (.exit 0)))
 (.blk 1 (.reg [⟨some 17, .mov (.t 0), none⟩, ⟨some 18, .mov (.t 0), none⟩, ⟨some 19, .len .str (.t 18), none⟩, ⟨some 20, .bin .sub (.t 19) (.k (.i .i64 1)), none⟩, ⟨some 21, .slc .str (.t 17) none (some (.t 20)) none, none⟩, ⟨some 0, .mov (.t 21), none⟩])))
def B58 : AC := (.seq (.reg [⟨some 4, .mov (.k (.s [])), none⟩])
 (.seq (.blk 0 (.loop L58_1))
 (.seq (.reg [⟨some 22, .mov (.t 0), none⟩, ⟨some 4, .mov (.t 22), none⟩])
 .ret)))
/-- strings.trimRightByte -/
def af58 : AFunc := { n := 23, depth := 5, kl := [], res := [.tmp 4], body := B58 }

def L59_1 : AC := (.seq (.seq (.reg [⟨some 6, .mov (.t 4), none⟩, ⟨some 7, .mov (.t 0), none⟩, ⟨some 8, .len .str (.t 7), none⟩, ⟨some 9, .bin .lss (.t 6) (.t 8), none⟩])
 (.cond (.t 9)
 .skip
 (.exit 0)))
 (.seq (.blk 1 (.seq (.reg [⟨some 12, .mov (.t 0), none⟩, ⟨some 13, .mov (.t 4), none⟩, ⟨some 14, .idx .str (.t 12) (.t 13), none⟩, ⟨some 5, .mov (.t 14), none⟩])
 (.seq (.seq (.reg [⟨some 15, .mov (.t 5), none⟩, ⟨some 16, .bin .geq (.t 15) (.k (.i .u8 128)), none⟩])
 (.cond (.t 16)
 (.seq (.reg [⟨some 17, .load true 256 (.t 2), none⟩, ⟨none, .store 256 (.t 2) (.t 17), none⟩, ⟨some 3, .mov (.k (.b false)), none⟩])
 .ret)
 .skip))
 (.reg [⟨some 18, .mov (.t 5), none⟩, ⟨some 19, .iaddr (.arr 256 1) (.t 2) (.t 18), none⟩, ⟨none, .store 1 (.t 19) (.k (.b true)), none⟩]))))
 (.reg [⟨some 10, .mov (.t 4), none⟩, ⟨some 11, .bin .add (.t 10) (.k (.i .i64 1)), none⟩, ⟨some 4, .mov (.t 11), none⟩])))
def B59 : AC := (.seq (.reg [⟨some 2, .lalloc [(.b false), (.b false), (.b false), (.b false), (.b false), (.b false), (.b false), (.b false), (.b false), (.b false), (.b false), (.b false), (.b false), (.b false), (.b false), (.b false), (.b false), (.b false), (.b false), (.b false), (.b false), (.b false), (.b false), (.b false), (.b false), (.b false), (.b false), (.b false), (.b false), (.b false), (.b false), (.b false), (.b false), (.b false), (.b false), (.b false), (.b false), (.b false), (.b false), (.b false), (.b false), (.b false), (.b false), (.b false), (.b false), (.b false), (.b false), (.b false), (.b false), (.b false), (.b false), (.b false), (.b false), (.b false), (.b false), (.b false), (.b false), (.b false), (.b false), (.b false), (.b false), (.b false), (.b false), (.b false), (.b false), (.b false), (.b false), (.b false), (.b false), (.b false), (.b false), (.b false), (.b false), (.b false), (.b false), (.b false), (.b false), (.b false), (.b false), (.b false), (.b false), (.b false), (.b false), (.b false), (.b false), (.b false), (.b false), (.b false), (.b false), (.b false), (.b false), (.b false), (.b false), (.b false), (.b false), (.b false), (.b false), (.b false), (.b false), (.b false), (.b false), (.b false), (.b false), (.b false), (.b false), (.b false), (.b false), (.b false), (.b false), (.b false), (.b false), (.b false), (.b false), (.b false), (.b false), (.b false), (.b false), (.b false), (.b false), (.b false), (.b false), (.b false), (.b false), (.b false), (.b false), (.b false), (.b false), (.b false), (.b false), (.b false), (.b false), (.b false), (.b false), (.b false), (.b false), (.b false), (.b false), (.b false), (.b false), (.b false), (.b false), (.b false), (.b false), (.b false), (.b false), (.b false), (.b false), (.b false), (.b false), (.b false), (.b false), (.b false), (.b false), (.b false), (.b false), (.b false), (.b false), (.b false), (.b false), (.b false), (.b false), (.b false), (.b false), (.b false), (.b false), (.b false), (.b false), (.b false), (.b false), (.b false), (.b false), (.b false), (.b false), (.b false), (.b false), (.b false), (.b false), (.b false), (.b false), (.b false), (.b false), (.b false), (.b false), (.b false), (.b false), (.b false), (.b false), (.b false), (.b false), (.b false), (.b false), (.b false), (.b false), (.b false), (.b false), (.b false), (.b false), (.b false), (.b false), (.b false), (.b false), (.b false), (.b false), (.b false), (.b false), (.b false), (.b false), (.b false), (.b false), (.b false), (.b false), (.b false), (.b false), (.b false), (.b false), (.b false), (.b false), (.b false), (.b false), (.b false), (.b false), (.b false), (.b false), (.b false), (.b false), (.b false), (.b false), (.b false), (.b false), (.b false), (.b false), (.b false), (.b false), (.b false), (.b false), (.b false), (.b false), (.b false), (.b false), (.b false), (.b false), (.b false), (.b false), (.b false), (.b false), (.b false), (.b false), (.b false), (.b false), (.b false), (.b false), (.b false), (.b false), (.b false), (.b false), (.b false)] [2, 19], none⟩, ⟨some 3, .mov (.k (.b false)), none⟩])
 (.seq (.seq (.reg [⟨some 4, .mov (.k (.i .i64 0)), none⟩])
 (.blk 0 (.loop L59_1)))
 (.seq (.reg [⟨some 20, .load true 256 (.t 2), none⟩, ⟨none, .store 256 (.t 2) (.t 20), none⟩, ⟨some 3, .mov (.k (.b true)), none⟩])
 .ret)))
/-- strings.makeASCIISet -/
def af59 : AFunc := { n := 21, depth := 5, kl := [(2, [2, 19])], res := [.cell 2 true 256, .tmp 3], body := B59 }

def L60_1 : AC := (.seq (.seq (.reg [⟨some 5, .mov (.t 0), none⟩, ⟨some 6, .len .str (.t 5), none⟩, ⟨some 7, .bin .gtr (.t 6) (.k (.i .i64 0)), none⟩])
 (.cond (.t 7)
 .skip
 (.exit 0)))
 (.blk 1 (.seq (.seq (.reg [⟨some 8, .mov (.t 1), none⟩, ⟨some 9, .mov (.t 0), none⟩, ⟨some 10, .mov (.t 0), none⟩, ⟨some 11, .len .str (.t 10), none⟩, ⟨some 12, .bin .sub (.t 11) (.k (.i .i64 1)), none⟩, ⟨some 13, .idx .str (.t 9) (.t 12), none⟩, ⟨some 14, .call false 79 [(.t 8), (.t 13)], none⟩, ⟨some 15, .un .not (.t 14), none⟩])
 (.cond (.t 15)
 (.exit 0)
 .skip))
 (.reg [⟨some 16, .mov (.t 0), none⟩, ⟨some 17, .mov (.t 0), none⟩, ⟨some 18, .len .str (.t 17), none⟩, ⟨some 19, .bin .sub (.t 18) (.k (.i .i64 1)), none⟩, ⟨some 20, .slc .str (.t 16) none (some (.t 19)) none, none⟩, ⟨some 0, .mov (.t 20), none⟩]))))
def B60 : AC := (.seq (.reg [⟨some 4, .mov (.k (.s [])), none⟩])
 (.seq (.blk 0 (.loop L60_1))
 (.seq (.reg [⟨some 21, .mov (.t 0), none⟩, ⟨some 4, .mov (.t 21), none⟩])
 .ret)))
/-- strings.trimRightASCII -/
def af60 : AFunc := { n := 22, depth := 5, kl := [], res := [.tmp 4], body := B60 }

def L61_1 : AC := (.seq (.seq (.reg [⟨some 7, .mov (.t 0), none⟩, ⟨some 8, .len .str (.t 7), none⟩, ⟨some 9, .bin .gtr (.t 8) (.k (.i .i64 0)), none⟩])
 (.cond (.t 9)
 .skip
 (.exit 0)))
 (.blk 1 (.seq (.reg [⟨some 10, .mov (.t 0), none⟩, ⟨some 11, .mov (.t 0), none⟩, ⟨some 12, .len .str (.t 11), none⟩, ⟨some 13, .bin .sub (.t 12) (.k (.i .i64 1)), none⟩, ⟨some 14, .idx .str (.t 10) (.t 13), none⟩, ⟨some 15, .conv (.int .i32) (.t 14), none⟩, ⟨some 5, .mov (.t 15), none⟩, ⟨some 6, .mov (.k (.i .i64 1)), none⟩])
 (.seq (.seq (.reg [⟨some 16, .mov (.t 5), none⟩, ⟨some 17, .bin .geq (.t 16) (.k (.i .i32 128)), none⟩])
 (.cond (.t 17)
 (.reg [⟨some 19, .mov (.t 0), none⟩, ⟨some 20, .call true 80 [(.t 19)], none⟩, ⟨some 18, .mov (.t 20), none⟩, ⟨some 21, .ext (.t 18) 0, none⟩, ⟨some 22, .ext (.t 18) 1, none⟩, ⟨some 5, .mov (.t 21), none⟩, ⟨some 6, .mov (.t 22), none⟩])
 .skip))
 (.seq (.seq (.reg [⟨some 23, .mov (.t 1), none⟩, ⟨some 24, .mov (.t 5), none⟩, ⟨some 25, .call true 81 [(.t 23), (.t 24)], none⟩, ⟨some 26, .un .not (.t 25), none⟩])
 (.cond (.t 26)
 (.exit 0)
 .skip))
 (.reg [⟨some 27, .mov (.t 0), none⟩, ⟨some 28, .mov (.t 0), none⟩, ⟨some 29, .len .str (.t 28), none⟩, ⟨some 30, .mov (.t 6), none⟩, ⟨some 31, .bin .sub (.t 29) (.t 30), none⟩, ⟨some 32, .slc .str (.t 27) none (some (.t 31)) none, none⟩, ⟨some 0, .mov (.t 32), none⟩]))))))
def B61 : AC := (.seq (.reg [⟨some 4, .mov (.k (.s [])), none⟩])
 (.seq (.blk 0 (.loop L61_1))
 (.seq (.reg [⟨some 33, .mov (.t 0), none⟩, ⟨some 4, .mov (.t 33), none⟩])
 .ret)))
/-- strings.trimRightUnicode -/
def af61 : AFunc := { n := 34, depth := 6, kl := [], res := [.tmp 4], body := B61 }

def B62 : AC := (.seq (.reg [⟨some 2, .mov (.t 0), none⟩, ⟨some 3, .nilck (.t 2), none⟩, ⟨some 4, .faddr 0 (.t 3), none⟩, ⟨some 5, .load false 1 (.t 4), none⟩, ⟨some 6, .eq false .ptr (.t 5) (.k .nilp), none⟩])
 (.cond (.t 6)
 (.reg [⟨some 7, .mov (.t 0), none⟩, ⟨some 8, .mov (.t 0), none⟩, ⟨some 9, .conv .uns (.t 8), none⟩, ⟨some 10, .noesc 82 (.t 9), none⟩, ⟨some 11, .conv (.toPtr 57 2) (.t 10), none⟩, ⟨some 12, .nilck (.t 7), none⟩, ⟨some 13, .faddr 0 (.t 12), none⟩, ⟨none, .store 1 (.t 13) (.t 11), none⟩])
 (.seq (.reg [⟨some 14, .mov (.t 0), none⟩, ⟨some 15, .nilck (.t 14), none⟩, ⟨some 16, .faddr 0 (.t 15), none⟩, ⟨some 17, .load false 1 (.t 16), none⟩, ⟨some 18, .mov (.t 0), none⟩, ⟨some 19, .eq true .ptr (.t 17) (.t 18), none⟩])
 (.cond (.t 19)
    .refuse
 .skip))))
/-- (*strings.Builder).copyCheck -/
def af62 : AFunc := { n := 20, depth := 5, kl := [], res := [], body := B62 }

def B63 : AC := (.seq (.reg [⟨some 4, .movnil 5, none⟩])
 (.seq (.seq (.reg [⟨some 5, .mov (.t 1), none⟩, ⟨some 6, .conv (.int .u32) (.t 5), none⟩, ⟨some 7, .bin .leq (.t 6) (.k (.i .u32 127)), none⟩])
 (.cond (.t 7)
 (.seq (.reg [⟨some 8, .mov (.t 0), none⟩, ⟨some 9, .mov (.t 1), none⟩, ⟨some 10, .conv (.int .u8) (.t 9), none⟩, ⟨some 11, .bslice false 5 1 1 [(.i .u8 0)] [(0, (.t 10))], none⟩, ⟨some 12, .app 5 1 (.t 8) (.t 11), none⟩, ⟨some 4, .mov (.t 12), none⟩])
 .ret)
 .skip))
 (.seq (.reg [⟨some 13, .mov (.t 0), none⟩, ⟨some 14, .mov (.t 1), none⟩, ⟨some 15, .call false 83 [(.t 13), (.t 14)], none⟩, ⟨some 4, .mov (.t 15), none⟩])
 .ret)))
/-- unicode/utf8.AppendRune -/
def af63 : AFunc := { n := 16, depth := 5, kl := [], res := [.tmp 4], body := B63 }

def B64 : AC := (.seq (.reg [⟨some 4, .mov (.k (.s [])), none⟩])
 (.seq (.seq (.reg [⟨some 10, .mov (.t 1), none⟩, ⟨some 11, .bin .eql (.t 10) (.k (.i .i64 10)), none⟩])
 (.cond (.t 11)
 (.seq (.seq (.reg [⟨some 12, .mov (.t 0), none⟩, ⟨some 13, .bin .leq (.k (.i .i64 0)) (.t 12), none⟩, ⟨some 14, .mov (.t 13), none⟩, ⟨some 15, .mov (.t 0), some (14, true)⟩,
 ⟨some 16, .bin .lss (.t 15) (.k (.i .i64 100)), some (14, true)⟩,
 ⟨some 17, .pick (.t 14) (.t 16) (.k (.b false)), none⟩])
 (.cond (.t 17)
 (.seq (.reg [⟨some 18, .mov (.t 0), none⟩, ⟨some 19, .call true 84 [(.t 18)], none⟩, ⟨some 4, .mov (.t 19), none⟩])
 .ret)
 .skip))
 (.seq (.reg [⟨some 5, .alloc 125 [(.i .u8 0), (.i .u8 0), (.i .u8 0), (.i .u8 0), (.i .u8 0), (.i .u8 0), (.i .u8 0), (.i .u8 0), (.i .u8 0), (.i .u8 0), (.i .u8 0), (.i .u8 0), (.i .u8 0), (.i .u8 0), (.i .u8 0), (.i .u8 0), (.i .u8 0), (.i .u8 0), (.i .u8 0), (.i .u8 0), (.i .u8 0), (.i .u8 0), (.i .u8 0), (.i .u8 0)], none⟩])
 (.seq (.reg [⟨some 20, .mov (.t 0), none⟩, ⟨some 21, .conv (.int .u64) (.t 20), none⟩, ⟨some 6, .mov (.t 21), none⟩])
 (.seq (.seq (.reg [⟨some 22, .mov (.t 0), none⟩, ⟨some 23, .bin .lss (.t 22) (.k (.i .i64 0)), none⟩])
 (.cond (.t 23)
 (.reg [⟨some 24, .mov (.t 6), none⟩, ⟨some 25, .un .neg (.t 24), none⟩, ⟨some 6, .mov (.t 25), none⟩])
 .skip))
 (.seq (.reg [⟨some 26, .mov (.t 6), none⟩, ⟨some 27, .call true 85 [(.t 26)], none⟩, ⟨some 7, .mov (.t 27), none⟩])
 (.seq (.reg [⟨some 28, .mov (.t 7), none⟩, ⟨some 29, .bin .add (.k (.i .i64 1)) (.t 28), none⟩, ⟨some 30, .slc (.arr 24 1) (.t 5) (some (.k (.i .i64 1))) (some (.t 29)) none, none⟩, ⟨some 31, .mov (.t 6), none⟩, ⟨some 32, .call false 86 [(.t 30), (.t 31)], none⟩])
 (.seq (.seq (.reg [⟨some 33, .mov (.t 0), none⟩, ⟨some 34, .bin .lss (.t 33) (.k (.i .i64 0)), none⟩])
 (.cond (.t 34)
 (.seq (.reg [⟨some 35, .iaddr (.arr 24 1) (.t 5) (.k (.i .i64 0)), none⟩, ⟨none, .store 1 (.t 35) (.k (.i .u8 45)), none⟩])
 (.seq (.reg [⟨some 36, .mov (.t 7), none⟩, ⟨some 37, .bin .add (.k (.i .i64 1)) (.t 36), none⟩, ⟨some 38, .slc (.arr 24 1) (.t 5) none (some (.t 37)) none, none⟩, ⟨some 39, .conv .toStr (.t 38), none⟩, ⟨some 4, .mov (.t 39), none⟩])
 .ret))
 .skip))
 (.seq (.reg [⟨some 40, .mov (.t 7), none⟩, ⟨some 41, .bin .add (.k (.i .i64 1)) (.t 40), none⟩, ⟨some 42, .slc (.arr 24 1) (.t 5) (some (.k (.i .i64 1))) (some (.t 41)) none, none⟩, ⟨some 43, .conv .toStr (.t 42), none⟩, ⟨some 4, .mov (.t 43), none⟩])
 .ret))))))))
 .skip))
 (.seq (.reg [⟨some 45, .mov (.t 0), none⟩, ⟨some 46, .conv (.int .u64) (.t 45), none⟩, ⟨some 47, .mov (.t 1), none⟩, ⟨some 48, .mov (.t 0), none⟩, ⟨some 49, .bin .lss (.t 48) (.k (.i .i64 0)), none⟩, ⟨some 50, .call false 87 [(.k (.sl [] 0 .nil)), (.t 46), (.t 47), (.t 49), (.k (.b false))], none⟩, ⟨some 44, .mov (.t 50), none⟩, ⟨some 51, .ext (.t 44) 0, none⟩, ⟨some 52, .ext (.t 44) 1, none⟩, ⟨some 8, .mov (.t 51), none⟩, ⟨some 9, .mov (.t 52), none⟩])
 (.seq (.reg [⟨some 53, .mov (.t 9), none⟩, ⟨some 4, .mov (.t 53), none⟩])
 .ret))))
/-- internal/strconv.FormatInt -/
def af64 : AFunc := { n := 54, depth := 6, kl := [], res := [.tmp 4], body := B64 }

def B65 : AC := (.seq (.reg [⟨some 2, .lbox (.t 0) [2], none⟩, ⟨some 4, .mov (.k (.s [])), none⟩])
 (.seq (.seq (.reg [⟨some 5, .load true 4 (.t 2), none⟩, ⟨some 6, .call true 88 [(.t 5)], none⟩, ⟨some 7, .mov (.t 1), none⟩, ⟨some 8, .bin .lss (.t 6) (.t 7), none⟩])
 (.cond (.t 8)
 (.seq (.reg [⟨some 9, .load true 4 (.t 2), none⟩, ⟨some 10, .call true 38 [(.t 9)], none⟩, ⟨some 11, .bin .add (.k (.s [40])) (.t 10), none⟩, ⟨some 12, .bin .add (.t 11) (.k (.s [41])), none⟩, ⟨some 4, .mov (.t 12), none⟩])
 .ret)
 .skip))
 (.seq (.reg [⟨some 13, .load true 4 (.t 2), none⟩, ⟨some 14, .call true 38 [(.t 13)], none⟩, ⟨some 4, .mov (.t 14), none⟩])
 .ret)))
/-- tidemark/lang.within -/
def af65 : AFunc := { n := 15, depth := 4, kl := [(2, [2])], res := [.tmp 4], body := B65 }

def L66_2 : AC := (.seq (.reg [⟨some 66, .bin .lss (.t 65) (.t 64), none⟩])
 (.seq (.cond (.t 66)
 .skip
 (.exit 3))
 (.seq (.blk 4 (.seq (.reg [⟨some 67, .iaddr (.slice 1) (.t 63) (.t 65), none⟩, ⟨some 68, .load false 1 (.t 67), none⟩, ⟨some 10, .mov (.t 68), none⟩])
 (.seq (.reg [⟨some 69, .mov (.t 1), none⟩, ⟨some 70, .call false 33 [(.t 8), (.t 69)], none⟩])
 (.reg [⟨some 71, .mov (.t 10), none⟩, ⟨some 72, .call false 33 [(.t 8), (.t 71)], none⟩]))))
 (.reg [⟨some 73, .bin .add (.t 65) (.k (.i .i64 1)), none⟩, ⟨some 65, .mov (.t 73), none⟩]))))
def L66_1 : AC := (.seq (.reg [⟨some 42, .bin .lss (.t 41) (.t 40), none⟩])
 (.seq (.cond (.t 42)
 .skip
 (.exit 1))
 (.seq (.blk 2 (.seq (.reg [⟨some 43, .iaddr (.slice 1) (.t 39) (.t 41), none⟩, ⟨some 44, .load false 1 (.t 43), none⟩, ⟨some 7, .mov (.t 44), none⟩])
 (.seq (.seq (.reg [⟨some 45, .mov (.t 7), none⟩, ⟨some 46, .len .str (.t 45), none⟩, ⟨some 47, .mov (.t 5), none⟩, ⟨some 48, .bin .sub (.k (.i .i64 9223372036854775807)) (.t 47), none⟩, ⟨some 49, .bin .gtr (.t 46) (.t 48), none⟩])
 (.cond (.t 49)
 (.reg [⟨some 50, .mkif 9 (.k (.s [115, 116, 114, 105, 110, 103, 115, 58, 32, 74, 111, 105, 110, 32, 111, 117, 116, 112, 117, 116, 32, 108, 101, 110, 103, 116, 104, 32, 111, 118, 101, 114, 102, 108, 111, 119])), none⟩, ⟨none, .bad, none⟩])
 .skip))
 (.reg [⟨some 51, .mov (.t 5), none⟩, ⟨some 52, .mov (.t 7), none⟩, ⟨some 53, .len .str (.t 52), none⟩, ⟨some 54, .bin .add (.t 51) (.t 53), none⟩, ⟨some 5, .mov (.t 54), none⟩]))))
 (.reg [⟨some 55, .bin .add (.t 41) (.k (.i .i64 1)), none⟩, ⟨some 41, .mov (.t 55), none⟩]))))
def B66 : AC := (.seq (.reg [⟨some 4, .mov (.k (.s [])), none⟩])
 (.seq (.seq (.reg [⟨some 11, .mov (.t 0), none⟩, ⟨some 12, .len .slice (.t 11), none⟩])
 (.blk 0 (.seq (.reg [⟨some 14, .bin .eql (.t 12) (.k (.i .i64 0)), none⟩, ⟨some 13, .mov (.t 14), none⟩])
 (.cond (.t 13)
 (.seq (.reg [⟨some 4, .mov (.k (.s [])), none⟩])
 .ret)
 (.seq (.reg [⟨some 16, .bin .eql (.t 12) (.k (.i .i64 1)), none⟩, ⟨some 15, .mov (.t 16), none⟩])
 (.cond (.t 15)
 (.seq (.reg [⟨some 17, .mov (.t 0), none⟩, ⟨some 18, .iaddr (.slice 1) (.t 17) (.k (.i .i64 0)), none⟩, ⟨some 19, .load false 1 (.t 18), none⟩, ⟨some 4, .mov (.t 19), none⟩])
 .ret)
 .skip))))))
 (.seq (.reg [⟨some 5, .mov (.k (.i .i64 0)), none⟩])
 (.seq (.seq (.reg [⟨some 20, .mov (.t 1), none⟩, ⟨some 21, .len .str (.t 20), none⟩, ⟨some 22, .bin .gtr (.t 21) (.k (.i .i64 0)), none⟩])
 (.cond (.t 22)
 (.seq (.seq (.reg [⟨some 23, .mov (.t 1), none⟩, ⟨some 24, .len .str (.t 23), none⟩, ⟨some 25, .mov (.t 0), none⟩, ⟨some 26, .len .slice (.t 25), none⟩, ⟨some 27, .bin .sub (.t 26) (.k (.i .i64 1)), none⟩, ⟨some 28, .bin .quo (.k (.i .i64 9223372036854775807)) (.t 27), none⟩, ⟨some 29, .bin .geq (.t 24) (.t 28), none⟩])
 (.cond (.t 29)
 (.reg [⟨some 30, .mkif 9 (.k (.s [115, 116, 114, 105, 110, 103, 115, 58, 32, 74, 111, 105, 110, 32, 111, 117, 116, 112, 117, 116, 32, 108, 101, 110, 103, 116, 104, 32, 111, 118, 101, 114, 102, 108, 111, 119])), none⟩, ⟨none, .bad, none⟩])
 .skip))
 (.reg [⟨some 31, .mov (.t 5), none⟩, ⟨some 32, .mov (.t 1), none⟩, ⟨some 33, .len .str (.t 32), none⟩, ⟨some 34, .mov (.t 0), none⟩, ⟨some 35, .len .slice (.t 34), none⟩, ⟨some 36, .bin .sub (.t 35) (.k (.i .i64 1)), none⟩, ⟨some 37, .bin .mul (.t 33) (.t 36), none⟩, ⟨some 38, .bin .add (.t 31) (.t 37), none⟩, ⟨some 5, .mov (.t 38), none⟩]))
 .skip))
 (.seq (.seq (.reg [⟨some 39, .mov (.t 0), none⟩, ⟨some 40, .len .slice (.t 39), none⟩, ⟨some 41, .mov (.k (.i .i64 0)), none⟩])
 (.blk 1 (.loop L66_1)))
 (.seq (.reg [⟨some 8, .alloc 57 [.nilp, (.sl [] 0 .nil)], none⟩])
 (.seq (.reg [⟨some 56, .mov (.t 5), none⟩, ⟨some 57, .call false 56 [(.t 8), (.t 56)], none⟩])
 (.seq (.reg [⟨some 58, .mov (.t 0), none⟩, ⟨some 59, .iaddr (.slice 1) (.t 58) (.k (.i .i64 0)), none⟩, ⟨some 60, .load false 1 (.t 59), none⟩, ⟨some 61, .call false 33 [(.t 8), (.t 60)], none⟩])
 (.seq (.seq (.reg [⟨some 62, .mov (.t 0), none⟩, ⟨some 63, .slc (.slice 1) (.t 62) (some (.k (.i .i64 1))) none none, none⟩, ⟨some 64, .len .slice (.t 63), none⟩, ⟨some 65, .mov (.k (.i .i64 0)), none⟩])
 (.blk 3 (.loop L66_2)))
 (.seq (.reg [⟨some 74, .call false 35 [(.t 8)], none⟩, ⟨some 4, .mov (.t 74), none⟩])
 .ret))))))))))
/-- strings.Join -/
def af66 : AFunc := { n := 75, depth := 7, kl := [], res := [.tmp 4], body := B66 }

def L69_1 : AC := (.seq (.reg [⟨some 152, .bin .lss (.t 151) (.t 150), none⟩])
 (.seq (.cond (.t 152)
 .skip
 (.exit 1))
 (.seq (.blk 2 (.seq (.reg [⟨some 153, .iaddr (.slice 4) (.t 149) (.t 151), none⟩, ⟨some 154, .load true 4 (.t 153), none⟩, ⟨some 11, .lalloc [(.i .i64 0), (.s []), (.s []), (.sl [] 0 .nil)] [11], none⟩, ⟨none, .store 4 (.t 11) (.t 154), none⟩])
 (.seq (.reg [⟨some 156, .load true 4 (.t 11), none⟩, ⟨some 157, .mov (.t 1), none⟩, ⟨some 158, .bin .add (.t 157) (.k (.i .i64 1)), none⟩, ⟨some 159, .mov (.t 2), none⟩, ⟨some 160, .call false 69 [(.t 156), (.t 158), (.t 159)], none⟩, ⟨some 155, .mov (.t 160), none⟩, ⟨some 161, .ext (.t 155) 0, none⟩, ⟨some 162, .ext (.t 155) 1, none⟩, ⟨some 12, .mov (.t 161), none⟩, ⟨some 13, .mov (.t 162), none⟩])
 (.seq (.seq (.reg [⟨some 163, .mov (.t 13), none⟩, ⟨some 164, .bin .neq (.t 163) (.k (.i .i64 0)), none⟩])
 (.cond (.t 164)
 (.seq (.reg [⟨some 165, .mov (.t 13), none⟩, ⟨some 6, .mov (.k .nili), none⟩, ⟨some 7, .mov (.t 165), none⟩])
 .ret)
 .skip))
 (.seq (.reg [⟨some 167, .mov (.t 12), none⟩, ⟨some 168, .tas false [132, 135, 137, 138, 142, 144, 145] [9] .nili true (.t 167), none⟩, ⟨some 166, .mov (.t 168), none⟩, ⟨some 169, .ext (.t 166) 0, none⟩, ⟨some 170, .ext (.t 166) 1, none⟩, ⟨some 14, .mov (.t 169), none⟩, ⟨some 15, .mov (.t 170), none⟩])
 (.seq (.reg [⟨some 171, .mov (.t 15), none⟩])
 (.cond (.t 171)
 (.reg [⟨some 172, .mov (.t 9), none⟩, ⟨some 173, .mov (.t 14), none⟩, ⟨some 174, .bslice false 71 1 1 [.nili] [(0, (.t 173))], none⟩, ⟨some 175, .app 71 1 (.t 172) (.t 174), none⟩, ⟨some 9, .mov (.t 175), none⟩])
 .skip)))))))
 (.reg [⟨some 176, .bin .add (.t 151) (.k (.i .i64 1)), none⟩, ⟨some 151, .mov (.t 176), none⟩]))))
def B69 : AC := (.seq (.reg [⟨some 3, .lbox (.t 0) [3, 29, 34, 41, 46, 53, 60, 65, 70, 75, 82, 88, 93, 95, 100, 107, 112, 119, 123, 128, 133, 138, 142, 148, 177], none⟩, ⟨some 6, .mov (.k .nili), none⟩, ⟨some 7, .mov (.k (.i .i64 0)), none⟩])
 (.seq (.reg [⟨some 16, .mov (.t 2), none⟩, ⟨some 17, .nilck (.t 16), none⟩, ⟨some 18, .load false 1 (.t 17), none⟩, ⟨some 19, .bin .add (.t 18) (.k (.i .i64 1)), none⟩, ⟨some 20, .nilck (.t 16), none⟩, ⟨none, .store 1 (.t 20) (.t 19), none⟩])
 (.seq (.seq (.reg [⟨some 21, .mov (.t 1), none⟩, ⟨some 22, .bin .gtr (.t 21) (.k (.i .i64 6)), none⟩, ⟨some 23, .mov (.t 22), none⟩, ⟨some 24, .mov (.t 2), some (23, false)⟩,
 ⟨some 25, .nilck (.t 24), some (23, false)⟩,
 ⟨some 26, .load false 1 (.t 25), some (23, false)⟩,
 ⟨some 27, .bin .gtr (.t 26) (.k (.i .i64 24)), some (23, false)⟩,
 ⟨some 28, .pick (.t 23) (.k (.b true)) (.t 27), none⟩])
 (.cond (.t 28)
 (.seq (.reg [⟨some 6, .mov (.k .nili), none⟩, ⟨some 7, .mov (.k (.i .i64 51)), none⟩])
 .ret)
 .skip))
 (.seq (.reg [⟨some 29, .faddr 3 (.t 3), none⟩, ⟨some 30, .load false 1 (.t 29), none⟩, ⟨some 31, .len .slice (.t 30), none⟩, ⟨some 32, .bin .eql (.t 31) (.k (.i .i64 0)), none⟩, ⟨some 8, .mov (.t 32), none⟩])
 (.seq (.blk 0 (.seq (.reg [⟨some 34, .faddr 0 (.t 3), none⟩, ⟨some 35, .load false 1 (.t 34), none⟩, ⟨some 36, .bin .eql (.t 35) (.k (.i .i64 0)), none⟩, ⟨some 37, .mov (.t 36), none⟩, ⟨some 38, .mov (.t 8), some (37, true)⟩,
 ⟨some 39, .pick (.t 37) (.t 38) (.k (.b false)), none⟩, ⟨some 40, .mov (.t 39), none⟩, ⟨some 41, .faddr 1 (.t 3), some (40, true)⟩,
 ⟨some 42, .load false 1 (.t 41), some (40, true)⟩,
 ⟨some 43, .bin .eql (.t 42) (.k (.s [])), some (40, true)⟩,
 ⟨some 44, .pick (.t 40) (.t 43) (.k (.b false)), none⟩, ⟨some 45, .mov (.t 44), none⟩, ⟨some 46, .faddr 2 (.t 3), some (45, true)⟩,
 ⟨some 47, .load false 1 (.t 46), some (45, true)⟩,
 ⟨some 48, .bin .eql (.t 47) (.k (.s [])), some (45, true)⟩,
 ⟨some 49, .pick (.t 45) (.t 48) (.k (.b false)), none⟩, ⟨some 33, .mov (.t 49), none⟩])
 (.cond (.t 33)
 (.seq (.reg [⟨some 50, .build [] [], none⟩, ⟨some 51, .mkif 132 (.t 50), none⟩, ⟨some 6, .mov (.t 51), none⟩, ⟨some 7, .mov (.k (.i .i64 0)), none⟩])
 .ret)
 (.seq (.reg [⟨some 53, .faddr 0 (.t 3), none⟩, ⟨some 54, .load false 1 (.t 53), none⟩, ⟨some 55, .bin .eql (.t 54) (.k (.i .i64 1)), none⟩, ⟨some 56, .mov (.t 55), none⟩, ⟨some 57, .mov (.t 8), some (56, true)⟩,
 ⟨some 58, .pick (.t 56) (.t 57) (.k (.b false)), none⟩, ⟨some 59, .mov (.t 58), none⟩, ⟨some 60, .faddr 1 (.t 3), some (59, true)⟩,
 ⟨some 61, .load false 1 (.t 60), some (59, true)⟩,
 ⟨some 62, .bin .eql (.t 61) (.k (.s [])), some (59, true)⟩,
 ⟨some 63, .pick (.t 59) (.t 62) (.k (.b false)), none⟩, ⟨some 64, .mov (.t 63), none⟩, ⟨some 65, .faddr 2 (.t 3), some (64, true)⟩,
 ⟨some 66, .load false 1 (.t 65), some (64, true)⟩,
 ⟨some 67, .call true 90 [(.t 66)], some (64, true)⟩,
 ⟨some 68, .bin .eql (.t 67) (.k (.i .i64 0)), some (64, true)⟩,
 ⟨some 69, .pick (.t 64) (.t 68) (.k (.b false)), none⟩, ⟨some 52, .mov (.t 69), none⟩])
 (.cond (.t 52)
 (.seq (.reg [⟨some 70, .faddr 2 (.t 3), none⟩, ⟨some 71, .load false 1 (.t 70), none⟩, ⟨some 72, .build [(.s [])] [(0, 1, (.t 71))], none⟩, ⟨some 73, .mkif 135 (.t 72), none⟩, ⟨some 6, .mov (.t 73), none⟩, ⟨some 7, .mov (.k (.i .i64 0)), none⟩])
 .ret)
 (.seq (.reg [⟨some 75, .faddr 0 (.t 3), none⟩, ⟨some 76, .load false 1 (.t 75), none⟩, ⟨some 77, .bin .eql (.t 76) (.k (.i .i64 2)), none⟩, ⟨some 78, .mov (.t 77), none⟩, ⟨some 79, .mov (.t 8), some (78, true)⟩,
 ⟨some 80, .pick (.t 78) (.t 79) (.k (.b false)), none⟩, ⟨some 81, .mov (.t 80), none⟩, ⟨some 82, .faddr 1 (.t 3), some (81, true)⟩,
 ⟨some 83, .load false 1 (.t 82), some (81, true)⟩,
 ⟨some 84, .call true 91 [(.t 83)], some (81, true)⟩,
 ⟨some 85, .bin .eql (.t 84) (.k (.i .i64 0)), some (81, true)⟩,
 ⟨some 86, .pick (.t 81) (.t 85) (.k (.b false)), none⟩, ⟨some 87, .mov (.t 86), none⟩, ⟨some 88, .faddr 2 (.t 3), some (87, true)⟩,
 ⟨some 89, .load false 1 (.t 88), some (87, true)⟩,
 ⟨some 90, .call true 92 [(.t 89)], some (87, true)⟩,
 ⟨some 91, .bin .eql (.t 90) (.k (.i .i64 0)), some (87, true)⟩,
 ⟨some 92, .pick (.t 87) (.t 91) (.k (.b false)), none⟩, ⟨some 74, .mov (.t 92), none⟩])
 (.cond (.t 74)
 (.seq (.reg [⟨some 93, .faddr 1 (.t 3), none⟩, ⟨some 94, .load false 1 (.t 93), none⟩, ⟨some 95, .faddr 2 (.t 3), none⟩, ⟨some 96, .load false 1 (.t 95), none⟩, ⟨some 97, .build [(.s []), (.s [])] [(0, 1, (.t 94)), (1, 1, (.t 96))], none⟩, ⟨some 98, .mkif 137 (.t 97), none⟩, ⟨some 6, .mov (.t 98), none⟩, ⟨some 7, .mov (.k (.i .i64 0)), none⟩])
 .ret)
 (.seq (.reg [⟨some 100, .faddr 0 (.t 3), none⟩, ⟨some 101, .load false 1 (.t 100), none⟩, ⟨some 102, .bin .eql (.t 101) (.k (.i .i64 3)), none⟩, ⟨some 103, .mov (.t 102), none⟩, ⟨some 104, .mov (.t 8), some (103, true)⟩,
 ⟨some 105, .pick (.t 103) (.t 104) (.k (.b false)), none⟩, ⟨some 106, .mov (.t 105), none⟩, ⟨some 107, .faddr 1 (.t 3), some (106, true)⟩,
 ⟨some 108, .load false 1 (.t 107), some (106, true)⟩,
 ⟨some 109, .bin .eql (.t 108) (.k (.s [])), some (106, true)⟩,
 ⟨some 110, .pick (.t 106) (.t 109) (.k (.b false)), none⟩, ⟨some 111, .mov (.t 110), none⟩, ⟨some 112, .faddr 2 (.t 3), some (111, true)⟩,
 ⟨some 113, .load false 1 (.t 112), some (111, true)⟩,
 ⟨some 114, .bin .eql (.t 113) (.k (.s [])), some (111, true)⟩,
 ⟨some 115, .pick (.t 111) (.t 114) (.k (.b false)), none⟩, ⟨some 99, .mov (.t 115), none⟩])
 (.cond (.t 99)
 (.seq (.reg [⟨some 116, .build [] [], none⟩, ⟨some 117, .mkif 138 (.t 116), none⟩, ⟨some 6, .mov (.t 117), none⟩, ⟨some 7, .mov (.k (.i .i64 0)), none⟩])
 .ret)
 (.seq (.reg [⟨some 119, .faddr 1 (.t 3), none⟩, ⟨some 120, .load false 1 (.t 119), none⟩, ⟨some 121, .bin .neq (.t 120) (.k (.s [])), none⟩, ⟨some 122, .mov (.t 121), none⟩, ⟨some 123, .faddr 2 (.t 3), some (122, false)⟩,
 ⟨some 124, .load false 1 (.t 123), some (122, false)⟩,
 ⟨some 125, .bin .neq (.t 124) (.k (.s [])), some (122, false)⟩,
 ⟨some 126, .pick (.t 122) (.k (.b true)) (.t 125), none⟩, ⟨some 127, .mov (.t 126), none⟩, ⟨some 128, .faddr 0 (.t 3), some (127, false)⟩,
 ⟨some 129, .load false 1 (.t 128), some (127, false)⟩,
 ⟨some 130, .bin .lss (.t 129) (.k (.i .i64 4)), some (127, false)⟩,
 ⟨some 131, .pick (.t 127) (.k (.b true)) (.t 130), none⟩, ⟨some 132, .mov (.t 131), none⟩, ⟨some 133, .faddr 0 (.t 3), some (132, false)⟩,
 ⟨some 134, .load false 1 (.t 133), some (132, false)⟩,
 ⟨some 135, .bin .gtr (.t 134) (.k (.i .i64 6)), some (132, false)⟩,
 ⟨some 136, .pick (.t 132) (.k (.b true)) (.t 135), none⟩, ⟨some 137, .mov (.t 136), none⟩, ⟨some 138, .faddr 0 (.t 3), some (137, false)⟩,
 ⟨some 139, .load false 1 (.t 138), some (137, false)⟩,
 ⟨some 140, .bin .eql (.t 139) (.k (.i .i64 4)), some (137, false)⟩,
 ⟨some 141, .mov (.t 140), some (137, false)⟩,
 ⟨some 142, .faddr 3 (.t 3), some (141, true)⟩,
 ⟨some 143, .load false 1 (.t 142), some (141, true)⟩,
 ⟨some 144, .len .slice (.t 143), some (141, true)⟩,
 ⟨some 145, .bin .neq (.t 144) (.k (.i .i64 1)), some (141, true)⟩,
 ⟨some 146, .pick (.t 141) (.t 145) (.k (.b false)), some (137, false)⟩,
 ⟨some 147, .pick (.t 137) (.k (.b true)) (.t 146), none⟩, ⟨some 118, .mov (.t 147), none⟩])
 (.cond (.t 118)
 (.seq (.reg [⟨some 6, .mov (.k .nili), none⟩, ⟨some 7, .mov (.k (.i .i64 50)), none⟩])
 .ret)
 .skip)))))))))))
 (.seq (.reg [⟨some 9, .movnil 71, none⟩])
 (.seq (.seq (.reg [⟨some 148, .faddr 3 (.t 3), none⟩, ⟨some 149, .load false 1 (.t 148), none⟩, ⟨some 150, .len .slice (.t 149), none⟩, ⟨some 151, .mov (.k (.i .i64 0)), none⟩])
 (.blk 1 (.loop L69_1)))
 (.seq (.seq (.reg [⟨some 177, .faddr 0 (.t 3), none⟩, ⟨some 178, .load false 1 (.t 177), none⟩])
 (.blk 3 (.seq (.reg [⟨some 180, .bin .eql (.t 178) (.k (.i .i64 4)), none⟩, ⟨some 179, .mov (.t 180), none⟩])
 (.cond (.t 179)
 (.seq (.reg [⟨some 181, .mov (.t 9), none⟩, ⟨some 182, .iaddr (.slice 1) (.t 181) (.k (.i .i64 0)), none⟩, ⟨some 183, .load false 1 (.t 182), none⟩, ⟨some 184, .build [.nili] [(0, 1, (.t 183))], none⟩, ⟨some 185, .mkif 142 (.t 184), none⟩, ⟨some 6, .mov (.t 185), none⟩, ⟨some 7, .mov (.k (.i .i64 0)), none⟩])
 .ret)
 (.seq (.reg [⟨some 187, .bin .eql (.t 178) (.k (.i .i64 5)), none⟩, ⟨some 186, .mov (.t 187), none⟩])
 (.cond (.t 186)
 (.seq (.reg [⟨some 188, .mov (.t 9), none⟩, ⟨some 189, .build [(.sl [] 0 .nil)] [(0, 1, (.t 188))], none⟩, ⟨some 190, .mkif 144 (.t 189), none⟩, ⟨some 6, .mov (.t 190), none⟩, ⟨some 7, .mov (.k (.i .i64 0)), none⟩])
 .ret)
 .skip))))))
 (.seq (.reg [⟨some 191, .mov (.t 9), none⟩, ⟨some 192, .build [(.sl [] 0 .nil)] [(0, 1, (.t 191))], none⟩, ⟨some 193, .mkif 145 (.t 192), none⟩, ⟨some 6, .mov (.t 193), none⟩, ⟨some 7, .mov (.k (.i .i64 0)), none⟩])
 .ret)))))))))
/-- tidemark/filter.build -/
def af69 : AFunc := { n := 194, depth := 8, kl := [(3, [3, 29, 34, 41, 46, 53, 60, 65, 70, 75, 82, 88, 93, 95, 100, 107, 112, 119, 123, 128, 133, 138, 142, 148, 177]), (11, [11])], res := [.tmp 6, .tmp 7], body := B69 }

def B70 : AC := (.seq (.reg [⟨some 2, .mov (.k (.i .i32 0)), none⟩, ⟨some 3, .mov (.k (.i .i64 0)), none⟩])
 (.seq (.reg [⟨some 13, .mov (.t 0), none⟩, ⟨some 14, .len .str (.t 13), none⟩, ⟨some 4, .mov (.t 14), none⟩])
 (.seq (.seq (.reg [⟨some 15, .mov (.t 4), none⟩, ⟨some 16, .bin .lss (.t 15) (.k (.i .i64 1)), none⟩])
 (.cond (.t 16)
 (.seq (.reg [⟨some 2, .mov (.k (.i .i32 65533)), none⟩, ⟨some 3, .mov (.k (.i .i64 0)), none⟩])
 .ret)
 .skip))
 (.seq (.reg [⟨some 17, .mov (.t 0), none⟩, ⟨some 18, .idx .str (.t 17) (.k (.i .i64 0)), none⟩, ⟨some 5, .mov (.t 18), none⟩])
 (.seq (.reg [⟨some 19, .mov (.t 5), none⟩, ⟨some 20, .iaddr (.arr 256 1) (.g 0) (.t 19), none⟩, ⟨some 21, .load false 1 (.t 20), none⟩, ⟨some 6, .mov (.t 21), none⟩])
 (.seq (.seq (.reg [⟨some 22, .mov (.t 6), none⟩, ⟨some 23, .bin .geq (.t 22) (.k (.i .u8 240)), none⟩])
 (.cond (.t 23)
 (.seq (.reg [⟨some 24, .mov (.t 6), none⟩, ⟨some 25, .conv (.int .i32) (.t 24), none⟩, ⟨some 26, .bin .shl (.t 25) (.k (.i .u64 31)), none⟩, ⟨some 27, .bin .shr (.t 26) (.k (.i .u64 31)), none⟩, ⟨some 7, .mov (.t 27), none⟩])
 (.seq (.reg [⟨some 28, .mov (.t 0), none⟩, ⟨some 29, .idx .str (.t 28) (.k (.i .i64 0)), none⟩, ⟨some 30, .conv (.int .i32) (.t 29), none⟩, ⟨some 31, .mov (.t 7), none⟩, ⟨some 32, .bin .andNot (.t 30) (.t 31), none⟩, ⟨some 33, .mov (.t 7), none⟩, ⟨some 34, .bin .and (.k (.i .i32 65533)) (.t 33), none⟩, ⟨some 35, .bin .or (.t 32) (.t 34), none⟩, ⟨some 2, .mov (.t 35), none⟩, ⟨some 3, .mov (.k (.i .i64 1)), none⟩])
 .ret))
 .skip))
 (.seq (.reg [⟨some 36, .mov (.t 6), none⟩, ⟨some 37, .bin .and (.t 36) (.k (.i .u8 7)), none⟩, ⟨some 38, .conv (.int .i64) (.t 37), none⟩, ⟨some 8, .mov (.t 38), none⟩])
 (.seq (.reg [⟨some 39, .mov (.t 6), none⟩, ⟨some 40, .bin .shr (.t 39) (.k (.i .u64 4)), none⟩, ⟨some 41, .iaddr (.arr 16 2) (.g 1) (.t 40), none⟩, ⟨some 42, .load true 2 (.t 41), none⟩, ⟨some 9, .lalloc [(.i .u8 0), (.i .u8 0)] [9, 49, 53], none⟩, ⟨none, .store 2 (.t 9) (.t 42), none⟩])
 (.seq (.seq (.reg [⟨some 43, .mov (.t 4), none⟩, ⟨some 44, .mov (.t 8), none⟩, ⟨some 45, .bin .lss (.t 43) (.t 44), none⟩])
 (.cond (.t 45)
 (.seq (.reg [⟨some 2, .mov (.k (.i .i32 65533)), none⟩, ⟨some 3, .mov (.k (.i .i64 1)), none⟩])
 .ret)
 .skip))
 (.seq (.reg [⟨some 46, .mov (.t 0), none⟩, ⟨some 47, .idx .str (.t 46) (.k (.i .i64 1)), none⟩, ⟨some 10, .mov (.t 47), none⟩])
 (.seq (.seq (.reg [⟨some 48, .mov (.t 10), none⟩, ⟨some 49, .faddr 0 (.t 9), none⟩, ⟨some 50, .load false 1 (.t 49), none⟩, ⟨some 51, .bin .lss (.t 48) (.t 50), none⟩, ⟨some 52, .mov (.t 51), none⟩, ⟨some 53, .faddr 1 (.t 9), some (52, false)⟩,
 ⟨some 54, .load false 1 (.t 53), some (52, false)⟩,
 ⟨some 55, .mov (.t 10), some (52, false)⟩,
 ⟨some 56, .bin .lss (.t 54) (.t 55), some (52, false)⟩,
 ⟨some 57, .pick (.t 52) (.k (.b true)) (.t 56), none⟩])
 (.cond (.t 57)
 (.seq (.reg [⟨some 2, .mov (.k (.i .i32 65533)), none⟩, ⟨some 3, .mov (.k (.i .i64 1)), none⟩])
 .ret)
 .skip))
 (.seq (.seq (.reg [⟨some 58, .mov (.t 8), none⟩, ⟨some 59, .bin .leq (.t 58) (.k (.i .i64 2)), none⟩])
 (.cond (.t 59)
 (.seq (.reg [⟨some 60, .mov (.t 5), none⟩, ⟨some 61, .bin .and (.t 60) (.k (.i .u8 31)), none⟩, ⟨some 62, .conv (.int .i32) (.t 61), none⟩, ⟨some 63, .bin .shl (.t 62) (.k (.i .u64 6)), none⟩, ⟨some 64, .mov (.t 10), none⟩, ⟨some 65, .bin .and (.t 64) (.k (.i .u8 63)), none⟩, ⟨some 66, .conv (.int .i32) (.t 65), none⟩, ⟨some 67, .bin .or (.t 63) (.t 66), none⟩, ⟨some 2, .mov (.t 67), none⟩, ⟨some 3, .mov (.k (.i .i64 2)), none⟩])
 .ret)
 .skip))
 (.seq (.reg [⟨some 68, .mov (.t 0), none⟩, ⟨some 69, .idx .str (.t 68) (.k (.i .i64 2)), none⟩, ⟨some 11, .mov (.t 69), none⟩])
 (.seq (.seq (.reg [⟨some 70, .mov (.t 11), none⟩, ⟨some 71, .bin .lss (.t 70) (.k (.i .u8 128)), none⟩, ⟨some 72, .mov (.t 71), none⟩, ⟨some 73, .mov (.t 11), some (72, false)⟩,
 ⟨some 74, .bin .lss (.k (.i .u8 191)) (.t 73), some (72, false)⟩,
 ⟨some 75, .pick (.t 72) (.k (.b true)) (.t 74), none⟩])
 (.cond (.t 75)
 (.seq (.reg [⟨some 2, .mov (.k (.i .i32 65533)), none⟩, ⟨some 3, .mov (.k (.i .i64 1)), none⟩])
 .ret)
 .skip))
 (.seq (.seq (.reg [⟨some 76, .mov (.t 8), none⟩, ⟨some 77, .bin .leq (.t 76) (.k (.i .i64 3)), none⟩])
 (.cond (.t 77)
 (.seq (.reg [⟨some 78, .mov (.t 5), none⟩, ⟨some 79, .bin .and (.t 78) (.k (.i .u8 15)), none⟩, ⟨some 80, .conv (.int .i32) (.t 79), none⟩, ⟨some 81, .bin .shl (.t 80) (.k (.i .u64 12)), none⟩, ⟨some 82, .mov (.t 10), none⟩, ⟨some 83, .bin .and (.t 82) (.k (.i .u8 63)), none⟩, ⟨some 84, .conv (.int .i32) (.t 83), none⟩, ⟨some 85, .bin .shl (.t 84) (.k (.i .u64 6)), none⟩, ⟨some 86, .bin .or (.t 81) (.t 85), none⟩, ⟨some 87, .mov (.t 11), none⟩, ⟨some 88, .bin .and (.t 87) (.k (.i .u8 63)), none⟩, ⟨some 89, .conv (.int .i32) (.t 88), none⟩, ⟨some 90, .bin .or (.t 86) (.t 89), none⟩, ⟨some 2, .mov (.t 90), none⟩, ⟨some 3, .mov (.k (.i .i64 3)), none⟩])
 .ret)
 .skip))
 (.seq (.reg [⟨some 91, .mov (.t 0), none⟩, ⟨some 92, .idx .str (.t 91) (.k (.i .i64 3)), none⟩, ⟨some 12, .mov (.t 92), none⟩])
 (.seq (.seq (.reg [⟨some 93, .mov (.t 12), none⟩, ⟨some 94, .bin .lss (.t 93) (.k (.i .u8 128)), none⟩, ⟨some 95, .mov (.t 94), none⟩, ⟨some 96, .mov (.t 12), some (95, false)⟩,
 ⟨some 97, .bin .lss (.k (.i .u8 191)) (.t 96), some (95, false)⟩,
 ⟨some 98, .pick (.t 95) (.k (.b true)) (.t 97), none⟩])
 (.cond (.t 98)
 (.seq (.reg [⟨some 2, .mov (.k (.i .i32 65533)), none⟩, ⟨some 3, .mov (.k (.i .i64 1)), none⟩])
 .ret)
 .skip))
 (.seq (.reg [⟨some 99, .mov (.t 5), none⟩, ⟨some 100, .bin .and (.t 99) (.k (.i .u8 7)), none⟩, ⟨some 101, .conv (.int .i32) (.t 100), none⟩, ⟨some 102, .bin .shl (.t 101) (.k (.i .u64 18)), none⟩, ⟨some 103, .mov (.t 10), none⟩, ⟨some 104, .bin .and (.t 103) (.k (.i .u8 63)), none⟩, ⟨some 105, .conv (.int .i32) (.t 104), none⟩, ⟨some 106, .bin .shl (.t 105) (.k (.i .u64 12)), none⟩, ⟨some 107, .bin .or (.t 102) (.t 106), none⟩, ⟨some 108, .mov (.t 11), none⟩, ⟨some 109, .bin .and (.t 108) (.k (.i .u8 63)), none⟩, ⟨some 110, .conv (.int .i32) (.t 109), none⟩, ⟨some 111, .bin .shl (.t 110) (.k (.i .u64 6)), none⟩, ⟨some 112, .bin .or (.t 107) (.t 111), none⟩, ⟨some 113, .mov (.t 12), none⟩, ⟨some 114, .bin .and (.t 113) (.k (.i .u8 63)), none⟩, ⟨some 115, .conv (.int .i32) (.t 114), none⟩, ⟨some 116, .bin .or (.t 112) (.t 115), none⟩, ⟨some 2, .mov (.t 116), none⟩, ⟨some 3, .mov (.k (.i .i64 4)), none⟩])
 .ret))))))))))))))))))
/-- unicode/utf8.decodeRuneInStringSlow -/
def af70 : AFunc := { n := 117, depth := 7, kl := [(9, [9, 49, 53])], res := [.tmp 2, .tmp 3], body := B70 }

def L71_1 : AC := (.seq (.reg [⟨some 30, .next 29, none⟩, ⟨some 31, .ext (.t 30) 0, none⟩])
 (.seq (.cond (.t 31)
 .skip
 (.exit 0))
 (.blk 1 (.seq (.reg [⟨some 32, .ext (.t 30) 2, none⟩, ⟨some 7, .mov (.t 32), none⟩])
 (.blk 2 (.seq (.reg [⟨some 34, .mov (.t 7), none⟩, ⟨some 35, .call true 47 [(.t 34)], none⟩, ⟨some 33, .mov (.t 35), none⟩])
 (.cond (.t 33)
 (.reg [⟨some 36, .mov (.t 5), none⟩, ⟨some 37, .bin .shl (.t 36) (.k (.i .u64 4)), none⟩, ⟨some 38, .mov (.t 7), none⟩, ⟨some 39, .bin .sub (.t 38) (.k (.i .i32 48)), none⟩, ⟨some 40, .bin .or (.t 37) (.t 39), none⟩, ⟨some 5, .mov (.t 40), none⟩])
 (.seq (.reg [⟨some 42, .mov (.t 7), none⟩, ⟨some 43, .bin .geq (.t 42) (.k (.i .i32 97)), none⟩, ⟨some 44, .mov (.t 43), none⟩, ⟨some 45, .mov (.t 7), some (44, true)⟩,
 ⟨some 46, .bin .leq (.t 45) (.k (.i .i32 102)), some (44, true)⟩,
 ⟨some 47, .pick (.t 44) (.t 46) (.k (.b false)), none⟩, ⟨some 41, .mov (.t 47), none⟩])
 (.cond (.t 41)
 (.reg [⟨some 48, .mov (.t 5), none⟩, ⟨some 49, .bin .shl (.t 48) (.k (.i .u64 4)), none⟩, ⟨some 50, .mov (.t 7), none⟩, ⟨some 51, .bin .sub (.t 50) (.k (.i .i32 97)), none⟩, ⟨some 52, .bin .add (.t 51) (.k (.i .i32 10)), none⟩, ⟨some 53, .bin .or (.t 49) (.t 52), none⟩, ⟨some 5, .mov (.t 53), none⟩])
 (.seq (.reg [⟨some 2, .mov (.k (.i .i32 0)), none⟩, ⟨some 3, .mov (.k (.i .i64 0)), none⟩])
 .ret))))))))))
def B71 : AC := (.seq (.reg [⟨some 2, .mov (.k (.i .i32 0)), none⟩, ⟨some 3, .mov (.k (.i .i64 0)), none⟩])
 (.seq (.reg [⟨some 8, .mov (.t 0), none⟩, ⟨some 9, .call true 93 [(.t 8), (.k (.i .u8 125))], none⟩, ⟨some 4, .mov (.t 9), none⟩])
 (.seq (.seq (.reg [⟨some 10, .mov (.t 0), none⟩, ⟨some 11, .len .str (.t 10), none⟩, ⟨some 12, .bin .lss (.t 11) (.k (.i .i64 3)), none⟩, ⟨some 13, .mov (.t 12), none⟩, ⟨some 14, .mov (.t 0), some (13, false)⟩,
 ⟨some 15, .idx .str (.t 14) (.k (.i .i64 0)), some (13, false)⟩,
 ⟨some 16, .bin .neq (.t 15) (.k (.i .u8 123)), some (13, false)⟩,
 ⟨some 17, .pick (.t 13) (.k (.b true)) (.t 16), none⟩, ⟨some 18, .mov (.t 17), none⟩, ⟨some 19, .mov (.t 4), some (18, false)⟩,
 ⟨some 20, .bin .lss (.t 19) (.k (.i .i64 2)), some (18, false)⟩,
 ⟨some 21, .pick (.t 18) (.k (.b true)) (.t 20), none⟩, ⟨some 22, .mov (.t 21), none⟩, ⟨some 23, .mov (.t 4), some (22, false)⟩,
 ⟨some 24, .bin .gtr (.t 23) (.k (.i .i64 7)), some (22, false)⟩,
 ⟨some 25, .pick (.t 22) (.k (.b true)) (.t 24), none⟩])
 (.cond (.t 25)
 (.seq (.reg [⟨some 2, .mov (.k (.i .i32 0)), none⟩, ⟨some 3, .mov (.k (.i .i64 0)), none⟩])
 .ret)
 .skip))
 (.seq (.reg [⟨some 5, .mov (.k (.i .i32 0)), none⟩])
 (.seq (.seq (.reg [⟨some 26, .mov (.t 0), none⟩, ⟨some 27, .mov (.t 4), none⟩, ⟨some 28, .slc .str (.t 26) (some (.k (.i .i64 1))) (some (.t 27)) none, none⟩, ⟨some 29, .range (.t 28), none⟩])
 (.blk 0 (.loop L71_1)))
 (.seq (.seq (.reg [⟨some 54, .mov (.t 5), none⟩, ⟨some 55, .call true 94 [(.t 54)], none⟩, ⟨some 56, .un .not (.t 55), none⟩])
 (.cond (.t 56)
 (.seq (.reg [⟨some 2, .mov (.k (.i .i32 0)), none⟩, ⟨some 3, .mov (.k (.i .i64 0)), none⟩])
 .ret)
 .skip))
 (.seq (.reg [⟨some 57, .mov (.t 5), none⟩, ⟨some 58, .mov (.t 4), none⟩, ⟨some 59, .bin .add (.t 58) (.k (.i .i64 1)), none⟩, ⟨some 2, .mov (.t 57), none⟩, ⟨some 3, .mov (.t 59), none⟩])
 .ret)))))))
/-- tidemark/lang.hex -/
def af71 : AFunc := { n := 60, depth := 6, kl := [], res := [.tmp 2, .tmp 3], body := B71 }

def B72 : AC := (.seq (.reg [⟨some 4, .lalloc [(.i .i64 0), (.s []), (.s []), (.sl [] 0 .nil)] [4], none⟩, ⟨some 5, .mov (.k (.i .i64 0)), none⟩])
 (.seq (.reg [⟨some 6, .lalloc [(.i .i64 0), (.s []), (.s []), (.sl [] 0 .nil)] [6, 31], none⟩])
 (.seq (.reg [⟨some 7, .mov (.k (.i .i64 0)), none⟩])
 (.seq (.seq (.reg [⟨some 9, .mov (.t 0), none⟩, ⟨some 10, .call false 23 [(.t 9)], none⟩, ⟨some 8, .lalloc [(.i .i64 0), (.s []), (.i .i64 0)] [8, 50], none⟩, ⟨none, .store 3 (.t 8) (.t 10), none⟩])
 (.blk 0 (.seq (.reg [⟨some 18, .mov (.t 0), none⟩, ⟨some 19, .call false 95 [(.t 18)], none⟩, ⟨some 17, .mov (.t 19), none⟩])
 (.cond (.t 17)
 (.seq (.reg [⟨some 20, .mov (.t 0), none⟩, ⟨some 21, .call false 24 [(.t 20)], none⟩, ⟨some 22, .fld false 1 1 (.t 21), none⟩, ⟨some 23, .build [(.i .i64 0), (.s []), (.s []), (.sl [] 0 .nil)] [(0, 1, (.k (.i .i64 2))), (1, 1, (.t 22))], none⟩, ⟨none, .store 4 (.t 6) (.t 23), none⟩])
 (.seq (.reg [⟨some 24, .mov (.t 0), none⟩, ⟨some 25, .call false 24 [(.t 24)], none⟩])
 (.reg [⟨some 27, .mov (.t 0), none⟩, ⟨some 28, .call false 96 [(.t 27)], none⟩, ⟨some 26, .mov (.t 28), none⟩, ⟨some 29, .ext (.t 26) 0, none⟩, ⟨some 30, .ext (.t 26) 1, none⟩, ⟨some 31, .faddr 2 (.t 6), none⟩, ⟨none, .store 1 (.t 31) (.t 29), none⟩, ⟨some 7, .mov (.t 30), none⟩])))
 (.seq (.reg [⟨some 33, .mov (.t 0), none⟩, ⟨some 34, .call false 25 [(.t 33), (.k (.i .i64 4)), (.k (.s [40]))], none⟩, ⟨some 32, .mov (.t 34), none⟩])
 (.cond (.t 32)
 (.seq (.reg [⟨some 36, .mov (.t 0), none⟩, ⟨some 37, .mov (.t 1), none⟩, ⟨some 38, .bin .add (.t 37) (.k (.i .i64 1)), none⟩, ⟨some 39, .call false 49 [(.t 36), (.k (.i .i64 1)), (.t 38)], none⟩, ⟨some 35, .mov (.t 39), none⟩, ⟨some 40, .ext (.t 35) 0, none⟩, ⟨some 41, .ext (.t 35) 1, none⟩, ⟨none, .store 4 (.t 6) (.t 40), none⟩, ⟨some 7, .mov (.t 41), none⟩])
 (.seq (.reg [⟨some 42, .mov (.t 7), none⟩, ⟨some 43, .bin .eql (.t 42) (.k (.i .i64 0)), none⟩, ⟨some 44, .mov (.t 43), none⟩, ⟨some 45, .mov (.t 0), some (44, true)⟩,
 ⟨some 46, .call false 25 [(.t 45), (.k (.i .i64 4)), (.k (.s [41]))], some (44, true)⟩,
 ⟨some 47, .un .not (.t 46), some (44, true)⟩,
 ⟨some 48, .pick (.t 44) (.t 47) (.k (.b false)), none⟩])
 (.cond (.t 48)
 (.reg [⟨some 7, .mov (.k (.i .i64 192)), none⟩])
 .skip)))
 (.seq (.reg [⟨some 50, .faddr 0 (.t 8), none⟩, ⟨some 51, .load false 1 (.t 50), none⟩, ⟨some 52, .bin .neq (.t 51) (.k (.i .i64 1)), none⟩, ⟨some 49, .mov (.t 52), none⟩])
 (.cond (.t 49)
 (.reg [⟨some 7, .mov (.k (.i .i64 192)), none⟩])
 (.reg [⟨some 12, .mov (.t 0), none⟩, ⟨some 13, .mov (.t 1), none⟩, ⟨some 14, .call false 97 [(.t 12), (.t 13)], none⟩, ⟨some 11, .mov (.t 14), none⟩, ⟨some 15, .ext (.t 11) 0, none⟩, ⟨some 16, .ext (.t 11) 1, none⟩, ⟨none, .store 4 (.t 6) (.t 15), none⟩, ⟨some 7, .mov (.t 16), none⟩])))))))))
 (.seq (.seq (.reg [⟨some 53, .mov (.t 7), none⟩, ⟨some 54, .bin .neq (.t 53) (.k (.i .i64 0)), none⟩])
 (.cond (.t 54)
 (.seq (.reg [⟨some 55, .build [(.i .i64 0), (.s []), (.s []), (.sl [] 0 .nil)] [], none⟩, ⟨some 56, .mov (.t 7), none⟩, ⟨none, .store 4 (.t 4) (.t 55), none⟩, ⟨some 5, .mov (.t 56), none⟩])
 .ret)
 .skip))
 (.seq (.reg [⟨some 57, .load true 4 (.t 6), none⟩, ⟨none, .store 4 (.t 4) (.t 57), none⟩, ⟨some 5, .mov (.k (.i .i64 0)), none⟩])
 .ret))))))
/-- (*tidemark/lang.Source).unary -/
def af72 : AFunc := { n := 58, depth := 6, kl := [(4, [4]), (6, [6, 31]), (8, [8, 50])], res := [.cell 4 true 4, .tmp 5], body := B72 }

def B73 : AC := (.seq (.reg [⟨some 4, .mov (.k (.b false)), none⟩])
 (.seq (.reg [⟨some 6, .mov (.t 0), none⟩, ⟨some 7, .call false 23 [(.t 6)], none⟩, ⟨some 5, .lalloc [(.i .i64 0), (.s []), (.i .i64 0)] [5, 8, 12], none⟩, ⟨none, .store 3 (.t 5) (.t 7), none⟩])
 (.seq (.reg [⟨some 8, .faddr 0 (.t 5), none⟩, ⟨some 9, .load false 1 (.t 8), none⟩, ⟨some 10, .bin .eql (.t 9) (.k (.i .i64 1)), none⟩, ⟨some 11, .mov (.t 10), none⟩, ⟨some 12, .faddr 1 (.t 5), some (11, true)⟩,
 ⟨some 13, .load false 1 (.t 12), some (11, true)⟩,
 ⟨some 14, .mov (.t 1), some (11, true)⟩,
 ⟨some 15, .bin .eql (.t 13) (.t 14), some (11, true)⟩,
 ⟨some 16, .pick (.t 11) (.t 15) (.k (.b false)), none⟩, ⟨some 4, .mov (.t 16), none⟩])
 .ret)))
/-- (*tidemark/lang.Source).joins -/
def af73 : AFunc := { n := 17, depth := 5, kl := [(5, [5, 8, 12])], res := [.tmp 4], body := B73 }

def B75 : AC := (.seq (.reg [⟨some 4, .mov (.k (.i .u32 0)), none⟩, ⟨some 5, .mov (.k (.i .u32 0)), none⟩])
 (.seq (.reg [⟨some 7, .mov (.t 0), none⟩, ⟨some 8, .conv (.int .u64) (.t 7), none⟩, ⟨some 9, .mov (.t 1), none⟩, ⟨some 10, .conv (.int .u64) (.t 9), none⟩, ⟨some 11, .bin .mul (.t 8) (.t 10), none⟩, ⟨some 6, .mov (.t 11), none⟩])
 (.seq (.reg [⟨some 12, .mov (.t 6), none⟩, ⟨some 13, .bin .shr (.t 12) (.k (.i .u64 32)), none⟩, ⟨some 14, .conv (.int .u32) (.t 13), none⟩, ⟨some 15, .mov (.t 6), none⟩, ⟨some 16, .conv (.int .u32) (.t 15), none⟩, ⟨some 4, .mov (.t 14), none⟩, ⟨some 5, .mov (.t 16), none⟩])
 .ret)))
/-- math/bits.Mul32 -/
def af75 : AFunc := { n := 17, depth := 5, kl := [], res := [.tmp 4, .tmp 5], body := B75 }

def B76 : AC := (.seq (.reg [⟨some 4, .mov (.k (.i .u64 0)), none⟩, ⟨some 5, .mov (.k (.i .u64 0)), none⟩])
 (.seq (.reg [⟨some 14, .mov (.t 0), none⟩, ⟨some 15, .bin .and (.t 14) (.k (.i .u64 4294967295)), none⟩, ⟨some 6, .mov (.t 15), none⟩])
 (.seq (.reg [⟨some 16, .mov (.t 0), none⟩, ⟨some 17, .bin .shr (.t 16) (.k (.i .u64 32)), none⟩, ⟨some 7, .mov (.t 17), none⟩])
 (.seq (.reg [⟨some 18, .mov (.t 1), none⟩, ⟨some 19, .bin .and (.t 18) (.k (.i .u64 4294967295)), none⟩, ⟨some 8, .mov (.t 19), none⟩])
 (.seq (.reg [⟨some 20, .mov (.t 1), none⟩, ⟨some 21, .bin .shr (.t 20) (.k (.i .u64 32)), none⟩, ⟨some 9, .mov (.t 21), none⟩])
 (.seq (.reg [⟨some 22, .mov (.t 6), none⟩, ⟨some 23, .mov (.t 8), none⟩, ⟨some 24, .bin .mul (.t 22) (.t 23), none⟩, ⟨some 10, .mov (.t 24), none⟩])
 (.seq (.reg [⟨some 25, .mov (.t 7), none⟩, ⟨some 26, .mov (.t 8), none⟩, ⟨some 27, .bin .mul (.t 25) (.t 26), none⟩, ⟨some 28, .mov (.t 10), none⟩, ⟨some 29, .bin .shr (.t 28) (.k (.i .u64 32)), none⟩, ⟨some 30, .bin .add (.t 27) (.t 29), none⟩, ⟨some 11, .mov (.t 30), none⟩])
 (.seq (.reg [⟨some 31, .mov (.t 11), none⟩, ⟨some 32, .bin .and (.t 31) (.k (.i .u64 4294967295)), none⟩, ⟨some 12, .mov (.t 32), none⟩])
 (.seq (.reg [⟨some 33, .mov (.t 11), none⟩, ⟨some 34, .bin .shr (.t 33) (.k (.i .u64 32)), none⟩, ⟨some 13, .mov (.t 34), none⟩])
 (.seq (.reg [⟨some 35, .mov (.t 12), none⟩, ⟨some 36, .mov (.t 6), none⟩, ⟨some 37, .mov (.t 9), none⟩, ⟨some 38, .bin .mul (.t 36) (.t 37), none⟩, ⟨some 39, .bin .add (.t 35) (.t 38), none⟩, ⟨some 12, .mov (.t 39), none⟩])
 (.seq (.reg [⟨some 40, .mov (.t 7), none⟩, ⟨some 41, .mov (.t 9), none⟩, ⟨some 42, .bin .mul (.t 40) (.t 41), none⟩, ⟨some 43, .mov (.t 13), none⟩, ⟨some 44, .bin .add (.t 42) (.t 43), none⟩, ⟨some 45, .mov (.t 12), none⟩, ⟨some 46, .bin .shr (.t 45) (.k (.i .u64 32)), none⟩, ⟨some 47, .bin .add (.t 44) (.t 46), none⟩, ⟨some 4, .mov (.t 47), none⟩])
 (.seq (.reg [⟨some 48, .mov (.t 0), none⟩, ⟨some 49, .mov (.t 1), none⟩, ⟨some 50, .bin .mul (.t 48) (.t 49), none⟩, ⟨some 5, .mov (.t 50), none⟩])
 .ret))))))))))))
/-- math/bits.Mul64 -/
def af76 : AFunc := { n := 51, depth := 6, kl := [], res := [.tmp 4, .tmp 5], body := B76 }

def B77 : AC := (.seq (.reg [⟨some 4, .mov (.k (.b false)), none⟩])
 (.seq (.reg [⟨some 5, .mov (.t 0), none⟩, ⟨some 6, .len .str (.t 5), none⟩, ⟨some 7, .mov (.t 1), none⟩, ⟨some 8, .len .str (.t 7), none⟩, ⟨some 9, .bin .geq (.t 6) (.t 8), none⟩, ⟨some 10, .mov (.t 9), none⟩, ⟨some 11, .mov (.t 0), some (10, true)⟩,
 ⟨some 12, .mov (.t 1), some (10, true)⟩,
 ⟨some 13, .len .str (.t 12), some (10, true)⟩,
 ⟨some 14, .slc .str (.t 11) none (some (.t 13)) none, some (10, true)⟩,
 ⟨some 15, .mov (.t 1), some (10, true)⟩,
 ⟨some 16, .bin .eql (.t 14) (.t 15), some (10, true)⟩,
 ⟨some 17, .pick (.t 10) (.t 16) (.k (.b false)), none⟩, ⟨some 4, .mov (.t 17), none⟩])
 .ret))
/-- internal/stringslite.HasPrefix -/
def af77 : AFunc := { n := 18, depth := 5, kl := [], res := [.tmp 4], body := B77 }

def B78 : AC := (.seq (.reg [⟨some 5, .mov (.t 0), none⟩, ⟨some 6, .nilck (.t 5), none⟩, ⟨some 7, .faddr 1 (.t 6), none⟩, ⟨some 8, .load false 1 (.t 7), none⟩, ⟨some 9, .cap (.t 8), none⟩, ⟨some 10, .bin .mul (.k (.i .i64 2)) (.t 9), none⟩, ⟨some 11, .mov (.t 1), none⟩, ⟨some 12, .bin .add (.t 10) (.t 11), none⟩, ⟨some 13, .call true 99 [(.t 12)], none⟩, ⟨some 14, .mov (.t 0), none⟩, ⟨some 15, .nilck (.t 14), none⟩, ⟨some 16, .faddr 1 (.t 15), none⟩, ⟨some 17, .load false 1 (.t 16), none⟩, ⟨some 18, .len .slice (.t 17), none⟩, ⟨some 19, .slc (.slice 1) (.t 13) none (some (.t 18)) none, none⟩, ⟨some 4, .mov (.t 19), none⟩])
 (.seq (.reg [⟨some 20, .mov (.t 4), none⟩, ⟨some 21, .mov (.t 0), none⟩, ⟨some 22, .nilck (.t 21), none⟩, ⟨some 23, .faddr 1 (.t 22), none⟩, ⟨some 24, .load false 1 (.t 23), none⟩, ⟨some 25, .copy 1 (.t 20) (.t 24), none⟩])
 (.reg [⟨some 26, .mov (.t 0), none⟩, ⟨some 27, .mov (.t 4), none⟩, ⟨some 28, .nilck (.t 26), none⟩, ⟨some 29, .faddr 1 (.t 28), none⟩, ⟨none, .store 1 (.t 29) (.t 27), none⟩])))
/-- (*strings.Builder).grow -/
def af78 : AFunc := { n := 30, depth := 5, kl := [], res := [], body := B78 }

def B79 : AC := (.seq (.reg [⟨some 4, .mov (.k (.b false)), none⟩])
 (.seq (.reg [⟨some 5, .mov (.t 0), none⟩, ⟨some 6, .mov (.t 1), none⟩, ⟨some 7, .nilck (.t 5), none⟩, ⟨some 8, .iaddr (.arr 256 1) (.t 7) (.t 6), none⟩, ⟨some 9, .load false 1 (.t 8), none⟩, ⟨some 4, .mov (.t 9), none⟩])
 .ret))
/-- (*strings.asciiSet).contains -/
def af79 : AFunc := { n := 10, depth := 4, kl := [], res := [.tmp 4], body := B79 }

def L80_1 : AC := (.seq (.seq (.reg [⟨some 25, .mov (.t 5), none⟩, ⟨some 26, .mov (.t 6), none⟩, ⟨some 27, .bin .geq (.t 25) (.t 26), none⟩])
 (.cond (.t 27)
 .skip
 (.exit 0)))
 (.seq (.blk 1 (.seq (.reg [⟨some 30, .mov (.t 0), none⟩, ⟨some 31, .mov (.t 5), none⟩, ⟨some 32, .idx .str (.t 30) (.t 31), none⟩, ⟨some 33, .call true 100 [(.t 32)], none⟩])
 (.cond (.t 33)
 (.exit 0)
 .skip)))
 (.reg [⟨some 28, .mov (.t 5), none⟩, ⟨some 29, .bin .sub (.t 28) (.k (.i .i64 1)), none⟩, ⟨some 5, .mov (.t 29), none⟩])))
def B80 : AC := (.seq (.reg [⟨some 2, .mov (.k (.i .i32 0)), none⟩, ⟨some 3, .mov (.k (.i .i64 0)), none⟩])
 (.seq (.reg [⟨some 7, .mov (.t 0), none⟩, ⟨some 8, .len .str (.t 7), none⟩, ⟨some 4, .mov (.t 8), none⟩])
 (.seq (.seq (.reg [⟨some 9, .mov (.t 4), none⟩, ⟨some 10, .bin .eql (.t 9) (.k (.i .i64 0)), none⟩])
 (.cond (.t 10)
 (.seq (.reg [⟨some 2, .mov (.k (.i .i32 65533)), none⟩, ⟨some 3, .mov (.k (.i .i64 0)), none⟩])
 .ret)
 .skip))
 (.seq (.reg [⟨some 11, .mov (.t 4), none⟩, ⟨some 12, .bin .sub (.t 11) (.k (.i .i64 1)), none⟩, ⟨some 5, .mov (.t 12), none⟩])
 (.seq (.reg [⟨some 13, .mov (.t 0), none⟩, ⟨some 14, .mov (.t 5), none⟩, ⟨some 15, .idx .str (.t 13) (.t 14), none⟩, ⟨some 16, .conv (.int .i32) (.t 15), none⟩, ⟨some 2, .mov (.t 16), none⟩])
 (.seq (.seq (.reg [⟨some 17, .mov (.t 2), none⟩, ⟨some 18, .bin .lss (.t 17) (.k (.i .i32 128)), none⟩])
 (.cond (.t 18)
 (.seq (.reg [⟨some 19, .mov (.t 2), none⟩, ⟨some 2, .mov (.t 19), none⟩, ⟨some 3, .mov (.k (.i .i64 1)), none⟩])
 .ret)
 .skip))
 (.seq (.reg [⟨some 20, .mov (.t 4), none⟩, ⟨some 21, .bin .sub (.t 20) (.k (.i .i64 4)), none⟩, ⟨some 22, .minmax true (.t 21) (.k (.i .i64 0)), none⟩, ⟨some 6, .mov (.t 22), none⟩])
 (.seq (.seq (.reg [⟨some 23, .mov (.t 5), none⟩, ⟨some 24, .bin .sub (.t 23) (.k (.i .i64 1)), none⟩, ⟨some 5, .mov (.t 24), none⟩])
 (.blk 0 (.loop L80_1)))
 (.seq (.seq (.reg [⟨some 34, .mov (.t 5), none⟩, ⟨some 35, .bin .lss (.t 34) (.k (.i .i64 0)), none⟩])
 (.cond (.t 35)
 (.reg [⟨some 5, .mov (.k (.i .i64 0)), none⟩])
 .skip))
 (.seq (.reg [⟨some 37, .mov (.t 0), none⟩, ⟨some 38, .mov (.t 5), none⟩, ⟨some 39, .mov (.t 4), none⟩, ⟨some 40, .slc .str (.t 37) (some (.t 38)) (some (.t 39)) none, none⟩, ⟨some 41, .call true 43 [(.t 40)], none⟩, ⟨some 36, .mov (.t 41), none⟩, ⟨some 42, .ext (.t 36) 0, none⟩, ⟨some 43, .ext (.t 36) 1, none⟩, ⟨some 2, .mov (.t 42), none⟩, ⟨some 3, .mov (.t 43), none⟩])
 (.seq (.seq (.reg [⟨some 44, .mov (.t 5), none⟩, ⟨some 45, .mov (.t 3), none⟩, ⟨some 46, .bin .add (.t 44) (.t 45), none⟩, ⟨some 47, .mov (.t 4), none⟩, ⟨some 48, .bin .neq (.t 46) (.t 47), none⟩])
 (.cond (.t 48)
 (.seq (.reg [⟨some 2, .mov (.k (.i .i32 65533)), none⟩, ⟨some 3, .mov (.k (.i .i64 1)), none⟩])
 .ret)
 .skip))
 (.seq (.reg [⟨some 49, .mov (.t 2), none⟩, ⟨some 50, .mov (.t 3), none⟩, ⟨some 2, .mov (.t 49), none⟩, ⟨some 3, .mov (.t 50), none⟩])
 .ret))))))))))))
/-- unicode/utf8.DecodeLastRuneInString -/
def af80 : AFunc := { n := 51, depth := 6, kl := [], res := [.tmp 2, .tmp 3], body := B80 }

def B81 : AC := (.seq (.reg [⟨some 4, .mov (.k (.b false)), none⟩])
 (.seq (.reg [⟨some 5, .mov (.t 0), none⟩, ⟨some 6, .mov (.t 1), none⟩, ⟨some 7, .call true 101 [(.t 5), (.t 6)], none⟩, ⟨some 8, .bin .geq (.t 7) (.k (.i .i64 0)), none⟩, ⟨some 4, .mov (.t 8), none⟩])
 .ret))
/-- strings.ContainsRune -/
def af81 : AFunc := { n := 9, depth := 4, kl := [], res := [.tmp 4], body := B81 }

def B83 : AC := (.seq (.reg [⟨some 4, .movnil 5, none⟩])
 (.seq (.reg [⟨some 6, .mov (.t 1), none⟩, ⟨some 7, .conv (.int .u32) (.t 6), none⟩, ⟨some 5, .mov (.t 7), none⟩])
 (.blk 0 (.seq (.reg [⟨some 12, .mov (.t 5), none⟩, ⟨some 13, .bin .leq (.t 12) (.k (.i .u32 2047)), none⟩, ⟨some 11, .mov (.t 13), none⟩])
 (.cond (.t 11)
 (.seq (.reg [⟨some 14, .mov (.t 0), none⟩, ⟨some 15, .mov (.t 1), none⟩, ⟨some 16, .bin .shr (.t 15) (.k (.i .u64 6)), none⟩, ⟨some 17, .conv (.int .u8) (.t 16), none⟩, ⟨some 18, .bin .or (.k (.i .u8 192)) (.t 17), none⟩, ⟨some 19, .mov (.t 1), none⟩, ⟨some 20, .conv (.int .u8) (.t 19), none⟩, ⟨some 21, .bin .and (.t 20) (.k (.i .u8 63)), none⟩, ⟨some 22, .bin .or (.k (.i .u8 128)) (.t 21), none⟩, ⟨some 23, .bslice false 5 1 2 [(.i .u8 0)] [(0, (.t 18)), (1, (.t 22))], none⟩, ⟨some 24, .app 5 1 (.t 14) (.t 23), none⟩, ⟨some 4, .mov (.t 24), none⟩])
 .ret)
 (.seq (.seq (.reg [⟨some 26, .mov (.t 5), none⟩, ⟨some 27, .bin .lss (.t 26) (.k (.i .u32 55296)), none⟩, ⟨some 25, .mov (.t 27), none⟩])
 (.cond (.t 25)
 .skip
 (.reg [⟨some 28, .mov (.t 5), none⟩, ⟨some 29, .bin .lss (.k (.i .u32 57343)) (.t 28), none⟩, ⟨some 30, .mov (.t 29), none⟩, ⟨some 31, .mov (.t 5), some (30, true)⟩,
 ⟨some 32, .bin .leq (.t 31) (.k (.i .u32 65535)), some (30, true)⟩,
 ⟨some 33, .pick (.t 30) (.t 32) (.k (.b false)), none⟩, ⟨some 25, .mov (.t 33), none⟩])))
 (.cond (.t 25)
 (.seq (.reg [⟨some 34, .mov (.t 0), none⟩, ⟨some 35, .mov (.t 1), none⟩, ⟨some 36, .bin .shr (.t 35) (.k (.i .u64 12)), none⟩, ⟨some 37, .conv (.int .u8) (.t 36), none⟩, ⟨some 38, .bin .or (.k (.i .u8 224)) (.t 37), none⟩, ⟨some 39, .mov (.t 1), none⟩, ⟨some 40, .bin .shr (.t 39) (.k (.i .u64 6)), none⟩, ⟨some 41, .conv (.int .u8) (.t 40), none⟩, ⟨some 42, .bin .and (.t 41) (.k (.i .u8 63)), none⟩, ⟨some 43, .bin .or (.k (.i .u8 128)) (.t 42), none⟩, ⟨some 44, .mov (.t 1), none⟩, ⟨some 45, .conv (.int .u8) (.t 44), none⟩, ⟨some 46, .bin .and (.t 45) (.k (.i .u8 63)), none⟩, ⟨some 47, .bin .or (.k (.i .u8 128)) (.t 46), none⟩, ⟨some 48, .bslice false 5 1 3 [(.i .u8 0)] [(0, (.t 38)), (1, (.t 43)), (2, (.t 47))], none⟩, ⟨some 49, .app 5 1 (.t 34) (.t 48), none⟩, ⟨some 4, .mov (.t 49), none⟩])
 .ret)
 (.seq (.reg [⟨some 51, .mov (.t 5), none⟩, ⟨some 52, .bin .gtr (.t 51) (.k (.i .u32 65535)), none⟩, ⟨some 53, .mov (.t 52), none⟩, ⟨some 54, .mov (.t 5), some (53, true)⟩,
 ⟨some 55, .bin .leq (.t 54) (.k (.i .u32 1114111)), some (53, true)⟩,
 ⟨some 56, .pick (.t 53) (.t 55) (.k (.b false)), none⟩, ⟨some 50, .mov (.t 56), none⟩])
 (.cond (.t 50)
 (.seq (.reg [⟨some 57, .mov (.t 0), none⟩, ⟨some 58, .mov (.t 1), none⟩, ⟨some 59, .bin .shr (.t 58) (.k (.i .u64 18)), none⟩, ⟨some 60, .conv (.int .u8) (.t 59), none⟩, ⟨some 61, .bin .or (.k (.i .u8 240)) (.t 60), none⟩, ⟨some 62, .mov (.t 1), none⟩, ⟨some 63, .bin .shr (.t 62) (.k (.i .u64 12)), none⟩, ⟨some 64, .conv (.int .u8) (.t 63), none⟩, ⟨some 65, .bin .and (.t 64) (.k (.i .u8 63)), none⟩, ⟨some 66, .bin .or (.k (.i .u8 128)) (.t 65), none⟩, ⟨some 67, .mov (.t 1), none⟩, ⟨some 68, .bin .shr (.t 67) (.k (.i .u64 6)), none⟩, ⟨some 69, .conv (.int .u8) (.t 68), none⟩, ⟨some 70, .bin .and (.t 69) (.k (.i .u8 63)), none⟩, ⟨some 71, .bin .or (.k (.i .u8 128)) (.t 70), none⟩, ⟨some 72, .mov (.t 1), none⟩, ⟨some 73, .conv (.int .u8) (.t 72), none⟩, ⟨some 74, .bin .and (.t 73) (.k (.i .u8 63)), none⟩, ⟨some 75, .bin .or (.k (.i .u8 128)) (.t 74), none⟩, ⟨some 76, .bslice false 5 1 4 [(.i .u8 0)] [(0, (.t 61)), (1, (.t 66)), (2, (.t 71)), (3, (.t 75))], none⟩, ⟨some 77, .app 5 1 (.t 57) (.t 76), none⟩, ⟨some 4, .mov (.t 77), none⟩])
 .ret)
 (.seq (.reg [⟨some 8, .mov (.t 0), none⟩, ⟨some 9, .bslice false 5 1 3 [(.i .u8 0)] [(0, (.k (.i .u8 239))), (1, (.k (.i .u8 191))), (2, (.k (.i .u8 189)))], none⟩, ⟨some 10, .app 5 1 (.t 8) (.t 9), none⟩, ⟨some 4, .mov (.t 10), none⟩])
 .ret))))))))))
/-- unicode/utf8.appendRuneNonASCII -/
def af83 : AFunc := { n := 78, depth := 7, kl := [], res := [.tmp 4], body := B83 }

def B84 : AC := (.seq (.reg [⟨some 2, .mov (.k (.s [])), none⟩])
 (.seq (.seq (.reg [⟨some 3, .mov (.t 0), none⟩, ⟨some 4, .bin .lss (.t 3) (.k (.i .i64 10)), none⟩])
 (.cond (.t 4)
 (.seq (.reg [⟨some 5, .mov (.t 0), none⟩, ⟨some 6, .mov (.t 0), none⟩, ⟨some 7, .bin .add (.t 6) (.k (.i .i64 1)), none⟩, ⟨some 8, .slc .str (.k (.s [48, 49, 50, 51, 52, 53, 54, 55, 56, 57, 97, 98, 99, 100, 101, 102, 103, 104, 105, 106, 107, 108, 109, 110, 111, 112, 113, 114, 115, 116, 117, 118, 119, 120, 121, 122])) (some (.t 5)) (some (.t 7)) none, none⟩, ⟨some 2, .mov (.t 8), none⟩])
 .ret)
 .skip))
 (.seq (.reg [⟨some 9, .mov (.t 0), none⟩, ⟨some 10, .bin .mul (.t 9) (.k (.i .i64 2)), none⟩, ⟨some 11, .mov (.t 0), none⟩, ⟨some 12, .bin .mul (.t 11) (.k (.i .i64 2)), none⟩, ⟨some 13, .bin .add (.t 12) (.k (.i .i64 2)), none⟩, ⟨some 14, .slc .str (.k (.s [48, 48, 48, 49, 48, 50, 48, 51, 48, 52, 48, 53, 48, 54, 48, 55, 48, 56, 48, 57, 49, 48, 49, 49, 49, 50, 49, 51, 49, 52, 49, 53, 49, 54, 49, 55, 49, 56, 49, 57, 50, 48, 50, 49, 50, 50, 50, 51, 50, 52, 50, 53, 50, 54, 50, 55, 50, 56, 50, 57, 51, 48, 51, 49, 51, 50, 51, 51, 51, 52, 51, 53, 51, 54, 51, 55, 51, 56, 51, 57, 52, 48, 52, 49, 52, 50, 52, 51, 52, 52, 52, 53, 52, 54, 52, 55, 52, 56, 52, 57, 53, 48, 53, 49, 53, 50, 53, 51, 53, 52, 53, 53, 53, 54, 53, 55, 53, 56, 53, 57, 54, 48, 54, 49, 54, 50, 54, 51, 54, 52, 54, 53, 54, 54, 54, 55, 54, 56, 54, 57, 55, 48, 55, 49, 55, 50, 55, 51, 55, 52, 55, 53, 55, 54, 55, 55, 55, 56, 55, 57, 56, 48, 56, 49, 56, 50, 56, 51, 56, 52, 56, 53, 56, 54, 56, 55, 56, 56, 56, 57, 57, 48, 57, 49, 57, 50, 57, 51, 57, 52, 57, 53, 57, 54, 57, 55, 57, 56, 57, 57])) (some (.t 10)) (some (.t 13)) none, none⟩, ⟨some 2, .mov (.t 14), none⟩])
 .ret)))
/-- internal/strconv.small -/
def af84 : AFunc := { n := 15, depth := 4, kl := [], res := [.tmp 2], body := B84 }

def B85 : AC := (.seq (.reg [⟨some 2, .mov (.k (.i .i64 0)), none⟩])
 (.seq (.reg [⟨some 4, .mov (.t 0), none⟩, ⟨some 5, .call true 103 [(.t 4)], none⟩, ⟨some 6, .call true 102 [(.t 5)], none⟩, ⟨some 3, .mov (.t 6), none⟩])
 (.seq (.reg [⟨some 7, .mov (.t 3), none⟩, ⟨some 8, .mov (.t 0), none⟩, ⟨some 9, .mov (.t 3), none⟩, ⟨some 10, .iaddr (.arr 20 1) (.g 2) (.t 9), none⟩, ⟨some 11, .load false 1 (.t 10), none⟩, ⟨some 12, .bin .geq (.t 8) (.t 11), none⟩, ⟨some 13, .call true 104 [(.t 12)], none⟩, ⟨some 14, .bin .add (.t 7) (.t 13), none⟩, ⟨some 2, .mov (.t 14), none⟩])
 .ret)))
/-- internal/strconv.numDigits -/
def af85 : AFunc := { n := 15, depth := 4, kl := [], res := [.tmp 2], body := B85 }

def L86_1 : AC := (.seq (.seq (.reg [⟨some 19, .mov (.t 4), none⟩, ⟨some 20, .bin .geq (.t 19) (.k (.i .i64 8)), none⟩])
 (.cond (.t 20)
 .skip
 (.exit 0)))
 (.blk 1 (.seq (.reg [⟨some 21, .mov (.t 1), none⟩, ⟨some 22, .bin .rem (.t 21) (.k (.i .u64 100000000)), none⟩, ⟨some 23, .conv (.int .u32) (.t 22), none⟩, ⟨some 5, .mov (.t 23), none⟩])
 (.seq (.reg [⟨some 24, .mov (.t 1), none⟩, ⟨some 25, .bin .quo (.t 24) (.k (.i .u64 100000000)), none⟩, ⟨some 1, .mov (.t 25), none⟩])
 (.seq (.reg [⟨some 26, .mov (.t 5), none⟩, ⟨some 27, .bin .quo (.t 26) (.k (.i .u32 10000)), none⟩, ⟨some 28, .mov (.t 5), none⟩, ⟨some 29, .bin .rem (.t 28) (.k (.i .u32 10000)), none⟩, ⟨some 6, .mov (.t 27), none⟩, ⟨some 7, .mov (.t 29), none⟩])
 (.seq (.reg [⟨some 30, .mov (.t 7), none⟩, ⟨some 31, .bin .quo (.t 30) (.k (.i .u32 100)), none⟩, ⟨some 32, .bin .mul (.t 31) (.k (.i .u32 2)), none⟩, ⟨some 33, .mov (.t 7), none⟩, ⟨some 34, .bin .rem (.t 33) (.k (.i .u32 100)), none⟩, ⟨some 35, .bin .mul (.t 34) (.k (.i .u32 2)), none⟩, ⟨some 8, .mov (.t 32), none⟩, ⟨some 9, .mov (.t 35), none⟩])
 (.seq (.reg [⟨some 36, .mov (.t 6), none⟩, ⟨some 37, .bin .quo (.t 36) (.k (.i .u32 100)), none⟩, ⟨some 38, .bin .mul (.t 37) (.k (.i .u32 2)), none⟩, ⟨some 39, .mov (.t 6), none⟩, ⟨some 40, .bin .rem (.t 39) (.k (.i .u32 100)), none⟩, ⟨some 41, .bin .mul (.t 40) (.k (.i .u32 2)), none⟩, ⟨some 10, .mov (.t 38), none⟩, ⟨some 11, .mov (.t 41), none⟩])
 (.seq (.reg [⟨some 42, .mov (.t 0), none⟩, ⟨some 43, .mov (.t 4), none⟩, ⟨some 44, .bin .sub (.t 43) (.k (.i .i64 1)), none⟩, ⟨some 45, .mov (.t 0), none⟩, ⟨some 46, .mov (.t 4), none⟩, ⟨some 47, .bin .sub (.t 46) (.k (.i .i64 2)), none⟩, ⟨some 48, .mov (.t 9), none⟩, ⟨some 49, .bin .add (.t 48) (.k (.i .u32 1)), none⟩, ⟨some 50, .idx .str (.k (.s [48, 48, 48, 49, 48, 50, 48, 51, 48, 52, 48, 53, 48, 54, 48, 55, 48, 56, 48, 57, 49, 48, 49, 49, 49, 50, 49, 51, 49, 52, 49, 53, 49, 54, 49, 55, 49, 56, 49, 57, 50, 48, 50, 49, 50, 50, 50, 51, 50, 52, 50, 53, 50, 54, 50, 55, 50, 56, 50, 57, 51, 48, 51, 49, 51, 50, 51, 51, 51, 52, 51, 53, 51, 54, 51, 55, 51, 56, 51, 57, 52, 48, 52, 49, 52, 50, 52, 51, 52, 52, 52, 53, 52, 54, 52, 55, 52, 56, 52, 57, 53, 48, 53, 49, 53, 50, 53, 51, 53, 52, 53, 53, 53, 54, 53, 55, 53, 56, 53, 57, 54, 48, 54, 49, 54, 50, 54, 51, 54, 52, 54, 53, 54, 54, 54, 55, 54, 56, 54, 57, 55, 48, 55, 49, 55, 50, 55, 51, 55, 52, 55, 53, 55, 54, 55, 55, 55, 56, 55, 57, 56, 48, 56, 49, 56, 50, 56, 51, 56, 52, 56, 53, 56, 54, 56, 55, 56, 56, 56, 57, 57, 48, 57, 49, 57, 50, 57, 51, 57, 52, 57, 53, 57, 54, 57, 55, 57, 56, 57, 57])) (.t 49), none⟩, ⟨some 51, .mov (.t 9), none⟩, ⟨some 52, .idx .str (.k (.s [48, 48, 48, 49, 48, 50, 48, 51, 48, 52, 48, 53, 48, 54, 48, 55, 48, 56, 48, 57, 49, 48, 49, 49, 49, 50, 49, 51, 49, 52, 49, 53, 49, 54, 49, 55, 49, 56, 49, 57, 50, 48, 50, 49, 50, 50, 50, 51, 50, 52, 50, 53, 50, 54, 50, 55, 50, 56, 50, 57, 51, 48, 51, 49, 51, 50, 51, 51, 51, 52, 51, 53, 51, 54, 51, 55, 51, 56, 51, 57, 52, 48, 52, 49, 52, 50, 52, 51, 52, 52, 52, 53, 52, 54, 52, 55, 52, 56, 52, 57, 53, 48, 53, 49, 53, 50, 53, 51, 53, 52, 53, 53, 53, 54, 53, 55, 53, 56, 53, 57, 54, 48, 54, 49, 54, 50, 54, 51, 54, 52, 54, 53, 54, 54, 54, 55, 54, 56, 54, 57, 55, 48, 55, 49, 55, 50, 55, 51, 55, 52, 55, 53, 55, 54, 55, 55, 55, 56, 55, 57, 56, 48, 56, 49, 56, 50, 56, 51, 56, 52, 56, 53, 56, 54, 56, 55, 56, 56, 56, 57, 57, 48, 57, 49, 57, 50, 57, 51, 57, 52, 57, 53, 57, 54, 57, 55, 57, 56, 57, 57])) (.t 51), none⟩, ⟨some 53, .iaddr (.slice 1) (.t 42) (.t 44), none⟩, ⟨none, .store 1 (.t 53) (.t 50), none⟩, ⟨some 54, .iaddr (.slice 1) (.t 45) (.t 47), none⟩, ⟨none, .store 1 (.t 54) (.t 52), none⟩])
 (.seq (.reg [⟨some 55, .mov (.t 0), none⟩, ⟨some 56, .mov (.t 4), none⟩, ⟨some 57, .bin .sub (.t 56) (.k (.i .i64 3)), none⟩, ⟨some 58, .mov (.t 0), none⟩, ⟨some 59, .mov (.t 4), none⟩, ⟨some 60, .bin .sub (.t 59) (.k (.i .i64 4)), none⟩, ⟨some 61, .mov (.t 8), none⟩, ⟨some 62, .bin .add (.t 61) (.k (.i .u32 1)), none⟩, ⟨some 63, .idx .str (.k (.s [48, 48, 48, 49, 48, 50, 48, 51, 48, 52, 48, 53, 48, 54, 48, 55, 48, 56, 48, 57, 49, 48, 49, 49, 49, 50, 49, 51, 49, 52, 49, 53, 49, 54, 49, 55, 49, 56, 49, 57, 50, 48, 50, 49, 50, 50, 50, 51, 50, 52, 50, 53, 50, 54, 50, 55, 50, 56, 50, 57, 51, 48, 51, 49, 51, 50, 51, 51, 51, 52, 51, 53, 51, 54, 51, 55, 51, 56, 51, 57, 52, 48, 52, 49, 52, 50, 52, 51, 52, 52, 52, 53, 52, 54, 52, 55, 52, 56, 52, 57, 53, 48, 53, 49, 53, 50, 53, 51, 53, 52, 53, 53, 53, 54, 53, 55, 53, 56, 53, 57, 54, 48, 54, 49, 54, 50, 54, 51, 54, 52, 54, 53, 54, 54, 54, 55, 54, 56, 54, 57, 55, 48, 55, 49, 55, 50, 55, 51, 55, 52, 55, 53, 55, 54, 55, 55, 55, 56, 55, 57, 56, 48, 56, 49, 56, 50, 56, 51, 56, 52, 56, 53, 56, 54, 56, 55, 56, 56, 56, 57, 57, 48, 57, 49, 57, 50, 57, 51, 57, 52, 57, 53, 57, 54, 57, 55, 57, 56, 57, 57])) (.t 62), none⟩, ⟨some 64, .mov (.t 8), none⟩, ⟨some 65, .idx .str (.k (.s [48, 48, 48, 49, 48, 50, 48, 51, 48, 52, 48, 53, 48, 54, 48, 55, 48, 56, 48, 57, 49, 48, 49, 49, 49, 50, 49, 51, 49, 52, 49, 53, 49, 54, 49, 55, 49, 56, 49, 57, 50, 48, 50, 49, 50, 50, 50, 51, 50, 52, 50, 53, 50, 54, 50, 55, 50, 56, 50, 57, 51, 48, 51, 49, 51, 50, 51, 51, 51, 52, 51, 53, 51, 54, 51, 55, 51, 56, 51, 57, 52, 48, 52, 49, 52, 50, 52, 51, 52, 52, 52, 53, 52, 54, 52, 55, 52, 56, 52, 57, 53, 48, 53, 49, 53, 50, 53, 51, 53, 52, 53, 53, 53, 54, 53, 55, 53, 56, 53, 57, 54, 48, 54, 49, 54, 50, 54, 51, 54, 52, 54, 53, 54, 54, 54, 55, 54, 56, 54, 57, 55, 48, 55, 49, 55, 50, 55, 51, 55, 52, 55, 53, 55, 54, 55, 55, 55, 56, 55, 57, 56, 48, 56, 49, 56, 50, 56, 51, 56, 52, 56, 53, 56, 54, 56, 55, 56, 56, 56, 57, 57, 48, 57, 49, 57, 50, 57, 51, 57, 52, 57, 53, 57, 54, 57, 55, 57, 56, 57, 57])) (.t 64), none⟩, ⟨some 66, .iaddr (.slice 1) (.t 55) (.t 57), none⟩, ⟨none, .store 1 (.t 66) (.t 63), none⟩, ⟨some 67, .iaddr (.slice 1) (.t 58) (.t 60), none⟩, ⟨none, .store 1 (.t 67) (.t 65), none⟩])
 (.seq (.reg [⟨some 68, .mov (.t 0), none⟩, ⟨some 69, .mov (.t 4), none⟩, ⟨some 70, .bin .sub (.t 69) (.k (.i .i64 5)), none⟩, ⟨some 71, .mov (.t 0), none⟩, ⟨some 72, .mov (.t 4), none⟩, ⟨some 73, .bin .sub (.t 72) (.k (.i .i64 6)), none⟩, ⟨some 74, .mov (.t 11), none⟩, ⟨some 75, .bin .add (.t 74) (.k (.i .u32 1)), none⟩, ⟨some 76, .idx .str (.k (.s [48, 48, 48, 49, 48, 50, 48, 51, 48, 52, 48, 53, 48, 54, 48, 55, 48, 56, 48, 57, 49, 48, 49, 49, 49, 50, 49, 51, 49, 52, 49, 53, 49, 54, 49, 55, 49, 56, 49, 57, 50, 48, 50, 49, 50, 50, 50, 51, 50, 52, 50, 53, 50, 54, 50, 55, 50, 56, 50, 57, 51, 48, 51, 49, 51, 50, 51, 51, 51, 52, 51, 53, 51, 54, 51, 55, 51, 56, 51, 57, 52, 48, 52, 49, 52, 50, 52, 51, 52, 52, 52, 53, 52, 54, 52, 55, 52, 56, 52, 57, 53, 48, 53, 49, 53, 50, 53, 51, 53, 52, 53, 53, 53, 54, 53, 55, 53, 56, 53, 57, 54, 48, 54, 49, 54, 50, 54, 51, 54, 52, 54, 53, 54, 54, 54, 55, 54, 56, 54, 57, 55, 48, 55, 49, 55, 50, 55, 51, 55, 52, 55, 53, 55, 54, 55, 55, 55, 56, 55, 57, 56, 48, 56, 49, 56, 50, 56, 51, 56, 52, 56, 53, 56, 54, 56, 55, 56, 56, 56, 57, 57, 48, 57, 49, 57, 50, 57, 51, 57, 52, 57, 53, 57, 54, 57, 55, 57, 56, 57, 57])) (.t 75), none⟩, ⟨some 77, .mov (.t 11), none⟩, ⟨some 78, .idx .str (.k (.s [48, 48, 48, 49, 48, 50, 48, 51, 48, 52, 48, 53, 48, 54, 48, 55, 48, 56, 48, 57, 49, 48, 49, 49, 49, 50, 49, 51, 49, 52, 49, 53, 49, 54, 49, 55, 49, 56, 49, 57, 50, 48, 50, 49, 50, 50, 50, 51, 50, 52, 50, 53, 50, 54, 50, 55, 50, 56, 50, 57, 51, 48, 51, 49, 51, 50, 51, 51, 51, 52, 51, 53, 51, 54, 51, 55, 51, 56, 51, 57, 52, 48, 52, 49, 52, 50, 52, 51, 52, 52, 52, 53, 52, 54, 52, 55, 52, 56, 52, 57, 53, 48, 53, 49, 53, 50, 53, 51, 53, 52, 53, 53, 53, 54, 53, 55, 53, 56, 53, 57, 54, 48, 54, 49, 54, 50, 54, 51, 54, 52, 54, 53, 54, 54, 54, 55, 54, 56, 54, 57, 55, 48, 55, 49, 55, 50, 55, 51, 55, 52, 55, 53, 55, 54, 55, 55, 55, 56, 55, 57, 56, 48, 56, 49, 56, 50, 56, 51, 56, 52, 56, 53, 56, 54, 56, 55, 56, 56, 56, 57, 57, 48, 57, 49, 57, 50, 57, 51, 57, 52, 57, 53, 57, 54, 57, 55, 57, 56, 57, 57])) (.t 77), none⟩, ⟨some 79, .iaddr (.slice 1) (.t 68) (.t 70), none⟩, ⟨none, .store 1 (.t 79) (.t 76), none⟩, ⟨some 80, .iaddr (.slice 1) (.t 71) (.t 73), none⟩, ⟨none, .store 1 (.t 80) (.t 78), none⟩])
 (.seq (.reg [⟨some 81, .mov (.t 0), none⟩, ⟨some 82, .mov (.t 4), none⟩, ⟨some 83, .bin .sub (.t 82) (.k (.i .i64 7)), none⟩, ⟨some 84, .mov (.t 0), none⟩, ⟨some 85, .mov (.t 4), none⟩, ⟨some 86, .bin .sub (.t 85) (.k (.i .i64 8)), none⟩, ⟨some 87, .mov (.t 10), none⟩, ⟨some 88, .bin .add (.t 87) (.k (.i .u32 1)), none⟩, ⟨some 89, .idx .str (.k (.s [48, 48, 48, 49, 48, 50, 48, 51, 48, 52, 48, 53, 48, 54, 48, 55, 48, 56, 48, 57, 49, 48, 49, 49, 49, 50, 49, 51, 49, 52, 49, 53, 49, 54, 49, 55, 49, 56, 49, 57, 50, 48, 50, 49, 50, 50, 50, 51, 50, 52, 50, 53, 50, 54, 50, 55, 50, 56, 50, 57, 51, 48, 51, 49, 51, 50, 51, 51, 51, 52, 51, 53, 51, 54, 51, 55, 51, 56, 51, 57, 52, 48, 52, 49, 52, 50, 52, 51, 52, 52, 52, 53, 52, 54, 52, 55, 52, 56, 52, 57, 53, 48, 53, 49, 53, 50, 53, 51, 53, 52, 53, 53, 53, 54, 53, 55, 53, 56, 53, 57, 54, 48, 54, 49, 54, 50, 54, 51, 54, 52, 54, 53, 54, 54, 54, 55, 54, 56, 54, 57, 55, 48, 55, 49, 55, 50, 55, 51, 55, 52, 55, 53, 55, 54, 55, 55, 55, 56, 55, 57, 56, 48, 56, 49, 56, 50, 56, 51, 56, 52, 56, 53, 56, 54, 56, 55, 56, 56, 56, 57, 57, 48, 57, 49, 57, 50, 57, 51, 57, 52, 57, 53, 57, 54, 57, 55, 57, 56, 57, 57])) (.t 88), none⟩, ⟨some 90, .mov (.t 10), none⟩, ⟨some 91, .idx .str (.k (.s [48, 48, 48, 49, 48, 50, 48, 51, 48, 52, 48, 53, 48, 54, 48, 55, 48, 56, 48, 57, 49, 48, 49, 49, 49, 50, 49, 51, 49, 52, 49, 53, 49, 54, 49, 55, 49, 56, 49, 57, 50, 48, 50, 49, 50, 50, 50, 51, 50, 52, 50, 53, 50, 54, 50, 55, 50, 56, 50, 57, 51, 48, 51, 49, 51, 50, 51, 51, 51, 52, 51, 53, 51, 54, 51, 55, 51, 56, 51, 57, 52, 48, 52, 49, 52, 50, 52, 51, 52, 52, 52, 53, 52, 54, 52, 55, 52, 56, 52, 57, 53, 48, 53, 49, 53, 50, 53, 51, 53, 52, 53, 53, 53, 54, 53, 55, 53, 56, 53, 57, 54, 48, 54, 49, 54, 50, 54, 51, 54, 52, 54, 53, 54, 54, 54, 55, 54, 56, 54, 57, 55, 48, 55, 49, 55, 50, 55, 51, 55, 52, 55, 53, 55, 54, 55, 55, 55, 56, 55, 57, 56, 48, 56, 49, 56, 50, 56, 51, 56, 52, 56, 53, 56, 54, 56, 55, 56, 56, 56, 57, 57, 48, 57, 49, 57, 50, 57, 51, 57, 52, 57, 53, 57, 54, 57, 55, 57, 56, 57, 57])) (.t 90), none⟩, ⟨some 92, .iaddr (.slice 1) (.t 81) (.t 83), none⟩, ⟨none, .store 1 (.t 92) (.t 89), none⟩, ⟨some 93, .iaddr (.slice 1) (.t 84) (.t 86), none⟩, ⟨none, .store 1 (.t 93) (.t 91), none⟩])
 (.reg [⟨some 94, .mov (.t 4), none⟩, ⟨some 95, .bin .sub (.t 94) (.k (.i .i64 8)), none⟩, ⟨some 4, .mov (.t 95), none⟩]))))))))))))
def B86 : AC := (.seq (.reg [⟨some 17, .mov (.t 0), none⟩, ⟨some 18, .len .slice (.t 17), none⟩, ⟨some 4, .mov (.t 18), none⟩])
 (.seq (.blk 0 (.loop L86_1))
 (.seq (.reg [⟨some 96, .mov (.t 1), none⟩, ⟨some 97, .conv (.int .u32) (.t 96), none⟩, ⟨some 12, .mov (.t 97), none⟩])
 (.seq (.seq (.reg [⟨some 98, .mov (.t 4), none⟩, ⟨some 99, .bin .geq (.t 98) (.k (.i .i64 4)), none⟩])
 (.cond (.t 99)
 (.seq (.reg [⟨some 100, .mov (.t 12), none⟩, ⟨some 101, .bin .rem (.t 100) (.k (.i .u32 10000)), none⟩, ⟨some 13, .mov (.t 101), none⟩])
 (.seq (.reg [⟨some 102, .mov (.t 12), none⟩, ⟨some 103, .bin .quo (.t 102) (.k (.i .u32 10000)), none⟩, ⟨some 12, .mov (.t 103), none⟩])
 (.seq (.reg [⟨some 104, .mov (.t 13), none⟩, ⟨some 105, .bin .quo (.t 104) (.k (.i .u32 100)), none⟩, ⟨some 106, .bin .mul (.t 105) (.k (.i .u32 2)), none⟩, ⟨some 107, .mov (.t 13), none⟩, ⟨some 108, .bin .rem (.t 107) (.k (.i .u32 100)), none⟩, ⟨some 109, .bin .mul (.t 108) (.k (.i .u32 2)), none⟩, ⟨some 14, .mov (.t 106), none⟩, ⟨some 15, .mov (.t 109), none⟩])
 (.seq (.reg [⟨some 110, .mov (.t 0), none⟩, ⟨some 111, .mov (.t 4), none⟩, ⟨some 112, .bin .sub (.t 111) (.k (.i .i64 1)), none⟩, ⟨some 113, .mov (.t 0), none⟩, ⟨some 114, .mov (.t 4), none⟩, ⟨some 115, .bin .sub (.t 114) (.k (.i .i64 2)), none⟩, ⟨some 116, .mov (.t 15), none⟩, ⟨some 117, .bin .add (.t 116) (.k (.i .u32 1)), none⟩, ⟨some 118, .idx .str (.k (.s [48, 48, 48, 49, 48, 50, 48, 51, 48, 52, 48, 53, 48, 54, 48, 55, 48, 56, 48, 57, 49, 48, 49, 49, 49, 50, 49, 51, 49, 52, 49, 53, 49, 54, 49, 55, 49, 56, 49, 57, 50, 48, 50, 49, 50, 50, 50, 51, 50, 52, 50, 53, 50, 54, 50, 55, 50, 56, 50, 57, 51, 48, 51, 49, 51, 50, 51, 51, 51, 52, 51, 53, 51, 54, 51, 55, 51, 56, 51, 57, 52, 48, 52, 49, 52, 50, 52, 51, 52, 52, 52, 53, 52, 54, 52, 55, 52, 56, 52, 57, 53, 48, 53, 49, 53, 50, 53, 51, 53, 52, 53, 53, 53, 54, 53, 55, 53, 56, 53, 57, 54, 48, 54, 49, 54, 50, 54, 51, 54, 52, 54, 53, 54, 54, 54, 55, 54, 56, 54, 57, 55, 48, 55, 49, 55, 50, 55, 51, 55, 52, 55, 53, 55, 54, 55, 55, 55, 56, 55, 57, 56, 48, 56, 49, 56, 50, 56, 51, 56, 52, 56, 53, 56, 54, 56, 55, 56, 56, 56, 57, 57, 48, 57, 49, 57, 50, 57, 51, 57, 52, 57, 53, 57, 54, 57, 55, 57, 56, 57, 57])) (.t 117), none⟩, ⟨some 119, .mov (.t 15), none⟩, ⟨some 120, .idx .str (.k (.s [48, 48, 48, 49, 48, 50, 48, 51, 48, 52, 48, 53, 48, 54, 48, 55, 48, 56, 48, 57, 49, 48, 49, 49, 49, 50, 49, 51, 49, 52, 49, 53, 49, 54, 49, 55, 49, 56, 49, 57, 50, 48, 50, 49, 50, 50, 50, 51, 50, 52, 50, 53, 50, 54, 50, 55, 50, 56, 50, 57, 51, 48, 51, 49, 51, 50, 51, 51, 51, 52, 51, 53, 51, 54, 51, 55, 51, 56, 51, 57, 52, 48, 52, 49, 52, 50, 52, 51, 52, 52, 52, 53, 52, 54, 52, 55, 52, 56, 52, 57, 53, 48, 53, 49, 53, 50, 53, 51, 53, 52, 53, 53, 53, 54, 53, 55, 53, 56, 53, 57, 54, 48, 54, 49, 54, 50, 54, 51, 54, 52, 54, 53, 54, 54, 54, 55, 54, 56, 54, 57, 55, 48, 55, 49, 55, 50, 55, 51, 55, 52, 55, 53, 55, 54, 55, 55, 55, 56, 55, 57, 56, 48, 56, 49, 56, 50, 56, 51, 56, 52, 56, 53, 56, 54, 56, 55, 56, 56, 56, 57, 57, 48, 57, 49, 57, 50, 57, 51, 57, 52, 57, 53, 57, 54, 57, 55, 57, 56, 57, 57])) (.t 119), none⟩, ⟨some 121, .iaddr (.slice 1) (.t 110) (.t 112), none⟩, ⟨none, .store 1 (.t 121) (.t 118), none⟩, ⟨some 122, .iaddr (.slice 1) (.t 113) (.t 115), none⟩, ⟨none, .store 1 (.t 122) (.t 120), none⟩])
 (.seq (.reg [⟨some 123, .mov (.t 0), none⟩, ⟨some 124, .mov (.t 4), none⟩, ⟨some 125, .bin .sub (.t 124) (.k (.i .i64 3)), none⟩, ⟨some 126, .mov (.t 0), none⟩, ⟨some 127, .mov (.t 4), none⟩, ⟨some 128, .bin .sub (.t 127) (.k (.i .i64 4)), none⟩, ⟨some 129, .mov (.t 14), none⟩, ⟨some 130, .bin .add (.t 129) (.k (.i .u32 1)), none⟩, ⟨some 131, .idx .str (.k (.s [48, 48, 48, 49, 48, 50, 48, 51, 48, 52, 48, 53, 48, 54, 48, 55, 48, 56, 48, 57, 49, 48, 49, 49, 49, 50, 49, 51, 49, 52, 49, 53, 49, 54, 49, 55, 49, 56, 49, 57, 50, 48, 50, 49, 50, 50, 50, 51, 50, 52, 50, 53, 50, 54, 50, 55, 50, 56, 50, 57, 51, 48, 51, 49, 51, 50, 51, 51, 51, 52, 51, 53, 51, 54, 51, 55, 51, 56, 51, 57, 52, 48, 52, 49, 52, 50, 52, 51, 52, 52, 52, 53, 52, 54, 52, 55, 52, 56, 52, 57, 53, 48, 53, 49, 53, 50, 53, 51, 53, 52, 53, 53, 53, 54, 53, 55, 53, 56, 53, 57, 54, 48, 54, 49, 54, 50, 54, 51, 54, 52, 54, 53, 54, 54, 54, 55, 54, 56, 54, 57, 55, 48, 55, 49, 55, 50, 55, 51, 55, 52, 55, 53, 55, 54, 55, 55, 55, 56, 55, 57, 56, 48, 56, 49, 56, 50, 56, 51, 56, 52, 56, 53, 56, 54, 56, 55, 56, 56, 56, 57, 57, 48, 57, 49, 57, 50, 57, 51, 57, 52, 57, 53, 57, 54, 57, 55, 57, 56, 57, 57])) (.t 130), none⟩, ⟨some 132, .mov (.t 14), none⟩, ⟨some 133, .idx .str (.k (.s [48, 48, 48, 49, 48, 50, 48, 51, 48, 52, 48, 53, 48, 54, 48, 55, 48, 56, 48, 57, 49, 48, 49, 49, 49, 50, 49, 51, 49, 52, 49, 53, 49, 54, 49, 55, 49, 56, 49, 57, 50, 48, 50, 49, 50, 50, 50, 51, 50, 52, 50, 53, 50, 54, 50, 55, 50, 56, 50, 57, 51, 48, 51, 49, 51, 50, 51, 51, 51, 52, 51, 53, 51, 54, 51, 55, 51, 56, 51, 57, 52, 48, 52, 49, 52, 50, 52, 51, 52, 52, 52, 53, 52, 54, 52, 55, 52, 56, 52, 57, 53, 48, 53, 49, 53, 50, 53, 51, 53, 52, 53, 53, 53, 54, 53, 55, 53, 56, 53, 57, 54, 48, 54, 49, 54, 50, 54, 51, 54, 52, 54, 53, 54, 54, 54, 55, 54, 56, 54, 57, 55, 48, 55, 49, 55, 50, 55, 51, 55, 52, 55, 53, 55, 54, 55, 55, 55, 56, 55, 57, 56, 48, 56, 49, 56, 50, 56, 51, 56, 52, 56, 53, 56, 54, 56, 55, 56, 56, 56, 57, 57, 48, 57, 49, 57, 50, 57, 51, 57, 52, 57, 53, 57, 54, 57, 55, 57, 56, 57, 57])) (.t 132), none⟩, ⟨some 134, .iaddr (.slice 1) (.t 123) (.t 125), none⟩, ⟨none, .store 1 (.t 134) (.t 131), none⟩, ⟨some 135, .iaddr (.slice 1) (.t 126) (.t 128), none⟩, ⟨none, .store 1 (.t 135) (.t 133), none⟩])
 (.reg [⟨some 136, .mov (.t 4), none⟩, ⟨some 137, .bin .sub (.t 136) (.k (.i .i64 4)), none⟩, ⟨some 4, .mov (.t 137), none⟩]))))))
 .skip))
 (.seq (.seq (.reg [⟨some 138, .mov (.t 4), none⟩, ⟨some 139, .bin .geq (.t 138) (.k (.i .i64 2)), none⟩])
 (.cond (.t 139)
 (.seq (.reg [⟨some 140, .mov (.t 12), none⟩, ⟨some 141, .bin .rem (.t 140) (.k (.i .u32 100)), none⟩, ⟨some 142, .bin .mul (.t 141) (.k (.i .u32 2)), none⟩, ⟨some 16, .mov (.t 142), none⟩])
 (.seq (.reg [⟨some 143, .mov (.t 12), none⟩, ⟨some 144, .bin .quo (.t 143) (.k (.i .u32 100)), none⟩, ⟨some 12, .mov (.t 144), none⟩])
 (.seq (.reg [⟨some 145, .mov (.t 0), none⟩, ⟨some 146, .mov (.t 4), none⟩, ⟨some 147, .bin .sub (.t 146) (.k (.i .i64 1)), none⟩, ⟨some 148, .mov (.t 0), none⟩, ⟨some 149, .mov (.t 4), none⟩, ⟨some 150, .bin .sub (.t 149) (.k (.i .i64 2)), none⟩, ⟨some 151, .mov (.t 16), none⟩, ⟨some 152, .bin .add (.t 151) (.k (.i .u32 1)), none⟩, ⟨some 153, .idx .str (.k (.s [48, 48, 48, 49, 48, 50, 48, 51, 48, 52, 48, 53, 48, 54, 48, 55, 48, 56, 48, 57, 49, 48, 49, 49, 49, 50, 49, 51, 49, 52, 49, 53, 49, 54, 49, 55, 49, 56, 49, 57, 50, 48, 50, 49, 50, 50, 50, 51, 50, 52, 50, 53, 50, 54, 50, 55, 50, 56, 50, 57, 51, 48, 51, 49, 51, 50, 51, 51, 51, 52, 51, 53, 51, 54, 51, 55, 51, 56, 51, 57, 52, 48, 52, 49, 52, 50, 52, 51, 52, 52, 52, 53, 52, 54, 52, 55, 52, 56, 52, 57, 53, 48, 53, 49, 53, 50, 53, 51, 53, 52, 53, 53, 53, 54, 53, 55, 53, 56, 53, 57, 54, 48, 54, 49, 54, 50, 54, 51, 54, 52, 54, 53, 54, 54, 54, 55, 54, 56, 54, 57, 55, 48, 55, 49, 55, 50, 55, 51, 55, 52, 55, 53, 55, 54, 55, 55, 55, 56, 55, 57, 56, 48, 56, 49, 56, 50, 56, 51, 56, 52, 56, 53, 56, 54, 56, 55, 56, 56, 56, 57, 57, 48, 57, 49, 57, 50, 57, 51, 57, 52, 57, 53, 57, 54, 57, 55, 57, 56, 57, 57])) (.t 152), none⟩, ⟨some 154, .mov (.t 16), none⟩, ⟨some 155, .idx .str (.k (.s [48, 48, 48, 49, 48, 50, 48, 51, 48, 52, 48, 53, 48, 54, 48, 55, 48, 56, 48, 57, 49, 48, 49, 49, 49, 50, 49, 51, 49, 52, 49, 53, 49, 54, 49, 55, 49, 56, 49, 57, 50, 48, 50, 49, 50, 50, 50, 51, 50, 52, 50, 53, 50, 54, 50, 55, 50, 56, 50, 57, 51, 48, 51, 49, 51, 50, 51, 51, 51, 52, 51, 53, 51, 54, 51, 55, 51, 56, 51, 57, 52, 48, 52, 49, 52, 50, 52, 51, 52, 52, 52, 53, 52, 54, 52, 55, 52, 56, 52, 57, 53, 48, 53, 49, 53, 50, 53, 51, 53, 52, 53, 53, 53, 54, 53, 55, 53, 56, 53, 57, 54, 48, 54, 49, 54, 50, 54, 51, 54, 52, 54, 53, 54, 54, 54, 55, 54, 56, 54, 57, 55, 48, 55, 49, 55, 50, 55, 51, 55, 52, 55, 53, 55, 54, 55, 55, 55, 56, 55, 57, 56, 48, 56, 49, 56, 50, 56, 51, 56, 52, 56, 53, 56, 54, 56, 55, 56, 56, 56, 57, 57, 48, 57, 49, 57, 50, 57, 51, 57, 52, 57, 53, 57, 54, 57, 55, 57, 56, 57, 57])) (.t 154), none⟩, ⟨some 156, .iaddr (.slice 1) (.t 145) (.t 147), none⟩, ⟨none, .store 1 (.t 156) (.t 153), none⟩, ⟨some 157, .iaddr (.slice 1) (.t 148) (.t 150), none⟩, ⟨none, .store 1 (.t 157) (.t 155), none⟩])
 (.reg [⟨some 158, .mov (.t 4), none⟩, ⟨some 159, .bin .sub (.t 158) (.k (.i .i64 2)), none⟩, ⟨some 4, .mov (.t 159), none⟩]))))
 .skip))
 (.seq (.reg [⟨some 160, .mov (.t 4), none⟩, ⟨some 161, .bin .gtr (.t 160) (.k (.i .i64 0)), none⟩])
 (.cond (.t 161)
 (.reg [⟨some 162, .mov (.t 0), none⟩, ⟨some 163, .mov (.t 12), none⟩, ⟨some 164, .bin .add (.k (.i .u32 48)) (.t 163), none⟩, ⟨some 165, .conv (.int .u8) (.t 164), none⟩, ⟨some 166, .iaddr (.slice 1) (.t 162) (.k (.i .i64 0)), none⟩, ⟨none, .store 1 (.t 166) (.t 165), none⟩])
 .skip)))))))
/-- internal/strconv.formatBase10 -/
def af86 : AFunc := { n := 167, depth := 8, kl := [], res := [], body := B86 }

def L87_2 : AC := (.seq (.seq (.reg [⟨some 66, .mov (.t 1), none⟩, ⟨some 67, .mov (.t 17), none⟩, ⟨some 68, .bin .geq (.t 66) (.t 67), none⟩])
 (.cond (.t 68)
 .skip
 (.exit 2)))
 (.blk 3 (.seq (.reg [⟨some 69, .mov (.t 13), none⟩, ⟨some 70, .bin .sub (.t 69) (.k (.i .i64 1)), none⟩, ⟨some 13, .mov (.t 70), none⟩])
 (.seq (.reg [⟨some 71, .mov (.t 1), none⟩, ⟨some 72, .mov (.t 17), none⟩, ⟨some 73, .bin .quo (.t 71) (.t 72), none⟩, ⟨some 18, .mov (.t 73), none⟩])
 (.seq (.reg [⟨some 74, .mov (.t 13), none⟩, ⟨some 75, .mov (.t 1), none⟩, ⟨some 76, .mov (.t 18), none⟩, ⟨some 77, .mov (.t 17), none⟩, ⟨some 78, .bin .mul (.t 76) (.t 77), none⟩, ⟨some 79, .bin .sub (.t 75) (.t 78), none⟩, ⟨some 80, .idx .str (.k (.s [48, 49, 50, 51, 52, 53, 54, 55, 56, 57, 97, 98, 99, 100, 101, 102, 103, 104, 105, 106, 107, 108, 109, 110, 111, 112, 113, 114, 115, 116, 117, 118, 119, 120, 121, 122])) (.t 79), none⟩, ⟨some 81, .iaddr (.arr 65 1) (.t 12) (.t 74), none⟩, ⟨none, .store 1 (.t 81) (.t 80), none⟩])
 (.reg [⟨some 82, .mov (.t 18), none⟩, ⟨some 1, .mov (.t 82), none⟩]))))))
def L87_1 : AC := (.seq (.seq (.reg [⟨some 44, .mov (.t 1), none⟩, ⟨some 45, .mov (.t 15), none⟩, ⟨some 46, .bin .geq (.t 44) (.t 45), none⟩])
 (.cond (.t 46)
 .skip
 (.exit 0)))
 (.blk 1 (.seq (.reg [⟨some 47, .mov (.t 13), none⟩, ⟨some 48, .bin .sub (.t 47) (.k (.i .i64 1)), none⟩, ⟨some 13, .mov (.t 48), none⟩])
 (.seq (.reg [⟨some 49, .mov (.t 13), none⟩, ⟨some 50, .mov (.t 1), none⟩, ⟨some 51, .mov (.t 16), none⟩, ⟨some 52, .bin .and (.t 50) (.t 51), none⟩, ⟨some 53, .idx .str (.k (.s [48, 49, 50, 51, 52, 53, 54, 55, 56, 57, 97, 98, 99, 100, 101, 102, 103, 104, 105, 106, 107, 108, 109, 110, 111, 112, 113, 114, 115, 116, 117, 118, 119, 120, 121, 122])) (.t 52), none⟩, ⟨some 54, .iaddr (.arr 65 1) (.t 12) (.t 49), none⟩, ⟨none, .store 1 (.t 54) (.t 53), none⟩])
 (.reg [⟨some 55, .mov (.t 1), none⟩, ⟨some 56, .mov (.t 14), none⟩, ⟨some 57, .bin .shr (.t 55) (.t 56), none⟩, ⟨some 1, .mov (.t 57), none⟩])))))
def B87 : AC := (.seq (.reg [⟨some 10, .movnil 5, none⟩, ⟨some 11, .mov (.k (.s [])), none⟩])
 (.seq (.seq (.reg [⟨some 19, .mov (.t 2), none⟩, ⟨some 20, .bin .lss (.t 19) (.k (.i .i64 2)), none⟩, ⟨some 21, .mov (.t 20), none⟩, ⟨some 22, .mov (.t 2), some (21, false)⟩,
 ⟨some 23, .bin .eql (.t 22) (.k (.i .i64 10)), some (21, false)⟩,
 ⟨some 24, .pick (.t 21) (.k (.b true)) (.t 23), none⟩, ⟨some 25, .mov (.t 24), none⟩, ⟨some 26, .mov (.t 2), some (25, false)⟩,
 ⟨some 27, .bin .gtr (.t 26) (.k (.i .i64 36)), some (25, false)⟩,
 ⟨some 28, .pick (.t 25) (.k (.b true)) (.t 27), none⟩])
 (.cond (.t 28)
 (.reg [⟨some 29, .mkif 9 (.k (.s [115, 116, 114, 99, 111, 110, 118, 58, 32, 105, 108, 108, 101, 103, 97, 108, 32, 65, 112, 112, 101, 110, 100, 73, 110, 116, 47, 70, 111, 114, 109, 97, 116, 73, 110, 116, 32, 98, 97, 115, 101])), none⟩, ⟨none, .bad, none⟩])
 .skip))
 (.seq (.reg [⟨some 12, .alloc 154 [(.i .u8 0), (.i .u8 0), (.i .u8 0), (.i .u8 0), (.i .u8 0), (.i .u8 0), (.i .u8 0), (.i .u8 0), (.i .u8 0), (.i .u8 0), (.i .u8 0), (.i .u8 0), (.i .u8 0), (.i .u8 0), (.i .u8 0), (.i .u8 0), (.i .u8 0), (.i .u8 0), (.i .u8 0), (.i .u8 0), (.i .u8 0), (.i .u8 0), (.i .u8 0), (.i .u8 0), (.i .u8 0), (.i .u8 0), (.i .u8 0), (.i .u8 0), (.i .u8 0), (.i .u8 0), (.i .u8 0), (.i .u8 0), (.i .u8 0), (.i .u8 0), (.i .u8 0), (.i .u8 0), (.i .u8 0), (.i .u8 0), (.i .u8 0), (.i .u8 0), (.i .u8 0), (.i .u8 0), (.i .u8 0), (.i .u8 0), (.i .u8 0), (.i .u8 0), (.i .u8 0), (.i .u8 0), (.i .u8 0), (.i .u8 0), (.i .u8 0), (.i .u8 0), (.i .u8 0), (.i .u8 0), (.i .u8 0), (.i .u8 0), (.i .u8 0), (.i .u8 0), (.i .u8 0), (.i .u8 0), (.i .u8 0), (.i .u8 0), (.i .u8 0), (.i .u8 0), (.i .u8 0)], none⟩])
 (.seq (.reg [⟨some 13, .mov (.k (.i .i64 65)), none⟩])
 (.seq (.seq (.reg [⟨some 30, .mov (.t 3), none⟩])
 (.cond (.t 30)
 (.reg [⟨some 31, .mov (.t 1), none⟩, ⟨some 32, .un .neg (.t 31), none⟩, ⟨some 1, .mov (.t 32), none⟩])
 .skip))
 (.seq (.seq (.reg [⟨some 33, .mov (.t 2), none⟩, ⟨some 34, .call true 105 [(.t 33)], none⟩])
 (.cond (.t 34)
 (.seq (.reg [⟨some 35, .mov (.t 2), none⟩, ⟨some 36, .conv (.int .u64) (.t 35), none⟩, ⟨some 37, .call true 106 [(.t 36)], none⟩, ⟨some 38, .conv (.int .u64) (.t 37), none⟩, ⟨some 14, .mov (.t 38), none⟩])
 (.seq (.reg [⟨some 39, .mov (.t 2), none⟩, ⟨some 40, .conv (.int .u64) (.t 39), none⟩, ⟨some 15, .mov (.t 40), none⟩])
 (.seq (.reg [⟨some 41, .mov (.t 2), none⟩, ⟨some 42, .conv (.int .u64) (.t 41), none⟩, ⟨some 43, .bin .sub (.t 42) (.k (.i .u64 1)), none⟩, ⟨some 16, .mov (.t 43), none⟩])
 (.seq (.blk 0 (.loop L87_1))
 (.seq (.reg [⟨some 58, .mov (.t 13), none⟩, ⟨some 59, .bin .sub (.t 58) (.k (.i .i64 1)), none⟩, ⟨some 13, .mov (.t 59), none⟩])
 (.reg [⟨some 60, .mov (.t 13), none⟩, ⟨some 61, .mov (.t 1), none⟩, ⟨some 62, .idx .str (.k (.s [48, 49, 50, 51, 52, 53, 54, 55, 56, 57, 97, 98, 99, 100, 101, 102, 103, 104, 105, 106, 107, 108, 109, 110, 111, 112, 113, 114, 115, 116, 117, 118, 119, 120, 121, 122])) (.t 61), none⟩, ⟨some 63, .iaddr (.arr 65 1) (.t 12) (.t 60), none⟩, ⟨none, .store 1 (.t 63) (.t 62), none⟩]))))))
 (.seq (.reg [⟨some 64, .mov (.t 2), none⟩, ⟨some 65, .conv (.int .u64) (.t 64), none⟩, ⟨some 17, .mov (.t 65), none⟩])
 (.seq (.blk 2 (.loop L87_2))
 (.seq (.reg [⟨some 83, .mov (.t 13), none⟩, ⟨some 84, .bin .sub (.t 83) (.k (.i .i64 1)), none⟩, ⟨some 13, .mov (.t 84), none⟩])
 (.reg [⟨some 85, .mov (.t 13), none⟩, ⟨some 86, .mov (.t 1), none⟩, ⟨some 87, .idx .str (.k (.s [48, 49, 50, 51, 52, 53, 54, 55, 56, 57, 97, 98, 99, 100, 101, 102, 103, 104, 105, 106, 107, 108, 109, 110, 111, 112, 113, 114, 115, 116, 117, 118, 119, 120, 121, 122])) (.t 86), none⟩, ⟨some 88, .iaddr (.arr 65 1) (.t 12) (.t 85), none⟩, ⟨none, .store 1 (.t 88) (.t 87), none⟩]))))))
 (.seq (.seq (.reg [⟨some 89, .mov (.t 3), none⟩])
 (.cond (.t 89)
 (.seq (.reg [⟨some 90, .mov (.t 13), none⟩, ⟨some 91, .bin .sub (.t 90) (.k (.i .i64 1)), none⟩, ⟨some 13, .mov (.t 91), none⟩])
 (.reg [⟨some 92, .mov (.t 13), none⟩, ⟨some 93, .iaddr (.arr 65 1) (.t 12) (.t 92), none⟩, ⟨none, .store 1 (.t 93) (.k (.i .u8 45)), none⟩]))
 .skip))
 (.seq (.seq (.reg [⟨some 94, .mov (.t 4), none⟩])
 (.cond (.t 94)
 (.seq (.reg [⟨some 95, .mov (.t 0), none⟩, ⟨some 96, .mov (.t 13), none⟩, ⟨some 97, .slc (.arr 65 1) (.t 12) (some (.t 96)) none none, none⟩, ⟨some 98, .app 5 1 (.t 95) (.t 97), none⟩, ⟨some 10, .mov (.t 98), none⟩])
 .ret)
 .skip))
 (.seq (.reg [⟨some 99, .mov (.t 13), none⟩, ⟨some 100, .slc (.arr 65 1) (.t 12) (some (.t 99)) none none, none⟩, ⟨some 101, .conv .toStr (.t 100), none⟩, ⟨some 11, .mov (.t 101), none⟩])
 .ret)))))))))
/-- internal/strconv.formatBits -/
def af87 : AFunc := { n := 102, depth := 7, kl := [], res := [.tmp 10, .tmp 11], body := B87 }

def B88 : AC := (.seq (.reg [⟨some 1, .lbox (.t 0) [1, 4, 8, 14, 18], none⟩, ⟨some 2, .mov (.k (.i .i64 0)), none⟩])
 (.seq (.blk 0 (.seq (.reg [⟨some 4, .faddr 0 (.t 1), none⟩, ⟨some 5, .load false 1 (.t 4), none⟩, ⟨some 6, .bin .eql (.t 5) (.k (.i .i64 6)), none⟩, ⟨some 7, .mov (.t 6), none⟩, ⟨some 8, .faddr 3 (.t 1), some (7, true)⟩,
 ⟨some 9, .load false 1 (.t 8), some (7, true)⟩,
 ⟨some 10, .len .slice (.t 9), some (7, true)⟩,
 ⟨some 11, .bin .gtr (.t 10) (.k (.i .i64 1)), some (7, true)⟩,
 ⟨some 12, .pick (.t 7) (.t 11) (.k (.b false)), none⟩, ⟨some 3, .mov (.t 12), none⟩])
 (.cond (.t 3)
 (.seq (.reg [⟨some 2, .mov (.k (.i .i64 1)), none⟩])
 .ret)
 (.seq (.reg [⟨some 14, .faddr 0 (.t 1), none⟩, ⟨some 15, .load false 1 (.t 14), none⟩, ⟨some 16, .bin .eql (.t 15) (.k (.i .i64 5)), none⟩, ⟨some 17, .mov (.t 16), none⟩, ⟨some 18, .faddr 3 (.t 1), some (17, true)⟩,
 ⟨some 19, .load false 1 (.t 18), some (17, true)⟩,
 ⟨some 20, .len .slice (.t 19), some (17, true)⟩,
 ⟨some 21, .bin .gtr (.t 20) (.k (.i .i64 1)), some (17, true)⟩,
 ⟨some 22, .pick (.t 17) (.t 21) (.k (.b false)), none⟩, ⟨some 13, .mov (.t 22), none⟩])
 (.cond (.t 13)
 (.seq (.reg [⟨some 2, .mov (.k (.i .i64 2)), none⟩])
 .ret)
 .skip)))))
 (.seq (.reg [⟨some 2, .mov (.k (.i .i64 3)), none⟩])
 .ret)))
/-- tidemark/lang.binds -/
def af88 : AFunc := { n := 23, depth := 5, kl := [(1, [1, 4, 8, 14, 18])], res := [.tmp 2], body := B88 }

def B90 : AC := (.seq (.reg [⟨some 2, .mov (.k (.i .i64 0)), none⟩])
 (.seq (.seq (.reg [⟨some 3, .mov (.t 0), none⟩, ⟨some 4, .call true 110 [(.t 3), (.k (.i .i64 1)), (.k (.i .i64 24)), (.f 111)], none⟩, ⟨some 5, .un .not (.t 4), none⟩])
 (.cond (.t 5)
 (.seq (.reg [⟨some 2, .mov (.k (.i .i64 20)), none⟩])
 .ret)
 .skip))
 (.seq (.reg [⟨some 2, .mov (.k (.i .i64 0)), none⟩])
 .ret)))
/-- tidemark/text.Key -/
def af90 : AFunc := { n := 6, depth := 3, kl := [], res := [.tmp 2], body := B90 }

def B91 : AC := (.seq (.reg [⟨some 2, .mov (.k (.i .i64 0)), none⟩])
 (.seq (.seq (.reg [⟨some 3, .mov (.t 0), none⟩, ⟨some 4, .call true 110 [(.t 3), (.k (.i .i64 1)), (.k (.i .i64 8)), (.f 112)], none⟩, ⟨some 5, .un .not (.t 4), none⟩])
 (.cond (.t 5)
 (.seq (.reg [⟨some 2, .mov (.k (.i .i64 22)), none⟩])
 .ret)
 .skip))
 (.seq (.reg [⟨some 2, .mov (.k (.i .i64 0)), none⟩])
 .ret)))
/-- tidemark/text.Name -/
def af91 : AFunc := { n := 6, depth := 3, kl := [], res := [.tmp 2], body := B91 }

def B92 : AC := (.seq (.reg [⟨some 2, .mov (.k (.i .i64 0)), none⟩])
 (.seq (.seq (.reg [⟨some 3, .mov (.t 0), none⟩, ⟨some 4, .call true 110 [(.t 3), (.k (.i .i64 0)), (.k (.i .i64 48)), (.f 111)], none⟩, ⟨some 5, .un .not (.t 4), none⟩])
 (.cond (.t 5)
 (.seq (.reg [⟨some 2, .mov (.k (.i .i64 21)), none⟩])
 .ret)
 .skip))
 (.seq (.reg [⟨some 2, .mov (.k (.i .i64 0)), none⟩])
 .ret)))
/-- tidemark/text.Value -/
def af92 : AFunc := { n := 6, depth := 3, kl := [], res := [.tmp 2], body := B92 }

def B93 : AC := (.seq (.reg [⟨some 4, .mov (.k (.i .i64 0)), none⟩])
 (.seq (.reg [⟨some 5, .mov (.t 0), none⟩, ⟨some 6, .mov (.t 1), none⟩, ⟨some 7, .call true 113 [(.t 5), (.t 6)], none⟩, ⟨some 4, .mov (.t 7), none⟩])
 .ret))
/-- strings.IndexByte -/
def af93 : AFunc := { n := 8, depth := 4, kl := [], res := [.tmp 4], body := B93 }

def B94 : AC := (.seq (.reg [⟨some 2, .mov (.k (.b false)), none⟩])
 (.seq (.blk 0 (.seq (.reg [⟨some 4, .mov (.t 0), none⟩, ⟨some 5, .bin .leq (.k (.i .i32 0)) (.t 4), none⟩, ⟨some 6, .mov (.t 5), none⟩, ⟨some 7, .mov (.t 0), some (6, true)⟩,
 ⟨some 8, .bin .lss (.t 7) (.k (.i .i32 55296)), some (6, true)⟩,
 ⟨some 9, .pick (.t 6) (.t 8) (.k (.b false)), none⟩, ⟨some 3, .mov (.t 9), none⟩])
 (.cond (.t 3)
 (.seq (.reg [⟨some 2, .mov (.k (.b true)), none⟩])
 .ret)
 (.seq (.reg [⟨some 11, .mov (.t 0), none⟩, ⟨some 12, .bin .lss (.k (.i .i32 57343)) (.t 11), none⟩, ⟨some 13, .mov (.t 12), none⟩, ⟨some 14, .mov (.t 0), some (13, true)⟩,
 ⟨some 15, .bin .leq (.t 14) (.k (.i .i32 1114111)), some (13, true)⟩,
 ⟨some 16, .pick (.t 13) (.t 15) (.k (.b false)), none⟩, ⟨some 10, .mov (.t 16), none⟩])
 (.cond (.t 10)
 (.seq (.reg [⟨some 2, .mov (.k (.b true)), none⟩])
 .ret)
 .skip)))))
 (.seq (.reg [⟨some 2, .mov (.k (.b false)), none⟩])
 .ret)))
/-- unicode/utf8.ValidRune -/
def af94 : AFunc := { n := 17, depth := 5, kl := [], res := [.tmp 2], body := B94 }

def B95 : AC := (.seq (.reg [⟨some 2, .mov (.k (.b false)), none⟩])
 (.seq (.reg [⟨some 4, .mov (.t 0), none⟩, ⟨some 5, .call false 50 [(.t 4), (.k (.i .i64 1))], none⟩, ⟨some 3, .lalloc [(.i .i64 0), (.s []), (.i .i64 0)] [3, 11, 16], none⟩, ⟨none, .store 3 (.t 3) (.t 5), none⟩])
 (.seq (.reg [⟨some 6, .mov (.t 0), none⟩, ⟨some 7, .call false 23 [(.t 6)], none⟩, ⟨some 8, .fld false 0 1 (.t 7), none⟩, ⟨some 9, .bin .eql (.t 8) (.k (.i .i64 1)), none⟩, ⟨some 10, .mov (.t 9), none⟩, ⟨some 11, .faddr 0 (.t 3), some (10, true)⟩,
 ⟨some 12, .load false 1 (.t 11), some (10, true)⟩,
 ⟨some 13, .bin .eql (.t 12) (.k (.i .i64 4)), some (10, true)⟩,
 ⟨some 14, .pick (.t 10) (.t 13) (.k (.b false)), none⟩, ⟨some 15, .mov (.t 14), none⟩, ⟨some 16, .faddr 1 (.t 3), some (15, true)⟩,
 ⟨some 17, .load false 1 (.t 16), some (15, true)⟩,
 ⟨some 18, .bin .eql (.t 17) (.k (.s [61])), some (15, true)⟩,
 ⟨some 19, .pick (.t 15) (.t 18) (.k (.b false)), none⟩, ⟨some 2, .mov (.t 19), none⟩])
 .ret)))
/-- (*tidemark/lang.Source).field -/
def af95 : AFunc := { n := 20, depth := 5, kl := [(3, [3, 11, 16])], res := [.tmp 2], body := B95 }

def B96 : AC := (.seq (.reg [⟨some 2, .mov (.k (.s [])), none⟩, ⟨some 3, .mov (.k (.i .i64 0)), none⟩])
 (.seq (.seq (.reg [⟨some 4, .mov (.t 0), none⟩, ⟨some 5, .call false 23 [(.t 4)], none⟩, ⟨some 6, .fld false 0 1 (.t 5), none⟩, ⟨some 7, .bin .neq (.t 6) (.k (.i .i64 2)), none⟩])
 (.cond (.t 7)
 (.seq (.reg [⟨some 2, .mov (.k (.s [])), none⟩, ⟨some 3, .mov (.k (.i .i64 192)), none⟩])
 .ret)
 .skip))
 (.seq (.reg [⟨some 8, .mov (.t 0), none⟩, ⟨some 9, .call false 24 [(.t 8)], none⟩, ⟨some 10, .fld false 1 1 (.t 9), none⟩, ⟨some 2, .mov (.t 10), none⟩, ⟨some 3, .mov (.k (.i .i64 0)), none⟩])
 .ret)))
/-- (*tidemark/lang.Source).text -/
def af96 : AFunc := { n := 11, depth := 4, kl := [], res := [.tmp 2, .tmp 3], body := B96 }

def B97 : AC := (.seq (.reg [⟨some 4, .lalloc [(.i .i64 0), (.s []), (.s []), (.sl [] 0 .nil)] [4], none⟩, ⟨some 5, .mov (.k (.i .i64 0)), none⟩])
 (.seq (.seq (.reg [⟨some 10, .mov (.t 0), none⟩, ⟨some 11, .call false 23 [(.t 10)], none⟩, ⟨some 12, .fld false 1 1 (.t 11), none⟩])
 (.blk 0 (.seq (.reg [⟨some 14, .bin .eql (.t 12) (.k (.s [97, 108, 108])), none⟩, ⟨some 13, .mov (.t 14), none⟩])
 (.cond (.t 13)
 (.seq (.reg [⟨some 15, .mov (.t 0), none⟩, ⟨some 16, .call false 24 [(.t 15)], none⟩])
 (.seq (.reg [⟨some 17, .build [(.i .i64 0), (.s []), (.s []), (.sl [] 0 .nil)] [], none⟩, ⟨none, .store 4 (.t 4) (.t 17), none⟩, ⟨some 5, .mov (.k (.i .i64 0)), none⟩])
 .ret))
 (.seq (.reg [⟨some 19, .bin .eql (.t 12) (.k (.s [112, 117, 116])), none⟩, ⟨some 18, .mov (.t 19), none⟩])
 (.cond (.t 18)
 (.seq (.reg [⟨some 20, .mov (.t 0), none⟩, ⟨some 21, .call false 24 [(.t 20)], none⟩])
 (.seq (.reg [⟨some 22, .build [(.i .i64 0), (.s []), (.s []), (.sl [] 0 .nil)] [(0, 1, (.k (.i .i64 3)))], none⟩, ⟨none, .store 4 (.t 4) (.t 22), none⟩, ⟨some 5, .mov (.k (.i .i64 0)), none⟩])
 .ret))
 (.seq (.reg [⟨some 24, .bin .eql (.t 12) (.k (.s [110, 111, 116])), none⟩, ⟨some 23, .mov (.t 24), none⟩])
 (.cond (.t 23)
 (.seq (.reg [⟨some 25, .mov (.t 0), none⟩, ⟨some 26, .call false 24 [(.t 25)], none⟩])
 (.seq (.reg [⟨some 28, .mov (.t 0), none⟩, ⟨some 29, .mov (.t 1), none⟩, ⟨some 30, .call false 114 [(.t 28), (.t 29)], none⟩, ⟨some 27, .mov (.t 30), none⟩, ⟨some 31, .ext (.t 27) 0, none⟩, ⟨some 32, .ext (.t 27) 1, none⟩, ⟨some 6, .lalloc [(.i .i64 0), (.s []), (.s []), (.sl [] 0 .nil)] [6], none⟩, ⟨none, .store 4 (.t 6) (.t 31), none⟩, ⟨some 7, .mov (.t 32), none⟩])
 (.seq (.reg [⟨some 33, .load true 4 (.t 6), none⟩, ⟨some 34, .bslice false 27 4 1 [(.i .i64 0), (.s []), (.s []), (.sl [] 0 .nil)] [(0, (.t 33))], none⟩, ⟨some 35, .build [(.i .i64 0), (.s []), (.s []), (.sl [] 0 .nil)] [(0, 1, (.k (.i .i64 4))), (3, 1, (.t 34))], none⟩, ⟨some 36, .mov (.t 7), none⟩, ⟨none, .store 4 (.t 4) (.t 35), none⟩, ⟨some 5, .mov (.t 36), none⟩])
 .ret)))
 (.seq (.reg [⟨some 38, .bin .eql (.t 12) (.k (.s [107, 101, 121])), none⟩, ⟨some 37, .mov (.t 38), none⟩])
 (.cond (.t 37)
 (.seq (.reg [⟨some 39, .mov (.t 0), none⟩, ⟨some 40, .call false 24 [(.t 39)], none⟩])
 (.seq (.seq (.reg [⟨some 41, .mov (.t 0), none⟩, ⟨some 42, .call false 25 [(.t 41), (.k (.i .i64 4)), (.k (.s [94]))], none⟩, ⟨some 43, .un .not (.t 42), none⟩])
 (.cond (.t 43)
 (.seq (.reg [⟨some 44, .build [(.i .i64 0), (.s []), (.s []), (.sl [] 0 .nil)] [], none⟩, ⟨none, .store 4 (.t 4) (.t 44), none⟩, ⟨some 5, .mov (.k (.i .i64 192)), none⟩])
 .ret)
 .skip))
 (.seq (.reg [⟨some 46, .mov (.t 0), none⟩, ⟨some 47, .call false 96 [(.t 46)], none⟩, ⟨some 45, .mov (.t 47), none⟩, ⟨some 48, .ext (.t 45) 0, none⟩, ⟨some 49, .ext (.t 45) 1, none⟩, ⟨some 8, .mov (.t 48), none⟩, ⟨some 9, .mov (.t 49), none⟩])
 (.seq (.reg [⟨some 50, .mov (.t 8), none⟩, ⟨some 51, .build [(.i .i64 0), (.s []), (.s []), (.sl [] 0 .nil)] [(0, 1, (.k (.i .i64 1))), (2, 1, (.t 50))], none⟩, ⟨some 52, .mov (.t 9), none⟩, ⟨none, .store 4 (.t 4) (.t 51), none⟩, ⟨some 5, .mov (.t 52), none⟩])
 .ret))))
 (.seq (.reg [⟨some 54, .bin .eql (.t 12) (.k (.s [97, 110, 121])), none⟩, ⟨some 53, .mov (.t 54), none⟩])
 (.cond (.t 53)
 (.seq (.reg [⟨some 55, .mov (.t 0), none⟩, ⟨some 56, .call false 24 [(.t 55)], none⟩])
 (.seq (.reg [⟨some 57, .mov (.t 0), none⟩, ⟨some 58, .mov (.t 1), none⟩, ⟨some 59, .call false 115 [(.t 57), (.k (.i .i64 6)), (.t 58)], none⟩, ⟨some 60, .ext (.t 59) 0, none⟩, ⟨some 61, .ext (.t 59) 1, none⟩, ⟨none, .store 4 (.t 4) (.t 60), none⟩, ⟨some 5, .mov (.t 61), none⟩])
 .ret))
 (.seq (.reg [⟨some 63, .bin .eql (.t 12) (.k (.s [101, 97, 99, 104])), none⟩, ⟨some 62, .mov (.t 63), none⟩])
 (.cond (.t 62)
 (.seq (.reg [⟨some 64, .mov (.t 0), none⟩, ⟨some 65, .call false 24 [(.t 64)], none⟩])
 (.seq (.reg [⟨some 66, .mov (.t 0), none⟩, ⟨some 67, .mov (.t 1), none⟩, ⟨some 68, .call false 115 [(.t 66), (.k (.i .i64 5)), (.t 67)], none⟩, ⟨some 69, .ext (.t 68) 0, none⟩, ⟨some 70, .ext (.t 68) 1, none⟩, ⟨none, .store 4 (.t 4) (.t 69), none⟩, ⟨some 5, .mov (.t 70), none⟩])
 .ret))
 .skip))))))))))))))
 (.seq (.reg [⟨some 71, .build [(.i .i64 0), (.s []), (.s []), (.sl [] 0 .nil)] [], none⟩, ⟨none, .store 4 (.t 4) (.t 71), none⟩, ⟨some 5, .mov (.k (.i .i64 192)), none⟩])
 .ret)))
/-- (*tidemark/lang.Source).word -/
def af97 : AFunc := { n := 72, depth := 7, kl := [(4, [4]), (6, [6])], res := [.cell 4 true 4, .tmp 5], body := B97 }

def B100 : AC := (.seq (.reg [⟨some 2, .mov (.k (.b false)), none⟩])
 (.seq (.reg [⟨some 3, .mov (.t 0), none⟩, ⟨some 4, .bin .and (.t 3) (.k (.i .u8 192)), none⟩, ⟨some 5, .bin .neq (.t 4) (.k (.i .u8 128)), none⟩, ⟨some 2, .mov (.t 5), none⟩])
 .ret))
/-- unicode/utf8.RuneStart -/
def af100 : AFunc := { n := 6, depth := 3, kl := [], res := [.tmp 2], body := B100 }

def L101_1 : AC := (.seq (.reg [⟨some 176, .next 175, none⟩, ⟨some 177, .ext (.t 176) 0, none⟩])
 (.seq (.cond (.t 177)
 .skip
 (.exit 9))
 (.blk 10 (.seq (.reg [⟨some 178, .ext (.t 176) 1, none⟩, ⟨some 179, .ext (.t 176) 2, none⟩, ⟨some 5, .mov (.t 178), none⟩, ⟨some 6, .mov (.t 179), none⟩])
 (.seq (.reg [⟨some 180, .mov (.t 6), none⟩, ⟨some 181, .bin .eql (.t 180) (.k (.i .i32 65533)), none⟩])
 (.cond (.t 181)
 (.seq (.reg [⟨some 182, .mov (.t 5), none⟩, ⟨some 4, .mov (.t 182), none⟩])
 .ret)
 .skip))))))
def B101 : AC := (.seq (.reg [⟨some 4, .mov (.k (.i .i64 0)), none⟩])
 (.blk 0 (.seq (.reg [⟨some 161, .mov (.t 1), none⟩, ⟨some 162, .bin .leq (.k (.i .i32 0)) (.t 161), none⟩, ⟨some 163, .mov (.t 162), none⟩, ⟨some 164, .mov (.t 1), some (163, true)⟩,
 ⟨some 165, .bin .lss (.t 164) (.k (.i .i32 128)), some (163, true)⟩,
 ⟨some 166, .pick (.t 163) (.t 165) (.k (.b false)), none⟩, ⟨some 160, .mov (.t 166), none⟩])
 (.cond (.t 160)
 (.seq (.reg [⟨some 167, .mov (.t 0), none⟩, ⟨some 168, .mov (.t 1), none⟩, ⟨some 169, .conv (.int .u8) (.t 168), none⟩, ⟨some 170, .call true 93 [(.t 167), (.t 169)], none⟩, ⟨some 4, .mov (.t 170), none⟩])
 .ret)
 (.seq (.reg [⟨some 172, .mov (.t 1), none⟩, ⟨some 173, .bin .eql (.t 172) (.k (.i .i32 65533)), none⟩, ⟨some 171, .mov (.t 173), none⟩])
 (.cond (.t 171)
 (.seq (.seq (.reg [⟨some 174, .mov (.t 0), none⟩, ⟨some 175, .range (.t 174), none⟩])
 (.blk 9 (.loop L101_1)))
 (.seq (.reg [⟨some 4, .mov (.k (.i .i64 (-1))), none⟩])
 .ret))
 (.seq (.reg [⟨some 184, .mov (.t 1), none⟩, ⟨some 185, .call true 94 [(.t 184)], none⟩, ⟨some 186, .un .not (.t 185), none⟩, ⟨some 183, .mov (.t 186), none⟩])
 (.cond (.t 183)
 (.seq (.reg [⟨some 4, .mov (.k (.i .i64 (-1))), none⟩])
 .ret)
      .refuse))))))))
/-- strings.IndexRune -/
def af101 : AFunc := { n := 187, depth := 8, kl := [], res := [.tmp 4], body := B101 }

def B102 : AC := (.seq (.reg [⟨some 2, .mov (.k (.i .i64 0)), none⟩])
 (.seq (.reg [⟨some 3, .mov (.t 0), none⟩, ⟨some 4, .bin .mul (.t 3) (.k (.i .i64 78913)), none⟩, ⟨some 5, .bin .shr (.t 4) (.k (.i .u64 18)), none⟩, ⟨some 2, .mov (.t 5), none⟩])
 .ret))
/-- internal/strconv.log10Pow2 -/
def af102 : AFunc := { n := 6, depth := 3, kl := [], res := [.tmp 2], body := B102 }

def B103 : AC := (.seq (.reg [⟨some 2, .mov (.k (.i .i64 0)), none⟩])
 (.seq (.seq (.reg [⟨some 3, .mov (.t 0), none⟩, ⟨some 4, .bin .geq (.t 3) (.k (.i .u64 4294967296)), none⟩])
 (.cond (.t 4)
 (.seq (.reg [⟨some 5, .mov (.t 0), none⟩, ⟨some 6, .bin .shr (.t 5) (.k (.i .u64 32)), none⟩, ⟨some 0, .mov (.t 6), none⟩])
 (.reg [⟨some 2, .mov (.k (.i .i64 32)), none⟩]))
 .skip))
 (.seq (.seq (.reg [⟨some 7, .mov (.t 0), none⟩, ⟨some 8, .bin .geq (.t 7) (.k (.i .u64 65536)), none⟩])
 (.cond (.t 8)
 (.seq (.reg [⟨some 9, .mov (.t 0), none⟩, ⟨some 10, .bin .shr (.t 9) (.k (.i .u64 16)), none⟩, ⟨some 0, .mov (.t 10), none⟩])
 (.reg [⟨some 11, .mov (.t 2), none⟩, ⟨some 12, .bin .add (.t 11) (.k (.i .i64 16)), none⟩, ⟨some 2, .mov (.t 12), none⟩]))
 .skip))
 (.seq (.seq (.reg [⟨some 13, .mov (.t 0), none⟩, ⟨some 14, .bin .geq (.t 13) (.k (.i .u64 256)), none⟩])
 (.cond (.t 14)
 (.seq (.reg [⟨some 15, .mov (.t 0), none⟩, ⟨some 16, .bin .shr (.t 15) (.k (.i .u64 8)), none⟩, ⟨some 0, .mov (.t 16), none⟩])
 (.reg [⟨some 17, .mov (.t 2), none⟩, ⟨some 18, .bin .add (.t 17) (.k (.i .i64 8)), none⟩, ⟨some 2, .mov (.t 18), none⟩]))
 .skip))
 (.seq (.reg [⟨some 19, .mov (.t 2), none⟩, ⟨some 20, .mov (.t 0), none⟩, ⟨some 21, .conv (.int .u8) (.t 20), none⟩, ⟨some 22, .idx .str (.k (.s [0, 1, 2, 2, 3, 3, 3, 3, 4, 4, 4, 4, 4, 4, 4, 4, 5, 5, 5, 5, 5, 5, 5, 5, 5, 5, 5, 5, 5, 5, 5, 5, 6, 6, 6, 6, 6, 6, 6, 6, 6, 6, 6, 6, 6, 6, 6, 6, 6, 6, 6, 6, 6, 6, 6, 6, 6, 6, 6, 6, 6, 6, 6, 6, 7, 7, 7, 7, 7, 7, 7, 7, 7, 7, 7, 7, 7, 7, 7, 7, 7, 7, 7, 7, 7, 7, 7, 7, 7, 7, 7, 7, 7, 7, 7, 7, 7, 7, 7, 7, 7, 7, 7, 7, 7, 7, 7, 7, 7, 7, 7, 7, 7, 7, 7, 7, 7, 7, 7, 7, 7, 7, 7, 7, 7, 7, 7, 7, 8, 8, 8, 8, 8, 8, 8, 8, 8, 8, 8, 8, 8, 8, 8, 8, 8, 8, 8, 8, 8, 8, 8, 8, 8, 8, 8, 8, 8, 8, 8, 8, 8, 8, 8, 8, 8, 8, 8, 8, 8, 8, 8, 8, 8, 8, 8, 8, 8, 8, 8, 8, 8, 8, 8, 8, 8, 8, 8, 8, 8, 8, 8, 8, 8, 8, 8, 8, 8, 8, 8, 8, 8, 8, 8, 8, 8, 8, 8, 8, 8, 8, 8, 8, 8, 8, 8, 8, 8, 8, 8, 8, 8, 8, 8, 8, 8, 8, 8, 8, 8, 8, 8, 8, 8, 8, 8, 8, 8, 8, 8, 8, 8, 8, 8, 8, 8, 8, 8, 8, 8, 8, 8, 8, 8, 8, 8, 8])) (.t 21), none⟩, ⟨some 23, .conv (.int .i64) (.t 22), none⟩, ⟨some 24, .bin .add (.t 19) (.t 23), none⟩, ⟨some 2, .mov (.t 24), none⟩])
 .ret)))))
/-- math/bits.Len64 -/
def af103 : AFunc := { n := 25, depth := 5, kl := [], res := [.tmp 2], body := B103 }

def B104 : AC := (.seq (.reg [⟨some 2, .mov (.k (.i .i64 0)), none⟩])
 (.seq (.seq (.reg [⟨some 3, .mov (.t 0), none⟩])
 (.cond (.t 3)
 (.seq (.reg [⟨some 2, .mov (.k (.i .i64 1)), none⟩])
 .ret)
 .skip))
 (.seq (.reg [⟨some 2, .mov (.k (.i .i64 0)), none⟩])
 .ret)))
/-- internal/strconv.bool2[int] -/
def af104 : AFunc := { n := 4, depth := 3, kl := [], res := [.tmp 2], body := B104 }

def B105 : AC := (.seq (.reg [⟨some 2, .mov (.k (.b false)), none⟩])
 (.seq (.reg [⟨some 3, .mov (.t 0), none⟩, ⟨some 4, .mov (.t 0), none⟩, ⟨some 5, .bin .sub (.t 4) (.k (.i .i64 1)), none⟩, ⟨some 6, .bin .and (.t 3) (.t 5), none⟩, ⟨some 7, .bin .eql (.t 6) (.k (.i .i64 0)), none⟩, ⟨some 2, .mov (.t 7), none⟩])
 .ret))
/-- internal/strconv.isPowerOfTwo -/
def af105 : AFunc := { n := 8, depth := 4, kl := [], res := [.tmp 2], body := B105 }

def B106 : AC := (.seq (.reg [⟨some 2, .mov (.k (.i .i64 0)), none⟩])
 (.seq (.cond (.k (.b false))
 (.seq (.reg [⟨some 3, .mov (.t 0), none⟩, ⟨some 4, .conv (.int .u32) (.t 3), none⟩, ⟨some 5, .call true 118 [(.t 4)], none⟩, ⟨some 2, .mov (.t 5), none⟩])
 .ret)
 .skip)
 (.seq (.reg [⟨some 6, .mov (.t 0), none⟩, ⟨some 7, .call true 119 [(.t 6)], none⟩, ⟨some 2, .mov (.t 7), none⟩])
 .ret)))
/-- math/bits.TrailingZeros -/
def af106 : AFunc := { n := 8, depth := 4, kl := [], res := [.tmp 2], body := B106 }

def L110_1 : AC := (.seq (.reg [⟨some 14, .next 13, none⟩, ⟨some 15, .ext (.t 14) 0, none⟩])
 (.seq (.cond (.t 15)
 .skip
 (.exit 0))
 (.blk 1 (.seq (.reg [⟨some 16, .ext (.t 14) 2, none⟩, ⟨some 11, .mov (.t 16), none⟩])
 (.seq (.reg [⟨some 17, .mov (.t 9), none⟩, ⟨some 18, .bin .add (.t 17) (.k (.i .i64 1)), none⟩, ⟨some 9, .mov (.t 18), none⟩])
 (.seq (.reg [⟨some 19, .mov (.t 9), none⟩, ⟨some 20, .mov (.t 2), none⟩, ⟨some 21, .bin .gtr (.t 19) (.t 20), none⟩, ⟨some 22, .mov (.t 21), none⟩, ⟨some 23, .mov (.t 3), some (22, false)⟩,
 ⟨some 24, .mov (.t 11), some (22, false)⟩,
 ⟨some 25, .callv true (.t 23) [(.t 24)], some (22, false)⟩,
 ⟨some 26, .un .not (.t 25), some (22, false)⟩,
 ⟨some 27, .pick (.t 22) (.k (.b true)) (.t 26), none⟩])
 (.cond (.t 27)
 (.seq (.reg [⟨some 8, .mov (.k (.b false)), none⟩])
 .ret)
 .skip)))))))
def B110 : AC := (.seq (.reg [⟨some 8, .mov (.k (.b false)), none⟩])
 (.seq (.reg [⟨some 9, .mov (.k (.i .i64 0)), none⟩])
 (.seq (.seq (.reg [⟨some 12, .mov (.t 0), none⟩, ⟨some 13, .range (.t 12), none⟩])
 (.blk 0 (.loop L110_1)))
 (.seq (.reg [⟨some 28, .mov (.t 9), none⟩, ⟨some 29, .mov (.t 1), none⟩, ⟨some 30, .bin .geq (.t 28) (.t 29), none⟩, ⟨some 8, .mov (.t 30), none⟩])
 .ret))))
/-- tidemark/text.all -/
def af110 : AFunc := { n := 31, depth := 5, kl := [], res := [.tmp 8], body := B110 }

def B111 : AC := (.seq (.reg [⟨some 2, .mov (.k (.b false)), none⟩])
 (.seq (.reg [⟨some 3, .mov (.t 0), none⟩, ⟨some 4, .bin .geq (.t 3) (.k (.i .i32 32)), none⟩, ⟨some 5, .mov (.t 4), none⟩, ⟨some 6, .mov (.t 0), some (5, true)⟩,
 ⟨some 7, .bin .neq (.t 6) (.k (.i .i32 127)), some (5, true)⟩,
 ⟨some 8, .pick (.t 5) (.t 7) (.k (.b false)), none⟩, ⟨some 9, .mov (.t 8), none⟩, ⟨some 10, .mov (.t 0), some (9, true)⟩,
 ⟨some 11, .bin .neq (.t 10) (.k (.i .i32 65533)), some (9, true)⟩,
 ⟨some 12, .pick (.t 9) (.t 11) (.k (.b false)), none⟩, ⟨some 2, .mov (.t 12), none⟩])
 .ret))
/-- tidemark/text.plain -/
def af111 : AFunc := { n := 13, depth := 4, kl := [], res := [.tmp 2], body := B111 }

def B112 : AC := (.seq (.reg [⟨some 2, .mov (.k (.b false)), none⟩])
 (.seq (.reg [⟨some 3, .mov (.t 0), none⟩, ⟨some 4, .bin .geq (.t 3) (.k (.i .i32 97)), none⟩, ⟨some 5, .mov (.t 4), none⟩, ⟨some 6, .mov (.t 0), some (5, true)⟩,
 ⟨some 7, .bin .leq (.t 6) (.k (.i .i32 122)), some (5, true)⟩,
 ⟨some 8, .pick (.t 5) (.t 7) (.k (.b false)), none⟩, ⟨some 2, .mov (.t 8), none⟩])
 .ret))
/-- tidemark/text.letter -/
def af112 : AFunc := { n := 9, depth := 4, kl := [], res := [.tmp 2], body := B112 }

def B113 : AC := (.seq (.reg [⟨some 4, .mov (.k (.i .i64 0)), none⟩])
 (.seq (.reg [⟨some 5, .mov (.t 0), none⟩, ⟨some 6, .mov (.t 1), none⟩, ⟨some 7, .call true 121 [(.t 5), (.t 6)], none⟩, ⟨some 4, .mov (.t 7), none⟩])
 .ret))
/-- internal/stringslite.IndexByte -/
def af113 : AFunc := { n := 8, depth := 4, kl := [], res := [.tmp 4], body := B113 }

def B114 : AC := (.seq (.reg [⟨some 4, .lalloc [(.i .i64 0), (.s []), (.s []), (.sl [] 0 .nil)] [4], none⟩, ⟨some 5, .mov (.k (.i .i64 0)), none⟩])
 (.seq (.seq (.reg [⟨some 6, .mov (.t 1), none⟩, ⟨some 7, .bin .geq (.t 6) (.k (.i .i64 40)), none⟩])
 (.cond (.t 7)
 (.seq (.reg [⟨some 8, .build [(.i .i64 0), (.s []), (.s []), (.sl [] 0 .nil)] [], none⟩, ⟨none, .store 4 (.t 4) (.t 8), none⟩, ⟨some 5, .mov (.k (.i .i64 51)), none⟩])
 .ret)
 .skip))
 (.seq (.reg [⟨some 9, .mov (.t 0), none⟩, ⟨some 10, .mov (.t 1), none⟩, ⟨some 11, .bin .add (.t 10) (.k (.i .i64 1)), none⟩, ⟨some 12, .call false 72 [(.t 9), (.t 11)], none⟩, ⟨some 13, .ext (.t 12) 0, none⟩, ⟨some 14, .ext (.t 12) 1, none⟩, ⟨none, .store 4 (.t 4) (.t 13), none⟩, ⟨some 5, .mov (.t 14), none⟩])
 .ret)))
/-- (*tidemark/lang.Source).nested -/
def af114 : AFunc := { n := 15, depth := 4, kl := [(4, [4])], res := [.cell 4 true 4, .tmp 5], body := B114 }

def L115_1 : AC := (.blk 1 (.seq (.reg [⟨some 21, .mov (.t 0), none⟩, ⟨some 22, .mov (.t 2), none⟩, ⟨some 23, .bin .add (.t 22) (.k (.i .i64 1)), none⟩, ⟨some 24, .call false 49 [(.t 21), (.k (.i .i64 1)), (.t 23)], none⟩, ⟨some 20, .mov (.t 24), none⟩, ⟨some 25, .ext (.t 20) 0, none⟩, ⟨some 26, .ext (.t 20) 1, none⟩, ⟨some 9, .lalloc [(.i .i64 0), (.s []), (.s []), (.sl [] 0 .nil)] [9], none⟩, ⟨none, .store 4 (.t 9) (.t 25), none⟩, ⟨some 10, .mov (.t 26), none⟩])
 (.seq (.seq (.reg [⟨some 27, .mov (.t 10), none⟩, ⟨some 28, .bin .neq (.t 27) (.k (.i .i64 0)), none⟩])
 (.cond (.t 28)
 (.seq (.reg [⟨some 29, .load true 4 (.t 8), none⟩, ⟨some 30, .mov (.t 10), none⟩, ⟨none, .store 4 (.t 6) (.t 29), none⟩, ⟨some 7, .mov (.t 30), none⟩])
 .ret)
 .skip))
 (.seq (.reg [⟨some 31, .faddr 3 (.t 8), none⟩, ⟨some 32, .load false 1 (.t 31), none⟩, ⟨some 33, .load true 4 (.t 9), none⟩, ⟨some 34, .bslice false 27 4 1 [(.i .i64 0), (.s []), (.s []), (.sl [] 0 .nil)] [(0, (.t 33))], none⟩, ⟨some 35, .app 27 4 (.t 32) (.t 34), none⟩, ⟨some 36, .faddr 3 (.t 8), none⟩, ⟨none, .store 1 (.t 36) (.t 35), none⟩])
 (.seq (.seq (.reg [⟨some 37, .mov (.t 0), none⟩, ⟨some 38, .call false 25 [(.t 37), (.k (.i .i64 4)), (.k (.s [41]))], none⟩])
 (.cond (.t 38)
 (.seq (.reg [⟨some 39, .load true 4 (.t 8), none⟩, ⟨none, .store 4 (.t 6) (.t 39), none⟩, ⟨some 7, .mov (.k (.i .i64 0)), none⟩])
 .ret)
 .skip))
 (.seq (.reg [⟨some 40, .mov (.t 0), none⟩, ⟨some 41, .call false 25 [(.t 40), (.k (.i .i64 4)), (.k (.s [44]))], none⟩, ⟨some 42, .un .not (.t 41), none⟩])
 (.cond (.t 42)
 (.seq (.reg [⟨some 43, .load true 4 (.t 8), none⟩, ⟨none, .store 4 (.t 6) (.t 43), none⟩, ⟨some 7, .mov (.k (.i .i64 192)), none⟩])
 .ret)
 .skip)))))))
def B115 : AC := (.seq (.reg [⟨some 6, .lalloc [(.i .i64 0), (.s []), (.s []), (.sl [] 0 .nil)] [6], none⟩, ⟨some 7, .mov (.k (.i .i64 0)), none⟩])
 (.seq (.reg [⟨some 11, .mov (.t 1), none⟩, ⟨some 12, .build [(.i .i64 0), (.s []), (.s []), (.sl [] 0 .nil)] [(0, 1, (.t 11))], none⟩, ⟨some 8, .lalloc [(.i .i64 0), (.s []), (.s []), (.sl [] 0 .nil)] [8, 31, 36], none⟩, ⟨none, .store 4 (.t 8) (.t 12), none⟩])
 (.seq (.seq (.reg [⟨some 13, .mov (.t 0), none⟩, ⟨some 14, .call false 25 [(.t 13), (.k (.i .i64 4)), (.k (.s [40]))], none⟩, ⟨some 15, .un .not (.t 14), none⟩])
 (.cond (.t 15)
 (.seq (.reg [⟨some 16, .load true 4 (.t 8), none⟩, ⟨none, .store 4 (.t 6) (.t 16), none⟩, ⟨some 7, .mov (.k (.i .i64 192)), none⟩])
 .ret)
 .skip))
 (.seq (.seq (.reg [⟨some 17, .mov (.t 0), none⟩, ⟨some 18, .call false 25 [(.t 17), (.k (.i .i64 4)), (.k (.s [41]))], none⟩])
 (.cond (.t 18)
 (.seq (.reg [⟨some 19, .load true 4 (.t 8), none⟩, ⟨none, .store 4 (.t 6) (.t 19), none⟩, ⟨some 7, .mov (.k (.i .i64 0)), none⟩])
 .ret)
 .skip))
 (.blk 0 (.loop L115_1))))))
/-- (*tidemark/lang.Source).list -/
def af115 : AFunc := { n := 44, depth := 6, kl := [(6, [6]), (8, [8, 31, 36]), (9, [9])], res := [.cell 6 true 4, .tmp 7], body := B115 }

def B118 : AC := (.seq (.reg [⟨some 2, .mov (.k (.i .i64 0)), none⟩])
 (.seq (.seq (.reg [⟨some 3, .mov (.t 0), none⟩, ⟨some 4, .bin .eql (.t 3) (.k (.i .u32 0)), none⟩])
 (.cond (.t 4)
 (.seq (.reg [⟨some 2, .mov (.k (.i .i64 32)), none⟩])
 .ret)
 .skip))
 (.seq (.reg [⟨some 5, .mov (.t 0), none⟩, ⟨some 6, .mov (.t 0), none⟩, ⟨some 7, .un .neg (.t 6), none⟩, ⟨some 8, .bin .and (.t 5) (.t 7), none⟩, ⟨some 9, .bin .mul (.t 8) (.k (.i .u32 125613361)), none⟩, ⟨some 10, .bin .shr (.t 9) (.k (.i .u64 27)), none⟩, ⟨some 11, .iaddr (.arr 32 1) (.g 4) (.t 10), none⟩, ⟨some 12, .load false 1 (.t 11), none⟩, ⟨some 13, .conv (.int .i64) (.t 12), none⟩, ⟨some 2, .mov (.t 13), none⟩])
 .ret)))
/-- math/bits.TrailingZeros32 -/
def af118 : AFunc := { n := 14, depth := 4, kl := [], res := [.tmp 2], body := B118 }

def B119 : AC := (.seq (.reg [⟨some 2, .mov (.k (.i .i64 0)), none⟩])
 (.seq (.seq (.reg [⟨some 3, .mov (.t 0), none⟩, ⟨some 4, .bin .eql (.t 3) (.k (.i .u64 0)), none⟩])
 (.cond (.t 4)
 (.seq (.reg [⟨some 2, .mov (.k (.i .i64 64)), none⟩])
 .ret)
 .skip))
 (.seq (.reg [⟨some 5, .mov (.t 0), none⟩, ⟨some 6, .mov (.t 0), none⟩, ⟨some 7, .un .neg (.t 6), none⟩, ⟨some 8, .bin .and (.t 5) (.t 7), none⟩, ⟨some 9, .bin .mul (.t 8) (.k (.i .u64 285870213051353865)), none⟩, ⟨some 10, .bin .shr (.t 9) (.k (.i .u64 58)), none⟩, ⟨some 11, .iaddr (.arr 64 1) (.g 5) (.t 10), none⟩, ⟨some 12, .load false 1 (.t 11), none⟩, ⟨some 13, .conv (.int .i64) (.t 12), none⟩, ⟨some 2, .mov (.t 13), none⟩])
 .ret)))
/-- math/bits.TrailingZeros64 -/
def af119 : AFunc := { n := 14, depth := 4, kl := [], res := [.tmp 2], body := B119 }

def kn : Known := ⟨[82]⟩

def lst : List (Nat × AFunc) := [(11, af11), (12, af12), (14, af14), (16, af16), (18, af18), (19, af19), (20, af20), (21, af21), (22, af22), (23, af23), (24, af24), (25, af25), (29, af29), (30, af30), (31, af31), (32, af32), (33, af33), (34, af34), (35, af35), (38, af38), (41, af41), (42, af42), (43, af43), (44, af44), (45, af45), (46, af46), (47, af47), (48, af48), (49, af49), (50, af50), (54, af54), (55, af55), (56, af56), (57, af57), (58, af58), (59, af59), (60, af60), (61, af61), (62, af62), (63, af63), (64, af64), (65, af65), (66, af66), (69, af69), (70, af70), (71, af71), (72, af72), (73, af73), (75, af75), (76, af76), (77, af77), (78, af78), (79, af79), (80, af80), (81, af81), (83, af83), (84, af84), (85, af85), (86, af86), (87, af87), (88, af88), (90, af90), (91, af91), (92, af92), (93, af93), (94, af94), (95, af95), (96, af96), (97, af97), (100, af100), (101, af101), (102, af102), (103, af103), (104, af104), (105, af105), (106, af106), (110, af110), (111, af111), (112, af112), (113, af113), (114, af114), (115, af115), (118, af118), (119, af119)]
theorem lst_ok : lst.all (fun x => fnOk Tryd.prog kn x.1 x.2) = true := by kernel_rfl
def tab (g : FuncId) : Option AFunc := al lst g

end Go.Proofs.YtbhclhgljnoioaaDoor
