/- The abstract interpreter's code of the functions that the laws of this seat reach, and that it is the program's: each by the kernel. Printed by a program. -/
import Derived.Test.YtopbdgdfnmlldaaGreatDoorTab1
import Derived.Test.YtopbdgdfnmlldaaGreatDoorProg
import Derived.KernelRfl
namespace Go.Proofs.YtopbdgdfnmlldaaGreatDoor
open Go Ai

def L145_1 : AC := (.seq (.reg [⟨some 49, .bin .lss (.t 48) (.t 47), none⟩])
 (.seq (.cond (.t 49)
 .skip
 (.exit 0))
 (.seq (.blk 1 (.seq (.reg [⟨some 50, .iaddr (.slice 1) (.t 46) (.t 48), none⟩, ⟨some 51, .load false 1 (.t 50), none⟩, ⟨some 7, .mov (.t 51), none⟩])
 (.seq (.reg [⟨some 52, .mov (.t 7), none⟩, ⟨some 53, .len .slice (.t 52), none⟩, ⟨some 54, .bin .gtr (.t 53) (.k (.i .i64 5)), none⟩, ⟨some 55, .mov (.t 54), none⟩, ⟨some 56, .mov (.t 7), some (55, false)⟩,
 ⟨some 57, .mkfn 227 [] [(.t 5)], some (55, false)⟩,
 ⟨some 58, .call false 100 [(.t 56), (.t 57)], some (55, false)⟩,
 ⟨some 59, .pick (.t 55) (.k (.b true)) (.t 58), none⟩])
 (.cond (.t 59)
 (.seq (.reg [⟨some 4, .mov (.k (.b false)), none⟩])
 .ret)
 .skip))))
 (.reg [⟨some 60, .bin .add (.t 48) (.k (.i .i64 1)), none⟩, ⟨some 48, .mov (.t 60), none⟩]))))
def B145 : AC := (.seq (.reg [⟨some 2, .lbox (.t 0) [2, 9, 15], none⟩, ⟨some 3, .lbox (.t 1) [3, 22, 29, 35, 40, 41, 43, 44], none⟩, ⟨some 4, .mov (.k (.b false)), none⟩])
 (.seq (.reg [⟨some 5, .alloc 289 [.nilf], none⟩, ⟨none, .store 1 (.t 5) (.f 226), none⟩])
 (.seq (.seq (.reg [⟨some 8, .load false 1 (.t 5), none⟩, ⟨some 9, .faddr 0 (.t 2), none⟩, ⟨some 10, .load false 1 (.t 9), none⟩, ⟨some 11, .callv false (.t 8) [(.t 10), (.k (.i .i64 1099511627776))], none⟩, ⟨some 12, .un .not (.t 11), none⟩, ⟨some 13, .mov (.t 12), none⟩, ⟨some 14, .load false 1 (.t 5), some (13, false)⟩,
 ⟨some 15, .faddr 1 (.t 2), some (13, false)⟩,
 ⟨some 16, .load false 1 (.t 15), some (13, false)⟩,
 ⟨some 17, .callv false (.t 14) [(.t 16), (.k (.i .i64 5))], some (13, false)⟩,
 ⟨some 18, .un .not (.t 17), some (13, false)⟩,
 ⟨some 19, .pick (.t 13) (.k (.b true)) (.t 18), none⟩, ⟨some 20, .mov (.t 19), none⟩, ⟨some 21, .load false 1 (.t 5), some (20, false)⟩,
 ⟨some 22, .faddr 0 (.t 3), some (20, false)⟩,
 ⟨some 23, .load false 1 (.t 22), some (20, false)⟩,
 ⟨some 24, .callv false (.t 21) [(.t 23), (.k (.i .i64 1099511627776))], some (20, false)⟩,
 ⟨some 25, .un .not (.t 24), some (20, false)⟩,
 ⟨some 26, .pick (.t 20) (.k (.b true)) (.t 25), none⟩, ⟨some 27, .mov (.t 26), none⟩, ⟨some 28, .load false 1 (.t 5), some (27, false)⟩,
 ⟨some 29, .faddr 1 (.t 3), some (27, false)⟩,
 ⟨some 30, .load false 1 (.t 29), some (27, false)⟩,
 ⟨some 31, .callv false (.t 28) [(.t 30), (.k (.i .i64 1099511627776))], some (27, false)⟩,
 ⟨some 32, .un .not (.t 31), some (27, false)⟩,
 ⟨some 33, .pick (.t 27) (.k (.b true)) (.t 32), none⟩, ⟨some 34, .mov (.t 33), none⟩, ⟨some 35, .faddr 4 (.t 3), some (34, false)⟩,
 ⟨some 36, .load false 1 (.t 35), some (34, false)⟩,
 ⟨some 37, .len .slice (.t 36), some (34, false)⟩,
 ⟨some 38, .bin .gtr (.t 37) (.k (.i .i64 65536)), some (34, false)⟩,
 ⟨some 39, .pick (.t 34) (.k (.b true)) (.t 38), none⟩])
 (.cond (.t 39)
 (.seq (.reg [⟨some 4, .mov (.k (.b false)), none⟩])
 .ret)
 .skip))
 (.seq (.seq (.reg [⟨some 40, .faddr 2 (.t 3), none⟩, ⟨some 41, .faddr 0 (.t 40), none⟩, ⟨some 42, .load false 1 (.t 41), none⟩, ⟨some 43, .faddr 2 (.t 3), none⟩, ⟨some 44, .faddr 1 (.t 43), none⟩, ⟨some 45, .load false 1 (.t 44), none⟩, ⟨some 46, .bslice false 23 1 2 [(.sl [] 0 .nil)] [(0, (.t 42)), (1, (.t 45))], none⟩, ⟨some 47, .len .slice (.t 46), none⟩, ⟨some 48, .mov (.k (.i .i64 0)), none⟩])
 (.blk 0 (.loop L145_1)))
 (.seq (.reg [⟨some 4, .mov (.k (.b true)), none⟩])
 .ret)))))
/-- tidemark/save.good -/
def af145 : AFunc := { n := 61, depth := 6, kl := [(2, [2, 9, 15]), (3, [3, 22, 29, 35, 40, 41, 43, 44])], res := [.tmp 4], body := B145 }

def B146 : AC := (.seq (.reg [⟨some 4, .mov (.k (.i .i64 0)), none⟩])
 (.seq (.reg [⟨some 6, .mov (.t 0), none⟩, ⟨some 7, .call false 155 [(.t 6)], none⟩, ⟨some 5, .mov (.t 7), none⟩])
 (.seq (.blk 0 (.seq (.reg [⟨some 9, .mov (.t 5), none⟩, ⟨some 10, .bin .neq (.t 9) (.k (.i .i64 0)), none⟩, ⟨some 8, .mov (.t 10), none⟩])
 (.cond (.t 8)
 (.seq (.reg [⟨some 11, .mov (.t 5), none⟩, ⟨some 4, .mov (.t 11), none⟩])
 .ret)
 (.seq (.reg [⟨some 13, .mov (.t 0), none⟩, ⟨some 14, .mov (.t 1), none⟩, ⟨some 15, .len .slice (.t 14), none⟩, ⟨some 16, .call false 228 [(.t 13), (.t 15)], none⟩, ⟨some 17, .un .not (.t 16), none⟩, ⟨some 12, .mov (.t 17), none⟩])
 (.cond (.t 12)
 (.seq (.reg [⟨some 4, .mov (.k (.i .i64 7)), none⟩])
 .ret)
 .skip)))))
 (.seq (.reg [⟨some 18, .mov (.t 0), none⟩, ⟨some 19, .mov (.t 1), none⟩, ⟨some 20, .call false 156 [(.t 19)], none⟩, ⟨some 21, .build [(.i .i64 0), (.sl [] 0 .nil)] [(0, 1, (.k (.i .i64 2))), (1, 1, (.t 20))], none⟩, ⟨some 22, .call false 229 [(.t 18), (.t 21)], none⟩, ⟨some 4, .mov (.t 22), none⟩])
 .ret))))
/-- (*tidemark/disk.Disk).Append -/
def af146 : AFunc := { n := 23, depth := 5, kl := [], res := [.tmp 4], body := B146 }

def L147_1 : AC := (.seq (.reg [⟨some 11, .bin .lss (.t 10) (.t 9), none⟩])
 (.seq (.cond (.t 11)
 .skip
 (.exit 0))
 (.seq (.blk 1 (.seq (.reg [⟨some 12, .iaddr (.slice 1) (.t 8) (.t 10), none⟩, ⟨some 13, .load false 1 (.t 12), none⟩, ⟨some 5, .mov (.t 13), none⟩])
 (.seq (.reg [⟨some 15, .mov (.t 5), none⟩, ⟨some 16, .call false 230 [(.t 15)], none⟩, ⟨some 14, .mov (.t 16), none⟩, ⟨some 17, .ext (.t 14) 0, none⟩, ⟨some 18, .ext (.t 14) 1, none⟩, ⟨some 6, .mov (.t 17), none⟩, ⟨some 7, .mov (.t 18), none⟩])
 (.reg [⟨some 19, .mov (.t 3), none⟩, ⟨some 20, .mov (.t 6), none⟩, ⟨some 21, .app 5 1 (.t 19) (.t 20), none⟩, ⟨some 3, .mov (.t 21), none⟩]))))
 (.reg [⟨some 22, .bin .add (.t 10) (.k (.i .i64 1)), none⟩, ⟨some 10, .mov (.t 22), none⟩]))))
def B147 : AC := (.seq (.reg [⟨some 2, .mov (.k (.sl [] 0 .nil)), none⟩])
 (.seq (.reg [⟨some 3, .mov (.k (.sl [] 0 .nil)), none⟩])
 (.seq (.seq (.reg [⟨some 8, .mov (.t 0), none⟩, ⟨some 9, .len .slice (.t 8), none⟩, ⟨some 10, .mov (.k (.i .i64 0)), none⟩])
 (.blk 0 (.loop L147_1)))
 (.seq (.reg [⟨some 23, .mov (.t 3), none⟩, ⟨some 2, .mov (.t 23), none⟩])
 .ret))))
/-- tidemark/save.tape -/
def af147 : AFunc := { n := 24, depth := 5, kl := [], res := [.tmp 2], body := B147 }

def B148 : AC := (.seq (.reg [⟨some 2, .mov (.k (.sl [] 0 .nil)), none⟩])
 (.seq (.seq (.reg [⟨some 3, .mov (.t 0), none⟩, ⟨some 4, .eq false .slnil (.t 3) (.k (.sl [] 0 .nil)), none⟩])
 (.cond (.t 4)
 (.seq (.reg [⟨some 2, .mov (.k (.sl [] 0 .nil)), none⟩])
 .ret)
 .skip))
 (.seq (.reg [⟨some 5, .bslice false 68 3 0 [(.i .i64 0), (.i .i64 0), (.sl [] 0 .nil)] [], none⟩, ⟨some 6, .mov (.t 0), none⟩, ⟨some 7, .appo 68 3 (.t 5) (.t 6), none⟩, ⟨some 2, .mov (.t 7), none⟩])
 .ret)))
/-- slices.Clone[[]tidemark/api.Entry,tidemark/api.Entry] -/
def af148 : AFunc := { n := 8, depth := 4, kl := [], res := [.tmp 2], body := B148 }

def B149 : AC := (.seq (.reg [⟨some 1, .lbox (.t 0) [1, 3, 5, 9], none⟩, ⟨some 2, .mov (.k (.sl [] 0 .nil)), none⟩])
 (.seq (.regd [(⟨some 3, .faddr 0 (.t 1), none⟩, []),
     (⟨some 4, .load false 1 (.t 3), none⟩, []),
     (⟨some 5, .faddr 1 (.t 1), none⟩, [0, 1]),
     (⟨some 6, .load false 1 (.t 5), none⟩, [0, 1]),
     (⟨some 7, .bslice false 3 1 3 [(.i .i64 0)] [(0, (.k (.i .i64 3))), (1, (.t 4)), (2, (.t 6))], none⟩, []),
     (⟨some 8, .call false 39 [(.k (.sl [] 0 .nil)), (.t 7)], none⟩, []),
     (⟨some 9, .faddr 2 (.t 1), none⟩, [0, 1, 2, 3, 4, 5]),
     (⟨some 10, .load false 1 (.t 9), none⟩, [0, 1, 2, 3, 4, 5]),
     (⟨some 11, .conv .toStr (.t 10), none⟩, [0, 1, 2, 3, 4, 5]),
     (⟨some 12, .call false 38 [(.t 8), (.t 11)], none⟩, []),
     (⟨some 2, .mov (.t 12), none⟩, [])])
 .ret))
/-- tidemark/save.row -/
def af149 : AFunc := { n := 13, depth := 4, kl := [(1, [1, 3, 5, 9])], res := [.tmp 2], body := B149 }

def B150 : AC := (.seq (.reg [⟨some 3, .lbox (.t 1) [3, 5], none⟩, ⟨some 4, .mov (.k (.b false)), none⟩])
 (.seq (.seq (.reg [⟨some 5, .faddr 0 (.t 3), none⟩, ⟨some 6, .load false 1 (.t 5), none⟩, ⟨some 7, .mov (.t 0), none⟩, ⟨some 8, .nilck (.t 7), none⟩, ⟨some 9, .faddr 2 (.t 8), none⟩, ⟨some 10, .faddr 0 (.t 9), none⟩, ⟨some 11, .load false 1 (.t 10), none⟩, ⟨some 12, .mov (.t 0), none⟩, ⟨some 13, .nilck (.t 12), none⟩, ⟨some 14, .faddr 7 (.t 13), none⟩, ⟨some 15, .load false 1 (.t 14), none⟩, ⟨some 16, .len .slice (.t 15), none⟩, ⟨some 17, .bin .add (.t 11) (.t 16), none⟩, ⟨some 18, .bin .add (.t 17) (.k (.i .i64 1)), none⟩, ⟨some 19, .bin .neq (.t 6) (.t 18), none⟩])
 (.cond (.t 19)
 (.seq (.reg [⟨some 4, .mov (.k (.b false)), none⟩])
 .ret)
 .skip))
 (.seq (.regd [(⟨some 20, .mov (.t 0), none⟩, []),
     (⟨some 21, .mov (.t 0), none⟩, [0]),
     (⟨some 22, .nilck (.t 21), none⟩, [0]),
     (⟨some 23, .faddr 7 (.t 22), none⟩, [0]),
     (⟨some 24, .load false 1 (.t 23), none⟩, [0]),
     (⟨some 25, .call false 148 [(.t 24)], none⟩, [0]),
     (⟨some 26, .load true 3 (.t 3), none⟩, [0, 1, 2, 3, 4, 5]),
     (⟨some 27, .bslice false 68 3 1 [(.i .i64 0), (.i .i64 0), (.sl [] 0 .nil)] [(0, (.t 26))], none⟩, [0, 1, 2, 3, 4, 5]),
     (⟨some 28, .app 68 3 (.t 25) (.t 27), none⟩, [0]),
     (⟨some 29, .nilck (.t 20), none⟩, []),
     (⟨some 30, .faddr 7 (.t 29), none⟩, []),
     (⟨none, .store 1 (.t 30) (.t 28), none⟩, [])])
 (.seq (.reg [⟨some 4, .mov (.k (.b true)), none⟩])
 .ret))))
/-- (*tidemark/save.book).add -/
def af150 : AFunc := { n := 31, depth := 5, kl := [(3, [3, 5])], res := [.tmp 4], body := B150 }

def L151_2 : AC := (.seq (.seq (.reg [⟨some 55, .mov (.t 0), none⟩, ⟨some 56, .nilck (.t 55), none⟩, ⟨some 57, .faddr 0 (.t 56), none⟩, ⟨some 58, .load false 1 (.t 57), none⟩, ⟨some 59, .len .slice (.t 58), none⟩, ⟨some 60, .bin .gtr (.t 59) (.k (.i .i64 32)), none⟩])
 (.cond (.t 60)
 .skip
 (.exit 3)))
 (.blk 4 (.seq (.reg [⟨some 61, .mov (.t 0), none⟩, ⟨some 62, .mov (.t 0), none⟩, ⟨some 63, .nilck (.t 62), none⟩, ⟨some 64, .faddr 1 (.t 63), none⟩, ⟨some 65, .load false 1 (.t 64), none⟩, ⟨some 66, .call false 232 [(.t 65)], none⟩, ⟨some 67, .nilck (.t 61), none⟩, ⟨some 68, .faddr 1 (.t 67), none⟩, ⟨none, .store 1 (.t 68) (.t 66), none⟩])
 (.seq (.regd [(⟨some 69, .mov (.t 0), none⟩, []),
      (⟨some 70, .nilck (.t 69), none⟩, []),
      (⟨some 71, .faddr 1 (.t 70), none⟩, []),
      (⟨some 72, .load false 1 (.t 71), none⟩, []),
      (⟨some 73, .mov (.t 0), none⟩, [0, 1, 2, 3]),
      (⟨some 74, .call false 233 [(.t 73)], none⟩, [0, 1, 2, 3]),
      (⟨some 75, .iaddr (.slice 8) (.t 72) (.t 74), none⟩, []),
      (⟨some 76, .faddr 7 (.t 75), none⟩, []),
      (⟨none, .store 1 (.t 76) (.k (.b true)), none⟩, [])])
 (.reg [⟨some 77, .mov (.t 0), none⟩, ⟨some 78, .call false 219 [(.t 77)], none⟩])))))
def L151_1 : AC := (.seq (.reg [⟨some 37, .bin .lss (.t 36) (.t 35), none⟩])
 (.seq (.cond (.t 37)
 .skip
 (.exit 1))
 (.seq (.blk 2 (.seq (.reg [⟨some 38, .iaddr (.slice 6) (.t 34) (.t 36), none⟩, ⟨some 39, .load true 6 (.t 38), none⟩, ⟨some 8, .lalloc [(.i .i64 0), (.s []), (.b false), (.s []), (.b false), (.s [])] [8, 41], none⟩, ⟨none, .store 6 (.t 8) (.t 39), none⟩])
 (.seq (.reg [⟨some 40, .mov (.t 1), none⟩, ⟨some 41, .faddr 0 (.t 8), none⟩, ⟨none, .store 1 (.t 41) (.t 40), none⟩])
    (.regd [(⟨some 42, .mov (.t 0), none⟩, []),
      (⟨some 43, .mov (.t 0), none⟩, [0]),
      (⟨some 44, .nilck (.t 43), none⟩, [0]),
      (⟨some 45, .faddr 0 (.t 44), none⟩, [0]),
      (⟨some 46, .load false 1 (.t 45), none⟩, [0]),
      (⟨some 47, .load true 6 (.t 8), none⟩, [0, 1, 2, 3, 4]),
      (⟨some 48, .bslice false 206 6 1 [(.i .i64 0), (.s []), (.b false), (.s []), (.b false), (.s [])] [(0, (.t 47))], none⟩, [0, 1, 2, 3, 4]),
      (⟨some 49, .app 206 6 (.t 46) (.t 48), none⟩, [0]),
      (⟨some 50, .nilck (.t 42), none⟩, []),
      (⟨some 51, .faddr 0 (.t 50), none⟩, []),
      (⟨none, .store 1 (.t 51) (.t 49), none⟩, [])]))))
 (.reg [⟨some 52, .bin .add (.t 36) (.k (.i .i64 1)), none⟩, ⟨some 36, .mov (.t 52), none⟩]))))
def B151 : AC := (.seq (.reg [⟨some 6, .mov (.k (.i .i64 0)), none⟩])
 (.seq (.blk 0 (.seq (.reg [⟨some 10, .mov (.t 0), none⟩, ⟨some 11, .call false 92 [(.t 10)], none⟩, ⟨some 9, .mov (.t 11), none⟩])
 (.cond (.t 9)
 (.seq (.reg [⟨some 6, .mov (.k (.i .i64 6)), none⟩])
 .ret)
 (.seq (.reg [⟨some 13, .mov (.t 1), none⟩, ⟨some 14, .mov (.t 0), none⟩, ⟨some 15, .nilck (.t 14), none⟩, ⟨some 16, .faddr 3 (.t 15), none⟩, ⟨some 17, .load false 1 (.t 16), none⟩, ⟨some 18, .bin .leq (.t 13) (.t 17), none⟩, ⟨some 12, .mov (.t 18), none⟩])
 (.cond (.t 12)
 (.seq (.reg [⟨some 6, .mov (.k (.i .i64 82)), none⟩])
 .ret)
 (.seq (.reg [⟨some 20, .mov (.t 1), none⟩, ⟨some 21, .bin .gtr (.t 20) (.k (.i .i64 1099511627776)), none⟩, ⟨some 19, .mov (.t 21), none⟩])
 (.cond (.t 19)
 (.seq (.reg [⟨some 6, .mov (.k (.i .i64 5)), none⟩])
 .ret)
 .skip)))))))
 (.seq (.reg [⟨some 22, .mov (.t 0), none⟩, ⟨some 23, .mov (.t 1), none⟩, ⟨some 24, .nilck (.t 22), none⟩, ⟨some 25, .faddr 3 (.t 24), none⟩, ⟨none, .store 1 (.t 25) (.t 23), none⟩])
 (.seq (.reg [⟨some 26, .mov (.t 0), none⟩, ⟨some 27, .mov (.t 0), none⟩, ⟨some 28, .nilck (.t 27), none⟩, ⟨some 29, .faddr 0 (.t 28), none⟩, ⟨some 30, .load false 1 (.t 29), none⟩, ⟨some 31, .call false 231 [(.t 30)], none⟩, ⟨some 32, .nilck (.t 26), none⟩, ⟨some 33, .faddr 0 (.t 32), none⟩, ⟨none, .store 1 (.t 33) (.t 31), none⟩])
 (.seq (.seq (.reg [⟨some 34, .mov (.t 2), none⟩, ⟨some 35, .len .slice (.t 34), none⟩, ⟨some 36, .mov (.k (.i .i64 0)), none⟩])
 (.blk 1 (.loop L151_1)))
 (.seq (.reg [⟨some 53, .mov (.t 0), none⟩, ⟨some 54, .call false 219 [(.t 53)], none⟩])
 (.seq (.blk 3 (.loop L151_2))
 (.seq (.reg [⟨some 6, .mov (.k (.i .i64 0)), none⟩])
 .ret))))))))
/-- (*tidemark/feed.Feed).Note -/
def af151 : AFunc := { n := 79, depth := 7, kl := [(8, [8, 41])], res := [.tmp 6], body := B151 }

def B152 : AC := (.seq (.reg [⟨some 3, .lbox (.t 1) [3, 13, 29, 33, 43, 54, 56, 72, 80, 90, 99, 101], none⟩, ⟨some 4, .lalloc [(.i .i64 0), (.i .i64 0)] [4], none⟩, ⟨some 5, .mov (.k (.sl [] 0 .nil)), none⟩])
 (.seq (.blk 0 (.seq (.reg [⟨some 13, .faddr 0 (.t 3), none⟩, ⟨some 14, .load false 1 (.t 13), none⟩, ⟨some 15, .bin .eql (.t 14) (.k (.i .i64 1)), none⟩, ⟨some 12, .mov (.t 15), none⟩])
 (.cond (.t 12)
 (.seq (.reg [⟨some 17, .mov (.t 0), none⟩, ⟨some 18, .nilck (.t 17), none⟩, ⟨some 19, .faddr 0 (.t 18), none⟩, ⟨some 20, .faddr 3 (.t 19), none⟩, ⟨some 21, .load false 1 (.t 20), none⟩, ⟨some 22, .call false 234 [(.t 21)], none⟩, ⟨some 16, .mov (.t 22), none⟩, ⟨some 23, .ext (.t 16) 0, none⟩, ⟨some 24, .ext (.t 16) 1, none⟩, ⟨some 6, .mov (.t 23), none⟩, ⟨some 7, .mov (.t 24), none⟩])
 (.seq (.reg [⟨some 25, .mov (.t 7), none⟩, ⟨some 26, .mov (.t 6), none⟩, ⟨some 27, .build [(.i .i64 0), (.i .i64 0)] [(0, 1, (.t 25)), (1, 1, (.t 26))], none⟩, ⟨none, .store 2 (.t 4) (.t 27), none⟩, ⟨some 5, .mov (.k (.sl [] 0 .nil)), none⟩])
 .ret))
 (.seq (.reg [⟨some 29, .faddr 0 (.t 3), none⟩, ⟨some 30, .load false 1 (.t 29), none⟩, ⟨some 31, .bin .eql (.t 30) (.k (.i .i64 10)), none⟩, ⟨some 32, .mov (.t 31), none⟩, ⟨some 33, .faddr 0 (.t 3), some (32, false)⟩,
 ⟨some 34, .load false 1 (.t 33), some (32, false)⟩,
 ⟨some 35, .bin .eql (.t 34) (.k (.i .i64 11)), some (32, false)⟩,
 ⟨some 36, .pick (.t 32) (.k (.b true)) (.t 35), none⟩, ⟨some 28, .mov (.t 36), none⟩])
 (.cond (.t 28)
 (.seq (.reg [⟨some 37, .mov (.t 0), none⟩, ⟨some 38, .load true 19 (.t 3), none⟩, ⟨some 39, .call false 235 [(.t 37), (.t 38)], none⟩, ⟨some 40, .ext (.t 39) 0, none⟩, ⟨some 41, .ext (.t 39) 1, none⟩, ⟨none, .store 2 (.t 4) (.t 40), none⟩, ⟨some 5, .mov (.t 41), none⟩])
 .ret)
 (.seq (.reg [⟨some 43, .faddr 0 (.t 3), none⟩, ⟨some 44, .load false 1 (.t 43), none⟩, ⟨some 45, .call true 236 [(.t 44)], none⟩, ⟨some 46, .un .not (.t 45), none⟩, ⟨some 42, .mov (.t 46), none⟩])
 (.cond (.t 42)
 (.seq (.reg [⟨some 47, .build [(.i .i64 0), (.i .i64 0)] [], none⟩, ⟨none, .store 2 (.t 4) (.t 47), none⟩, ⟨some 5, .mov (.k (.sl [] 0 .nil)), none⟩])
 .ret)
 .skip)))))))
 (.seq (.regd [(⟨some 49, .mov (.t 0), none⟩, []),
     (⟨some 50, .nilck (.t 49), none⟩, []),
     (⟨some 51, .faddr 0 (.t 50), none⟩, []),
     (⟨some 52, .faddr 3 (.t 51), none⟩, []),
     (⟨some 53, .load false 1 (.t 52), none⟩, []),
     (⟨some 54, .faddr 1 (.t 3), none⟩, [0, 1, 2, 3, 4]),
     (⟨some 55, .load false 1 (.t 54), none⟩, [0, 1, 2, 3, 4]),
     (⟨some 56, .faddr 2 (.t 3), none⟩, [0, 1, 2, 3, 4, 5, 6]),
     (⟨some 57, .load false 1 (.t 56), none⟩, [0, 1, 2, 3, 4, 5, 6]),
     (⟨some 58, .call false 237 [(.t 53), (.t 55), (.t 57)], none⟩, []),
     (⟨some 48, .mov (.t 58), none⟩, []),
     (⟨some 59, .ext (.t 48) 0, none⟩, []),
     (⟨some 60, .ext (.t 48) 1, none⟩, [11]),
     (⟨some 61, .ext (.t 48) 2, none⟩, [11, 12]),
     (⟨some 8, .lalloc [(.i .i64 0), (.i .i64 0)] [8], none⟩, [0, 1, 2, 3, 4, 5, 6, 7, 8, 9, 10, 11, 12, 13]),
     (⟨none, .store 2 (.t 8) (.t 59), none⟩, [12, 13]),
     (⟨some 9, .mov (.t 60), none⟩, [13]),
     (⟨some 10, .mov (.t 61), none⟩, [])])
 (.seq (.blk 1 (.seq (.reg [⟨some 63, .mov (.t 10), none⟩, ⟨some 64, .bin .neq (.t 63) (.k (.i .i64 0)), none⟩, ⟨some 62, .mov (.t 64), none⟩])
 (.cond (.t 62)
 (.seq (.reg [⟨some 65, .mov (.t 10), none⟩, ⟨some 66, .build [(.i .i64 0), (.i .i64 0)] [(0, 1, (.t 65))], none⟩, ⟨none, .store 2 (.t 4) (.t 66), none⟩, ⟨some 5, .mov (.k (.sl [] 0 .nil)), none⟩])
 .ret)
 (.seq (.reg [⟨some 68, .mov (.t 9), none⟩, ⟨some 69, .un .not (.t 68), none⟩, ⟨some 67, .mov (.t 69), none⟩])
 (.cond (.t 67)
 (.seq (.reg [⟨some 70, .load true 2 (.t 8), none⟩, ⟨none, .store 2 (.t 4) (.t 70), none⟩, ⟨some 5, .mov (.k (.sl [] 0 .nil)), none⟩])
 .ret)
 (.seq (.reg [⟨some 72, .faddr 0 (.t 3), none⟩, ⟨some 73, .load false 1 (.t 72), none⟩, ⟨some 74, .bin .eql (.t 73) (.k (.i .i64 3)), none⟩, ⟨some 71, .mov (.t 74), none⟩])
 (.cond (.t 71)
 (.seq (.reg [⟨some 75, .mov (.t 0), none⟩, ⟨some 76, .nilck (.t 75), none⟩, ⟨some 77, .faddr 0 (.t 76), none⟩, ⟨some 78, .faddr 3 (.t 77), none⟩, ⟨some 79, .load false 1 (.t 78), none⟩, ⟨some 80, .faddr 1 (.t 3), none⟩, ⟨some 81, .load false 1 (.t 80), none⟩, ⟨some 82, .call false 238 [(.t 79), (.t 81)], none⟩, ⟨some 83, .build [(.i .i64 0), (.i .i64 0)] [(0, 1, (.t 82))], none⟩, ⟨none, .store 2 (.t 4) (.t 83), none⟩, ⟨some 5, .mov (.k (.sl [] 0 .nil)), none⟩])
 .ret)
 .skip)))))))
 (.seq (.reg [⟨some 85, .mov (.t 0), none⟩, ⟨some 86, .load true 19 (.t 3), none⟩, ⟨some 87, .call false 239 [(.t 85), (.t 86)], none⟩, ⟨some 84, .mov (.t 87), none⟩, ⟨some 88, .ext (.t 84) 0, none⟩, ⟨some 89, .ext (.t 84) 1, none⟩, ⟨none, .store 2 (.t 8) (.t 88), none⟩, ⟨some 11, .mov (.t 89), none⟩])
 (.seq (.seq (.reg [⟨some 90, .faddr 0 (.t 3), none⟩, ⟨some 91, .load false 1 (.t 90), none⟩, ⟨some 92, .call true 153 [(.t 91)], none⟩, ⟨some 93, .un .not (.t 92), none⟩])
 (.cond (.t 93)
 (.reg [⟨some 94, .mov (.t 0), none⟩, ⟨some 95, .nilck (.t 94), none⟩, ⟨some 96, .faddr 0 (.t 95), none⟩, ⟨some 97, .faddr 3 (.t 96), none⟩, ⟨some 98, .load false 1 (.t 97), none⟩, ⟨some 99, .faddr 1 (.t 3), none⟩, ⟨some 100, .load false 1 (.t 99), none⟩, ⟨some 101, .faddr 2 (.t 3), none⟩, ⟨some 102, .load false 1 (.t 101), none⟩, ⟨some 103, .load true 2 (.t 8), none⟩, ⟨some 104, .call false 240 [(.t 98), (.t 100), (.t 102), (.t 103)], none⟩])
 .skip))
 (.seq (.reg [⟨some 105, .load true 2 (.t 8), none⟩, ⟨some 106, .mov (.t 11), none⟩, ⟨none, .store 2 (.t 4) (.t 105), none⟩, ⟨some 5, .mov (.t 106), none⟩])
 .ret)))))))
/-- (*tidemark/machine.Machine).run -/
def af152 : AFunc := { n := 107, depth := 7, kl := [(3, [3, 13, 29, 33, 43, 54, 56, 72, 80, 90, 99, 101]), (4, [4]), (8, [8])], res := [.cell 4 true 2, .tmp 5], body := B152 }

def B153 : AC := (.seq (.reg [⟨some 2, .mov (.k (.b false)), none⟩])
 (.seq (.reg [⟨some 3, .mov (.t 0), none⟩, ⟨some 4, .bin .eql (.t 3) (.k (.i .i64 6)), none⟩, ⟨some 5, .mov (.t 4), none⟩, ⟨some 6, .mov (.t 0), some (5, false)⟩,
 ⟨some 7, .bin .eql (.t 6) (.k (.i .i64 12)), some (5, false)⟩,
 ⟨some 8, .pick (.t 5) (.k (.b true)) (.t 7), none⟩, ⟨some 2, .mov (.t 8), none⟩])
 .ret))
/-- tidemark/machine.begins -/
def af153 : AFunc := { n := 9, depth := 4, kl := [], res := [.tmp 2], body := B153 }

def B155 : AC := (.seq (.reg [⟨some 2, .mov (.k (.i .i64 0)), none⟩])
 (.seq (.blk 0 (.seq (.reg [⟨some 4, .mov (.t 0), none⟩, ⟨some 5, .eq false .ptr (.t 4) (.k .nilp), none⟩, ⟨some 6, .mov (.t 5), none⟩, ⟨some 7, .mov (.t 0), some (6, false)⟩,
 ⟨some 8, .nilck (.t 7), some (6, false)⟩,
 ⟨some 9, .faddr 7 (.t 8), some (6, false)⟩,
 ⟨some 10, .load false 1 (.t 9), some (6, false)⟩,
 ⟨some 11, .bin .eql (.t 10) (.k (.i .i64 0)), some (6, false)⟩,
 ⟨some 12, .pick (.t 6) (.k (.b true)) (.t 11), none⟩, ⟨some 3, .mov (.t 12), none⟩])
 (.cond (.t 3)
 (.seq (.reg [⟨some 2, .mov (.k (.i .i64 6)), none⟩])
 .ret)
 (.seq (.reg [⟨some 14, .mov (.t 0), none⟩, ⟨some 15, .nilck (.t 14), none⟩, ⟨some 16, .faddr 8 (.t 15), none⟩, ⟨some 17, .load false 1 (.t 16), none⟩, ⟨some 13, .mov (.t 17), none⟩])
 (.cond (.t 13)
 (.seq (.reg [⟨some 2, .mov (.k (.i .i64 30)), none⟩])
 .ret)
 .skip)))))
 (.seq (.reg [⟨some 2, .mov (.k (.i .i64 0)), none⟩])
 .ret)))
/-- (*tidemark/disk.Disk).able -/
def af155 : AFunc := { n := 18, depth := 5, kl := [], res := [.tmp 2], body := B155 }

def B156 : AC := (.seq (.reg [⟨some 2, .mov (.k (.sl [] 0 .nil)), none⟩])
 (.seq (.reg [⟨some 3, .bslice false 5 1 0 [(.i .u8 0)] [], none⟩, ⟨some 4, .mov (.t 0), none⟩, ⟨some 5, .app 5 1 (.t 3) (.t 4), none⟩, ⟨some 2, .mov (.t 5), none⟩])
 .ret))
/-- tidemark/disk.own -/
def af156 : AFunc := { n := 6, depth := 3, kl := [], res := [.tmp 2], body := B156 }

def L157_1 : AC := (.blk 1 (.seq (.reg [⟨some 10, .mov (.t 0), none⟩, ⟨some 11, .mov (.t 5), none⟩, ⟨some 12, .slc (.slice 1) (.t 10) (some (.t 11)) none none, none⟩, ⟨some 13, .call false 244 [(.t 12)], none⟩, ⟨some 9, .mov (.t 13), none⟩, ⟨some 14, .ext (.t 9) 0, none⟩, ⟨some 15, .ext (.t 9) 1, none⟩, ⟨some 16, .ext (.t 9) 2, none⟩, ⟨some 6, .mov (.t 14), none⟩, ⟨some 7, .mov (.t 15), none⟩, ⟨some 8, .mov (.t 16), none⟩])
 (.seq (.seq (.reg [⟨some 17, .mov (.t 8), none⟩, ⟨some 18, .bin .neq (.t 17) (.k (.i .i64 0)), none⟩])
 (.cond (.t 18)
 (.seq (.reg [⟨some 19, .mov (.t 4), none⟩, ⟨some 20, .mov (.t 5), none⟩, ⟨some 2, .mov (.t 19), none⟩, ⟨some 3, .mov (.t 20), none⟩])
 .ret)
 .skip))
 (.seq (.reg [⟨some 21, .mov (.t 4), none⟩, ⟨some 22, .mov (.t 6), none⟩, ⟨some 23, .bslice false 26 1 1 [(.sl [] 0 .nil)] [(0, (.t 22))], none⟩, ⟨some 24, .app 26 1 (.t 21) (.t 23), none⟩, ⟨some 4, .mov (.t 24), none⟩])
 (.reg [⟨some 25, .mov (.t 5), none⟩, ⟨some 26, .mov (.t 7), none⟩, ⟨some 27, .bin .add (.t 25) (.t 26), none⟩, ⟨some 5, .mov (.t 27), none⟩])))))
def B157 : AC := (.seq (.reg [⟨some 2, .mov (.k (.sl [] 0 .nil)), none⟩, ⟨some 3, .mov (.k (.i .i64 0)), none⟩])
 (.seq (.reg [⟨some 4, .mov (.k (.sl [] 0 .nil)), none⟩])
 (.seq (.reg [⟨some 5, .mov (.k (.i .i64 0)), none⟩])
 (.blk 0 (.loop L157_1)))))
/-- tidemark/wire.All -/
def af157 : AFunc := { n := 28, depth := 5, kl := [], res := [.tmp 2, .tmp 3], body := B157 }

def B161 : AC := (.seq (.reg [⟨some 6, .mov (.k (.i .i64 0)), none⟩])
 (.seq (.seq (.reg [⟨some 8, .mov (.t 0), none⟩, ⟨some 9, .call false 155 [(.t 8)], none⟩, ⟨some 7, .mov (.t 9), none⟩])
 (.seq (.reg [⟨some 10, .mov (.t 7), none⟩, ⟨some 11, .bin .neq (.t 10) (.k (.i .i64 0)), none⟩])
 (.cond (.t 11)
 (.seq (.reg [⟨some 12, .mov (.t 7), none⟩, ⟨some 6, .mov (.t 12), none⟩])
 .ret)
 .skip)))
 (.seq (.blk 0 (.seq (.reg [⟨some 14, .mov (.t 1), none⟩, ⟨some 15, .bin .lss (.t 14) (.k (.i .i64 0)), none⟩, ⟨some 16, .mov (.t 15), none⟩, ⟨some 17, .mov (.t 1), some (16, false)⟩,
 ⟨some 18, .bin .gtr (.t 17) (.k (.i .i64 1)), some (16, false)⟩,
 ⟨some 19, .pick (.t 16) (.k (.b true)) (.t 18), none⟩, ⟨some 13, .mov (.t 19), none⟩])
 (.cond (.t 13)
 (.seq (.reg [⟨some 6, .mov (.k (.i .i64 31)), none⟩])
 .ret)
 (.seq (.reg [⟨some 21, .mov (.t 0), none⟩, ⟨some 22, .mov (.t 2), none⟩, ⟨some 23, .len .slice (.t 22), none⟩, ⟨some 24, .mov (.t 0), none⟩, ⟨some 25, .mov (.t 1), none⟩, ⟨some 26, .nilck (.t 24), none⟩, ⟨some 27, .faddr 0 (.t 26), none⟩, ⟨some 28, .faddr 0 (.t 27), none⟩, ⟨some 29, .iaddr (.arr 2 1) (.t 28) (.t 25), none⟩, ⟨some 30, .load false 1 (.t 29), none⟩, ⟨some 31, .len .slice (.t 30), none⟩, ⟨some 32, .bin .sub (.t 23) (.t 31), none⟩, ⟨some 33, .call false 228 [(.t 21), (.t 32)], none⟩, ⟨some 34, .un .not (.t 33), none⟩, ⟨some 20, .mov (.t 34), none⟩])
 (.cond (.t 20)
 (.seq (.reg [⟨some 6, .mov (.k (.i .i64 7)), none⟩])
 .ret)
 .skip)))))
 (.seq (.reg [⟨some 35, .mov (.t 0), none⟩, ⟨some 36, .mov (.t 1), none⟩, ⟨some 37, .mov (.t 2), none⟩, ⟨some 38, .call false 156 [(.t 37)], none⟩, ⟨some 39, .build [(.i .i64 0), (.sl [] 0 .nil)] [(0, 1, (.t 36)), (1, 1, (.t 38))], none⟩, ⟨some 40, .call false 229 [(.t 35), (.t 39)], none⟩, ⟨some 6, .mov (.t 40), none⟩])
 .ret))))
/-- (*tidemark/disk.Disk).Slot -/
def af161 : AFunc := { n := 41, depth := 6, kl := [], res := [.tmp 6], body := B161 }

def L162_1 : AC := (.seq (.reg [⟨some 54, .bin .lss (.t 53) (.t 52), none⟩])
 (.seq (.cond (.t 54)
 .skip
 (.exit 2))
 (.seq (.blk 3 (.seq (.reg [⟨some 55, .iaddr (.slice 3) (.t 51) (.t 53), none⟩, ⟨some 56, .load true 3 (.t 55), none⟩, ⟨some 9, .lalloc [(.i .i64 0), (.i .i64 0), (.sl [] 0 .nil)] [9], none⟩, ⟨none, .store 3 (.t 9) (.t 56), none⟩])
    (.regd [(⟨some 57, .load false 1 (.t 6), none⟩, []),
      (⟨some 58, .load true 3 (.t 9), none⟩, [0]),
      (⟨some 59, .call false 149 [(.t 58)], none⟩, [0]),
      (⟨some 60, .bslice false 26 1 1 [(.sl [] 0 .nil)] [(0, (.t 59))], none⟩, [0]),
      (⟨some 61, .app 26 1 (.t 57) (.t 60), none⟩, []),
      (⟨none, .store 1 (.t 6) (.t 61), none⟩, [])])))
 (.reg [⟨some 62, .bin .add (.t 53) (.k (.i .i64 1)), none⟩, ⟨some 53, .mov (.t 62), none⟩]))))
def B162 : AC := (.seq (.reg [⟨some 2, .lbox (.t 0) [2, 11, 12, 14, 15, 17, 18, 20, 21, 23, 24, 27, 33, 34, 38, 39, 50], none⟩, ⟨some 4, .mov (.k (.sl [] 0 .nil)), none⟩])
 (.seq (.reg [⟨some 10, .mov (.t 1), none⟩, ⟨some 11, .faddr 0 (.t 2), none⟩, ⟨some 12, .faddr 0 (.t 11), none⟩, ⟨some 13, .load false 1 (.t 12), none⟩, ⟨some 14, .faddr 0 (.t 2), none⟩, ⟨some 15, .faddr 1 (.t 14), none⟩, ⟨some 16, .load false 1 (.t 15), none⟩, ⟨some 17, .faddr 2 (.t 2), none⟩, ⟨some 18, .faddr 0 (.t 17), none⟩, ⟨some 19, .load false 1 (.t 18), none⟩, ⟨some 20, .faddr 2 (.t 2), none⟩, ⟨some 21, .faddr 1 (.t 20), none⟩, ⟨some 22, .load false 1 (.t 21), none⟩, ⟨some 23, .faddr 2 (.t 2), none⟩, ⟨some 24, .faddr 4 (.t 23), none⟩, ⟨some 25, .load false 1 (.t 24), none⟩, ⟨some 26, .len .slice (.t 25), none⟩, ⟨some 27, .faddr 7 (.t 2), none⟩, ⟨some 28, .load false 1 (.t 27), none⟩, ⟨some 29, .len .slice (.t 28), none⟩, ⟨some 30, .bslice false 3 1 8 [(.i .i64 0)] [(0, (.k (.i .i64 1))), (1, (.t 10)), (2, (.t 13)), (3, (.t 16)), (4, (.t 19)), (5, (.t 22)), (6, (.t 26)), (7, (.t 29))], none⟩, ⟨some 31, .call false 39 [(.k (.sl [] 0 .nil)), (.t 30)], none⟩, ⟨some 5, .mov (.t 31), none⟩])
 (.seq (.reg [⟨some 32, .mov (.t 5), none⟩, ⟨some 33, .faddr 2 (.t 2), none⟩, ⟨some 34, .faddr 2 (.t 33), none⟩, ⟨some 35, .load true 2 (.t 34), none⟩, ⟨some 36, .call false 245 [(.t 32), (.t 35)], none⟩, ⟨some 37, .bslice false 26 1 1 [(.sl [] 0 .nil)] [(0, (.t 36))], none⟩, ⟨some 6, .lalloc [(.sl [] 0 .nil)] [6], none⟩, ⟨none, .store 1 (.t 6) (.t 37), none⟩])
 (.seq (.seq (.reg [⟨some 38, .faddr 2 (.t 2), none⟩, ⟨some 39, .faddr 4 (.t 38), none⟩, ⟨some 40, .load false 1 (.t 39), none⟩, ⟨some 41, .call true 36 [(.t 40), (.k (.i .i64 16384))], none⟩])
 (.blk 0 (.rfun (.t 41))))
 (.seq (.seq (.reg [⟨some 50, .faddr 7 (.t 2), none⟩, ⟨some 51, .load false 1 (.t 50), none⟩, ⟨some 52, .len .slice (.t 51), none⟩, ⟨some 53, .mov (.k (.i .i64 0)), none⟩])
 (.blk 2 (.loop L162_1)))
 (.seq (.regd [(⟨some 63, .load false 1 (.t 6), none⟩, []),
     (⟨some 64, .call false 35 [(.k (.sl [] 0 .nil)), (.k (.i .i64 4))], none⟩, [0]),
     (⟨some 65, .bslice false 26 1 1 [(.sl [] 0 .nil)] [(0, (.t 64))], none⟩, [0]),
     (⟨some 66, .app 26 1 (.t 63) (.t 65), none⟩, []),
     (⟨some 67, .call false 147 [(.t 66)], none⟩, []),
     (⟨some 4, .mov (.t 67), none⟩, [])])
 .ret))))))
/-- (tidemark/save.book).slot -/
def af162 : AFunc := { n := 68, depth := 7, kl := [(2, [2, 11, 12, 14, 15, 17, 18, 20, 21, 23, 24, 27, 33, 34, 38, 39, 50]), (6, [6]), (9, [9])], res := [.tmp 4], body := B162 }

def B163 : AC := (.seq (.reg [⟨some 2, .mov (.k (.i .i64 0)), none⟩])
 (.seq (.seq (.reg [⟨some 4, .mov (.t 0), none⟩, ⟨some 5, .call false 155 [(.t 4)], none⟩, ⟨some 3, .mov (.t 5), none⟩])
 (.seq (.reg [⟨some 6, .mov (.t 3), none⟩, ⟨some 7, .bin .neq (.t 6) (.k (.i .i64 0)), none⟩])
 (.cond (.t 7)
 (.seq (.reg [⟨some 8, .mov (.t 3), none⟩, ⟨some 2, .mov (.t 8), none⟩])
 .ret)
 .skip)))
 (.seq (.reg [⟨some 9, .mov (.t 0), none⟩, ⟨some 10, .build [(.i .i64 0), (.sl [] 0 .nil)] [(0, 1, (.k (.i .i64 3)))], none⟩, ⟨some 11, .call false 229 [(.t 9), (.t 10)], none⟩, ⟨some 2, .mov (.t 11), none⟩])
 .ret)))
/-- (*tidemark/disk.Disk).Clear -/
def af163 : AFunc := { n := 12, depth := 4, kl := [], res := [.tmp 2], body := B163 }

def B164 : AC := (.seq (.reg [⟨some 2, .mov (.k (.b false)), none⟩])
 (.seq (.seq (.reg [⟨some 3, .mov (.t 0), none⟩, ⟨some 4, .nilck (.t 3), none⟩, ⟨some 5, .faddr 9 (.t 4), none⟩, ⟨some 6, .load false 1 (.t 5), none⟩, ⟨some 7, .bin .eql (.t 6) (.k (.i .i64 0)), none⟩])
 (.cond (.t 7)
 (.seq (.reg [⟨some 2, .mov (.k (.b false)), none⟩])
 .ret)
 .skip))
 (.seq (.reg [⟨some 8, .mov (.t 0), none⟩, ⟨some 9, .nilck (.t 8), none⟩, ⟨some 10, .faddr 9 (.t 9), none⟩, ⟨some 11, .load false 1 (.t 10), none⟩, ⟨some 12, .bin .sub (.t 11) (.k (.i .i64 1)), none⟩, ⟨some 13, .nilck (.t 8), none⟩, ⟨some 14, .faddr 9 (.t 13), none⟩, ⟨none, .store 1 (.t 14) (.t 12), none⟩])
 (.seq (.seq (.reg [⟨some 15, .mov (.t 0), none⟩, ⟨some 16, .nilck (.t 15), none⟩, ⟨some 17, .faddr 9 (.t 16), none⟩, ⟨some 18, .load false 1 (.t 17), none⟩, ⟨some 19, .bin .eql (.t 18) (.k (.i .i64 0)), none⟩])
 (.cond (.t 19)
 (.reg [⟨some 20, .mov (.t 0), none⟩, ⟨some 21, .mov (.t 0), none⟩, ⟨some 22, .nilck (.t 21), none⟩, ⟨some 23, .faddr 10 (.t 22), none⟩, ⟨some 24, .load false 1 (.t 23), none⟩, ⟨some 25, .mov (.t 0), none⟩, ⟨some 26, .nilck (.t 25), none⟩, ⟨some 27, .faddr 11 (.t 26), none⟩, ⟨some 28, .load false 1 (.t 27), none⟩, ⟨some 29, .call false 246 [(.t 20), (.t 24), (.t 28)], none⟩])
 .skip))
 (.seq (.reg [⟨some 30, .mov (.t 0), none⟩, ⟨some 31, .nilck (.t 30), none⟩, ⟨some 32, .faddr 8 (.t 31), none⟩, ⟨some 33, .load false 1 (.t 32), none⟩, ⟨some 2, .mov (.t 33), none⟩])
 .ret)))))
/-- (*tidemark/disk.Disk).fuse -/
def af164 : AFunc := { n := 34, depth := 6, kl := [], res := [.tmp 2], body := B164 }

def B165 : AC := (.seq (.reg [⟨some 0, .mov (.k .nilp), none⟩])
 (.seq (.reg [⟨some 1, .build [.nilp] [], none⟩, ⟨some 2, .box 351 (.t 1), none⟩, ⟨some 0, .mov (.t 2), none⟩])
 .ret))
/-- tidemark/tree.New -/
def af165 : AFunc := { n := 3, depth := 2, kl := [], res := [.tmp 0], body := B165 }

def L172_2 : AC := (.seq (.reg [⟨some 28, .bin .lss (.t 27) (.t 26), none⟩])
 (.seq (.cond (.t 28)
 .skip
 (.exit 2))
 (.seq (.blk 3 (.seq (.reg [⟨some 29, .iaddr (.slice 1) (.t 25) (.t 27), none⟩, ⟨some 30, .load false 1 (.t 29), none⟩, ⟨some 8, .mov (.t 30), none⟩])
 (.reg [⟨some 31, .mov (.t 6), none⟩, ⟨some 32, .mov (.t 8), none⟩, ⟨some 33, .app 3 1 (.t 31) (.t 32), none⟩, ⟨some 6, .mov (.t 33), none⟩])))
 (.reg [⟨some 34, .bin .add (.t 27) (.k (.i .i64 1)), none⟩, ⟨some 27, .mov (.t 34), none⟩]))))
def L172_1 : AC := (.seq (.reg [⟨some 12, .bin .lss (.t 11) (.t 10), none⟩])
 (.seq (.cond (.t 12)
 .skip
 (.exit 0))
 (.seq (.blk 1 (.seq (.reg [⟨some 13, .iaddr (.slice 1) (.t 9) (.t 11), none⟩, ⟨some 14, .load false 1 (.t 13), none⟩, ⟨some 5, .mov (.t 14), none⟩])
 (.seq (.reg [⟨some 15, .mov (.t 3), none⟩, ⟨some 16, .mov (.t 5), none⟩, ⟨some 17, .len .slice (.t 16), none⟩, ⟨some 18, .bin .add (.t 15) (.t 17), none⟩, ⟨some 3, .mov (.t 18), none⟩])
 (.seq (.reg [⟨some 19, .mov (.t 3), none⟩, ⟨some 20, .bin .lss (.t 19) (.k (.i .i64 0)), none⟩])
 (.cond (.t 20)
 (.reg [⟨some 21, .mkif 9 (.k (.s [108, 101, 110, 32, 111, 117, 116, 32, 111, 102, 32, 114, 97, 110, 103, 101])), none⟩, ⟨none, .bad, none⟩])
 .skip)))))
 (.reg [⟨some 22, .bin .add (.t 11) (.k (.i .i64 1)), none⟩, ⟨some 11, .mov (.t 22), none⟩]))))
def B172 : AC := (.seq (.reg [⟨some 2, .mov (.k (.sl [] 0 .nil)), none⟩])
 (.seq (.reg [⟨some 3, .mov (.k (.i .i64 0)), none⟩])
 (.seq (.seq (.reg [⟨some 9, .mov (.t 0), none⟩, ⟨some 10, .len .slice (.t 9), none⟩, ⟨some 11, .mov (.k (.i .i64 0)), none⟩])
 (.blk 0 (.loop L172_1)))
 (.seq (.reg [⟨some 23, .mov (.t 3), none⟩, ⟨some 24, .call false 251 [(.k (.sl [] 0 .nil)), (.t 23)], none⟩, ⟨some 6, .mov (.t 24), none⟩])
 (.seq (.seq (.reg [⟨some 25, .mov (.t 0), none⟩, ⟨some 26, .len .slice (.t 25), none⟩, ⟨some 27, .mov (.k (.i .i64 0)), none⟩])
 (.blk 2 (.loop L172_2)))
 (.seq (.reg [⟨some 35, .mov (.t 6), none⟩, ⟨some 2, .mov (.t 35), none⟩])
 .ret))))))
/-- slices.Concat[[]int,int] -/
def af172 : AFunc := { n := 36, depth := 6, kl := [], res := [.tmp 2], body := B172 }

def B179 : AC := (.seq (.reg [⟨some 1, .lbox (.t 0) [1], none⟩, ⟨some 2, .mov (.k (.i .i64 0)), none⟩])
 (.seq (.reg [⟨some 6, .load true 4 (.t 1), none⟩, ⟨some 7, .call false 252 [(.t 6)], none⟩, ⟨some 5, .mov (.t 7), none⟩, ⟨some 8, .ext (.t 5) 0, none⟩, ⟨some 9, .ext (.t 5) 1, none⟩, ⟨some 3, .mov (.t 8), none⟩, ⟨some 4, .mov (.t 9), none⟩])
 (.seq (.reg [⟨some 10, .mov (.t 4), none⟩, ⟨some 2, .mov (.t 10), none⟩])
 .ret)))
/-- tidemark/filter.Check -/
def af179 : AFunc := { n := 11, depth := 4, kl := [(1, [1])], res := [.tmp 2], body := B179 }

def L180_1 : AC := (.seq (.reg [⟨some 27, .bin .lss (.t 26) (.t 25), none⟩])
 (.seq (.cond (.t 27)
 .skip
 (.exit 0))
 (.seq (.blk 1 (.seq (.reg [⟨some 28, .iaddr (.slice 4) (.t 24) (.t 26), none⟩, ⟨some 29, .load true 4 (.t 28), none⟩, ⟨some 6, .lalloc [(.i .i64 0), (.s []), (.s []), (.sl [] 0 .nil)] [6], none⟩, ⟨none, .store 4 (.t 6) (.t 29), none⟩])
 (.reg [⟨some 30, .mov (.t 0), none⟩, ⟨some 31, .load true 4 (.t 6), none⟩, ⟨some 32, .call false 180 [(.t 30), (.t 31)], none⟩, ⟨some 0, .mov (.t 32), none⟩])))
 (.reg [⟨some 33, .bin .add (.t 26) (.k (.i .i64 1)), none⟩, ⟨some 26, .mov (.t 33), none⟩]))))
def B180 : AC := (.seq (.reg [⟨some 3, .lbox (.t 1) [3, 8, 12, 15, 19, 23], none⟩, ⟨some 4, .mov (.k (.sl [] 0 .nil)), none⟩])
 (.seq (.reg [⟨some 7, .mov (.t 0), none⟩, ⟨some 8, .faddr 0 (.t 3), none⟩, ⟨some 9, .load false 1 (.t 8), none⟩, ⟨some 10, .call false 35 [(.t 7), (.t 9)], none⟩, ⟨some 0, .mov (.t 10), none⟩])
 (.seq (.regd [(⟨some 11, .mov (.t 0), none⟩, []),
     (⟨some 12, .faddr 1 (.t 3), none⟩, [0]),
     (⟨some 13, .load false 1 (.t 12), none⟩, [0]),
     (⟨some 14, .call false 38 [(.t 11), (.t 13)], none⟩, []),
     (⟨some 15, .faddr 2 (.t 3), none⟩, [0, 1, 2, 3]),
     (⟨some 16, .load false 1 (.t 15), none⟩, [0, 1, 2, 3]),
     (⟨some 17, .call false 38 [(.t 14), (.t 16)], none⟩, []),
     (⟨some 0, .mov (.t 17), none⟩, [])])
 (.seq (.reg [⟨some 18, .mov (.t 0), none⟩, ⟨some 19, .faddr 3 (.t 3), none⟩, ⟨some 20, .load false 1 (.t 19), none⟩, ⟨some 21, .len .slice (.t 20), none⟩, ⟨some 22, .call false 35 [(.t 18), (.t 21)], none⟩, ⟨some 0, .mov (.t 22), none⟩])
 (.seq (.seq (.reg [⟨some 23, .faddr 3 (.t 3), none⟩, ⟨some 24, .load false 1 (.t 23), none⟩, ⟨some 25, .len .slice (.t 24), none⟩, ⟨some 26, .mov (.k (.i .i64 0)), none⟩])
 (.blk 0 (.loop L180_1)))
 (.seq (.reg [⟨some 34, .mov (.t 0), none⟩, ⟨some 4, .mov (.t 34), none⟩])
 .ret))))))
/-- tidemark/filter.put -/
def af180 : AFunc := { n := 35, depth := 6, kl := [(3, [3, 8, 12, 15, 19, 23]), (6, [6])], res := [.tmp 4], body := B180 }

def B181 : AC := (.seq (.reg [⟨some 1, .lbox (.t 0) [1, 5, 10, 17, 24, 26], none⟩, ⟨some 2, .mov (.k (.i .i64 0)), none⟩, ⟨some 3, .mov (.k (.i .i64 0)), none⟩])
 (.seq (.seq (.reg [⟨some 5, .faddr 2 (.t 1), none⟩, ⟨some 6, .load false 1 (.t 5), none⟩, ⟨some 7, .len .slice (.t 6), none⟩, ⟨some 4, .mov (.t 7), none⟩])
 (.seq (.reg [⟨some 8, .mov (.t 4), none⟩, ⟨some 9, .bin .gtr (.t 8) (.k (.i .i64 0)), none⟩])
 (.cond (.t 9)
 (.seq (.reg [⟨some 10, .faddr 2 (.t 1), none⟩, ⟨some 11, .load false 1 (.t 10), none⟩, ⟨some 12, .mov (.t 4), none⟩, ⟨some 13, .bin .sub (.t 12) (.k (.i .i64 1)), none⟩, ⟨some 14, .iaddr (.slice 3) (.t 11) (.t 13), none⟩, ⟨some 15, .faddr 0 (.t 14), none⟩, ⟨some 16, .load false 1 (.t 15), none⟩, ⟨some 17, .faddr 2 (.t 1), none⟩, ⟨some 18, .load false 1 (.t 17), none⟩, ⟨some 19, .mov (.t 4), none⟩, ⟨some 20, .bin .sub (.t 19) (.k (.i .i64 1)), none⟩, ⟨some 21, .iaddr (.slice 3) (.t 18) (.t 20), none⟩, ⟨some 22, .faddr 1 (.t 21), none⟩, ⟨some 23, .load false 1 (.t 22), none⟩, ⟨some 2, .mov (.t 16), none⟩, ⟨some 3, .mov (.t 23), none⟩])
 .ret)
 .skip)))
 (.seq (.reg [⟨some 24, .faddr 0 (.t 1), none⟩, ⟨some 25, .load false 1 (.t 24), none⟩, ⟨some 26, .faddr 1 (.t 1), none⟩, ⟨some 27, .load false 1 (.t 26), none⟩, ⟨some 2, .mov (.t 25), none⟩, ⟨some 3, .mov (.t 27), none⟩])
 .ret)))
/-- tidemark/rows.last -/
def af181 : AFunc := { n := 28, depth := 5, kl := [(1, [1, 5, 10, 17, 24, 26])], res := [.tmp 2, .tmp 3], body := B181 }

def B182 : AC := (.seq (.reg [⟨some 2, .mov (.k (.b false)), none⟩])
 (.seq (.reg [⟨some 3, .mov (.t 0), none⟩, ⟨some 4, .bin .lss (.t 3) (.k (.i .i64 0)), none⟩, ⟨some 5, .mov (.t 4), none⟩, ⟨some 6, .mov (.t 0), some (5, false)⟩,
 ⟨some 7, .bin .gtr (.t 6) (.k (.i .i64 1099511627776)), some (5, false)⟩,
 ⟨some 8, .pick (.t 5) (.k (.b true)) (.t 7), none⟩, ⟨some 2, .mov (.t 8), none⟩])
 .ret))
/-- tidemark/raft.within$1 -/
def af182 : AFunc := { n := 9, depth := 4, kl := [], res := [.tmp 2], body := B182 }

def B183 : AC := (.seq (.reg [⟨some 1, .lbox (.t 0) [1], none⟩, ⟨some 2, .mov (.k (.i .i64 0)), none⟩])
 (.seq (.seq (.reg [⟨some 6, .load true 2 (.t 1), none⟩, ⟨some 7, .call true 203 [(.t 6)], none⟩, ⟨some 5, .mov (.t 7), none⟩, ⟨some 8, .ext (.t 5) 0, none⟩, ⟨some 9, .ext (.t 5) 1, none⟩, ⟨some 3, .lalloc [(.i .i64 0), (.i .i64 0), (.i .i64 0), (.i .i64 0), (.i .i64 0)] [3], none⟩, ⟨none, .store 5 (.t 3) (.t 8), none⟩, ⟨some 4, .mov (.t 9), none⟩])
 (.seq (.reg [⟨some 10, .mov (.t 4), none⟩, ⟨some 11, .un .not (.t 10), none⟩])
 (.cond (.t 11)
 (.seq (.reg [⟨some 2, .mov (.k (.i .i64 110)), none⟩])
 .ret)
 .skip)))
 (.seq (.reg [⟨some 2, .mov (.k (.i .i64 0)), none⟩])
 .ret)))
/-- tidemark/quorum.Check -/
def af183 : AFunc := { n := 12, depth := 4, kl := [(1, [1]), (3, [3])], res := [.tmp 2], body := B183 }

def B184 : AC := (.seq (.reg [⟨some 4, .mov (.k (.b false)), none⟩])
 (.seq (.reg [⟨some 5, .mov (.t 0), none⟩, ⟨some 6, .mov (.t 1), none⟩, ⟨some 7, .bin .geq (.t 5) (.t 6), none⟩, ⟨some 8, .mov (.t 7), none⟩, ⟨some 9, .mov (.t 0), some (8, true)⟩,
 ⟨some 10, .bin .leq (.t 9) (.k (.i .i64 1099511627776)), some (8, true)⟩,
 ⟨some 11, .pick (.t 8) (.t 10) (.k (.b false)), none⟩, ⟨some 4, .mov (.t 11), none⟩])
 .ret))
/-- tidemark/rows.within -/
def af184 : AFunc := { n := 12, depth := 4, kl := [], res := [.tmp 4], body := B184 }

def L185_1 : AC := (.seq (.reg [⟨some 12, .bin .lss (.t 11) (.t 10), none⟩])
 (.seq (.cond (.t 12)
 .skip
 (.exit 0))
 (.seq (.blk 1 (.seq (.reg [⟨some 13, .iaddr (.slice 3) (.t 9) (.t 11), none⟩, ⟨some 14, .load true 3 (.t 13), none⟩, ⟨some 8, .lalloc [(.i .i64 0), (.i .i64 0), (.sl [] 0 .nil)] [8, 19, 26, 32, 40, 45, 47], none⟩, ⟨none, .store 3 (.t 8) (.t 14), none⟩])
 (.seq (.seq (.reg [⟨some 15, .mov (.t 0), none⟩, ⟨some 16, .call true 184 [(.t 15), (.k (.i .i64 0))], none⟩, ⟨some 17, .un .not (.t 16), none⟩, ⟨some 18, .mov (.t 17), none⟩, ⟨some 19, .faddr 0 (.t 8), some (18, false)⟩,
 ⟨some 20, .load false 1 (.t 19), some (18, false)⟩,
 ⟨some 21, .mov (.t 0), some (18, false)⟩,
 ⟨some 22, .bin .add (.t 21) (.k (.i .i64 1)), some (18, false)⟩,
 ⟨some 23, .bin .neq (.t 20) (.t 22), some (18, false)⟩,
 ⟨some 24, .pick (.t 18) (.k (.b true)) (.t 23), none⟩, ⟨some 25, .mov (.t 24), none⟩, ⟨some 26, .faddr 0 (.t 8), some (25, false)⟩,
 ⟨some 27, .load false 1 (.t 26), some (25, false)⟩,
 ⟨some 28, .call true 184 [(.t 27), (.k (.i .i64 1))], some (25, false)⟩,
 ⟨some 29, .un .not (.t 28), some (25, false)⟩,
 ⟨some 30, .pick (.t 25) (.k (.b true)) (.t 29), none⟩, ⟨some 31, .mov (.t 30), none⟩, ⟨some 32, .faddr 1 (.t 8), some (31, false)⟩,
 ⟨some 33, .load false 1 (.t 32), some (31, false)⟩,
 ⟨some 34, .mov (.t 1), some (31, false)⟩,
 ⟨some 35, .minmax true (.t 34) (.k (.i .i64 1)), some (31, false)⟩,
 ⟨some 36, .call true 184 [(.t 33), (.t 35)], some (31, false)⟩,
 ⟨some 37, .un .not (.t 36), some (31, false)⟩,
 ⟨some 38, .pick (.t 31) (.k (.b true)) (.t 37), none⟩, ⟨some 39, .mov (.t 38), none⟩, ⟨some 40, .faddr 2 (.t 8), some (39, false)⟩,
 ⟨some 41, .load false 1 (.t 40), some (39, false)⟩,
 ⟨some 42, .len .slice (.t 41), some (39, false)⟩,
 ⟨some 43, .bin .gtr (.t 42) (.k (.i .i64 8192)), some (39, false)⟩,
 ⟨some 44, .pick (.t 39) (.k (.b true)) (.t 43), none⟩])
 (.cond (.t 44)
 (.seq (.reg [⟨some 6, .mov (.k (.b false)), none⟩])
 .ret)
 .skip))
 (.reg [⟨some 45, .faddr 0 (.t 8), none⟩, ⟨some 46, .load false 1 (.t 45), none⟩, ⟨some 47, .faddr 1 (.t 8), none⟩, ⟨some 48, .load false 1 (.t 47), none⟩, ⟨some 0, .mov (.t 46), none⟩, ⟨some 1, .mov (.t 48), none⟩]))))
 (.reg [⟨some 49, .bin .add (.t 11) (.k (.i .i64 1)), none⟩, ⟨some 11, .mov (.t 49), none⟩]))))
def B185 : AC := (.seq (.reg [⟨some 6, .mov (.k (.b false)), none⟩])
 (.seq (.seq (.reg [⟨some 9, .mov (.t 2), none⟩, ⟨some 10, .len .slice (.t 9), none⟩, ⟨some 11, .mov (.k (.i .i64 0)), none⟩])
 (.blk 0 (.loop L185_1)))
 (.seq (.reg [⟨some 6, .mov (.k (.b true)), none⟩])
 .ret)))
/-- tidemark/rows.rise -/
def af185 : AFunc := { n := 50, depth := 6, kl := [(8, [8, 19, 26, 32, 40, 45, 47])], res := [.tmp 6], body := B185 }

def L186_1 : AC := (.seq (.reg [⟨some 9, .bin .lss (.t 8) (.t 7), none⟩])
 (.seq (.cond (.t 9)
 .skip
 (.exit 0))
 (.seq (.blk 1 (.seq (.reg [⟨some 10, .mov (.t 8), none⟩, ⟨some 5, .mov (.t 10), none⟩])
 (.seq (.reg [⟨some 11, .mov (.t 1), none⟩, ⟨some 12, .mov (.t 0), none⟩, ⟨some 13, .mov (.t 5), none⟩, ⟨some 14, .iaddr (.slice 1) (.t 12) (.t 13), none⟩, ⟨some 15, .load false 1 (.t 14), none⟩, ⟨some 16, .callv false (.t 11) [(.t 15)], none⟩])
 (.cond (.t 16)
 (.seq (.reg [⟨some 17, .mov (.t 5), none⟩, ⟨some 4, .mov (.t 17), none⟩])
 .ret)
 .skip))))
 (.reg [⟨some 18, .bin .add (.t 8) (.k (.i .i64 1)), none⟩, ⟨some 8, .mov (.t 18), none⟩]))))
def B186 : AC := (.seq (.reg [⟨some 4, .mov (.k (.i .i64 0)), none⟩])
 (.seq (.seq (.reg [⟨some 6, .mov (.t 0), none⟩, ⟨some 7, .len .slice (.t 6), none⟩, ⟨some 8, .mov (.k (.i .i64 0)), none⟩])
 (.blk 0 (.loop L186_1)))
 (.seq (.reg [⟨some 4, .mov (.k (.i .i64 (-1))), none⟩])
 .ret)))
/-- slices.IndexFunc[[]int,int] -/
def af186 : AFunc := { n := 19, depth := 5, kl := [], res := [.tmp 4], body := B186 }

def B187 : AC := (.seq (.reg [⟨some 1, .lbox (.t 0) [1, 4, 6], none⟩, ⟨some 2, .mov (.k (.sl [] 0 .nil)), none⟩])
 (.seq (.reg [⟨some 4, .faddr 0 (.t 1), none⟩, ⟨some 5, .load false 1 (.t 4), none⟩, ⟨some 6, .faddr 1 (.t 1), none⟩, ⟨some 7, .load false 1 (.t 6), none⟩, ⟨some 8, .bslice false 23 1 2 [(.sl [] 0 .nil)] [(0, (.t 5)), (1, (.t 7))], none⟩, ⟨some 9, .call false 172 [(.t 8)], none⟩, ⟨some 3, .mov (.t 9), none⟩])
 (.seq (.reg [⟨some 10, .mov (.t 3), none⟩, ⟨some 11, .call false 253 [(.t 10)], none⟩])
 (.seq (.reg [⟨some 12, .mov (.t 3), none⟩, ⟨some 13, .call false 254 [(.t 12)], none⟩, ⟨some 2, .mov (.t 13), none⟩])
 .ret))))
/-- tidemark/quorum.All -/
def af187 : AFunc := { n := 14, depth := 4, kl := [(1, [1, 4, 6])], res := [.tmp 2], body := B187 }

def L189_1 : AC := (.seq (.reg [⟨some 21, .bin .lss (.t 20) (.t 19), none⟩])
 (.seq (.cond (.t 21)
 .skip
 (.exit 0))
 (.seq (.blk 1 (.seq (.reg [⟨some 22, .iaddr (.slice 1) (.t 18) (.t 20), none⟩, ⟨some 23, .load false 1 (.t 22), none⟩, ⟨some 9, .mov (.t 23), none⟩])
 (.seq (.reg [⟨some 24, .mov (.t 9), none⟩, ⟨some 25, .mov (.t 0), none⟩, ⟨some 26, .nilck (.t 25), none⟩, ⟨some 27, .faddr 0 (.t 26), none⟩, ⟨some 28, .faddr 0 (.t 27), none⟩, ⟨some 29, .load false 1 (.t 28), none⟩, ⟨some 30, .bin .neq (.t 24) (.t 29), none⟩, ⟨some 31, .mov (.t 30), none⟩, ⟨some 32, .mov (.t 0), some (31, true)⟩,
 ⟨some 33, .call false 118 [(.t 32)], some (31, true)⟩,
 ⟨some 34, .mov (.t 9), some (31, true)⟩,
 ⟨some 35, .call true 117 [(.t 33), (.t 34)], some (31, true)⟩,
 ⟨some 36, .pick (.t 31) (.t 35) (.k (.b false)), none⟩])
 (.cond (.t 36)
 (.reg [⟨some 37, .mov (.t 0), none⟩, ⟨some 38, .mov (.t 1), none⟩, ⟨some 39, .mov (.t 9), none⟩, ⟨some 40, .mov (.t 2), none⟩, ⟨some 41, .mov (.t 6), none⟩, ⟨some 42, .mov (.t 7), none⟩, ⟨some 43, .build [(.i .i64 0), (.i .i64 0), (.i .i64 0), (.i .i64 0), (.i .i64 0), (.i .i64 0), (.i .i64 0), (.i .i64 0), (.b false), (.sl [] 0 .nil), (.i .i64 0), (.i .i64 0), (.sl [] 0 .nil), (.sl [] 0 .nil), (.sl [] 0 .nil), (.i .i64 0), (.b false)] [(0, 1, (.t 38)), (2, 1, (.t 39)), (3, 1, (.t 40)), (4, 1, (.t 41)), (5, 1, (.t 42))], none⟩, ⟨some 44, .call false 129 [(.t 37), (.t 43)], none⟩])
 .skip))))
 (.reg [⟨some 45, .bin .add (.t 20) (.k (.i .i64 1)), none⟩, ⟨some 20, .mov (.t 45), none⟩]))))
def B189 : AC := (.seq (.reg [⟨some 11, .mov (.t 0), none⟩, ⟨some 12, .call false 122 [(.t 11)], none⟩, ⟨some 13, .call false 95 [(.t 12)], none⟩, ⟨some 10, .mov (.t 13), none⟩, ⟨some 14, .ext (.t 10) 0, none⟩, ⟨some 15, .ext (.t 10) 1, none⟩, ⟨some 6, .mov (.t 14), none⟩, ⟨some 7, .mov (.t 15), none⟩])
 (.seq (.reg [⟨some 16, .mov (.t 0), none⟩, ⟨some 17, .call false 118 [(.t 16)], none⟩, ⟨some 18, .call true 187 [(.t 17)], none⟩, ⟨some 19, .len .slice (.t 18), none⟩, ⟨some 20, .mov (.k (.i .i64 0)), none⟩])
 (.blk 0 (.loop L189_1))))
/-- (*tidemark/raft.work).canvass -/
def af189 : AFunc := { n := 46, depth := 6, kl := [], res := [], body := B189 }

def B190 : AC := (.blk 0 (.seq (.regd [(⟨some 3, .mov (.t 0), none⟩, []),
      (⟨some 4, .call false 118 [(.t 3)], none⟩, []),
      (⟨some 5, .mov (.t 0), none⟩, [0, 1]),
      (⟨some 6, .nilck (.t 5), none⟩, [0, 1]),
      (⟨some 7, .faddr 0 (.t 6), none⟩, [0, 1]),
      (⟨some 8, .faddr 12 (.t 7), none⟩, [0, 1]),
      (⟨some 9, .load false 1 (.t 8), none⟩, [0, 1]),
      (⟨some 10, .call true 256 [(.t 4), (.t 9)], none⟩, []),
      (⟨some 11, .un .not (.t 10), none⟩, []),
      (⟨some 2, .mov (.t 11), none⟩, [])])
 (.cond (.t 2)
 .skip
 (.seq (.reg [⟨some 13, .mov (.t 0), none⟩, ⟨some 14, .nilck (.t 13), none⟩, ⟨some 15, .faddr 0 (.t 14), none⟩, ⟨some 16, .faddr 3 (.t 15), none⟩, ⟨some 17, .load false 1 (.t 16), none⟩, ⟨some 18, .bin .eql (.t 17) (.k (.i .i64 1)), none⟩, ⟨some 12, .mov (.t 18), none⟩])
 (.cond (.t 12)
 (.reg [⟨some 19, .mov (.t 0), none⟩, ⟨some 20, .call false 119 [(.t 19)], none⟩])
 (.seq (.reg [⟨some 22, .mov (.t 0), none⟩, ⟨some 23, .nilck (.t 22), none⟩, ⟨some 24, .faddr 0 (.t 23), none⟩, ⟨some 25, .faddr 3 (.t 24), none⟩, ⟨some 26, .load false 1 (.t 25), none⟩, ⟨some 27, .bin .eql (.t 26) (.k (.i .i64 2)), none⟩, ⟨some 21, .mov (.t 27), none⟩])
 (.cond (.t 21)
 (.reg [⟨some 28, .mov (.t 0), none⟩, ⟨some 29, .call false 257 [(.t 28)], none⟩])
 .skip)))))))
/-- (*tidemark/raft.work).count -/
def af190 : AFunc := { n := 30, depth := 5, kl := [], res := [], body := B190 }

def B192 : AC := (.seq (.reg [⟨some 4, .mov (.k (.b false)), none⟩])
 (.seq (.reg [⟨some 5, .mov (.t 0), none⟩, ⟨some 6, .mov (.t 1), none⟩, ⟨some 7, .call true 258 [(.t 5), (.t 6)], none⟩, ⟨some 8, .bin .geq (.t 7) (.k (.i .i64 0)), none⟩, ⟨some 4, .mov (.t 8), none⟩])
 .ret))
/-- slices.Contains[[]int,int] -/
def af192 : AFunc := { n := 9, depth := 4, kl := [], res := [.tmp 4], body := B192 }

def B193 : AC := (.seq (.reg [⟨some 3, .lbox (.t 1) [3], none⟩])
 (.seq (.reg [⟨some 4, .load true 2 (.t 3), none⟩, ⟨some 5, .mov (.t 0), none⟩, ⟨some 6, .nilck (.t 5), none⟩, ⟨some 7, .faddr 0 (.t 6), none⟩, ⟨some 8, .faddr 1 (.t 7), none⟩, ⟨some 9, .load true 2 (.t 8), none⟩, ⟨some 10, .eq true (.struct [(0, 1, false, .int), (1, 1, false, .int)]) (.t 4) (.t 9), none⟩])
 (.cond (.t 10)
 (.reg [⟨some 11, .mov (.t 0), none⟩, ⟨some 12, .mov (.t 0), none⟩, ⟨some 13, .load true 2 (.t 3), none⟩, ⟨some 14, .nilck (.t 11), none⟩, ⟨some 15, .faddr 0 (.t 14), none⟩, ⟨some 16, .faddr 1 (.t 15), none⟩, ⟨none, .store 2 (.t 16) (.t 13), none⟩, ⟨some 17, .nilck (.t 12), none⟩, ⟨some 18, .faddr 43 (.t 17), none⟩, ⟨some 19, .faddr 1 (.t 18), none⟩, ⟨none, .store 1 (.t 19) (.k (.b true)), none⟩])
 .skip)))
/-- (*tidemark/raft.work).keep -/
def af193 : AFunc := { n := 20, depth := 5, kl := [(3, [3])], res := [], body := B193 }

def B199 : AC := (.seq (.reg [⟨some 2, .lalloc [(.i .i64 0), (.s []), (.s []), (.sl [] 0 .nil)] [2], none⟩, ⟨some 3, .mov (.k (.b false)), none⟩])
 (.seq (.reg [⟨some 5, .mov (.t 0), none⟩, ⟨some 6, .call false 262 [(.t 5), (.k (.i .i64 1))], none⟩, ⟨some 4, .lalloc [(.i .i64 0), (.s []), (.s []), (.sl [] 0 .nil)] [4], none⟩, ⟨none, .store 4 (.t 4) (.t 6), none⟩])
 (.seq (.seq (.reg [⟨some 7, .mov (.t 0), none⟩, ⟨some 8, .call false 132 [(.t 7)], none⟩, ⟨some 9, .bin .neq (.t 8) (.k (.i .i64 0)), none⟩, ⟨some 10, .mov (.t 9), none⟩, ⟨some 11, .load true 4 (.t 4), some (10, false)⟩,
 ⟨some 12, .call true 179 [(.t 11)], some (10, false)⟩,
 ⟨some 13, .bin .neq (.t 12) (.k (.i .i64 0)), some (10, false)⟩,
 ⟨some 14, .pick (.t 10) (.k (.b true)) (.t 13), none⟩])
 (.cond (.t 14)
 (.seq (.reg [⟨some 15, .build [(.i .i64 0), (.s []), (.s []), (.sl [] 0 .nil)] [], none⟩, ⟨none, .store 4 (.t 2) (.t 15), none⟩, ⟨some 3, .mov (.k (.b false)), none⟩])
 .ret)
 .skip))
 (.seq (.reg [⟨some 16, .load true 4 (.t 4), none⟩, ⟨none, .store 4 (.t 2) (.t 16), none⟩, ⟨some 3, .mov (.k (.b true)), none⟩])
 .ret))))
/-- tidemark/filter.Take -/
def af199 : AFunc := { n := 17, depth := 5, kl := [(2, [2]), (4, [4])], res := [.cell 2 true 4, .tmp 3], body := B199 }

def L200_1 : AC := (.seq (.reg [⟨some 7, .bin .lss (.t 6) (.t 5), none⟩])
 (.seq (.cond (.t 7)
 .skip
 (.exit 0))
 (.seq (.blk 1 (.reg [⟨some 8, .mov (.t 3), none⟩, ⟨some 9, .mov (.t 0), none⟩, ⟨some 10, .call false 131 [(.t 9)], none⟩, ⟨some 11, .bslice false 3 1 1 [(.i .i64 0)] [(0, (.t 10))], none⟩, ⟨some 12, .app 3 1 (.t 8) (.t 11), none⟩, ⟨some 3, .mov (.t 12), none⟩]))
 (.reg [⟨some 13, .bin .add (.t 6) (.k (.i .i64 1)), none⟩, ⟨some 6, .mov (.t 13), none⟩]))))
def B200 : AC := (.seq (.reg [⟨some 2, .mov (.k (.sl [] 0 .nil)), none⟩])
 (.seq (.reg [⟨some 3, .mov (.k (.sl [] 0 .nil)), none⟩])
 (.seq (.seq (.reg [⟨some 4, .mov (.t 0), none⟩, ⟨some 5, .call false 133 [(.t 4), (.k (.i .i64 0)), (.k (.i .i64 5))], none⟩, ⟨some 6, .mov (.k (.i .i64 0)), none⟩])
 (.blk 0 (.loop L200_1)))
 (.seq (.reg [⟨some 14, .mov (.t 3), none⟩, ⟨some 2, .mov (.t 14), none⟩])
 .ret))))
/-- tidemark/machine.list -/
def af200 : AFunc := { n := 15, depth := 4, kl := [], res := [.tmp 2], body := B200 }

def B201 : AC := (.seq (.reg [⟨some 1, .lbox (.t 0) [1, 5, 9, 19, 21, 23, 25, 27, 29, 36, 40, 44, 49, 53, 55, 60, 65, 66, 71, 76, 77, 82, 83, 90, 92, 95, 100, 104, 109, 110, 112, 118, 126, 127], none⟩, ⟨some 2, .mov (.k (.i .i64 0)), none⟩])
 (.seq (.blk 0 (.seq (.reg [⟨some 5, .faddr 0 (.t 1), none⟩, ⟨some 6, .load false 1 (.t 5), none⟩, ⟨some 7, .bin .lss (.t 6) (.k (.i .i64 0)), none⟩, ⟨some 8, .mov (.t 7), none⟩, ⟨some 9, .faddr 0 (.t 1), some (8, false)⟩,
 ⟨some 10, .load false 1 (.t 9), some (8, false)⟩,
 ⟨some 11, .bin .gtr (.t 10) (.k (.i .i64 16)), some (8, false)⟩,
 ⟨some 12, .pick (.t 8) (.k (.b true)) (.t 11), none⟩, ⟨some 13, .mov (.t 12), none⟩, ⟨some 14, .load true 19 (.t 1), some (13, false)⟩,
 ⟨some 15, .call true 263 [(.t 14)], some (13, false)⟩,
 ⟨some 16, .un .not (.t 15), some (13, false)⟩,
 ⟨some 17, .pick (.t 13) (.k (.b true)) (.t 16), none⟩, ⟨some 18, .mov (.t 17), none⟩, ⟨some 19, .faddr 1 (.t 1), some (18, false)⟩,
 ⟨some 20, .load false 1 (.t 19), some (18, false)⟩,
 ⟨some 21, .faddr 2 (.t 1), some (18, false)⟩,
 ⟨some 22, .load false 1 (.t 21), some (18, false)⟩,
 ⟨some 23, .faddr 13 (.t 1), some (18, false)⟩,
 ⟨some 24, .load false 1 (.t 23), some (18, false)⟩,
 ⟨some 25, .faddr 14 (.t 1), some (18, false)⟩,
 ⟨some 26, .load false 1 (.t 25), some (18, false)⟩,
 ⟨some 27, .faddr 15 (.t 1), some (18, false)⟩,
 ⟨some 28, .load false 1 (.t 27), some (18, false)⟩,
 ⟨some 29, .faddr 16 (.t 1), some (18, false)⟩,
 ⟨some 30, .load false 1 (.t 29), some (18, false)⟩,
 ⟨some 31, .bslice false 3 1 6 [(.i .i64 0)] [(0, (.t 20)), (1, (.t 22)), (2, (.t 24)), (3, (.t 26)), (4, (.t 28)), (5, (.t 30))], some (18, false)⟩,
 ⟨some 32, .call true 264 [(.t 31)], some (18, false)⟩,
 ⟨some 33, .un .not (.t 32), some (18, false)⟩,
 ⟨some 34, .pick (.t 18) (.k (.b true)) (.t 33), none⟩, ⟨some 4, .mov (.t 34), none⟩])
 (.cond (.t 4)
 (.seq (.reg [⟨some 2, .mov (.k (.i .i64 100)), none⟩])
 .ret)
 (.seq (.reg [⟨some 36, .faddr 0 (.t 1), none⟩, ⟨some 37, .load false 1 (.t 36), none⟩, ⟨some 38, .call true 236 [(.t 37)], none⟩, ⟨some 39, .mov (.t 38), none⟩, ⟨some 40, .faddr 1 (.t 1), some (39, true)⟩,
 ⟨some 41, .load false 1 (.t 40), some (39, true)⟩,
 ⟨some 42, .bin .lss (.t 41) (.k (.i .i64 1)), some (39, true)⟩,
 ⟨some 43, .mov (.t 42), some (39, true)⟩,
 ⟨some 44, .faddr 2 (.t 1), some (43, false)⟩,
 ⟨some 45, .load false 1 (.t 44), some (43, false)⟩,
 ⟨some 46, .bin .lss (.t 45) (.k (.i .i64 1)), some (43, false)⟩,
 ⟨some 47, .pick (.t 43) (.k (.b true)) (.t 46), some (39, true)⟩,
 ⟨some 48, .pick (.t 39) (.t 47) (.k (.b false)), none⟩, ⟨some 35, .mov (.t 48), none⟩])
 (.cond (.t 35)
 (.seq (.reg [⟨some 2, .mov (.k (.i .i64 100)), none⟩])
 .ret)
 .skip)))))
 (.seq (.seq (.reg [⟨some 49, .faddr 0 (.t 1), none⟩, ⟨some 50, .load false 1 (.t 49), none⟩])
 (.blk 1 (.seq (.reg [⟨some 52, .bin .eql (.t 50) (.k (.i .i64 2)), none⟩, ⟨some 51, .mov (.t 52), none⟩])
 (.cond (.t 51)
 (.seq (.reg [⟨some 53, .faddr 3 (.t 1), none⟩, ⟨some 54, .load false 1 (.t 53), none⟩, ⟨some 55, .faddr 4 (.t 1), none⟩, ⟨some 56, .load false 1 (.t 55), none⟩, ⟨some 57, .call true 265 [(.t 54), (.t 56)], none⟩, ⟨some 2, .mov (.t 57), none⟩])
 .ret)
 (.seq (.reg [⟨some 59, .bin .eql (.t 50) (.k (.i .i64 4)), none⟩, ⟨some 58, .mov (.t 59), none⟩])
 (.cond (.t 58)
 (.seq (.reg [⟨some 60, .faddr 5 (.t 1), none⟩, ⟨some 61, .load true 4 (.t 60), none⟩, ⟨some 62, .call true 266 [(.t 61)], none⟩, ⟨some 2, .mov (.t 62), none⟩])
 .ret)
 (.seq (.reg [⟨some 64, .bin .eql (.t 50) (.k (.i .i64 5)), none⟩, ⟨some 63, .mov (.t 64), none⟩])
 (.cond (.t 63)
 (.seq (.reg [⟨some 65, .faddr 5 (.t 1), none⟩, ⟨some 66, .faddr 0 (.t 65), none⟩, ⟨some 67, .load false 1 (.t 66), none⟩, ⟨some 68, .call true 267 [(.t 67)], none⟩, ⟨some 2, .mov (.t 68), none⟩])
 .ret)
 (.seq (.reg [⟨some 70, .bin .eql (.t 50) (.k (.i .i64 6)), none⟩, ⟨some 69, .mov (.t 70), none⟩])
 (.cond (.t 69)
 (.seq (.reg [⟨some 71, .faddr 9 (.t 1), none⟩, ⟨some 72, .load true 4 (.t 71), none⟩, ⟨some 73, .call true 179 [(.t 72)], none⟩, ⟨some 2, .mov (.t 73), none⟩])
 .ret)
 (.seq (.reg [⟨some 75, .bin .eql (.t 50) (.k (.i .i64 9)), none⟩, ⟨some 74, .mov (.t 75), none⟩])
 (.cond (.t 74)
 (.seq (.reg [⟨some 76, .faddr 17 (.t 1), none⟩, ⟨some 77, .faddr 0 (.t 76), none⟩, ⟨some 78, .load false 1 (.t 77), none⟩, ⟨some 79, .call true 268 [(.t 78)], none⟩, ⟨some 80, .un .not (.t 79), none⟩, ⟨some 81, .mov (.t 80), none⟩, ⟨some 82, .faddr 17 (.t 1), some (81, false)⟩,
 ⟨some 83, .faddr 1 (.t 82), some (81, false)⟩,
 ⟨some 84, .load false 1 (.t 83), some (81, false)⟩,
 ⟨some 85, .call true 268 [(.t 84)], some (81, false)⟩,
 ⟨some 86, .un .not (.t 85), some (81, false)⟩,
 ⟨some 87, .pick (.t 81) (.k (.b true)) (.t 86), none⟩])
 (.cond (.t 87)
 (.seq (.reg [⟨some 2, .mov (.k (.i .i64 110)), none⟩])
 .ret)
 .skip))
 (.seq (.reg [⟨some 89, .bin .eql (.t 50) (.k (.i .i64 10)), none⟩, ⟨some 88, .mov (.t 89), none⟩])
 (.cond (.t 88)
 (.seq (.seq (.reg [⟨some 90, .faddr 14 (.t 1), none⟩, ⟨some 91, .load false 1 (.t 90), none⟩, ⟨some 92, .faddr 15 (.t 1), none⟩, ⟨some 93, .load false 1 (.t 92), none⟩, ⟨some 94, .bin .leq (.t 91) (.t 93), none⟩])
 (.cond (.t 94)
 (.seq (.reg [⟨some 2, .mov (.k (.i .i64 100)), none⟩])
 .ret)
 .skip))
 (.seq (.reg [⟨some 95, .faddr 4 (.t 1), none⟩, ⟨some 96, .load false 1 (.t 95), none⟩, ⟨some 97, .call true 269 [(.t 96), (.k (.i .i64 32))], none⟩, ⟨some 2, .mov (.t 97), none⟩])
 .ret))
 (.seq (.reg [⟨some 99, .bin .eql (.t 50) (.k (.i .i64 11)), none⟩, ⟨some 98, .mov (.t 99), none⟩])
 (.cond (.t 98)
 (.seq (.seq (.reg [⟨some 100, .faddr 14 (.t 1), none⟩, ⟨some 101, .load false 1 (.t 100), none⟩, ⟨some 102, .bin .lss (.t 101) (.k (.i .i64 1)), none⟩])
 (.cond (.t 102)
 (.seq (.reg [⟨some 2, .mov (.k (.i .i64 100)), none⟩])
 .ret)
 .skip))
 (.seq (.regd [(⟨some 103, .call false 72 [], none⟩, []),
              (⟨some 104, .faddr 4 (.t 1), none⟩, [0]),
              (⟨some 105, .load false 1 (.t 104), none⟩, [0]),
              (⟨some 106, .call false 142 [(.t 103), (.t 105)], none⟩, []),
              (⟨some 2, .mov (.t 106), none⟩, [])])
 .ret))
 (.seq (.reg [⟨some 108, .bin .eql (.t 50) (.k (.i .i64 12)), none⟩, ⟨some 107, .mov (.t 108), none⟩])
 (.cond (.t 107)
 (.seq (.seq (.reg [⟨some 109, .faddr 5 (.t 1), none⟩, ⟨some 110, .faddr 0 (.t 109), none⟩, ⟨some 111, .load false 1 (.t 110), none⟩, ⟨some 112, .faddr 14 (.t 1), none⟩, ⟨some 113, .load false 1 (.t 112), none⟩, ⟨some 114, .call true 270 [(.t 111), (.t 113)], none⟩, ⟨some 3, .mov (.t 114), none⟩])
 (.seq (.reg [⟨some 115, .mov (.t 3), none⟩, ⟨some 116, .bin .neq (.t 115) (.k (.i .i64 0)), none⟩])
 (.cond (.t 116)
 (.seq (.reg [⟨some 117, .mov (.t 3), none⟩, ⟨some 2, .mov (.t 117), none⟩])
 .ret)
 .skip)))
 (.seq (.reg [⟨some 118, .faddr 9 (.t 1), none⟩, ⟨some 119, .load true 4 (.t 118), none⟩, ⟨some 120, .call true 179 [(.t 119)], none⟩, ⟨some 2, .mov (.t 120), none⟩])
 .ret))
 (.seq (.seq (.reg [⟨some 122, .bin .eql (.t 50) (.k (.i .i64 13)), none⟩, ⟨some 121, .mov (.t 122), none⟩])
 (.cond (.t 121)
 .skip
 (.seq (.reg [⟨some 123, .bin .eql (.t 50) (.k (.i .i64 14)), none⟩, ⟨some 121, .mov (.t 123), none⟩])
 (.cond (.t 121)
 .skip
 (.seq (.reg [⟨some 124, .bin .eql (.t 50) (.k (.i .i64 15)), none⟩, ⟨some 121, .mov (.t 124), none⟩])
 (.cond (.t 121)
 .skip
 (.reg [⟨some 125, .bin .eql (.t 50) (.k (.i .i64 16)), none⟩, ⟨some 121, .mov (.t 125), none⟩])))))))
 (.cond (.t 121)
 (.seq (.reg [⟨some 126, .faddr 5 (.t 1), none⟩, ⟨some 127, .faddr 0 (.t 126), none⟩, ⟨some 128, .load false 1 (.t 127), none⟩, ⟨some 129, .call true 270 [(.t 128), (.k (.i .i64 1))], none⟩, ⟨some 2, .mov (.t 129), none⟩])
 .ret)
 .skip))))))))))))))))))))
 (.seq (.reg [⟨some 2, .mov (.k (.i .i64 0)), none⟩])
 .ret))))
/-- tidemark/machine.Check -/
def af201 : AFunc := { n := 130, depth := 8, kl := [(1, [1, 5, 9, 19, 21, 23, 25, 27, 29, 36, 40, 44, 49, 53, 55, 60, 65, 66, 71, 76, 77, 82, 83, 90, 92, 95, 100, 104, 109, 110, 112, 118, 126, 127])], res := [.tmp 2], body := B201 }

def B202 : AC := (.seq (.reg [⟨some 4, .mov (.k (.b false)), none⟩])
 (.seq (.reg [⟨some 9, .mov (.t 0), none⟩, ⟨some 10, .call false 122 [(.t 9)], none⟩, ⟨some 11, .call false 95 [(.t 10)], none⟩, ⟨some 8, .mov (.t 11), none⟩, ⟨some 12, .ext (.t 8) 0, none⟩, ⟨some 13, .ext (.t 8) 1, none⟩, ⟨some 5, .mov (.t 12), none⟩, ⟨some 6, .mov (.t 13), none⟩])
 (.seq (.seq (.reg [⟨some 14, .mov (.t 5), none⟩, ⟨some 15, .bin .geq (.t 14) (.k (.i .i64 1099511627776)), none⟩, ⟨some 16, .mov (.t 15), none⟩, ⟨some 17, .mov (.t 0), some (16, false)⟩,
 ⟨some 18, .nilck (.t 17), some (16, false)⟩,
 ⟨some 19, .faddr 0 (.t 18), some (16, false)⟩,
 ⟨some 20, .faddr 1 (.t 19), some (16, false)⟩,
 ⟨some 21, .faddr 0 (.t 20), some (16, false)⟩,
 ⟨some 22, .load false 1 (.t 21), some (16, false)⟩,
 ⟨some 23, .bin .lss (.t 22) (.k (.i .i64 1)), some (16, false)⟩,
 ⟨some 24, .pick (.t 16) (.k (.b true)) (.t 23), none⟩])
 (.cond (.t 24)
 (.seq (.reg [⟨some 4, .mov (.k (.b false)), none⟩])
 .ret)
 .skip))
 (.seq (.regd [(⟨some 25, .mov (.t 5), none⟩, []),
     (⟨some 26, .bin .add (.t 25) (.k (.i .i64 1)), none⟩, []),
     (⟨some 27, .mov (.t 0), none⟩, [0, 1]),
     (⟨some 28, .nilck (.t 27), none⟩, [0, 1]),
     (⟨some 29, .faddr 0 (.t 28), none⟩, [0, 1]),
     (⟨some 30, .faddr 1 (.t 29), none⟩, [0, 1]),
     (⟨some 31, .faddr 0 (.t 30), none⟩, [0, 1]),
     (⟨some 32, .load false 1 (.t 31), none⟩, [0, 1]),
     (⟨some 33, .mov (.t 1), none⟩, [0, 1, 2, 3, 4, 5, 6, 7]),
     (⟨some 34, .call false 70 [(.t 33)], none⟩, [0, 1, 2, 3, 4, 5, 6, 7]),
     (⟨some 35, .build [(.i .i64 0), (.i .i64 0), (.sl [] 0 .nil)] [(0, 1, (.t 26)), (1, 1, (.t 32)), (2, 1, (.t 34))], none⟩, []),
     (⟨some 7, .lalloc [(.i .i64 0), (.i .i64 0), (.sl [] 0 .nil)] [7], none⟩, [0, 1, 2, 3, 4, 5, 6, 7, 8, 9, 10]),
     (⟨none, .store 3 (.t 7) (.t 35), none⟩, [])])
 (.seq (.regd [(⟨some 36, .mov (.t 0), none⟩, []),
     (⟨some 37, .mov (.t 0), none⟩, [0]),
     (⟨some 38, .nilck (.t 37), none⟩, [0]),
     (⟨some 39, .faddr 0 (.t 38), none⟩, [0]),
     (⟨some 40, .faddr 11 (.t 39), none⟩, [0]),
     (⟨some 41, .load false 1 (.t 40), none⟩, [0]),
     (⟨some 42, .call false 148 [(.t 41)], none⟩, [0]),
     (⟨some 43, .load true 3 (.t 7), none⟩, [0, 1, 2, 3, 4, 5, 6]),
     (⟨some 44, .bslice false 68 3 1 [(.i .i64 0), (.i .i64 0), (.sl [] 0 .nil)] [(0, (.t 43))], none⟩, [0, 1, 2, 3, 4, 5, 6]),
     (⟨some 45, .app 68 3 (.t 42) (.t 44), none⟩, [0]),
     (⟨some 46, .nilck (.t 36), none⟩, []),
     (⟨some 47, .faddr 0 (.t 46), none⟩, []),
     (⟨some 48, .faddr 11 (.t 47), none⟩, []),
     (⟨none, .store 1 (.t 48) (.t 45), none⟩, [])])
 (.seq (.regd [(⟨some 49, .mov (.t 0), none⟩, []),
     (⟨some 50, .mov (.t 0), none⟩, [0]),
     (⟨some 51, .nilck (.t 50), none⟩, [0]),
     (⟨some 52, .faddr 43 (.t 51), none⟩, [0]),
     (⟨some 53, .faddr 3 (.t 52), none⟩, [0]),
     (⟨some 54, .load false 1 (.t 53), none⟩, [0]),
     (⟨some 55, .load true 3 (.t 7), none⟩, [0, 1, 2, 3, 4, 5]),
     (⟨some 56, .bslice false 68 3 1 [(.i .i64 0), (.i .i64 0), (.sl [] 0 .nil)] [(0, (.t 55))], none⟩, [0, 1, 2, 3, 4, 5]),
     (⟨some 57, .call false 103 [(.t 56)], none⟩, [0, 1, 2, 3, 4, 5]),
     (⟨some 58, .app 68 3 (.t 54) (.t 57), none⟩, [0]),
     (⟨some 59, .nilck (.t 49), none⟩, []),
     (⟨some 60, .faddr 43 (.t 59), none⟩, []),
     (⟨some 61, .faddr 3 (.t 60), none⟩, []),
     (⟨none, .store 1 (.t 61) (.t 58), none⟩, [])])
 (.seq (.reg [⟨some 4, .mov (.k (.b true)), none⟩])
 .ret)))))))
/-- (*tidemark/raft.work).add -/
def af202 : AFunc := { n := 62, depth := 6, kl := [(7, [7])], res := [.tmp 4], body := B202 }

def L203_2 : AC := (.seq (.reg [⟨some 23, .bin .lss (.t 22) (.t 21), none⟩])
 (.seq (.cond (.t 23)
 .skip
 (.exit 2))
 (.seq (.blk 3 (.seq (.reg [⟨some 24, .iaddr (.slice 1) (.t 20) (.t 22), none⟩, ⟨some 25, .load false 1 (.t 24), none⟩, ⟨some 8, .mov (.t 25), none⟩])
 (.seq (.seq (.reg [⟨some 26, .mov (.t 8), none⟩, ⟨some 27, .bin .lss (.t 26) (.k (.i .i64 0)), none⟩, ⟨some 28, .mov (.t 27), none⟩, ⟨some 29, .mov (.t 8), some (28, false)⟩,
 ⟨some 30, .bin .geq (.t 29) (.k (.i .i64 5)), some (28, false)⟩,
 ⟨some 31, .pick (.t 28) (.k (.b true)) (.t 30), none⟩, ⟨some 32, .mov (.t 31), none⟩, ⟨some 33, .mov (.t 8), some (32, false)⟩,
 ⟨some 34, .iaddr (.arr 5 1) (.t 4) (.t 33), some (32, false)⟩,
 ⟨some 35, .load false 1 (.t 34), some (32, false)⟩,
 ⟨some 36, .bin .neq (.t 35) (.k (.i .i64 0)), some (32, false)⟩,
 ⟨some 37, .pick (.t 32) (.k (.b true)) (.t 36), none⟩])
 (.cond (.t 37)
 (.seq (.reg [⟨some 38, .build [(.i .i64 0), (.i .i64 0), (.i .i64 0), (.i .i64 0), (.i .i64 0)] [], none⟩, ⟨none, .store 5 (.t 2) (.t 38), none⟩, ⟨some 3, .mov (.k (.b false)), none⟩])
 .ret)
 .skip))
 (.reg [⟨some 39, .mov (.t 8), none⟩, ⟨some 40, .mov (.t 5), none⟩, ⟨some 41, .bin .sub (.k (.i .i64 2)) (.t 40), none⟩, ⟨some 42, .iaddr (.arr 5 1) (.t 4) (.t 39), none⟩, ⟨none, .store 1 (.t 42) (.t 41), none⟩]))))
 (.reg [⟨some 43, .bin .add (.t 22) (.k (.i .i64 1)), none⟩, ⟨some 22, .mov (.t 43), none⟩]))))
def L203_1 : AC := (.seq (.reg [⟨some 16, .bin .lss (.t 15) (.t 14), none⟩])
 (.seq (.cond (.t 16)
 .skip
 (.exit 0))
 (.seq (.blk 1 (.seq (.reg [⟨some 17, .mov (.t 15), none⟩, ⟨some 18, .iaddr (.slice 1) (.t 13) (.t 15), none⟩, ⟨some 19, .load false 1 (.t 18), none⟩, ⟨some 5, .mov (.t 17), none⟩, ⟨some 6, .mov (.t 19), none⟩])
 (.seq (.reg [⟨some 20, .mov (.t 6), none⟩, ⟨some 21, .len .slice (.t 20), none⟩, ⟨some 22, .mov (.k (.i .i64 0)), none⟩])
 (.blk 2 (.loop L203_2)))))
 (.reg [⟨some 44, .bin .add (.t 15) (.k (.i .i64 1)), none⟩, ⟨some 15, .mov (.t 44), none⟩]))))
def B203 : AC := (.seq (.reg [⟨some 1, .lbox (.t 0) [1, 9, 11, 46], none⟩, ⟨some 2, .lalloc [(.i .i64 0), (.i .i64 0), (.i .i64 0), (.i .i64 0), (.i .i64 0)] [2], none⟩, ⟨some 3, .mov (.k (.b false)), none⟩])
 (.seq (.reg [⟨some 4, .lalloc [(.i .i64 0), (.i .i64 0), (.i .i64 0), (.i .i64 0), (.i .i64 0)] [4, 34, 42], none⟩])
 (.seq (.seq (.reg [⟨some 9, .faddr 0 (.t 1), none⟩, ⟨some 10, .load false 1 (.t 9), none⟩, ⟨some 11, .faddr 1 (.t 1), none⟩, ⟨some 12, .load false 1 (.t 11), none⟩, ⟨some 13, .bslice false 23 1 2 [(.sl [] 0 .nil)] [(0, (.t 10)), (1, (.t 12))], none⟩, ⟨some 14, .len .slice (.t 13), none⟩, ⟨some 15, .mov (.k (.i .i64 0)), none⟩])
 (.blk 0 (.loop L203_1)))
 (.seq (.regd [(⟨some 45, .load true 5 (.t 4), none⟩, []),
     (⟨some 46, .faddr 0 (.t 1), none⟩, [0]),
     (⟨some 47, .load false 1 (.t 46), none⟩, [0]),
     (⟨some 48, .len .slice (.t 47), none⟩, [0]),
     (⟨some 49, .bin .gtr (.t 48) (.k (.i .i64 0)), none⟩, [0]),
     (⟨none, .store 5 (.t 2) (.t 45), none⟩, [1, 2, 3, 4]),
     (⟨some 3, .mov (.t 49), none⟩, [])])
 .ret))))
/-- tidemark/quorum.places -/
def af203 : AFunc := { n := 50, depth := 6, kl := [(1, [1, 9, 11, 46]), (2, [2]), (4, [4, 34, 42])], res := [.cell 2 true 5, .tmp 3], body := B203 }

def L204_1 : AC := (.seq (.reg [⟨some 12, .bin .lss (.t 11) (.t 10), none⟩])
 (.seq (.cond (.t 12)
 .skip
 (.exit 0))
 (.seq (.blk 1 (.seq (.reg [⟨some 13, .iaddr (.slice 1) (.t 9) (.t 11), none⟩, ⟨some 14, .load false 1 (.t 13), none⟩, ⟨some 7, .mov (.t 14), none⟩])
 (.seq (.reg [⟨some 15, .mov (.t 7), none⟩, ⟨some 16, .bin .geq (.t 15) (.k (.i .i64 0)), none⟩, ⟨some 17, .mov (.t 16), none⟩, ⟨some 18, .mov (.t 7), some (17, true)⟩,
 ⟨some 19, .bin .lss (.t 18) (.k (.i .i64 5)), some (17, true)⟩,
 ⟨some 20, .pick (.t 17) (.t 19) (.k (.b false)), none⟩])
 (.cond (.t 20)
 (.reg [⟨some 21, .mov (.t 5), none⟩, ⟨some 22, .mov (.t 7), none⟩, ⟨some 23, .iaddr (.arr 5 1) (.t 3) (.t 22), none⟩, ⟨some 24, .load false 1 (.t 23), none⟩, ⟨some 25, .bslice false 3 1 1 [(.i .i64 0)] [(0, (.t 24))], none⟩, ⟨some 26, .app 3 1 (.t 21) (.t 25), none⟩, ⟨some 5, .mov (.t 26), none⟩])
 .skip))))
 (.reg [⟨some 27, .bin .add (.t 11) (.k (.i .i64 1)), none⟩, ⟨some 11, .mov (.t 27), none⟩]))))
def B204 : AC := (.seq (.reg [⟨some 2, .lbox (.t 0) [2, 8, 34], none⟩, ⟨some 3, .lbox (.t 1) [3, 23], none⟩, ⟨some 4, .mov (.k (.i .i64 0)), none⟩])
 (.seq (.reg [⟨some 5, .mov (.k (.sl [] 0 .nil)), none⟩])
 (.seq (.seq (.reg [⟨some 8, .faddr 0 (.t 2), none⟩, ⟨some 9, .load false 1 (.t 8), none⟩, ⟨some 10, .len .slice (.t 9), none⟩, ⟨some 11, .mov (.k (.i .i64 0)), none⟩])
 (.blk 0 (.loop L204_1)))
 (.seq (.seq (.reg [⟨some 28, .mov (.t 5), none⟩, ⟨some 29, .len .slice (.t 28), none⟩, ⟨some 30, .bin .eql (.t 29) (.k (.i .i64 0)), none⟩, ⟨some 31, .mov (.t 30), none⟩, ⟨some 32, .mov (.t 5), some (31, false)⟩,
 ⟨some 33, .len .slice (.t 32), some (31, false)⟩,
 ⟨some 34, .faddr 0 (.t 2), some (31, false)⟩,
 ⟨some 35, .load false 1 (.t 34), some (31, false)⟩,
 ⟨some 36, .len .slice (.t 35), some (31, false)⟩,
 ⟨some 37, .bin .lss (.t 33) (.t 36), some (31, false)⟩,
 ⟨some 38, .pick (.t 31) (.k (.b true)) (.t 37), none⟩])
 (.cond (.t 38)
 (.seq (.reg [⟨some 4, .mov (.k (.i .i64 0)), none⟩])
 .ret)
 .skip))
 (.seq (.reg [⟨some 39, .mov (.t 5), none⟩, ⟨some 40, .call false 253 [(.t 39)], none⟩])
 (.seq (.reg [⟨some 41, .mov (.t 5), none⟩, ⟨some 42, .mov (.t 5), none⟩, ⟨some 43, .len .slice (.t 42), none⟩, ⟨some 44, .bin .sub (.t 43) (.k (.i .i64 1)), none⟩, ⟨some 45, .bin .quo (.t 44) (.k (.i .i64 2)), none⟩, ⟨some 46, .iaddr (.slice 1) (.t 41) (.t 45), none⟩, ⟨some 47, .load false 1 (.t 46), none⟩, ⟨some 4, .mov (.t 47), none⟩])
 .ret))))))
/-- tidemark/quorum.Agreed -/
def af204 : AFunc := { n := 48, depth := 6, kl := [(2, [2, 8, 34]), (3, [3, 23])], res := [.tmp 4], body := B204 }

def B205 : AC := (.seq (.reg [⟨some 2, .lbox (.t 0) [2, 7, 10, 13, 17, 24, 26, 35, 38], none⟩, ⟨some 4, .mov (.k (.i .i64 0)), none⟩, ⟨some 5, .mov (.k (.b false)), none⟩])
 (.seq (.seq (.reg [⟨some 6, .mov (.t 1), none⟩, ⟨some 7, .faddr 0 (.t 2), none⟩, ⟨some 8, .load false 1 (.t 7), none⟩, ⟨some 9, .bin .eql (.t 6) (.t 8), none⟩])
 (.cond (.t 9)
 (.seq (.reg [⟨some 10, .faddr 1 (.t 2), none⟩, ⟨some 11, .load false 1 (.t 10), none⟩, ⟨some 4, .mov (.t 11), none⟩, ⟨some 5, .mov (.k (.b true)), none⟩])
 .ret)
 .skip))
 (.seq (.seq (.reg [⟨some 12, .mov (.t 1), none⟩, ⟨some 13, .faddr 0 (.t 2), none⟩, ⟨some 14, .load false 1 (.t 13), none⟩, ⟨some 15, .bin .lss (.t 12) (.t 14), none⟩, ⟨some 16, .mov (.t 15), none⟩, ⟨some 17, .faddr 2 (.t 2), some (16, false)⟩,
 ⟨some 18, .load false 1 (.t 17), some (16, false)⟩,
 ⟨some 19, .len .slice (.t 18), some (16, false)⟩,
 ⟨some 20, .bin .eql (.t 19) (.k (.i .i64 0)), some (16, false)⟩,
 ⟨some 21, .pick (.t 16) (.k (.b true)) (.t 20), none⟩, ⟨some 22, .mov (.t 21), none⟩, ⟨some 23, .mov (.t 1), some (22, false)⟩,
 ⟨some 24, .faddr 2 (.t 2), some (22, false)⟩,
 ⟨some 25, .load false 1 (.t 24), some (22, false)⟩,
 ⟨some 26, .faddr 2 (.t 2), some (22, false)⟩,
 ⟨some 27, .load false 1 (.t 26), some (22, false)⟩,
 ⟨some 28, .len .slice (.t 27), some (22, false)⟩,
 ⟨some 29, .bin .sub (.t 28) (.k (.i .i64 1)), some (22, false)⟩,
 ⟨some 30, .iaddr (.slice 3) (.t 25) (.t 29), some (22, false)⟩,
 ⟨some 31, .faddr 0 (.t 30), some (22, false)⟩,
 ⟨some 32, .load false 1 (.t 31), some (22, false)⟩,
 ⟨some 33, .bin .gtr (.t 23) (.t 32), some (22, false)⟩,
 ⟨some 34, .pick (.t 22) (.k (.b true)) (.t 33), none⟩])
 (.cond (.t 34)
 (.seq (.reg [⟨some 4, .mov (.k (.i .i64 0)), none⟩, ⟨some 5, .mov (.k (.b false)), none⟩])
 .ret)
 .skip))
 (.seq (.reg [⟨some 35, .faddr 2 (.t 2), none⟩, ⟨some 36, .load false 1 (.t 35), none⟩, ⟨some 37, .mov (.t 1), none⟩, ⟨some 38, .faddr 0 (.t 2), none⟩, ⟨some 39, .load false 1 (.t 38), none⟩, ⟨some 40, .bin .sub (.t 37) (.t 39), none⟩, ⟨some 41, .bin .sub (.t 40) (.k (.i .i64 1)), none⟩, ⟨some 42, .iaddr (.slice 3) (.t 36) (.t 41), none⟩, ⟨some 43, .faddr 1 (.t 42), none⟩, ⟨some 44, .load false 1 (.t 43), none⟩, ⟨some 4, .mov (.t 44), none⟩, ⟨some 5, .mov (.k (.b true)), none⟩])
 .ret))))
/-- tidemark/rows.at -/
def af205 : AFunc := { n := 45, depth := 6, kl := [(2, [2, 7, 10, 13, 17, 24, 26, 35, 38])], res := [.tmp 4, .tmp 5], body := B205 }

def B207 : AC := (.seq (.reg [⟨some 2, .mov (.k (.b false)), none⟩])
 (.seq (.reg [⟨some 3, .mov (.t 0), none⟩, ⟨some 4, .eq false .ptr (.t 3) (.k .nilp), none⟩, ⟨some 5, .mov (.t 4), none⟩, ⟨some 6, .mov (.t 0), some (5, false)⟩,
 ⟨some 7, .nilck (.t 6), some (5, false)⟩,
 ⟨some 8, .faddr 3 (.t 7), some (5, false)⟩,
 ⟨some 9, .load false 1 (.t 8), some (5, false)⟩,
 ⟨some 10, .un .not (.t 9), some (5, false)⟩,
 ⟨some 11, .pick (.t 5) (.k (.b true)) (.t 10), none⟩, ⟨some 2, .mov (.t 11), none⟩])
 .ret))
/-- (*tidemark/wire.Reader).dead -/
def af207 : AFunc := { n := 12, depth := 4, kl := [], res := [.tmp 2], body := B207 }

def B208 : AC := (.seq (.reg [⟨some 4, .mov (.k (.sl [] 0 .nil)), none⟩])
 (.seq (.seq (.reg [⟨some 5, .mov (.t 0), none⟩, ⟨some 6, .nilck (.t 5), none⟩, ⟨some 7, .faddr 2 (.t 6), none⟩, ⟨some 8, .load false 1 (.t 7), none⟩, ⟨some 9, .bin .eql (.t 8) (.k (.i .i64 0)), none⟩, ⟨some 10, .mov (.t 9), none⟩, ⟨some 11, .mov (.t 1), some (10, true)⟩,
 ⟨some 12, .mov (.t 0), some (10, true)⟩,
 ⟨some 13, .nilck (.t 12), some (10, true)⟩,
 ⟨some 14, .faddr 0 (.t 13), some (10, true)⟩,
 ⟨some 15, .load false 1 (.t 14), some (10, true)⟩,
 ⟨some 16, .len .slice (.t 15), some (10, true)⟩,
 ⟨some 17, .mov (.t 0), some (10, true)⟩,
 ⟨some 18, .nilck (.t 17), some (10, true)⟩,
 ⟨some 19, .faddr 1 (.t 18), some (10, true)⟩,
 ⟨some 20, .load false 1 (.t 19), some (10, true)⟩,
 ⟨some 21, .bin .sub (.t 16) (.t 20), some (10, true)⟩,
 ⟨some 22, .bin .gtr (.t 11) (.t 21), some (10, true)⟩,
 ⟨some 23, .pick (.t 10) (.t 22) (.k (.b false)), none⟩])
 (.cond (.t 23)
 (.reg [⟨some 24, .mov (.t 0), none⟩, ⟨some 25, .call false 209 [(.t 24), (.k (.i .i64 2))], none⟩])
 .skip))
 (.seq (.seq (.reg [⟨some 26, .mov (.t 0), none⟩, ⟨some 27, .nilck (.t 26), none⟩, ⟨some 28, .faddr 2 (.t 27), none⟩, ⟨some 29, .load false 1 (.t 28), none⟩, ⟨some 30, .bin .neq (.t 29) (.k (.i .i64 0)), none⟩])
 (.cond (.t 30)
 (.seq (.reg [⟨some 4, .mov (.k (.sl [] 0 .nil)), none⟩])
 .ret)
 .skip))
 (.seq (.reg [⟨some 31, .mov (.t 0), none⟩, ⟨some 32, .nilck (.t 31), none⟩, ⟨some 33, .faddr 1 (.t 32), none⟩, ⟨some 34, .load false 1 (.t 33), none⟩, ⟨some 35, .mov (.t 1), none⟩, ⟨some 36, .bin .add (.t 34) (.t 35), none⟩, ⟨some 37, .nilck (.t 31), none⟩, ⟨some 38, .faddr 1 (.t 37), none⟩, ⟨none, .store 1 (.t 38) (.t 36), none⟩])
 (.seq (.reg [⟨some 39, .mov (.t 0), none⟩, ⟨some 40, .nilck (.t 39), none⟩, ⟨some 41, .faddr 0 (.t 40), none⟩, ⟨some 42, .load false 1 (.t 41), none⟩, ⟨some 43, .mov (.t 0), none⟩, ⟨some 44, .nilck (.t 43), none⟩, ⟨some 45, .faddr 1 (.t 44), none⟩, ⟨some 46, .load false 1 (.t 45), none⟩, ⟨some 47, .mov (.t 1), none⟩, ⟨some 48, .bin .sub (.t 46) (.t 47), none⟩, ⟨some 49, .mov (.t 0), none⟩, ⟨some 50, .nilck (.t 49), none⟩, ⟨some 51, .faddr 1 (.t 50), none⟩, ⟨some 52, .load false 1 (.t 51), none⟩, ⟨some 53, .slc (.slice 1) (.t 42) (some (.t 48)) (some (.t 52)) none, none⟩, ⟨some 4, .mov (.t 53), none⟩])
 .ret)))))
/-- (*tidemark/wire.Reader).bytes -/
def af208 : AFunc := { n := 54, depth := 6, kl := [], res := [.tmp 4], body := B208 }

def B209 : AC := (.seq (.reg [⟨some 4, .mov (.t 0), none⟩, ⟨some 5, .nilck (.t 4), none⟩, ⟨some 6, .faddr 2 (.t 5), none⟩, ⟨some 7, .load false 1 (.t 6), none⟩, ⟨some 8, .bin .eql (.t 7) (.k (.i .i64 0)), none⟩])
 (.cond (.t 8)
 (.reg [⟨some 9, .mov (.t 0), none⟩, ⟨some 10, .mov (.t 1), none⟩, ⟨some 11, .nilck (.t 9), none⟩, ⟨some 12, .faddr 2 (.t 11), none⟩, ⟨none, .store 1 (.t 12) (.t 10), none⟩])
 .skip))
/-- (*tidemark/wire.Reader).fail -/
def af209 : AFunc := { n := 13, depth := 4, kl := [], res := [], body := B209 }

def B217 : AC := (.seq (.reg [⟨some 2, .mov (.k (.i .i64 0)), none⟩])
 (.seq (.seq (.reg [⟨some 3, .mov (.t 0), none⟩, ⟨some 4, .call false 207 [(.t 3)], none⟩])
 (.cond (.t 4)
 (.seq (.reg [⟨some 2, .mov (.k (.i .i64 0)), none⟩])
 .ret)
 .skip))
 (.seq (.reg [⟨some 5, .mov (.t 0), none⟩, ⟨some 6, .nilck (.t 5), none⟩, ⟨some 7, .faddr 0 (.t 6), none⟩, ⟨some 8, .load false 1 (.t 7), none⟩, ⟨some 9, .len .slice (.t 8), none⟩, ⟨some 10, .mov (.t 0), none⟩, ⟨some 11, .nilck (.t 10), none⟩, ⟨some 12, .faddr 1 (.t 11), none⟩, ⟨some 13, .load false 1 (.t 12), none⟩, ⟨some 14, .bin .sub (.t 9) (.t 13), none⟩, ⟨some 2, .mov (.t 14), none⟩])
 .ret)))
/-- (*tidemark/wire.Reader).Left -/
def af217 : AFunc := { n := 15, depth := 4, kl := [], res := [.tmp 2], body := B217 }

def B219 : AC := (.seq (.reg [⟨some 1, .box 106 (.t 0), none⟩])
 (.seq (.reg [⟨some 3, .load false 1 (.t 1), none⟩, ⟨some 4, .call false 233 [(.t 3)], none⟩, ⟨some 2, .alloc 3 [(.i .i64 0)], none⟩, ⟨none, .store 1 (.t 2) (.t 4), none⟩])
 (.seq (.seq (.reg [⟨some 5, .load false 1 (.t 2), none⟩, ⟨some 6, .bin .lss (.t 5) (.k (.i .i64 0)), none⟩])
 (.cond (.t 6)
 (.seq (.reg [⟨some 7, .load false 1 (.t 1), none⟩, ⟨some 8, .nilck (.t 7), none⟩, ⟨some 9, .faddr 0 (.t 8), none⟩, ⟨none, .store 1 (.t 9) (.k (.sl [] 0 .nil)), none⟩])
 .ret)
 .skip))
  (.regd [(⟨some 10, .load false 1 (.t 1), none⟩, []),
    (⟨some 11, .load false 1 (.t 1), none⟩, [0]),
    (⟨some 12, .nilck (.t 11), none⟩, [0]),
    (⟨some 13, .faddr 0 (.t 12), none⟩, [0]),
    (⟨some 14, .load false 1 (.t 13), none⟩, [0]),
    (⟨some 15, .call false 231 [(.t 14)], none⟩, [0]),
    (⟨some 16, .mkfn 272 [] [(.t 1), (.t 2)], none⟩, [0, 1, 2, 3, 4, 5]),
    (⟨some 17, .call false 271 [(.t 15), (.t 16)], none⟩, [0]),
    (⟨some 18, .nilck (.t 10), none⟩, []),
    (⟨some 19, .faddr 0 (.t 18), none⟩, []),
    (⟨none, .store 1 (.t 19) (.t 17), none⟩, [])]))))
/-- (*tidemark/feed.Feed).trim -/
def af219 : AFunc := { n := 20, depth := 5, kl := [], res := [], body := B219 }

def B226 : AC := (.seq (.reg [⟨some 4, .mov (.k (.b false)), none⟩])
 (.seq (.reg [⟨some 5, .mov (.t 0), none⟩, ⟨some 6, .bin .geq (.t 5) (.k (.i .i64 0)), none⟩, ⟨some 7, .mov (.t 6), none⟩, ⟨some 8, .mov (.t 0), some (7, true)⟩,
 ⟨some 9, .mov (.t 1), some (7, true)⟩,
 ⟨some 10, .bin .leq (.t 8) (.t 9), some (7, true)⟩,
 ⟨some 11, .pick (.t 7) (.t 10) (.k (.b false)), none⟩, ⟨some 4, .mov (.t 11), none⟩])
 .ret))
/-- tidemark/save.good$1 -/
def af226 : AFunc := { n := 12, depth := 4, kl := [], res := [.tmp 4], body := B226 }

def B228 : AC := (.seq (.reg [⟨some 4, .mov (.k (.b false)), none⟩])
 (.seq (.regd [(⟨some 5, .mov (.t 1), none⟩, []),
     (⟨some 6, .mov (.t 0), none⟩, [0]),
     (⟨some 7, .nilck (.t 6), none⟩, [0]),
     (⟨some 8, .faddr 7 (.t 7), none⟩, [0]),
     (⟨some 9, .load false 1 (.t 8), none⟩, [0]),
     (⟨some 10, .mov (.t 0), none⟩, [0, 1, 2, 3, 4]),
     (⟨some 11, .call false 284 [(.t 10)], none⟩, [0, 1, 2, 3, 4]),
     (⟨some 12, .bin .sub (.t 9) (.t 11), none⟩, [0]),
     (⟨some 13, .bin .leq (.t 5) (.t 12), none⟩, []),
     (⟨some 4, .mov (.t 13), none⟩, [])])
 .ret))
/-- (*tidemark/disk.Disk).fits -/
def af228 : AFunc := { n := 14, depth := 4, kl := [], res := [.tmp 4], body := B228 }

def B229 : AC := (.seq (.reg [⟨some 3, .lbox (.t 1) [3], none⟩, ⟨some 4, .mov (.k (.i .i64 0)), none⟩])
 (.seq (.reg [⟨some 5, .mov (.t 0), none⟩, ⟨some 6, .mov (.t 0), none⟩, ⟨some 7, .nilck (.t 6), none⟩, ⟨some 8, .faddr 0 (.t 7), none⟩, ⟨some 9, .load true 3 (.t 8), none⟩, ⟨some 10, .load true 2 (.t 3), none⟩, ⟨some 11, .call true 285 [(.t 9), (.t 10)], none⟩, ⟨some 12, .nilck (.t 5), none⟩, ⟨some 13, .faddr 0 (.t 12), none⟩, ⟨none, .store 3 (.t 13) (.t 11), none⟩])
 (.seq (.regd [(⟨some 14, .mov (.t 0), none⟩, []),
     (⟨some 15, .mov (.t 0), none⟩, [0]),
     (⟨some 16, .nilck (.t 15), none⟩, [0]),
     (⟨some 17, .faddr 6 (.t 16), none⟩, [0]),
     (⟨some 18, .load false 1 (.t 17), none⟩, [0]),
     (⟨some 19, .mov (.t 0), none⟩, [0, 1, 2, 3, 4]),
     (⟨some 20, .nilck (.t 19), none⟩, [0, 1, 2, 3, 4]),
     (⟨some 21, .faddr 6 (.t 20), none⟩, [0, 1, 2, 3, 4]),
     (⟨some 22, .load false 1 (.t 21), none⟩, [0, 1, 2, 3, 4]),
     (⟨some 23, .len .slice (.t 22), none⟩, [0, 1, 2, 3, 4]),
     (⟨some 24, .mov (.t 0), none⟩, [0, 1, 2, 3, 4, 5, 6, 7, 8, 9]),
     (⟨some 25, .nilck (.t 24), none⟩, [0, 1, 2, 3, 4, 5, 6, 7, 8, 9]),
     (⟨some 26, .faddr 6 (.t 25), none⟩, [0, 1, 2, 3, 4, 5, 6, 7, 8, 9]),
     (⟨some 27, .load false 1 (.t 26), none⟩, [0, 1, 2, 3, 4, 5, 6, 7, 8, 9]),
     (⟨some 28, .len .slice (.t 27), none⟩, [0, 1, 2, 3, 4, 5, 6, 7, 8, 9]),
     (⟨some 29, .slc (.slice 2) (.t 18) none (some (.t 23)) (some (.t 28)), none⟩, [0]),
     (⟨some 30, .load true 2 (.t 3), none⟩, [0, 1, 2, 3, 4, 5, 6, 7, 8, 9, 10, 11, 12, 13, 14, 15]),
     (⟨some 31, .bslice false 335 2 1 [(.i .i64 0), (.sl [] 0 .nil)] [(0, (.t 30))], none⟩, [0, 1, 2, 3, 4, 5, 6, 7, 8, 9, 10, 11, 12, 13, 14, 15]),
     (⟨some 32, .app 335 2 (.t 29) (.t 31), none⟩, [0]),
     (⟨some 33, .nilck (.t 14), none⟩, []),
     (⟨some 34, .faddr 6 (.t 33), none⟩, []),
     (⟨none, .store 1 (.t 34) (.t 32), none⟩, [])])
 (.seq (.seq (.reg [⟨some 35, .mov (.t 0), none⟩, ⟨some 36, .call false 164 [(.t 35)], none⟩])
 (.cond (.t 36)
 (.seq (.reg [⟨some 4, .mov (.k (.i .i64 30)), none⟩])
 .ret)
 .skip))
 (.seq (.reg [⟨some 4, .mov (.k (.i .i64 0)), none⟩])
 .ret)))))
/-- (*tidemark/disk.Disk).do -/
def af229 : AFunc := { n := 37, depth := 6, kl := [(3, [3])], res := [.tmp 4], body := B229 }

def B230 : AC := (.seq (.reg [⟨some 2, .mov (.k (.sl [] 0 .nil)), none⟩, ⟨some 3, .mov (.k (.i .i64 0)), none⟩])
 (.seq (.seq (.reg [⟨some 6, .mov (.t 0), none⟩, ⟨some 7, .len .slice (.t 6), none⟩, ⟨some 8, .bin .gtr (.t 7) (.k (.i .i64 32768)), none⟩])
 (.cond (.t 8)
 (.seq (.reg [⟨some 2, .mov (.k (.sl [] 0 .nil)), none⟩, ⟨some 3, .mov (.k (.i .i64 4)), none⟩])
 .ret)
 .skip))
 (.seq (.reg [⟨some 9, .mov (.t 0), none⟩, ⟨some 10, .len .slice (.t 9), none⟩, ⟨some 11, .call false 35 [(.k (.sl [] 0 .nil)), (.t 10)], none⟩, ⟨some 12, .mov (.t 0), none⟩, ⟨some 13, .app 5 1 (.t 11) (.t 12), none⟩, ⟨some 4, .mov (.t 13), none⟩])
 (.seq (.reg [⟨some 14, .mov (.t 4), none⟩, ⟨some 15, .call true 286 [(.t 14)], none⟩, ⟨some 5, .mov (.t 15), none⟩])
 (.seq (.reg [⟨some 16, .mov (.t 4), none⟩, ⟨some 17, .mov (.t 5), none⟩, ⟨some 18, .conv (.int .u8) (.t 17), none⟩, ⟨some 19, .mov (.t 5), none⟩, ⟨some 20, .bin .shr (.t 19) (.k (.i .u64 8)), none⟩, ⟨some 21, .conv (.int .u8) (.t 20), none⟩, ⟨some 22, .mov (.t 5), none⟩, ⟨some 23, .bin .shr (.t 22) (.k (.i .u64 16)), none⟩, ⟨some 24, .conv (.int .u8) (.t 23), none⟩, ⟨some 25, .mov (.t 5), none⟩, ⟨some 26, .bin .shr (.t 25) (.k (.i .u64 24)), none⟩, ⟨some 27, .conv (.int .u8) (.t 26), none⟩, ⟨some 28, .bslice false 5 1 4 [(.i .u8 0)] [(0, (.t 18)), (1, (.t 21)), (2, (.t 24)), (3, (.t 27))], none⟩, ⟨some 29, .app 5 1 (.t 16) (.t 28), none⟩, ⟨some 2, .mov (.t 29), none⟩, ⟨some 3, .mov (.k (.i .i64 0)), none⟩])
 .ret)))))
/-- tidemark/wire.Frame -/
def af230 : AFunc := { n := 30, depth := 5, kl := [], res := [.tmp 2, .tmp 3], body := B230 }

def B231 : AC := (.seq (.reg [⟨some 2, .mov (.k (.sl [] 0 .nil)), none⟩])
 (.seq (.seq (.reg [⟨some 3, .mov (.t 0), none⟩, ⟨some 4, .eq false .slnil (.t 3) (.k (.sl [] 0 .nil)), none⟩])
 (.cond (.t 4)
 (.seq (.reg [⟨some 2, .mov (.k (.sl [] 0 .nil)), none⟩])
 .ret)
 .skip))
 (.seq (.reg [⟨some 5, .bslice false 206 6 0 [(.i .i64 0), (.s []), (.b false), (.s []), (.b false), (.s [])] [], none⟩, ⟨some 6, .mov (.t 0), none⟩, ⟨some 7, .appo 206 6 (.t 5) (.t 6), none⟩, ⟨some 2, .mov (.t 7), none⟩])
 .ret)))
/-- slices.Clone[[]tidemark/api.Event,tidemark/api.Event] -/
def af231 : AFunc := { n := 8, depth := 4, kl := [], res := [.tmp 2], body := B231 }

def L233_1 : AC := (.seq (.reg [⟨some 12, .bin .lss (.t 11) (.t 10), none⟩])
 (.seq (.cond (.t 12)
 .skip
 (.exit 0))
 (.seq (.blk 1 (.seq (.reg [⟨some 13, .mov (.t 11), none⟩, ⟨some 14, .iaddr (.slice 8) (.t 9) (.t 11), none⟩, ⟨some 15, .load true 8 (.t 14), none⟩, ⟨some 5, .lalloc [(.i .i64 0), (.i .i64 0), (.i .i64 0), (.i .i64 0), (.s []), (.s []), (.sl [] 0 .nil), (.b false)] [5, 16, 23], none⟩, ⟨some 4, .mov (.t 13), none⟩, ⟨none, .store 8 (.t 5) (.t 15), none⟩])
 (.seq (.reg [⟨some 16, .faddr 7 (.t 5), none⟩, ⟨some 17, .load false 1 (.t 16), none⟩, ⟨some 18, .un .not (.t 17), none⟩, ⟨some 19, .mov (.t 18), none⟩, ⟨some 20, .mov (.t 3), some (19, true)⟩,
 ⟨some 21, .bin .lss (.t 20) (.k (.i .i64 0)), some (19, true)⟩,
 ⟨some 22, .mov (.t 21), some (19, true)⟩,
 ⟨some 23, .faddr 2 (.t 5), some (22, false)⟩,
 ⟨some 24, .load false 1 (.t 23), some (22, false)⟩,
 ⟨some 25, .mov (.t 0), some (22, false)⟩,
 ⟨some 26, .nilck (.t 25), some (22, false)⟩,
 ⟨some 27, .faddr 1 (.t 26), some (22, false)⟩,
 ⟨some 28, .load false 1 (.t 27), some (22, false)⟩,
 ⟨some 29, .mov (.t 3), some (22, false)⟩,
 ⟨some 30, .iaddr (.slice 8) (.t 28) (.t 29), some (22, false)⟩,
 ⟨some 31, .faddr 2 (.t 30), some (22, false)⟩,
 ⟨some 32, .load false 1 (.t 31), some (22, false)⟩,
 ⟨some 33, .bin .lss (.t 24) (.t 32), some (22, false)⟩,
 ⟨some 34, .pick (.t 22) (.k (.b true)) (.t 33), some (19, true)⟩,
 ⟨some 35, .pick (.t 19) (.t 34) (.k (.b false)), none⟩])
 (.cond (.t 35)
 (.reg [⟨some 36, .mov (.t 4), none⟩, ⟨some 3, .mov (.t 36), none⟩])
 .skip))))
 (.reg [⟨some 37, .bin .add (.t 11) (.k (.i .i64 1)), none⟩, ⟨some 11, .mov (.t 37), none⟩]))))
def B233 : AC := (.seq (.reg [⟨some 2, .mov (.k (.i .i64 0)), none⟩])
 (.seq (.reg [⟨some 3, .mov (.k (.i .i64 (-1))), none⟩])
 (.seq (.seq (.reg [⟨some 6, .mov (.t 0), none⟩, ⟨some 7, .nilck (.t 6), none⟩, ⟨some 8, .faddr 1 (.t 7), none⟩, ⟨some 9, .load false 1 (.t 8), none⟩, ⟨some 10, .len .slice (.t 9), none⟩, ⟨some 11, .mov (.k (.i .i64 0)), none⟩])
 (.blk 0 (.loop L233_1)))
 (.seq (.reg [⟨some 38, .mov (.t 3), none⟩, ⟨some 2, .mov (.t 38), none⟩])
 .ret))))
/-- (*tidemark/feed.Feed).last -/
def af233 : AFunc := { n := 39, depth := 6, kl := [(5, [5, 16, 23])], res := [.tmp 2], body := B233 }

def B236 : AC := (.seq (.reg [⟨some 2, .mov (.k (.b false)), none⟩])
 (.seq (.reg [⟨some 3, .mov (.t 0), none⟩, ⟨some 4, .bin .geq (.t 3) (.k (.i .i64 2)), none⟩, ⟨some 5, .mov (.t 4), none⟩, ⟨some 6, .mov (.t 0), some (5, true)⟩,
 ⟨some 7, .bin .leq (.t 6) (.k (.i .i64 8)), some (5, true)⟩,
 ⟨some 8, .pick (.t 5) (.t 7) (.k (.b false)), none⟩, ⟨some 9, .mov (.t 8), none⟩, ⟨some 10, .mov (.t 0), some (9, false)⟩,
 ⟨some 11, .bin .geq (.t 10) (.k (.i .i64 12)), some (9, false)⟩,
 ⟨some 12, .mov (.t 11), some (9, false)⟩,
 ⟨some 13, .mov (.t 0), some (12, true)⟩,
 ⟨some 14, .bin .leq (.t 13) (.k (.i .i64 16)), some (12, true)⟩,
 ⟨some 15, .pick (.t 12) (.t 14) (.k (.b false)), some (9, false)⟩,
 ⟨some 16, .pick (.t 9) (.k (.b true)) (.t 15), none⟩, ⟨some 2, .mov (.t 16), none⟩])
 .ret))
/-- tidemark/machine.Counts -/
def af236 : AFunc := { n := 17, depth := 5, kl := [], res := [.tmp 2], body := B236 }

def B244 : AC := (.seq (.reg [⟨some 2, .mov (.k (.sl [] 0 .nil)), none⟩, ⟨some 3, .mov (.k (.i .i64 0)), none⟩, ⟨some 4, .mov (.k (.i .i64 0)), none⟩])
 (.seq (.reg [⟨some 10, .mov (.t 0), none⟩, ⟨some 11, .call false 130 [(.t 10)], none⟩, ⟨some 5, .mov (.t 11), none⟩])
 (.seq (.reg [⟨some 12, .mov (.t 5), none⟩, ⟨some 13, .call false 131 [(.t 12)], none⟩, ⟨some 6, .mov (.t 13), none⟩])
 (.seq (.reg [⟨some 14, .mov (.t 0), none⟩, ⟨some 15, .len .slice (.t 14), none⟩, ⟨some 16, .mov (.t 5), none⟩, ⟨some 17, .call false 217 [(.t 16)], none⟩, ⟨some 18, .bin .sub (.t 15) (.t 17), none⟩, ⟨some 7, .mov (.t 18), none⟩])
 (.seq (.blk 0 (.seq (.reg [⟨some 20, .mov (.t 5), none⟩, ⟨some 21, .call false 132 [(.t 20)], none⟩, ⟨some 22, .bin .neq (.t 21) (.k (.i .i64 0)), none⟩, ⟨some 19, .mov (.t 22), none⟩])
 (.cond (.t 19)
 (.seq (.reg [⟨some 23, .mov (.t 5), none⟩, ⟨some 24, .call false 132 [(.t 23)], none⟩, ⟨some 2, .mov (.k (.sl [] 0 .nil)), none⟩, ⟨some 3, .mov (.k (.i .i64 0)), none⟩, ⟨some 4, .mov (.t 24), none⟩])
 .ret)
 (.seq (.reg [⟨some 26, .mov (.t 6), none⟩, ⟨some 27, .bin .gtr (.t 26) (.k (.i .i64 32768)), none⟩, ⟨some 25, .mov (.t 27), none⟩])
 (.cond (.t 25)
 (.seq (.reg [⟨some 2, .mov (.k (.sl [] 0 .nil)), none⟩, ⟨some 3, .mov (.k (.i .i64 0)), none⟩, ⟨some 4, .mov (.k (.i .i64 4)), none⟩])
 .ret)
 (.seq (.reg [⟨some 29, .mov (.t 5), none⟩, ⟨some 30, .call false 217 [(.t 29)], none⟩, ⟨some 31, .mov (.t 6), none⟩, ⟨some 32, .bin .add (.t 31) (.k (.i .i64 4)), none⟩, ⟨some 33, .bin .lss (.t 30) (.t 32), none⟩, ⟨some 28, .mov (.t 33), none⟩])
 (.cond (.t 28)
 (.seq (.reg [⟨some 2, .mov (.k (.sl [] 0 .nil)), none⟩, ⟨some 3, .mov (.k (.i .i64 0)), none⟩, ⟨some 4, .mov (.k (.i .i64 2)), none⟩])
 .ret)
 .skip)))))))
 (.seq (.reg [⟨some 34, .mov (.t 7), none⟩, ⟨some 35, .mov (.t 6), none⟩, ⟨some 36, .bin .add (.t 34) (.t 35), none⟩, ⟨some 8, .mov (.t 36), none⟩])
 (.seq (.reg [⟨some 37, .mov (.t 0), none⟩, ⟨some 38, .mov (.t 8), none⟩, ⟨some 39, .iaddr (.slice 1) (.t 37) (.t 38), none⟩, ⟨some 40, .load false 1 (.t 39), none⟩, ⟨some 41, .conv (.int .u32) (.t 40), none⟩, ⟨some 42, .mov (.t 0), none⟩, ⟨some 43, .mov (.t 8), none⟩, ⟨some 44, .bin .add (.t 43) (.k (.i .i64 1)), none⟩, ⟨some 45, .iaddr (.slice 1) (.t 42) (.t 44), none⟩, ⟨some 46, .load false 1 (.t 45), none⟩, ⟨some 47, .conv (.int .u32) (.t 46), none⟩, ⟨some 48, .bin .shl (.t 47) (.k (.i .u64 8)), none⟩, ⟨some 49, .bin .or (.t 41) (.t 48), none⟩, ⟨some 50, .mov (.t 0), none⟩, ⟨some 51, .mov (.t 8), none⟩, ⟨some 52, .bin .add (.t 51) (.k (.i .i64 2)), none⟩, ⟨some 53, .iaddr (.slice 1) (.t 50) (.t 52), none⟩, ⟨some 54, .load false 1 (.t 53), none⟩, ⟨some 55, .conv (.int .u32) (.t 54), none⟩, ⟨some 56, .bin .shl (.t 55) (.k (.i .u64 16)), none⟩, ⟨some 57, .bin .or (.t 49) (.t 56), none⟩, ⟨some 58, .mov (.t 0), none⟩, ⟨some 59, .mov (.t 8), none⟩, ⟨some 60, .bin .add (.t 59) (.k (.i .i64 3)), none⟩, ⟨some 61, .iaddr (.slice 1) (.t 58) (.t 60), none⟩, ⟨some 62, .load false 1 (.t 61), none⟩, ⟨some 63, .conv (.int .u32) (.t 62), none⟩, ⟨some 64, .bin .shl (.t 63) (.k (.i .u64 24)), none⟩, ⟨some 65, .bin .or (.t 57) (.t 64), none⟩, ⟨some 9, .mov (.t 65), none⟩])
 (.seq (.seq (.reg [⟨some 66, .mov (.t 9), none⟩, ⟨some 67, .mov (.t 0), none⟩, ⟨some 68, .mov (.t 8), none⟩, ⟨some 69, .slc (.slice 1) (.t 67) none (some (.t 68)) none, none⟩, ⟨some 70, .call true 286 [(.t 69)], none⟩, ⟨some 71, .bin .neq (.t 66) (.t 70), none⟩])
 (.cond (.t 71)
 (.seq (.reg [⟨some 2, .mov (.k (.sl [] 0 .nil)), none⟩, ⟨some 3, .mov (.k (.i .i64 0)), none⟩, ⟨some 4, .mov (.k (.i .i64 10)), none⟩])
 .ret)
 .skip))
 (.seq (.reg [⟨some 72, .bslice false 5 1 0 [(.i .u8 0)] [], none⟩, ⟨some 73, .mov (.t 0), none⟩, ⟨some 74, .mov (.t 7), none⟩, ⟨some 75, .mov (.t 8), none⟩, ⟨some 76, .slc (.slice 1) (.t 73) (some (.t 74)) (some (.t 75)) none, none⟩, ⟨some 77, .app 5 1 (.t 72) (.t 76), none⟩, ⟨some 78, .mov (.t 8), none⟩, ⟨some 79, .bin .add (.t 78) (.k (.i .i64 4)), none⟩, ⟨some 2, .mov (.t 77), none⟩, ⟨some 3, .mov (.t 79), none⟩, ⟨some 4, .mov (.k (.i .i64 0)), none⟩])
 .ret)))))))))
/-- tidemark/wire.Next -/
def af244 : AFunc := { n := 80, depth := 7, kl := [], res := [.tmp 2, .tmp 3, .tmp 4], body := B244 }

def L245_1 : AC := (.seq (.reg [⟨some 14, .bin .lss (.t 13) (.t 12), none⟩])
 (.seq (.cond (.t 14)
 .skip
 (.exit 0))
 (.seq (.blk 1 (.seq (.reg [⟨some 15, .iaddr (.slice 1) (.t 11) (.t 13), none⟩, ⟨some 16, .load false 1 (.t 15), none⟩, ⟨some 6, .mov (.t 16), none⟩])
 (.reg [⟨some 17, .mov (.t 0), none⟩, ⟨some 18, .mov (.t 6), none⟩, ⟨some 19, .len .slice (.t 18), none⟩, ⟨some 20, .call false 35 [(.t 17), (.t 19)], none⟩, ⟨some 21, .mov (.t 6), none⟩, ⟨some 22, .call false 39 [(.t 20), (.t 21)], none⟩, ⟨some 0, .mov (.t 22), none⟩])))
 (.reg [⟨some 23, .bin .add (.t 13) (.k (.i .i64 1)), none⟩, ⟨some 13, .mov (.t 23), none⟩]))))
def B245 : AC := (.seq (.reg [⟨some 3, .lbox (.t 1) [3, 7, 9], none⟩, ⟨some 4, .mov (.k (.sl [] 0 .nil)), none⟩])
 (.seq (.seq (.reg [⟨some 7, .faddr 0 (.t 3), none⟩, ⟨some 8, .load false 1 (.t 7), none⟩, ⟨some 9, .faddr 1 (.t 3), none⟩, ⟨some 10, .load false 1 (.t 9), none⟩, ⟨some 11, .bslice false 23 1 2 [(.sl [] 0 .nil)] [(0, (.t 8)), (1, (.t 10))], none⟩, ⟨some 12, .len .slice (.t 11), none⟩, ⟨some 13, .mov (.k (.i .i64 0)), none⟩])
 (.blk 0 (.loop L245_1)))
 (.seq (.reg [⟨some 24, .mov (.t 0), none⟩, ⟨some 4, .mov (.t 24), none⟩])
 .ret)))
/-- tidemark/save.roster -/
def af245 : AFunc := { n := 25, depth := 5, kl := [(3, [3, 7, 9])], res := [.tmp 4], body := B245 }

def B252 : AC := (.seq (.reg [⟨some 1, .lbox (.t 0) [1], none⟩, ⟨some 2, .mov (.k .nili), none⟩, ⟨some 3, .mov (.k (.i .i64 0)), none⟩])
 (.seq (.reg [⟨some 4, .alloc 3 [(.i .i64 0)], none⟩, ⟨none, .store 1 (.t 4) (.k (.i .i64 0)), none⟩])
 (.seq (.reg [⟨some 8, .load true 4 (.t 1), none⟩, ⟨some 9, .call false 311 [(.t 8), (.k (.i .i64 1)), (.t 4)], none⟩, ⟨some 7, .mov (.t 9), none⟩, ⟨some 10, .ext (.t 7) 0, none⟩, ⟨some 11, .ext (.t 7) 1, none⟩, ⟨some 5, .mov (.t 10), none⟩, ⟨some 6, .mov (.t 11), none⟩])
 (.seq (.seq (.reg [⟨some 12, .mov (.t 6), none⟩, ⟨some 13, .bin .neq (.t 12) (.k (.i .i64 0)), none⟩])
 (.cond (.t 13)
 (.seq (.reg [⟨some 14, .mov (.t 6), none⟩, ⟨some 2, .mov (.k .nili), none⟩, ⟨some 3, .mov (.t 14), none⟩])
 .ret)
 .skip))
 (.seq (.reg [⟨some 15, .mov (.t 5), none⟩, ⟨some 16, .tas false [449, 451, 453, 454, 458, 460, 461] [9, 380] .nili false (.t 15), none⟩, ⟨some 2, .mov (.t 16), none⟩, ⟨some 3, .mov (.k (.i .i64 0)), none⟩])
 .ret)))))
/-- tidemark/filter.ready -/
def af252 : AFunc := { n := 17, depth := 5, kl := [(1, [1])], res := [.tmp 2, .tmp 3], body := B252 }

def B253 : AC := (.seq (.reg [⟨some 3, .mov (.t 0), none⟩, ⟨some 4, .len .slice (.t 3), none⟩, ⟨some 2, .mov (.t 4), none⟩])
 (.reg [⟨some 5, .mov (.t 0), none⟩, ⟨some 6, .mov (.t 2), none⟩, ⟨some 7, .mov (.t 2), none⟩, ⟨some 8, .conv (.int .u64) (.t 7), none⟩, ⟨some 9, .call true 310 [(.t 8)], none⟩, ⟨some 10, .call false 312 [(.t 5), (.k (.i .i64 0)), (.t 6), (.t 9)], none⟩]))
/-- slices.Sort[[]int,int] -/
def af253 : AFunc := { n := 11, depth := 4, kl := [], res := [], body := B253 }

def L254_2 : AC := (.seq (.seq (.reg [⟨some 29, .mov (.t 5), none⟩, ⟨some 30, .mov (.t 4), none⟩, ⟨some 31, .len .slice (.t 30), none⟩, ⟨some 32, .bin .lss (.t 29) (.t 31), none⟩])
 (.cond (.t 32)
 .skip
 (.exit 2)))
 (.seq (.blk 3 (.seq (.reg [⟨some 35, .mov (.t 4), none⟩, ⟨some 36, .mov (.t 5), none⟩, ⟨some 37, .iaddr (.slice 1) (.t 35) (.t 36), none⟩, ⟨some 38, .load false 1 (.t 37), none⟩, ⟨some 39, .mov (.t 4), none⟩, ⟨some 40, .mov (.t 5), none⟩, ⟨some 41, .bin .sub (.t 40) (.k (.i .i64 1)), none⟩, ⟨some 42, .iaddr (.slice 1) (.t 39) (.t 41), none⟩, ⟨some 43, .load false 1 (.t 42), none⟩, ⟨some 44, .bin .neq (.t 38) (.t 43), none⟩])
 (.cond (.t 44)
 (.seq (.reg [⟨some 45, .mov (.t 0), none⟩, ⟨some 46, .mov (.t 3), none⟩, ⟨some 47, .mov (.t 4), none⟩, ⟨some 48, .mov (.t 5), none⟩, ⟨some 49, .iaddr (.slice 1) (.t 47) (.t 48), none⟩, ⟨some 50, .load false 1 (.t 49), none⟩, ⟨some 51, .iaddr (.slice 1) (.t 45) (.t 46), none⟩, ⟨none, .store 1 (.t 51) (.t 50), none⟩])
 (.reg [⟨some 52, .mov (.t 3), none⟩, ⟨some 53, .bin .add (.t 52) (.k (.i .i64 1)), none⟩, ⟨some 3, .mov (.t 53), none⟩]))
 .skip)))
 (.reg [⟨some 33, .mov (.t 5), none⟩, ⟨some 34, .bin .add (.t 33) (.k (.i .i64 1)), none⟩, ⟨some 5, .mov (.t 34), none⟩])))
def L254_1 : AC := (.seq (.seq (.reg [⟨some 10, .mov (.t 3), none⟩, ⟨some 11, .mov (.t 0), none⟩, ⟨some 12, .len .slice (.t 11), none⟩, ⟨some 13, .bin .lss (.t 10) (.t 12), none⟩])
 (.cond (.t 13)
 .skip
 (.exit 0)))
 (.seq (.blk 1 (.seq (.reg [⟨some 16, .mov (.t 0), none⟩, ⟨some 17, .mov (.t 3), none⟩, ⟨some 18, .iaddr (.slice 1) (.t 16) (.t 17), none⟩, ⟨some 19, .load false 1 (.t 18), none⟩, ⟨some 20, .mov (.t 0), none⟩, ⟨some 21, .mov (.t 3), none⟩, ⟨some 22, .bin .sub (.t 21) (.k (.i .i64 1)), none⟩, ⟨some 23, .iaddr (.slice 1) (.t 20) (.t 22), none⟩, ⟨some 24, .load false 1 (.t 23), none⟩, ⟨some 25, .bin .eql (.t 19) (.t 24), none⟩])
 (.cond (.t 25)
 (.seq (.reg [⟨some 26, .mov (.t 0), none⟩, ⟨some 27, .mov (.t 3), none⟩, ⟨some 28, .slc (.slice 1) (.t 26) (some (.t 27)) none none, none⟩, ⟨some 4, .mov (.t 28), none⟩])
 (.seq (.seq (.reg [⟨some 5, .mov (.k (.i .i64 1)), none⟩])
 (.blk 2 (.loop L254_2)))
 (.seq (.reg [⟨some 54, .mov (.t 0), none⟩, ⟨some 55, .mov (.t 3), none⟩, ⟨some 56, .slc (.slice 1) (.t 54) (some (.t 55)) none none, none⟩, ⟨none, .bad, none⟩])
 (.seq (.reg [⟨some 57, .mov (.t 0), none⟩, ⟨some 58, .mov (.t 3), none⟩, ⟨some 59, .slc (.slice 1) (.t 57) none (some (.t 58)) none, none⟩, ⟨some 2, .mov (.t 59), none⟩])
 .ret))))
 .skip)))
 (.reg [⟨some 14, .mov (.t 3), none⟩, ⟨some 15, .bin .add (.t 14) (.k (.i .i64 1)), none⟩, ⟨some 3, .mov (.t 15), none⟩])))
def B254 : AC := (.seq (.reg [⟨some 2, .mov (.k (.sl [] 0 .nil)), none⟩])
 (.seq (.seq (.reg [⟨some 6, .mov (.t 0), none⟩, ⟨some 7, .len .slice (.t 6), none⟩, ⟨some 8, .bin .lss (.t 7) (.k (.i .i64 2)), none⟩])
 (.cond (.t 8)
 (.seq (.reg [⟨some 9, .mov (.t 0), none⟩, ⟨some 2, .mov (.t 9), none⟩])
 .ret)
 .skip))
 (.seq (.seq (.reg [⟨some 3, .mov (.k (.i .i64 1)), none⟩])
 (.blk 0 (.loop L254_1)))
 (.seq (.reg [⟨some 60, .mov (.t 0), none⟩, ⟨some 2, .mov (.t 60), none⟩])
 .ret))))
/-- slices.Compact[[]int,int] -/
def af254 : AFunc := { n := 61, depth := 6, kl := [], res := [.tmp 2], body := B254 }

def L256_1 : AC := (.seq (.reg [⟨some 12, .bin .lss (.t 11) (.t 10), none⟩])
 (.seq (.cond (.t 12)
 .skip
 (.exit 0))
 (.seq (.blk 1 (.seq (.reg [⟨some 13, .iaddr (.slice 1) (.t 9) (.t 11), none⟩, ⟨some 14, .load false 1 (.t 13), none⟩, ⟨some 7, .mov (.t 14), none⟩])
 (.seq (.reg [⟨some 15, .mov (.t 1), none⟩, ⟨some 16, .mov (.t 7), none⟩, ⟨some 17, .call true 192 [(.t 15), (.t 16)], none⟩])
 (.cond (.t 17)
 (.reg [⟨some 18, .mov (.t 5), none⟩, ⟨some 19, .bin .add (.t 18) (.k (.i .i64 1)), none⟩, ⟨some 5, .mov (.t 19), none⟩])
 .skip))))
 (.reg [⟨some 20, .bin .add (.t 11) (.k (.i .i64 1)), none⟩, ⟨some 11, .mov (.t 20), none⟩]))))
def B256 : AC := (.seq (.reg [⟨some 2, .lbox (.t 0) [2, 8, 21, 27], none⟩, ⟨some 4, .mov (.k (.b false)), none⟩])
 (.seq (.reg [⟨some 5, .mov (.k (.i .i64 0)), none⟩])
 (.seq (.seq (.reg [⟨some 8, .faddr 0 (.t 2), none⟩, ⟨some 9, .load false 1 (.t 8), none⟩, ⟨some 10, .len .slice (.t 9), none⟩, ⟨some 11, .mov (.k (.i .i64 0)), none⟩])
 (.blk 0 (.loop L256_1)))
 (.seq (.reg [⟨some 21, .faddr 0 (.t 2), none⟩, ⟨some 22, .load false 1 (.t 21), none⟩, ⟨some 23, .len .slice (.t 22), none⟩, ⟨some 24, .bin .gtr (.t 23) (.k (.i .i64 0)), none⟩, ⟨some 25, .mov (.t 24), none⟩, ⟨some 26, .mov (.t 5), some (25, true)⟩,
 ⟨some 27, .faddr 0 (.t 2), some (25, true)⟩,
 ⟨some 28, .load false 1 (.t 27), some (25, true)⟩,
 ⟨some 29, .len .slice (.t 28), some (25, true)⟩,
 ⟨some 30, .bin .quo (.t 29) (.k (.i .i64 2)), some (25, true)⟩,
 ⟨some 31, .bin .gtr (.t 26) (.t 30), some (25, true)⟩,
 ⟨some 32, .pick (.t 25) (.t 31) (.k (.b false)), none⟩, ⟨some 4, .mov (.t 32), none⟩])
 .ret))))
/-- tidemark/quorum.Majority -/
def af256 : AFunc := { n := 33, depth := 6, kl := [(2, [2, 8, 21, 27])], res := [.tmp 4], body := B256 }

def L257_1 : AC := (.seq (.reg [⟨some 67, .bin .lss (.t 66) (.k (.i .i64 5)), none⟩])
 (.seq (.cond (.t 67)
 .skip
 (.exit 0))
 (.seq (.blk 1 (.seq (.reg [⟨some 68, .mov (.t 66), none⟩, ⟨some 6, .mov (.t 68), none⟩])
 (.reg [⟨some 69, .mov (.t 0), none⟩, ⟨some 70, .mov (.t 6), none⟩, ⟨some 71, .mov (.t 2), none⟩, ⟨some 72, .bin .add (.t 71) (.k (.i .i64 1)), none⟩, ⟨some 73, .build [(.i .i64 0), (.i .i64 0), (.i .i64 0), (.i .i64 0)] [(0, 1, (.t 72))], none⟩, ⟨some 74, .nilck (.t 69), none⟩, ⟨some 75, .faddr 0 (.t 74), none⟩, ⟨some 76, .faddr 13 (.t 75), none⟩, ⟨some 77, .iaddr (.arr 5 4) (.t 76) (.t 70), none⟩, ⟨none, .store 4 (.t 77) (.t 73), none⟩])))
 (.reg [⟨some 78, .bin .add (.t 66) (.k (.i .i64 1)), none⟩, ⟨some 66, .mov (.t 78), none⟩]))))
def B257 : AC := (.seq (.reg [⟨some 8, .mov (.t 0), none⟩, ⟨some 9, .call false 122 [(.t 8)], none⟩, ⟨some 10, .call false 95 [(.t 9)], none⟩, ⟨some 7, .mov (.t 10), none⟩, ⟨some 11, .ext (.t 7) 0, none⟩, ⟨some 12, .ext (.t 7) 1, none⟩, ⟨some 2, .mov (.t 11), none⟩, ⟨some 3, .mov (.t 12), none⟩])
 (.seq (.reg [⟨some 14, .build [(.i .i64 0), (.i .i64 0), (.i .i64 0), (.sl [] 0 .nil), (.sl [] 0 .nil), (.s []), (.i .i64 0), (.s []), (.s []), (.i .i64 0), (.s []), (.s []), (.sl [] 0 .nil), (.i .i64 0), (.i .i64 0), (.i .i64 0), (.i .i64 0), (.sl [] 0 .nil), (.sl [] 0 .nil)] [], none⟩, ⟨some 15, .call false 125 [(.t 14)], none⟩, ⟨some 13, .mov (.t 15), none⟩, ⟨some 16, .ext (.t 13) 0, none⟩, ⟨some 17, .ext (.t 13) 1, none⟩, ⟨some 4, .mov (.t 16), none⟩, ⟨some 5, .mov (.t 17), none⟩])
 (.seq (.seq (.reg [⟨some 18, .mov (.t 0), none⟩, ⟨some 19, .mov (.t 4), none⟩, ⟨some 20, .call false 202 [(.t 18), (.t 19)], none⟩, ⟨some 21, .un .not (.t 20), none⟩])
 (.cond (.t 21)
 (.seq (.reg [⟨some 22, .mov (.t 0), none⟩, ⟨some 23, .mov (.t 0), none⟩, ⟨some 24, .nilck (.t 23), none⟩, ⟨some 25, .faddr 0 (.t 24), none⟩, ⟨some 26, .faddr 1 (.t 25), none⟩, ⟨some 27, .faddr 0 (.t 26), none⟩, ⟨some 28, .load false 1 (.t 27), none⟩, ⟨some 29, .call false 111 [(.t 22), (.t 28)], none⟩])
 .ret)
 .skip))
 (.seq (.reg [⟨some 30, .mov (.t 0), none⟩, ⟨some 31, .mov (.t 0), none⟩, ⟨some 32, .mov (.t 0), none⟩, ⟨some 33, .mov (.t 0), none⟩, ⟨some 34, .mov (.t 0), none⟩, ⟨some 35, .mov (.t 0), none⟩, ⟨some 36, .nilck (.t 35), none⟩, ⟨some 37, .faddr 0 (.t 36), none⟩, ⟨some 38, .faddr 0 (.t 37), none⟩, ⟨some 39, .load false 1 (.t 38), none⟩, ⟨some 40, .bin .add (.t 39) (.k (.i .i64 1)), none⟩, ⟨some 41, .nilck (.t 30), none⟩, ⟨some 42, .faddr 0 (.t 41), none⟩, ⟨some 43, .faddr 3 (.t 42), none⟩, ⟨none, .store 1 (.t 43) (.k (.i .i64 3)), none⟩, ⟨some 44, .nilck (.t 31), none⟩, ⟨some 45, .faddr 0 (.t 44), none⟩, ⟨some 46, .faddr 4 (.t 45), none⟩, ⟨none, .store 1 (.t 46) (.t 40), none⟩, ⟨some 47, .nilck (.t 32), none⟩, ⟨some 48, .faddr 0 (.t 47), none⟩, ⟨some 49, .faddr 12 (.t 48), none⟩, ⟨none, .store 1 (.t 49) (.k (.sl [] 0 .nil)), none⟩, ⟨some 50, .nilck (.t 33), none⟩, ⟨some 51, .faddr 0 (.t 50), none⟩, ⟨some 52, .faddr 37 (.t 51), none⟩, ⟨none, .store 1 (.t 52) (.k (.sl [] 0 .nil)), none⟩, ⟨some 53, .nilck (.t 34), none⟩, ⟨some 54, .faddr 0 (.t 53), none⟩, ⟨some 55, .faddr 33 (.t 54), none⟩, ⟨none, .store 1 (.t 55) (.k (.i .i64 0)), none⟩])
 (.seq (.reg [⟨some 56, .mov (.t 0), none⟩, ⟨some 57, .mov (.t 0), none⟩, ⟨some 58, .mov (.t 2), none⟩, ⟨some 59, .bin .add (.t 58) (.k (.i .i64 1)), none⟩, ⟨some 60, .nilck (.t 56), none⟩, ⟨some 61, .faddr 0 (.t 60), none⟩, ⟨some 62, .faddr 35 (.t 61), none⟩, ⟨none, .store 1 (.t 62) (.t 59), none⟩, ⟨some 63, .nilck (.t 57), none⟩, ⟨some 64, .faddr 0 (.t 63), none⟩, ⟨some 65, .faddr 36 (.t 64), none⟩, ⟨none, .store 1 (.t 65) (.k (.i .i64 0)), none⟩])
 (.seq (.seq (.reg [⟨some 66, .mov (.k (.i .i64 0)), none⟩])
 (.blk 0 (.loop L257_1)))
 (.seq (.reg [⟨some 79, .mov (.t 0), none⟩, ⟨some 80, .call false 105 [(.t 79)], none⟩])
 (.reg [⟨some 81, .mov (.t 0), none⟩, ⟨some 82, .call false 126 [(.t 81)], none⟩]))))))))
/-- (*tidemark/raft.work).win -/
def af257 : AFunc := { n := 83, depth := 7, kl := [], res := [], body := B257 }

def L258_1 : AC := (.seq (.reg [⟨some 9, .bin .lss (.t 8) (.t 7), none⟩])
 (.seq (.cond (.t 9)
 .skip
 (.exit 0))
 (.seq (.blk 1 (.seq (.reg [⟨some 10, .mov (.t 8), none⟩, ⟨some 5, .mov (.t 10), none⟩])
 (.seq (.reg [⟨some 11, .mov (.t 1), none⟩, ⟨some 12, .mov (.t 0), none⟩, ⟨some 13, .mov (.t 5), none⟩, ⟨some 14, .iaddr (.slice 1) (.t 12) (.t 13), none⟩, ⟨some 15, .load false 1 (.t 14), none⟩, ⟨some 16, .bin .eql (.t 11) (.t 15), none⟩])
 (.cond (.t 16)
 (.seq (.reg [⟨some 17, .mov (.t 5), none⟩, ⟨some 4, .mov (.t 17), none⟩])
 .ret)
 .skip))))
 (.reg [⟨some 18, .bin .add (.t 8) (.k (.i .i64 1)), none⟩, ⟨some 8, .mov (.t 18), none⟩]))))
def B258 : AC := (.seq (.reg [⟨some 4, .mov (.k (.i .i64 0)), none⟩])
 (.seq (.seq (.reg [⟨some 6, .mov (.t 0), none⟩, ⟨some 7, .len .slice (.t 6), none⟩, ⟨some 8, .mov (.k (.i .i64 0)), none⟩])
 (.blk 0 (.loop L258_1)))
 (.seq (.reg [⟨some 4, .mov (.k (.i .i64 (-1))), none⟩])
 .ret)))
/-- slices.Index[[]int,int] -/
def af258 : AFunc := { n := 19, depth := 5, kl := [], res := [.tmp 4], body := B258 }

def L262_1 : AC := (.seq (.seq (.reg [⟨some 20, .mov (.t 7), none⟩, ⟨some 21, .mov (.t 6), none⟩, ⟨some 22, .bin .lss (.t 20) (.t 21), none⟩, ⟨some 23, .mov (.t 22), none⟩, ⟨some 24, .mov (.t 0), some (23, true)⟩,
 ⟨some 25, .call false 132 [(.t 24)], some (23, true)⟩,
 ⟨some 26, .bin .eql (.t 25) (.k (.i .i64 0)), some (23, true)⟩,
 ⟨some 27, .pick (.t 23) (.t 26) (.k (.b false)), none⟩])
 (.cond (.t 27)
 .skip
 (.exit 0)))
 (.seq (.blk 1 (.regd [(⟨some 30, .faddr 3 (.t 5), none⟩, []),
      (⟨some 31, .load false 1 (.t 30), none⟩, []),
      (⟨some 32, .mov (.t 0), none⟩, [0, 1]),
      (⟨some 33, .mov (.t 1), none⟩, [0, 1, 2]),
      (⟨some 34, .bin .add (.t 33) (.k (.i .i64 1)), none⟩, [0, 1, 2]),
      (⟨some 35, .call false 262 [(.t 32), (.t 34)], none⟩, [0, 1]),
      (⟨some 36, .bslice false 210 4 1 [(.i .i64 0), (.s []), (.s []), (.sl [] 0 .nil)] [(0, (.t 35))], none⟩, [0, 1]),
      (⟨some 37, .app 210 4 (.t 31) (.t 36), none⟩, []),
      (⟨some 38, .faddr 3 (.t 5), none⟩, []),
      (⟨none, .store 1 (.t 38) (.t 37), none⟩, [])]))
 (.reg [⟨some 28, .mov (.t 7), none⟩, ⟨some 29, .bin .add (.t 28) (.k (.i .i64 1)), none⟩, ⟨some 7, .mov (.t 29), none⟩])))
def B262 : AC := (.seq (.reg [⟨some 4, .lalloc [(.i .i64 0), (.s []), (.s []), (.sl [] 0 .nil)] [4], none⟩])
 (.seq (.reg [⟨some 8, .mov (.t 0), none⟩, ⟨some 9, .call false 131 [(.t 8)], none⟩, ⟨some 10, .mov (.t 0), none⟩, ⟨some 11, .call false 134 [(.t 10), (.k (.i .i64 32))], none⟩, ⟨some 12, .mov (.t 0), none⟩, ⟨some 13, .call false 134 [(.t 12), (.k (.i .i64 192))], none⟩, ⟨some 14, .build [(.i .i64 0), (.s []), (.s []), (.sl [] 0 .nil)] [(0, 1, (.t 9)), (1, 1, (.t 11)), (2, 1, (.t 13))], none⟩, ⟨some 5, .lalloc [(.i .i64 0), (.s []), (.s []), (.sl [] 0 .nil)] [5, 30, 38], none⟩, ⟨none, .store 4 (.t 5) (.t 14), none⟩])
 (.seq (.reg [⟨some 15, .mov (.t 0), none⟩, ⟨some 16, .call false 133 [(.t 15), (.k (.i .i64 0)), (.k (.i .i64 24))], none⟩, ⟨some 6, .mov (.t 16), none⟩])
 (.seq (.seq (.reg [⟨some 17, .mov (.t 1), none⟩, ⟨some 18, .bin .gtr (.t 17) (.k (.i .i64 6)), none⟩])
 (.cond (.t 18)
 (.seq (.reg [⟨some 19, .load true 4 (.t 5), none⟩, ⟨none, .store 4 (.t 4) (.t 19), none⟩])
 .ret)
 .skip))
 (.seq (.seq (.reg [⟨some 7, .mov (.k (.i .i64 0)), none⟩])
 (.blk 0 (.loop L262_1)))
 (.seq (.reg [⟨some 39, .load true 4 (.t 5), none⟩, ⟨none, .store 4 (.t 4) (.t 39), none⟩])
 .ret))))))
/-- tidemark/filter.take -/
def af262 : AFunc := { n := 40, depth := 6, kl := [(4, [4]), (5, [5, 30, 38])], res := [.cell 4 true 4], body := B262 }

def B263 : AC := (.seq (.reg [⟨some 1, .lbox (.t 0) [1, 10, 13, 16, 18, 22, 26, 29, 34, 39, 40, 48, 50, 56, 61, 62, 65, 66, 72, 74, 76, 83, 85, 91, 92, 94, 102, 103, 109, 110, 112, 119, 120, 122, 124, 126, 128, 138, 144, 151, 158, 165, 172, 179, 183, 188, 195, 202, 203, 206, 207], none⟩, ⟨some 2, .mov (.k (.b false)), none⟩])
 (.seq (.reg [⟨some 10, .faddr 0 (.t 1), none⟩, ⟨some 11, .load false 1 (.t 10), none⟩, ⟨some 12, .build [(.i .i64 0), (.i .i64 0), (.i .i64 0), (.sl [] 0 .nil), (.sl [] 0 .nil), (.s []), (.i .i64 0), (.s []), (.s []), (.i .i64 0), (.s []), (.s []), (.sl [] 0 .nil), (.i .i64 0), (.i .i64 0), (.i .i64 0), (.i .i64 0), (.sl [] 0 .nil), (.sl [] 0 .nil)] [(0, 1, (.t 11))], none⟩, ⟨some 3, .lalloc [(.i .i64 0), (.i .i64 0), (.i .i64 0), (.sl [] 0 .nil), (.sl [] 0 .nil), (.s []), (.i .i64 0), (.s []), (.s []), (.i .i64 0), (.s []), (.s []), (.sl [] 0 .nil), (.i .i64 0), (.i .i64 0), (.i .i64 0), (.i .i64 0), (.sl [] 0 .nil), (.sl [] 0 .nil)] [3, 20, 21, 36, 42, 43, 52, 53, 58, 79, 80, 88, 96, 97, 98, 105, 106, 114, 115, 116, 130, 131, 132, 133, 134, 135, 136, 142, 149, 156, 163, 170, 177], none⟩, ⟨none, .store 19 (.t 3) (.t 12), none⟩])
 (.seq (.seq (.reg [⟨some 13, .faddr 0 (.t 1), none⟩, ⟨some 14, .load false 1 (.t 13), none⟩, ⟨some 15, .call true 236 [(.t 14)], none⟩])
 (.cond (.t 15)
    (.regd [(⟨some 16, .faddr 1 (.t 1), none⟩, []),
      (⟨some 17, .load false 1 (.t 16), none⟩, []),
      (⟨some 18, .faddr 2 (.t 1), none⟩, [0, 1]),
      (⟨some 19, .load false 1 (.t 18), none⟩, [0, 1]),
      (⟨some 20, .faddr 1 (.t 3), none⟩, [2, 3]),
      (⟨none, .store 1 (.t 20) (.t 17), none⟩, [2, 3]),
      (⟨some 21, .faddr 2 (.t 3), none⟩, []),
      (⟨none, .store 1 (.t 21) (.t 19), none⟩, [])])
 .skip))
 (.seq (.reg [⟨some 4, .mov (.k (.i .i64 0)), none⟩, ⟨some 5, .mov (.k (.i .i64 0)), none⟩, ⟨some 6, .mov (.k (.i .i64 0)), none⟩, ⟨some 7, .mov (.k (.b false)), none⟩])
 (.seq (.seq (.reg [⟨some 22, .faddr 0 (.t 1), none⟩, ⟨some 23, .load false 1 (.t 22), none⟩])
 (.blk 0 (.seq (.reg [⟨some 25, .bin .eql (.t 23) (.k (.i .i64 2)), none⟩, ⟨some 24, .mov (.t 25), none⟩])
 (.cond (.t 24)
 (.reg [⟨some 26, .faddr 3 (.t 1), none⟩, ⟨some 27, .load false 1 (.t 26), none⟩, ⟨some 28, .len .slice (.t 27), none⟩, ⟨some 29, .faddr 4 (.t 1), none⟩, ⟨some 30, .load false 1 (.t 29), none⟩, ⟨some 31, .len .slice (.t 30), none⟩, ⟨some 4, .mov (.t 28), none⟩, ⟨some 5, .mov (.t 31), none⟩])
 (.seq (.reg [⟨some 33, .bin .eql (.t 23) (.k (.i .i64 4)), none⟩, ⟨some 32, .mov (.t 33), none⟩])
 (.cond (.t 32)
 (.reg [⟨some 34, .faddr 5 (.t 1), none⟩, ⟨some 35, .load true 4 (.t 34), none⟩, ⟨some 36, .faddr 5 (.t 3), none⟩, ⟨none, .store 4 (.t 36) (.t 35), none⟩])
 (.seq (.reg [⟨some 38, .bin .eql (.t 23) (.k (.i .i64 5)), none⟩, ⟨some 37, .mov (.t 38), none⟩])
 (.cond (.t 37)
 (.reg [⟨some 39, .faddr 5 (.t 1), none⟩, ⟨some 40, .faddr 0 (.t 39), none⟩, ⟨some 41, .load false 1 (.t 40), none⟩, ⟨some 42, .faddr 5 (.t 3), none⟩, ⟨some 43, .faddr 0 (.t 42), none⟩, ⟨none, .store 1 (.t 43) (.t 41), none⟩])
 (.seq (.reg [⟨some 45, .bin .eql (.t 23) (.k (.i .i64 6)), none⟩, ⟨some 44, .mov (.t 45), none⟩])
 (.cond (.t 44)
 (.reg [⟨some 7, .mov (.k (.b true)), none⟩])
 (.seq (.reg [⟨some 47, .bin .eql (.t 23) (.k (.i .i64 7)), none⟩, ⟨some 46, .mov (.t 47), none⟩])
 (.cond (.t 46)
         (.regd [(⟨some 48, .faddr 13 (.t 1), none⟩, []),
           (⟨some 49, .load false 1 (.t 48), none⟩, []),
           (⟨some 50, .faddr 14 (.t 1), none⟩, [0, 1]),
           (⟨some 51, .load false 1 (.t 50), none⟩, [0, 1]),
           (⟨some 52, .faddr 13 (.t 3), none⟩, [2, 3]),
           (⟨none, .store 1 (.t 52) (.t 49), none⟩, [2, 3]),
           (⟨some 53, .faddr 14 (.t 3), none⟩, []),
           (⟨none, .store 1 (.t 53) (.t 51), none⟩, [])])
 (.seq (.reg [⟨some 55, .bin .eql (.t 23) (.k (.i .i64 8)), none⟩, ⟨some 54, .mov (.t 55), none⟩])
 (.cond (.t 54)
 (.reg [⟨some 56, .faddr 13 (.t 1), none⟩, ⟨some 57, .load false 1 (.t 56), none⟩, ⟨some 58, .faddr 13 (.t 3), none⟩, ⟨none, .store 1 (.t 58) (.t 57), none⟩])
 (.seq (.reg [⟨some 60, .bin .eql (.t 23) (.k (.i .i64 9)), none⟩, ⟨some 59, .mov (.t 60), none⟩])
 (.cond (.t 59)
 (.reg [⟨some 61, .faddr 17 (.t 1), none⟩, ⟨some 62, .faddr 0 (.t 61), none⟩, ⟨some 63, .load false 1 (.t 62), none⟩, ⟨some 64, .len .slice (.t 63), none⟩, ⟨some 65, .faddr 17 (.t 1), none⟩, ⟨some 66, .faddr 1 (.t 65), none⟩, ⟨some 67, .load false 1 (.t 66), none⟩, ⟨some 68, .len .slice (.t 67), none⟩, ⟨some 69, .bin .add (.t 64) (.t 68), none⟩, ⟨some 6, .mov (.t 69), none⟩])
 (.seq (.reg [⟨some 71, .bin .eql (.t 23) (.k (.i .i64 10)), none⟩, ⟨some 70, .mov (.t 71), none⟩])
 (.cond (.t 70)
            (.regd [(⟨some 72, .faddr 15 (.t 1), none⟩, []),
              (⟨some 73, .load false 1 (.t 72), none⟩, []),
              (⟨some 74, .faddr 14 (.t 1), none⟩, [0, 1]),
              (⟨some 75, .load false 1 (.t 74), none⟩, [0, 1]),
              (⟨some 76, .faddr 4 (.t 1), none⟩, [0, 1, 2, 3]),
              (⟨some 77, .load false 1 (.t 76), none⟩, [0, 1, 2, 3]),
              (⟨some 78, .len .slice (.t 77), none⟩, [0, 1, 2, 3]),
              (⟨some 79, .faddr 15 (.t 3), none⟩, [2, 3, 4, 5, 6]),
              (⟨none, .store 1 (.t 79) (.t 73), none⟩, [2, 3, 4, 5, 6]),
              (⟨some 80, .faddr 14 (.t 3), none⟩, [4, 5, 6]),
              (⟨none, .store 1 (.t 80) (.t 75), none⟩, [4, 5, 6]),
              (⟨some 5, .mov (.t 78), none⟩, [])])
 (.seq (.reg [⟨some 82, .bin .eql (.t 23) (.k (.i .i64 11)), none⟩, ⟨some 81, .mov (.t 82), none⟩])
 (.cond (.t 81)
             (.regd [(⟨some 83, .faddr 14 (.t 1), none⟩, []),
               (⟨some 84, .load false 1 (.t 83), none⟩, []),
               (⟨some 85, .faddr 4 (.t 1), none⟩, [0, 1]),
               (⟨some 86, .load false 1 (.t 85), none⟩, [0, 1]),
               (⟨some 87, .len .slice (.t 86), none⟩, [0, 1]),
               (⟨some 88, .faddr 14 (.t 3), none⟩, [2, 3, 4]),
               (⟨none, .store 1 (.t 88) (.t 84), none⟩, [2, 3, 4]),
               (⟨some 5, .mov (.t 87), none⟩, [])])
 (.seq (.reg [⟨some 90, .bin .eql (.t 23) (.k (.i .i64 12)), none⟩, ⟨some 89, .mov (.t 90), none⟩])
 (.cond (.t 89)
              (.regd [(⟨some 91, .faddr 5 (.t 1), none⟩, []),
                (⟨some 92, .faddr 0 (.t 91), none⟩, []),
                (⟨some 93, .load false 1 (.t 92), none⟩, []),
                (⟨some 94, .faddr 14 (.t 1), none⟩, [0, 1, 2]),
                (⟨some 95, .load false 1 (.t 94), none⟩, [0, 1, 2]),
                (⟨some 96, .faddr 5 (.t 3), none⟩, [3, 4]),
                (⟨some 97, .faddr 0 (.t 96), none⟩, [3, 4]),
                (⟨none, .store 1 (.t 97) (.t 93), none⟩, [3, 4]),
                (⟨some 98, .faddr 14 (.t 3), none⟩, []),
                (⟨none, .store 1 (.t 98) (.t 95), none⟩, []),
                (⟨some 7, .mov (.k (.b true)), none⟩, [])])
 (.seq (.seq (.reg [⟨some 100, .bin .eql (.t 23) (.k (.i .i64 13)), none⟩, ⟨some 99, .mov (.t 100), none⟩])
 (.cond (.t 99)
 .skip
 (.reg [⟨some 101, .bin .eql (.t 23) (.k (.i .i64 16)), none⟩, ⟨some 99, .mov (.t 101), none⟩])))
 (.cond (.t 99)
 (.reg [⟨some 102, .faddr 5 (.t 1), none⟩, ⟨some 103, .faddr 0 (.t 102), none⟩, ⟨some 104, .load false 1 (.t 103), none⟩, ⟨some 105, .faddr 5 (.t 3), none⟩, ⟨some 106, .faddr 0 (.t 105), none⟩, ⟨none, .store 1 (.t 106) (.t 104), none⟩])
 (.seq (.reg [⟨some 108, .bin .eql (.t 23) (.k (.i .i64 14)), none⟩, ⟨some 107, .mov (.t 108), none⟩])
 (.cond (.t 107)
                (.regd [(⟨some 109, .faddr 5 (.t 1), none⟩, []),
                  (⟨some 110, .faddr 0 (.t 109), none⟩, []),
                  (⟨some 111, .load false 1 (.t 110), none⟩, []),
                  (⟨some 112, .faddr 13 (.t 1), none⟩, [0, 1, 2]),
                  (⟨some 113, .load false 1 (.t 112), none⟩, [0, 1, 2]),
                  (⟨some 114, .faddr 5 (.t 3), none⟩, [3, 4]),
                  (⟨some 115, .faddr 0 (.t 114), none⟩, [3, 4]),
                  (⟨none, .store 1 (.t 115) (.t 111), none⟩, [3, 4]),
                  (⟨some 116, .faddr 13 (.t 3), none⟩, []),
                  (⟨none, .store 1 (.t 116) (.t 113), none⟩, [])])
 (.seq (.reg [⟨some 118, .bin .eql (.t 23) (.k (.i .i64 15)), none⟩, ⟨some 117, .mov (.t 118), none⟩])
 (.cond (.t 117)
                 (.regd [(⟨some 119, .faddr 5 (.t 1), none⟩, []),
                   (⟨some 120, .faddr 0 (.t 119), none⟩, []),
                   (⟨some 121, .load false 1 (.t 120), none⟩, []),
                   (⟨some 122, .faddr 13 (.t 1), none⟩, [0, 1, 2]),
                   (⟨some 123, .load false 1 (.t 122), none⟩, [0, 1, 2]),
                   (⟨some 124, .faddr 15 (.t 1), none⟩, [0, 1, 2, 3, 4]),
                   (⟨some 125, .load false 1 (.t 124), none⟩, [0, 1, 2, 3, 4]),
                   (⟨some 126, .faddr 16 (.t 1), none⟩, [0, 1, 2, 3, 4, 5, 6]),
                   (⟨some 127, .load false 1 (.t 126), none⟩, [0, 1, 2, 3, 4, 5, 6]),
                   (⟨some 128, .faddr 14 (.t 1), none⟩, [0, 1, 2, 3, 4, 5, 6, 7, 8]),
                   (⟨some 129, .load false 1 (.t 128), none⟩, [0, 1, 2, 3, 4, 5, 6, 7, 8]),
                   (⟨some 130, .faddr 5 (.t 3), none⟩, [3, 4, 5, 6, 7, 8, 9, 10]),
                   (⟨some 131, .faddr 0 (.t 130), none⟩, [3, 4, 5, 6, 7, 8, 9, 10]),
                   (⟨none, .store 1 (.t 131) (.t 121), none⟩, [3, 4, 5, 6, 7, 8, 9, 10]),
                   (⟨some 132, .faddr 13 (.t 3), none⟩, [5, 6, 7, 8, 9, 10]),
                   (⟨none, .store 1 (.t 132) (.t 123), none⟩, [5, 6, 7, 8, 9, 10]),
                   (⟨some 133, .faddr 15 (.t 3), none⟩, [7, 8, 9, 10]),
                   (⟨none, .store 1 (.t 133) (.t 125), none⟩, [7, 8, 9, 10]),
                   (⟨some 134, .faddr 16 (.t 3), none⟩, [9, 10]),
                   (⟨none, .store 1 (.t 134) (.t 127), none⟩, [9, 10]),
                   (⟨some 135, .faddr 14 (.t 3), none⟩, []),
                   (⟨none, .store 1 (.t 135) (.t 129), none⟩, [])])
 .skip))))))))))))))))))))))))))))
 (.seq (.reg [⟨some 136, .faddr 1 (.t 3), none⟩, ⟨some 137, .load false 1 (.t 136), none⟩, ⟨some 138, .faddr 1 (.t 1), none⟩, ⟨some 139, .load false 1 (.t 138), none⟩, ⟨some 140, .bin .eql (.t 137) (.t 139), none⟩, ⟨some 141, .mov (.t 140), none⟩, ⟨some 142, .faddr 2 (.t 3), some (141, true)⟩,
 ⟨some 143, .load false 1 (.t 142), some (141, true)⟩,
 ⟨some 144, .faddr 2 (.t 1), some (141, true)⟩,
 ⟨some 145, .load false 1 (.t 144), some (141, true)⟩,
 ⟨some 146, .bin .eql (.t 143) (.t 145), some (141, true)⟩,
 ⟨some 147, .pick (.t 141) (.t 146) (.k (.b false)), none⟩, ⟨some 148, .mov (.t 147), none⟩, ⟨some 149, .faddr 5 (.t 3), some (148, true)⟩,
 ⟨some 150, .load true 4 (.t 149), some (148, true)⟩,
 ⟨some 151, .faddr 5 (.t 1), some (148, true)⟩,
 ⟨some 152, .load true 4 (.t 151), some (148, true)⟩,
 ⟨some 153, .eq false (.struct [(0, 1, false, .str), (1, 1, false, .int), (2, 1, false, .str), (3, 1, false, .str)]) (.t 150) (.t 152), some (148, true)⟩,
 ⟨some 154, .pick (.t 148) (.t 153) (.k (.b false)), none⟩, ⟨some 155, .mov (.t 154), none⟩, ⟨some 156, .faddr 13 (.t 3), some (155, true)⟩,
 ⟨some 157, .load false 1 (.t 156), some (155, true)⟩,
 ⟨some 158, .faddr 13 (.t 1), some (155, true)⟩,
 ⟨some 159, .load false 1 (.t 158), some (155, true)⟩,
 ⟨some 160, .bin .eql (.t 157) (.t 159), some (155, true)⟩,
 ⟨some 161, .pick (.t 155) (.t 160) (.k (.b false)), none⟩, ⟨some 162, .mov (.t 161), none⟩, ⟨some 163, .faddr 14 (.t 3), some (162, true)⟩,
 ⟨some 164, .load false 1 (.t 163), some (162, true)⟩,
 ⟨some 165, .faddr 14 (.t 1), some (162, true)⟩,
 ⟨some 166, .load false 1 (.t 165), some (162, true)⟩,
 ⟨some 167, .bin .eql (.t 164) (.t 166), some (162, true)⟩,
 ⟨some 168, .pick (.t 162) (.t 167) (.k (.b false)), none⟩, ⟨some 169, .mov (.t 168), none⟩, ⟨some 170, .faddr 15 (.t 3), some (169, true)⟩,
 ⟨some 171, .load false 1 (.t 170), some (169, true)⟩,
 ⟨some 172, .faddr 15 (.t 1), some (169, true)⟩,
 ⟨some 173, .load false 1 (.t 172), some (169, true)⟩,
 ⟨some 174, .bin .eql (.t 171) (.t 173), some (169, true)⟩,
 ⟨some 175, .pick (.t 169) (.t 174) (.k (.b false)), none⟩, ⟨some 176, .mov (.t 175), none⟩, ⟨some 177, .faddr 16 (.t 3), some (176, true)⟩,
 ⟨some 178, .load false 1 (.t 177), some (176, true)⟩,
 ⟨some 179, .faddr 16 (.t 1), some (176, true)⟩,
 ⟨some 180, .load false 1 (.t 179), some (176, true)⟩,
 ⟨some 181, .bin .eql (.t 178) (.t 180), some (176, true)⟩,
 ⟨some 182, .pick (.t 176) (.t 181) (.k (.b false)), none⟩, ⟨some 8, .mov (.t 182), none⟩])
 (.seq (.reg [⟨some 183, .faddr 9 (.t 1), none⟩, ⟨some 184, .load true 4 (.t 183), none⟩, ⟨some 9, .lalloc [(.i .i64 0), (.s []), (.s []), (.sl [] 0 .nil)] [9, 216, 220, 225, 230], none⟩, ⟨none, .store 4 (.t 9) (.t 184), none⟩])
 (.seq (.reg [⟨some 185, .mov (.t 8), none⟩, ⟨some 186, .mov (.t 185), none⟩, ⟨some 187, .mov (.t 4), some (186, true)⟩,
 ⟨some 188, .faddr 3 (.t 1), some (186, true)⟩,
 ⟨some 189, .load false 1 (.t 188), some (186, true)⟩,
 ⟨some 190, .len .slice (.t 189), some (186, true)⟩,
 ⟨some 191, .bin .eql (.t 187) (.t 190), some (186, true)⟩,
 ⟨some 192, .pick (.t 186) (.t 191) (.k (.b false)), none⟩, ⟨some 193, .mov (.t 192), none⟩, ⟨some 194, .mov (.t 5), some (193, true)⟩,
 ⟨some 195, .faddr 4 (.t 1), some (193, true)⟩,
 ⟨some 196, .load false 1 (.t 195), some (193, true)⟩,
 ⟨some 197, .len .slice (.t 196), some (193, true)⟩,
 ⟨some 198, .bin .eql (.t 194) (.t 197), some (193, true)⟩,
 ⟨some 199, .pick (.t 193) (.t 198) (.k (.b false)), none⟩, ⟨some 200, .mov (.t 199), none⟩, ⟨some 201, .mov (.t 6), some (200, true)⟩,
 ⟨some 202, .faddr 17 (.t 1), some (200, true)⟩,
 ⟨some 203, .faddr 0 (.t 202), some (200, true)⟩,
 ⟨some 204, .load false 1 (.t 203), some (200, true)⟩,
 ⟨some 205, .len .slice (.t 204), some (200, true)⟩,
 ⟨some 206, .faddr 17 (.t 1), some (200, true)⟩,
 ⟨some 207, .faddr 1 (.t 206), some (200, true)⟩,
 ⟨some 208, .load false 1 (.t 207), some (200, true)⟩,
 ⟨some 209, .len .slice (.t 208), some (200, true)⟩,
 ⟨some 210, .bin .add (.t 205) (.t 209), some (200, true)⟩,
 ⟨some 211, .bin .eql (.t 201) (.t 210), some (200, true)⟩,
 ⟨some 212, .pick (.t 200) (.t 211) (.k (.b false)), none⟩, ⟨some 213, .mov (.t 212), none⟩, ⟨some 214, .mov (.t 7), some (213, true)⟩,
 ⟨some 215, .mov (.t 214), some (213, true)⟩,
 ⟨some 216, .faddr 0 (.t 9), some (215, false)⟩,
 ⟨some 217, .load false 1 (.t 216), some (215, false)⟩,
 ⟨some 218, .bin .eql (.t 217) (.k (.i .i64 0)), some (215, false)⟩,
 ⟨some 219, .mov (.t 218), some (215, false)⟩,
 ⟨some 220, .faddr 1 (.t 9), some (219, true)⟩,
 ⟨some 221, .load false 1 (.t 220), some (219, true)⟩,
 ⟨some 222, .bin .eql (.t 221) (.k (.s [])), some (219, true)⟩,
 ⟨some 223, .pick (.t 219) (.t 222) (.k (.b false)), some (215, false)⟩,
 ⟨some 224, .mov (.t 223), some (215, false)⟩,
 ⟨some 225, .faddr 2 (.t 9), some (224, true)⟩,
 ⟨some 226, .load false 1 (.t 225), some (224, true)⟩,
 ⟨some 227, .bin .eql (.t 226) (.k (.s [])), some (224, true)⟩,
 ⟨some 228, .pick (.t 224) (.t 227) (.k (.b false)), some (215, false)⟩,
 ⟨some 229, .mov (.t 228), some (215, false)⟩,
 ⟨some 230, .faddr 3 (.t 9), some (229, true)⟩,
 ⟨some 231, .load false 1 (.t 230), some (229, true)⟩,
 ⟨some 232, .len .slice (.t 231), some (229, true)⟩,
 ⟨some 233, .bin .eql (.t 232) (.k (.i .i64 0)), some (229, true)⟩,
 ⟨some 234, .pick (.t 229) (.t 233) (.k (.b false)), some (215, false)⟩,
 ⟨some 235, .pick (.t 215) (.k (.b true)) (.t 234), some (213, true)⟩,
 ⟨some 236, .pick (.t 213) (.t 235) (.k (.b false)), none⟩, ⟨some 2, .mov (.t 236), none⟩])
 .ret))))))))
/-- tidemark/machine.bare -/
def af263 : AFunc := { n := 237, depth := 8, kl := [(1, [1, 10, 13, 16, 18, 22, 26, 29, 34, 39, 40, 48, 50, 56, 61, 62, 65, 66, 72, 74, 76, 83, 85, 91, 92, 94, 102, 103, 109, 110, 112, 119, 120, 122, 124, 126, 128, 138, 144, 151, 158, 165, 172, 179, 183, 188, 195, 202, 203, 206, 207]), (3, [3, 20, 21, 36, 42, 43, 52, 53, 58, 79, 80, 88, 96, 97, 98, 105, 106, 114, 115, 116, 130, 131, 132, 133, 134, 135, 136, 142, 149, 156, 163, 170, 177]), (9, [9, 216, 220, 225, 230])], res := [.tmp 2], body := B263 }

def B264 : AC := (.seq (.reg [⟨some 2, .mov (.k (.b false)), none⟩])
 (.seq (.reg [⟨some 3, .mov (.t 0), none⟩, ⟨some 4, .call false 100 [(.t 3), (.f 314)], none⟩, ⟨some 5, .un .not (.t 4), none⟩, ⟨some 2, .mov (.t 5), none⟩])
 .ret))
/-- tidemark/machine.within -/
def af264 : AFunc := { n := 6, depth := 3, kl := [], res := [.tmp 2], body := B264 }

def B284 : AC := (.seq (.reg [⟨some 2, .mov (.k (.i .i64 0)), none⟩])
 (.seq (.seq (.reg [⟨some 3, .mov (.t 0), none⟩, ⟨some 4, .eq false .ptr (.t 3) (.k .nilp), none⟩])
 (.cond (.t 4)
 (.seq (.reg [⟨some 2, .mov (.k (.i .i64 0)), none⟩])
 .ret)
 .skip))
 (.seq (.reg [⟨some 5, .mov (.t 0), none⟩, ⟨some 6, .nilck (.t 5), none⟩, ⟨some 7, .faddr 0 (.t 6), none⟩, ⟨some 8, .faddr 0 (.t 7), none⟩, ⟨some 9, .iaddr (.arr 2 1) (.t 8) (.k (.i .i64 0)), none⟩, ⟨some 10, .load false 1 (.t 9), none⟩, ⟨some 11, .len .slice (.t 10), none⟩, ⟨some 12, .mov (.t 0), none⟩, ⟨some 13, .nilck (.t 12), none⟩, ⟨some 14, .faddr 0 (.t 13), none⟩, ⟨some 15, .faddr 0 (.t 14), none⟩, ⟨some 16, .iaddr (.arr 2 1) (.t 15) (.k (.i .i64 1)), none⟩, ⟨some 17, .load false 1 (.t 16), none⟩, ⟨some 18, .len .slice (.t 17), none⟩, ⟨some 19, .bin .add (.t 11) (.t 18), none⟩, ⟨some 20, .mov (.t 0), none⟩, ⟨some 21, .nilck (.t 20), none⟩, ⟨some 22, .faddr 0 (.t 21), none⟩, ⟨some 23, .faddr 2 (.t 22), none⟩, ⟨some 24, .load false 1 (.t 23), none⟩, ⟨some 25, .len .slice (.t 24), none⟩, ⟨some 26, .bin .add (.t 19) (.t 25), none⟩, ⟨some 2, .mov (.t 26), none⟩])
 .ret)))
/-- (*tidemark/disk.Disk).Used -/
def af284 : AFunc := { n := 27, depth := 5, kl := [], res := [.tmp 2], body := B284 }

def B285 : AC := (.seq (.reg [⟨some 2, .lbox (.t 0) [2, 11, 12, 15, 17, 20, 27, 30], none⟩, ⟨some 3, .lbox (.t 1) [3, 5, 7, 9, 24], none⟩, ⟨some 4, .lalloc [(.sl [] 0 .nil), (.sl [] 0 .nil), (.sl [] 0 .nil)] [4], none⟩])
 (.seq (.seq (.reg [⟨some 5, .faddr 0 (.t 3), none⟩, ⟨some 6, .load false 1 (.t 5), none⟩])
 (.blk 0 (.seq (.reg [⟨some 14, .bin .eql (.t 6) (.k (.i .i64 2)), none⟩, ⟨some 13, .mov (.t 14), none⟩])
 (.cond (.t 13)
 (.reg [⟨some 15, .faddr 2 (.t 2), none⟩, ⟨some 16, .load false 1 (.t 15), none⟩, ⟨some 17, .faddr 2 (.t 2), none⟩, ⟨some 18, .load false 1 (.t 17), none⟩, ⟨some 19, .len .slice (.t 18), none⟩, ⟨some 20, .faddr 2 (.t 2), none⟩, ⟨some 21, .load false 1 (.t 20), none⟩, ⟨some 22, .len .slice (.t 21), none⟩, ⟨some 23, .slc (.slice 1) (.t 16) none (some (.t 19)) (some (.t 22)), none⟩, ⟨some 24, .faddr 1 (.t 3), none⟩, ⟨some 25, .load false 1 (.t 24), none⟩, ⟨some 26, .app 5 1 (.t 23) (.t 25), none⟩, ⟨some 27, .faddr 2 (.t 2), none⟩, ⟨none, .store 1 (.t 27) (.t 26), none⟩])
 (.seq (.reg [⟨some 29, .bin .eql (.t 6) (.k (.i .i64 3)), none⟩, ⟨some 28, .mov (.t 29), none⟩])
 (.cond (.t 28)
 (.reg [⟨some 30, .faddr 2 (.t 2), none⟩, ⟨none, .store 1 (.t 30) (.k (.sl [] 0 .nil)), none⟩])
 (.reg [⟨some 7, .faddr 0 (.t 3), none⟩, ⟨some 8, .load false 1 (.t 7), none⟩, ⟨some 9, .faddr 1 (.t 3), none⟩, ⟨some 10, .load false 1 (.t 9), none⟩, ⟨some 11, .faddr 0 (.t 2), none⟩, ⟨some 12, .iaddr (.arr 2 1) (.t 11) (.t 8), none⟩, ⟨none, .store 1 (.t 12) (.t 10), none⟩])))))))
 (.seq (.reg [⟨some 31, .load true 3 (.t 2), none⟩, ⟨none, .store 3 (.t 4) (.t 31), none⟩])
 .ret)))
/-- (tidemark/disk.plate).does -/
def af285 : AFunc := { n := 32, depth := 6, kl := [(2, [2, 11, 12, 15, 17, 20, 27, 30]), (3, [3, 5, 7, 9, 24]), (4, [4])], res := [.cell 4 true 3], body := B285 }

def L286_1 : AC := (.seq (.reg [⟨some 9, .bin .lss (.t 8) (.t 7), none⟩])
 (.seq (.cond (.t 9)
 .skip
 (.exit 0))
 (.seq (.blk 1 (.seq (.reg [⟨some 10, .iaddr (.slice 1) (.t 6) (.t 8), none⟩, ⟨some 11, .load false 1 (.t 10), none⟩, ⟨some 5, .mov (.t 11), none⟩])
 (.seq (.reg [⟨some 12, .mov (.t 3), none⟩, ⟨some 13, .mov (.t 5), none⟩, ⟨some 14, .conv (.int .u32) (.t 13), none⟩, ⟨some 15, .bin .xor (.t 12) (.t 14), none⟩, ⟨some 3, .mov (.t 15), none⟩])
 (.seq (.reg [⟨some 16, .mov (.t 3), none⟩, ⟨some 17, .bin .shr (.t 16) (.k (.i .u64 4)), none⟩, ⟨some 18, .mov (.t 3), none⟩, ⟨some 19, .bin .and (.t 18) (.k (.i .u32 15)), none⟩, ⟨some 20, .iaddr (.arr 16 1) (.g 0) (.t 19), none⟩, ⟨some 21, .load false 1 (.t 20), none⟩, ⟨some 22, .bin .xor (.t 17) (.t 21), none⟩, ⟨some 3, .mov (.t 22), none⟩])
 (.reg [⟨some 23, .mov (.t 3), none⟩, ⟨some 24, .bin .shr (.t 23) (.k (.i .u64 4)), none⟩, ⟨some 25, .mov (.t 3), none⟩, ⟨some 26, .bin .and (.t 25) (.k (.i .u32 15)), none⟩, ⟨some 27, .iaddr (.arr 16 1) (.g 0) (.t 26), none⟩, ⟨some 28, .load false 1 (.t 27), none⟩, ⟨some 29, .bin .xor (.t 24) (.t 28), none⟩, ⟨some 3, .mov (.t 29), none⟩])))))
 (.reg [⟨some 30, .bin .add (.t 8) (.k (.i .i64 1)), none⟩, ⟨some 8, .mov (.t 30), none⟩]))))
def B286 : AC := (.seq (.reg [⟨some 2, .mov (.k (.i .u32 0)), none⟩])
 (.seq (.reg [⟨some 3, .mov (.k (.i .u32 4294967295)), none⟩])
 (.seq (.seq (.reg [⟨some 6, .mov (.t 0), none⟩, ⟨some 7, .len .slice (.t 6), none⟩, ⟨some 8, .mov (.k (.i .i64 0)), none⟩])
 (.blk 0 (.loop L286_1)))
 (.seq (.reg [⟨some 31, .mov (.t 3), none⟩, ⟨some 32, .un .xor (.t 31), none⟩, ⟨some 2, .mov (.t 32), none⟩])
 .ret))))
/-- tidemark/wire.Sum -/
def af286 : AFunc := { n := 33, depth := 6, kl := [], res := [.tmp 2], body := B286 }

def B310 : AC := (.seq (.reg [⟨some 2, .mov (.k (.i .i64 0)), none⟩])
 (.seq (.cond (.k (.b false))
 (.seq (.reg [⟨some 3, .mov (.t 0), none⟩, ⟨some 4, .conv (.int .u32) (.t 3), none⟩, ⟨some 5, .call true 357 [(.t 4)], none⟩, ⟨some 2, .mov (.t 5), none⟩])
 .ret)
 .skip)
 (.seq (.reg [⟨some 6, .mov (.t 0), none⟩, ⟨some 7, .call true 358 [(.t 6)], none⟩, ⟨some 2, .mov (.t 7), none⟩])
 .ret)))
/-- math/bits.Len -/
def af310 : AFunc := { n := 8, depth := 4, kl := [], res := [.tmp 2], body := B310 }

def L311_1 : AC := (.seq (.reg [⟨some 152, .bin .lss (.t 151) (.t 150), none⟩])
 (.seq (.cond (.t 152)
 .skip
 (.exit 1))
 (.seq (.blk 2 (.seq (.reg [⟨some 153, .iaddr (.slice 4) (.t 149) (.t 151), none⟩, ⟨some 154, .load true 4 (.t 153), none⟩, ⟨some 11, .lalloc [(.i .i64 0), (.s []), (.s []), (.sl [] 0 .nil)] [11], none⟩, ⟨none, .store 4 (.t 11) (.t 154), none⟩])
 (.seq (.reg [⟨some 156, .load true 4 (.t 11), none⟩, ⟨some 157, .mov (.t 1), none⟩, ⟨some 158, .bin .add (.t 157) (.k (.i .i64 1)), none⟩, ⟨some 159, .mov (.t 2), none⟩, ⟨some 160, .call false 311 [(.t 156), (.t 158), (.t 159)], none⟩, ⟨some 155, .mov (.t 160), none⟩, ⟨some 161, .ext (.t 155) 0, none⟩, ⟨some 162, .ext (.t 155) 1, none⟩, ⟨some 12, .mov (.t 161), none⟩, ⟨some 13, .mov (.t 162), none⟩])
 (.seq (.seq (.reg [⟨some 163, .mov (.t 13), none⟩, ⟨some 164, .bin .neq (.t 163) (.k (.i .i64 0)), none⟩])
 (.cond (.t 164)
 (.seq (.reg [⟨some 165, .mov (.t 13), none⟩, ⟨some 6, .mov (.k .nili), none⟩, ⟨some 7, .mov (.t 165), none⟩])
 .ret)
 .skip))
 (.seq (.reg [⟨some 167, .mov (.t 12), none⟩, ⟨some 168, .tas false [449, 451, 453, 454, 458, 460, 461] [9, 380] .nili true (.t 167), none⟩, ⟨some 166, .mov (.t 168), none⟩, ⟨some 169, .ext (.t 166) 0, none⟩, ⟨some 170, .ext (.t 166) 1, none⟩, ⟨some 14, .mov (.t 169), none⟩, ⟨some 15, .mov (.t 170), none⟩])
 (.seq (.reg [⟨some 171, .mov (.t 15), none⟩])
 (.cond (.t 171)
 (.reg [⟨some 172, .mov (.t 9), none⟩, ⟨some 173, .mov (.t 14), none⟩, ⟨some 174, .bslice false 358 1 1 [.nili] [(0, (.t 173))], none⟩, ⟨some 175, .app 358 1 (.t 172) (.t 174), none⟩, ⟨some 9, .mov (.t 175), none⟩])
 .skip)))))))
 (.reg [⟨some 176, .bin .add (.t 151) (.k (.i .i64 1)), none⟩, ⟨some 151, .mov (.t 176), none⟩]))))
def B311 : AC := (.seq (.reg [⟨some 3, .lbox (.t 0) [3, 29, 34, 41, 46, 53, 60, 65, 70, 75, 82, 88, 93, 95, 100, 107, 112, 119, 123, 128, 133, 138, 142, 148, 177], none⟩, ⟨some 6, .mov (.k .nili), none⟩, ⟨some 7, .mov (.k (.i .i64 0)), none⟩])
 (.seq (.reg [⟨some 16, .mov (.t 2), none⟩, ⟨some 17, .nilck (.t 16), none⟩, ⟨some 18, .load false 1 (.t 17), none⟩, ⟨some 19, .bin .add (.t 18) (.k (.i .i64 1)), none⟩, ⟨some 20, .nilck (.t 16), none⟩, ⟨none, .store 1 (.t 20) (.t 19), none⟩])
 (.seq (.seq (.reg [⟨some 21, .mov (.t 1), none⟩, ⟨some 22, .bin .gtr (.t 21) (.k (.i .i64 6)), none⟩, ⟨some 23, .mov (.t 22), none⟩, ⟨some 24, .mov (.t 2), some (23, false)⟩,
 ⟨some 25, .nilck (.t 24), some (23, false)⟩,
 ⟨some 26, .load false 1 (.t 25), some (23, false)⟩,
 ⟨some 27, .bin .gtr (.t 26) (.k (.i .i64 24)), some (23, false)⟩,
 ⟨some 28, .pick (.t 23) (.k (.b true)) (.t 27), none⟩])
 (.cond (.t 28)
 (.seq (.reg [⟨some 6, .mov (.k .nili), none⟩, ⟨some 7, .mov (.k (.i .i64 51)), none⟩])
 .ret)
 .skip))
 (.seq (.reg [⟨some 29, .faddr 3 (.t 3), none⟩, ⟨some 30, .load false 1 (.t 29), none⟩, ⟨some 31, .len .slice (.t 30), none⟩, ⟨some 32, .bin .eql (.t 31) (.k (.i .i64 0)), none⟩, ⟨some 8, .mov (.t 32), none⟩])
 (.seq (.blk 0 (.seq (.reg [⟨some 34, .faddr 0 (.t 3), none⟩, ⟨some 35, .load false 1 (.t 34), none⟩, ⟨some 36, .bin .eql (.t 35) (.k (.i .i64 0)), none⟩, ⟨some 37, .mov (.t 36), none⟩, ⟨some 38, .mov (.t 8), some (37, true)⟩,
 ⟨some 39, .pick (.t 37) (.t 38) (.k (.b false)), none⟩, ⟨some 40, .mov (.t 39), none⟩, ⟨some 41, .faddr 1 (.t 3), some (40, true)⟩,
 ⟨some 42, .load false 1 (.t 41), some (40, true)⟩,
 ⟨some 43, .bin .eql (.t 42) (.k (.s [])), some (40, true)⟩,
 ⟨some 44, .pick (.t 40) (.t 43) (.k (.b false)), none⟩, ⟨some 45, .mov (.t 44), none⟩, ⟨some 46, .faddr 2 (.t 3), some (45, true)⟩,
 ⟨some 47, .load false 1 (.t 46), some (45, true)⟩,
 ⟨some 48, .bin .eql (.t 47) (.k (.s [])), some (45, true)⟩,
 ⟨some 49, .pick (.t 45) (.t 48) (.k (.b false)), none⟩, ⟨some 33, .mov (.t 49), none⟩])
 (.cond (.t 33)
 (.seq (.reg [⟨some 50, .build [] [], none⟩, ⟨some 51, .mkif 449 (.t 50), none⟩, ⟨some 6, .mov (.t 51), none⟩, ⟨some 7, .mov (.k (.i .i64 0)), none⟩])
 .ret)
 (.seq (.reg [⟨some 53, .faddr 0 (.t 3), none⟩, ⟨some 54, .load false 1 (.t 53), none⟩, ⟨some 55, .bin .eql (.t 54) (.k (.i .i64 1)), none⟩, ⟨some 56, .mov (.t 55), none⟩, ⟨some 57, .mov (.t 8), some (56, true)⟩,
 ⟨some 58, .pick (.t 56) (.t 57) (.k (.b false)), none⟩, ⟨some 59, .mov (.t 58), none⟩, ⟨some 60, .faddr 1 (.t 3), some (59, true)⟩,
 ⟨some 61, .load false 1 (.t 60), some (59, true)⟩,
 ⟨some 62, .bin .eql (.t 61) (.k (.s [])), some (59, true)⟩,
 ⟨some 63, .pick (.t 59) (.t 62) (.k (.b false)), none⟩, ⟨some 64, .mov (.t 63), none⟩, ⟨some 65, .faddr 2 (.t 3), some (64, true)⟩,
 ⟨some 66, .load false 1 (.t 65), some (64, true)⟩,
 ⟨some 67, .call true 277 [(.t 66)], some (64, true)⟩,
 ⟨some 68, .bin .eql (.t 67) (.k (.i .i64 0)), some (64, true)⟩,
 ⟨some 69, .pick (.t 64) (.t 68) (.k (.b false)), none⟩, ⟨some 52, .mov (.t 69), none⟩])
 (.cond (.t 52)
 (.seq (.reg [⟨some 70, .faddr 2 (.t 3), none⟩, ⟨some 71, .load false 1 (.t 70), none⟩, ⟨some 72, .build [(.s [])] [(0, 1, (.t 71))], none⟩, ⟨some 73, .mkif 451 (.t 72), none⟩, ⟨some 6, .mov (.t 73), none⟩, ⟨some 7, .mov (.k (.i .i64 0)), none⟩])
 .ret)
 (.seq (.reg [⟨some 75, .faddr 0 (.t 3), none⟩, ⟨some 76, .load false 1 (.t 75), none⟩, ⟨some 77, .bin .eql (.t 76) (.k (.i .i64 2)), none⟩, ⟨some 78, .mov (.t 77), none⟩, ⟨some 79, .mov (.t 8), some (78, true)⟩,
 ⟨some 80, .pick (.t 78) (.t 79) (.k (.b false)), none⟩, ⟨some 81, .mov (.t 80), none⟩, ⟨some 82, .faddr 1 (.t 3), some (81, true)⟩,
 ⟨some 83, .load false 1 (.t 82), some (81, true)⟩,
 ⟨some 84, .call true 267 [(.t 83)], some (81, true)⟩,
 ⟨some 85, .bin .eql (.t 84) (.k (.i .i64 0)), some (81, true)⟩,
 ⟨some 86, .pick (.t 81) (.t 85) (.k (.b false)), none⟩, ⟨some 87, .mov (.t 86), none⟩, ⟨some 88, .faddr 2 (.t 3), some (87, true)⟩,
 ⟨some 89, .load false 1 (.t 88), some (87, true)⟩,
 ⟨some 90, .call true 278 [(.t 89)], some (87, true)⟩,
 ⟨some 91, .bin .eql (.t 90) (.k (.i .i64 0)), some (87, true)⟩,
 ⟨some 92, .pick (.t 87) (.t 91) (.k (.b false)), none⟩, ⟨some 74, .mov (.t 92), none⟩])
 (.cond (.t 74)
 (.seq (.reg [⟨some 93, .faddr 1 (.t 3), none⟩, ⟨some 94, .load false 1 (.t 93), none⟩, ⟨some 95, .faddr 2 (.t 3), none⟩, ⟨some 96, .load false 1 (.t 95), none⟩, ⟨some 97, .build [(.s []), (.s [])] [(0, 1, (.t 94)), (1, 1, (.t 96))], none⟩, ⟨some 98, .mkif 453 (.t 97), none⟩, ⟨some 6, .mov (.t 98), none⟩, ⟨some 7, .mov (.k (.i .i64 0)), none⟩])
 .ret)
 (.seq (.reg [⟨some 100, .faddr 0 (.t 3), none⟩, ⟨some 101, .load false 1 (.t 100), none⟩, ⟨some 102, .bin .eql (.t 101) (.k (.i .i64 3)), none⟩, ⟨some 103, .mov (.t 102), none⟩, ⟨some 104, .mov (.t 8), some (103, true)⟩,
 ⟨some 105, .pick (.t 103) (.t 104) (.k (.b false)), none⟩, ⟨some 106, .mov (.t 105), none⟩, ⟨some 107, .faddr 1 (.t 3), some (106, true)⟩,
 ⟨some 108, .load false 1 (.t 107), some (106, true)⟩,
 ⟨some 109, .bin .eql (.t 108) (.k (.s [])), some (106, true)⟩,
 ⟨some 110, .pick (.t 106) (.t 109) (.k (.b false)), none⟩, ⟨some 111, .mov (.t 110), none⟩, ⟨some 112, .faddr 2 (.t 3), some (111, true)⟩,
 ⟨some 113, .load false 1 (.t 112), some (111, true)⟩,
 ⟨some 114, .bin .eql (.t 113) (.k (.s [])), some (111, true)⟩,
 ⟨some 115, .pick (.t 111) (.t 114) (.k (.b false)), none⟩, ⟨some 99, .mov (.t 115), none⟩])
 (.cond (.t 99)
 (.seq (.reg [⟨some 116, .build [] [], none⟩, ⟨some 117, .mkif 454 (.t 116), none⟩, ⟨some 6, .mov (.t 117), none⟩, ⟨some 7, .mov (.k (.i .i64 0)), none⟩])
 .ret)
 (.seq (.reg [⟨some 119, .faddr 1 (.t 3), none⟩, ⟨some 120, .load false 1 (.t 119), none⟩, ⟨some 121, .bin .neq (.t 120) (.k (.s [])), none⟩, ⟨some 122, .mov (.t 121), none⟩, ⟨some 123, .faddr 2 (.t 3), some (122, false)⟩,
 ⟨some 124, .load false 1 (.t 123), some (122, false)⟩,
 ⟨some 125, .bin .neq (.t 124) (.k (.s [])), some (122, false)⟩,
 ⟨some 126, .pick (.t 122) (.k (.b true)) (.t 125), none⟩, ⟨some 127, .mov (.t 126), none⟩, ⟨some 128, .faddr 0 (.t 3), some (127, false)⟩,
 ⟨some 129, .load false 1 (.t 128), some (127, false)⟩,
 ⟨some 130, .bin .lss (.t 129) (.k (.i .i64 4)), some (127, false)⟩,
 ⟨some 131, .pick (.t 127) (.k (.b true)) (.t 130), none⟩, ⟨some 132, .mov (.t 131), none⟩, ⟨some 133, .faddr 0 (.t 3), some (132, false)⟩,
 ⟨some 134, .load false 1 (.t 133), some (132, false)⟩,
 ⟨some 135, .bin .gtr (.t 134) (.k (.i .i64 6)), some (132, false)⟩,
 ⟨some 136, .pick (.t 132) (.k (.b true)) (.t 135), none⟩, ⟨some 137, .mov (.t 136), none⟩, ⟨some 138, .faddr 0 (.t 3), some (137, false)⟩,
 ⟨some 139, .load false 1 (.t 138), some (137, false)⟩,
 ⟨some 140, .bin .eql (.t 139) (.k (.i .i64 4)), some (137, false)⟩,
 ⟨some 141, .mov (.t 140), some (137, false)⟩,
 ⟨some 142, .faddr 3 (.t 3), some (141, true)⟩,
 ⟨some 143, .load false 1 (.t 142), some (141, true)⟩,
 ⟨some 144, .len .slice (.t 143), some (141, true)⟩,
 ⟨some 145, .bin .neq (.t 144) (.k (.i .i64 1)), some (141, true)⟩,
 ⟨some 146, .pick (.t 141) (.t 145) (.k (.b false)), some (137, false)⟩,
 ⟨some 147, .pick (.t 137) (.k (.b true)) (.t 146), none⟩, ⟨some 118, .mov (.t 147), none⟩])
 (.cond (.t 118)
 (.seq (.reg [⟨some 6, .mov (.k .nili), none⟩, ⟨some 7, .mov (.k (.i .i64 50)), none⟩])
 .ret)
 .skip)))))))))))
 (.seq (.reg [⟨some 9, .mov (.k (.sl [] 0 .nil)), none⟩])
 (.seq (.seq (.reg [⟨some 148, .faddr 3 (.t 3), none⟩, ⟨some 149, .load false 1 (.t 148), none⟩, ⟨some 150, .len .slice (.t 149), none⟩, ⟨some 151, .mov (.k (.i .i64 0)), none⟩])
 (.blk 1 (.loop L311_1)))
 (.seq (.seq (.reg [⟨some 177, .faddr 0 (.t 3), none⟩, ⟨some 178, .load false 1 (.t 177), none⟩])
 (.blk 3 (.seq (.reg [⟨some 180, .bin .eql (.t 178) (.k (.i .i64 4)), none⟩, ⟨some 179, .mov (.t 180), none⟩])
 (.cond (.t 179)
 (.seq (.reg [⟨some 181, .mov (.t 9), none⟩, ⟨some 182, .iaddr (.slice 1) (.t 181) (.k (.i .i64 0)), none⟩, ⟨some 183, .load false 1 (.t 182), none⟩, ⟨some 184, .build [.nili] [(0, 1, (.t 183))], none⟩, ⟨some 185, .mkif 458 (.t 184), none⟩, ⟨some 6, .mov (.t 185), none⟩, ⟨some 7, .mov (.k (.i .i64 0)), none⟩])
 .ret)
 (.seq (.reg [⟨some 187, .bin .eql (.t 178) (.k (.i .i64 5)), none⟩, ⟨some 186, .mov (.t 187), none⟩])
 (.cond (.t 186)
 (.seq (.reg [⟨some 188, .mov (.t 9), none⟩, ⟨some 189, .build [(.sl [] 0 .nil)] [(0, 1, (.t 188))], none⟩, ⟨some 190, .mkif 460 (.t 189), none⟩, ⟨some 6, .mov (.t 190), none⟩, ⟨some 7, .mov (.k (.i .i64 0)), none⟩])
 .ret)
 .skip))))))
 (.seq (.reg [⟨some 191, .mov (.t 9), none⟩, ⟨some 192, .build [(.sl [] 0 .nil)] [(0, 1, (.t 191))], none⟩, ⟨some 193, .mkif 461 (.t 192), none⟩, ⟨some 6, .mov (.t 193), none⟩, ⟨some 7, .mov (.k (.i .i64 0)), none⟩])
 .ret)))))))))
/-- tidemark/filter.build -/
def af311 : AFunc := { n := 194, depth := 8, kl := [(3, [3, 29, 34, 41, 46, 53, 60, 65, 70, 75, 82, 88, 93, 95, 100, 107, 112, 119, 123, 128, 133, 138, 142, 148, 177]), (11, [11])], res := [.tmp 6, .tmp 7], body := B311 }

def L312_1 : AC := (.blk 1 (.seq (.reg [⟨some 19, .mov (.t 2), none⟩, ⟨some 20, .mov (.t 1), none⟩, ⟨some 21, .bin .sub (.t 19) (.t 20), none⟩, ⟨some 10, .mov (.t 21), none⟩])
 (.seq (.seq (.reg [⟨some 22, .mov (.t 10), none⟩, ⟨some 23, .bin .leq (.t 22) (.k (.i .i64 12)), none⟩])
 (.cond (.t 23)
 (.seq (.reg [⟨some 24, .mov (.t 0), none⟩, ⟨some 25, .mov (.t 1), none⟩, ⟨some 26, .mov (.t 2), none⟩, ⟨some 27, .call false 359 [(.t 24), (.t 25), (.t 26)], none⟩])
 .ret)
 .skip))
 (.seq (.seq (.reg [⟨some 28, .mov (.t 3), none⟩, ⟨some 29, .bin .eql (.t 28) (.k (.i .i64 0)), none⟩])
 (.cond (.t 29)
 (.seq (.reg [⟨some 30, .mov (.t 0), none⟩, ⟨some 31, .mov (.t 1), none⟩, ⟨some 32, .mov (.t 2), none⟩, ⟨some 33, .call false 360 [(.t 30), (.t 31), (.t 32)], none⟩])
 .ret)
 .skip))
 (.seq (.seq (.reg [⟨some 34, .mov (.t 8), none⟩, ⟨some 35, .un .not (.t 34), none⟩])
 (.cond (.t 35)
 (.seq (.reg [⟨some 36, .mov (.t 0), none⟩, ⟨some 37, .mov (.t 1), none⟩, ⟨some 38, .mov (.t 2), none⟩, ⟨some 39, .call false 361 [(.t 36), (.t 37), (.t 38)], none⟩])
 (.reg [⟨some 40, .mov (.t 3), none⟩, ⟨some 41, .bin .sub (.t 40) (.k (.i .i64 1)), none⟩, ⟨some 3, .mov (.t 41), none⟩]))
 .skip))
 (.seq (.reg [⟨some 43, .mov (.t 0), none⟩, ⟨some 44, .mov (.t 1), none⟩, ⟨some 45, .mov (.t 2), none⟩, ⟨some 46, .call true 362 [(.t 43), (.t 44), (.t 45)], none⟩, ⟨some 42, .mov (.t 46), none⟩, ⟨some 47, .ext (.t 42) 0, none⟩, ⟨some 48, .ext (.t 42) 1, none⟩, ⟨some 11, .mov (.t 47), none⟩, ⟨some 12, .mov (.t 48), none⟩])
 (.seq (.seq (.reg [⟨some 49, .mov (.t 12), none⟩, ⟨some 50, .bin .eql (.t 49) (.k (.i .i64 2)), none⟩])
 (.cond (.t 50)
 (.seq (.reg [⟨some 51, .mov (.t 0), none⟩, ⟨some 52, .mov (.t 1), none⟩, ⟨some 53, .mov (.t 2), none⟩, ⟨some 54, .call false 363 [(.t 51), (.t 52), (.t 53)], none⟩])
 (.seq (.reg [⟨some 55, .mov (.t 2), none⟩, ⟨some 56, .bin .sub (.t 55) (.k (.i .i64 1)), none⟩, ⟨some 57, .mov (.t 11), none⟩, ⟨some 58, .mov (.t 1), none⟩, ⟨some 59, .bin .sub (.t 57) (.t 58), none⟩, ⟨some 60, .bin .sub (.t 56) (.t 59), none⟩, ⟨some 11, .mov (.t 60), none⟩])
 (.reg [⟨some 12, .mov (.k (.i .i64 1)), none⟩])))
 .skip))
 (.seq (.seq (.reg [⟨some 61, .mov (.t 8), none⟩, ⟨some 62, .mov (.t 61), none⟩, ⟨some 63, .mov (.t 9), some (62, true)⟩,
 ⟨some 64, .pick (.t 62) (.t 63) (.k (.b false)), none⟩, ⟨some 65, .mov (.t 64), none⟩, ⟨some 66, .mov (.t 12), some (65, true)⟩,
 ⟨some 67, .bin .eql (.t 66) (.k (.i .i64 1)), some (65, true)⟩,
 ⟨some 68, .pick (.t 65) (.t 67) (.k (.b false)), none⟩])
 (.cond (.t 68)
 (.seq (.reg [⟨some 69, .mov (.t 0), none⟩, ⟨some 70, .mov (.t 1), none⟩, ⟨some 71, .mov (.t 2), none⟩, ⟨some 72, .call false 364 [(.t 69), (.t 70), (.t 71)], none⟩])
 (.cond (.t 72)
 .ret
 .skip))
 .skip))
 (.seq (.seq (.reg [⟨some 73, .mov (.t 1), none⟩, ⟨some 74, .bin .gtr (.t 73) (.k (.i .i64 0)), none⟩, ⟨some 75, .mov (.t 74), none⟩, ⟨some 76, .mov (.t 0), some (75, true)⟩,
 ⟨some 77, .mov (.t 1), some (75, true)⟩,
 ⟨some 78, .bin .sub (.t 77) (.k (.i .i64 1)), some (75, true)⟩,
 ⟨some 79, .iaddr (.slice 1) (.t 76) (.t 78), some (75, true)⟩,
 ⟨some 80, .load false 1 (.t 79), some (75, true)⟩,
 ⟨some 81, .mov (.t 0), some (75, true)⟩,
 ⟨some 82, .mov (.t 11), some (75, true)⟩,
 ⟨some 83, .iaddr (.slice 1) (.t 81) (.t 82), some (75, true)⟩,
 ⟨some 84, .load false 1 (.t 83), some (75, true)⟩,
 ⟨some 85, .call true 365 [(.t 80), (.t 84)], some (75, true)⟩,
 ⟨some 86, .un .not (.t 85), some (75, true)⟩,
 ⟨some 87, .pick (.t 75) (.t 86) (.k (.b false)), none⟩])
 (.cond (.t 87)
 (.seq (.reg [⟨some 88, .mov (.t 0), none⟩, ⟨some 89, .mov (.t 1), none⟩, ⟨some 90, .mov (.t 2), none⟩, ⟨some 91, .mov (.t 11), none⟩, ⟨some 92, .call false 366 [(.t 88), (.t 89), (.t 90), (.t 91)], none⟩, ⟨some 13, .mov (.t 92), none⟩])
 (.seq (.reg [⟨some 93, .mov (.t 13), none⟩, ⟨some 1, .mov (.t 93), none⟩])
 (.exit 1)))
 .skip))
 (.seq (.reg [⟨some 95, .mov (.t 0), none⟩, ⟨some 96, .mov (.t 1), none⟩, ⟨some 97, .mov (.t 2), none⟩, ⟨some 98, .mov (.t 11), none⟩, ⟨some 99, .call false 367 [(.t 95), (.t 96), (.t 97), (.t 98)], none⟩, ⟨some 94, .mov (.t 99), none⟩, ⟨some 100, .ext (.t 94) 0, none⟩, ⟨some 101, .ext (.t 94) 1, none⟩, ⟨some 14, .mov (.t 100), none⟩, ⟨some 15, .mov (.t 101), none⟩])
 (.seq (.reg [⟨some 102, .mov (.t 15), none⟩, ⟨some 9, .mov (.t 102), none⟩])
 (.seq (.reg [⟨some 103, .mov (.t 14), none⟩, ⟨some 104, .mov (.t 1), none⟩, ⟨some 105, .bin .sub (.t 103) (.t 104), none⟩, ⟨some 106, .mov (.t 2), none⟩, ⟨some 107, .mov (.t 14), none⟩, ⟨some 108, .bin .sub (.t 106) (.t 107), none⟩, ⟨some 16, .mov (.t 105), none⟩, ⟨some 17, .mov (.t 108), none⟩])
 (.seq (.reg [⟨some 109, .mov (.t 10), none⟩, ⟨some 110, .bin .quo (.t 109) (.k (.i .i64 8)), none⟩, ⟨some 18, .mov (.t 110), none⟩])
 (.seq (.reg [⟨some 111, .mov (.t 16), none⟩, ⟨some 112, .mov (.t 17), none⟩, ⟨some 113, .bin .lss (.t 111) (.t 112), none⟩])
 (.cond (.t 113)
 (.seq (.reg [⟨some 114, .mov (.t 16), none⟩, ⟨some 115, .mov (.t 18), none⟩, ⟨some 116, .bin .geq (.t 114) (.t 115), none⟩, ⟨some 8, .mov (.t 116), none⟩])
 (.seq (.reg [⟨some 117, .mov (.t 0), none⟩, ⟨some 118, .mov (.t 1), none⟩, ⟨some 119, .mov (.t 14), none⟩, ⟨some 120, .mov (.t 3), none⟩, ⟨some 121, .call false 312 [(.t 117), (.t 118), (.t 119), (.t 120)], none⟩])
 (.reg [⟨some 122, .mov (.t 14), none⟩, ⟨some 123, .bin .add (.t 122) (.k (.i .i64 1)), none⟩, ⟨some 1, .mov (.t 123), none⟩])))
 (.seq (.reg [⟨some 124, .mov (.t 17), none⟩, ⟨some 125, .mov (.t 18), none⟩, ⟨some 126, .bin .geq (.t 124) (.t 125), none⟩, ⟨some 8, .mov (.t 126), none⟩])
 (.seq (.reg [⟨some 127, .mov (.t 0), none⟩, ⟨some 128, .mov (.t 14), none⟩, ⟨some 129, .bin .add (.t 128) (.k (.i .i64 1)), none⟩, ⟨some 130, .mov (.t 2), none⟩, ⟨some 131, .mov (.t 3), none⟩, ⟨some 132, .call false 312 [(.t 127), (.t 129), (.t 130), (.t 131)], none⟩])
 (.reg [⟨some 133, .mov (.t 14), none⟩, ⟨some 2, .mov (.t 133), none⟩]))))))))))))))))))
def B312 : AC := (.seq (.reg [⟨some 8, .mov (.k (.b true)), none⟩])
 (.seq (.reg [⟨some 9, .mov (.k (.b true)), none⟩])
 (.blk 0 (.loop L312_1))))
/-- slices.pdqsortOrdered[int] -/
def af312 : AFunc := { n := 134, depth := 8, kl := [], res := [], body := B312 }

def B314 : AC := (.seq (.reg [⟨some 2, .mov (.k (.b false)), none⟩])
 (.seq (.reg [⟨some 3, .mov (.t 0), none⟩, ⟨some 4, .bin .lss (.t 3) (.k (.i .i64 0)), none⟩, ⟨some 5, .mov (.t 4), none⟩, ⟨some 6, .mov (.t 0), some (5, false)⟩,
 ⟨some 7, .bin .gtr (.t 6) (.k (.i .i64 1099511627776)), some (5, false)⟩,
 ⟨some 8, .pick (.t 5) (.k (.b true)) (.t 7), none⟩, ⟨some 2, .mov (.t 8), none⟩])
 .ret))
/-- tidemark/machine.within$1 -/
def af314 : AFunc := { n := 9, depth := 4, kl := [], res := [.tmp 2], body := B314 }

def B358 : AC := (.seq (.reg [⟨some 2, .mov (.k (.i .i64 0)), none⟩])
 (.seq (.seq (.reg [⟨some 3, .mov (.t 0), none⟩, ⟨some 4, .bin .geq (.t 3) (.k (.i .u64 4294967296)), none⟩])
 (.cond (.t 4)
 (.seq (.reg [⟨some 5, .mov (.t 0), none⟩, ⟨some 6, .bin .shr (.t 5) (.k (.i .u64 32)), none⟩, ⟨some 0, .mov (.t 6), none⟩])
 (.reg [⟨some 2, .mov (.k (.i .i64 32)), none⟩]))
 .skip))
 (.seq (.seq (.reg [⟨some 7, .mov (.t 0), none⟩, ⟨some 8, .bin .geq (.t 7) (.k (.i .u64 65536)), none⟩])
 (.cond (.t 8)
 (.seq (.reg [⟨some 9, .mov (.t 0), none⟩, ⟨some 10, .bin .shr (.t 9) (.k (.i .u64 16)), none⟩, ⟨some 0, .mov (.t 10), none⟩])
 (.reg [⟨some 11, .mov (.t 2), none⟩, ⟨some 12, .bin .add (.t 11) (.k (.i .i64 16)), none⟩, ⟨some 2, .mov (.t 12), none⟩]))
 .skip))
 (.seq (.seq (.reg [⟨some 13, .mov (.t 0), none⟩, ⟨some 14, .bin .geq (.t 13) (.k (.i .u64 256)), none⟩])
 (.cond (.t 14)
 (.seq (.reg [⟨some 15, .mov (.t 0), none⟩, ⟨some 16, .bin .shr (.t 15) (.k (.i .u64 8)), none⟩, ⟨some 0, .mov (.t 16), none⟩])
 (.reg [⟨some 17, .mov (.t 2), none⟩, ⟨some 18, .bin .add (.t 17) (.k (.i .i64 8)), none⟩, ⟨some 2, .mov (.t 18), none⟩]))
 .skip))
 (.seq (.reg [⟨some 19, .mov (.t 2), none⟩, ⟨some 20, .mov (.t 0), none⟩, ⟨some 21, .conv (.int .u8) (.t 20), none⟩, ⟨some 22, .idx .str (.k (.s [0, 1, 2, 2, 3, 3, 3, 3, 4, 4, 4, 4, 4, 4, 4, 4, 5, 5, 5, 5, 5, 5, 5, 5, 5, 5, 5, 5, 5, 5, 5, 5, 6, 6, 6, 6, 6, 6, 6, 6, 6, 6, 6, 6, 6, 6, 6, 6, 6, 6, 6, 6, 6, 6, 6, 6, 6, 6, 6, 6, 6, 6, 6, 6, 7, 7, 7, 7, 7, 7, 7, 7, 7, 7, 7, 7, 7, 7, 7, 7, 7, 7, 7, 7, 7, 7, 7, 7, 7, 7, 7, 7, 7, 7, 7, 7, 7, 7, 7, 7, 7, 7, 7, 7, 7, 7, 7, 7, 7, 7, 7, 7, 7, 7, 7, 7, 7, 7, 7, 7, 7, 7, 7, 7, 7, 7, 7, 7, 8, 8, 8, 8, 8, 8, 8, 8, 8, 8, 8, 8, 8, 8, 8, 8, 8, 8, 8, 8, 8, 8, 8, 8, 8, 8, 8, 8, 8, 8, 8, 8, 8, 8, 8, 8, 8, 8, 8, 8, 8, 8, 8, 8, 8, 8, 8, 8, 8, 8, 8, 8, 8, 8, 8, 8, 8, 8, 8, 8, 8, 8, 8, 8, 8, 8, 8, 8, 8, 8, 8, 8, 8, 8, 8, 8, 8, 8, 8, 8, 8, 8, 8, 8, 8, 8, 8, 8, 8, 8, 8, 8, 8, 8, 8, 8, 8, 8, 8, 8, 8, 8, 8, 8, 8, 8, 8, 8, 8, 8, 8, 8, 8, 8, 8, 8, 8, 8, 8, 8, 8, 8, 8, 8, 8, 8, 8, 8])) (.t 21), none⟩, ⟨some 23, .conv (.int .i64) (.t 22), none⟩, ⟨some 24, .bin .add (.t 19) (.t 23), none⟩, ⟨some 2, .mov (.t 24), none⟩])
 .ret)))))
/-- math/bits.Len64 -/
def af358 : AFunc := { n := 25, depth := 5, kl := [], res := [.tmp 2], body := B358 }

def L359_2 : AC := (.seq (.seq (.reg [⟨some 16, .mov (.t 7), none⟩, ⟨some 17, .mov (.t 1), none⟩, ⟨some 18, .bin .gtr (.t 16) (.t 17), none⟩, ⟨some 19, .mov (.t 18), none⟩, ⟨some 20, .mov (.t 0), some (19, true)⟩,
 ⟨some 21, .mov (.t 7), some (19, true)⟩,
 ⟨some 22, .iaddr (.slice 1) (.t 20) (.t 21), some (19, true)⟩,
 ⟨some 23, .load false 1 (.t 22), some (19, true)⟩,
 ⟨some 24, .mov (.t 0), some (19, true)⟩,
 ⟨some 25, .mov (.t 7), some (19, true)⟩,
 ⟨some 26, .bin .sub (.t 25) (.k (.i .i64 1)), some (19, true)⟩,
 ⟨some 27, .iaddr (.slice 1) (.t 24) (.t 26), some (19, true)⟩,
 ⟨some 28, .load false 1 (.t 27), some (19, true)⟩,
 ⟨some 29, .call true 365 [(.t 23), (.t 28)], some (19, true)⟩,
 ⟨some 30, .pick (.t 19) (.t 29) (.k (.b false)), none⟩])
 (.cond (.t 30)
 .skip
 (.exit 2)))
 (.seq (.blk 3 (.reg [⟨some 33, .mov (.t 0), none⟩, ⟨some 34, .mov (.t 7), none⟩, ⟨some 35, .mov (.t 0), none⟩, ⟨some 36, .mov (.t 7), none⟩, ⟨some 37, .bin .sub (.t 36) (.k (.i .i64 1)), none⟩, ⟨some 38, .mov (.t 0), none⟩, ⟨some 39, .mov (.t 7), none⟩, ⟨some 40, .bin .sub (.t 39) (.k (.i .i64 1)), none⟩, ⟨some 41, .iaddr (.slice 1) (.t 38) (.t 40), none⟩, ⟨some 42, .load false 1 (.t 41), none⟩, ⟨some 43, .mov (.t 0), none⟩, ⟨some 44, .mov (.t 7), none⟩, ⟨some 45, .iaddr (.slice 1) (.t 43) (.t 44), none⟩, ⟨some 46, .load false 1 (.t 45), none⟩, ⟨some 47, .iaddr (.slice 1) (.t 33) (.t 34), none⟩, ⟨none, .store 1 (.t 47) (.t 42), none⟩, ⟨some 48, .iaddr (.slice 1) (.t 35) (.t 37), none⟩, ⟨none, .store 1 (.t 48) (.t 46), none⟩]))
 (.reg [⟨some 31, .mov (.t 7), none⟩, ⟨some 32, .bin .sub (.t 31) (.k (.i .i64 1)), none⟩, ⟨some 7, .mov (.t 32), none⟩])))
def L359_1 : AC := (.seq (.seq (.reg [⟨some 10, .mov (.t 6), none⟩, ⟨some 11, .mov (.t 2), none⟩, ⟨some 12, .bin .lss (.t 10) (.t 11), none⟩])
 (.cond (.t 12)
 .skip
 (.exit 0)))
 (.seq (.blk 1 (.seq (.reg [⟨some 15, .mov (.t 6), none⟩, ⟨some 7, .mov (.t 15), none⟩])
 (.blk 2 (.loop L359_2))))
 (.reg [⟨some 13, .mov (.t 6), none⟩, ⟨some 14, .bin .add (.t 13) (.k (.i .i64 1)), none⟩, ⟨some 6, .mov (.t 14), none⟩])))
def B359 : AC := (.seq (.reg [⟨some 8, .mov (.t 1), none⟩, ⟨some 9, .bin .add (.t 8) (.k (.i .i64 1)), none⟩, ⟨some 6, .mov (.t 9), none⟩])
 (.blk 0 (.loop L359_1)))
/-- slices.insertionSortOrdered[int] -/
def af359 : AFunc := { n := 49, depth := 6, kl := [], res := [], body := B359 }

def kn : Known := ⟨[]⟩

def lst : List (Nat × AFunc) := [(3, af3), (4, af4), (5, af5), (6, af6), (7, af7), (8, af8), (9, af9), (10, af10), (11, af11), (12, af12), (13, af13), (14, af14), (15, af15), (18, af18), (20, af20), (21, af21), (22, af22), (23, af23), (24, af24), (25, af25), (26, af26), (27, af27), (28, af28), (29, af29), (30, af30), (31, af31), (32, af32), (33, af33), (34, af34), (35, af35), (36, af36), (38, af38), (39, af39), (40, af40), (43, af43), (47, af47), (48, af48), (49, af49), (58, af58), (61, af61), (62, af62), (63, af63), (64, af64), (65, af65), (66, af66), (67, af67), (68, af68), (69, af69), (70, af70), (71, af71), (72, af72), (73, af73), (74, af74), (75, af75), (76, af76), (77, af77), (92, af92), (94, af94), (95, af95), (96, af96), (97, af97), (98, af98), (99, af99), (100, af100), (102, af102), (103, af103), (104, af104), (105, af105), (106, af106), (117, af117), (118, af118), (119, af119), (120, af120), (122, af122), (123, af123), (125, af125), (126, af126), (127, af127), (130, af130), (131, af131), (132, af132), (133, af133), (134, af134), (136, af136), (137, af137), (138, af138), (145, af145), (146, af146), (147, af147), (148, af148), (149, af149), (150, af150), (151, af151), (152, af152), (153, af153), (155, af155), (156, af156), (157, af157), (161, af161), (162, af162), (163, af163), (164, af164), (165, af165), (172, af172), (179, af179), (180, af180), (181, af181), (182, af182), (183, af183), (184, af184), (185, af185), (186, af186), (187, af187), (189, af189), (190, af190), (192, af192), (193, af193), (199, af199), (200, af200), (201, af201), (202, af202), (203, af203), (204, af204), (205, af205), (207, af207), (208, af208), (209, af209), (217, af217), (219, af219), (226, af226), (228, af228), (229, af229), (230, af230), (231, af231), (233, af233), (236, af236), (244, af244), (245, af245), (252, af252), (253, af253), (254, af254), (256, af256), (257, af257), (258, af258), (262, af262), (263, af263), (264, af264), (284, af284), (285, af285), (286, af286), (310, af310), (311, af311), (312, af312), (314, af314), (358, af358), (359, af359)]
theorem lst_ok : lst.all (fun x => fnOk Tryz.prog kn x.1 x.2) = true := by kernel_rfl
def tab (g : FuncId) : Option AFunc := al lst g

end Go.Proofs.YtopbdgdfnmlldaaGreatDoor
