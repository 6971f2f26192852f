/- The abstract interpreter's code of the functions that the laws of this seat reach, and that it is the program's: each by the kernel. Printed by a program. -/
import Derived.Test.YtbhclhgljnoioaaDoorTab1
import Derived.Test.YtbhclhgljnoioaaDoorProg
import Derived.KernelRfl
namespace Go.Proofs.YtbhclhgljnoioaaDoor
open Go Ai

def L86_1 : AC := (.seq (.seq (.reg [⟨some 19, .mov (.t 4), none⟩,
      ⟨some 20, .bin .geq (.t 19) (.k (.i .i64 8)), none⟩])
   (.cond (.t 20)
    .skip
    (.exit 0)))
  (.blk 1 (.seq (.reg [⟨some 21, .mov (.t 1), none⟩,
      ⟨some 22, .bin .rem (.t 21) (.k (.i .u64 100000000)), none⟩,
      ⟨some 23, .conv (.int .u32) (.t 22), none⟩,
      ⟨some 5, .mov (.t 23), none⟩])
   (.seq (.reg [⟨some 24, .mov (.t 1), none⟩,
      ⟨some 25, .bin .quo (.t 24) (.k (.i .u64 100000000)), none⟩,
      ⟨some 1, .mov (.t 25), none⟩])
   (.seq (.reg [⟨some 26, .mov (.t 5), none⟩,
      ⟨some 27, .bin .quo (.t 26) (.k (.i .u32 10000)), none⟩,
      ⟨some 28, .mov (.t 5), none⟩,
      ⟨some 29, .bin .rem (.t 28) (.k (.i .u32 10000)), none⟩,
      ⟨some 6, .mov (.t 27), none⟩,
      ⟨some 7, .mov (.t 29), none⟩])
   (.seq (.reg [⟨some 30, .mov (.t 7), none⟩,
      ⟨some 31, .bin .quo (.t 30) (.k (.i .u32 100)), none⟩,
      ⟨some 32, .bin .mul (.t 31) (.k (.i .u32 2)), none⟩,
      ⟨some 33, .mov (.t 7), none⟩,
      ⟨some 34, .bin .rem (.t 33) (.k (.i .u32 100)), none⟩,
      ⟨some 35, .bin .mul (.t 34) (.k (.i .u32 2)), none⟩,
      ⟨some 8, .mov (.t 32), none⟩,
      ⟨some 9, .mov (.t 35), none⟩])
   (.seq (.reg [⟨some 36, .mov (.t 6), none⟩,
      ⟨some 37, .bin .quo (.t 36) (.k (.i .u32 100)), none⟩,
      ⟨some 38, .bin .mul (.t 37) (.k (.i .u32 2)), none⟩,
      ⟨some 39, .mov (.t 6), none⟩,
      ⟨some 40, .bin .rem (.t 39) (.k (.i .u32 100)), none⟩,
      ⟨some 41, .bin .mul (.t 40) (.k (.i .u32 2)), none⟩,
      ⟨some 10, .mov (.t 38), none⟩,
      ⟨some 11, .mov (.t 41), none⟩])
   (.seq (.reg [⟨some 42, .mov (.t 0), none⟩,
      ⟨some 43, .mov (.t 4), none⟩,
      ⟨some 44, .bin .sub (.t 43) (.k (.i .i64 1)), none⟩,
      ⟨some 45, .mov (.t 0), none⟩,
      ⟨some 46, .mov (.t 4), none⟩,
      ⟨some 47, .bin .sub (.t 46) (.k (.i .i64 2)), none⟩,
      ⟨some 48, .mov (.t 9), none⟩,
      ⟨some 49, .bin .add (.t 48) (.k (.i .u32 1)), none⟩,
      ⟨some 50, .idx .str (.k (.s [48, 48, 48, 49, 48, 50, 48, 51, 48, 52, 48, 53, 48, 54, 48, 55, 48, 56, 48, 57, 49, 48, 49, 49, 49, 50, 49, 51, 49, 52, 49, 53, 49, 54, 49, 55, 49, 56, 49, 57, 50, 48, 50, 49, 50, 50, 50, 51, 50, 52, 50, 53, 50, 54, 50, 55, 50, 56, 50, 57, 51, 48, 51, 49, 51, 50, 51, 51, 51, 52, 51, 53, 51, 54, 51, 55, 51, 56, 51, 57, 52, 48, 52, 49, 52, 50, 52, 51, 52, 52, 52, 53, 52, 54, 52, 55, 52, 56, 52, 57, 53, 48, 53, 49, 53, 50, 53, 51, 53, 52, 53, 53, 53, 54, 53, 55, 53, 56, 53, 57, 54, 48, 54, 49, 54, 50, 54, 51, 54, 52, 54, 53, 54, 54, 54, 55, 54, 56, 54, 57, 55, 48, 55, 49, 55, 50, 55, 51, 55, 52, 55, 53, 55, 54, 55, 55, 55, 56, 55, 57, 56, 48, 56, 49, 56, 50, 56, 51, 56, 52, 56, 53, 56, 54, 56, 55, 56, 56, 56, 57, 57, 48, 57, 49, 57, 50, 57, 51, 57, 52, 57, 53, 57, 54, 57, 55, 57, 56, 57, 57])) (.t 49), none⟩,
      ⟨some 51, .mov (.t 9), none⟩,
      ⟨some 52, .idx .str (.k (.s [48, 48, 48, 49, 48, 50, 48, 51, 48, 52, 48, 53, 48, 54, 48, 55, 48, 56, 48, 57, 49, 48, 49, 49, 49, 50, 49, 51, 49, 52, 49, 53, 49, 54, 49, 55, 49, 56, 49, 57, 50, 48, 50, 49, 50, 50, 50, 51, 50, 52, 50, 53, 50, 54, 50, 55, 50, 56, 50, 57, 51, 48, 51, 49, 51, 50, 51, 51, 51, 52, 51, 53, 51, 54, 51, 55, 51, 56, 51, 57, 52, 48, 52, 49, 52, 50, 52, 51, 52, 52, 52, 53, 52, 54, 52, 55, 52, 56, 52, 57, 53, 48, 53, 49, 53, 50, 53, 51, 53, 52, 53, 53, 53, 54, 53, 55, 53, 56, 53, 57, 54, 48, 54, 49, 54, 50, 54, 51, 54, 52, 54, 53, 54, 54, 54, 55, 54, 56, 54, 57, 55, 48, 55, 49, 55, 50, 55, 51, 55, 52, 55, 53, 55, 54, 55, 55, 55, 56, 55, 57, 56, 48, 56, 49, 56, 50, 56, 51, 56, 52, 56, 53, 56, 54, 56, 55, 56, 56, 56, 57, 57, 48, 57, 49, 57, 50, 57, 51, 57, 52, 57, 53, 57, 54, 57, 55, 57, 56, 57, 57])) (.t 51), none⟩,
      ⟨some 53, .iaddr (.slice 1) (.t 42) (.t 44), none⟩,
      ⟨none, .store 1 (.t 53) (.t 50), none⟩,
      ⟨some 54, .iaddr (.slice 1) (.t 45) (.t 47), none⟩,
      ⟨none, .store 1 (.t 54) (.t 52), none⟩])
   (.seq (.reg [⟨some 55, .mov (.t 0), none⟩,
      ⟨some 56, .mov (.t 4), none⟩,
      ⟨some 57, .bin .sub (.t 56) (.k (.i .i64 3)), none⟩,
      ⟨some 58, .mov (.t 0), none⟩,
      ⟨some 59, .mov (.t 4), none⟩,
      ⟨some 60, .bin .sub (.t 59) (.k (.i .i64 4)), none⟩,
      ⟨some 61, .mov (.t 8), none⟩,
      ⟨some 62, .bin .add (.t 61) (.k (.i .u32 1)), none⟩,
      ⟨some 63, .idx .str (.k (.s [48, 48, 48, 49, 48, 50, 48, 51, 48, 52, 48, 53, 48, 54, 48, 55, 48, 56, 48, 57, 49, 48, 49, 49, 49, 50, 49, 51, 49, 52, 49, 53, 49, 54, 49, 55, 49, 56, 49, 57, 50, 48, 50, 49, 50, 50, 50, 51, 50, 52, 50, 53, 50, 54, 50, 55, 50, 56, 50, 57, 51, 48, 51, 49, 51, 50, 51, 51, 51, 52, 51, 53, 51, 54, 51, 55, 51, 56, 51, 57, 52, 48, 52, 49, 52, 50, 52, 51, 52, 52, 52, 53, 52, 54, 52, 55, 52, 56, 52, 57, 53, 48, 53, 49, 53, 50, 53, 51, 53, 52, 53, 53, 53, 54, 53, 55, 53, 56, 53, 57, 54, 48, 54, 49, 54, 50, 54, 51, 54, 52, 54, 53, 54, 54, 54, 55, 54, 56, 54, 57, 55, 48, 55, 49, 55, 50, 55, 51, 55, 52, 55, 53, 55, 54, 55, 55, 55, 56, 55, 57, 56, 48, 56, 49, 56, 50, 56, 51, 56, 52, 56, 53, 56, 54, 56, 55, 56, 56, 56, 57, 57, 48, 57, 49, 57, 50, 57, 51, 57, 52, 57, 53, 57, 54, 57, 55, 57, 56, 57, 57])) (.t 62), none⟩,
      ⟨some 64, .mov (.t 8), none⟩,
      ⟨some 65, .idx .str (.k (.s [48, 48, 48, 49, 48, 50, 48, 51, 48, 52, 48, 53, 48, 54, 48, 55, 48, 56, 48, 57, 49, 48, 49, 49, 49, 50, 49, 51, 49, 52, 49, 53, 49, 54, 49, 55, 49, 56, 49, 57, 50, 48, 50, 49, 50, 50, 50, 51, 50, 52, 50, 53, 50, 54, 50, 55, 50, 56, 50, 57, 51, 48, 51, 49, 51, 50, 51, 51, 51, 52, 51, 53, 51, 54, 51, 55, 51, 56, 51, 57, 52, 48, 52, 49, 52, 50, 52, 51, 52, 52, 52, 53, 52, 54, 52, 55, 52, 56, 52, 57, 53, 48, 53, 49, 53, 50, 53, 51, 53, 52, 53, 53, 53, 54, 53, 55, 53, 56, 53, 57, 54, 48, 54, 49, 54, 50, 54, 51, 54, 52, 54, 53, 54, 54, 54, 55, 54, 56, 54, 57, 55, 48, 55, 49, 55, 50, 55, 51, 55, 52, 55, 53, 55, 54, 55, 55, 55, 56, 55, 57, 56, 48, 56, 49, 56, 50, 56, 51, 56, 52, 56, 53, 56, 54, 56, 55, 56, 56, 56, 57, 57, 48, 57, 49, 57, 50, 57, 51, 57, 52, 57, 53, 57, 54, 57, 55, 57, 56, 57, 57])) (.t 64), none⟩,
      ⟨some 66, .iaddr (.slice 1) (.t 55) (.t 57), none⟩,
      ⟨none, .store 1 (.t 66) (.t 63), none⟩,
      ⟨some 67, .iaddr (.slice 1) (.t 58) (.t 60), none⟩,
      ⟨none, .store 1 (.t 67) (.t 65), none⟩])
   (.seq (.reg [⟨some 68, .mov (.t 0), none⟩,
      ⟨some 69, .mov (.t 4), none⟩,
      ⟨some 70, .bin .sub (.t 69) (.k (.i .i64 5)), none⟩,
      ⟨some 71, .mov (.t 0), none⟩,
      ⟨some 72, .mov (.t 4), none⟩,
      ⟨some 73, .bin .sub (.t 72) (.k (.i .i64 6)), none⟩,
      ⟨some 74, .mov (.t 11), none⟩,
      ⟨some 75, .bin .add (.t 74) (.k (.i .u32 1)), none⟩,
      ⟨some 76, .idx .str (.k (.s [48, 48, 48, 49, 48, 50, 48, 51, 48, 52, 48, 53, 48, 54, 48, 55, 48, 56, 48, 57, 49, 48, 49, 49, 49, 50, 49, 51, 49, 52, 49, 53, 49, 54, 49, 55, 49, 56, 49, 57, 50, 48, 50, 49, 50, 50, 50, 51, 50, 52, 50, 53, 50, 54, 50, 55, 50, 56, 50, 57, 51, 48, 51, 49, 51, 50, 51, 51, 51, 52, 51, 53, 51, 54, 51, 55, 51, 56, 51, 57, 52, 48, 52, 49, 52, 50, 52, 51, 52, 52, 52, 53, 52, 54, 52, 55, 52, 56, 52, 57, 53, 48, 53, 49, 53, 50, 53, 51, 53, 52, 53, 53, 53, 54, 53, 55, 53, 56, 53, 57, 54, 48, 54, 49, 54, 50, 54, 51, 54, 52, 54, 53, 54, 54, 54, 55, 54, 56, 54, 57, 55, 48, 55, 49, 55, 50, 55, 51, 55, 52, 55, 53, 55, 54, 55, 55, 55, 56, 55, 57, 56, 48, 56, 49, 56, 50, 56, 51, 56, 52, 56, 53, 56, 54, 56, 55, 56, 56, 56, 57, 57, 48, 57, 49, 57, 50, 57, 51, 57, 52, 57, 53, 57, 54, 57, 55, 57, 56, 57, 57])) (.t 75), none⟩,
      ⟨some 77, .mov (.t 11), none⟩,
      ⟨some 78, .idx .str (.k (.s [48, 48, 48, 49, 48, 50, 48, 51, 48, 52, 48, 53, 48, 54, 48, 55, 48, 56, 48, 57, 49, 48, 49, 49, 49, 50, 49, 51, 49, 52, 49, 53, 49, 54, 49, 55, 49, 56, 49, 57, 50, 48, 50, 49, 50, 50, 50, 51, 50, 52, 50, 53, 50, 54, 50, 55, 50, 56, 50, 57, 51, 48, 51, 49, 51, 50, 51, 51, 51, 52, 51, 53, 51, 54, 51, 55, 51, 56, 51, 57, 52, 48, 52, 49, 52, 50, 52, 51, 52, 52, 52, 53, 52, 54, 52, 55, 52, 56, 52, 57, 53, 48, 53, 49, 53, 50, 53, 51, 53, 52, 53, 53, 53, 54, 53, 55, 53, 56, 53, 57, 54, 48, 54, 49, 54, 50, 54, 51, 54, 52, 54, 53, 54, 54, 54, 55, 54, 56, 54, 57, 55, 48, 55, 49, 55, 50, 55, 51, 55, 52, 55, 53, 55, 54, 55, 55, 55, 56, 55, 57, 56, 48, 56, 49, 56, 50, 56, 51, 56, 52, 56, 53, 56, 54, 56, 55, 56, 56, 56, 57, 57, 48, 57, 49, 57, 50, 57, 51, 57, 52, 57, 53, 57, 54, 57, 55, 57, 56, 57, 57])) (.t 77), none⟩,
      ⟨some 79, .iaddr (.slice 1) (.t 68) (.t 70), none⟩,
      ⟨none, .store 1 (.t 79) (.t 76), none⟩,
      ⟨some 80, .iaddr (.slice 1) (.t 71) (.t 73), none⟩,
      ⟨none, .store 1 (.t 80) (.t 78), none⟩])
   (.seq (.reg [⟨some 81, .mov (.t 0), none⟩,
      ⟨some 82, .mov (.t 4), none⟩,
      ⟨some 83, .bin .sub (.t 82) (.k (.i .i64 7)), none⟩,
      ⟨some 84, .mov (.t 0), none⟩,
      ⟨some 85, .mov (.t 4), none⟩,
      ⟨some 86, .bin .sub (.t 85) (.k (.i .i64 8)), none⟩,
      ⟨some 87, .mov (.t 10), none⟩,
      ⟨some 88, .bin .add (.t 87) (.k (.i .u32 1)), none⟩,
      ⟨some 89, .idx .str (.k (.s [48, 48, 48, 49, 48, 50, 48, 51, 48, 52, 48, 53, 48, 54, 48, 55, 48, 56, 48, 57, 49, 48, 49, 49, 49, 50, 49, 51, 49, 52, 49, 53, 49, 54, 49, 55, 49, 56, 49, 57, 50, 48, 50, 49, 50, 50, 50, 51, 50, 52, 50, 53, 50, 54, 50, 55, 50, 56, 50, 57, 51, 48, 51, 49, 51, 50, 51, 51, 51, 52, 51, 53, 51, 54, 51, 55, 51, 56, 51, 57, 52, 48, 52, 49, 52, 50, 52, 51, 52, 52, 52, 53, 52, 54, 52, 55, 52, 56, 52, 57, 53, 48, 53, 49, 53, 50, 53, 51, 53, 52, 53, 53, 53, 54, 53, 55, 53, 56, 53, 57, 54, 48, 54, 49, 54, 50, 54, 51, 54, 52, 54, 53, 54, 54, 54, 55, 54, 56, 54, 57, 55, 48, 55, 49, 55, 50, 55, 51, 55, 52, 55, 53, 55, 54, 55, 55, 55, 56, 55, 57, 56, 48, 56, 49, 56, 50, 56, 51, 56, 52, 56, 53, 56, 54, 56, 55, 56, 56, 56, 57, 57, 48, 57, 49, 57, 50, 57, 51, 57, 52, 57, 53, 57, 54, 57, 55, 57, 56, 57, 57])) (.t 88), none⟩,
      ⟨some 90, .mov (.t 10), none⟩,
      ⟨some 91, .idx .str (.k (.s [48, 48, 48, 49, 48, 50, 48, 51, 48, 52, 48, 53, 48, 54, 48, 55, 48, 56, 48, 57, 49, 48, 49, 49, 49, 50, 49, 51, 49, 52, 49, 53, 49, 54, 49, 55, 49, 56, 49, 57, 50, 48, 50, 49, 50, 50, 50, 51, 50, 52, 50, 53, 50, 54, 50, 55, 50, 56, 50, 57, 51, 48, 51, 49, 51, 50, 51, 51, 51, 52, 51, 53, 51, 54, 51, 55, 51, 56, 51, 57, 52, 48, 52, 49, 52, 50, 52, 51, 52, 52, 52, 53, 52, 54, 52, 55, 52, 56, 52, 57, 53, 48, 53, 49, 53, 50, 53, 51, 53, 52, 53, 53, 53, 54, 53, 55, 53, 56, 53, 57, 54, 48, 54, 49, 54, 50, 54, 51, 54, 52, 54, 53, 54, 54, 54, 55, 54, 56, 54, 57, 55, 48, 55, 49, 55, 50, 55, 51, 55, 52, 55, 53, 55, 54, 55, 55, 55, 56, 55, 57, 56, 48, 56, 49, 56, 50, 56, 51, 56, 52, 56, 53, 56, 54, 56, 55, 56, 56, 56, 57, 57, 48, 57, 49, 57, 50, 57, 51, 57, 52, 57, 53, 57, 54, 57, 55, 57, 56, 57, 57])) (.t 90), none⟩,
      ⟨some 92, .iaddr (.slice 1) (.t 81) (.t 83), none⟩,
      ⟨none, .store 1 (.t 92) (.t 89), none⟩,
      ⟨some 93, .iaddr (.slice 1) (.t 84) (.t 86), none⟩,
      ⟨none, .store 1 (.t 93) (.t 91), none⟩])
   (.reg [⟨some 94, .mov (.t 4), none⟩,
     ⟨some 95, .bin .sub (.t 94) (.k (.i .i64 8)), none⟩,
     ⟨some 4, .mov (.t 95), none⟩]))))))))))))
def B86 : AC := (.seq (.reg [⟨some 17, .mov (.t 0), none⟩,
     ⟨some 18, .len .slice (.t 17), none⟩,
     ⟨some 4, .mov (.t 18), none⟩])
  (.seq (.blk 0 (.loop L86_1))
  (.seq (.reg [⟨some 96, .mov (.t 1), none⟩,
     ⟨some 97, .conv (.int .u32) (.t 96), none⟩,
     ⟨some 12, .mov (.t 97), none⟩])
  (.seq (.seq (.reg [⟨some 98, .mov (.t 4), none⟩,
      ⟨some 99, .bin .geq (.t 98) (.k (.i .i64 4)), none⟩])
   (.cond (.t 99)
    (.seq (.reg [⟨some 100, .mov (.t 12), none⟩,
       ⟨some 101, .bin .rem (.t 100) (.k (.i .u32 10000)), none⟩,
       ⟨some 13, .mov (.t 101), none⟩])
    (.seq (.reg [⟨some 102, .mov (.t 12), none⟩,
       ⟨some 103, .bin .quo (.t 102) (.k (.i .u32 10000)), none⟩,
       ⟨some 12, .mov (.t 103), none⟩])
    (.seq (.reg [⟨some 104, .mov (.t 13), none⟩,
       ⟨some 105, .bin .quo (.t 104) (.k (.i .u32 100)), none⟩,
       ⟨some 106, .bin .mul (.t 105) (.k (.i .u32 2)), none⟩,
       ⟨some 107, .mov (.t 13), none⟩,
       ⟨some 108, .bin .rem (.t 107) (.k (.i .u32 100)), none⟩,
       ⟨some 109, .bin .mul (.t 108) (.k (.i .u32 2)), none⟩,
       ⟨some 14, .mov (.t 106), none⟩,
       ⟨some 15, .mov (.t 109), none⟩])
    (.seq (.reg [⟨some 110, .mov (.t 0), none⟩,
       ⟨some 111, .mov (.t 4), none⟩,
       ⟨some 112, .bin .sub (.t 111) (.k (.i .i64 1)), none⟩,
       ⟨some 113, .mov (.t 0), none⟩,
       ⟨some 114, .mov (.t 4), none⟩,
       ⟨some 115, .bin .sub (.t 114) (.k (.i .i64 2)), none⟩,
       ⟨some 116, .mov (.t 15), none⟩,
       ⟨some 117, .bin .add (.t 116) (.k (.i .u32 1)), none⟩,
       ⟨some 118, .idx .str (.k (.s [48, 48, 48, 49, 48, 50, 48, 51, 48, 52, 48, 53, 48, 54, 48, 55, 48, 56, 48, 57, 49, 48, 49, 49, 49, 50, 49, 51, 49, 52, 49, 53, 49, 54, 49, 55, 49, 56, 49, 57, 50, 48, 50, 49, 50, 50, 50, 51, 50, 52, 50, 53, 50, 54, 50, 55, 50, 56, 50, 57, 51, 48, 51, 49, 51, 50, 51, 51, 51, 52, 51, 53, 51, 54, 51, 55, 51, 56, 51, 57, 52, 48, 52, 49, 52, 50, 52, 51, 52, 52, 52, 53, 52, 54, 52, 55, 52, 56, 52, 57, 53, 48, 53, 49, 53, 50, 53, 51, 53, 52, 53, 53, 53, 54, 53, 55, 53, 56, 53, 57, 54, 48, 54, 49, 54, 50, 54, 51, 54, 52, 54, 53, 54, 54, 54, 55, 54, 56, 54, 57, 55, 48, 55, 49, 55, 50, 55, 51, 55, 52, 55, 53, 55, 54, 55, 55, 55, 56, 55, 57, 56, 48, 56, 49, 56, 50, 56, 51, 56, 52, 56, 53, 56, 54, 56, 55, 56, 56, 56, 57, 57, 48, 57, 49, 57, 50, 57, 51, 57, 52, 57, 53, 57, 54, 57, 55, 57, 56, 57, 57])) (.t 117), none⟩,
       ⟨some 119, .mov (.t 15), none⟩,
       ⟨some 120, .idx .str (.k (.s [48, 48, 48, 49, 48, 50, 48, 51, 48, 52, 48, 53, 48, 54, 48, 55, 48, 56, 48, 57, 49, 48, 49, 49, 49, 50, 49, 51, 49, 52, 49, 53, 49, 54, 49, 55, 49, 56, 49, 57, 50, 48, 50, 49, 50, 50, 50, 51, 50, 52, 50, 53, 50, 54, 50, 55, 50, 56, 50, 57, 51, 48, 51, 49, 51, 50, 51, 51, 51, 52, 51, 53, 51, 54, 51, 55, 51, 56, 51, 57, 52, 48, 52, 49, 52, 50, 52, 51, 52, 52, 52, 53, 52, 54, 52, 55, 52, 56, 52, 57, 53, 48, 53, 49, 53, 50, 53, 51, 53, 52, 53, 53, 53, 54, 53, 55, 53, 56, 53, 57, 54, 48, 54, 49, 54, 50, 54, 51, 54, 52, 54, 53, 54, 54, 54, 55, 54, 56, 54, 57, 55, 48, 55, 49, 55, 50, 55, 51, 55, 52, 55, 53, 55, 54, 55, 55, 55, 56, 55, 57, 56, 48, 56, 49, 56, 50, 56, 51, 56, 52, 56, 53, 56, 54, 56, 55, 56, 56, 56, 57, 57, 48, 57, 49, 57, 50, 57, 51, 57, 52, 57, 53, 57, 54, 57, 55, 57, 56, 57, 57])) (.t 119), none⟩,
       ⟨some 121, .iaddr (.slice 1) (.t 110) (.t 112), none⟩,
       ⟨none, .store 1 (.t 121) (.t 118), none⟩,
       ⟨some 122, .iaddr (.slice 1) (.t 113) (.t 115), none⟩,
       ⟨none, .store 1 (.t 122) (.t 120), none⟩])
    (.seq (.reg [⟨some 123, .mov (.t 0), none⟩,
       ⟨some 124, .mov (.t 4), none⟩,
       ⟨some 125, .bin .sub (.t 124) (.k (.i .i64 3)), none⟩,
       ⟨some 126, .mov (.t 0), none⟩,
       ⟨some 127, .mov (.t 4), none⟩,
       ⟨some 128, .bin .sub (.t 127) (.k (.i .i64 4)), none⟩,
       ⟨some 129, .mov (.t 14), none⟩,
       ⟨some 130, .bin .add (.t 129) (.k (.i .u32 1)), none⟩,
       ⟨some 131, .idx .str (.k (.s [48, 48, 48, 49, 48, 50, 48, 51, 48, 52, 48, 53, 48, 54, 48, 55, 48, 56, 48, 57, 49, 48, 49, 49, 49, 50, 49, 51, 49, 52, 49, 53, 49, 54, 49, 55, 49, 56, 49, 57, 50, 48, 50, 49, 50, 50, 50, 51, 50, 52, 50, 53, 50, 54, 50, 55, 50, 56, 50, 57, 51, 48, 51, 49, 51, 50, 51, 51, 51, 52, 51, 53, 51, 54, 51, 55, 51, 56, 51, 57, 52, 48, 52, 49, 52, 50, 52, 51, 52, 52, 52, 53, 52, 54, 52, 55, 52, 56, 52, 57, 53, 48, 53, 49, 53, 50, 53, 51, 53, 52, 53, 53, 53, 54, 53, 55, 53, 56, 53, 57, 54, 48, 54, 49, 54, 50, 54, 51, 54, 52, 54, 53, 54, 54, 54, 55, 54, 56, 54, 57, 55, 48, 55, 49, 55, 50, 55, 51, 55, 52, 55, 53, 55, 54, 55, 55, 55, 56, 55, 57, 56, 48, 56, 49, 56, 50, 56, 51, 56, 52, 56, 53, 56, 54, 56, 55, 56, 56, 56, 57, 57, 48, 57, 49, 57, 50, 57, 51, 57, 52, 57, 53, 57, 54, 57, 55, 57, 56, 57, 57])) (.t 130), none⟩,
       ⟨some 132, .mov (.t 14), none⟩,
       ⟨some 133, .idx .str (.k (.s [48, 48, 48, 49, 48, 50, 48, 51, 48, 52, 48, 53, 48, 54, 48, 55, 48, 56, 48, 57, 49, 48, 49, 49, 49, 50, 49, 51, 49, 52, 49, 53, 49, 54, 49, 55, 49, 56, 49, 57, 50, 48, 50, 49, 50, 50, 50, 51, 50, 52, 50, 53, 50, 54, 50, 55, 50, 56, 50, 57, 51, 48, 51, 49, 51, 50, 51, 51, 51, 52, 51, 53, 51, 54, 51, 55, 51, 56, 51, 57, 52, 48, 52, 49, 52, 50, 52, 51, 52, 52, 52, 53, 52, 54, 52, 55, 52, 56, 52, 57, 53, 48, 53, 49, 53, 50, 53, 51, 53, 52, 53, 53, 53, 54, 53, 55, 53, 56, 53, 57, 54, 48, 54, 49, 54, 50, 54, 51, 54, 52, 54, 53, 54, 54, 54, 55, 54, 56, 54, 57, 55, 48, 55, 49, 55, 50, 55, 51, 55, 52, 55, 53, 55, 54, 55, 55, 55, 56, 55, 57, 56, 48, 56, 49, 56, 50, 56, 51, 56, 52, 56, 53, 56, 54, 56, 55, 56, 56, 56, 57, 57, 48, 57, 49, 57, 50, 57, 51, 57, 52, 57, 53, 57, 54, 57, 55, 57, 56, 57, 57])) (.t 132), none⟩,
       ⟨some 134, .iaddr (.slice 1) (.t 123) (.t 125), none⟩,
       ⟨none, .store 1 (.t 134) (.t 131), none⟩,
       ⟨some 135, .iaddr (.slice 1) (.t 126) (.t 128), none⟩,
       ⟨none, .store 1 (.t 135) (.t 133), none⟩])
    (.reg [⟨some 136, .mov (.t 4), none⟩,
      ⟨some 137, .bin .sub (.t 136) (.k (.i .i64 4)), none⟩,
      ⟨some 4, .mov (.t 137), none⟩]))))))
    .skip))
  (.seq (.seq (.reg [⟨some 138, .mov (.t 4), none⟩,
      ⟨some 139, .bin .geq (.t 138) (.k (.i .i64 2)), none⟩])
   (.cond (.t 139)
    (.seq (.reg [⟨some 140, .mov (.t 12), none⟩,
       ⟨some 141, .bin .rem (.t 140) (.k (.i .u32 100)), none⟩,
       ⟨some 142, .bin .mul (.t 141) (.k (.i .u32 2)), none⟩,
       ⟨some 16, .mov (.t 142), none⟩])
    (.seq (.reg [⟨some 143, .mov (.t 12), none⟩,
       ⟨some 144, .bin .quo (.t 143) (.k (.i .u32 100)), none⟩,
       ⟨some 12, .mov (.t 144), none⟩])
    (.seq (.reg [⟨some 145, .mov (.t 0), none⟩,
       ⟨some 146, .mov (.t 4), none⟩,
       ⟨some 147, .bin .sub (.t 146) (.k (.i .i64 1)), none⟩,
       ⟨some 148, .mov (.t 0), none⟩,
       ⟨some 149, .mov (.t 4), none⟩,
       ⟨some 150, .bin .sub (.t 149) (.k (.i .i64 2)), none⟩,
       ⟨some 151, .mov (.t 16), none⟩,
       ⟨some 152, .bin .add (.t 151) (.k (.i .u32 1)), none⟩,
       ⟨some 153, .idx .str (.k (.s [48, 48, 48, 49, 48, 50, 48, 51, 48, 52, 48, 53, 48, 54, 48, 55, 48, 56, 48, 57, 49, 48, 49, 49, 49, 50, 49, 51, 49, 52, 49, 53, 49, 54, 49, 55, 49, 56, 49, 57, 50, 48, 50, 49, 50, 50, 50, 51, 50, 52, 50, 53, 50, 54, 50, 55, 50, 56, 50, 57, 51, 48, 51, 49, 51, 50, 51, 51, 51, 52, 51, 53, 51, 54, 51, 55, 51, 56, 51, 57, 52, 48, 52, 49, 52, 50, 52, 51, 52, 52, 52, 53, 52, 54, 52, 55, 52, 56, 52, 57, 53, 48, 53, 49, 53, 50, 53, 51, 53, 52, 53, 53, 53, 54, 53, 55, 53, 56, 53, 57, 54, 48, 54, 49, 54, 50, 54, 51, 54, 52, 54, 53, 54, 54, 54, 55, 54, 56, 54, 57, 55, 48, 55, 49, 55, 50, 55, 51, 55, 52, 55, 53, 55, 54, 55, 55, 55, 56, 55, 57, 56, 48, 56, 49, 56, 50, 56, 51, 56, 52, 56, 53, 56, 54, 56, 55, 56, 56, 56, 57, 57, 48, 57, 49, 57, 50, 57, 51, 57, 52, 57, 53, 57, 54, 57, 55, 57, 56, 57, 57])) (.t 152), none⟩,
       ⟨some 154, .mov (.t 16), none⟩,
       ⟨some 155, .idx .str (.k (.s [48, 48, 48, 49, 48, 50, 48, 51, 48, 52, 48, 53, 48, 54, 48, 55, 48, 56, 48, 57, 49, 48, 49, 49, 49, 50, 49, 51, 49, 52, 49, 53, 49, 54, 49, 55, 49, 56, 49, 57, 50, 48, 50, 49, 50, 50, 50, 51, 50, 52, 50, 53, 50, 54, 50, 55, 50, 56, 50, 57, 51, 48, 51, 49, 51, 50, 51, 51, 51, 52, 51, 53, 51, 54, 51, 55, 51, 56, 51, 57, 52, 48, 52, 49, 52, 50, 52, 51, 52, 52, 52, 53, 52, 54, 52, 55, 52, 56, 52, 57, 53, 48, 53, 49, 53, 50, 53, 51, 53, 52, 53, 53, 53, 54, 53, 55, 53, 56, 53, 57, 54, 48, 54, 49, 54, 50, 54, 51, 54, 52, 54, 53, 54, 54, 54, 55, 54, 56, 54, 57, 55, 48, 55, 49, 55, 50, 55, 51, 55, 52, 55, 53, 55, 54, 55, 55, 55, 56, 55, 57, 56, 48, 56, 49, 56, 50, 56, 51, 56, 52, 56, 53, 56, 54, 56, 55, 56, 56, 56, 57, 57, 48, 57, 49, 57, 50, 57, 51, 57, 52, 57, 53, 57, 54, 57, 55, 57, 56, 57, 57])) (.t 154), none⟩,
       ⟨some 156, .iaddr (.slice 1) (.t 145) (.t 147), none⟩,
       ⟨none, .store 1 (.t 156) (.t 153), none⟩,
       ⟨some 157, .iaddr (.slice 1) (.t 148) (.t 150), none⟩,
       ⟨none, .store 1 (.t 157) (.t 155), none⟩])
    (.reg [⟨some 158, .mov (.t 4), none⟩,
      ⟨some 159, .bin .sub (.t 158) (.k (.i .i64 2)), none⟩,
      ⟨some 4, .mov (.t 159), none⟩]))))
    .skip))
  (.seq (.reg [⟨some 160, .mov (.t 4), none⟩,
     ⟨some 161, .bin .gtr (.t 160) (.k (.i .i64 0)), none⟩])
  (.cond (.t 161)
   (.reg [⟨some 162, .mov (.t 0), none⟩,
     ⟨some 163, .mov (.t 12), none⟩,
     ⟨some 164, .bin .add (.k (.i .u32 48)) (.t 163), none⟩,
     ⟨some 165, .conv (.int .u8) (.t 164), none⟩,
     ⟨some 166, .iaddr (.slice 1) (.t 162) (.k (.i .i64 0)), none⟩,
     ⟨none, .store 1 (.t 166) (.t 165), none⟩])
   .skip)))))))
/-- internal/strconv.formatBase10 -/
def af86 : AFunc := { n := 167, depth := 8, kl := [], res := [], body := B86 }

def L87_2 : AC := (.seq (.seq (.reg [⟨some 66, .mov (.t 1), none⟩,
      ⟨some 67, .mov (.t 17), none⟩,
      ⟨some 68, .bin .geq (.t 66) (.t 67), none⟩])
   (.cond (.t 68)
    .skip
    (.exit 2)))
  (.blk 3 (.seq (.reg [⟨some 69, .mov (.t 13), none⟩,
      ⟨some 70, .bin .sub (.t 69) (.k (.i .i64 1)), none⟩,
      ⟨some 13, .mov (.t 70), none⟩])
   (.seq (.reg [⟨some 71, .mov (.t 1), none⟩,
      ⟨some 72, .mov (.t 17), none⟩,
      ⟨some 73, .bin .quo (.t 71) (.t 72), none⟩,
      ⟨some 18, .mov (.t 73), none⟩])
   (.seq (.reg [⟨some 74, .mov (.t 13), none⟩,
      ⟨some 75, .mov (.t 1), none⟩,
      ⟨some 76, .mov (.t 18), none⟩,
      ⟨some 77, .mov (.t 17), none⟩,
      ⟨some 78, .bin .mul (.t 76) (.t 77), none⟩,
      ⟨some 79, .bin .sub (.t 75) (.t 78), none⟩,
      ⟨some 80, .idx .str (.k (.s [48, 49, 50, 51, 52, 53, 54, 55, 56, 57, 97, 98, 99, 100, 101, 102, 103, 104, 105, 106, 107, 108, 109, 110, 111, 112, 113, 114, 115, 116, 117, 118, 119, 120, 121, 122])) (.t 79), none⟩,
      ⟨some 81, .iaddr (.arr 65 1) (.t 12) (.t 74), none⟩,
      ⟨none, .store 1 (.t 81) (.t 80), none⟩])
   (.reg [⟨some 82, .mov (.t 18), none⟩,
     ⟨some 1, .mov (.t 82), none⟩]))))))
def L87_1 : AC := (.seq (.seq (.reg [⟨some 44, .mov (.t 1), none⟩,
      ⟨some 45, .mov (.t 15), none⟩,
      ⟨some 46, .bin .geq (.t 44) (.t 45), none⟩])
   (.cond (.t 46)
    .skip
    (.exit 0)))
  (.blk 1 (.seq (.reg [⟨some 47, .mov (.t 13), none⟩,
      ⟨some 48, .bin .sub (.t 47) (.k (.i .i64 1)), none⟩,
      ⟨some 13, .mov (.t 48), none⟩])
   (.seq (.reg [⟨some 49, .mov (.t 13), none⟩,
      ⟨some 50, .mov (.t 1), none⟩,
      ⟨some 51, .mov (.t 16), none⟩,
      ⟨some 52, .bin .and (.t 50) (.t 51), none⟩,
      ⟨some 53, .idx .str (.k (.s [48, 49, 50, 51, 52, 53, 54, 55, 56, 57, 97, 98, 99, 100, 101, 102, 103, 104, 105, 106, 107, 108, 109, 110, 111, 112, 113, 114, 115, 116, 117, 118, 119, 120, 121, 122])) (.t 52), none⟩,
      ⟨some 54, .iaddr (.arr 65 1) (.t 12) (.t 49), none⟩,
      ⟨none, .store 1 (.t 54) (.t 53), none⟩])
   (.reg [⟨some 55, .mov (.t 1), none⟩,
     ⟨some 56, .mov (.t 14), none⟩,
     ⟨some 57, .bin .shr (.t 55) (.t 56), none⟩,
     ⟨some 1, .mov (.t 57), none⟩])))))
def B87 : AC := (.seq (.reg [⟨some 10, .movnil 5, none⟩,
     ⟨some 11, .mov (.k (.s [])), none⟩])
  (.seq (.seq (.reg [⟨some 19, .mov (.t 2), none⟩,
      ⟨some 20, .bin .lss (.t 19) (.k (.i .i64 2)), none⟩,
      ⟨some 21, .mov (.t 20), none⟩,
      ⟨some 22, .mov (.t 2), some (21, false)⟩,
      ⟨some 23, .bin .eql (.t 22) (.k (.i .i64 10)), some (21, false)⟩,
      ⟨some 24, .pick (.t 21) (.k (.b true)) (.t 23), none⟩,
      ⟨some 25, .mov (.t 24), none⟩,
      ⟨some 26, .mov (.t 2), some (25, false)⟩,
      ⟨some 27, .bin .gtr (.t 26) (.k (.i .i64 36)), some (25, false)⟩,
      ⟨some 28, .pick (.t 25) (.k (.b true)) (.t 27), none⟩])
   (.cond (.t 28)
    (.reg [⟨some 29, .mkif 9 (.k (.s [115, 116, 114, 99, 111, 110, 118, 58, 32, 105, 108, 108, 101, 103, 97, 108, 32, 65, 112, 112, 101, 110, 100, 73, 110, 116, 47, 70, 111, 114, 109, 97, 116, 73, 110, 116, 32, 98, 97, 115, 101])), none⟩,
      ⟨none, .bad, none⟩])
    .skip))
  (.seq (.reg [⟨some 12, .alloc 154 [(.i .u8 0), (.i .u8 0), (.i .u8 0), (.i .u8 0), (.i .u8 0), (.i .u8 0), (.i .u8 0), (.i .u8 0), (.i .u8 0), (.i .u8 0), (.i .u8 0), (.i .u8 0), (.i .u8 0), (.i .u8 0), (.i .u8 0), (.i .u8 0), (.i .u8 0), (.i .u8 0), (.i .u8 0), (.i .u8 0), (.i .u8 0), (.i .u8 0), (.i .u8 0), (.i .u8 0), (.i .u8 0), (.i .u8 0), (.i .u8 0), (.i .u8 0), (.i .u8 0), (.i .u8 0), (.i .u8 0), (.i .u8 0), (.i .u8 0), (.i .u8 0), (.i .u8 0), (.i .u8 0), (.i .u8 0), (.i .u8 0), (.i .u8 0), (.i .u8 0), (.i .u8 0), (.i .u8 0), (.i .u8 0), (.i .u8 0), (.i .u8 0), (.i .u8 0), (.i .u8 0), (.i .u8 0), (.i .u8 0), (.i .u8 0), (.i .u8 0), (.i .u8 0), (.i .u8 0), (.i .u8 0), (.i .u8 0), (.i .u8 0), (.i .u8 0), (.i .u8 0), (.i .u8 0), (.i .u8 0), (.i .u8 0), (.i .u8 0), (.i .u8 0), (.i .u8 0), (.i .u8 0)], none⟩])
  (.seq (.reg [⟨some 13, .mov (.k (.i .i64 65)), none⟩])
  (.seq (.seq (.reg [⟨some 30, .mov (.t 3), none⟩])
   (.cond (.t 30)
    (.reg [⟨some 31, .mov (.t 1), none⟩,
      ⟨some 32, .un .neg (.t 31), none⟩,
      ⟨some 1, .mov (.t 32), none⟩])
    .skip))
  (.seq (.seq (.reg [⟨some 33, .mov (.t 2), none⟩,
      ⟨some 34, .call true 105 [(.t 33)], none⟩])
   (.cond (.t 34)
    (.seq (.reg [⟨some 35, .mov (.t 2), none⟩,
       ⟨some 36, .conv (.int .u64) (.t 35), none⟩,
       ⟨some 37, .call true 106 [(.t 36)], none⟩,
       ⟨some 38, .conv (.int .u64) (.t 37), none⟩,
       ⟨some 14, .mov (.t 38), none⟩])
    (.seq (.reg [⟨some 39, .mov (.t 2), none⟩,
       ⟨some 40, .conv (.int .u64) (.t 39), none⟩,
       ⟨some 15, .mov (.t 40), none⟩])
    (.seq (.reg [⟨some 41, .mov (.t 2), none⟩,
       ⟨some 42, .conv (.int .u64) (.t 41), none⟩,
       ⟨some 43, .bin .sub (.t 42) (.k (.i .u64 1)), none⟩,
       ⟨some 16, .mov (.t 43), none⟩])
    (.seq (.blk 0 (.loop L87_1))
    (.seq (.reg [⟨some 58, .mov (.t 13), none⟩,
       ⟨some 59, .bin .sub (.t 58) (.k (.i .i64 1)), none⟩,
       ⟨some 13, .mov (.t 59), none⟩])
    (.reg [⟨some 60, .mov (.t 13), none⟩,
      ⟨some 61, .mov (.t 1), none⟩,
      ⟨some 62, .idx .str (.k (.s [48, 49, 50, 51, 52, 53, 54, 55, 56, 57, 97, 98, 99, 100, 101, 102, 103, 104, 105, 106, 107, 108, 109, 110, 111, 112, 113, 114, 115, 116, 117, 118, 119, 120, 121, 122])) (.t 61), none⟩,
      ⟨some 63, .iaddr (.arr 65 1) (.t 12) (.t 60), none⟩,
      ⟨none, .store 1 (.t 63) (.t 62), none⟩]))))))
    (.seq (.reg [⟨some 64, .mov (.t 2), none⟩,
       ⟨some 65, .conv (.int .u64) (.t 64), none⟩,
       ⟨some 17, .mov (.t 65), none⟩])
    (.seq (.blk 2 (.loop L87_2))
    (.seq (.reg [⟨some 83, .mov (.t 13), none⟩,
       ⟨some 84, .bin .sub (.t 83) (.k (.i .i64 1)), none⟩,
       ⟨some 13, .mov (.t 84), none⟩])
    (.reg [⟨some 85, .mov (.t 13), none⟩,
      ⟨some 86, .mov (.t 1), none⟩,
      ⟨some 87, .idx .str (.k (.s [48, 49, 50, 51, 52, 53, 54, 55, 56, 57, 97, 98, 99, 100, 101, 102, 103, 104, 105, 106, 107, 108, 109, 110, 111, 112, 113, 114, 115, 116, 117, 118, 119, 120, 121, 122])) (.t 86), none⟩,
      ⟨some 88, .iaddr (.arr 65 1) (.t 12) (.t 85), none⟩,
      ⟨none, .store 1 (.t 88) (.t 87), none⟩]))))))
  (.seq (.seq (.reg [⟨some 89, .mov (.t 3), none⟩])
   (.cond (.t 89)
    (.seq (.reg [⟨some 90, .mov (.t 13), none⟩,
       ⟨some 91, .bin .sub (.t 90) (.k (.i .i64 1)), none⟩,
       ⟨some 13, .mov (.t 91), none⟩])
    (.reg [⟨some 92, .mov (.t 13), none⟩,
      ⟨some 93, .iaddr (.arr 65 1) (.t 12) (.t 92), none⟩,
      ⟨none, .store 1 (.t 93) (.k (.i .u8 45)), none⟩]))
    .skip))
  (.seq (.seq (.reg [⟨some 94, .mov (.t 4), none⟩])
   (.cond (.t 94)
    (.seq (.reg [⟨some 95, .mov (.t 0), none⟩,
       ⟨some 96, .mov (.t 13), none⟩,
       ⟨some 97, .slc (.arr 65 1) (.t 12) (some (.t 96)) none none, none⟩,
       ⟨some 98, .app 5 1 (.t 95) (.t 97), none⟩,
       ⟨some 10, .mov (.t 98), none⟩])
    .ret)
    .skip))
  (.seq (.reg [⟨some 99, .mov (.t 13), none⟩,
     ⟨some 100, .slc (.arr 65 1) (.t 12) (some (.t 99)) none none, none⟩,
     ⟨some 101, .conv .toStr (.t 100), none⟩,
     ⟨some 11, .mov (.t 101), none⟩])
  .ret)))))))))
/-- internal/strconv.formatBits -/
def af87 : AFunc := { n := 102, depth := 7, kl := [], res := [.tmp 10, .tmp 11], body := B87 }

def B88 : AC := (.seq (.reg [⟨some 1, .lbox (.t 0) [1, 4, 8, 14, 18], none⟩,
     ⟨some 2, .mov (.k (.i .i64 0)), none⟩])
  (.seq (.blk 0 (.seq (.reg [⟨some 4, .faddr 0 (.t 1), none⟩,
       ⟨some 5, .load false 1 (.t 4), none⟩,
       ⟨some 6, .bin .eql (.t 5) (.k (.i .i64 6)), none⟩,
       ⟨some 7, .mov (.t 6), none⟩,
       ⟨some 8, .faddr 3 (.t 1), some (7, true)⟩,
       ⟨some 9, .load false 1 (.t 8), some (7, true)⟩,
       ⟨some 10, .len .slice (.t 9), some (7, true)⟩,
       ⟨some 11, .bin .gtr (.t 10) (.k (.i .i64 1)), some (7, true)⟩,
       ⟨some 12, .pick (.t 7) (.t 11) (.k (.b false)), none⟩,
       ⟨some 3, .mov (.t 12), none⟩])
    (.cond (.t 3)
     (.seq (.reg [⟨some 2, .mov (.k (.i .i64 1)), none⟩])
     .ret)
     (.seq (.reg [⟨some 14, .faddr 0 (.t 1), none⟩,
        ⟨some 15, .load false 1 (.t 14), none⟩,
        ⟨some 16, .bin .eql (.t 15) (.k (.i .i64 5)), none⟩,
        ⟨some 17, .mov (.t 16), none⟩,
        ⟨some 18, .faddr 3 (.t 1), some (17, true)⟩,
        ⟨some 19, .load false 1 (.t 18), some (17, true)⟩,
        ⟨some 20, .len .slice (.t 19), some (17, true)⟩,
        ⟨some 21, .bin .gtr (.t 20) (.k (.i .i64 1)), some (17, true)⟩,
        ⟨some 22, .pick (.t 17) (.t 21) (.k (.b false)), none⟩,
        ⟨some 13, .mov (.t 22), none⟩])
     (.cond (.t 13)
      (.seq (.reg [⟨some 2, .mov (.k (.i .i64 2)), none⟩])
      .ret)
      .skip)))))
  (.seq (.reg [⟨some 2, .mov (.k (.i .i64 3)), none⟩])
  .ret)))
/-- tidemark/lang.binds -/
def af88 : AFunc := { n := 23, depth := 5, kl := [(1, [1, 4, 8, 14, 18])], res := [.tmp 2], body := B88 }

def B89 : AC := (.seq (.reg [⟨some 1, .lbox (.t 0) [1, 5, 9, 13, 17, 30, 35, 44, 50, 59], none⟩,
     ⟨some 2, .mov (.k (.b false)), none⟩])
  (.seq (.reg [⟨some 5, .faddr 1 (.t 1), none⟩,
     ⟨some 6, .load false 1 (.t 5), none⟩,
     ⟨some 7, .bin .eql (.t 6) (.k (.s [])), none⟩,
     ⟨some 8, .mov (.t 7), none⟩,
     ⟨some 9, .faddr 2 (.t 1), some (8, true)⟩,
     ⟨some 10, .load false 1 (.t 9), some (8, true)⟩,
     ⟨some 11, .bin .eql (.t 10) (.k (.s [])), some (8, true)⟩,
     ⟨some 12, .pick (.t 8) (.t 11) (.k (.b false)), none⟩,
     ⟨some 3, .mov (.t 12), none⟩])
  (.seq (.reg [⟨some 13, .faddr 3 (.t 1), none⟩,
     ⟨some 14, .load false 1 (.t 13), none⟩,
     ⟨some 15, .len .slice (.t 14), none⟩,
     ⟨some 16, .bin .eql (.t 15) (.k (.i .i64 0)), none⟩,
     ⟨some 4, .mov (.t 16), none⟩])
  (.seq (.seq (.reg [⟨some 17, .faddr 0 (.t 1), none⟩,
      ⟨some 18, .load false 1 (.t 17), none⟩])
   (.blk 0 (.seq (.seq (.reg [⟨some 20, .bin .eql (.t 18) (.k (.i .i64 0)), none⟩,
        ⟨some 19, .mov (.t 20), none⟩])
     (.cond (.t 19)
      .skip
      (.reg [⟨some 21, .bin .eql (.t 18) (.k (.i .i64 3)), none⟩,
        ⟨some 19, .mov (.t 21), none⟩])))
    (.cond (.t 19)
     (.seq (.reg [⟨some 22, .mov (.t 3), none⟩,
        ⟨some 23, .mov (.t 22), none⟩,
        ⟨some 24, .mov (.t 4), some (23, true)⟩,
        ⟨some 25, .pick (.t 23) (.t 24) (.k (.b false)), none⟩,
        ⟨some 2, .mov (.t 25), none⟩])
     .ret)
     (.seq (.reg [⟨some 27, .bin .eql (.t 18) (.k (.i .i64 1)), none⟩,
        ⟨some 26, .mov (.t 27), none⟩])
     (.cond (.t 26)
      (.seq (.reg [⟨some 28, .mov (.t 4), none⟩,
         ⟨some 29, .mov (.t 28), none⟩,
         ⟨some 30, .faddr 1 (.t 1), some (29, true)⟩,
         ⟨some 31, .load false 1 (.t 30), some (29, true)⟩,
         ⟨some 32, .bin .eql (.t 31) (.k (.s [])), some (29, true)⟩,
         ⟨some 33, .pick (.t 29) (.t 32) (.k (.b false)), none⟩,
         ⟨some 34, .mov (.t 33), none⟩,
         ⟨some 35, .faddr 2 (.t 1), some (34, true)⟩,
         ⟨some 36, .load false 1 (.t 35), some (34, true)⟩,
         ⟨some 37, .call true 107 [(.t 36)], some (34, true)⟩,
         ⟨some 38, .bin .eql (.t 37) (.k (.i .i64 0)), some (34, true)⟩,
         ⟨some 39, .pick (.t 34) (.t 38) (.k (.b false)), none⟩,
         ⟨some 2, .mov (.t 39), none⟩])
      .ret)
      (.seq (.reg [⟨some 41, .bin .eql (.t 18) (.k (.i .i64 2)), none⟩,
         ⟨some 40, .mov (.t 41), none⟩])
      (.cond (.t 40)
       (.seq (.reg [⟨some 42, .mov (.t 4), none⟩,
          ⟨some 43, .mov (.t 42), none⟩,
          ⟨some 44, .faddr 1 (.t 1), some (43, true)⟩,
          ⟨some 45, .load false 1 (.t 44), some (43, true)⟩,
          ⟨some 46, .call true 108 [(.t 45)], some (43, true)⟩,
          ⟨some 47, .bin .eql (.t 46) (.k (.i .i64 0)), some (43, true)⟩,
          ⟨some 48, .pick (.t 43) (.t 47) (.k (.b false)), none⟩,
          ⟨some 49, .mov (.t 48), none⟩,
          ⟨some 50, .faddr 2 (.t 1), some (49, true)⟩,
          ⟨some 51, .load false 1 (.t 50), some (49, true)⟩,
          ⟨some 52, .call true 109 [(.t 51)], some (49, true)⟩,
          ⟨some 53, .bin .eql (.t 52) (.k (.i .i64 0)), some (49, true)⟩,
          ⟨some 54, .pick (.t 49) (.t 53) (.k (.b false)), none⟩,
          ⟨some 2, .mov (.t 54), none⟩])
       .ret)
       (.seq (.reg [⟨some 56, .bin .eql (.t 18) (.k (.i .i64 4)), none⟩,
          ⟨some 55, .mov (.t 56), none⟩])
       (.cond (.t 55)
        (.seq (.reg [⟨some 57, .mov (.t 3), none⟩,
           ⟨some 58, .mov (.t 57), none⟩,
           ⟨some 59, .faddr 3 (.t 1), some (58, true)⟩,
           ⟨some 60, .load false 1 (.t 59), some (58, true)⟩,
           ⟨some 61, .len .slice (.t 60), some (58, true)⟩,
           ⟨some 62, .bin .eql (.t 61) (.k (.i .i64 1)), some (58, true)⟩,
           ⟨some 63, .pick (.t 58) (.t 62) (.k (.b false)), none⟩,
           ⟨some 2, .mov (.t 63), none⟩])
        .ret)
        (.seq (.seq (.reg [⟨some 65, .bin .eql (.t 18) (.k (.i .i64 5)), none⟩,
            ⟨some 64, .mov (.t 65), none⟩])
         (.cond (.t 64)
          .skip
          (.reg [⟨some 66, .bin .eql (.t 18) (.k (.i .i64 6)), none⟩,
            ⟨some 64, .mov (.t 66), none⟩])))
        (.cond (.t 64)
         (.seq (.reg [⟨some 67, .mov (.t 3), none⟩,
            ⟨some 2, .mov (.t 67), none⟩])
         .ret)
         .skip))))))))))))
  (.seq (.reg [⟨some 2, .mov (.k (.b false)), none⟩])
  .ret)))))
/-- tidemark/tidemarkref07.May -/
def af89 : AFunc := { n := 68, depth := 7, kl := [(1, [1, 5, 9, 13, 17, 30, 35, 44, 50, 59])], res := [.tmp 2], body := B89 }

def B90 : AC := (.seq (.reg [⟨some 2, .mov (.k (.i .i64 0)), none⟩])
  (.seq (.seq (.reg [⟨some 3, .mov (.t 0), none⟩,
      ⟨some 4, .call true 110 [(.t 3), (.k (.i .i64 1)), (.k (.i .i64 24)), (.f 111)], none⟩,
      ⟨some 5, .un .not (.t 4), none⟩])
   (.cond (.t 5)
    (.seq (.reg [⟨some 2, .mov (.k (.i .i64 20)), none⟩])
    .ret)
    .skip))
  (.seq (.reg [⟨some 2, .mov (.k (.i .i64 0)), none⟩])
  .ret)))
/-- tidemark/text.Key -/
def af90 : AFunc := { n := 6, depth := 3, kl := [], res := [.tmp 2], body := B90 }

def B91 : AC := (.seq (.reg [⟨some 2, .mov (.k (.i .i64 0)), none⟩])
  (.seq (.seq (.reg [⟨some 3, .mov (.t 0), none⟩,
      ⟨some 4, .call true 110 [(.t 3), (.k (.i .i64 1)), (.k (.i .i64 8)), (.f 112)], none⟩,
      ⟨some 5, .un .not (.t 4), none⟩])
   (.cond (.t 5)
    (.seq (.reg [⟨some 2, .mov (.k (.i .i64 22)), none⟩])
    .ret)
    .skip))
  (.seq (.reg [⟨some 2, .mov (.k (.i .i64 0)), none⟩])
  .ret)))
/-- tidemark/text.Name -/
def af91 : AFunc := { n := 6, depth := 3, kl := [], res := [.tmp 2], body := B91 }

def B92 : AC := (.seq (.reg [⟨some 2, .mov (.k (.i .i64 0)), none⟩])
  (.seq (.seq (.reg [⟨some 3, .mov (.t 0), none⟩,
      ⟨some 4, .call true 110 [(.t 3), (.k (.i .i64 0)), (.k (.i .i64 48)), (.f 111)], none⟩,
      ⟨some 5, .un .not (.t 4), none⟩])
   (.cond (.t 5)
    (.seq (.reg [⟨some 2, .mov (.k (.i .i64 21)), none⟩])
    .ret)
    .skip))
  (.seq (.reg [⟨some 2, .mov (.k (.i .i64 0)), none⟩])
  .ret)))
/-- tidemark/text.Value -/
def af92 : AFunc := { n := 6, depth := 3, kl := [], res := [.tmp 2], body := B92 }

def B93 : AC := (.seq (.reg [⟨some 4, .mov (.k (.i .i64 0)), none⟩])
  (.seq (.reg [⟨some 5, .mov (.t 0), none⟩,
     ⟨some 6, .mov (.t 1), none⟩,
     ⟨some 7, .call true 113 [(.t 5), (.t 6)], none⟩,
     ⟨some 4, .mov (.t 7), none⟩])
  .ret))
/-- strings.IndexByte -/
def af93 : AFunc := { n := 8, depth := 4, kl := [], res := [.tmp 4], body := B93 }

def B94 : AC := (.seq (.reg [⟨some 2, .mov (.k (.b false)), none⟩])
  (.seq (.blk 0 (.seq (.reg [⟨some 4, .mov (.t 0), none⟩,
       ⟨some 5, .bin .leq (.k (.i .i32 0)) (.t 4), none⟩,
       ⟨some 6, .mov (.t 5), none⟩,
       ⟨some 7, .mov (.t 0), some (6, true)⟩,
       ⟨some 8, .bin .lss (.t 7) (.k (.i .i32 55296)), some (6, true)⟩,
       ⟨some 9, .pick (.t 6) (.t 8) (.k (.b false)), none⟩,
       ⟨some 3, .mov (.t 9), none⟩])
    (.cond (.t 3)
     (.seq (.reg [⟨some 2, .mov (.k (.b true)), none⟩])
     .ret)
     (.seq (.reg [⟨some 11, .mov (.t 0), none⟩,
        ⟨some 12, .bin .lss (.k (.i .i32 57343)) (.t 11), none⟩,
        ⟨some 13, .mov (.t 12), none⟩,
        ⟨some 14, .mov (.t 0), some (13, true)⟩,
        ⟨some 15, .bin .leq (.t 14) (.k (.i .i32 1114111)), some (13, true)⟩,
        ⟨some 16, .pick (.t 13) (.t 15) (.k (.b false)), none⟩,
        ⟨some 10, .mov (.t 16), none⟩])
     (.cond (.t 10)
      (.seq (.reg [⟨some 2, .mov (.k (.b true)), none⟩])
      .ret)
      .skip)))))
  (.seq (.reg [⟨some 2, .mov (.k (.b false)), none⟩])
  .ret)))
/-- unicode/utf8.ValidRune -/
def af94 : AFunc := { n := 17, depth := 5, kl := [], res := [.tmp 2], body := B94 }

def B95 : AC := (.seq (.reg [⟨some 2, .mov (.k (.b false)), none⟩])
  (.seq (.reg [⟨some 4, .mov (.t 0), none⟩,
     ⟨some 5, .call false 50 [(.t 4), (.k (.i .i64 1))], none⟩,
     ⟨some 3, .lalloc [(.i .i64 0), (.s []), (.i .i64 0)] [3, 11, 16], none⟩,
     ⟨none, .store 3 (.t 3) (.t 5), none⟩])
  (.seq (.reg [⟨some 6, .mov (.t 0), none⟩,
     ⟨some 7, .call false 23 [(.t 6)], none⟩,
     ⟨some 8, .fld false 0 1 (.t 7), none⟩,
     ⟨some 9, .bin .eql (.t 8) (.k (.i .i64 1)), none⟩,
     ⟨some 10, .mov (.t 9), none⟩,
     ⟨some 11, .faddr 0 (.t 3), some (10, true)⟩,
     ⟨some 12, .load false 1 (.t 11), some (10, true)⟩,
     ⟨some 13, .bin .eql (.t 12) (.k (.i .i64 4)), some (10, true)⟩,
     ⟨some 14, .pick (.t 10) (.t 13) (.k (.b false)), none⟩,
     ⟨some 15, .mov (.t 14), none⟩,
     ⟨some 16, .faddr 1 (.t 3), some (15, true)⟩,
     ⟨some 17, .load false 1 (.t 16), some (15, true)⟩,
     ⟨some 18, .bin .eql (.t 17) (.k (.s [61])), some (15, true)⟩,
     ⟨some 19, .pick (.t 15) (.t 18) (.k (.b false)), none⟩,
     ⟨some 2, .mov (.t 19), none⟩])
  .ret)))
/-- (*tidemark/lang.Source).field -/
def af95 : AFunc := { n := 20, depth := 5, kl := [(3, [3, 11, 16])], res := [.tmp 2], body := B95 }

def B96 : AC := (.seq (.reg [⟨some 2, .mov (.k (.s [])), none⟩,
     ⟨some 3, .mov (.k (.i .i64 0)), none⟩])
  (.seq (.seq (.reg [⟨some 4, .mov (.t 0), none⟩,
      ⟨some 5, .call false 23 [(.t 4)], none⟩,
      ⟨some 6, .fld false 0 1 (.t 5), none⟩,
      ⟨some 7, .bin .neq (.t 6) (.k (.i .i64 2)), none⟩])
   (.cond (.t 7)
    (.seq (.reg [⟨some 2, .mov (.k (.s [])), none⟩,
       ⟨some 3, .mov (.k (.i .i64 192)), none⟩])
    .ret)
    .skip))
  (.seq (.reg [⟨some 8, .mov (.t 0), none⟩,
     ⟨some 9, .call false 24 [(.t 8)], none⟩,
     ⟨some 10, .fld false 1 1 (.t 9), none⟩,
     ⟨some 2, .mov (.t 10), none⟩,
     ⟨some 3, .mov (.k (.i .i64 0)), none⟩])
  .ret)))
/-- (*tidemark/lang.Source).text -/
def af96 : AFunc := { n := 11, depth := 4, kl := [], res := [.tmp 2, .tmp 3], body := B96 }

def B97 : AC := (.seq (.reg [⟨some 4, .lalloc [(.i .i64 0), (.s []), (.s []), (.sl [] 0 .nil)] [4], none⟩,
     ⟨some 5, .mov (.k (.i .i64 0)), none⟩])
  (.seq (.seq (.reg [⟨some 10, .mov (.t 0), none⟩,
      ⟨some 11, .call false 23 [(.t 10)], none⟩,
      ⟨some 12, .fld false 1 1 (.t 11), none⟩])
   (.blk 0 (.seq (.reg [⟨some 14, .bin .eql (.t 12) (.k (.s [97, 108, 108])), none⟩,
       ⟨some 13, .mov (.t 14), none⟩])
    (.cond (.t 13)
     (.seq (.reg [⟨some 15, .mov (.t 0), none⟩,
        ⟨some 16, .call false 24 [(.t 15)], none⟩])
     (.seq (.reg [⟨some 17, .build [(.i .i64 0), (.s []), (.s []), (.sl [] 0 .nil)] [], none⟩,
        ⟨none, .store 4 (.t 4) (.t 17), none⟩,
        ⟨some 5, .mov (.k (.i .i64 0)), none⟩])
     .ret))
     (.seq (.reg [⟨some 19, .bin .eql (.t 12) (.k (.s [112, 117, 116])), none⟩,
        ⟨some 18, .mov (.t 19), none⟩])
     (.cond (.t 18)
      (.seq (.reg [⟨some 20, .mov (.t 0), none⟩,
         ⟨some 21, .call false 24 [(.t 20)], none⟩])
      (.seq (.reg [⟨some 22, .build [(.i .i64 0), (.s []), (.s []), (.sl [] 0 .nil)] [(0, 1, (.k (.i .i64 3)))], none⟩,
         ⟨none, .store 4 (.t 4) (.t 22), none⟩,
         ⟨some 5, .mov (.k (.i .i64 0)), none⟩])
      .ret))
      (.seq (.reg [⟨some 24, .bin .eql (.t 12) (.k (.s [110, 111, 116])), none⟩,
         ⟨some 23, .mov (.t 24), none⟩])
      (.cond (.t 23)
       (.seq (.reg [⟨some 25, .mov (.t 0), none⟩,
          ⟨some 26, .call false 24 [(.t 25)], none⟩])
       (.seq (.reg [⟨some 28, .mov (.t 0), none⟩,
          ⟨some 29, .mov (.t 1), none⟩,
          ⟨some 30, .call false 114 [(.t 28), (.t 29)], none⟩,
          ⟨some 27, .mov (.t 30), none⟩,
          ⟨some 31, .ext (.t 27) 0, none⟩,
          ⟨some 32, .ext (.t 27) 1, none⟩,
          ⟨some 6, .lalloc [(.i .i64 0), (.s []), (.s []), (.sl [] 0 .nil)] [6], none⟩,
          ⟨none, .store 4 (.t 6) (.t 31), none⟩,
          ⟨some 7, .mov (.t 32), none⟩])
       (.seq (.reg [⟨some 33, .load true 4 (.t 6), none⟩,
          ⟨some 34, .bslice false 27 4 1 [(.i .i64 0), (.s []), (.s []), (.sl [] 0 .nil)] [(0, (.t 33))], none⟩,
          ⟨some 35, .build [(.i .i64 0), (.s []), (.s []), (.sl [] 0 .nil)] [(0, 1, (.k (.i .i64 4))), (3, 1, (.t 34))], none⟩,
          ⟨some 36, .mov (.t 7), none⟩,
          ⟨none, .store 4 (.t 4) (.t 35), none⟩,
          ⟨some 5, .mov (.t 36), none⟩])
       .ret)))
       (.seq (.reg [⟨some 38, .bin .eql (.t 12) (.k (.s [107, 101, 121])), none⟩,
          ⟨some 37, .mov (.t 38), none⟩])
       (.cond (.t 37)
        (.seq (.reg [⟨some 39, .mov (.t 0), none⟩,
           ⟨some 40, .call false 24 [(.t 39)], none⟩])
        (.seq (.seq (.reg [⟨some 41, .mov (.t 0), none⟩,
            ⟨some 42, .call false 25 [(.t 41), (.k (.i .i64 4)), (.k (.s [94]))], none⟩,
            ⟨some 43, .un .not (.t 42), none⟩])
         (.cond (.t 43)
          (.seq (.reg [⟨some 44, .build [(.i .i64 0), (.s []), (.s []), (.sl [] 0 .nil)] [], none⟩,
             ⟨none, .store 4 (.t 4) (.t 44), none⟩,
             ⟨some 5, .mov (.k (.i .i64 192)), none⟩])
          .ret)
          .skip))
        (.seq (.reg [⟨some 46, .mov (.t 0), none⟩,
           ⟨some 47, .call false 96 [(.t 46)], none⟩,
           ⟨some 45, .mov (.t 47), none⟩,
           ⟨some 48, .ext (.t 45) 0, none⟩,
           ⟨some 49, .ext (.t 45) 1, none⟩,
           ⟨some 8, .mov (.t 48), none⟩,
           ⟨some 9, .mov (.t 49), none⟩])
        (.seq (.reg [⟨some 50, .mov (.t 8), none⟩,
           ⟨some 51, .build [(.i .i64 0), (.s []), (.s []), (.sl [] 0 .nil)] [(0, 1, (.k (.i .i64 1))), (2, 1, (.t 50))], none⟩,
           ⟨some 52, .mov (.t 9), none⟩,
           ⟨none, .store 4 (.t 4) (.t 51), none⟩,
           ⟨some 5, .mov (.t 52), none⟩])
        .ret))))
        (.seq (.reg [⟨some 54, .bin .eql (.t 12) (.k (.s [97, 110, 121])), none⟩,
           ⟨some 53, .mov (.t 54), none⟩])
        (.cond (.t 53)
         (.seq (.reg [⟨some 55, .mov (.t 0), none⟩,
            ⟨some 56, .call false 24 [(.t 55)], none⟩])
         (.seq (.reg [⟨some 57, .mov (.t 0), none⟩,
            ⟨some 58, .mov (.t 1), none⟩,
            ⟨some 59, .call false 115 [(.t 57), (.k (.i .i64 6)), (.t 58)], none⟩,
            ⟨some 60, .ext (.t 59) 0, none⟩,
            ⟨some 61, .ext (.t 59) 1, none⟩,
            ⟨none, .store 4 (.t 4) (.t 60), none⟩,
            ⟨some 5, .mov (.t 61), none⟩])
         .ret))
         (.seq (.reg [⟨some 63, .bin .eql (.t 12) (.k (.s [101, 97, 99, 104])), none⟩,
            ⟨some 62, .mov (.t 63), none⟩])
         (.cond (.t 62)
          (.seq (.reg [⟨some 64, .mov (.t 0), none⟩,
             ⟨some 65, .call false 24 [(.t 64)], none⟩])
          (.seq (.reg [⟨some 66, .mov (.t 0), none⟩,
             ⟨some 67, .mov (.t 1), none⟩,
             ⟨some 68, .call false 115 [(.t 66), (.k (.i .i64 5)), (.t 67)], none⟩,
             ⟨some 69, .ext (.t 68) 0, none⟩,
             ⟨some 70, .ext (.t 68) 1, none⟩,
             ⟨none, .store 4 (.t 4) (.t 69), none⟩,
             ⟨some 5, .mov (.t 70), none⟩])
          .ret))
          .skip))))))))))))))
  (.seq (.reg [⟨some 71, .build [(.i .i64 0), (.s []), (.s []), (.sl [] 0 .nil)] [], none⟩,
     ⟨none, .store 4 (.t 4) (.t 71), none⟩,
     ⟨some 5, .mov (.k (.i .i64 192)), none⟩])
  .ret)))
/-- (*tidemark/lang.Source).word -/
def af97 : AFunc := { n := 72, depth := 7, kl := [(4, [4]), (6, [6])], res := [.cell 4 true 4, .tmp 5], body := B97 }

def B100 : AC := (.seq (.reg [⟨some 2, .mov (.k (.b false)), none⟩])
  (.seq (.reg [⟨some 3, .mov (.t 0), none⟩,
     ⟨some 4, .bin .and (.t 3) (.k (.i .u8 192)), none⟩,
     ⟨some 5, .bin .neq (.t 4) (.k (.i .u8 128)), none⟩,
     ⟨some 2, .mov (.t 5), none⟩])
  .ret))
/-- unicode/utf8.RuneStart -/
def af100 : AFunc := { n := 6, depth := 3, kl := [], res := [.tmp 2], body := B100 }

def L101_1 : AC := (.seq (.reg [⟨some 176, .next 175, none⟩,
     ⟨some 177, .ext (.t 176) 0, none⟩])
  (.seq (.cond (.t 177)
    .skip
    (.exit 9))
  (.blk 10 (.seq (.reg [⟨some 178, .ext (.t 176) 1, none⟩,
      ⟨some 179, .ext (.t 176) 2, none⟩,
      ⟨some 5, .mov (.t 178), none⟩,
      ⟨some 6, .mov (.t 179), none⟩])
   (.seq (.reg [⟨some 180, .mov (.t 6), none⟩,
      ⟨some 181, .bin .eql (.t 180) (.k (.i .i32 65533)), none⟩])
   (.cond (.t 181)
    (.seq (.reg [⟨some 182, .mov (.t 5), none⟩,
       ⟨some 4, .mov (.t 182), none⟩])
    .ret)
    .skip))))))
def B101 : AC := (.seq (.reg [⟨some 4, .mov (.k (.i .i64 0)), none⟩])
  (.blk 0 (.seq (.reg [⟨some 161, .mov (.t 1), none⟩,
      ⟨some 162, .bin .leq (.k (.i .i32 0)) (.t 161), none⟩,
      ⟨some 163, .mov (.t 162), none⟩,
      ⟨some 164, .mov (.t 1), some (163, true)⟩,
      ⟨some 165, .bin .lss (.t 164) (.k (.i .i32 128)), some (163, true)⟩,
      ⟨some 166, .pick (.t 163) (.t 165) (.k (.b false)), none⟩,
      ⟨some 160, .mov (.t 166), none⟩])
   (.cond (.t 160)
    (.seq (.reg [⟨some 167, .mov (.t 0), none⟩,
       ⟨some 168, .mov (.t 1), none⟩,
       ⟨some 169, .conv (.int .u8) (.t 168), none⟩,
       ⟨some 170, .call true 93 [(.t 167), (.t 169)], none⟩,
       ⟨some 4, .mov (.t 170), none⟩])
    .ret)
    (.seq (.reg [⟨some 172, .mov (.t 1), none⟩,
       ⟨some 173, .bin .eql (.t 172) (.k (.i .i32 65533)), none⟩,
       ⟨some 171, .mov (.t 173), none⟩])
    (.cond (.t 171)
     (.seq (.seq (.reg [⟨some 174, .mov (.t 0), none⟩,
         ⟨some 175, .range (.t 174), none⟩])
      (.blk 9 (.loop L101_1)))
     (.seq (.reg [⟨some 4, .mov (.k (.i .i64 (-1))), none⟩])
     .ret))
     (.seq (.reg [⟨some 184, .mov (.t 1), none⟩,
        ⟨some 185, .call true 94 [(.t 184)], none⟩,
        ⟨some 186, .un .not (.t 185), none⟩,
        ⟨some 183, .mov (.t 186), none⟩])
     (.cond (.t 183)
      (.seq (.reg [⟨some 4, .mov (.k (.i .i64 (-1))), none⟩])
      .ret)
      .refuse))))))))
/-- strings.IndexRune -/
def af101 : AFunc := { n := 187, depth := 8, kl := [], res := [.tmp 4], body := B101 }

def B102 : AC := (.seq (.reg [⟨some 2, .mov (.k (.i .i64 0)), none⟩])
  (.seq (.reg [⟨some 3, .mov (.t 0), none⟩,
     ⟨some 4, .bin .mul (.t 3) (.k (.i .i64 78913)), none⟩,
     ⟨some 5, .bin .shr (.t 4) (.k (.i .u64 18)), none⟩,
     ⟨some 2, .mov (.t 5), none⟩])
  .ret))
/-- internal/strconv.log10Pow2 -/
def af102 : AFunc := { n := 6, depth := 3, kl := [], res := [.tmp 2], body := B102 }

def B103 : AC := (.seq (.reg [⟨some 2, .mov (.k (.i .i64 0)), none⟩])
  (.seq (.seq (.reg [⟨some 3, .mov (.t 0), none⟩,
      ⟨some 4, .bin .geq (.t 3) (.k (.i .u64 4294967296)), none⟩])
   (.cond (.t 4)
    (.seq (.reg [⟨some 5, .mov (.t 0), none⟩,
       ⟨some 6, .bin .shr (.t 5) (.k (.i .u64 32)), none⟩,
       ⟨some 0, .mov (.t 6), none⟩])
    (.reg [⟨some 2, .mov (.k (.i .i64 32)), none⟩]))
    .skip))
  (.seq (.seq (.reg [⟨some 7, .mov (.t 0), none⟩,
      ⟨some 8, .bin .geq (.t 7) (.k (.i .u64 65536)), none⟩])
   (.cond (.t 8)
    (.seq (.reg [⟨some 9, .mov (.t 0), none⟩,
       ⟨some 10, .bin .shr (.t 9) (.k (.i .u64 16)), none⟩,
       ⟨some 0, .mov (.t 10), none⟩])
    (.reg [⟨some 11, .mov (.t 2), none⟩,
      ⟨some 12, .bin .add (.t 11) (.k (.i .i64 16)), none⟩,
      ⟨some 2, .mov (.t 12), none⟩]))
    .skip))
  (.seq (.seq (.reg [⟨some 13, .mov (.t 0), none⟩,
      ⟨some 14, .bin .geq (.t 13) (.k (.i .u64 256)), none⟩])
   (.cond (.t 14)
    (.seq (.reg [⟨some 15, .mov (.t 0), none⟩,
       ⟨some 16, .bin .shr (.t 15) (.k (.i .u64 8)), none⟩,
       ⟨some 0, .mov (.t 16), none⟩])
    (.reg [⟨some 17, .mov (.t 2), none⟩,
      ⟨some 18, .bin .add (.t 17) (.k (.i .i64 8)), none⟩,
      ⟨some 2, .mov (.t 18), none⟩]))
    .skip))
  (.seq (.reg [⟨some 19, .mov (.t 2), none⟩,
     ⟨some 20, .mov (.t 0), none⟩,
     ⟨some 21, .conv (.int .u8) (.t 20), none⟩,
     ⟨some 22, .idx .str (.k (.s [0, 1, 2, 2, 3, 3, 3, 3, 4, 4, 4, 4, 4, 4, 4, 4, 5, 5, 5, 5, 5, 5, 5, 5, 5, 5, 5, 5, 5, 5, 5, 5, 6, 6, 6, 6, 6, 6, 6, 6, 6, 6, 6, 6, 6, 6, 6, 6, 6, 6, 6, 6, 6, 6, 6, 6, 6, 6, 6, 6, 6, 6, 6, 6, 7, 7, 7, 7, 7, 7, 7, 7, 7, 7, 7, 7, 7, 7, 7, 7, 7, 7, 7, 7, 7, 7, 7, 7, 7, 7, 7, 7, 7, 7, 7, 7, 7, 7, 7, 7, 7, 7, 7, 7, 7, 7, 7, 7, 7, 7, 7, 7, 7, 7, 7, 7, 7, 7, 7, 7, 7, 7, 7, 7, 7, 7, 7, 7, 8, 8, 8, 8, 8, 8, 8, 8, 8, 8, 8, 8, 8, 8, 8, 8, 8, 8, 8, 8, 8, 8, 8, 8, 8, 8, 8, 8, 8, 8, 8, 8, 8, 8, 8, 8, 8, 8, 8, 8, 8, 8, 8, 8, 8, 8, 8, 8, 8, 8, 8, 8, 8, 8, 8, 8, 8, 8, 8, 8, 8, 8, 8, 8, 8, 8, 8, 8, 8, 8, 8, 8, 8, 8, 8, 8, 8, 8, 8, 8, 8, 8, 8, 8, 8, 8, 8, 8, 8, 8, 8, 8, 8, 8, 8, 8, 8, 8, 8, 8, 8, 8, 8, 8, 8, 8, 8, 8, 8, 8, 8, 8, 8, 8, 8, 8, 8, 8, 8, 8, 8, 8, 8, 8, 8, 8, 8, 8])) (.t 21), none⟩,
     ⟨some 23, .conv (.int .i64) (.t 22), none⟩,
     ⟨some 24, .bin .add (.t 19) (.t 23), none⟩,
     ⟨some 2, .mov (.t 24), none⟩])
  .ret)))))
/-- math/bits.Len64 -/
def af103 : AFunc := { n := 25, depth := 5, kl := [], res := [.tmp 2], body := B103 }

def B104 : AC := (.seq (.reg [⟨some 2, .mov (.k (.i .i64 0)), none⟩])
  (.seq (.seq (.reg [⟨some 3, .mov (.t 0), none⟩])
   (.cond (.t 3)
    (.seq (.reg [⟨some 2, .mov (.k (.i .i64 1)), none⟩])
    .ret)
    .skip))
  (.seq (.reg [⟨some 2, .mov (.k (.i .i64 0)), none⟩])
  .ret)))
/-- internal/strconv.bool2[int] -/
def af104 : AFunc := { n := 4, depth := 3, kl := [], res := [.tmp 2], body := B104 }

def B105 : AC := (.seq (.reg [⟨some 2, .mov (.k (.b false)), none⟩])
  (.seq (.reg [⟨some 3, .mov (.t 0), none⟩,
     ⟨some 4, .mov (.t 0), none⟩,
     ⟨some 5, .bin .sub (.t 4) (.k (.i .i64 1)), none⟩,
     ⟨some 6, .bin .and (.t 3) (.t 5), none⟩,
     ⟨some 7, .bin .eql (.t 6) (.k (.i .i64 0)), none⟩,
     ⟨some 2, .mov (.t 7), none⟩])
  .ret))
/-- internal/strconv.isPowerOfTwo -/
def af105 : AFunc := { n := 8, depth := 4, kl := [], res := [.tmp 2], body := B105 }

def B106 : AC := (.seq (.reg [⟨some 2, .mov (.k (.i .i64 0)), none⟩])
  (.seq (.cond (.k (.b false))
    (.seq (.reg [⟨some 3, .mov (.t 0), none⟩,
       ⟨some 4, .conv (.int .u32) (.t 3), none⟩,
       ⟨some 5, .call true 118 [(.t 4)], none⟩,
       ⟨some 2, .mov (.t 5), none⟩])
    .ret)
    .skip)
  (.seq (.reg [⟨some 6, .mov (.t 0), none⟩,
     ⟨some 7, .call true 119 [(.t 6)], none⟩,
     ⟨some 2, .mov (.t 7), none⟩])
  .ret)))
/-- math/bits.TrailingZeros -/
def af106 : AFunc := { n := 8, depth := 4, kl := [], res := [.tmp 2], body := B106 }

def B107 : AC := (.seq (.reg [⟨some 2, .mov (.k (.i .i64 0)), none⟩])
  (.seq (.seq (.reg [⟨some 3, .mov (.t 0), none⟩,
      ⟨some 4, .call true 120 [(.t 3), (.k (.i .i64 1)), (.k (.i .i64 24))], none⟩,
      ⟨some 5, .un .not (.t 4), none⟩])
   (.cond (.t 5)
    (.seq (.reg [⟨some 2, .mov (.k (.i .i64 20)), none⟩])
    .ret)
    .skip))
  (.seq (.reg [⟨some 2, .mov (.k (.i .i64 0)), none⟩])
  .ret)))
/-- tidemark/tidemarkref02.Key -/
def af107 : AFunc := { n := 6, depth := 3, kl := [], res := [.tmp 2], body := B107 }

def L108_1 : AC := (.seq (.reg [⟨some 16, .bin .lss (.t 15) (.t 14), none⟩])
  (.seq (.cond (.t 16)
    .skip
    (.exit 0))
  (.seq (.blk 1 (.seq (.reg [⟨some 17, .mov (.t 15), none⟩,
       ⟨some 4, .mov (.t 17), none⟩])
    (.reg [⟨some 18, .mov (.t 3), none⟩,
      ⟨some 19, .mov (.t 18), none⟩,
      ⟨some 20, .mov (.t 0), some (19, true)⟩,
      ⟨some 21, .mov (.t 4), some (19, true)⟩,
      ⟨some 22, .idx .str (.t 20) (.t 21), some (19, true)⟩,
      ⟨some 23, .bin .geq (.t 22) (.k (.i .u8 97)), some (19, true)⟩,
      ⟨some 24, .pick (.t 19) (.t 23) (.k (.b false)), none⟩,
      ⟨some 25, .mov (.t 24), none⟩,
      ⟨some 26, .mov (.t 0), some (25, true)⟩,
      ⟨some 27, .mov (.t 4), some (25, true)⟩,
      ⟨some 28, .idx .str (.t 26) (.t 27), some (25, true)⟩,
      ⟨some 29, .bin .leq (.t 28) (.k (.i .u8 122)), some (25, true)⟩,
      ⟨some 30, .pick (.t 25) (.t 29) (.k (.b false)), none⟩,
      ⟨some 3, .mov (.t 30), none⟩])))
  (.reg [⟨some 31, .bin .add (.t 15) (.k (.i .i64 1)), none⟩,
    ⟨some 15, .mov (.t 31), none⟩]))))
def B108 : AC := (.seq (.reg [⟨some 2, .mov (.k (.i .i64 0)), none⟩])
  (.seq (.reg [⟨some 5, .mov (.t 0), none⟩,
     ⟨some 6, .len .str (.t 5), none⟩,
     ⟨some 7, .bin .geq (.t 6) (.k (.i .i64 1)), none⟩,
     ⟨some 8, .mov (.t 7), none⟩,
     ⟨some 9, .mov (.t 0), some (8, true)⟩,
     ⟨some 10, .len .str (.t 9), some (8, true)⟩,
     ⟨some 11, .bin .leq (.t 10) (.k (.i .i64 8)), some (8, true)⟩,
     ⟨some 12, .pick (.t 8) (.t 11) (.k (.b false)), none⟩,
     ⟨some 3, .mov (.t 12), none⟩])
  (.seq (.seq (.reg [⟨some 13, .mov (.t 0), none⟩,
      ⟨some 14, .len .str (.t 13), none⟩,
      ⟨some 15, .mov (.k (.i .i64 0)), none⟩])
   (.blk 0 (.loop L108_1)))
  (.seq (.seq (.reg [⟨some 32, .mov (.t 3), none⟩,
      ⟨some 33, .un .not (.t 32), none⟩])
   (.cond (.t 33)
    (.seq (.reg [⟨some 2, .mov (.k (.i .i64 22)), none⟩])
    .ret)
    .skip))
  (.seq (.reg [⟨some 2, .mov (.k (.i .i64 0)), none⟩])
  .ret)))))
/-- tidemark/tidemarkref02.Name -/
def af108 : AFunc := { n := 34, depth := 6, kl := [], res := [.tmp 2], body := B108 }

def B109 : AC := (.seq (.reg [⟨some 2, .mov (.k (.i .i64 0)), none⟩])
  (.seq (.seq (.reg [⟨some 3, .mov (.t 0), none⟩,
      ⟨some 4, .call true 120 [(.t 3), (.k (.i .i64 0)), (.k (.i .i64 48))], none⟩,
      ⟨some 5, .un .not (.t 4), none⟩])
   (.cond (.t 5)
    (.seq (.reg [⟨some 2, .mov (.k (.i .i64 21)), none⟩])
    .ret)
    .skip))
  (.seq (.reg [⟨some 2, .mov (.k (.i .i64 0)), none⟩])
  .ret)))
/-- tidemark/tidemarkref02.Value -/
def af109 : AFunc := { n := 6, depth := 3, kl := [], res := [.tmp 2], body := B109 }

def L110_1 : AC := (.seq (.reg [⟨some 14, .next 13, none⟩,
     ⟨some 15, .ext (.t 14) 0, none⟩])
  (.seq (.cond (.t 15)
    .skip
    (.exit 0))
  (.blk 1 (.seq (.reg [⟨some 16, .ext (.t 14) 2, none⟩,
      ⟨some 11, .mov (.t 16), none⟩])
   (.seq (.reg [⟨some 17, .mov (.t 9), none⟩,
      ⟨some 18, .bin .add (.t 17) (.k (.i .i64 1)), none⟩,
      ⟨some 9, .mov (.t 18), none⟩])
   (.seq (.reg [⟨some 19, .mov (.t 9), none⟩,
      ⟨some 20, .mov (.t 2), none⟩,
      ⟨some 21, .bin .gtr (.t 19) (.t 20), none⟩,
      ⟨some 22, .mov (.t 21), none⟩,
      ⟨some 23, .mov (.t 3), some (22, false)⟩,
      ⟨some 24, .mov (.t 11), some (22, false)⟩,
      ⟨some 25, .callv true (.t 23) [(.t 24)], some (22, false)⟩,
      ⟨some 26, .un .not (.t 25), some (22, false)⟩,
      ⟨some 27, .pick (.t 22) (.k (.b true)) (.t 26), none⟩])
   (.cond (.t 27)
    (.seq (.reg [⟨some 8, .mov (.k (.b false)), none⟩])
    .ret)
    .skip)))))))
def B110 : AC := (.seq (.reg [⟨some 8, .mov (.k (.b false)), none⟩])
  (.seq (.reg [⟨some 9, .mov (.k (.i .i64 0)), none⟩])
  (.seq (.seq (.reg [⟨some 12, .mov (.t 0), none⟩,
      ⟨some 13, .range (.t 12), none⟩])
   (.blk 0 (.loop L110_1)))
  (.seq (.reg [⟨some 28, .mov (.t 9), none⟩,
     ⟨some 29, .mov (.t 1), none⟩,
     ⟨some 30, .bin .geq (.t 28) (.t 29), none⟩,
     ⟨some 8, .mov (.t 30), none⟩])
  .ret))))
/-- tidemark/text.all -/
def af110 : AFunc := { n := 31, depth := 5, kl := [], res := [.tmp 8], body := B110 }

def B111 : AC := (.seq (.reg [⟨some 2, .mov (.k (.b false)), none⟩])
  (.seq (.reg [⟨some 3, .mov (.t 0), none⟩,
     ⟨some 4, .bin .geq (.t 3) (.k (.i .i32 32)), none⟩,
     ⟨some 5, .mov (.t 4), none⟩,
     ⟨some 6, .mov (.t 0), some (5, true)⟩,
     ⟨some 7, .bin .neq (.t 6) (.k (.i .i32 127)), some (5, true)⟩,
     ⟨some 8, .pick (.t 5) (.t 7) (.k (.b false)), none⟩,
     ⟨some 9, .mov (.t 8), none⟩,
     ⟨some 10, .mov (.t 0), some (9, true)⟩,
     ⟨some 11, .bin .neq (.t 10) (.k (.i .i32 65533)), some (9, true)⟩,
     ⟨some 12, .pick (.t 9) (.t 11) (.k (.b false)), none⟩,
     ⟨some 2, .mov (.t 12), none⟩])
  .ret))
/-- tidemark/text.plain -/
def af111 : AFunc := { n := 13, depth := 4, kl := [], res := [.tmp 2], body := B111 }

def B112 : AC := (.seq (.reg [⟨some 2, .mov (.k (.b false)), none⟩])
  (.seq (.reg [⟨some 3, .mov (.t 0), none⟩,
     ⟨some 4, .bin .geq (.t 3) (.k (.i .i32 97)), none⟩,
     ⟨some 5, .mov (.t 4), none⟩,
     ⟨some 6, .mov (.t 0), some (5, true)⟩,
     ⟨some 7, .bin .leq (.t 6) (.k (.i .i32 122)), some (5, true)⟩,
     ⟨some 8, .pick (.t 5) (.t 7) (.k (.b false)), none⟩,
     ⟨some 2, .mov (.t 8), none⟩])
  .ret))
/-- tidemark/text.letter -/
def af112 : AFunc := { n := 9, depth := 4, kl := [], res := [.tmp 2], body := B112 }

def B113 : AC := (.seq (.reg [⟨some 4, .mov (.k (.i .i64 0)), none⟩])
  (.seq (.reg [⟨some 5, .mov (.t 0), none⟩,
     ⟨some 6, .mov (.t 1), none⟩,
     ⟨some 7, .call true 121 [(.t 5), (.t 6)], none⟩,
     ⟨some 4, .mov (.t 7), none⟩])
  .ret))
/-- internal/stringslite.IndexByte -/
def af113 : AFunc := { n := 8, depth := 4, kl := [], res := [.tmp 4], body := B113 }

def B114 : AC := (.seq (.reg [⟨some 4, .lalloc [(.i .i64 0), (.s []), (.s []), (.sl [] 0 .nil)] [4], none⟩,
     ⟨some 5, .mov (.k (.i .i64 0)), none⟩])
  (.seq (.seq (.reg [⟨some 6, .mov (.t 1), none⟩,
      ⟨some 7, .bin .geq (.t 6) (.k (.i .i64 40)), none⟩])
   (.cond (.t 7)
    (.seq (.reg [⟨some 8, .build [(.i .i64 0), (.s []), (.s []), (.sl [] 0 .nil)] [], none⟩,
       ⟨none, .store 4 (.t 4) (.t 8), none⟩,
       ⟨some 5, .mov (.k (.i .i64 51)), none⟩])
    .ret)
    .skip))
  (.seq (.reg [⟨some 9, .mov (.t 0), none⟩,
     ⟨some 10, .mov (.t 1), none⟩,
     ⟨some 11, .bin .add (.t 10) (.k (.i .i64 1)), none⟩,
     ⟨some 12, .call false 72 [(.t 9), (.t 11)], none⟩,
     ⟨some 13, .ext (.t 12) 0, none⟩,
     ⟨some 14, .ext (.t 12) 1, none⟩,
     ⟨none, .store 4 (.t 4) (.t 13), none⟩,
     ⟨some 5, .mov (.t 14), none⟩])
  .ret)))
/-- (*tidemark/lang.Source).nested -/
def af114 : AFunc := { n := 15, depth := 4, kl := [(4, [4])], res := [.cell 4 true 4, .tmp 5], body := B114 }

def L115_1 : AC := (.blk 1 (.seq (.reg [⟨some 21, .mov (.t 0), none⟩,
      ⟨some 22, .mov (.t 2), none⟩,
      ⟨some 23, .bin .add (.t 22) (.k (.i .i64 1)), none⟩,
      ⟨some 24, .call false 49 [(.t 21), (.k (.i .i64 1)), (.t 23)], none⟩,
      ⟨some 20, .mov (.t 24), none⟩,
      ⟨some 25, .ext (.t 20) 0, none⟩,
      ⟨some 26, .ext (.t 20) 1, none⟩,
      ⟨some 9, .lalloc [(.i .i64 0), (.s []), (.s []), (.sl [] 0 .nil)] [9], none⟩,
      ⟨none, .store 4 (.t 9) (.t 25), none⟩,
      ⟨some 10, .mov (.t 26), none⟩])
   (.seq (.seq (.reg [⟨some 27, .mov (.t 10), none⟩,
       ⟨some 28, .bin .neq (.t 27) (.k (.i .i64 0)), none⟩])
    (.cond (.t 28)
     (.seq (.reg [⟨some 29, .load true 4 (.t 8), none⟩,
        ⟨some 30, .mov (.t 10), none⟩,
        ⟨none, .store 4 (.t 6) (.t 29), none⟩,
        ⟨some 7, .mov (.t 30), none⟩])
     .ret)
     .skip))
   (.seq (.reg [⟨some 31, .faddr 3 (.t 8), none⟩,
      ⟨some 32, .load false 1 (.t 31), none⟩,
      ⟨some 33, .load true 4 (.t 9), none⟩,
      ⟨some 34, .bslice false 27 4 1 [(.i .i64 0), (.s []), (.s []), (.sl [] 0 .nil)] [(0, (.t 33))], none⟩,
      ⟨some 35, .app 27 4 (.t 32) (.t 34), none⟩,
      ⟨some 36, .faddr 3 (.t 8), none⟩,
      ⟨none, .store 1 (.t 36) (.t 35), none⟩])
   (.seq (.seq (.reg [⟨some 37, .mov (.t 0), none⟩,
       ⟨some 38, .call false 25 [(.t 37), (.k (.i .i64 4)), (.k (.s [41]))], none⟩])
    (.cond (.t 38)
     (.seq (.reg [⟨some 39, .load true 4 (.t 8), none⟩,
        ⟨none, .store 4 (.t 6) (.t 39), none⟩,
        ⟨some 7, .mov (.k (.i .i64 0)), none⟩])
     .ret)
     .skip))
   (.seq (.reg [⟨some 40, .mov (.t 0), none⟩,
      ⟨some 41, .call false 25 [(.t 40), (.k (.i .i64 4)), (.k (.s [44]))], none⟩,
      ⟨some 42, .un .not (.t 41), none⟩])
   (.cond (.t 42)
    (.seq (.reg [⟨some 43, .load true 4 (.t 8), none⟩,
       ⟨none, .store 4 (.t 6) (.t 43), none⟩,
       ⟨some 7, .mov (.k (.i .i64 192)), none⟩])
    .ret)
    .skip)))))))
def B115 : AC := (.seq (.reg [⟨some 6, .lalloc [(.i .i64 0), (.s []), (.s []), (.sl [] 0 .nil)] [6], none⟩,
     ⟨some 7, .mov (.k (.i .i64 0)), none⟩])
  (.seq (.reg [⟨some 11, .mov (.t 1), none⟩,
     ⟨some 12, .build [(.i .i64 0), (.s []), (.s []), (.sl [] 0 .nil)] [(0, 1, (.t 11))], none⟩,
     ⟨some 8, .lalloc [(.i .i64 0), (.s []), (.s []), (.sl [] 0 .nil)] [8, 31, 36], none⟩,
     ⟨none, .store 4 (.t 8) (.t 12), none⟩])
  (.seq (.seq (.reg [⟨some 13, .mov (.t 0), none⟩,
      ⟨some 14, .call false 25 [(.t 13), (.k (.i .i64 4)), (.k (.s [40]))], none⟩,
      ⟨some 15, .un .not (.t 14), none⟩])
   (.cond (.t 15)
    (.seq (.reg [⟨some 16, .load true 4 (.t 8), none⟩,
       ⟨none, .store 4 (.t 6) (.t 16), none⟩,
       ⟨some 7, .mov (.k (.i .i64 192)), none⟩])
    .ret)
    .skip))
  (.seq (.seq (.reg [⟨some 17, .mov (.t 0), none⟩,
      ⟨some 18, .call false 25 [(.t 17), (.k (.i .i64 4)), (.k (.s [41]))], none⟩])
   (.cond (.t 18)
    (.seq (.reg [⟨some 19, .load true 4 (.t 8), none⟩,
       ⟨none, .store 4 (.t 6) (.t 19), none⟩,
       ⟨some 7, .mov (.k (.i .i64 0)), none⟩])
    .ret)
    .skip))
  (.blk 0 (.loop L115_1))))))
/-- (*tidemark/lang.Source).list -/
def af115 : AFunc := { n := 44, depth := 6, kl := [(6, [6]), (8, [8, 31, 36]), (9, [9])], res := [.cell 6 true 4, .tmp 7], body := B115 }

def B118 : AC := (.seq (.reg [⟨some 2, .mov (.k (.i .i64 0)), none⟩])
  (.seq (.seq (.reg [⟨some 3, .mov (.t 0), none⟩,
      ⟨some 4, .bin .eql (.t 3) (.k (.i .u32 0)), none⟩])
   (.cond (.t 4)
    (.seq (.reg [⟨some 2, .mov (.k (.i .i64 32)), none⟩])
    .ret)
    .skip))
  (.seq (.reg [⟨some 5, .mov (.t 0), none⟩,
     ⟨some 6, .mov (.t 0), none⟩,
     ⟨some 7, .un .neg (.t 6), none⟩,
     ⟨some 8, .bin .and (.t 5) (.t 7), none⟩,
     ⟨some 9, .bin .mul (.t 8) (.k (.i .u32 125613361)), none⟩,
     ⟨some 10, .bin .shr (.t 9) (.k (.i .u64 27)), none⟩,
     ⟨some 11, .iaddr (.arr 32 1) (.g 4) (.t 10), none⟩,
     ⟨some 12, .load false 1 (.t 11), none⟩,
     ⟨some 13, .conv (.int .i64) (.t 12), none⟩,
     ⟨some 2, .mov (.t 13), none⟩])
  .ret)))
/-- math/bits.TrailingZeros32 -/
def af118 : AFunc := { n := 14, depth := 4, kl := [], res := [.tmp 2], body := B118 }

def B119 : AC := (.seq (.reg [⟨some 2, .mov (.k (.i .i64 0)), none⟩])
  (.seq (.seq (.reg [⟨some 3, .mov (.t 0), none⟩,
      ⟨some 4, .bin .eql (.t 3) (.k (.i .u64 0)), none⟩])
   (.cond (.t 4)
    (.seq (.reg [⟨some 2, .mov (.k (.i .i64 64)), none⟩])
    .ret)
    .skip))
  (.seq (.reg [⟨some 5, .mov (.t 0), none⟩,
     ⟨some 6, .mov (.t 0), none⟩,
     ⟨some 7, .un .neg (.t 6), none⟩,
     ⟨some 8, .bin .and (.t 5) (.t 7), none⟩,
     ⟨some 9, .bin .mul (.t 8) (.k (.i .u64 285870213051353865)), none⟩,
     ⟨some 10, .bin .shr (.t 9) (.k (.i .u64 58)), none⟩,
     ⟨some 11, .iaddr (.arr 64 1) (.g 5) (.t 10), none⟩,
     ⟨some 12, .load false 1 (.t 11), none⟩,
     ⟨some 13, .conv (.int .i64) (.t 12), none⟩,
     ⟨some 2, .mov (.t 13), none⟩])
  .ret)))
/-- math/bits.TrailingZeros64 -/
def af119 : AFunc := { n := 14, depth := 4, kl := [], res := [.tmp 2], body := B119 }

def L120_1 : AC := (.seq (.reg [⟨some 26, .bin .lss (.t 25) (.t 24), none⟩])
  (.seq (.cond (.t 26)
    .skip
    (.exit 0))
  (.seq (.blk 1 (.seq (.reg [⟨some 27, .iaddr (.slice 1) (.t 23) (.t 25), none⟩,
       ⟨some 28, .load false 1 (.t 27), none⟩,
       ⟨some 10, .mov (.t 28), none⟩])
    (.reg [⟨some 29, .mov (.t 8), none⟩,
      ⟨some 30, .mov (.t 29), none⟩,
      ⟨some 31, .mov (.t 10), some (30, true)⟩,
      ⟨some 32, .call true 123 [(.t 31)], some (30, true)⟩,
      ⟨some 33, .pick (.t 30) (.t 32) (.k (.b false)), none⟩,
      ⟨some 8, .mov (.t 33), none⟩])))
  (.reg [⟨some 34, .bin .add (.t 25) (.k (.i .i64 1)), none⟩,
    ⟨some 25, .mov (.t 34), none⟩]))))
def B120 : AC := (.seq (.reg [⟨some 6, .mov (.k (.b false)), none⟩])
  (.seq (.reg [⟨some 11, .mov (.t 0), none⟩,
     ⟨some 12, .call true 122 [(.t 11)], none⟩,
     ⟨some 7, .mov (.t 12), none⟩])
  (.seq (.reg [⟨some 13, .mov (.t 7), none⟩,
     ⟨some 14, .len .slice (.t 13), none⟩,
     ⟨some 15, .mov (.t 1), none⟩,
     ⟨some 16, .bin .geq (.t 14) (.t 15), none⟩,
     ⟨some 17, .mov (.t 16), none⟩,
     ⟨some 18, .mov (.t 7), some (17, true)⟩,
     ⟨some 19, .len .slice (.t 18), some (17, true)⟩,
     ⟨some 20, .mov (.t 2), some (17, true)⟩,
     ⟨some 21, .bin .leq (.t 19) (.t 20), some (17, true)⟩,
     ⟨some 22, .pick (.t 17) (.t 21) (.k (.b false)), none⟩,
     ⟨some 8, .mov (.t 22), none⟩])
  (.seq (.seq (.reg [⟨some 23, .mov (.t 7), none⟩,
      ⟨some 24, .len .slice (.t 23), none⟩,
      ⟨some 25, .mov (.k (.i .i64 0)), none⟩])
   (.blk 0 (.loop L120_1)))
  (.seq (.reg [⟨some 35, .mov (.t 8), none⟩,
     ⟨some 6, .mov (.t 35), none⟩])
  .ret)))))
/-- tidemark/tidemarkref02.many -/
def af120 : AFunc := { n := 36, depth := 6, kl := [], res := [.tmp 6], body := B120 }

def L122_1 : AC := (.seq (.reg [⟨some 8, .next 7, none⟩,
     ⟨some 9, .ext (.t 8) 0, none⟩])
  (.seq (.cond (.t 9)
    .skip
    (.exit 0))
  (.blk 1 (.seq (.reg [⟨some 10, .ext (.t 8) 2, none⟩,
      ⟨some 5, .mov (.t 10), none⟩])
   (.reg [⟨some 11, .mov (.t 3), none⟩,
     ⟨some 12, .mov (.t 5), none⟩,
     ⟨some 13, .bslice false 21 1 1 [(.i .i32 0)] [(0, (.t 12))], none⟩,
     ⟨some 14, .app 21 1 (.t 11) (.t 13), none⟩,
     ⟨some 3, .mov (.t 14), none⟩])))))
def B122 : AC := (.seq (.reg [⟨some 2, .movnil 21, none⟩])
  (.seq (.reg [⟨some 3, .movnil 21, none⟩])
  (.seq (.seq (.reg [⟨some 6, .mov (.t 0), none⟩,
      ⟨some 7, .range (.t 6), none⟩])
   (.blk 0 (.loop L122_1)))
  (.seq (.reg [⟨some 15, .mov (.t 3), none⟩,
     ⟨some 2, .mov (.t 15), none⟩])
  .ret))))
/-- tidemark/tidemarkref02.Runes -/
def af122 : AFunc := { n := 16, depth := 5, kl := [], res := [.tmp 2], body := B122 }

def B123 : AC := (.seq (.reg [⟨some 2, .mov (.k (.b false)), none⟩])
  (.seq (.reg [⟨some 3, .mov (.t 0), none⟩,
     ⟨some 4, .bin .gtr (.t 3) (.k (.i .i32 31)), none⟩,
     ⟨some 5, .mov (.t 4), none⟩,
     ⟨some 6, .mov (.t 0), some (5, true)⟩,
     ⟨some 7, .bin .neq (.t 6) (.k (.i .i32 127)), some (5, true)⟩,
     ⟨some 8, .pick (.t 5) (.t 7) (.k (.b false)), none⟩,
     ⟨some 9, .mov (.t 8), none⟩,
     ⟨some 10, .mov (.t 0), some (9, true)⟩,
     ⟨some 11, .bin .neq (.t 10) (.k (.i .i32 65533)), some (9, true)⟩,
     ⟨some 12, .pick (.t 9) (.t 11) (.k (.b false)), none⟩,
     ⟨some 2, .mov (.t 12), none⟩])
  .ret))
/-- tidemark/tidemarkref02.plain -/
def af123 : AFunc := { n := 13, depth := 4, kl := [], res := [.tmp 2], body := B123 }

def kn : Known := ⟨[82]⟩

def lst : List (Nat × AFunc) := [(3, af3), (4, af4), (5, af5), (6, af6), (7, af7), (8, af8), (10, af10), (11, af11), (12, af12), (13, af13), (14, af14), (15, af15), (16, af16), (17, af17), (18, af18), (19, af19), (20, af20), (21, af21), (22, af22), (23, af23), (24, af24), (25, af25), (27, af27), (28, af28), (29, af29), (30, af30), (31, af31), (32, af32), (33, af33), (34, af34), (35, af35), (36, af36), (37, af37), (38, af38), (39, af39), (40, af40), (41, af41), (42, af42), (43, af43), (44, af44), (45, af45), (46, af46), (47, af47), (48, af48), (49, af49), (50, af50), (53, af53), (54, af54), (55, af55), (56, af56), (57, af57), (58, af58), (59, af59), (60, af60), (61, af61), (62, af62), (63, af63), (64, af64), (65, af65), (66, af66), (67, af67), (68, af68), (69, af69), (70, af70), (71, af71), (72, af72), (73, af73), (75, af75), (76, af76), (77, af77), (78, af78), (79, af79), (80, af80), (81, af81), (83, af83), (84, af84), (85, af85), (86, af86), (87, af87), (88, af88), (89, af89), (90, af90), (91, af91), (92, af92), (93, af93), (94, af94), (95, af95), (96, af96), (97, af97), (100, af100), (101, af101), (102, af102), (103, af103), (104, af104), (105, af105), (106, af106), (107, af107), (108, af108), (109, af109), (110, af110), (111, af111), (112, af112), (113, af113), (114, af114), (115, af115), (118, af118), (119, af119), (120, af120), (122, af122), (123, af123)]
theorem lst_ok : lst.all (fun x => fnOk Tryd.prog kn x.1 x.2) = true := by kernel_rfl
def tab (g : FuncId) : Option AFunc := al lst g

end Go.Proofs.YtbhclhgljnoioaaDoor
