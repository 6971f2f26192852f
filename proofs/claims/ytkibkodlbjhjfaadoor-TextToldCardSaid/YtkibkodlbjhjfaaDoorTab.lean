/- The abstract interpreter's code of the functions that the laws of this seat reach, and that it is the program's: each by the kernel. Printed by a program. -/
import Derived.Test.YtkibkodlbjhjfaaDoorAi08
import Derived.Test.YtkibkodlbjhjfaaDoorProg
import Derived.KernelRfl
namespace Go.Proofs.YtkibkodlbjhjfaaDoor
open Go Ai

def B3 : AC := (.seq (.reg [⟨some 2, .mov (.k (.b false)), none⟩])
  (.seq (.seq (.reg [⟨some 6, .mov (.t 0), none⟩,
      ⟨some 7, .len .str (.t 6), none⟩,
      ⟨some 8, .bin .gtr (.t 7) (.k (.i .i64 16384)), none⟩])
   (.cond (.t 8)
    (.seq (.reg [⟨some 9, .call true 6 [], none⟩,
       ⟨some 2, .mov (.t 9), none⟩])
    .ret)
    .skip))
  (.seq (.reg [⟨some 10, .mov (.t 0), none⟩,
     ⟨some 11, .call true 7 [(.t 10)], none⟩,
     ⟨some 12, .bin .eql (.t 11) (.k (.i .i64 0)), none⟩,
     ⟨some 13, .mov (.t 0), none⟩,
     ⟨some 14, .call true 8 [(.t 13)], none⟩,
     ⟨some 15, .bin .eql (.t 14) (.k (.i .i64 0)), none⟩,
     ⟨some 16, .mov (.t 0), none⟩,
     ⟨some 17, .call true 9 [(.t 16)], none⟩,
     ⟨some 18, .bin .eql (.t 17) (.k (.i .i64 0)), none⟩,
     ⟨some 3, .mov (.t 12), none⟩,
     ⟨some 4, .mov (.t 15), none⟩,
     ⟨some 5, .mov (.t 18), none⟩])
  (.seq (.seq (.reg [⟨some 19, .mov (.t 3), none⟩,
      ⟨some 20, .mov (.t 19), none⟩,
      ⟨some 21, .mov (.t 4), some (20, false)⟩,
      ⟨some 22, .pick (.t 20) (.k (.b true)) (.t 21), none⟩,
      ⟨some 23, .mov (.t 22), none⟩,
      ⟨some 24, .mov (.t 5), some (23, false)⟩,
      ⟨some 25, .pick (.t 23) (.k (.b true)) (.t 24), none⟩,
      ⟨some 26, .mov (.t 25), none⟩,
      ⟨some 27, .mov (.t 0), some (26, true)⟩,
      ⟨some 28, .call true 10 [(.t 27)], some (26, true)⟩,
      ⟨some 29, .un .not (.t 28), some (26, true)⟩,
      ⟨some 30, .pick (.t 26) (.t 29) (.k (.b false)), none⟩,
      ⟨some 31, .mov (.t 30), none⟩,
      ⟨some 32, .mov (.t 3), some (31, false)⟩,
      ⟨some 33, .mov (.t 32), some (31, false)⟩,
      ⟨some 34, .mov (.t 0), some (33, true)⟩,
      ⟨some 35, .len .str (.t 34), some (33, true)⟩,
      ⟨some 36, .bin .gtr (.t 35) (.k (.i .i64 96)), some (33, true)⟩,
      ⟨some 37, .mov (.t 36), some (33, true)⟩,
      ⟨some 38, .mov (.t 0), some (37, false)⟩,
      ⟨some 39, .bin .eql (.t 38) (.k (.s [])), some (37, false)⟩,
      ⟨some 40, .pick (.t 37) (.k (.b true)) (.t 39), some (33, true)⟩,
      ⟨some 41, .pick (.t 33) (.t 40) (.k (.b false)), some (31, false)⟩,
      ⟨some 42, .pick (.t 31) (.k (.b true)) (.t 41), none⟩,
      ⟨some 43, .mov (.t 42), none⟩,
      ⟨some 44, .mov (.t 4), some (43, false)⟩,
      ⟨some 45, .mov (.t 44), some (43, false)⟩,
      ⟨some 46, .mov (.t 0), some (45, true)⟩,
      ⟨some 47, .len .str (.t 46), some (45, true)⟩,
      ⟨some 48, .bin .gtr (.t 47) (.k (.i .i64 192)), some (45, true)⟩,
      ⟨some 49, .pick (.t 45) (.t 48) (.k (.b false)), some (43, false)⟩,
      ⟨some 50, .pick (.t 43) (.k (.b true)) (.t 49), none⟩,
      ⟨some 51, .mov (.t 50), none⟩,
      ⟨some 52, .mov (.t 5), some (51, false)⟩,
      ⟨some 53, .mov (.t 52), some (51, false)⟩,
      ⟨some 54, .mov (.t 0), some (53, true)⟩,
      ⟨some 55, .len .str (.t 54), some (53, true)⟩,
      ⟨some 56, .bin .gtr (.t 55) (.k (.i .i64 8)), some (53, true)⟩,
      ⟨some 57, .pick (.t 53) (.t 56) (.k (.b false)), some (51, false)⟩,
      ⟨some 58, .pick (.t 51) (.k (.b true)) (.t 57), none⟩,
      ⟨some 59, .mov (.t 58), none⟩,
      ⟨some 60, .mov (.t 5), some (59, false)⟩,
      ⟨some 61, .mov (.t 60), some (59, false)⟩,
      ⟨some 62, .mov (.t 3), some (61, true)⟩,
      ⟨some 63, .un .not (.t 62), some (61, true)⟩,
      ⟨some 64, .pick (.t 61) (.t 63) (.k (.b false)), some (59, false)⟩,
      ⟨some 65, .pick (.t 59) (.k (.b true)) (.t 64), none⟩,
      ⟨some 66, .mov (.t 65), none⟩,
      ⟨some 67, .mov (.t 3), some (66, false)⟩,
      ⟨some 68, .mov (.t 67), some (66, false)⟩,
      ⟨some 69, .mov (.t 4), some (68, true)⟩,
      ⟨some 70, .un .not (.t 69), some (68, true)⟩,
      ⟨some 71, .pick (.t 68) (.t 70) (.k (.b false)), some (66, false)⟩,
      ⟨some 72, .pick (.t 66) (.k (.b true)) (.t 71), none⟩])
   (.cond (.t 72)
    (.seq (.reg [⟨some 2, .mov (.k (.b false)), none⟩])
    .ret)
    .skip))
  (.seq (.reg [⟨some 73, .call true 6 [], none⟩,
     ⟨some 2, .mov (.t 73), none⟩])
  .ret)))))
/-- tidemark/tidemarklaw02.TextShort -/
def af3 : AFunc := { n := 74, depth := 7, kl := [], res := [.tmp 2], body := B3 }

def B4 : AC := (.seq (.reg [⟨some 2, .mov (.k (.b false)), none⟩])
  (.seq (.seq (.reg [⟨some 6, .mov (.t 0), none⟩,
      ⟨some 7, .len .str (.t 6), none⟩,
      ⟨some 8, .bin .gtr (.t 7) (.k (.i .i64 16384)), none⟩,
      ⟨some 9, .mov (.t 8), none⟩,
      ⟨some 10, .mov (.t 0), some (9, false)⟩,
      ⟨some 11, .call true 7 [(.t 10)], some (9, false)⟩,
      ⟨some 12, .bin .neq (.t 11) (.k (.i .i64 0)), some (9, false)⟩,
      ⟨some 13, .pick (.t 9) (.k (.b true)) (.t 12), none⟩])
   (.cond (.t 13)
    (.seq (.reg [⟨some 14, .call true 6 [], none⟩,
       ⟨some 2, .mov (.t 14), none⟩])
    .ret)
    .skip))
  (.seq (.reg [⟨some 16, .mov (.t 0), none⟩,
     ⟨some 17, .call true 11 [(.t 16)], none⟩,
     ⟨some 15, .mov (.t 17), none⟩,
     ⟨some 18, .ext (.t 15) 0, none⟩,
     ⟨some 19, .ext (.t 15) 1, none⟩,
     ⟨some 3, .mov (.t 18), none⟩,
     ⟨some 4, .mov (.t 19), none⟩])
  (.seq (.reg [⟨some 20, .mov (.t 0), none⟩,
     ⟨some 21, .mov (.t 0), none⟩,
     ⟨some 22, .len .str (.t 21), none⟩,
     ⟨some 23, .mov (.t 4), none⟩,
     ⟨some 24, .bin .sub (.t 22) (.t 23), none⟩,
     ⟨some 25, .slc .str (.t 20) none (some (.t 24)) none, none⟩,
     ⟨some 5, .mov (.t 25), none⟩])
  (.seq (.reg [⟨some 26, .mov (.t 5), none⟩,
     ⟨some 27, .call true 7 [(.t 26)], none⟩,
     ⟨some 28, .bin .eql (.t 27) (.k (.i .i64 0)), none⟩,
     ⟨some 29, .mov (.t 5), none⟩,
     ⟨some 30, .bin .neq (.t 29) (.k (.s [])), none⟩,
     ⟨some 31, .eq false .bool (.t 28) (.t 30), none⟩,
     ⟨some 32, .mov (.t 31), none⟩,
     ⟨some 33, .mov (.t 0), some (32, true)⟩,
     ⟨some 34, .bin .add (.t 33) (.k (.s [1])), some (32, true)⟩,
     ⟨some 35, .call true 7 [(.t 34)], some (32, true)⟩,
     ⟨some 36, .bin .eql (.t 35) (.k (.i .i64 20)), some (32, true)⟩,
     ⟨some 37, .pick (.t 32) (.t 36) (.k (.b false)), none⟩,
     ⟨some 38, .mov (.t 37), none⟩,
     ⟨some 39, .mov (.t 0), some (38, true)⟩,
     ⟨some 40, .bin .add (.t 39) (.k (.s [255])), some (38, true)⟩,
     ⟨some 41, .call true 7 [(.t 40)], some (38, true)⟩,
     ⟨some 42, .bin .eql (.t 41) (.k (.i .i64 20)), some (38, true)⟩,
     ⟨some 43, .pick (.t 38) (.t 42) (.k (.b false)), none⟩,
     ⟨some 44, .mov (.t 43), none⟩,
     ⟨some 45, .call true 6 [], some (44, true)⟩,
     ⟨some 46, .pick (.t 44) (.t 45) (.k (.b false)), none⟩,
     ⟨some 2, .mov (.t 46), none⟩])
  .ret)))))
/-- tidemark/tidemarklaw02.TextCut -/
def af4 : AFunc := { n := 47, depth := 6, kl := [], res := [.tmp 2], body := B4 }

def B5 : AC := (.seq (.reg [⟨some 4, .mov (.k (.b false)), none⟩])
  (.seq (.seq (.reg [⟨some 9, .mov (.t 1), none⟩,
      ⟨some 10, .len .str (.t 9), none⟩,
      ⟨some 11, .bin .gtr (.t 10) (.k (.i .i64 16384)), none⟩])
   (.cond (.t 11)
    (.seq (.reg [⟨some 12, .call true 6 [], none⟩,
       ⟨some 4, .mov (.t 12), none⟩])
    .ret)
    .skip))
  (.seq (.reg [⟨some 14, .mov (.t 0), none⟩,
     ⟨some 15, .call true 13 [(.t 14), (.k (.i .i64 10))], none⟩,
     ⟨some 16, .call true 12 [(.t 15)], none⟩,
     ⟨some 13, .mov (.t 16), none⟩,
     ⟨some 17, .ext (.t 13) 0, none⟩,
     ⟨some 18, .ext (.t 13) 1, none⟩,
     ⟨some 5, .mov (.t 17), none⟩,
     ⟨some 6, .mov (.t 18), none⟩])
  (.seq (.reg [⟨some 20, .mov (.t 1), none⟩,
     ⟨some 21, .call true 12 [(.t 20)], none⟩,
     ⟨some 19, .mov (.t 21), none⟩,
     ⟨some 22, .ext (.t 19) 0, none⟩,
     ⟨some 23, .ext (.t 19) 1, none⟩,
     ⟨some 7, .mov (.t 22), none⟩,
     ⟨some 8, .mov (.t 23), none⟩])
  (.seq (.reg [⟨some 24, .mov (.t 5), none⟩,
     ⟨some 25, .mov (.t 0), none⟩,
     ⟨some 26, .bin .eql (.t 24) (.t 25), none⟩,
     ⟨some 27, .mov (.t 26), none⟩,
     ⟨some 28, .mov (.t 6), some (27, true)⟩,
     ⟨some 29, .bin .eql (.t 28) (.k (.i .i64 0)), some (27, true)⟩,
     ⟨some 30, .pick (.t 27) (.t 29) (.k (.b false)), none⟩,
     ⟨some 31, .mov (.t 30), none⟩,
     ⟨some 32, .mov (.t 8), some (31, true)⟩,
     ⟨some 33, .bin .neq (.t 32) (.k (.i .i64 0)), some (31, true)⟩,
     ⟨some 34, .mov (.t 33), some (31, true)⟩,
     ⟨some 35, .mov (.t 7), some (34, true)⟩,
     ⟨some 36, .bin .eql (.t 35) (.k (.i .i64 0)), some (34, true)⟩,
     ⟨some 37, .pick (.t 34) (.t 36) (.k (.b false)), some (31, true)⟩,
     ⟨some 38, .mov (.t 37), some (31, true)⟩,
     ⟨some 39, .mov (.t 8), some (38, false)⟩,
     ⟨some 40, .bin .eql (.t 39) (.k (.i .i64 0)), some (38, false)⟩,
     ⟨some 41, .mov (.t 40), some (38, false)⟩,
     ⟨some 42, .mov (.t 7), some (41, true)⟩,
     ⟨some 43, .call true 13 [(.t 42), (.k (.i .i64 10))], some (41, true)⟩,
     ⟨some 44, .mov (.t 1), some (41, true)⟩,
     ⟨some 45, .bin .eql (.t 43) (.t 44), some (41, true)⟩,
     ⟨some 46, .pick (.t 41) (.t 45) (.k (.b false)), some (38, false)⟩,
     ⟨some 47, .pick (.t 38) (.k (.b true)) (.t 46), some (31, true)⟩,
     ⟨some 48, .pick (.t 31) (.t 47) (.k (.b false)), none⟩,
     ⟨some 49, .mov (.t 48), none⟩,
     ⟨some 50, .call true 6 [], some (49, true)⟩,
     ⟨some 51, .pick (.t 49) (.t 50) (.k (.b false)), none⟩,
     ⟨some 4, .mov (.t 51), none⟩])
  .ret)))))
/-- tidemark/tidemarklaw02.TextTold -/
def af5 : AFunc := { n := 52, depth := 6, kl := [], res := [.tmp 4], body := B5 }

def B6 : AC := (.seq (.reg [⟨some 0, .mov (.k (.b false)), none⟩])
  (.seq (.reg [⟨some 8, .call true 14 [(.k (.s [97, 58, 49, 32, 98, 58, 50, 32, 97, 58, 51])), (.k (.s [97]))], none⟩,
     ⟨some 7, .mov (.t 8), none⟩,
     ⟨some 9, .ext (.t 7) 0, none⟩,
     ⟨some 10, .ext (.t 7) 1, none⟩,
     ⟨some 1, .mov (.t 9), none⟩,
     ⟨some 2, .mov (.t 10), none⟩])
  (.seq (.reg [⟨some 12, .call true 12 [(.k (.s [45, 55]))], none⟩,
     ⟨some 11, .mov (.t 12), none⟩,
     ⟨some 13, .ext (.t 11) 0, none⟩,
     ⟨some 14, .ext (.t 11) 1, none⟩,
     ⟨some 3, .mov (.t 13), none⟩,
     ⟨some 4, .mov (.t 14), none⟩])
  (.seq (.reg [⟨some 16, .call true 12 [(.k (.s [48, 55]))], none⟩,
     ⟨some 15, .mov (.t 16), none⟩,
     ⟨some 17, .ext (.t 15) 0, none⟩,
     ⟨some 18, .ext (.t 15) 1, none⟩,
     ⟨some 5, .mov (.t 17), none⟩,
     ⟨some 6, .mov (.t 18), none⟩])
  (.seq (.reg [⟨some 19, .mov (.t 1), none⟩,
     ⟨some 20, .bin .eql (.t 19) (.k (.s [49])), none⟩,
     ⟨some 21, .mov (.t 20), none⟩,
     ⟨some 22, .mov (.t 2), some (21, true)⟩,
     ⟨some 23, .pick (.t 21) (.t 22) (.k (.b false)), none⟩,
     ⟨some 24, .mov (.t 23), none⟩,
     ⟨some 25, .mov (.t 3), some (24, true)⟩,
     ⟨some 26, .bin .eql (.t 25) (.k (.i .i64 (-7))), some (24, true)⟩,
     ⟨some 27, .pick (.t 24) (.t 26) (.k (.b false)), none⟩,
     ⟨some 28, .mov (.t 27), none⟩,
     ⟨some 29, .mov (.t 4), some (28, true)⟩,
     ⟨some 30, .bin .eql (.t 29) (.k (.i .i64 0)), some (28, true)⟩,
     ⟨some 31, .pick (.t 28) (.t 30) (.k (.b false)), none⟩,
     ⟨some 32, .mov (.t 31), none⟩,
     ⟨some 33, .mov (.t 6), some (32, true)⟩,
     ⟨some 34, .bin .eql (.t 33) (.k (.i .i64 23)), some (32, true)⟩,
     ⟨some 35, .pick (.t 32) (.t 34) (.k (.b false)), none⟩,
     ⟨some 36, .mov (.t 35), none⟩,
     ⟨some 37, .call true 7 [(.k (.s [107]))], some (36, true)⟩,
     ⟨some 38, .bin .eql (.t 37) (.k (.i .i64 0)), some (36, true)⟩,
     ⟨some 39, .pick (.t 36) (.t 38) (.k (.b false)), none⟩,
     ⟨some 40, .mov (.t 39), none⟩,
     ⟨some 41, .call true 7 [(.k (.s []))], some (40, true)⟩,
     ⟨some 42, .bin .eql (.t 41) (.k (.i .i64 20)), some (40, true)⟩,
     ⟨some 43, .pick (.t 40) (.t 42) (.k (.b false)), none⟩,
     ⟨some 44, .mov (.t 43), none⟩,
     ⟨some 45, .call true 15 [(.k (.s [97, 44, 44, 98])), (.k (.i .i32 44))], some (44, true)⟩,
     ⟨some 46, .len .slice (.t 45), some (44, true)⟩,
     ⟨some 47, .bin .eql (.t 46) (.k (.i .i64 3)), some (44, true)⟩,
     ⟨some 48, .pick (.t 44) (.t 47) (.k (.b false)), none⟩,
     ⟨some 0, .mov (.t 48), none⟩])
  .ret)))))
/-- tidemark/tidemarklaw02.awake -/
def af6 : AFunc := { n := 49, depth := 6, kl := [], res := [.tmp 0], body := B6 }

def B7 : AC := (.seq (.reg [⟨some 2, .mov (.k (.i .i64 0)), none⟩])
  (.seq (.seq (.reg [⟨some 3, .mov (.t 0), none⟩,
      ⟨some 4, .call true 16 [(.t 3), (.k (.i .i64 1)), (.k (.i .i64 24)), (.f 17)], none⟩,
      ⟨some 5, .un .not (.t 4), none⟩])
   (.cond (.t 5)
    (.seq (.reg [⟨some 2, .mov (.k (.i .i64 20)), none⟩])
    .ret)
    .skip))
  (.seq (.reg [⟨some 2, .mov (.k (.i .i64 0)), none⟩])
  .ret)))
/-- tidemark/text.Key -/
def af7 : AFunc := { n := 6, depth := 3, kl := [], res := [.tmp 2], body := B7 }

def B8 : AC := (.seq (.reg [⟨some 2, .mov (.k (.i .i64 0)), none⟩])
  (.seq (.seq (.reg [⟨some 3, .mov (.t 0), none⟩,
      ⟨some 4, .call true 16 [(.t 3), (.k (.i .i64 0)), (.k (.i .i64 48)), (.f 17)], none⟩,
      ⟨some 5, .un .not (.t 4), none⟩])
   (.cond (.t 5)
    (.seq (.reg [⟨some 2, .mov (.k (.i .i64 21)), none⟩])
    .ret)
    .skip))
  (.seq (.reg [⟨some 2, .mov (.k (.i .i64 0)), none⟩])
  .ret)))
/-- tidemark/text.Value -/
def af8 : AFunc := { n := 6, depth := 3, kl := [], res := [.tmp 2], body := B8 }

def B9 : AC := (.seq (.reg [⟨some 2, .mov (.k (.i .i64 0)), none⟩])
  (.seq (.seq (.reg [⟨some 3, .mov (.t 0), none⟩,
      ⟨some 4, .call true 16 [(.t 3), (.k (.i .i64 1)), (.k (.i .i64 8)), (.f 18)], none⟩,
      ⟨some 5, .un .not (.t 4), none⟩])
   (.cond (.t 5)
    (.seq (.reg [⟨some 2, .mov (.k (.i .i64 22)), none⟩])
    .ret)
    .skip))
  (.seq (.reg [⟨some 2, .mov (.k (.i .i64 0)), none⟩])
  .ret)))
/-- tidemark/text.Name -/
def af9 : AFunc := { n := 6, depth := 3, kl := [], res := [.tmp 2], body := B9 }

def L10_2 : AC := (.seq (.seq (.reg [⟨some 42, .mov (.t 0), none⟩,
      ⟨some 43, .len .str (.t 42), none⟩,
      ⟨some 44, .bin .gtr (.t 43) (.k (.i .i64 32)), none⟩,
      ⟨some 45, .mov (.t 44), none⟩,
      ⟨some 46, .mov (.t 0), some (45, true)⟩,
      ⟨some 47, .call true 19 [(.t 46)], some (45, true)⟩,
      ⟨some 48, .mov (.t 0), some (45, true)⟩,
      ⟨some 49, .slc .str (.t 48) (some (.k (.i .i64 8))) none none, some (45, true)⟩,
      ⟨some 50, .call true 19 [(.t 49)], some (45, true)⟩,
      ⟨some 51, .bin .or (.t 47) (.t 50), some (45, true)⟩,
      ⟨some 52, .mov (.t 0), some (45, true)⟩,
      ⟨some 53, .slc .str (.t 52) (some (.k (.i .i64 16))) none none, some (45, true)⟩,
      ⟨some 54, .call true 19 [(.t 53)], some (45, true)⟩,
      ⟨some 55, .mov (.t 0), some (45, true)⟩,
      ⟨some 56, .slc .str (.t 55) (some (.k (.i .i64 24))) none none, some (45, true)⟩,
      ⟨some 57, .call true 19 [(.t 56)], some (45, true)⟩,
      ⟨some 58, .bin .or (.t 54) (.t 57), some (45, true)⟩,
      ⟨some 59, .bin .or (.t 51) (.t 58), some (45, true)⟩,
      ⟨some 60, .bin .and (.t 59) (.k (.i .u64 9259542123273814144)), some (45, true)⟩,
      ⟨some 61, .bin .eql (.t 60) (.k (.i .u64 0)), some (45, true)⟩,
      ⟨some 62, .pick (.t 45) (.t 61) (.k (.b false)), none⟩])
   (.cond (.t 62)
    .skip
    (.exit 2)))
  (.blk 3 (.reg [⟨some 63, .mov (.t 0), none⟩,
     ⟨some 64, .slc .str (.t 63) (some (.k (.i .i64 32))) none none, none⟩,
     ⟨some 0, .mov (.t 64), none⟩])))
def L10_1 : AC := (.seq (.seq (.reg [⟨some 7, .mov (.t 0), none⟩,
      ⟨some 8, .len .str (.t 7), none⟩,
      ⟨some 9, .bin .gtr (.t 8) (.k (.i .i64 0)), none⟩])
   (.cond (.t 9)
    .skip
    (.exit 0)))
  (.blk 1 (.seq (.reg [⟨some 10, .mov (.t 0), none⟩,
      ⟨some 11, .idx .str (.t 10) (.k (.i .i64 0)), none⟩,
      ⟨some 3, .mov (.t 11), none⟩])
   (.seq (.seq (.reg [⟨some 12, .mov (.t 3), none⟩,
       ⟨some 13, .bin .lss (.t 12) (.k (.i .u8 128)), none⟩])
    (.cond (.t 13)
     (.seq (.reg [⟨some 14, .mov (.t 0), none⟩,
        ⟨some 15, .slc .str (.t 14) (some (.k (.i .i64 1))) none none, none⟩,
        ⟨some 0, .mov (.t 15), none⟩])
     (.seq (.seq (.reg [⟨some 16, .mov (.t 0), none⟩,
         ⟨some 17, .len .str (.t 16), none⟩,
         ⟨some 18, .bin .gtr (.t 17) (.k (.i .i64 8)), none⟩,
         ⟨some 19, .mov (.t 18), none⟩,
         ⟨some 20, .mov (.t 0), some (19, true)⟩,
         ⟨some 21, .call true 19 [(.t 20)], some (19, true)⟩,
         ⟨some 22, .bin .and (.t 21) (.k (.i .u64 9259542123273814144)), some (19, true)⟩,
         ⟨some 23, .bin .eql (.t 22) (.k (.i .u64 0)), some (19, true)⟩,
         ⟨some 24, .pick (.t 19) (.t 23) (.k (.b false)), none⟩])
      (.cond (.t 24)
       (.seq (.reg [⟨some 25, .mov (.t 0), none⟩,
          ⟨some 26, .slc .str (.t 25) (some (.k (.i .i64 8))) none none, none⟩,
          ⟨some 0, .mov (.t 26), none⟩])
       (.seq (.reg [⟨some 27, .mov (.t 0), none⟩,
          ⟨some 28, .len .str (.t 27), none⟩,
          ⟨some 29, .bin .gtr (.t 28) (.k (.i .i64 16)), none⟩,
          ⟨some 30, .mov (.t 29), none⟩,
          ⟨some 31, .mov (.t 0), some (30, true)⟩,
          ⟨some 32, .call true 19 [(.t 31)], some (30, true)⟩,
          ⟨some 33, .mov (.t 0), some (30, true)⟩,
          ⟨some 34, .slc .str (.t 33) (some (.k (.i .i64 8))) none none, some (30, true)⟩,
          ⟨some 35, .call true 19 [(.t 34)], some (30, true)⟩,
          ⟨some 36, .bin .or (.t 32) (.t 35), some (30, true)⟩,
          ⟨some 37, .bin .and (.t 36) (.k (.i .u64 9259542123273814144)), some (30, true)⟩,
          ⟨some 38, .bin .eql (.t 37) (.k (.i .u64 0)), some (30, true)⟩,
          ⟨some 39, .pick (.t 30) (.t 38) (.k (.b false)), none⟩])
       (.cond (.t 39)
        (.seq (.reg [⟨some 40, .mov (.t 0), none⟩,
           ⟨some 41, .slc .str (.t 40) (some (.k (.i .i64 16))) none none, none⟩,
           ⟨some 0, .mov (.t 41), none⟩])
        (.blk 2 (.loop L10_2)))
        .skip)))
       .skip))
     (.exit 1)))
     .skip))
   (.seq (.reg [⟨some 65, .mov (.t 3), none⟩,
      ⟨some 66, .iaddr (.arr 256 1) (.g 0) (.t 65), none⟩,
      ⟨some 67, .load false 1 (.t 66), none⟩,
      ⟨some 4, .mov (.t 67), none⟩])
   (.seq (.reg [⟨some 68, .mov (.t 4), none⟩,
      ⟨some 69, .bin .and (.t 68) (.k (.i .u8 7)), none⟩,
      ⟨some 70, .conv (.int .i64) (.t 69), none⟩,
      ⟨some 5, .mov (.t 70), none⟩])
   (.seq (.reg [⟨some 71, .mov (.t 4), none⟩,
      ⟨some 72, .bin .shr (.t 71) (.k (.i .u64 4)), none⟩,
      ⟨some 73, .iaddr (.arr 16 2) (.g 1) (.t 72), none⟩,
      ⟨some 74, .load true 2 (.t 73), none⟩,
      ⟨some 6, .lalloc [(.i .u8 0), (.i .u8 0)] [6, 84, 89, 105, 110, 136, 141], none⟩,
      ⟨none, .store 2 (.t 6) (.t 74), none⟩])
   (.seq (.reg [⟨some 75, .mov (.t 5), none⟩])
   (.blk 4 (.seq (.reg [⟨some 77, .bin .eql (.t 75) (.k (.i .i64 2)), none⟩,
       ⟨some 76, .mov (.t 77), none⟩])
    (.cond (.t 76)
     (.seq (.seq (.reg [⟨some 78, .mov (.t 0), none⟩,
         ⟨some 79, .len .str (.t 78), none⟩,
         ⟨some 80, .bin .lss (.t 79) (.k (.i .i64 2)), none⟩,
         ⟨some 81, .mov (.t 80), none⟩,
         ⟨some 82, .mov (.t 0), some (81, false)⟩,
         ⟨some 83, .idx .str (.t 82) (.k (.i .i64 1)), some (81, false)⟩,
         ⟨some 84, .faddr 0 (.t 6), some (81, false)⟩,
         ⟨some 85, .load false 1 (.t 84), some (81, false)⟩,
         ⟨some 86, .bin .lss (.t 83) (.t 85), some (81, false)⟩,
         ⟨some 87, .pick (.t 81) (.k (.b true)) (.t 86), none⟩,
         ⟨some 88, .mov (.t 87), none⟩,
         ⟨some 89, .faddr 1 (.t 6), some (88, false)⟩,
         ⟨some 90, .load false 1 (.t 89), some (88, false)⟩,
         ⟨some 91, .mov (.t 0), some (88, false)⟩,
         ⟨some 92, .idx .str (.t 91) (.k (.i .i64 1)), some (88, false)⟩,
         ⟨some 93, .bin .lss (.t 90) (.t 92), some (88, false)⟩,
         ⟨some 94, .pick (.t 88) (.k (.b true)) (.t 93), none⟩])
      (.cond (.t 94)
       (.seq (.reg [⟨some 2, .mov (.k (.b false)), none⟩])
       .ret)
       .skip))
     (.reg [⟨some 95, .mov (.t 0), none⟩,
       ⟨some 96, .slc .str (.t 95) (some (.k (.i .i64 2))) none none, none⟩,
       ⟨some 0, .mov (.t 96), none⟩]))
     (.seq (.reg [⟨some 98, .bin .eql (.t 75) (.k (.i .i64 3)), none⟩,
        ⟨some 97, .mov (.t 98), none⟩])
     (.cond (.t 97)
      (.seq (.seq (.reg [⟨some 99, .mov (.t 0), none⟩,
          ⟨some 100, .len .str (.t 99), none⟩,
          ⟨some 101, .bin .lss (.t 100) (.k (.i .i64 3)), none⟩,
          ⟨some 102, .mov (.t 101), none⟩,
          ⟨some 103, .mov (.t 0), some (102, false)⟩,
          ⟨some 104, .idx .str (.t 103) (.k (.i .i64 1)), some (102, false)⟩,
          ⟨some 105, .faddr 0 (.t 6), some (102, false)⟩,
          ⟨some 106, .load false 1 (.t 105), some (102, false)⟩,
          ⟨some 107, .bin .lss (.t 104) (.t 106), some (102, false)⟩,
          ⟨some 108, .pick (.t 102) (.k (.b true)) (.t 107), none⟩,
          ⟨some 109, .mov (.t 108), none⟩,
          ⟨some 110, .faddr 1 (.t 6), some (109, false)⟩,
          ⟨some 111, .load false 1 (.t 110), some (109, false)⟩,
          ⟨some 112, .mov (.t 0), some (109, false)⟩,
          ⟨some 113, .idx .str (.t 112) (.k (.i .i64 1)), some (109, false)⟩,
          ⟨some 114, .bin .lss (.t 111) (.t 113), some (109, false)⟩,
          ⟨some 115, .pick (.t 109) (.k (.b true)) (.t 114), none⟩,
          ⟨some 116, .mov (.t 115), none⟩,
          ⟨some 117, .mov (.t 0), some (116, false)⟩,
          ⟨some 118, .idx .str (.t 117) (.k (.i .i64 2)), some (116, false)⟩,
          ⟨some 119, .bin .lss (.t 118) (.k (.i .u8 128)), some (116, false)⟩,
          ⟨some 120, .pick (.t 116) (.k (.b true)) (.t 119), none⟩,
          ⟨some 121, .mov (.t 120), none⟩,
          ⟨some 122, .mov (.t 0), some (121, false)⟩,
          ⟨some 123, .idx .str (.t 122) (.k (.i .i64 2)), some (121, false)⟩,
          ⟨some 124, .bin .lss (.k (.i .u8 191)) (.t 123), some (121, false)⟩,
          ⟨some 125, .pick (.t 121) (.k (.b true)) (.t 124), none⟩])
       (.cond (.t 125)
        (.seq (.reg [⟨some 2, .mov (.k (.b false)), none⟩])
        .ret)
        .skip))
      (.reg [⟨some 126, .mov (.t 0), none⟩,
        ⟨some 127, .slc .str (.t 126) (some (.k (.i .i64 3))) none none, none⟩,
        ⟨some 0, .mov (.t 127), none⟩]))
      (.seq (.reg [⟨some 129, .bin .eql (.t 75) (.k (.i .i64 4)), none⟩,
         ⟨some 128, .mov (.t 129), none⟩])
      (.cond (.t 128)
       (.seq (.seq (.reg [⟨some 130, .mov (.t 0), none⟩,
           ⟨some 131, .len .str (.t 130), none⟩,
           ⟨some 132, .bin .lss (.t 131) (.k (.i .i64 4)), none⟩,
           ⟨some 133, .mov (.t 132), none⟩,
           ⟨some 134, .mov (.t 0), some (133, false)⟩,
           ⟨some 135, .idx .str (.t 134) (.k (.i .i64 1)), some (133, false)⟩,
           ⟨some 136, .faddr 0 (.t 6), some (133, false)⟩,
           ⟨some 137, .load false 1 (.t 136), some (133, false)⟩,
           ⟨some 138, .bin .lss (.t 135) (.t 137), some (133, false)⟩,
           ⟨some 139, .pick (.t 133) (.k (.b true)) (.t 138), none⟩,
           ⟨some 140, .mov (.t 139), none⟩,
           ⟨some 141, .faddr 1 (.t 6), some (140, false)⟩,
           ⟨some 142, .load false 1 (.t 141), some (140, false)⟩,
           ⟨some 143, .mov (.t 0), some (140, false)⟩,
           ⟨some 144, .idx .str (.t 143) (.k (.i .i64 1)), some (140, false)⟩,
           ⟨some 145, .bin .lss (.t 142) (.t 144), some (140, false)⟩,
           ⟨some 146, .pick (.t 140) (.k (.b true)) (.t 145), none⟩,
           ⟨some 147, .mov (.t 146), none⟩,
           ⟨some 148, .mov (.t 0), some (147, false)⟩,
           ⟨some 149, .idx .str (.t 148) (.k (.i .i64 2)), some (147, false)⟩,
           ⟨some 150, .bin .lss (.t 149) (.k (.i .u8 128)), some (147, false)⟩,
           ⟨some 151, .pick (.t 147) (.k (.b true)) (.t 150), none⟩,
           ⟨some 152, .mov (.t 151), none⟩,
           ⟨some 153, .mov (.t 0), some (152, false)⟩,
           ⟨some 154, .idx .str (.t 153) (.k (.i .i64 2)), some (152, false)⟩,
           ⟨some 155, .bin .lss (.k (.i .u8 191)) (.t 154), some (152, false)⟩,
           ⟨some 156, .pick (.t 152) (.k (.b true)) (.t 155), none⟩,
           ⟨some 157, .mov (.t 156), none⟩,
           ⟨some 158, .mov (.t 0), some (157, false)⟩,
           ⟨some 159, .idx .str (.t 158) (.k (.i .i64 3)), some (157, false)⟩,
           ⟨some 160, .bin .lss (.t 159) (.k (.i .u8 128)), some (157, false)⟩,
           ⟨some 161, .pick (.t 157) (.k (.b true)) (.t 160), none⟩,
           ⟨some 162, .mov (.t 161), none⟩,
           ⟨some 163, .mov (.t 0), some (162, false)⟩,
           ⟨some 164, .idx .str (.t 163) (.k (.i .i64 3)), some (162, false)⟩,
           ⟨some 165, .bin .lss (.k (.i .u8 191)) (.t 164), some (162, false)⟩,
           ⟨some 166, .pick (.t 162) (.k (.b true)) (.t 165), none⟩])
        (.cond (.t 166)
         (.seq (.reg [⟨some 2, .mov (.k (.b false)), none⟩])
         .ret)
         .skip))
       (.reg [⟨some 167, .mov (.t 0), none⟩,
         ⟨some 168, .slc .str (.t 167) (some (.k (.i .i64 4))) none none, none⟩,
         ⟨some 0, .mov (.t 168), none⟩]))
       (.seq (.reg [⟨some 2, .mov (.k (.b false)), none⟩])
       .ret))))))))))))))))
def B10 : AC := (.seq (.reg [⟨some 2, .mov (.k (.b false)), none⟩])
  (.seq (.blk 0 (.loop L10_1))
  (.seq (.reg [⟨some 2, .mov (.k (.b true)), none⟩])
  .ret)))
/-- unicode/utf8.ValidString -/
def af10 : AFunc := { n := 169, depth := 8, kl := [(6, [6, 84, 89, 105, 110, 136, 141])], res := [.tmp 2], body := B10 }

def L11_1 : AC := (.seq (.seq (.reg [⟨some 25, .mov (.t 5), none⟩,
      ⟨some 26, .mov (.t 6), none⟩,
      ⟨some 27, .bin .geq (.t 25) (.t 26), none⟩])
   (.cond (.t 27)
    .skip
    (.exit 0)))
  (.seq (.blk 1 (.seq (.reg [⟨some 30, .mov (.t 0), none⟩,
       ⟨some 31, .mov (.t 5), none⟩,
       ⟨some 32, .idx .str (.t 30) (.t 31), none⟩,
       ⟨some 33, .call true 20 [(.t 32)], none⟩])
    (.cond (.t 33)
     (.exit 0)
     .skip)))
  (.reg [⟨some 28, .mov (.t 5), none⟩,
    ⟨some 29, .bin .sub (.t 28) (.k (.i .i64 1)), none⟩,
    ⟨some 5, .mov (.t 29), none⟩])))
def B11 : AC := (.seq (.reg [⟨some 2, .mov (.k (.i .i32 0)), none⟩,
     ⟨some 3, .mov (.k (.i .i64 0)), none⟩])
  (.seq (.reg [⟨some 7, .mov (.t 0), none⟩,
     ⟨some 8, .len .str (.t 7), none⟩,
     ⟨some 4, .mov (.t 8), none⟩])
  (.seq (.seq (.reg [⟨some 9, .mov (.t 4), none⟩,
      ⟨some 10, .bin .eql (.t 9) (.k (.i .i64 0)), none⟩])
   (.cond (.t 10)
    (.seq (.reg [⟨some 2, .mov (.k (.i .i32 65533)), none⟩,
       ⟨some 3, .mov (.k (.i .i64 0)), none⟩])
    .ret)
    .skip))
  (.seq (.reg [⟨some 11, .mov (.t 4), none⟩,
     ⟨some 12, .bin .sub (.t 11) (.k (.i .i64 1)), none⟩,
     ⟨some 5, .mov (.t 12), none⟩])
  (.seq (.reg [⟨some 13, .mov (.t 0), none⟩,
     ⟨some 14, .mov (.t 5), none⟩,
     ⟨some 15, .idx .str (.t 13) (.t 14), none⟩,
     ⟨some 16, .conv (.int .i32) (.t 15), none⟩,
     ⟨some 2, .mov (.t 16), none⟩])
  (.seq (.seq (.reg [⟨some 17, .mov (.t 2), none⟩,
      ⟨some 18, .bin .lss (.t 17) (.k (.i .i32 128)), none⟩])
   (.cond (.t 18)
    (.seq (.reg [⟨some 19, .mov (.t 2), none⟩,
       ⟨some 2, .mov (.t 19), none⟩,
       ⟨some 3, .mov (.k (.i .i64 1)), none⟩])
    .ret)
    .skip))
  (.seq (.reg [⟨some 20, .mov (.t 4), none⟩,
     ⟨some 21, .bin .sub (.t 20) (.k (.i .i64 4)), none⟩,
     ⟨some 22, .minmax true (.t 21) (.k (.i .i64 0)), none⟩,
     ⟨some 6, .mov (.t 22), none⟩])
  (.seq (.seq (.reg [⟨some 23, .mov (.t 5), none⟩,
      ⟨some 24, .bin .sub (.t 23) (.k (.i .i64 1)), none⟩,
      ⟨some 5, .mov (.t 24), none⟩])
   (.blk 0 (.loop L11_1)))
  (.seq (.seq (.reg [⟨some 34, .mov (.t 5), none⟩,
      ⟨some 35, .bin .lss (.t 34) (.k (.i .i64 0)), none⟩])
   (.cond (.t 35)
    (.reg [⟨some 5, .mov (.k (.i .i64 0)), none⟩])
    .skip))
  (.seq (.reg [⟨some 37, .mov (.t 0), none⟩,
     ⟨some 38, .mov (.t 5), none⟩,
     ⟨some 39, .mov (.t 4), none⟩,
     ⟨some 40, .slc .str (.t 37) (some (.t 38)) (some (.t 39)) none, none⟩,
     ⟨some 41, .call true 21 [(.t 40)], none⟩,
     ⟨some 36, .mov (.t 41), none⟩,
     ⟨some 42, .ext (.t 36) 0, none⟩,
     ⟨some 43, .ext (.t 36) 1, none⟩,
     ⟨some 2, .mov (.t 42), none⟩,
     ⟨some 3, .mov (.t 43), none⟩])
  (.seq (.seq (.reg [⟨some 44, .mov (.t 5), none⟩,
      ⟨some 45, .mov (.t 3), none⟩,
      ⟨some 46, .bin .add (.t 44) (.t 45), none⟩,
      ⟨some 47, .mov (.t 4), none⟩,
      ⟨some 48, .bin .neq (.t 46) (.t 47), none⟩])
   (.cond (.t 48)
    (.seq (.reg [⟨some 2, .mov (.k (.i .i32 65533)), none⟩,
       ⟨some 3, .mov (.k (.i .i64 1)), none⟩])
    .ret)
    .skip))
  (.seq (.reg [⟨some 49, .mov (.t 2), none⟩,
     ⟨some 50, .mov (.t 3), none⟩,
     ⟨some 2, .mov (.t 49), none⟩,
     ⟨some 3, .mov (.t 50), none⟩])
  .ret))))))))))))
/-- unicode/utf8.DecodeLastRuneInString -/
def af11 : AFunc := { n := 51, depth := 6, kl := [], res := [.tmp 2, .tmp 3], body := B11 }

def L12_1 : AC := (.seq (.reg [⟨some 11, .next 10, none⟩,
     ⟨some 12, .ext (.t 11) 0, none⟩])
  (.seq (.cond (.t 12)
    .skip
    (.exit 0))
  (.blk 1 (.seq (.reg [⟨some 13, .ext (.t 11) 1, none⟩,
      ⟨some 14, .ext (.t 11) 2, none⟩,
      ⟨some 7, .mov (.t 13), none⟩,
      ⟨some 8, .mov (.t 14), none⟩])
   (.blk 2 (.seq (.reg [⟨some 24, .mov (.t 7), none⟩,
       ⟨some 25, .bin .eql (.t 24) (.k (.i .i64 0)), none⟩,
       ⟨some 26, .mov (.t 25), none⟩,
       ⟨some 27, .mov (.t 8), some (26, true)⟩,
       ⟨some 28, .bin .eql (.t 27) (.k (.i .i32 45)), some (26, true)⟩,
       ⟨some 29, .pick (.t 26) (.t 28) (.k (.b false)), none⟩,
       ⟨some 30, .mov (.t 29), none⟩,
       ⟨some 31, .mov (.t 0), some (30, true)⟩,
       ⟨some 32, .len .str (.t 31), some (30, true)⟩,
       ⟨some 33, .bin .gtr (.t 32) (.k (.i .i64 1)), some (30, true)⟩,
       ⟨some 34, .pick (.t 30) (.t 33) (.k (.b false)), none⟩,
       ⟨some 23, .mov (.t 34), none⟩])
    (.cond (.t 23)
     (.reg [⟨some 4, .mov (.k (.b true)), none⟩])
     (.seq (.reg [⟨some 36, .mov (.t 8), none⟩,
        ⟨some 37, .bin .lss (.t 36) (.k (.i .i32 48)), none⟩,
        ⟨some 38, .mov (.t 37), none⟩,
        ⟨some 39, .mov (.t 8), some (38, false)⟩,
        ⟨some 40, .bin .gtr (.t 39) (.k (.i .i32 57)), some (38, false)⟩,
        ⟨some 41, .pick (.t 38) (.k (.b true)) (.t 40), none⟩,
        ⟨some 42, .mov (.t 41), none⟩,
        ⟨some 43, .mov (.t 6), some (42, false)⟩,
        ⟨some 44, .bin .gtr (.t 43) (.k (.i .i64 0)), some (42, false)⟩,
        ⟨some 45, .mov (.t 44), some (42, false)⟩,
        ⟨some 46, .mov (.t 5), some (45, true)⟩,
        ⟨some 47, .bin .eql (.t 46) (.k (.i .u64 0)), some (45, true)⟩,
        ⟨some 48, .pick (.t 45) (.t 47) (.k (.b false)), some (42, false)⟩,
        ⟨some 49, .pick (.t 42) (.k (.b true)) (.t 48), none⟩,
        ⟨some 50, .mov (.t 49), none⟩,
        ⟨some 51, .mov (.t 6), some (50, false)⟩,
        ⟨some 52, .bin .gtr (.t 51) (.k (.i .i64 18)), some (50, false)⟩,
        ⟨some 53, .pick (.t 50) (.k (.b true)) (.t 52), none⟩,
        ⟨some 35, .mov (.t 53), none⟩])
     (.cond (.t 35)
      (.seq (.reg [⟨some 2, .mov (.k (.i .i64 0)), none⟩,
         ⟨some 3, .mov (.k (.i .i64 23)), none⟩])
      .ret)
      (.seq (.reg [⟨some 15, .mov (.t 5), none⟩,
         ⟨some 16, .bin .mul (.k (.i .u64 10)) (.t 15), none⟩,
         ⟨some 17, .mov (.t 8), none⟩,
         ⟨some 18, .bin .sub (.t 17) (.k (.i .i32 48)), none⟩,
         ⟨some 19, .conv (.int .u64) (.t 18), none⟩,
         ⟨some 20, .bin .add (.t 16) (.t 19), none⟩,
         ⟨some 5, .mov (.t 20), none⟩])
      (.reg [⟨some 21, .mov (.t 6), none⟩,
        ⟨some 22, .bin .add (.t 21) (.k (.i .i64 1)), none⟩,
        ⟨some 6, .mov (.t 22), none⟩])))))))))))
def B12 : AC := (.seq (.reg [⟨some 2, .mov (.k (.i .i64 0)), none⟩,
     ⟨some 3, .mov (.k (.i .i64 0)), none⟩])
  (.seq (.reg [⟨some 4, .mov (.k (.b false)), none⟩])
  (.seq (.reg [⟨some 5, .mov (.k (.i .u64 0)), none⟩])
  (.seq (.reg [⟨some 6, .mov (.k (.i .i64 0)), none⟩])
  (.seq (.seq (.reg [⟨some 9, .mov (.t 0), none⟩,
      ⟨some 10, .range (.t 9), none⟩])
   (.blk 0 (.loop L12_1)))
  (.seq (.blk 3 (.seq (.reg [⟨some 55, .mov (.t 6), none⟩,
       ⟨some 56, .bin .eql (.t 55) (.k (.i .i64 0)), none⟩,
       ⟨some 57, .mov (.t 56), none⟩,
       ⟨some 58, .mov (.t 4), some (57, false)⟩,
       ⟨some 59, .mov (.t 58), some (57, false)⟩,
       ⟨some 60, .mov (.t 5), some (59, true)⟩,
       ⟨some 61, .bin .eql (.t 60) (.k (.i .u64 0)), some (59, true)⟩,
       ⟨some 62, .pick (.t 59) (.t 61) (.k (.b false)), some (57, false)⟩,
       ⟨some 63, .pick (.t 57) (.k (.b true)) (.t 62), none⟩,
       ⟨some 54, .mov (.t 63), none⟩])
    (.cond (.t 54)
     (.seq (.reg [⟨some 2, .mov (.k (.i .i64 0)), none⟩,
        ⟨some 3, .mov (.k (.i .i64 23)), none⟩])
     .ret)
     (.seq (.reg [⟨some 65, .mov (.t 4), none⟩,
        ⟨some 66, .mov (.t 65), none⟩,
        ⟨some 67, .mov (.t 5), some (66, true)⟩,
        ⟨some 68, .bin .leq (.t 67) (.k (.i .u64 9223372036854775808)), some (66, true)⟩,
        ⟨some 69, .pick (.t 66) (.t 68) (.k (.b false)), none⟩,
        ⟨some 64, .mov (.t 69), none⟩])
     (.cond (.t 64)
      (.seq (.reg [⟨some 70, .mov (.t 5), none⟩,
         ⟨some 71, .conv (.int .i64) (.t 70), none⟩,
         ⟨some 72, .un .neg (.t 71), none⟩,
         ⟨some 2, .mov (.t 72), none⟩,
         ⟨some 3, .mov (.k (.i .i64 0)), none⟩])
      .ret)
      (.seq (.reg [⟨some 74, .mov (.t 5), none⟩,
         ⟨some 75, .bin .gtr (.t 74) (.k (.i .u64 9223372036854775807)), none⟩,
         ⟨some 73, .mov (.t 75), none⟩])
      (.cond (.t 73)
       (.seq (.reg [⟨some 2, .mov (.k (.i .i64 0)), none⟩,
          ⟨some 3, .mov (.k (.i .i64 5)), none⟩])
       .ret)
       .skip)))))))
  (.seq (.reg [⟨some 76, .mov (.t 5), none⟩,
     ⟨some 77, .conv (.int .i64) (.t 76), none⟩,
     ⟨some 2, .mov (.t 77), none⟩,
     ⟨some 3, .mov (.k (.i .i64 0)), none⟩])
  .ret)))))))
/-- tidemark/text.Number -/
def af12 : AFunc := { n := 78, depth := 7, kl := [], res := [.tmp 2, .tmp 3], body := B12 }

def B13 : AC := (.seq (.reg [⟨some 4, .mov (.k (.s [])), none⟩])
  (.seq (.reg [⟨some 5, .mov (.t 0), none⟩,
     ⟨some 6, .mov (.t 1), none⟩,
     ⟨some 7, .call true 22 [(.t 5), (.t 6)], none⟩,
     ⟨some 4, .mov (.t 7), none⟩])
  .ret))
/-- strconv.FormatInt -/
def af13 : AFunc := { n := 8, depth := 4, kl := [], res := [.tmp 4], body := B13 }

def L14_2 : AC := (.seq (.reg [⟨some 19, .next 18, none⟩,
     ⟨some 20, .ext (.t 19) 0, none⟩])
  (.seq (.cond (.t 20)
    .skip
    (.exit 2))
  (.blk 3 (.seq (.reg [⟨some 21, .ext (.t 19) 1, none⟩,
      ⟨some 22, .ext (.t 19) 2, none⟩,
      ⟨some 8, .mov (.t 21), none⟩,
      ⟨some 9, .mov (.t 22), none⟩])
   (.seq (.reg [⟨some 23, .mov (.t 9), none⟩,
      ⟨some 24, .bin .eql (.t 23) (.k (.i .i32 58)), none⟩])
   (.cond (.t 24)
    (.seq (.seq (.reg [⟨some 25, .mov (.t 7), none⟩,
        ⟨some 26, .mov (.t 8), none⟩,
        ⟨some 27, .slc .str (.t 25) none (some (.t 26)) none, none⟩,
        ⟨some 28, .mov (.t 1), none⟩,
        ⟨some 29, .bin .eql (.t 27) (.t 28), none⟩])
     (.cond (.t 29)
      (.seq (.reg [⟨some 30, .mov (.t 7), none⟩,
         ⟨some 31, .mov (.t 8), none⟩,
         ⟨some 32, .bin .add (.t 31) (.k (.i .i64 1)), none⟩,
         ⟨some 33, .slc .str (.t 30) (some (.t 32)) none none, none⟩,
         ⟨some 4, .mov (.t 33), none⟩,
         ⟨some 5, .mov (.k (.b true)), none⟩])
      .ret)
      .skip))
    (.exit 2))
    .skip))))))
def L14_1 : AC := (.seq (.reg [⟨some 14, .bin .lss (.t 13) (.t 12), none⟩])
  (.seq (.cond (.t 14)
    .skip
    (.exit 0))
  (.seq (.blk 1 (.seq (.reg [⟨some 15, .iaddr (.slice 1) (.t 11) (.t 13), none⟩,
       ⟨some 16, .load false 1 (.t 15), none⟩,
       ⟨some 7, .mov (.t 16), none⟩])
    (.seq (.reg [⟨some 17, .mov (.t 7), none⟩,
       ⟨some 18, .range (.t 17), none⟩])
    (.blk 2 (.loop L14_2)))))
  (.reg [⟨some 34, .bin .add (.t 13) (.k (.i .i64 1)), none⟩,
    ⟨some 13, .mov (.t 34), none⟩]))))
def B14 : AC := (.seq (.reg [⟨some 4, .mov (.k (.s [])), none⟩,
     ⟨some 5, .mov (.k (.b false)), none⟩])
  (.seq (.seq (.reg [⟨some 10, .mov (.t 0), none⟩,
      ⟨some 11, .call true 15 [(.t 10), (.k (.i .i32 32))], none⟩,
      ⟨some 12, .len .slice (.t 11), none⟩,
      ⟨some 13, .mov (.k (.i .i64 0)), none⟩])
   (.blk 0 (.loop L14_1)))
  (.seq (.reg [⟨some 4, .mov (.k (.s [])), none⟩,
     ⟨some 5, .mov (.k (.b false)), none⟩])
  .ret)))
/-- tidemark/text.Field -/
def af14 : AFunc := { n := 35, depth := 6, kl := [], res := [.tmp 4, .tmp 5], body := B14 }

def L15_1 : AC := (.seq (.reg [⟨some 12, .next 11, none⟩,
     ⟨some 13, .ext (.t 12) 0, none⟩])
  (.seq (.cond (.t 13)
    .skip
    (.exit 0))
  (.blk 1 (.seq (.reg [⟨some 14, .ext (.t 12) 1, none⟩,
      ⟨some 15, .ext (.t 12) 2, none⟩,
      ⟨some 8, .mov (.t 14), none⟩,
      ⟨some 9, .mov (.t 15), none⟩])
   (.seq (.seq (.reg [⟨some 16, .mov (.t 7), none⟩])
    (.cond (.t 16)
     (.reg [⟨some 17, .mov (.t 8), none⟩,
       ⟨some 6, .mov (.t 17), none⟩,
       ⟨some 7, .mov (.k (.b false)), none⟩])
     .skip))
   (.seq (.reg [⟨some 18, .mov (.t 9), none⟩,
      ⟨some 19, .mov (.t 1), none⟩,
      ⟨some 20, .bin .eql (.t 18) (.t 19), none⟩])
   (.cond (.t 20)
    (.seq (.reg [⟨some 21, .mov (.t 5), none⟩,
       ⟨some 22, .mov (.t 0), none⟩,
       ⟨some 23, .mov (.t 6), none⟩,
       ⟨some 24, .mov (.t 8), none⟩,
       ⟨some 25, .slc .str (.t 22) (some (.t 23)) (some (.t 24)) none, none⟩,
       ⟨some 26, .bslice false 9 1 1 [(.s [])] [(0, (.t 25))], none⟩,
       ⟨some 27, .app 9 1 (.t 21) (.t 26), none⟩,
       ⟨some 5, .mov (.t 27), none⟩])
    (.reg [⟨some 7, .mov (.k (.b true)), none⟩]))
    .skip)))))))
def B15 : AC := (.seq (.reg [⟨some 4, .movnil 9, none⟩])
  (.seq (.reg [⟨some 5, .movnil 9, none⟩])
  (.seq (.reg [⟨some 6, .mov (.k (.i .i64 0)), none⟩,
     ⟨some 7, .mov (.k (.b false)), none⟩])
  (.seq (.seq (.reg [⟨some 10, .mov (.t 0), none⟩,
      ⟨some 11, .range (.t 10), none⟩])
   (.blk 0 (.loop L15_1)))
  (.seq (.seq (.reg [⟨some 28, .mov (.t 7), none⟩])
   (.cond (.t 28)
    (.reg [⟨some 29, .mov (.t 0), none⟩,
      ⟨some 30, .len .str (.t 29), none⟩,
      ⟨some 6, .mov (.t 30), none⟩])
    .skip))
  (.seq (.reg [⟨some 31, .mov (.t 5), none⟩,
     ⟨some 32, .mov (.t 0), none⟩,
     ⟨some 33, .mov (.t 6), none⟩,
     ⟨some 34, .slc .str (.t 32) (some (.t 33)) none none, none⟩,
     ⟨some 35, .bslice false 9 1 1 [(.s [])] [(0, (.t 34))], none⟩,
     ⟨some 36, .app 9 1 (.t 31) (.t 35), none⟩,
     ⟨some 4, .mov (.t 36), none⟩])
  .ret))))))
/-- tidemark/text.Parts -/
def af15 : AFunc := { n := 37, depth := 6, kl := [], res := [.tmp 4], body := B15 }

def L16_1 : AC := (.seq (.reg [⟨some 14, .next 13, none⟩,
     ⟨some 15, .ext (.t 14) 0, none⟩])
  (.seq (.cond (.t 15)
    .skip
    (.exit 0))
  (.blk 1 (.seq (.reg [⟨some 16, .ext (.t 14) 2, none⟩,
      ⟨some 11, .mov (.t 16), none⟩])
   (.seq (.reg [⟨some 17, .mov (.t 9), none⟩,
      ⟨some 18, .bin .add (.t 17) (.k (.i .i64 1)), none⟩,
      ⟨some 9, .mov (.t 18), none⟩])
   (.seq (.reg [⟨some 19, .mov (.t 9), none⟩,
      ⟨some 20, .mov (.t 2), none⟩,
      ⟨some 21, .bin .gtr (.t 19) (.t 20), none⟩,
      ⟨some 22, .mov (.t 21), none⟩,
      ⟨some 23, .mov (.t 3), some (22, false)⟩,
      ⟨some 24, .mov (.t 11), some (22, false)⟩,
      ⟨some 25, .callv true (.t 23) [(.t 24)], some (22, false)⟩,
      ⟨some 26, .un .not (.t 25), some (22, false)⟩,
      ⟨some 27, .pick (.t 22) (.k (.b true)) (.t 26), none⟩])
   (.cond (.t 27)
    (.seq (.reg [⟨some 8, .mov (.k (.b false)), none⟩])
    .ret)
    .skip)))))))
def B16 : AC := (.seq (.reg [⟨some 8, .mov (.k (.b false)), none⟩])
  (.seq (.reg [⟨some 9, .mov (.k (.i .i64 0)), none⟩])
  (.seq (.seq (.reg [⟨some 12, .mov (.t 0), none⟩,
      ⟨some 13, .range (.t 12), none⟩])
   (.blk 0 (.loop L16_1)))
  (.seq (.reg [⟨some 28, .mov (.t 9), none⟩,
     ⟨some 29, .mov (.t 1), none⟩,
     ⟨some 30, .bin .geq (.t 28) (.t 29), none⟩,
     ⟨some 8, .mov (.t 30), none⟩])
  .ret))))
/-- tidemark/text.all -/
def af16 : AFunc := { n := 31, depth := 5, kl := [], res := [.tmp 8], body := B16 }

def B17 : AC := (.seq (.reg [⟨some 2, .mov (.k (.b false)), none⟩])
  (.seq (.reg [⟨some 3, .mov (.t 0), none⟩,
     ⟨some 4, .bin .geq (.t 3) (.k (.i .i32 32)), none⟩,
     ⟨some 5, .mov (.t 4), none⟩,
     ⟨some 6, .mov (.t 0), some (5, true)⟩,
     ⟨some 7, .bin .neq (.t 6) (.k (.i .i32 127)), some (5, true)⟩,
     ⟨some 8, .pick (.t 5) (.t 7) (.k (.b false)), none⟩,
     ⟨some 9, .mov (.t 8), none⟩,
     ⟨some 10, .mov (.t 0), some (9, true)⟩,
     ⟨some 11, .bin .neq (.t 10) (.k (.i .i32 65533)), some (9, true)⟩,
     ⟨some 12, .pick (.t 9) (.t 11) (.k (.b false)), none⟩,
     ⟨some 2, .mov (.t 12), none⟩])
  .ret))
/-- tidemark/text.plain -/
def af17 : AFunc := { n := 13, depth := 4, kl := [], res := [.tmp 2], body := B17 }

def B18 : AC := (.seq (.reg [⟨some 2, .mov (.k (.b false)), none⟩])
  (.seq (.reg [⟨some 3, .mov (.t 0), none⟩,
     ⟨some 4, .bin .geq (.t 3) (.k (.i .i32 97)), none⟩,
     ⟨some 5, .mov (.t 4), none⟩,
     ⟨some 6, .mov (.t 0), some (5, true)⟩,
     ⟨some 7, .bin .leq (.t 6) (.k (.i .i32 122)), some (5, true)⟩,
     ⟨some 8, .pick (.t 5) (.t 7) (.k (.b false)), none⟩,
     ⟨some 2, .mov (.t 8), none⟩])
  .ret))
/-- tidemark/text.letter -/
def af18 : AFunc := { n := 9, depth := 4, kl := [], res := [.tmp 2], body := B18 }

def B19 : AC := (.seq (.reg [⟨some 2, .mov (.k (.i .u64 0)), none⟩])
  (.seq (.cond (.k (.b false))
    (.seq (.reg [⟨some 3, .mov (.t 0), none⟩,
       ⟨some 4, .idx .str (.t 3) (.k (.i .i64 0)), none⟩,
       ⟨some 5, .conv (.int .u64) (.t 4), none⟩,
       ⟨some 6, .mov (.t 0), none⟩,
       ⟨some 7, .idx .str (.t 6) (.k (.i .i64 1)), none⟩,
       ⟨some 8, .conv (.int .u64) (.t 7), none⟩,
       ⟨some 9, .bin .shl (.t 8) (.k (.i .u64 8)), none⟩,
       ⟨some 10, .bin .or (.t 5) (.t 9), none⟩,
       ⟨some 11, .mov (.t 0), none⟩,
       ⟨some 12, .idx .str (.t 11) (.k (.i .i64 2)), none⟩,
       ⟨some 13, .conv (.int .u64) (.t 12), none⟩,
       ⟨some 14, .bin .shl (.t 13) (.k (.i .u64 16)), none⟩,
       ⟨some 15, .bin .or (.t 10) (.t 14), none⟩,
       ⟨some 16, .mov (.t 0), none⟩,
       ⟨some 17, .idx .str (.t 16) (.k (.i .i64 3)), none⟩,
       ⟨some 18, .conv (.int .u64) (.t 17), none⟩,
       ⟨some 19, .bin .shl (.t 18) (.k (.i .u64 24)), none⟩,
       ⟨some 20, .bin .or (.t 15) (.t 19), none⟩,
       ⟨some 2, .mov (.t 20), none⟩])
    .ret)
    .skip)
  (.seq (.reg [⟨some 21, .mov (.t 0), none⟩,
     ⟨some 22, .idx .str (.t 21) (.k (.i .i64 0)), none⟩,
     ⟨some 23, .conv (.int .u64) (.t 22), none⟩,
     ⟨some 24, .mov (.t 0), none⟩,
     ⟨some 25, .idx .str (.t 24) (.k (.i .i64 1)), none⟩,
     ⟨some 26, .conv (.int .u64) (.t 25), none⟩,
     ⟨some 27, .bin .shl (.t 26) (.k (.i .u64 8)), none⟩,
     ⟨some 28, .bin .or (.t 23) (.t 27), none⟩,
     ⟨some 29, .mov (.t 0), none⟩,
     ⟨some 30, .idx .str (.t 29) (.k (.i .i64 2)), none⟩,
     ⟨some 31, .conv (.int .u64) (.t 30), none⟩,
     ⟨some 32, .bin .shl (.t 31) (.k (.i .u64 16)), none⟩,
     ⟨some 33, .bin .or (.t 28) (.t 32), none⟩,
     ⟨some 34, .mov (.t 0), none⟩,
     ⟨some 35, .idx .str (.t 34) (.k (.i .i64 3)), none⟩,
     ⟨some 36, .conv (.int .u64) (.t 35), none⟩,
     ⟨some 37, .bin .shl (.t 36) (.k (.i .u64 24)), none⟩,
     ⟨some 38, .bin .or (.t 33) (.t 37), none⟩,
     ⟨some 39, .mov (.t 0), none⟩,
     ⟨some 40, .idx .str (.t 39) (.k (.i .i64 4)), none⟩,
     ⟨some 41, .conv (.int .u64) (.t 40), none⟩,
     ⟨some 42, .bin .shl (.t 41) (.k (.i .u64 32)), none⟩,
     ⟨some 43, .bin .or (.t 38) (.t 42), none⟩,
     ⟨some 44, .mov (.t 0), none⟩,
     ⟨some 45, .idx .str (.t 44) (.k (.i .i64 5)), none⟩,
     ⟨some 46, .conv (.int .u64) (.t 45), none⟩,
     ⟨some 47, .bin .shl (.t 46) (.k (.i .u64 40)), none⟩,
     ⟨some 48, .bin .or (.t 43) (.t 47), none⟩,
     ⟨some 49, .mov (.t 0), none⟩,
     ⟨some 50, .idx .str (.t 49) (.k (.i .i64 6)), none⟩,
     ⟨some 51, .conv (.int .u64) (.t 50), none⟩,
     ⟨some 52, .bin .shl (.t 51) (.k (.i .u64 48)), none⟩,
     ⟨some 53, .bin .or (.t 48) (.t 52), none⟩,
     ⟨some 54, .mov (.t 0), none⟩,
     ⟨some 55, .idx .str (.t 54) (.k (.i .i64 7)), none⟩,
     ⟨some 56, .conv (.int .u64) (.t 55), none⟩,
     ⟨some 57, .bin .shl (.t 56) (.k (.i .u64 56)), none⟩,
     ⟨some 58, .bin .or (.t 53) (.t 57), none⟩,
     ⟨some 2, .mov (.t 58), none⟩])
  .ret)))
/-- unicode/utf8.word[string] -/
def af19 : AFunc := { n := 59, depth := 6, kl := [], res := [.tmp 2], body := B19 }

def B20 : AC := (.seq (.reg [⟨some 2, .mov (.k (.b false)), none⟩])
  (.seq (.reg [⟨some 3, .mov (.t 0), none⟩,
     ⟨some 4, .bin .and (.t 3) (.k (.i .u8 192)), none⟩,
     ⟨some 5, .bin .neq (.t 4) (.k (.i .u8 128)), none⟩,
     ⟨some 2, .mov (.t 5), none⟩])
  .ret))
/-- unicode/utf8.RuneStart -/
def af20 : AFunc := { n := 6, depth := 3, kl := [], res := [.tmp 2], body := B20 }

def B21 : AC := (.seq (.reg [⟨some 2, .mov (.k (.i .i32 0)), none⟩,
     ⟨some 3, .mov (.k (.i .i64 0)), none⟩])
  (.seq (.seq (.reg [⟨some 4, .mov (.t 0), none⟩,
      ⟨some 5, .bin .neq (.t 4) (.k (.s [])), none⟩,
      ⟨some 6, .mov (.t 5), none⟩,
      ⟨some 7, .mov (.t 0), some (6, true)⟩,
      ⟨some 8, .idx .str (.t 7) (.k (.i .i64 0)), some (6, true)⟩,
      ⟨some 9, .bin .lss (.t 8) (.k (.i .u8 128)), some (6, true)⟩,
      ⟨some 10, .pick (.t 6) (.t 9) (.k (.b false)), none⟩])
   (.cond (.t 10)
    (.seq (.reg [⟨some 11, .mov (.t 0), none⟩,
       ⟨some 12, .idx .str (.t 11) (.k (.i .i64 0)), none⟩,
       ⟨some 13, .conv (.int .i32) (.t 12), none⟩,
       ⟨some 2, .mov (.t 13), none⟩,
       ⟨some 3, .mov (.k (.i .i64 1)), none⟩])
    .ret)
    (.reg [⟨some 15, .mov (.t 0), none⟩,
      ⟨some 16, .call true 23 [(.t 15)], none⟩,
      ⟨some 14, .mov (.t 16), none⟩,
      ⟨some 17, .ext (.t 14) 0, none⟩,
      ⟨some 18, .ext (.t 14) 1, none⟩,
      ⟨some 2, .mov (.t 17), none⟩,
      ⟨some 3, .mov (.t 18), none⟩])))
  .ret))
/-- unicode/utf8.DecodeRuneInString -/
def af21 : AFunc := { n := 19, depth := 5, kl := [], res := [.tmp 2, .tmp 3], body := B21 }

def B22 : AC := (.seq (.reg [⟨some 4, .mov (.k (.s [])), none⟩])
  (.seq (.seq (.reg [⟨some 10, .mov (.t 1), none⟩,
      ⟨some 11, .bin .eql (.t 10) (.k (.i .i64 10)), none⟩])
   (.cond (.t 11)
    (.seq (.seq (.reg [⟨some 12, .mov (.t 0), none⟩,
        ⟨some 13, .bin .leq (.k (.i .i64 0)) (.t 12), none⟩,
        ⟨some 14, .mov (.t 13), none⟩,
        ⟨some 15, .mov (.t 0), some (14, true)⟩,
        ⟨some 16, .bin .lss (.t 15) (.k (.i .i64 100)), some (14, true)⟩,
        ⟨some 17, .pick (.t 14) (.t 16) (.k (.b false)), none⟩])
     (.cond (.t 17)
      (.seq (.reg [⟨some 18, .mov (.t 0), none⟩,
         ⟨some 19, .call true 24 [(.t 18)], none⟩,
         ⟨some 4, .mov (.t 19), none⟩])
      .ret)
      .skip))
    (.seq (.reg [⟨some 5, .alloc 47 [(.i .u8 0), (.i .u8 0), (.i .u8 0), (.i .u8 0), (.i .u8 0), (.i .u8 0), (.i .u8 0), (.i .u8 0), (.i .u8 0), (.i .u8 0), (.i .u8 0), (.i .u8 0), (.i .u8 0), (.i .u8 0), (.i .u8 0), (.i .u8 0), (.i .u8 0), (.i .u8 0), (.i .u8 0), (.i .u8 0), (.i .u8 0), (.i .u8 0), (.i .u8 0), (.i .u8 0)], none⟩])
    (.seq (.reg [⟨some 20, .mov (.t 0), none⟩,
       ⟨some 21, .conv (.int .u64) (.t 20), none⟩,
       ⟨some 6, .mov (.t 21), none⟩])
    (.seq (.seq (.reg [⟨some 22, .mov (.t 0), none⟩,
        ⟨some 23, .bin .lss (.t 22) (.k (.i .i64 0)), none⟩])
     (.cond (.t 23)
      (.reg [⟨some 24, .mov (.t 6), none⟩,
        ⟨some 25, .un .neg (.t 24), none⟩,
        ⟨some 6, .mov (.t 25), none⟩])
      .skip))
    (.seq (.reg [⟨some 26, .mov (.t 6), none⟩,
       ⟨some 27, .call true 25 [(.t 26)], none⟩,
       ⟨some 7, .mov (.t 27), none⟩])
    (.seq (.reg [⟨some 28, .mov (.t 7), none⟩,
       ⟨some 29, .bin .add (.k (.i .i64 1)) (.t 28), none⟩,
       ⟨some 30, .slc (.arr 24 1) (.t 5) (some (.k (.i .i64 1))) (some (.t 29)) none, none⟩,
       ⟨some 31, .mov (.t 6), none⟩,
       ⟨some 32, .call false 26 [(.t 30), (.t 31)], none⟩])
    (.seq (.seq (.reg [⟨some 33, .mov (.t 0), none⟩,
        ⟨some 34, .bin .lss (.t 33) (.k (.i .i64 0)), none⟩])
     (.cond (.t 34)
      (.seq (.reg [⟨some 35, .iaddr (.arr 24 1) (.t 5) (.k (.i .i64 0)), none⟩,
         ⟨none, .store 1 (.t 35) (.k (.i .u8 45)), none⟩])
      (.seq (.reg [⟨some 36, .mov (.t 7), none⟩,
         ⟨some 37, .bin .add (.k (.i .i64 1)) (.t 36), none⟩,
         ⟨some 38, .slc (.arr 24 1) (.t 5) none (some (.t 37)) none, none⟩,
         ⟨some 39, .conv .toStr (.t 38), none⟩,
         ⟨some 4, .mov (.t 39), none⟩])
      .ret))
      .skip))
    (.seq (.reg [⟨some 40, .mov (.t 7), none⟩,
       ⟨some 41, .bin .add (.k (.i .i64 1)) (.t 40), none⟩,
       ⟨some 42, .slc (.arr 24 1) (.t 5) (some (.k (.i .i64 1))) (some (.t 41)) none, none⟩,
       ⟨some 43, .conv .toStr (.t 42), none⟩,
       ⟨some 4, .mov (.t 43), none⟩])
    .ret))))))))
    .skip))
  (.seq (.reg [⟨some 45, .mov (.t 0), none⟩,
     ⟨some 46, .conv (.int .u64) (.t 45), none⟩,
     ⟨some 47, .mov (.t 1), none⟩,
     ⟨some 48, .mov (.t 0), none⟩,
     ⟨some 49, .bin .lss (.t 48) (.k (.i .i64 0)), none⟩,
     ⟨some 50, .call false 27 [(.k (.sl [] 0 .nil)), (.t 46), (.t 47), (.t 49), (.k (.b false))], none⟩,
     ⟨some 44, .mov (.t 50), none⟩,
     ⟨some 51, .ext (.t 44) 0, none⟩,
     ⟨some 52, .ext (.t 44) 1, none⟩,
     ⟨some 8, .mov (.t 51), none⟩,
     ⟨some 9, .mov (.t 52), none⟩])
  (.seq (.reg [⟨some 53, .mov (.t 9), none⟩,
     ⟨some 4, .mov (.t 53), none⟩])
  .ret))))
/-- internal/strconv.FormatInt -/
def af22 : AFunc := { n := 54, depth := 6, kl := [], res := [.tmp 4], body := B22 }

def B23 : AC := (.seq (.reg [⟨some 2, .mov (.k (.i .i32 0)), none⟩,
     ⟨some 3, .mov (.k (.i .i64 0)), none⟩])
  (.seq (.reg [⟨some 13, .mov (.t 0), none⟩,
     ⟨some 14, .len .str (.t 13), none⟩,
     ⟨some 4, .mov (.t 14), none⟩])
  (.seq (.seq (.reg [⟨some 15, .mov (.t 4), none⟩,
      ⟨some 16, .bin .lss (.t 15) (.k (.i .i64 1)), none⟩])
   (.cond (.t 16)
    (.seq (.reg [⟨some 2, .mov (.k (.i .i32 65533)), none⟩,
       ⟨some 3, .mov (.k (.i .i64 0)), none⟩])
    .ret)
    .skip))
  (.seq (.reg [⟨some 17, .mov (.t 0), none⟩,
     ⟨some 18, .idx .str (.t 17) (.k (.i .i64 0)), none⟩,
     ⟨some 5, .mov (.t 18), none⟩])
  (.seq (.reg [⟨some 19, .mov (.t 5), none⟩,
     ⟨some 20, .iaddr (.arr 256 1) (.g 0) (.t 19), none⟩,
     ⟨some 21, .load false 1 (.t 20), none⟩,
     ⟨some 6, .mov (.t 21), none⟩])
  (.seq (.seq (.reg [⟨some 22, .mov (.t 6), none⟩,
      ⟨some 23, .bin .geq (.t 22) (.k (.i .u8 240)), none⟩])
   (.cond (.t 23)
    (.seq (.reg [⟨some 24, .mov (.t 6), none⟩,
       ⟨some 25, .conv (.int .i32) (.t 24), none⟩,
       ⟨some 26, .bin .shl (.t 25) (.k (.i .u64 31)), none⟩,
       ⟨some 27, .bin .shr (.t 26) (.k (.i .u64 31)), none⟩,
       ⟨some 7, .mov (.t 27), none⟩])
    (.seq (.reg [⟨some 28, .mov (.t 0), none⟩,
       ⟨some 29, .idx .str (.t 28) (.k (.i .i64 0)), none⟩,
       ⟨some 30, .conv (.int .i32) (.t 29), none⟩,
       ⟨some 31, .mov (.t 7), none⟩,
       ⟨some 32, .bin .andNot (.t 30) (.t 31), none⟩,
       ⟨some 33, .mov (.t 7), none⟩,
       ⟨some 34, .bin .and (.k (.i .i32 65533)) (.t 33), none⟩,
       ⟨some 35, .bin .or (.t 32) (.t 34), none⟩,
       ⟨some 2, .mov (.t 35), none⟩,
       ⟨some 3, .mov (.k (.i .i64 1)), none⟩])
    .ret))
    .skip))
  (.seq (.reg [⟨some 36, .mov (.t 6), none⟩,
     ⟨some 37, .bin .and (.t 36) (.k (.i .u8 7)), none⟩,
     ⟨some 38, .conv (.int .i64) (.t 37), none⟩,
     ⟨some 8, .mov (.t 38), none⟩])
  (.seq (.reg [⟨some 39, .mov (.t 6), none⟩,
     ⟨some 40, .bin .shr (.t 39) (.k (.i .u64 4)), none⟩,
     ⟨some 41, .iaddr (.arr 16 2) (.g 1) (.t 40), none⟩,
     ⟨some 42, .load true 2 (.t 41), none⟩,
     ⟨some 9, .lalloc [(.i .u8 0), (.i .u8 0)] [9, 49, 53], none⟩,
     ⟨none, .store 2 (.t 9) (.t 42), none⟩])
  (.seq (.seq (.reg [⟨some 43, .mov (.t 4), none⟩,
      ⟨some 44, .mov (.t 8), none⟩,
      ⟨some 45, .bin .lss (.t 43) (.t 44), none⟩])
   (.cond (.t 45)
    (.seq (.reg [⟨some 2, .mov (.k (.i .i32 65533)), none⟩,
       ⟨some 3, .mov (.k (.i .i64 1)), none⟩])
    .ret)
    .skip))
  (.seq (.reg [⟨some 46, .mov (.t 0), none⟩,
     ⟨some 47, .idx .str (.t 46) (.k (.i .i64 1)), none⟩,
     ⟨some 10, .mov (.t 47), none⟩])
  (.seq (.seq (.reg [⟨some 48, .mov (.t 10), none⟩,
      ⟨some 49, .faddr 0 (.t 9), none⟩,
      ⟨some 50, .load false 1 (.t 49), none⟩,
      ⟨some 51, .bin .lss (.t 48) (.t 50), none⟩,
      ⟨some 52, .mov (.t 51), none⟩,
      ⟨some 53, .faddr 1 (.t 9), some (52, false)⟩,
      ⟨some 54, .load false 1 (.t 53), some (52, false)⟩,
      ⟨some 55, .mov (.t 10), some (52, false)⟩,
      ⟨some 56, .bin .lss (.t 54) (.t 55), some (52, false)⟩,
      ⟨some 57, .pick (.t 52) (.k (.b true)) (.t 56), none⟩])
   (.cond (.t 57)
    (.seq (.reg [⟨some 2, .mov (.k (.i .i32 65533)), none⟩,
       ⟨some 3, .mov (.k (.i .i64 1)), none⟩])
    .ret)
    .skip))
  (.seq (.seq (.reg [⟨some 58, .mov (.t 8), none⟩,
      ⟨some 59, .bin .leq (.t 58) (.k (.i .i64 2)), none⟩])
   (.cond (.t 59)
    (.seq (.reg [⟨some 60, .mov (.t 5), none⟩,
       ⟨some 61, .bin .and (.t 60) (.k (.i .u8 31)), none⟩,
       ⟨some 62, .conv (.int .i32) (.t 61), none⟩,
       ⟨some 63, .bin .shl (.t 62) (.k (.i .u64 6)), none⟩,
       ⟨some 64, .mov (.t 10), none⟩,
       ⟨some 65, .bin .and (.t 64) (.k (.i .u8 63)), none⟩,
       ⟨some 66, .conv (.int .i32) (.t 65), none⟩,
       ⟨some 67, .bin .or (.t 63) (.t 66), none⟩,
       ⟨some 2, .mov (.t 67), none⟩,
       ⟨some 3, .mov (.k (.i .i64 2)), none⟩])
    .ret)
    .skip))
  (.seq (.reg [⟨some 68, .mov (.t 0), none⟩,
     ⟨some 69, .idx .str (.t 68) (.k (.i .i64 2)), none⟩,
     ⟨some 11, .mov (.t 69), none⟩])
  (.seq (.seq (.reg [⟨some 70, .mov (.t 11), none⟩,
      ⟨some 71, .bin .lss (.t 70) (.k (.i .u8 128)), none⟩,
      ⟨some 72, .mov (.t 71), none⟩,
      ⟨some 73, .mov (.t 11), some (72, false)⟩,
      ⟨some 74, .bin .lss (.k (.i .u8 191)) (.t 73), some (72, false)⟩,
      ⟨some 75, .pick (.t 72) (.k (.b true)) (.t 74), none⟩])
   (.cond (.t 75)
    (.seq (.reg [⟨some 2, .mov (.k (.i .i32 65533)), none⟩,
       ⟨some 3, .mov (.k (.i .i64 1)), none⟩])
    .ret)
    .skip))
  (.seq (.seq (.reg [⟨some 76, .mov (.t 8), none⟩,
      ⟨some 77, .bin .leq (.t 76) (.k (.i .i64 3)), none⟩])
   (.cond (.t 77)
    (.seq (.reg [⟨some 78, .mov (.t 5), none⟩,
       ⟨some 79, .bin .and (.t 78) (.k (.i .u8 15)), none⟩,
       ⟨some 80, .conv (.int .i32) (.t 79), none⟩,
       ⟨some 81, .bin .shl (.t 80) (.k (.i .u64 12)), none⟩,
       ⟨some 82, .mov (.t 10), none⟩,
       ⟨some 83, .bin .and (.t 82) (.k (.i .u8 63)), none⟩,
       ⟨some 84, .conv (.int .i32) (.t 83), none⟩,
       ⟨some 85, .bin .shl (.t 84) (.k (.i .u64 6)), none⟩,
       ⟨some 86, .bin .or (.t 81) (.t 85), none⟩,
       ⟨some 87, .mov (.t 11), none⟩,
       ⟨some 88, .bin .and (.t 87) (.k (.i .u8 63)), none⟩,
       ⟨some 89, .conv (.int .i32) (.t 88), none⟩,
       ⟨some 90, .bin .or (.t 86) (.t 89), none⟩,
       ⟨some 2, .mov (.t 90), none⟩,
       ⟨some 3, .mov (.k (.i .i64 3)), none⟩])
    .ret)
    .skip))
  (.seq (.reg [⟨some 91, .mov (.t 0), none⟩,
     ⟨some 92, .idx .str (.t 91) (.k (.i .i64 3)), none⟩,
     ⟨some 12, .mov (.t 92), none⟩])
  (.seq (.seq (.reg [⟨some 93, .mov (.t 12), none⟩,
      ⟨some 94, .bin .lss (.t 93) (.k (.i .u8 128)), none⟩,
      ⟨some 95, .mov (.t 94), none⟩,
      ⟨some 96, .mov (.t 12), some (95, false)⟩,
      ⟨some 97, .bin .lss (.k (.i .u8 191)) (.t 96), some (95, false)⟩,
      ⟨some 98, .pick (.t 95) (.k (.b true)) (.t 97), none⟩])
   (.cond (.t 98)
    (.seq (.reg [⟨some 2, .mov (.k (.i .i32 65533)), none⟩,
       ⟨some 3, .mov (.k (.i .i64 1)), none⟩])
    .ret)
    .skip))
  (.seq (.reg [⟨some 99, .mov (.t 5), none⟩,
     ⟨some 100, .bin .and (.t 99) (.k (.i .u8 7)), none⟩,
     ⟨some 101, .conv (.int .i32) (.t 100), none⟩,
     ⟨some 102, .bin .shl (.t 101) (.k (.i .u64 18)), none⟩,
     ⟨some 103, .mov (.t 10), none⟩,
     ⟨some 104, .bin .and (.t 103) (.k (.i .u8 63)), none⟩,
     ⟨some 105, .conv (.int .i32) (.t 104), none⟩,
     ⟨some 106, .bin .shl (.t 105) (.k (.i .u64 12)), none⟩,
     ⟨some 107, .bin .or (.t 102) (.t 106), none⟩,
     ⟨some 108, .mov (.t 11), none⟩,
     ⟨some 109, .bin .and (.t 108) (.k (.i .u8 63)), none⟩,
     ⟨some 110, .conv (.int .i32) (.t 109), none⟩,
     ⟨some 111, .bin .shl (.t 110) (.k (.i .u64 6)), none⟩,
     ⟨some 112, .bin .or (.t 107) (.t 111), none⟩,
     ⟨some 113, .mov (.t 12), none⟩,
     ⟨some 114, .bin .and (.t 113) (.k (.i .u8 63)), none⟩,
     ⟨some 115, .conv (.int .i32) (.t 114), none⟩,
     ⟨some 116, .bin .or (.t 112) (.t 115), none⟩,
     ⟨some 2, .mov (.t 116), none⟩,
     ⟨some 3, .mov (.k (.i .i64 4)), none⟩])
  .ret))))))))))))))))))
/-- unicode/utf8.decodeRuneInStringSlow -/
def af23 : AFunc := { n := 117, depth := 7, kl := [(9, [9, 49, 53])], res := [.tmp 2, .tmp 3], body := B23 }

def B24 : AC := (.seq (.reg [⟨some 2, .mov (.k (.s [])), none⟩])
  (.seq (.seq (.reg [⟨some 3, .mov (.t 0), none⟩,
      ⟨some 4, .bin .lss (.t 3) (.k (.i .i64 10)), none⟩])
   (.cond (.t 4)
    (.seq (.reg [⟨some 5, .mov (.t 0), none⟩,
       ⟨some 6, .mov (.t 0), none⟩,
       ⟨some 7, .bin .add (.t 6) (.k (.i .i64 1)), none⟩,
       ⟨some 8, .slc .str (.k (.s [48, 49, 50, 51, 52, 53, 54, 55, 56, 57, 97, 98, 99, 100, 101, 102, 103, 104, 105, 106, 107, 108, 109, 110, 111, 112, 113, 114, 115, 116, 117, 118, 119, 120, 121, 122])) (some (.t 5)) (some (.t 7)) none, none⟩,
       ⟨some 2, .mov (.t 8), none⟩])
    .ret)
    .skip))
  (.seq (.reg [⟨some 9, .mov (.t 0), none⟩,
     ⟨some 10, .bin .mul (.t 9) (.k (.i .i64 2)), none⟩,
     ⟨some 11, .mov (.t 0), none⟩,
     ⟨some 12, .bin .mul (.t 11) (.k (.i .i64 2)), none⟩,
     ⟨some 13, .bin .add (.t 12) (.k (.i .i64 2)), none⟩,
     ⟨some 14, .slc .str (.k (.s [48, 48, 48, 49, 48, 50, 48, 51, 48, 52, 48, 53, 48, 54, 48, 55, 48, 56, 48, 57, 49, 48, 49, 49, 49, 50, 49, 51, 49, 52, 49, 53, 49, 54, 49, 55, 49, 56, 49, 57, 50, 48, 50, 49, 50, 50, 50, 51, 50, 52, 50, 53, 50, 54, 50, 55, 50, 56, 50, 57, 51, 48, 51, 49, 51, 50, 51, 51, 51, 52, 51, 53, 51, 54, 51, 55, 51, 56, 51, 57, 52, 48, 52, 49, 52, 50, 52, 51, 52, 52, 52, 53, 52, 54, 52, 55, 52, 56, 52, 57, 53, 48, 53, 49, 53, 50, 53, 51, 53, 52, 53, 53, 53, 54, 53, 55, 53, 56, 53, 57, 54, 48, 54, 49, 54, 50, 54, 51, 54, 52, 54, 53, 54, 54, 54, 55, 54, 56, 54, 57, 55, 48, 55, 49, 55, 50, 55, 51, 55, 52, 55, 53, 55, 54, 55, 55, 55, 56, 55, 57, 56, 48, 56, 49, 56, 50, 56, 51, 56, 52, 56, 53, 56, 54, 56, 55, 56, 56, 56, 57, 57, 48, 57, 49, 57, 50, 57, 51, 57, 52, 57, 53, 57, 54, 57, 55, 57, 56, 57, 57])) (some (.t 10)) (some (.t 13)) none, none⟩,
     ⟨some 2, .mov (.t 14), none⟩])
  .ret)))
/-- internal/strconv.small -/
def af24 : AFunc := { n := 15, depth := 4, kl := [], res := [.tmp 2], body := B24 }

def B25 : AC := (.seq (.reg [⟨some 2, .mov (.k (.i .i64 0)), none⟩])
  (.seq (.reg [⟨some 4, .mov (.t 0), none⟩,
     ⟨some 5, .call true 29 [(.t 4)], none⟩,
     ⟨some 6, .call true 28 [(.t 5)], none⟩,
     ⟨some 3, .mov (.t 6), none⟩])
  (.seq (.reg [⟨some 7, .mov (.t 3), none⟩,
     ⟨some 8, .mov (.t 0), none⟩,
     ⟨some 9, .mov (.t 3), none⟩,
     ⟨some 10, .iaddr (.arr 20 1) (.g 2) (.t 9), none⟩,
     ⟨some 11, .load false 1 (.t 10), none⟩,
     ⟨some 12, .bin .geq (.t 8) (.t 11), none⟩,
     ⟨some 13, .call true 30 [(.t 12)], none⟩,
     ⟨some 14, .bin .add (.t 7) (.t 13), none⟩,
     ⟨some 2, .mov (.t 14), none⟩])
  .ret)))
/-- internal/strconv.numDigits -/
def af25 : AFunc := { n := 15, depth := 4, kl := [], res := [.tmp 2], body := B25 }

def L26_1 : AC := (.seq (.seq (.reg [⟨some 19, .mov (.t 4), none⟩,
      ⟨some 20, .bin .geq (.t 19) (.k (.i .i64 8)), none⟩])
   (.cond (.t 20)
    .skip
    (.exit 0)))
  (.blk 1 (.seq (.reg [⟨some 21, .mov (.t 1), none⟩,
      ⟨some 22, .bin .rem (.t 21) (.k (.i .u64 100000000)), none⟩,
      ⟨some 23, .conv (.int .u32) (.t 22), none⟩,
      ⟨some 5, .mov (.t 23), none⟩])
   (.seq (.reg [⟨some 24, .mov (.t 1), none⟩,
      ⟨some 25, .bin .quo (.t 24) (.k (.i .u64 100000000)), none⟩,
      ⟨some 1, .mov (.t 25), none⟩])
   (.seq (.reg [⟨some 26, .mov (.t 5), none⟩,
      ⟨some 27, .bin .quo (.t 26) (.k (.i .u32 10000)), none⟩,
      ⟨some 28, .mov (.t 5), none⟩,
      ⟨some 29, .bin .rem (.t 28) (.k (.i .u32 10000)), none⟩,
      ⟨some 6, .mov (.t 27), none⟩,
      ⟨some 7, .mov (.t 29), none⟩])
   (.seq (.reg [⟨some 30, .mov (.t 7), none⟩,
      ⟨some 31, .bin .quo (.t 30) (.k (.i .u32 100)), none⟩,
      ⟨some 32, .bin .mul (.t 31) (.k (.i .u32 2)), none⟩,
      ⟨some 33, .mov (.t 7), none⟩,
      ⟨some 34, .bin .rem (.t 33) (.k (.i .u32 100)), none⟩,
      ⟨some 35, .bin .mul (.t 34) (.k (.i .u32 2)), none⟩,
      ⟨some 8, .mov (.t 32), none⟩,
      ⟨some 9, .mov (.t 35), none⟩])
   (.seq (.reg [⟨some 36, .mov (.t 6), none⟩,
      ⟨some 37, .bin .quo (.t 36) (.k (.i .u32 100)), none⟩,
      ⟨some 38, .bin .mul (.t 37) (.k (.i .u32 2)), none⟩,
      ⟨some 39, .mov (.t 6), none⟩,
      ⟨some 40, .bin .rem (.t 39) (.k (.i .u32 100)), none⟩,
      ⟨some 41, .bin .mul (.t 40) (.k (.i .u32 2)), none⟩,
      ⟨some 10, .mov (.t 38), none⟩,
      ⟨some 11, .mov (.t 41), none⟩])
   (.seq (.reg [⟨some 42, .mov (.t 0), none⟩,
      ⟨some 43, .mov (.t 4), none⟩,
      ⟨some 44, .bin .sub (.t 43) (.k (.i .i64 1)), none⟩,
      ⟨some 45, .mov (.t 0), none⟩,
      ⟨some 46, .mov (.t 4), none⟩,
      ⟨some 47, .bin .sub (.t 46) (.k (.i .i64 2)), none⟩,
      ⟨some 48, .mov (.t 9), none⟩,
      ⟨some 49, .bin .add (.t 48) (.k (.i .u32 1)), none⟩,
      ⟨some 50, .idx .str (.k (.s [48, 48, 48, 49, 48, 50, 48, 51, 48, 52, 48, 53, 48, 54, 48, 55, 48, 56, 48, 57, 49, 48, 49, 49, 49, 50, 49, 51, 49, 52, 49, 53, 49, 54, 49, 55, 49, 56, 49, 57, 50, 48, 50, 49, 50, 50, 50, 51, 50, 52, 50, 53, 50, 54, 50, 55, 50, 56, 50, 57, 51, 48, 51, 49, 51, 50, 51, 51, 51, 52, 51, 53, 51, 54, 51, 55, 51, 56, 51, 57, 52, 48, 52, 49, 52, 50, 52, 51, 52, 52, 52, 53, 52, 54, 52, 55, 52, 56, 52, 57, 53, 48, 53, 49, 53, 50, 53, 51, 53, 52, 53, 53, 53, 54, 53, 55, 53, 56, 53, 57, 54, 48, 54, 49, 54, 50, 54, 51, 54, 52, 54, 53, 54, 54, 54, 55, 54, 56, 54, 57, 55, 48, 55, 49, 55, 50, 55, 51, 55, 52, 55, 53, 55, 54, 55, 55, 55, 56, 55, 57, 56, 48, 56, 49, 56, 50, 56, 51, 56, 52, 56, 53, 56, 54, 56, 55, 56, 56, 56, 57, 57, 48, 57, 49, 57, 50, 57, 51, 57, 52, 57, 53, 57, 54, 57, 55, 57, 56, 57, 57])) (.t 49), none⟩,
      ⟨some 51, .mov (.t 9), none⟩,
      ⟨some 52, .idx .str (.k (.s [48, 48, 48, 49, 48, 50, 48, 51, 48, 52, 48, 53, 48, 54, 48, 55, 48, 56, 48, 57, 49, 48, 49, 49, 49, 50, 49, 51, 49, 52, 49, 53, 49, 54, 49, 55, 49, 56, 49, 57, 50, 48, 50, 49, 50, 50, 50, 51, 50, 52, 50, 53, 50, 54, 50, 55, 50, 56, 50, 57, 51, 48, 51, 49, 51, 50, 51, 51, 51, 52, 51, 53, 51, 54, 51, 55, 51, 56, 51, 57, 52, 48, 52, 49, 52, 50, 52, 51, 52, 52, 52, 53, 52, 54, 52, 55, 52, 56, 52, 57, 53, 48, 53, 49, 53, 50, 53, 51, 53, 52, 53, 53, 53, 54, 53, 55, 53, 56, 53, 57, 54, 48, 54, 49, 54, 50, 54, 51, 54, 52, 54, 53, 54, 54, 54, 55, 54, 56, 54, 57, 55, 48, 55, 49, 55, 50, 55, 51, 55, 52, 55, 53, 55, 54, 55, 55, 55, 56, 55, 57, 56, 48, 56, 49, 56, 50, 56, 51, 56, 52, 56, 53, 56, 54, 56, 55, 56, 56, 56, 57, 57, 48, 57, 49, 57, 50, 57, 51, 57, 52, 57, 53, 57, 54, 57, 55, 57, 56, 57, 57])) (.t 51), none⟩,
      ⟨some 53, .iaddr (.slice 1) (.t 42) (.t 44), none⟩,
      ⟨none, .store 1 (.t 53) (.t 50), none⟩,
      ⟨some 54, .iaddr (.slice 1) (.t 45) (.t 47), none⟩,
      ⟨none, .store 1 (.t 54) (.t 52), none⟩])
   (.seq (.reg [⟨some 55, .mov (.t 0), none⟩,
      ⟨some 56, .mov (.t 4), none⟩,
      ⟨some 57, .bin .sub (.t 56) (.k (.i .i64 3)), none⟩,
      ⟨some 58, .mov (.t 0), none⟩,
      ⟨some 59, .mov (.t 4), none⟩,
      ⟨some 60, .bin .sub (.t 59) (.k (.i .i64 4)), none⟩,
      ⟨some 61, .mov (.t 8), none⟩,
      ⟨some 62, .bin .add (.t 61) (.k (.i .u32 1)), none⟩,
      ⟨some 63, .idx .str (.k (.s [48, 48, 48, 49, 48, 50, 48, 51, 48, 52, 48, 53, 48, 54, 48, 55, 48, 56, 48, 57, 49, 48, 49, 49, 49, 50, 49, 51, 49, 52, 49, 53, 49, 54, 49, 55, 49, 56, 49, 57, 50, 48, 50, 49, 50, 50, 50, 51, 50, 52, 50, 53, 50, 54, 50, 55, 50, 56, 50, 57, 51, 48, 51, 49, 51, 50, 51, 51, 51, 52, 51, 53, 51, 54, 51, 55, 51, 56, 51, 57, 52, 48, 52, 49, 52, 50, 52, 51, 52, 52, 52, 53, 52, 54, 52, 55, 52, 56, 52, 57, 53, 48, 53, 49, 53, 50, 53, 51, 53, 52, 53, 53, 53, 54, 53, 55, 53, 56, 53, 57, 54, 48, 54, 49, 54, 50, 54, 51, 54, 52, 54, 53, 54, 54, 54, 55, 54, 56, 54, 57, 55, 48, 55, 49, 55, 50, 55, 51, 55, 52, 55, 53, 55, 54, 55, 55, 55, 56, 55, 57, 56, 48, 56, 49, 56, 50, 56, 51, 56, 52, 56, 53, 56, 54, 56, 55, 56, 56, 56, 57, 57, 48, 57, 49, 57, 50, 57, 51, 57, 52, 57, 53, 57, 54, 57, 55, 57, 56, 57, 57])) (.t 62), none⟩,
      ⟨some 64, .mov (.t 8), none⟩,
      ⟨some 65, .idx .str (.k (.s [48, 48, 48, 49, 48, 50, 48, 51, 48, 52, 48, 53, 48, 54, 48, 55, 48, 56, 48, 57, 49, 48, 49, 49, 49, 50, 49, 51, 49, 52, 49, 53, 49, 54, 49, 55, 49, 56, 49, 57, 50, 48, 50, 49, 50, 50, 50, 51, 50, 52, 50, 53, 50, 54, 50, 55, 50, 56, 50, 57, 51, 48, 51, 49, 51, 50, 51, 51, 51, 52, 51, 53, 51, 54, 51, 55, 51, 56, 51, 57, 52, 48, 52, 49, 52, 50, 52, 51, 52, 52, 52, 53, 52, 54, 52, 55, 52, 56, 52, 57, 53, 48, 53, 49, 53, 50, 53, 51, 53, 52, 53, 53, 53, 54, 53, 55, 53, 56, 53, 57, 54, 48, 54, 49, 54, 50, 54, 51, 54, 52, 54, 53, 54, 54, 54, 55, 54, 56, 54, 57, 55, 48, 55, 49, 55, 50, 55, 51, 55, 52, 55, 53, 55, 54, 55, 55, 55, 56, 55, 57, 56, 48, 56, 49, 56, 50, 56, 51, 56, 52, 56, 53, 56, 54, 56, 55, 56, 56, 56, 57, 57, 48, 57, 49, 57, 50, 57, 51, 57, 52, 57, 53, 57, 54, 57, 55, 57, 56, 57, 57])) (.t 64), none⟩,
      ⟨some 66, .iaddr (.slice 1) (.t 55) (.t 57), none⟩,
      ⟨none, .store 1 (.t 66) (.t 63), none⟩,
      ⟨some 67, .iaddr (.slice 1) (.t 58) (.t 60), none⟩,
      ⟨none, .store 1 (.t 67) (.t 65), none⟩])
   (.seq (.reg [⟨some 68, .mov (.t 0), none⟩,
      ⟨some 69, .mov (.t 4), none⟩,
      ⟨some 70, .bin .sub (.t 69) (.k (.i .i64 5)), none⟩,
      ⟨some 71, .mov (.t 0), none⟩,
      ⟨some 72, .mov (.t 4), none⟩,
      ⟨some 73, .bin .sub (.t 72) (.k (.i .i64 6)), none⟩,
      ⟨some 74, .mov (.t 11), none⟩,
      ⟨some 75, .bin .add (.t 74) (.k (.i .u32 1)), none⟩,
      ⟨some 76, .idx .str (.k (.s [48, 48, 48, 49, 48, 50, 48, 51, 48, 52, 48, 53, 48, 54, 48, 55, 48, 56, 48, 57, 49, 48, 49, 49, 49, 50, 49, 51, 49, 52, 49, 53, 49, 54, 49, 55, 49, 56, 49, 57, 50, 48, 50, 49, 50, 50, 50, 51, 50, 52, 50, 53, 50, 54, 50, 55, 50, 56, 50, 57, 51, 48, 51, 49, 51, 50, 51, 51, 51, 52, 51, 53, 51, 54, 51, 55, 51, 56, 51, 57, 52, 48, 52, 49, 52, 50, 52, 51, 52, 52, 52, 53, 52, 54, 52, 55, 52, 56, 52, 57, 53, 48, 53, 49, 53, 50, 53, 51, 53, 52, 53, 53, 53, 54, 53, 55, 53, 56, 53, 57, 54, 48, 54, 49, 54, 50, 54, 51, 54, 52, 54, 53, 54, 54, 54, 55, 54, 56, 54, 57, 55, 48, 55, 49, 55, 50, 55, 51, 55, 52, 55, 53, 55, 54, 55, 55, 55, 56, 55, 57, 56, 48, 56, 49, 56, 50, 56, 51, 56, 52, 56, 53, 56, 54, 56, 55, 56, 56, 56, 57, 57, 48, 57, 49, 57, 50, 57, 51, 57, 52, 57, 53, 57, 54, 57, 55, 57, 56, 57, 57])) (.t 75), none⟩,
      ⟨some 77, .mov (.t 11), none⟩,
      ⟨some 78, .idx .str (.k (.s [48, 48, 48, 49, 48, 50, 48, 51, 48, 52, 48, 53, 48, 54, 48, 55, 48, 56, 48, 57, 49, 48, 49, 49, 49, 50, 49, 51, 49, 52, 49, 53, 49, 54, 49, 55, 49, 56, 49, 57, 50, 48, 50, 49, 50, 50, 50, 51, 50, 52, 50, 53, 50, 54, 50, 55, 50, 56, 50, 57, 51, 48, 51, 49, 51, 50, 51, 51, 51, 52, 51, 53, 51, 54, 51, 55, 51, 56, 51, 57, 52, 48, 52, 49, 52, 50, 52, 51, 52, 52, 52, 53, 52, 54, 52, 55, 52, 56, 52, 57, 53, 48, 53, 49, 53, 50, 53, 51, 53, 52, 53, 53, 53, 54, 53, 55, 53, 56, 53, 57, 54, 48, 54, 49, 54, 50, 54, 51, 54, 52, 54, 53, 54, 54, 54, 55, 54, 56, 54, 57, 55, 48, 55, 49, 55, 50, 55, 51, 55, 52, 55, 53, 55, 54, 55, 55, 55, 56, 55, 57, 56, 48, 56, 49, 56, 50, 56, 51, 56, 52, 56, 53, 56, 54, 56, 55, 56, 56, 56, 57, 57, 48, 57, 49, 57, 50, 57, 51, 57, 52, 57, 53, 57, 54, 57, 55, 57, 56, 57, 57])) (.t 77), none⟩,
      ⟨some 79, .iaddr (.slice 1) (.t 68) (.t 70), none⟩,
      ⟨none, .store 1 (.t 79) (.t 76), none⟩,
      ⟨some 80, .iaddr (.slice 1) (.t 71) (.t 73), none⟩,
      ⟨none, .store 1 (.t 80) (.t 78), none⟩])
   (.seq (.reg [⟨some 81, .mov (.t 0), none⟩,
      ⟨some 82, .mov (.t 4), none⟩,
      ⟨some 83, .bin .sub (.t 82) (.k (.i .i64 7)), none⟩,
      ⟨some 84, .mov (.t 0), none⟩,
      ⟨some 85, .mov (.t 4), none⟩,
      ⟨some 86, .bin .sub (.t 85) (.k (.i .i64 8)), none⟩,
      ⟨some 87, .mov (.t 10), none⟩,
      ⟨some 88, .bin .add (.t 87) (.k (.i .u32 1)), none⟩,
      ⟨some 89, .idx .str (.k (.s [48, 48, 48, 49, 48, 50, 48, 51, 48, 52, 48, 53, 48, 54, 48, 55, 48, 56, 48, 57, 49, 48, 49, 49, 49, 50, 49, 51, 49, 52, 49, 53, 49, 54, 49, 55, 49, 56, 49, 57, 50, 48, 50, 49, 50, 50, 50, 51, 50, 52, 50, 53, 50, 54, 50, 55, 50, 56, 50, 57, 51, 48, 51, 49, 51, 50, 51, 51, 51, 52, 51, 53, 51, 54, 51, 55, 51, 56, 51, 57, 52, 48, 52, 49, 52, 50, 52, 51, 52, 52, 52, 53, 52, 54, 52, 55, 52, 56, 52, 57, 53, 48, 53, 49, 53, 50, 53, 51, 53, 52, 53, 53, 53, 54, 53, 55, 53, 56, 53, 57, 54, 48, 54, 49, 54, 50, 54, 51, 54, 52, 54, 53, 54, 54, 54, 55, 54, 56, 54, 57, 55, 48, 55, 49, 55, 50, 55, 51, 55, 52, 55, 53, 55, 54, 55, 55, 55, 56, 55, 57, 56, 48, 56, 49, 56, 50, 56, 51, 56, 52, 56, 53, 56, 54, 56, 55, 56, 56, 56, 57, 57, 48, 57, 49, 57, 50, 57, 51, 57, 52, 57, 53, 57, 54, 57, 55, 57, 56, 57, 57])) (.t 88), none⟩,
      ⟨some 90, .mov (.t 10), none⟩,
      ⟨some 91, .idx .str (.k (.s [48, 48, 48, 49, 48, 50, 48, 51, 48, 52, 48, 53, 48, 54, 48, 55, 48, 56, 48, 57, 49, 48, 49, 49, 49, 50, 49, 51, 49, 52, 49, 53, 49, 54, 49, 55, 49, 56, 49, 57, 50, 48, 50, 49, 50, 50, 50, 51, 50, 52, 50, 53, 50, 54, 50, 55, 50, 56, 50, 57, 51, 48, 51, 49, 51, 50, 51, 51, 51, 52, 51, 53, 51, 54, 51, 55, 51, 56, 51, 57, 52, 48, 52, 49, 52, 50, 52, 51, 52, 52, 52, 53, 52, 54, 52, 55, 52, 56, 52, 57, 53, 48, 53, 49, 53, 50, 53, 51, 53, 52, 53, 53, 53, 54, 53, 55, 53, 56, 53, 57, 54, 48, 54, 49, 54, 50, 54, 51, 54, 52, 54, 53, 54, 54, 54, 55, 54, 56, 54, 57, 55, 48, 55, 49, 55, 50, 55, 51, 55, 52, 55, 53, 55, 54, 55, 55, 55, 56, 55, 57, 56, 48, 56, 49, 56, 50, 56, 51, 56, 52, 56, 53, 56, 54, 56, 55, 56, 56, 56, 57, 57, 48, 57, 49, 57, 50, 57, 51, 57, 52, 57, 53, 57, 54, 57, 55, 57, 56, 57, 57])) (.t 90), none⟩,
      ⟨some 92, .iaddr (.slice 1) (.t 81) (.t 83), none⟩,
      ⟨none, .store 1 (.t 92) (.t 89), none⟩,
      ⟨some 93, .iaddr (.slice 1) (.t 84) (.t 86), none⟩,
      ⟨none, .store 1 (.t 93) (.t 91), none⟩])
   (.reg [⟨some 94, .mov (.t 4), none⟩,
     ⟨some 95, .bin .sub (.t 94) (.k (.i .i64 8)), none⟩,
     ⟨some 4, .mov (.t 95), none⟩]))))))))))))
def B26 : AC := (.seq (.reg [⟨some 17, .mov (.t 0), none⟩,
     ⟨some 18, .len .slice (.t 17), none⟩,
     ⟨some 4, .mov (.t 18), none⟩])
  (.seq (.blk 0 (.loop L26_1))
  (.seq (.reg [⟨some 96, .mov (.t 1), none⟩,
     ⟨some 97, .conv (.int .u32) (.t 96), none⟩,
     ⟨some 12, .mov (.t 97), none⟩])
  (.seq (.seq (.reg [⟨some 98, .mov (.t 4), none⟩,
      ⟨some 99, .bin .geq (.t 98) (.k (.i .i64 4)), none⟩])
   (.cond (.t 99)
    (.seq (.reg [⟨some 100, .mov (.t 12), none⟩,
       ⟨some 101, .bin .rem (.t 100) (.k (.i .u32 10000)), none⟩,
       ⟨some 13, .mov (.t 101), none⟩])
    (.seq (.reg [⟨some 102, .mov (.t 12), none⟩,
       ⟨some 103, .bin .quo (.t 102) (.k (.i .u32 10000)), none⟩,
       ⟨some 12, .mov (.t 103), none⟩])
    (.seq (.reg [⟨some 104, .mov (.t 13), none⟩,
       ⟨some 105, .bin .quo (.t 104) (.k (.i .u32 100)), none⟩,
       ⟨some 106, .bin .mul (.t 105) (.k (.i .u32 2)), none⟩,
       ⟨some 107, .mov (.t 13), none⟩,
       ⟨some 108, .bin .rem (.t 107) (.k (.i .u32 100)), none⟩,
       ⟨some 109, .bin .mul (.t 108) (.k (.i .u32 2)), none⟩,
       ⟨some 14, .mov (.t 106), none⟩,
       ⟨some 15, .mov (.t 109), none⟩])
    (.seq (.reg [⟨some 110, .mov (.t 0), none⟩,
       ⟨some 111, .mov (.t 4), none⟩,
       ⟨some 112, .bin .sub (.t 111) (.k (.i .i64 1)), none⟩,
       ⟨some 113, .mov (.t 0), none⟩,
       ⟨some 114, .mov (.t 4), none⟩,
       ⟨some 115, .bin .sub (.t 114) (.k (.i .i64 2)), none⟩,
       ⟨some 116, .mov (.t 15), none⟩,
       ⟨some 117, .bin .add (.t 116) (.k (.i .u32 1)), none⟩,
       ⟨some 118, .idx .str (.k (.s [48, 48, 48, 49, 48, 50, 48, 51, 48, 52, 48, 53, 48, 54, 48, 55, 48, 56, 48, 57, 49, 48, 49, 49, 49, 50, 49, 51, 49, 52, 49, 53, 49, 54, 49, 55, 49, 56, 49, 57, 50, 48, 50, 49, 50, 50, 50, 51, 50, 52, 50, 53, 50, 54, 50, 55, 50, 56, 50, 57, 51, 48, 51, 49, 51, 50, 51, 51, 51, 52, 51, 53, 51, 54, 51, 55, 51, 56, 51, 57, 52, 48, 52, 49, 52, 50, 52, 51, 52, 52, 52, 53, 52, 54, 52, 55, 52, 56, 52, 57, 53, 48, 53, 49, 53, 50, 53, 51, 53, 52, 53, 53, 53, 54, 53, 55, 53, 56, 53, 57, 54, 48, 54, 49, 54, 50, 54, 51, 54, 52, 54, 53, 54, 54, 54, 55, 54, 56, 54, 57, 55, 48, 55, 49, 55, 50, 55, 51, 55, 52, 55, 53, 55, 54, 55, 55, 55, 56, 55, 57, 56, 48, 56, 49, 56, 50, 56, 51, 56, 52, 56, 53, 56, 54, 56, 55, 56, 56, 56, 57, 57, 48, 57, 49, 57, 50, 57, 51, 57, 52, 57, 53, 57, 54, 57, 55, 57, 56, 57, 57])) (.t 117), none⟩,
       ⟨some 119, .mov (.t 15), none⟩,
       ⟨some 120, .idx .str (.k (.s [48, 48, 48, 49, 48, 50, 48, 51, 48, 52, 48, 53, 48, 54, 48, 55, 48, 56, 48, 57, 49, 48, 49, 49, 49, 50, 49, 51, 49, 52, 49, 53, 49, 54, 49, 55, 49, 56, 49, 57, 50, 48, 50, 49, 50, 50, 50, 51, 50, 52, 50, 53, 50, 54, 50, 55, 50, 56, 50, 57, 51, 48, 51, 49, 51, 50, 51, 51, 51, 52, 51, 53, 51, 54, 51, 55, 51, 56, 51, 57, 52, 48, 52, 49, 52, 50, 52, 51, 52, 52, 52, 53, 52, 54, 52, 55, 52, 56, 52, 57, 53, 48, 53, 49, 53, 50, 53, 51, 53, 52, 53, 53, 53, 54, 53, 55, 53, 56, 53, 57, 54, 48, 54, 49, 54, 50, 54, 51, 54, 52, 54, 53, 54, 54, 54, 55, 54, 56, 54, 57, 55, 48, 55, 49, 55, 50, 55, 51, 55, 52, 55, 53, 55, 54, 55, 55, 55, 56, 55, 57, 56, 48, 56, 49, 56, 50, 56, 51, 56, 52, 56, 53, 56, 54, 56, 55, 56, 56, 56, 57, 57, 48, 57, 49, 57, 50, 57, 51, 57, 52, 57, 53, 57, 54, 57, 55, 57, 56, 57, 57])) (.t 119), none⟩,
       ⟨some 121, .iaddr (.slice 1) (.t 110) (.t 112), none⟩,
       ⟨none, .store 1 (.t 121) (.t 118), none⟩,
       ⟨some 122, .iaddr (.slice 1) (.t 113) (.t 115), none⟩,
       ⟨none, .store 1 (.t 122) (.t 120), none⟩])
    (.seq (.reg [⟨some 123, .mov (.t 0), none⟩,
       ⟨some 124, .mov (.t 4), none⟩,
       ⟨some 125, .bin .sub (.t 124) (.k (.i .i64 3)), none⟩,
       ⟨some 126, .mov (.t 0), none⟩,
       ⟨some 127, .mov (.t 4), none⟩,
       ⟨some 128, .bin .sub (.t 127) (.k (.i .i64 4)), none⟩,
       ⟨some 129, .mov (.t 14), none⟩,
       ⟨some 130, .bin .add (.t 129) (.k (.i .u32 1)), none⟩,
       ⟨some 131, .idx .str (.k (.s [48, 48, 48, 49, 48, 50, 48, 51, 48, 52, 48, 53, 48, 54, 48, 55, 48, 56, 48, 57, 49, 48, 49, 49, 49, 50, 49, 51, 49, 52, 49, 53, 49, 54, 49, 55, 49, 56, 49, 57, 50, 48, 50, 49, 50, 50, 50, 51, 50, 52, 50, 53, 50, 54, 50, 55, 50, 56, 50, 57, 51, 48, 51, 49, 51, 50, 51, 51, 51, 52, 51, 53, 51, 54, 51, 55, 51, 56, 51, 57, 52, 48, 52, 49, 52, 50, 52, 51, 52, 52, 52, 53, 52, 54, 52, 55, 52, 56, 52, 57, 53, 48, 53, 49, 53, 50, 53, 51, 53, 52, 53, 53, 53, 54, 53, 55, 53, 56, 53, 57, 54, 48, 54, 49, 54, 50, 54, 51, 54, 52, 54, 53, 54, 54, 54, 55, 54, 56, 54, 57, 55, 48, 55, 49, 55, 50, 55, 51, 55, 52, 55, 53, 55, 54, 55, 55, 55, 56, 55, 57, 56, 48, 56, 49, 56, 50, 56, 51, 56, 52, 56, 53, 56, 54, 56, 55, 56, 56, 56, 57, 57, 48, 57, 49, 57, 50, 57, 51, 57, 52, 57, 53, 57, 54, 57, 55, 57, 56, 57, 57])) (.t 130), none⟩,
       ⟨some 132, .mov (.t 14), none⟩,
       ⟨some 133, .idx .str (.k (.s [48, 48, 48, 49, 48, 50, 48, 51, 48, 52, 48, 53, 48, 54, 48, 55, 48, 56, 48, 57, 49, 48, 49, 49, 49, 50, 49, 51, 49, 52, 49, 53, 49, 54, 49, 55, 49, 56, 49, 57, 50, 48, 50, 49, 50, 50, 50, 51, 50, 52, 50, 53, 50, 54, 50, 55, 50, 56, 50, 57, 51, 48, 51, 49, 51, 50, 51, 51, 51, 52, 51, 53, 51, 54, 51, 55, 51, 56, 51, 57, 52, 48, 52, 49, 52, 50, 52, 51, 52, 52, 52, 53, 52, 54, 52, 55, 52, 56, 52, 57, 53, 48, 53, 49, 53, 50, 53, 51, 53, 52, 53, 53, 53, 54, 53, 55, 53, 56, 53, 57, 54, 48, 54, 49, 54, 50, 54, 51, 54, 52, 54, 53, 54, 54, 54, 55, 54, 56, 54, 57, 55, 48, 55, 49, 55, 50, 55, 51, 55, 52, 55, 53, 55, 54, 55, 55, 55, 56, 55, 57, 56, 48, 56, 49, 56, 50, 56, 51, 56, 52, 56, 53, 56, 54, 56, 55, 56, 56, 56, 57, 57, 48, 57, 49, 57, 50, 57, 51, 57, 52, 57, 53, 57, 54, 57, 55, 57, 56, 57, 57])) (.t 132), none⟩,
       ⟨some 134, .iaddr (.slice 1) (.t 123) (.t 125), none⟩,
       ⟨none, .store 1 (.t 134) (.t 131), none⟩,
       ⟨some 135, .iaddr (.slice 1) (.t 126) (.t 128), none⟩,
       ⟨none, .store 1 (.t 135) (.t 133), none⟩])
    (.reg [⟨some 136, .mov (.t 4), none⟩,
      ⟨some 137, .bin .sub (.t 136) (.k (.i .i64 4)), none⟩,
      ⟨some 4, .mov (.t 137), none⟩]))))))
    .skip))
  (.seq (.seq (.reg [⟨some 138, .mov (.t 4), none⟩,
      ⟨some 139, .bin .geq (.t 138) (.k (.i .i64 2)), none⟩])
   (.cond (.t 139)
    (.seq (.reg [⟨some 140, .mov (.t 12), none⟩,
       ⟨some 141, .bin .rem (.t 140) (.k (.i .u32 100)), none⟩,
       ⟨some 142, .bin .mul (.t 141) (.k (.i .u32 2)), none⟩,
       ⟨some 16, .mov (.t 142), none⟩])
    (.seq (.reg [⟨some 143, .mov (.t 12), none⟩,
       ⟨some 144, .bin .quo (.t 143) (.k (.i .u32 100)), none⟩,
       ⟨some 12, .mov (.t 144), none⟩])
    (.seq (.reg [⟨some 145, .mov (.t 0), none⟩,
       ⟨some 146, .mov (.t 4), none⟩,
       ⟨some 147, .bin .sub (.t 146) (.k (.i .i64 1)), none⟩,
       ⟨some 148, .mov (.t 0), none⟩,
       ⟨some 149, .mov (.t 4), none⟩,
       ⟨some 150, .bin .sub (.t 149) (.k (.i .i64 2)), none⟩,
       ⟨some 151, .mov (.t 16), none⟩,
       ⟨some 152, .bin .add (.t 151) (.k (.i .u32 1)), none⟩,
       ⟨some 153, .idx .str (.k (.s [48, 48, 48, 49, 48, 50, 48, 51, 48, 52, 48, 53, 48, 54, 48, 55, 48, 56, 48, 57, 49, 48, 49, 49, 49, 50, 49, 51, 49, 52, 49, 53, 49, 54, 49, 55, 49, 56, 49, 57, 50, 48, 50, 49, 50, 50, 50, 51, 50, 52, 50, 53, 50, 54, 50, 55, 50, 56, 50, 57, 51, 48, 51, 49, 51, 50, 51, 51, 51, 52, 51, 53, 51, 54, 51, 55, 51, 56, 51, 57, 52, 48, 52, 49, 52, 50, 52, 51, 52, 52, 52, 53, 52, 54, 52, 55, 52, 56, 52, 57, 53, 48, 53, 49, 53, 50, 53, 51, 53, 52, 53, 53, 53, 54, 53, 55, 53, 56, 53, 57, 54, 48, 54, 49, 54, 50, 54, 51, 54, 52, 54, 53, 54, 54, 54, 55, 54, 56, 54, 57, 55, 48, 55, 49, 55, 50, 55, 51, 55, 52, 55, 53, 55, 54, 55, 55, 55, 56, 55, 57, 56, 48, 56, 49, 56, 50, 56, 51, 56, 52, 56, 53, 56, 54, 56, 55, 56, 56, 56, 57, 57, 48, 57, 49, 57, 50, 57, 51, 57, 52, 57, 53, 57, 54, 57, 55, 57, 56, 57, 57])) (.t 152), none⟩,
       ⟨some 154, .mov (.t 16), none⟩,
       ⟨some 155, .idx .str (.k (.s [48, 48, 48, 49, 48, 50, 48, 51, 48, 52, 48, 53, 48, 54, 48, 55, 48, 56, 48, 57, 49, 48, 49, 49, 49, 50, 49, 51, 49, 52, 49, 53, 49, 54, 49, 55, 49, 56, 49, 57, 50, 48, 50, 49, 50, 50, 50, 51, 50, 52, 50, 53, 50, 54, 50, 55, 50, 56, 50, 57, 51, 48, 51, 49, 51, 50, 51, 51, 51, 52, 51, 53, 51, 54, 51, 55, 51, 56, 51, 57, 52, 48, 52, 49, 52, 50, 52, 51, 52, 52, 52, 53, 52, 54, 52, 55, 52, 56, 52, 57, 53, 48, 53, 49, 53, 50, 53, 51, 53, 52, 53, 53, 53, 54, 53, 55, 53, 56, 53, 57, 54, 48, 54, 49, 54, 50, 54, 51, 54, 52, 54, 53, 54, 54, 54, 55, 54, 56, 54, 57, 55, 48, 55, 49, 55, 50, 55, 51, 55, 52, 55, 53, 55, 54, 55, 55, 55, 56, 55, 57, 56, 48, 56, 49, 56, 50, 56, 51, 56, 52, 56, 53, 56, 54, 56, 55, 56, 56, 56, 57, 57, 48, 57, 49, 57, 50, 57, 51, 57, 52, 57, 53, 57, 54, 57, 55, 57, 56, 57, 57])) (.t 154), none⟩,
       ⟨some 156, .iaddr (.slice 1) (.t 145) (.t 147), none⟩,
       ⟨none, .store 1 (.t 156) (.t 153), none⟩,
       ⟨some 157, .iaddr (.slice 1) (.t 148) (.t 150), none⟩,
       ⟨none, .store 1 (.t 157) (.t 155), none⟩])
    (.reg [⟨some 158, .mov (.t 4), none⟩,
      ⟨some 159, .bin .sub (.t 158) (.k (.i .i64 2)), none⟩,
      ⟨some 4, .mov (.t 159), none⟩]))))
    .skip))
  (.seq (.reg [⟨some 160, .mov (.t 4), none⟩,
     ⟨some 161, .bin .gtr (.t 160) (.k (.i .i64 0)), none⟩])
  (.cond (.t 161)
   (.reg [⟨some 162, .mov (.t 0), none⟩,
     ⟨some 163, .mov (.t 12), none⟩,
     ⟨some 164, .bin .add (.k (.i .u32 48)) (.t 163), none⟩,
     ⟨some 165, .conv (.int .u8) (.t 164), none⟩,
     ⟨some 166, .iaddr (.slice 1) (.t 162) (.k (.i .i64 0)), none⟩,
     ⟨none, .store 1 (.t 166) (.t 165), none⟩])
   .skip)))))))
/-- internal/strconv.formatBase10 -/
def af26 : AFunc := { n := 167, depth := 8, kl := [], res := [], body := B26 }

def L27_2 : AC := (.seq (.seq (.reg [⟨some 66, .mov (.t 1), none⟩,
      ⟨some 67, .mov (.t 17), none⟩,
      ⟨some 68, .bin .geq (.t 66) (.t 67), none⟩])
   (.cond (.t 68)
    .skip
    (.exit 2)))
  (.blk 3 (.seq (.reg [⟨some 69, .mov (.t 13), none⟩,
      ⟨some 70, .bin .sub (.t 69) (.k (.i .i64 1)), none⟩,
      ⟨some 13, .mov (.t 70), none⟩])
   (.seq (.reg [⟨some 71, .mov (.t 1), none⟩,
      ⟨some 72, .mov (.t 17), none⟩,
      ⟨some 73, .bin .quo (.t 71) (.t 72), none⟩,
      ⟨some 18, .mov (.t 73), none⟩])
   (.seq (.reg [⟨some 74, .mov (.t 13), none⟩,
      ⟨some 75, .mov (.t 1), none⟩,
      ⟨some 76, .mov (.t 18), none⟩,
      ⟨some 77, .mov (.t 17), none⟩,
      ⟨some 78, .bin .mul (.t 76) (.t 77), none⟩,
      ⟨some 79, .bin .sub (.t 75) (.t 78), none⟩,
      ⟨some 80, .idx .str (.k (.s [48, 49, 50, 51, 52, 53, 54, 55, 56, 57, 97, 98, 99, 100, 101, 102, 103, 104, 105, 106, 107, 108, 109, 110, 111, 112, 113, 114, 115, 116, 117, 118, 119, 120, 121, 122])) (.t 79), none⟩,
      ⟨some 81, .iaddr (.arr 65 1) (.t 12) (.t 74), none⟩,
      ⟨none, .store 1 (.t 81) (.t 80), none⟩])
   (.reg [⟨some 82, .mov (.t 18), none⟩,
     ⟨some 1, .mov (.t 82), none⟩]))))))
def L27_1 : AC := (.seq (.seq (.reg [⟨some 44, .mov (.t 1), none⟩,
      ⟨some 45, .mov (.t 15), none⟩,
      ⟨some 46, .bin .geq (.t 44) (.t 45), none⟩])
   (.cond (.t 46)
    .skip
    (.exit 0)))
  (.blk 1 (.seq (.reg [⟨some 47, .mov (.t 13), none⟩,
      ⟨some 48, .bin .sub (.t 47) (.k (.i .i64 1)), none⟩,
      ⟨some 13, .mov (.t 48), none⟩])
   (.seq (.reg [⟨some 49, .mov (.t 13), none⟩,
      ⟨some 50, .mov (.t 1), none⟩,
      ⟨some 51, .mov (.t 16), none⟩,
      ⟨some 52, .bin .and (.t 50) (.t 51), none⟩,
      ⟨some 53, .idx .str (.k (.s [48, 49, 50, 51, 52, 53, 54, 55, 56, 57, 97, 98, 99, 100, 101, 102, 103, 104, 105, 106, 107, 108, 109, 110, 111, 112, 113, 114, 115, 116, 117, 118, 119, 120, 121, 122])) (.t 52), none⟩,
      ⟨some 54, .iaddr (.arr 65 1) (.t 12) (.t 49), none⟩,
      ⟨none, .store 1 (.t 54) (.t 53), none⟩])
   (.reg [⟨some 55, .mov (.t 1), none⟩,
     ⟨some 56, .mov (.t 14), none⟩,
     ⟨some 57, .bin .shr (.t 55) (.t 56), none⟩,
     ⟨some 1, .mov (.t 57), none⟩])))))
def B27 : AC := (.seq (.reg [⟨some 10, .movnil 5, none⟩,
     ⟨some 11, .mov (.k (.s [])), none⟩])
  (.seq (.seq (.reg [⟨some 19, .mov (.t 2), none⟩,
      ⟨some 20, .bin .lss (.t 19) (.k (.i .i64 2)), none⟩,
      ⟨some 21, .mov (.t 20), none⟩,
      ⟨some 22, .mov (.t 2), some (21, false)⟩,
      ⟨some 23, .bin .eql (.t 22) (.k (.i .i64 10)), some (21, false)⟩,
      ⟨some 24, .pick (.t 21) (.k (.b true)) (.t 23), none⟩,
      ⟨some 25, .mov (.t 24), none⟩,
      ⟨some 26, .mov (.t 2), some (25, false)⟩,
      ⟨some 27, .bin .gtr (.t 26) (.k (.i .i64 36)), some (25, false)⟩,
      ⟨some 28, .pick (.t 25) (.k (.b true)) (.t 27), none⟩])
   (.cond (.t 28)
    (.reg [⟨some 29, .mkif 9 (.k (.s [115, 116, 114, 99, 111, 110, 118, 58, 32, 105, 108, 108, 101, 103, 97, 108, 32, 65, 112, 112, 101, 110, 100, 73, 110, 116, 47, 70, 111, 114, 109, 97, 116, 73, 110, 116, 32, 98, 97, 115, 101])), none⟩,
      ⟨none, .bad, none⟩])
    .skip))
  (.seq (.reg [⟨some 12, .alloc 57 [(.i .u8 0), (.i .u8 0), (.i .u8 0), (.i .u8 0), (.i .u8 0), (.i .u8 0), (.i .u8 0), (.i .u8 0), (.i .u8 0), (.i .u8 0), (.i .u8 0), (.i .u8 0), (.i .u8 0), (.i .u8 0), (.i .u8 0), (.i .u8 0), (.i .u8 0), (.i .u8 0), (.i .u8 0), (.i .u8 0), (.i .u8 0), (.i .u8 0), (.i .u8 0), (.i .u8 0), (.i .u8 0), (.i .u8 0), (.i .u8 0), (.i .u8 0), (.i .u8 0), (.i .u8 0), (.i .u8 0), (.i .u8 0), (.i .u8 0), (.i .u8 0), (.i .u8 0), (.i .u8 0), (.i .u8 0), (.i .u8 0), (.i .u8 0), (.i .u8 0), (.i .u8 0), (.i .u8 0), (.i .u8 0), (.i .u8 0), (.i .u8 0), (.i .u8 0), (.i .u8 0), (.i .u8 0), (.i .u8 0), (.i .u8 0), (.i .u8 0), (.i .u8 0), (.i .u8 0), (.i .u8 0), (.i .u8 0), (.i .u8 0), (.i .u8 0), (.i .u8 0), (.i .u8 0), (.i .u8 0), (.i .u8 0), (.i .u8 0), (.i .u8 0), (.i .u8 0), (.i .u8 0)], none⟩])
  (.seq (.reg [⟨some 13, .mov (.k (.i .i64 65)), none⟩])
  (.seq (.seq (.reg [⟨some 30, .mov (.t 3), none⟩])
   (.cond (.t 30)
    (.reg [⟨some 31, .mov (.t 1), none⟩,
      ⟨some 32, .un .neg (.t 31), none⟩,
      ⟨some 1, .mov (.t 32), none⟩])
    .skip))
  (.seq (.seq (.reg [⟨some 33, .mov (.t 2), none⟩,
      ⟨some 34, .call true 31 [(.t 33)], none⟩])
   (.cond (.t 34)
    (.seq (.reg [⟨some 35, .mov (.t 2), none⟩,
       ⟨some 36, .conv (.int .u64) (.t 35), none⟩,
       ⟨some 37, .call true 32 [(.t 36)], none⟩,
       ⟨some 38, .conv (.int .u64) (.t 37), none⟩,
       ⟨some 14, .mov (.t 38), none⟩])
    (.seq (.reg [⟨some 39, .mov (.t 2), none⟩,
       ⟨some 40, .conv (.int .u64) (.t 39), none⟩,
       ⟨some 15, .mov (.t 40), none⟩])
    (.seq (.reg [⟨some 41, .mov (.t 2), none⟩,
       ⟨some 42, .conv (.int .u64) (.t 41), none⟩,
       ⟨some 43, .bin .sub (.t 42) (.k (.i .u64 1)), none⟩,
       ⟨some 16, .mov (.t 43), none⟩])
    (.seq (.blk 0 (.loop L27_1))
    (.seq (.reg [⟨some 58, .mov (.t 13), none⟩,
       ⟨some 59, .bin .sub (.t 58) (.k (.i .i64 1)), none⟩,
       ⟨some 13, .mov (.t 59), none⟩])
    (.reg [⟨some 60, .mov (.t 13), none⟩,
      ⟨some 61, .mov (.t 1), none⟩,
      ⟨some 62, .idx .str (.k (.s [48, 49, 50, 51, 52, 53, 54, 55, 56, 57, 97, 98, 99, 100, 101, 102, 103, 104, 105, 106, 107, 108, 109, 110, 111, 112, 113, 114, 115, 116, 117, 118, 119, 120, 121, 122])) (.t 61), none⟩,
      ⟨some 63, .iaddr (.arr 65 1) (.t 12) (.t 60), none⟩,
      ⟨none, .store 1 (.t 63) (.t 62), none⟩]))))))
    (.seq (.reg [⟨some 64, .mov (.t 2), none⟩,
       ⟨some 65, .conv (.int .u64) (.t 64), none⟩,
       ⟨some 17, .mov (.t 65), none⟩])
    (.seq (.blk 2 (.loop L27_2))
    (.seq (.reg [⟨some 83, .mov (.t 13), none⟩,
       ⟨some 84, .bin .sub (.t 83) (.k (.i .i64 1)), none⟩,
       ⟨some 13, .mov (.t 84), none⟩])
    (.reg [⟨some 85, .mov (.t 13), none⟩,
      ⟨some 86, .mov (.t 1), none⟩,
      ⟨some 87, .idx .str (.k (.s [48, 49, 50, 51, 52, 53, 54, 55, 56, 57, 97, 98, 99, 100, 101, 102, 103, 104, 105, 106, 107, 108, 109, 110, 111, 112, 113, 114, 115, 116, 117, 118, 119, 120, 121, 122])) (.t 86), none⟩,
      ⟨some 88, .iaddr (.arr 65 1) (.t 12) (.t 85), none⟩,
      ⟨none, .store 1 (.t 88) (.t 87), none⟩]))))))
  (.seq (.seq (.reg [⟨some 89, .mov (.t 3), none⟩])
   (.cond (.t 89)
    (.seq (.reg [⟨some 90, .mov (.t 13), none⟩,
       ⟨some 91, .bin .sub (.t 90) (.k (.i .i64 1)), none⟩,
       ⟨some 13, .mov (.t 91), none⟩])
    (.reg [⟨some 92, .mov (.t 13), none⟩,
      ⟨some 93, .iaddr (.arr 65 1) (.t 12) (.t 92), none⟩,
      ⟨none, .store 1 (.t 93) (.k (.i .u8 45)), none⟩]))
    .skip))
  (.seq (.seq (.reg [⟨some 94, .mov (.t 4), none⟩])
   (.cond (.t 94)
    (.seq (.reg [⟨some 95, .mov (.t 0), none⟩,
       ⟨some 96, .mov (.t 13), none⟩,
       ⟨some 97, .slc (.arr 65 1) (.t 12) (some (.t 96)) none none, none⟩,
       ⟨some 98, .app 5 1 (.t 95) (.t 97), none⟩,
       ⟨some 10, .mov (.t 98), none⟩])
    .ret)
    .skip))
  (.seq (.reg [⟨some 99, .mov (.t 13), none⟩,
     ⟨some 100, .slc (.arr 65 1) (.t 12) (some (.t 99)) none none, none⟩,
     ⟨some 101, .conv .toStr (.t 100), none⟩,
     ⟨some 11, .mov (.t 101), none⟩])
  .ret)))))))))
/-- internal/strconv.formatBits -/
def af27 : AFunc := { n := 102, depth := 7, kl := [], res := [.tmp 10, .tmp 11], body := B27 }

def B28 : AC := (.seq (.reg [⟨some 2, .mov (.k (.i .i64 0)), none⟩])
  (.seq (.reg [⟨some 3, .mov (.t 0), none⟩,
     ⟨some 4, .bin .mul (.t 3) (.k (.i .i64 78913)), none⟩,
     ⟨some 5, .bin .shr (.t 4) (.k (.i .u64 18)), none⟩,
     ⟨some 2, .mov (.t 5), none⟩])
  .ret))
/-- internal/strconv.log10Pow2 -/
def af28 : AFunc := { n := 6, depth := 3, kl := [], res := [.tmp 2], body := B28 }

def B29 : AC := (.seq (.reg [⟨some 2, .mov (.k (.i .i64 0)), none⟩])
  (.seq (.seq (.reg [⟨some 3, .mov (.t 0), none⟩,
      ⟨some 4, .bin .geq (.t 3) (.k (.i .u64 4294967296)), none⟩])
   (.cond (.t 4)
    (.seq (.reg [⟨some 5, .mov (.t 0), none⟩,
       ⟨some 6, .bin .shr (.t 5) (.k (.i .u64 32)), none⟩,
       ⟨some 0, .mov (.t 6), none⟩])
    (.reg [⟨some 2, .mov (.k (.i .i64 32)), none⟩]))
    .skip))
  (.seq (.seq (.reg [⟨some 7, .mov (.t 0), none⟩,
      ⟨some 8, .bin .geq (.t 7) (.k (.i .u64 65536)), none⟩])
   (.cond (.t 8)
    (.seq (.reg [⟨some 9, .mov (.t 0), none⟩,
       ⟨some 10, .bin .shr (.t 9) (.k (.i .u64 16)), none⟩,
       ⟨some 0, .mov (.t 10), none⟩])
    (.reg [⟨some 11, .mov (.t 2), none⟩,
      ⟨some 12, .bin .add (.t 11) (.k (.i .i64 16)), none⟩,
      ⟨some 2, .mov (.t 12), none⟩]))
    .skip))
  (.seq (.seq (.reg [⟨some 13, .mov (.t 0), none⟩,
      ⟨some 14, .bin .geq (.t 13) (.k (.i .u64 256)), none⟩])
   (.cond (.t 14)
    (.seq (.reg [⟨some 15, .mov (.t 0), none⟩,
       ⟨some 16, .bin .shr (.t 15) (.k (.i .u64 8)), none⟩,
       ⟨some 0, .mov (.t 16), none⟩])
    (.reg [⟨some 17, .mov (.t 2), none⟩,
      ⟨some 18, .bin .add (.t 17) (.k (.i .i64 8)), none⟩,
      ⟨some 2, .mov (.t 18), none⟩]))
    .skip))
  (.seq (.reg [⟨some 19, .mov (.t 2), none⟩,
     ⟨some 20, .mov (.t 0), none⟩,
     ⟨some 21, .conv (.int .u8) (.t 20), none⟩,
     ⟨some 22, .idx .str (.k (.s [0, 1, 2, 2, 3, 3, 3, 3, 4, 4, 4, 4, 4, 4, 4, 4, 5, 5, 5, 5, 5, 5, 5, 5, 5, 5, 5, 5, 5, 5, 5, 5, 6, 6, 6, 6, 6, 6, 6, 6, 6, 6, 6, 6, 6, 6, 6, 6, 6, 6, 6, 6, 6, 6, 6, 6, 6, 6, 6, 6, 6, 6, 6, 6, 7, 7, 7, 7, 7, 7, 7, 7, 7, 7, 7, 7, 7, 7, 7, 7, 7, 7, 7, 7, 7, 7, 7, 7, 7, 7, 7, 7, 7, 7, 7, 7, 7, 7, 7, 7, 7, 7, 7, 7, 7, 7, 7, 7, 7, 7, 7, 7, 7, 7, 7, 7, 7, 7, 7, 7, 7, 7, 7, 7, 7, 7, 7, 7, 8, 8, 8, 8, 8, 8, 8, 8, 8, 8, 8, 8, 8, 8, 8, 8, 8, 8, 8, 8, 8, 8, 8, 8, 8, 8, 8, 8, 8, 8, 8, 8, 8, 8, 8, 8, 8, 8, 8, 8, 8, 8, 8, 8, 8, 8, 8, 8, 8, 8, 8, 8, 8, 8, 8, 8, 8, 8, 8, 8, 8, 8, 8, 8, 8, 8, 8, 8, 8, 8, 8, 8, 8, 8, 8, 8, 8, 8, 8, 8, 8, 8, 8, 8, 8, 8, 8, 8, 8, 8, 8, 8, 8, 8, 8, 8, 8, 8, 8, 8, 8, 8, 8, 8, 8, 8, 8, 8, 8, 8, 8, 8, 8, 8, 8, 8, 8, 8, 8, 8, 8, 8, 8, 8, 8, 8, 8, 8])) (.t 21), none⟩,
     ⟨some 23, .conv (.int .i64) (.t 22), none⟩,
     ⟨some 24, .bin .add (.t 19) (.t 23), none⟩,
     ⟨some 2, .mov (.t 24), none⟩])
  .ret)))))
/-- math/bits.Len64 -/
def af29 : AFunc := { n := 25, depth := 5, kl := [], res := [.tmp 2], body := B29 }

def B30 : AC := (.seq (.reg [⟨some 2, .mov (.k (.i .i64 0)), none⟩])
  (.seq (.seq (.reg [⟨some 3, .mov (.t 0), none⟩])
   (.cond (.t 3)
    (.seq (.reg [⟨some 2, .mov (.k (.i .i64 1)), none⟩])
    .ret)
    .skip))
  (.seq (.reg [⟨some 2, .mov (.k (.i .i64 0)), none⟩])
  .ret)))
/-- internal/strconv.bool2[int] -/
def af30 : AFunc := { n := 4, depth := 3, kl := [], res := [.tmp 2], body := B30 }

def B31 : AC := (.seq (.reg [⟨some 2, .mov (.k (.b false)), none⟩])
  (.seq (.reg [⟨some 3, .mov (.t 0), none⟩,
     ⟨some 4, .mov (.t 0), none⟩,
     ⟨some 5, .bin .sub (.t 4) (.k (.i .i64 1)), none⟩,
     ⟨some 6, .bin .and (.t 3) (.t 5), none⟩,
     ⟨some 7, .bin .eql (.t 6) (.k (.i .i64 0)), none⟩,
     ⟨some 2, .mov (.t 7), none⟩])
  .ret))
/-- internal/strconv.isPowerOfTwo -/
def af31 : AFunc := { n := 8, depth := 4, kl := [], res := [.tmp 2], body := B31 }

def B32 : AC := (.seq (.reg [⟨some 2, .mov (.k (.i .i64 0)), none⟩])
  (.seq (.cond (.k (.b false))
    (.seq (.reg [⟨some 3, .mov (.t 0), none⟩,
       ⟨some 4, .conv (.int .u32) (.t 3), none⟩,
       ⟨some 5, .call true 33 [(.t 4)], none⟩,
       ⟨some 2, .mov (.t 5), none⟩])
    .ret)
    .skip)
  (.seq (.reg [⟨some 6, .mov (.t 0), none⟩,
     ⟨some 7, .call true 34 [(.t 6)], none⟩,
     ⟨some 2, .mov (.t 7), none⟩])
  .ret)))
/-- math/bits.TrailingZeros -/
def af32 : AFunc := { n := 8, depth := 4, kl := [], res := [.tmp 2], body := B32 }

def B33 : AC := (.seq (.reg [⟨some 2, .mov (.k (.i .i64 0)), none⟩])
  (.seq (.seq (.reg [⟨some 3, .mov (.t 0), none⟩,
      ⟨some 4, .bin .eql (.t 3) (.k (.i .u32 0)), none⟩])
   (.cond (.t 4)
    (.seq (.reg [⟨some 2, .mov (.k (.i .i64 32)), none⟩])
    .ret)
    .skip))
  (.seq (.reg [⟨some 5, .mov (.t 0), none⟩,
     ⟨some 6, .mov (.t 0), none⟩,
     ⟨some 7, .un .neg (.t 6), none⟩,
     ⟨some 8, .bin .and (.t 5) (.t 7), none⟩,
     ⟨some 9, .bin .mul (.t 8) (.k (.i .u32 125613361)), none⟩,
     ⟨some 10, .bin .shr (.t 9) (.k (.i .u64 27)), none⟩,
     ⟨some 11, .iaddr (.arr 32 1) (.g 3) (.t 10), none⟩,
     ⟨some 12, .load false 1 (.t 11), none⟩,
     ⟨some 13, .conv (.int .i64) (.t 12), none⟩,
     ⟨some 2, .mov (.t 13), none⟩])
  .ret)))
/-- math/bits.TrailingZeros32 -/
def af33 : AFunc := { n := 14, depth := 4, kl := [], res := [.tmp 2], body := B33 }

def B34 : AC := (.seq (.reg [⟨some 2, .mov (.k (.i .i64 0)), none⟩])
  (.seq (.seq (.reg [⟨some 3, .mov (.t 0), none⟩,
      ⟨some 4, .bin .eql (.t 3) (.k (.i .u64 0)), none⟩])
   (.cond (.t 4)
    (.seq (.reg [⟨some 2, .mov (.k (.i .i64 64)), none⟩])
    .ret)
    .skip))
  (.seq (.reg [⟨some 5, .mov (.t 0), none⟩,
     ⟨some 6, .mov (.t 0), none⟩,
     ⟨some 7, .un .neg (.t 6), none⟩,
     ⟨some 8, .bin .and (.t 5) (.t 7), none⟩,
     ⟨some 9, .bin .mul (.t 8) (.k (.i .u64 285870213051353865)), none⟩,
     ⟨some 10, .bin .shr (.t 9) (.k (.i .u64 58)), none⟩,
     ⟨some 11, .iaddr (.arr 64 1) (.g 4) (.t 10), none⟩,
     ⟨some 12, .load false 1 (.t 11), none⟩,
     ⟨some 13, .conv (.int .i64) (.t 12), none⟩,
     ⟨some 2, .mov (.t 13), none⟩])
  .ret)))
/-- math/bits.TrailingZeros64 -/
def af34 : AFunc := { n := 14, depth := 4, kl := [], res := [.tmp 2], body := B34 }

def kn : Known := ⟨[]⟩

def lst : List (Nat × AFunc) := [(3, af3), (4, af4), (5, af5), (6, af6), (7, af7), (8, af8), (9, af9), (10, af10), (11, af11), (12, af12), (13, af13), (14, af14), (15, af15), (16, af16), (17, af17), (18, af18), (19, af19), (20, af20), (21, af21), (22, af22), (23, af23), (24, af24), (25, af25), (26, af26), (27, af27), (28, af28), (29, af29), (30, af30), (31, af31), (32, af32), (33, af33), (34, af34)]
theorem lst_ok : lst.all (fun x => fnOk Tryd.prog kn x.1 x.2) = true := by kernel_rfl
def tab (g : FuncId) : Option AFunc := al lst g

end Go.Proofs.YtkibkodlbjhjfaaDoor
