/- The abstract interpreter's code of the functions that the laws of this seat reach, and that it is the program's: each by the kernel. Printed by a program. -/
import Derived.Test.YtpcjhfchpelonaaGreatDoorTab1
import Derived.Test.YtpcjhfchpelonaaGreatDoorProg
import Derived.KernelRfl
namespace Go.Proofs.YtpcjhfchpelonaaGreatDoor
open Go Ai

def L142_2 : AC := (.seq (Sr [Om 16 7, Om 17 1, Ob 18 .gtr 16 17, Om 19 18, Gt (Om 20 0) 19,
 Gt (Om 21 7) 19,
 Gt (Oi 22 1 20 21) 19,
 Gt (Ol 23 1 22) 19,
 Gt (Om 24 0) 19,
 Gt (Om 25 7) 19,
 Gt (Oz 26 .sub 25 1) 19,
 Gt (Oi 27 1 24 26) 19,
 Gt (Ol 28 1 27) 19,
 Gt (Oc2 29 true 148 23 28) 19,
 Oj 30 19 29]
 (.cond (.t 30)
 .skip
 (.exit 2)))
 (.seq (.blk 3 (.reg [Om 33 0, Om 34 7, Om 35 0, Om 36 7, Oz 37 .sub 36 1, Om 38 0, Om 39 7, Oz 40 .sub 39 1, Oi 41 1 38 40, Ol 42 1 41, Om 43 0, Om 44 7, Oi 45 1 43 44, Ol 46 1 45, Oi 47 1 33 34, O5 1 47 42, Oi 48 1 35 37, O5 1 48 46]))
 (.reg [Om 31 7, Oz 32 .sub 31 1, Om 7 32])))
def L142_1 : AC := (.seq (Sr [Om 10 6, Om 11 2, Ob 12 .lss 10 11]
 (.cond (.t 12)
 .skip
 (.exit 0)))
 (.seq (.blk 1 (Sr [Om 15 6, Om 7 15]
 (.blk 2 (.loop L142_2))))
 (.reg [Om 13 6, Oz 14 .add 13 1, Om 6 14])))
def B142 : AC := (Sr [Om 8 1, Oz 9 .add 8 1, Om 6 9]
 (.blk 0 (.loop L142_1)))
def af142 : AFunc := { n := 49, depth := 6, kl := [], res := [], body := B142 }

def B148 : AC := (Sr [Ox 4 (.b false)]
 (Sr [Om 5 0, Oc 6 true 172 5, Om 7 6, Gt (Om 8 1) 7,
 Gt (Oc 9 true 172 8) 7,
 Gt (Ou 10 9) 7,
 Oj 11 7 10, Om 12 11, Gf (Om 13 0) 12,
 Gf (Om 14 1) 12,
 Gf (Ob 15 .lss 13 14) 12,
 Oo 16 12 15, Om 4 16]
 .ret))
def af148 : AFunc := { n := 17, depth := 5, kl := [], res := [.tmp 4], body := B148 }

def B152 : AC := (Sr [On 2 0]
 (.seq (Sr [Om 3 0, Oq 4 (.bin .geq (.t 3) (.k (.i .u64 4294967296)))]
 (.cond (.t 4)
 (Sr [Om 5 0, Oq 6 (.bin .shr (.t 5) (.k (.i .u64 32))), Om 0 6]
 (.reg [On 2 32]))
 .skip))
 (.seq (Sr [Om 7 0, Oq 8 (.bin .geq (.t 7) (.k (.i .u64 65536)))]
 (.cond (.t 8)
 (Sr [Om 9 0, Oq 10 (.bin .shr (.t 9) (.k (.i .u64 16))), Om 0 10]
 (.reg [Om 11 2, Oz 12 .add 11 16, Om 2 12]))
 .skip))
 (.seq (Sr [Om 13 0, Oq 14 (.bin .geq (.t 13) (.k (.i .u64 256)))]
 (.cond (.t 14)
 (Sr [Om 15 0, Oq 16 (.bin .shr (.t 15) (.k (.i .u64 8))), Om 0 16]
 (.reg [Om 17 2, Oz 18 .add 17 8, Om 2 18]))
 .skip))
 (Sr [Om 19 2, Om 20 0, Ov 21 .u8 20, Oq 22 (.idx .str (.k (.s [0, 1, 2, 2, 3, 3, 3, 3, 4, 4, 4, 4, 4, 4, 4, 4, 5, 5, 5, 5, 5, 5, 5, 5, 5, 5, 5, 5, 5, 5, 5, 5, 6, 6, 6, 6, 6, 6, 6, 6, 6, 6, 6, 6, 6, 6, 6, 6, 6, 6, 6, 6, 6, 6, 6, 6, 6, 6, 6, 6, 6, 6, 6, 6, 7, 7, 7, 7, 7, 7, 7, 7, 7, 7, 7, 7, 7, 7, 7, 7, 7, 7, 7, 7, 7, 7, 7, 7, 7, 7, 7, 7, 7, 7, 7, 7, 7, 7, 7, 7, 7, 7, 7, 7, 7, 7, 7, 7, 7, 7, 7, 7, 7, 7, 7, 7, 7, 7, 7, 7, 7, 7, 7, 7, 7, 7, 7, 7, 8, 8, 8, 8, 8, 8, 8, 8, 8, 8, 8, 8, 8, 8, 8, 8, 8, 8, 8, 8, 8, 8, 8, 8, 8, 8, 8, 8, 8, 8, 8, 8, 8, 8, 8, 8, 8, 8, 8, 8, 8, 8, 8, 8, 8, 8, 8, 8, 8, 8, 8, 8, 8, 8, 8, 8, 8, 8, 8, 8, 8, 8, 8, 8, 8, 8, 8, 8, 8, 8, 8, 8, 8, 8, 8, 8, 8, 8, 8, 8, 8, 8, 8, 8, 8, 8, 8, 8, 8, 8, 8, 8, 8, 8, 8, 8, 8, 8, 8, 8, 8, 8, 8, 8, 8, 8, 8, 8, 8, 8, 8, 8, 8, 8, 8, 8, 8, 8, 8, 8, 8, 8, 8, 8, 8, 8, 8, 8])) (.t 21)), Ov 23 .i64 22, Ob 24 .add 19 23, Om 2 24]
 .ret)))))
def af152 : AFunc := { n := 25, depth := 5, kl := [], res := [.tmp 2], body := B152 }

def B155 : AC := (Sr [Oq 4 (.movnil 5)]
 (.seq (Sr [Om 5 1, Ov 6 .u32 5, Oq 7 (.bin .leq (.t 6) (.k (.i .u32 127)))]
 (.cond (.t 7)
 (Sr [Om 8 0, Om 9 1, Ov 10 .u8 9, Oq 11 (.bslice false 5 1 1 [(.i .u8 0)] [(0, (.t 10))]), Oy 12 5 1 8 11, Om 4 12]
 .ret)
 .skip))
 (Sr [Om 13 0, Om 14 1, Oc2 15 false 174 13 14, Om 4 15]
 .ret)))
def af155 : AFunc := { n := 16, depth := 5, kl := [], res := [.tmp 4], body := B155 }

def B158 : AC := (Sr [Ox 2 (.b false)]
 (Sr [Om 3 0, Om 4 0, Oz 5 .sub 4 1, Ob 6 .and 3 5, Oz 7 .eql 6 0, Om 2 7]
 .ret))
def af158 : AFunc := { n := 8, depth := 4, kl := [], res := [.tmp 2], body := B158 }

def B159 : AC := (Sr [On 2 0]
 (.seq (.cond (.k (.b false))
 (Sr [Om 3 0, Ov 4 .u32 3, Oc 5 true 175 4, Om 2 5]
 .ret)
 .skip)
 (Sr [Om 6 0, Oc 7 true 176 6, Om 2 7]
 .ret)))
def af159 : AFunc := { n := 8, depth := 4, kl := [], res := [.tmp 2], body := B159 }

def B161 : AC := (Sr [Ox 2 (.b false)]
 (.seq (.blk 0 (Sr [Om 4 0, Oq 5 (.bin .leq (.k (.i .i32 0)) (.t 4)), Om 6 5, Gt (Om 7 0) 6,
 Gt (Oq 8 (.bin .lss (.t 7) (.k (.i .i32 55296)))) 6,
 Oj 9 6 8, Om 3 9]
 (.cond (.t 3)
 (Sr [Ox 2 (.b true)]
 .ret)
 (Sr [Om 11 0, Oq 12 (.bin .lss (.k (.i .i32 57343)) (.t 11)), Om 13 12, Gt (Om 14 0) 13,
 Gt (Oq 15 (.bin .leq (.t 14) (.k (.i .i32 1114111)))) 13,
 Oj 16 13 15, Om 10 16]
 (.cond (.t 10)
 (Sr [Ox 2 (.b true)]
 .ret)
 .skip)))))
 (Sr [Ox 2 (.b false)]
 .ret)))
def af161 : AFunc := { n := 17, depth := 5, kl := [], res := [.tmp 2], body := B161 }

def B162 : AC := (Sr [Ox 2 (.b false)]
 (Sr [Om 4 0, Oq 5 (.call false 107 [(.t 4), (.k (.i .i64 1))]), Oq 3 (.lalloc [(.i .i64 0), (.s []), (.i .i64 0)] [3, 11, 16]), O5 3 3 5]
 (Sr [Om 6 0, Oc 7 false 76 6, Og 8 0 1 7, Oz 9 .eql 8 1, Om 10 9, Gt (Of 11 0 3) 10,
 Gt (Ol 12 1 11) 10,
 Gt (Oz 13 .eql 12 4) 10,
 Oj 14 10 13, Om 15 14, Gt (Of 16 1 3) 15,
 Gt (Ol 17 1 16) 15,
 Gt (Oq 18 (.bin .eql (.t 17) (.k (.s [61])))) 15,
 Oj 19 15 18, Om 2 19]
 .ret)))
def af162 : AFunc := { n := 20, depth := 5, kl := [(3, [3, 11, 16])], res := [.tmp 2], body := B162 }

def B163 : AC := (Sr [Ox 2 (.s []), On 3 0]
 (.seq (Sr [Om 4 0, Oc 5 false 76 4, Og 6 0 1 5, Oz 7 .neq 6 2]
 (.cond (.t 7)
 (Sr [Ox 2 (.s []), On 3 192]
 .ret)
 .skip))
 (Sr [Om 8 0, Oc 9 false 78 8, Og 10 1 1 9, Om 2 10, On 3 0]
 .ret)))
def af163 : AFunc := { n := 11, depth := 4, kl := [], res := [.tmp 2, .tmp 3], body := B163 }

def B164 : AC := (Sr [Oq 4 (.lalloc [(.i .i64 0), (.s []), (.s []), (.sl [] 0 .nil)] [4]), On 5 0]
 (.seq (Sr [Om 10 0, Oc 11 false 76 10, Og 12 1 1 11]
 (.blk 0 (Sr [Oq 14 (.bin .eql (.t 12) (.k (.s [97, 108, 108]))), Om 13 14]
 (.cond (.t 13)
 (Sr [Om 15 0, Oc 16 false 78 15]
 (Sr [Oq 17 (.build [(.i .i64 0), (.s []), (.s []), (.sl [] 0 .nil)] []), O5 4 4 17, On 5 0]
 .ret))
 (Sr [Oq 19 (.bin .eql (.t 12) (.k (.s [112, 117, 116]))), Om 18 19]
 (.cond (.t 18)
 (Sr [Om 20 0, Oc 21 false 78 20]
 (Sr [Oq 22 (.build [(.i .i64 0), (.s []), (.s []), (.sl [] 0 .nil)] [(0, 1, (.k (.i .i64 3)))]), O5 4 4 22, On 5 0]
 .ret))
 (Sr [Oq 24 (.bin .eql (.t 12) (.k (.s [110, 111, 116]))), Om 23 24]
 (.cond (.t 23)
 (Sr [Om 25 0, Oc 26 false 78 25]
 (Sr [Om 28 0, Om 29 1, Oc2 30 false 178 28 29, Om 27 30, Oe 31 27 0, Oe 32 27 1, Oq 6 (.lalloc [(.i .i64 0), (.s []), (.s []), (.sl [] 0 .nil)] [6]), O5 4 6 31, Om 7 32]
 (Sr [Oa 33 4 6, Oq 34 (.bslice false 24 4 1 [(.i .i64 0), (.s []), (.s []), (.sl [] 0 .nil)] [(0, (.t 33))]), Oq 35 (.build [(.i .i64 0), (.s []), (.s []), (.sl [] 0 .nil)] [(0, 1, (.k (.i .i64 4))), (3, 1, (.t 34))]), Om 36 7, O5 4 4 35, Om 5 36]
 .ret)))
 (Sr [Oq 38 (.bin .eql (.t 12) (.k (.s [107, 101, 121]))), Om 37 38]
 (.cond (.t 37)
 (Sr [Om 39 0, Oc 40 false 78 39]
 (.seq (Sr [Om 41 0, Oq 42 (.call false 80 [(.t 41), (.k (.i .i64 4)), (.k (.s [94]))]), Ou 43 42]
 (.cond (.t 43)
 (Sr [Oq 44 (.build [(.i .i64 0), (.s []), (.s []), (.sl [] 0 .nil)] []), O5 4 4 44, On 5 192]
 .ret)
 .skip))
 (Sr [Om 46 0, Oc 47 false 163 46, Om 45 47, Oe 48 45 0, Oe 49 45 1, Om 8 48, Om 9 49]
 (Sr [Om 50 8, Oq 51 (.build [(.i .i64 0), (.s []), (.s []), (.sl [] 0 .nil)] [(0, 1, (.k (.i .i64 1))), (2, 1, (.t 50))]), Om 52 9, O5 4 4 51, Om 5 52]
 .ret))))
 (Sr [Oq 54 (.bin .eql (.t 12) (.k (.s [97, 110, 121]))), Om 53 54]
 (.cond (.t 53)
 (Sr [Om 55 0, Oc 56 false 78 55]
 (Sr [Om 57 0, Om 58 1, Oq 59 (.call false 179 [(.t 57), (.k (.i .i64 6)), (.t 58)]), Oe 60 59 0, Oe 61 59 1, O5 4 4 60, Om 5 61]
 .ret))
 (Sr [Oq 63 (.bin .eql (.t 12) (.k (.s [101, 97, 99, 104]))), Om 62 63]
 (.cond (.t 62)
 (Sr [Om 64 0, Oc 65 false 78 64]
 (Sr [Om 66 0, Om 67 1, Oq 68 (.call false 179 [(.t 66), (.k (.i .i64 5)), (.t 67)]), Oe 69 68 0, Oe 70 68 1, O5 4 4 69, Om 5 70]
 .ret))
 .skip))))))))))))))
 (Sr [Oq 71 (.build [(.i .i64 0), (.s []), (.s []), (.sl [] 0 .nil)] []), O5 4 4 71, On 5 192]
 .ret)))
def af164 : AFunc := { n := 72, depth := 7, kl := [(4, [4]), (6, [6])], res := [.cell 4 true 4, .tmp 5], body := B164 }

def L165_1 : AC := (Sr [Oq 8 (.next 7), Oe 9 8 0]
 (.seq (.cond (.t 9)
 .skip
 (.exit 0))
 (.blk 1 (Sr [Oe 10 8 2, Om 5 10]
 (.reg [Om 11 3, Om 12 5, Oq 13 (.bslice false 21 1 1 [(.i .i32 0)] [(0, (.t 12))]), Oy 14 21 1 11 13, Om 3 14])))))
def B165 : AC := (Sr [Oq 2 (.movnil 21)]
 (Sr [Oq 3 (.movnil 21)]
 (.seq (Sr [Om 6 0, Oq 7 (.range (.t 6))]
 (.blk 0 (.loop L165_1)))
 (Sr [Om 15 3, Om 2 15]
 .ret))))
def af165 : AFunc := { n := 16, depth := 5, kl := [], res := [.tmp 2], body := B165 }

def B166 : AC := (Sr [Ox 2 (.b false)]
 (Sr [Om 3 0, Oq 4 (.bin .gtr (.t 3) (.k (.i .i32 31))), Om 5 4, Gt (Om 6 0) 5,
 Gt (Oq 7 (.bin .neq (.t 6) (.k (.i .i32 127)))) 5,
 Oj 8 5 7, Om 9 8, Gt (Om 10 0) 9,
 Gt (Oq 11 (.bin .neq (.t 10) (.k (.i .i32 65533)))) 9,
 Oj 12 9 11, Om 2 12]
 .ret))
def af166 : AFunc := { n := 13, depth := 4, kl := [], res := [.tmp 2], body := B166 }

def B172 : AC := (Sr [Ox 2 (.b false)]
 (Sr [Om 3 0, Om 4 0, Ob 5 .neq 3 4, Om 2 5]
 .ret))
def af172 : AFunc := { n := 6, depth := 3, kl := [], res := [.tmp 2], body := B172 }

def B174 : AC := (Sr [Oq 4 (.movnil 5)]
 (Sr [Om 6 1, Ov 7 .u32 6, Om 5 7]
 (.blk 0 (Sr [Om 12 5, Oq 13 (.bin .leq (.t 12) (.k (.i .u32 2047))), Om 11 13]
 (.cond (.t 11)
 (Sr [Om 14 0, Om 15 1, Oq 16 (.bin .shr (.t 15) (.k (.i .u64 6))), Ov 17 .u8 16, Oq 18 (.bin .or (.k (.i .u8 192)) (.t 17)), Om 19 1, Ov 20 .u8 19, Oq 21 (.bin .and (.t 20) (.k (.i .u8 63))), Oq 22 (.bin .or (.k (.i .u8 128)) (.t 21)), Oq 23 (.bslice false 5 1 2 [(.i .u8 0)] [(0, (.t 18)), (1, (.t 22))]), Oy 24 5 1 14 23, Om 4 24]
 .ret)
 (.seq (Sr [Om 26 5, Oq 27 (.bin .lss (.t 26) (.k (.i .u32 55296))), Om 25 27]
 (.cond (.t 25)
 .skip
 (.reg [Om 28 5, Oq 29 (.bin .lss (.k (.i .u32 57343)) (.t 28)), Om 30 29, Gt (Om 31 5) 30,
 Gt (Oq 32 (.bin .leq (.t 31) (.k (.i .u32 65535)))) 30,
 Oj 33 30 32, Om 25 33])))
 (.cond (.t 25)
 (Sr [Om 34 0, Om 35 1, Oq 36 (.bin .shr (.t 35) (.k (.i .u64 12))), Ov 37 .u8 36, Oq 38 (.bin .or (.k (.i .u8 224)) (.t 37)), Om 39 1, Oq 40 (.bin .shr (.t 39) (.k (.i .u64 6))), Ov 41 .u8 40, Oq 42 (.bin .and (.t 41) (.k (.i .u8 63))), Oq 43 (.bin .or (.k (.i .u8 128)) (.t 42)), Om 44 1, Ov 45 .u8 44, Oq 46 (.bin .and (.t 45) (.k (.i .u8 63))), Oq 47 (.bin .or (.k (.i .u8 128)) (.t 46)), Oq 48 (.bslice false 5 1 3 [(.i .u8 0)] [(0, (.t 38)), (1, (.t 43)), (2, (.t 47))]), Oy 49 5 1 34 48, Om 4 49]
 .ret)
 (Sr [Om 51 5, Oq 52 (.bin .gtr (.t 51) (.k (.i .u32 65535))), Om 53 52, Gt (Om 54 5) 53,
 Gt (Oq 55 (.bin .leq (.t 54) (.k (.i .u32 1114111)))) 53,
 Oj 56 53 55, Om 50 56]
 (.cond (.t 50)
 (Sr [Om 57 0, Om 58 1, Oq 59 (.bin .shr (.t 58) (.k (.i .u64 18))), Ov 60 .u8 59, Oq 61 (.bin .or (.k (.i .u8 240)) (.t 60)), Om 62 1, Oq 63 (.bin .shr (.t 62) (.k (.i .u64 12))), Ov 64 .u8 63, Oq 65 (.bin .and (.t 64) (.k (.i .u8 63))), Oq 66 (.bin .or (.k (.i .u8 128)) (.t 65)), Om 67 1, Oq 68 (.bin .shr (.t 67) (.k (.i .u64 6))), Ov 69 .u8 68, Oq 70 (.bin .and (.t 69) (.k (.i .u8 63))), Oq 71 (.bin .or (.k (.i .u8 128)) (.t 70)), Om 72 1, Ov 73 .u8 72, Oq 74 (.bin .and (.t 73) (.k (.i .u8 63))), Oq 75 (.bin .or (.k (.i .u8 128)) (.t 74)), Oq 76 (.bslice false 5 1 4 [(.i .u8 0)] [(0, (.t 61)), (1, (.t 66)), (2, (.t 71)), (3, (.t 75))]), Oy 77 5 1 57 76, Om 4 77]
 .ret)
 (Sr [Om 8 0, Oq 9 (.bslice false 5 1 3 [(.i .u8 0)] [(0, (.k (.i .u8 239))), (1, (.k (.i .u8 191))), (2, (.k (.i .u8 189)))]), Oy 10 5 1 8 9, Om 4 10]
 .ret))))))))))
def af174 : AFunc := { n := 78, depth := 7, kl := [], res := [.tmp 4], body := B174 }

def B176 : AC := (Sr [On 2 0]
 (.seq (Sr [Om 3 0, Oq 4 (.bin .eql (.t 3) (.k (.i .u64 0)))]
 (.cond (.t 4)
 (Sr [On 2 64]
 .ret)
 .skip))
 (Sr [Om 5 0, Om 6 0, Oq 7 (.un .neg (.t 6)), Ob 8 .and 5 7, Oq 9 (.bin .mul (.t 8) (.k (.i .u64 285870213051353865))), Oq 10 (.bin .shr (.t 9) (.k (.i .u64 58))), Oq 11 (.iaddr (.arr 64 1) (.g 5) (.t 10)), Ol 12 1 11, Ov 13 .i64 12, Om 2 13]
 .ret)))
def af176 : AFunc := { n := 14, depth := 4, kl := [], res := [.tmp 2], body := B176 }

def B178 : AC := (Sr [Oq 4 (.lalloc [(.i .i64 0), (.s []), (.s []), (.sl [] 0 .nil)] [4]), On 5 0]
 (.seq (Sr [Om 6 1, Oz 7 .geq 6 40]
 (.cond (.t 7)
 (Sr [Oq 8 (.build [(.i .i64 0), (.s []), (.s []), (.sl [] 0 .nil)] []), O5 4 4 8, On 5 51]
 .ret)
 .skip))
 (Sr [Om 9 0, Om 10 1, Oz 11 .add 10 1, Oc2 12 false 137 9 11, Oe 13 12 0, Oe 14 12 1, O5 4 4 13, Om 5 14]
 .ret)))
def af178 : AFunc := { n := 15, depth := 4, kl := [(4, [4])], res := [.cell 4 true 4, .tmp 5], body := B178 }

def L179_1 : AC := (.blk 1 (Sr [Om 21 0, Om 22 2, Oz 23 .add 22 1, Oq 24 (.call false 109 [(.t 21), (.k (.i .i64 1)), (.t 23)]), Om 20 24, Oe 25 20 0, Oe 26 20 1, Oq 9 (.lalloc [(.i .i64 0), (.s []), (.s []), (.sl [] 0 .nil)] [9]), O5 4 9 25, Om 10 26]
 (.seq (Sr [Om 27 10, Oz 28 .neq 27 0]
 (.cond (.t 28)
 (Sr [Oa 29 4 8, Om 30 10, O5 4 6 29, Om 7 30]
 .ret)
 .skip))
 (Sr [Of 31 3 8, Ol 32 1 31, Oa 33 4 9, Oq 34 (.bslice false 24 4 1 [(.i .i64 0), (.s []), (.s []), (.sl [] 0 .nil)] [(0, (.t 33))]), Oy 35 24 4 32 34, Of 36 3 8, O5 1 36 35]
 (.seq (Sr [Om 37 0, Oq 38 (.call false 80 [(.t 37), (.k (.i .i64 4)), (.k (.s [41]))])]
 (.cond (.t 38)
 (Sr [Oa 39 4 8, O5 4 6 39, On 7 0]
 .ret)
 .skip))
 (Sr [Om 40 0, Oq 41 (.call false 80 [(.t 40), (.k (.i .i64 4)), (.k (.s [44]))]), Ou 42 41]
 (.cond (.t 42)
 (Sr [Oa 43 4 8, O5 4 6 43, On 7 192]
 .ret)
 .skip)))))))
def B179 : AC := (Sr [Oq 6 (.lalloc [(.i .i64 0), (.s []), (.s []), (.sl [] 0 .nil)] [6]), On 7 0]
 (Sr [Om 11 1, Oq 12 (.build [(.i .i64 0), (.s []), (.s []), (.sl [] 0 .nil)] [(0, 1, (.t 11))]), Oq 8 (.lalloc [(.i .i64 0), (.s []), (.s []), (.sl [] 0 .nil)] [8, 31, 36]), O5 4 8 12]
 (.seq (Sr [Om 13 0, Oq 14 (.call false 80 [(.t 13), (.k (.i .i64 4)), (.k (.s [40]))]), Ou 15 14]
 (.cond (.t 15)
 (Sr [Oa 16 4 8, O5 4 6 16, On 7 192]
 .ret)
 .skip))
 (.seq (Sr [Om 17 0, Oq 18 (.call false 80 [(.t 17), (.k (.i .i64 4)), (.k (.s [41]))])]
 (.cond (.t 18)
 (Sr [Oa 19 4 8, O5 4 6 19, On 7 0]
 .ret)
 .skip))
 (.blk 0 (.loop L179_1))))))
def af179 : AFunc := { n := 44, depth := 6, kl := [(6, [6]), (8, [8, 31, 36]), (9, [9])], res := [.cell 6 true 4, .tmp 7], body := B179 }

def B226 : AC := (Sr [Oq 2 (.lbox (.t 0) [2]), Oq 3 (.lbox (.t 1) [3]), Ox 4 (.b false)]
 (Sr [Ox 4 (.b true)]
 .ret))
def af226 : AFunc := { n := 5, depth := 3, kl := [(2, [2]), (3, [3])], res := [.tmp 4], body := B226 }

def B227 : AC := (Sr [Oq 2 (.lbox (.t 0) [2, 7]), Oq 3 (.lbox (.t 1) [3, 5]), Ox 4 (.b false)]
 (Sr [Of 5 1 3, Ol 6 1 5, Of 7 0 2, Ol 8 1 7, Oc2 9 true 228 6 8, Om 4 9]
 .ret))
def af227 : AFunc := { n := 10, depth := 4, kl := [(2, [2, 7]), (3, [3, 5])], res := [.tmp 4], body := B227 }

def B228 : AC := (Sr [Ox 4 (.b false)]
 (Sr [Om 5 0, Owt 6 5, Om 7 1, Owt 8 7, Ob 9 .geq 6 8, Om 10 9, Gt (Om 11 0) 10,
 Gt (Om 12 1) 10,
 Gt (Owt 13 12) 10,
 Gt (Oq 14 (.slc .str (.t 11) none (some (.t 13)) none)) 10,
 Gt (Om 15 1) 10,
 Gt (Ob 16 .eql 14 15) 10,
 Oj 17 10 16, Om 4 17]
 .ret))
def af228 : AFunc := { n := 18, depth := 5, kl := [], res := [.tmp 4], body := B228 }

def kn : Known := ⟨[132]⟩

def lst : List (Nat × AFunc) := [(6, af6), (7, af7), (8, af8), (9, af9), (10, af10), (13, af13), (15, af15), (18, af18), (19, af19), (20, af20), (21, af21), (22, af22), (23, af23), (24, af24), (25, af25), (26, af26), (27, af27), (28, af28), (29, af29), (37, af37), (40, af40), (41, af41), (42, af42), (43, af43), (44, af44), (45, af45), (46, af46), (47, af47), (48, af48), (49, af49), (50, af50), (51, af51), (52, af52), (53, af53), (54, af54), (56, af56), (69, af69), (72, af72), (73, af73), (74, af74), (75, af75), (76, af76), (77, af77), (78, af78), (79, af79), (80, af80), (81, af81), (82, af82), (83, af83), (84, af84), (86, af86), (87, af87), (88, af88), (90, af90), (94, af94), (95, af95), (96, af96), (97, af97), (99, af99), (100, af100), (101, af101), (102, af102), (103, af103), (104, af104), (105, af105), (106, af106), (107, af107), (108, af108), (109, af109), (110, af110), (111, af111), (112, af112), (113, af113), (114, af114), (115, af115), (116, af116), (117, af117), (118, af118), (122, af122), (124, af124), (125, af125), (126, af126), (127, af127), (131, af131), (134, af134), (136, af136), (137, af137), (138, af138), (139, af139), (140, af140), (141, af141), (142, af142), (148, af148), (152, af152), (155, af155), (158, af158), (159, af159), (161, af161), (162, af162), (163, af163), (164, af164), (165, af165), (166, af166), (172, af172), (174, af174), (176, af176), (178, af178), (179, af179), (226, af226), (227, af227), (228, af228)]
theorem lst_ok : lst.all (fun x => fnOk Tryz.prog kn x.1 x.2) = true := by kernel_rfl
def tab (g : FuncId) : Option AFunc := al lst g

end Go.Proofs.YtpcjhfchpelonaaGreatDoor
