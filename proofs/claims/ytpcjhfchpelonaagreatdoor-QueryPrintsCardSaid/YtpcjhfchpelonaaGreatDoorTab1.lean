/- The abstract interpreter's code of the functions that the laws of this seat reach. Printed by a program. -/
import Derived.Test.YtpcjhfchpelonaaGreatDoorAi09
namespace Go.Proofs.YtpcjhfchpelonaaGreatDoor
open Go Ai

def B6 : AC := (Sr [Oq 1 (.lbox (.t 0) [1]), Ox 2 (.b false)]
 (.seq (Sr [Oa 10 10 1, Oc 11 true 7 10, Ou 12 11]
 (.cond (.t 12)
 (Sr [Oc0 13 true 10, Om 2 13]
 .ret)
 .skip))
 (Sr [Oa 15 10 1, Oc 16 true 18 15, Om 14 16, Oe 17 14 0, Oe 18 14 1, Om 3 17, Om 4 18]
 (Sr [Oa 20 10 1, Oc 21 true 19 20, Om 19 21, Oe 22 19 0, Oe 23 19 1, Om 5 22, Om 6 23]
 (.seq (Sr [Om 24 3, Om 25 5, Ob 26 .neq 24 25, Om 27 26, Gf (Om 28 4) 27,
 Gf (Om 29 6) 27,
 Gf (Ob 30 .neq 28 29) 27,
 Oo 31 27 30]
 (.cond (.t 31)
 (Sr [Ox 2 (.b false)]
 .ret)
 .skip))
 (.seq (Sr [Om 32 4, Oz 33 .neq 32 0]
 (.cond (.t 33)
 (Sr [Oc0 34 true 10, Om 2 34]
 .ret)
 .skip))
 (Sr [Om 36 3, Oc 37 true 20 36, Om 35 37, Oe 38 35 0, Oe 39 35 1, Oe 40 35 2, Oq 7 (.lalloc [(.i .i64 0), (.s []), (.i .i64 0), (.s []), (.s []), (.sl [] 0 .nil), (.s []), (.b false), (.i .i64 0), (.i .i64 0)] [7]), O5 10 7 38, Om 8 39, Om 9 40]
 (Sr [Om 41 9, Oz 42 .eql 41 0, Om 43 42, Gt (Om 44 8) 43,
 Gt (Oz 45 .eql 44 0) 43,
 Oj 46 43 45, Om 47 46, Gt (Oa 48 10 1) 47,
 Gt (Oa 49 10 7) 47,
 Gt (Oc2 50 true 21 48 49) 47,
 Oj 51 47 50, Om 52 51, Gt (Oc0 53 true 10) 52,
 Oj 54 52 53, Om 2 54]
 .ret))))))))
def af6 : AFunc := { n := 55, depth := 6, kl := [(1, [1]), (7, [7])], res := [.tmp 2], body := B6 }

def B7 : AC := (Sr [Oq 1 (.lbox (.t 0) [1, 4, 8, 13]), Ox 2 (.b false)]
 (Sr [Of 4 1 1, Ol 5 1 4, Owt 6 5, Oq 7 (.minmax false (.t 6) (.k (.i .i64 8192))), Of 8 6 1, Ol 9 1 8, Owt 10 9, Oq 11 (.minmax false (.t 10) (.k (.i .i64 8192))), Ob 12 .add 7 11, Oq 3 (.alloc 3 [(.i .i64 0)]), O5 1 3 12]
 (Sr [Of 13 2 1, Oa 14 4 13, Oq 15 (.call false 22 [(.t 14), (.k (.i .i64 0)), (.t 3)]), Om 2 15]
 .ret)))
def af7 : AFunc := { n := 16, depth := 5, kl := [(1, [1, 4, 8, 13])], res := [.tmp 2], body := B7 }

def B8 : AC := (Sr [Oq 1 (.lbox (.t 0) [1, 5, 13, 19, 25, 28, 34, 39, 44, 49, 54, 58, 63, 67, 73, 77]), On 2 0]
 (.seq (Sr [Of 5 2 1, Oa 6 4 5, Oc 7 true 23 6, Om 3 7]
 (Sr [Om 8 3, Oz 9 .neq 8 0]
 (.cond (.t 9)
 (Sr [Om 10 3, Om 2 10]
 .ret)
 .skip)))
 (Sr [Oq 4 (.mov (.f 24))]
 (.seq (.blk 0 (Sr [Om 12 4, Of 13 6 1, Ol 14 1 13, Oq 15 (.callv true (.t 12) [(.t 14)]), Ou 16 15, Om 17 16, Gf (Om 18 4) 17,
 Gf (Of 19 1 1) 17,
 Gf (Ol 20 1 19) 17,
 Gf (Oq 21 (.callv true (.t 18) [(.t 20)])) 17,
 Gf (Ou 22 21) 17,
 Oo 23 17 22, Om 24 23, Gf (Of 25 7 1) 24,
 Gf (Ol 26 1 25) 24,
 Gf (Om 27 26) 24,
 Gt (Of 28 6 1) 27,
 Gt (Ol 29 1 28) 27,
 Gt (Oq 30 (.bin .eql (.t 29) (.k (.s [])))) 27,
 Gf (Oj 31 27 30) 24,
 Oo 32 24 31, Om 33 32, Gf (Of 34 8 1) 33,
 Gf (Ol 35 1 34) 33,
 Gf (Oz 36 .lss 35 0) 33,
 Oo 37 33 36, Om 38 37, Gf (Of 39 8 1) 38,
 Gf (Ol 40 1 39) 38,
 Gf (Oz 41 .gtr 40 1099511627776) 38,
 Oo 42 38 41, Om 43 42, Gf (Of 44 9 1) 43,
 Gf (Ol 45 1 44) 43,
 Gf (Oz 46 .lss 45 0) 43,
 Oo 47 43 46, Om 48 47, Gf (Of 49 9 1) 48,
 Gf (Ol 50 1 49) 48,
 Gf (Oz 51 .gtr 50 1099511627776) 48,
 Oo 52 48 51, Om 11 52]
 (.cond (.t 11)
 (Sr [On 2 230]
 .ret)
 (Sr [Of 54 0 1, Ol 55 1 54, Oz 56 .lss 55 0, Om 57 56, Gf (Of 58 0 1) 57,
 Gf (Ol 59 1 58) 57,
 Gf (Oz 60 .gtr 59 4) 57,
 Oo 61 57 60, Om 62 61, Gf (Of 63 0 1) 62,
 Gf (Ol 64 1 63) 62,
 Gf (Oz 65 .geq 64 2) 62,
 Gf (Om 66 65) 62,
 Gt (Of 67 1 1) 66,
 Gt (Ol 68 1 67) 66,
 Gt (Oq 69 (.bin .eql (.t 68) (.k (.s [])))) 66,
 Gf (Oj 70 66 69) 62,
 Oo 71 62 70, Om 72 71, Gf (Of 73 0 1) 72,
 Gf (Ol 74 1 73) 72,
 Gf (Oz 75 .lss 74 2) 72,
 Gf (Om 76 75) 72,
 Gt (Of 77 1 1) 76,
 Gt (Ol 78 1 77) 76,
 Gt (Oq 79 (.bin .neq (.t 78) (.k (.s [])))) 76,
 Gf (Oj 80 76 79) 72,
 Oo 81 72 80, Om 53 81]
 (.cond (.t 53)
 (Sr [On 2 230]
 .ret)
 .skip)))))
 (Sr [On 2 0]
 .ret)))))
def af8 : AFunc := { n := 82, depth := 7, kl := [(1, [1, 5, 13, 19, 25, 28, 34, 39, 44, 49, 54, 58, 63, 67, 73, 77])], res := [.tmp 2], body := B8 }

def B9 : AC := (Sr [Oq 1 (.lbox (.t 0) [1, 5, 11, 15, 20, 25, 30, 33, 39, 43, 51, 56, 61, 66]), On 2 0]
 (.seq (Sr [Of 5 2 1, Oa 6 4 5, Oc 7 true 26 6, Om 3 7]
 (Sr [Om 8 3, Oz 9 .neq 8 0]
 (.cond (.t 9)
 (Sr [Om 10 3, Om 2 10]
 .ret)
 .skip)))
 (Sr [Of 11 0 1, Ol 12 1 11, Oz 13 .geq 12 0, Om 14 13, Gt (Of 15 0 1) 14,
 Gt (Ol 16 1 15) 14,
 Gt (Oz 17 .leq 16 4) 14,
 Oj 18 14 17, Om 19 18, Gt (Of 20 1 1) 19,
 Gt (Ol 21 1 20) 19,
 Gt (Oc 22 true 27 21) 19,
 Oj 23 19 22, Om 24 23, Gt (Of 25 6 1) 24,
 Gt (Ol 26 1 25) 24,
 Gt (Oc 27 true 27 26) 24,
 Oj 28 24 27, Om 29 28, Gt (Of 30 1 1) 29,
 Gt (Ol 31 1 30) 29,
 Gt (Oq 32 (.bin .neq (.t 31) (.k (.s [])))) 29,
 Gt (Of 33 0 1) 29,
 Gt (Ol 34 1 33) 29,
 Gt (Oz 35 .gtr 34 1) 29,
 Gt (Oq 36 (.eq false .bool (.t 32) (.t 35))) 29,
 Oj 37 29 36, Om 38 37, Gt (Of 39 6 1) 38,
 Gt (Ol 40 1 39) 38,
 Gt (Oq 41 (.bin .neq (.t 40) (.k (.s [])))) 38,
 Gt (Om 42 41) 38,
 Gf (Of 43 7 1) 42,
 Gf (Ol 44 1 43) 42,
 Gf (Ou 45 44) 42,
 Gt (Oo 46 42 45) 38,
 Oj 47 38 46, Om 4 47]
 (.seq (Sr [Om 48 4, Ou 49 48, Om 50 49, Gf (Of 51 8 1) 50,
 Gf (Ol 52 1 51) 50,
 Gf (Oz 53 .lss 52 0) 50,
 Oo 54 50 53, Om 55 54, Gf (Of 56 8 1) 55,
 Gf (Ol 57 1 56) 55,
 Gf (Oz 58 .gtr 57 1099511627776) 55,
 Oo 59 55 58, Om 60 59, Gf (Of 61 9 1) 60,
 Gf (Ol 62 1 61) 60,
 Gf (Oz 63 .lss 62 0) 60,
 Oo 64 60 63, Om 65 64, Gf (Of 66 9 1) 65,
 Gf (Ol 67 1 66) 65,
 Gf (Oz 68 .gtr 67 1099511627776) 65,
 Oo 69 65 68]
 (.cond (.t 69)
 (Sr [On 2 230]
 .ret)
 .skip))
 (Sr [On 2 0]
 .ret)))))
def af9 : AFunc := { n := 70, depth := 7, kl := [(1, [1, 5, 11, 15, 20, 25, 30, 33, 39, 43, 51, 56, 61, 66])], res := [.tmp 2], body := B9 }

def B10 : AC := (Sr [Ox 0 (.b false)]
 (Sr [Oq 9 (.call true 20 [(.k (.s [99, 111, 117, 110, 116, 32, 119, 104, 101, 114, 101, 32, 107, 101, 121, 32, 94, 32, 34, 97, 34, 32, 98, 121, 32, 103]))]), Om 8 9, Oe 10 8 0, Oe 11 8 1, Oe 12 8 2, Oq 1 (.lalloc [(.i .i64 0), (.s []), (.i .i64 0), (.s []), (.s []), (.sl [] 0 .nil), (.s []), (.b false), (.i .i64 0), (.i .i64 0)] [1]), O5 10 1 10, Om 2 11, Om 3 12]
 (Sr [Oa 14 10 1, Oq 15 (.build [(.s []), (.s [])] [(0, 1, (.k (.s [97, 49]))), (1, 1, (.k (.s [103, 58, 120])))]), Oq 16 (.build [(.s []), (.s [])] [(0, 1, (.k (.s [97, 50]))), (1, 1, (.k (.s [103, 58, 121])))]), Oq 17 (.build [(.s []), (.s [])] [(0, 1, (.k (.s [97, 51]))), (1, 1, (.k (.s [103, 58, 120])))]), Oq 18 (.build [(.s []), (.s [])] [(0, 1, (.k (.s [98]))), (1, 1, (.k (.s [103, 58, 120])))]), Oq 19 (.bslice false 35 2 4 [(.s []), (.s [])] [(0, (.t 15)), (1, (.t 16)), (2, (.t 17)), (3, (.t 18))]), Oc2 20 true 13 14 19, Om 13 20, Oe 21 13 0, Oe 22 13 1, Om 4 21, Om 5 22]
 (Sr [Oq 24 (.build [(.i .i64 0), (.s []), (.i .i64 0), (.s []), (.s []), (.sl [] 0 .nil), (.s []), (.b false), (.i .i64 0), (.i .i64 0)] [(0, 1, (.k (.i .i64 4))), (1, 1, (.k (.s [110])))]), Oq 25 (.build [(.s []), (.s [])] [(0, 1, (.k (.s [97]))), (1, 1, (.k (.s [110, 58, 53])))]), Oq 26 (.build [(.s []), (.s [])] [(0, 1, (.k (.s [98]))), (1, 1, (.k (.s [110, 58, 45, 50])))]), Oq 27 (.build [(.s []), (.s [])] [(0, 1, (.k (.s [99]))), (1, 1, (.k (.s [109, 58, 57])))]), Oq 28 (.bslice false 35 2 3 [(.s []), (.s [])] [(0, (.t 25)), (1, (.t 26)), (2, (.t 27))]), Oc2 29 true 13 24 28, Om 23 29, Oe 30 23 0, Oe 31 23 1, Om 6 30, Om 7 31]
 (Sr [Om 32 3, Oz 33 .eql 32 0, Om 34 33, Gt (Om 35 5) 34,
 Gt (Oz 36 .eql 35 0) 34,
 Oj 37 34 36, Om 38 37, Gt (Om 39 7) 38,
 Gt (Oz 40 .eql 39 0) 38,
 Oj 41 38 40, Om 42 41, Gt (Om 43 4) 42,
 Gt (Oq 44 (.build [(.s []), (.sl [] 0 .nil), (.i .i64 0)] [(0, 1, (.k (.s [120]))), (2, 1, (.k (.i .i64 2)))])) 42,
 Gt (Oq 45 (.build [(.s []), (.sl [] 0 .nil), (.i .i64 0)] [(0, 1, (.k (.s [121]))), (2, 1, (.k (.i .i64 1)))])) 42,
 Gt (Oq 46 (.bslice false 60 3 2 [(.s []), (.sl [] 0 .nil), (.i .i64 0)] [(0, (.t 44)), (1, (.t 45))])) 42,
 Gt (Oc2 47 true 15 43 46) 42,
 Oj 48 42 47, Om 49 48, Gt (Om 50 6) 49,
 Gt (Oq 51 (.build [(.s []), (.sl [] 0 .nil), (.i .i64 0)] [(2, 1, (.k (.i .i64 5)))])) 49,
 Gt (Oq 52 (.bslice false 60 3 1 [(.s []), (.sl [] 0 .nil), (.i .i64 0)] [(0, (.t 51))])) 49,
 Gt (Oc2 53 true 15 50 52) 49,
 Oj 54 49 53, Om 55 54, Gt (Oq 56 (.build [(.i .i64 0), (.s []), (.i .i64 0), (.s []), (.s []), (.sl [] 0 .nil), (.s []), (.b false), (.i .i64 0), (.i .i64 0)] [(0, 1, (.k (.i .i64 5)))])) 55,
 Gt (Oc 57 true 8 56) 55,
 Gt (Oz 58 .eql 57 230) 55,
 Oj 59 55 58, Om 0 59]
 .ret)))))
def af10 : AFunc := { n := 60, depth := 6, kl := [(1, [1])], res := [.tmp 0], body := B10 }

def B13 : AC := (Sr [Oq 2 (.lbox (.t 0) [2]), Oq 3 (.box 31 (.t 1)), Ox 4 (.sl [] 0 .nil), On 5 0]
 (.seq (Sr [Oa 8 10 2, Oc 9 true 8 8, Om 6 9]
 (Sr [Om 10 6, Oz 11 .neq 10 0]
 (.cond (.t 11)
 (Sr [Om 12 6, Ox 4 (.sl [] 0 .nil), Om 5 12]
 .ret)
 .skip)))
 (Sr [Oq 13 (.mkfn 28 [] [(.t 3)]), Oq 14 (.build [.nilf, .nilf, .nilf] [(0, 1, (.t 13))]), Oq 7 (.lalloc [.nilf, .nilf, .nilf] [7]), O5 3 7 14]
 (Sr [Oa 15 10 2, Oq 16 (.build [(.i .i64 0), (.s []), (.s [])] [(0, 1, (.k (.i .i64 0)))]), Oq 17 (.build [(.i .i64 0), (.s []), (.s [])] [(0, 3, (.t 16))]), Oa 18 3 7, Oc3 19 false 29 15 17 18, Oe 20 19 0, Oe 21 19 1, Om 4 20, Om 5 21]
 .ret))))
def af13 : AFunc := { n := 22, depth := 5, kl := [(2, [2]), (7, [7])], res := [.tmp 4, .tmp 5], body := B13 }

def L15_2 : AC := (Sr [Ob 63 .lss 62 61]
 (.seq (.cond (.t 63)
 .skip
 (.exit 2))
 (.seq (.blk 3 (Sr [Om 64 62, Om 6 64]
 (Sr [Om 65 0, Om 66 5, Oi 67 3 65 66, Of 68 1 67, Ol 69 1 68, Om 70 6, Oi 71 1 69 70, Ol 72 1 71, Om 73 1, Om 74 5, Oi 75 3 73 74, Of 76 1 75, Ol 77 1 76, Om 78 6, Oi 79 1 77 78, Ol 80 1 79, Ob 81 .neq 72 80]
 (.cond (.t 81)
 (Sr [Ox 4 (.b false)]
 .ret)
 .skip))))
 (.reg [Oz 82 .add 62 1, Om 62 82]))))
def L15_1 : AC := (Sr [Ob 15 .lss 14 13]
 (.seq (.cond (.t 15)
 .skip
 (.exit 0))
 (.seq (.blk 1 (Sr [Om 16 14, Om 5 16]
 (.seq (Sr [Om 17 0, Om 18 5, Oi 19 3 17 18, Of 20 0 19, Ol 21 1 20, Om 22 1, Om 23 5, Oi 24 3 22 23, Of 25 0 24, Ol 26 1 25, Ob 27 .neq 21 26, Om 28 27, Gf (Om 29 0) 28,
 Gf (Om 30 5) 28,
 Gf (Oi 31 3 29 30) 28,
 Gf (Of 32 2 31) 28,
 Gf (Ol 33 1 32) 28,
 Gf (Om 34 1) 28,
 Gf (Om 35 5) 28,
 Gf (Oi 36 3 34 35) 28,
 Gf (Of 37 2 36) 28,
 Gf (Ol 38 1 37) 28,
 Gf (Ob 39 .neq 33 38) 28,
 Oo 40 28 39, Om 41 40, Gf (Om 42 0) 41,
 Gf (Om 43 5) 41,
 Gf (Oi 44 3 42 43) 41,
 Gf (Of 45 1 44) 41,
 Gf (Ol 46 1 45) 41,
 Gf (Ow 47 46) 41,
 Gf (Om 48 1) 41,
 Gf (Om 49 5) 41,
 Gf (Oi 50 3 48 49) 41,
 Gf (Of 51 1 50) 41,
 Gf (Ol 52 1 51) 41,
 Gf (Ow 53 52) 41,
 Gf (Ob 54 .neq 47 53) 41,
 Oo 55 41 54]
 (.cond (.t 55)
 (Sr [Ox 4 (.b false)]
 .ret)
 .skip))
 (Sr [Om 56 0, Om 57 5, Oi 58 3 56 57, Of 59 1 58, Ol 60 1 59, Ow 61 60, On 62 0]
 (.blk 2 (.loop L15_2))))))
 (.reg [Oz 83 .add 14 1, Om 14 83]))))
def B15 : AC := (Sr [Ox 4 (.b false)]
 (.seq (Sr [Om 7 0, Ow 8 7, Om 9 1, Ow 10 9, Ob 11 .neq 8 10]
 (.cond (.t 11)
 (Sr [Ox 4 (.b false)]
 .ret)
 .skip))
 (.seq (Sr [Om 12 0, Ow 13 12, On 14 0]
 (.blk 0 (.loop L15_1)))
 (Sr [Ox 4 (.b true)]
 .ret))))
def af15 : AFunc := { n := 84, depth := 7, kl := [], res := [.tmp 4], body := B15 }

def B18 : AC := (Sr [Oq 1 (.lbox (.t 0) [1, 14, 19, 23, 27, 28, 32, 42, 46, 51, 56, 60, 66, 70]), Ox 2 (.s []), On 3 0]
 (.seq (Sr [Oa 8 10 1, Oc 9 true 8 8, Om 4 9]
 (Sr [Om 10 4, Oz 11 .neq 10 0]
 (.cond (.t 11)
 (Sr [Om 12 4, Ox 2 (.s []), Om 3 12]
 .ret)
 .skip)))
 (Sr [Oq 13 (.bslice false 9 1 5 [(.s [])] [(0, (.k (.s [107, 101, 121, 115]))), (1, (.k (.s [99, 111, 117, 110, 116]))), (2, (.k (.s [115, 117, 109]))), (3, (.k (.s [108, 101, 97, 115, 116]))), (4, (.k (.s [116, 111, 112])))]), Of 14 0 1, Ol 15 1 14, Oi 16 1 13 15, Ol 17 1 16, Oq 18 (.bslice false 9 1 1 [(.s [])] [(0, (.t 17))]), Om 5 18]
 (.seq (Sr [Of 19 1 1, Ol 20 1 19, Oq 21 (.bin .neq (.t 20) (.k (.s [])))]
 (.cond (.t 21)
 (.reg [Om 22 5, Of 23 1 1, Ol 24 1 23, Oq 25 (.bslice false 9 1 1 [(.s [])] [(0, (.t 24))]), Oy 26 9 1 22 25, Om 5 26])
 .skip))
 (.seq (Sr [Of 27 2 1, Of 28 0 27, Ol 29 1 28, Oz 30 .neq 29 0]
 (.cond (.t 30)
 (Sr [Of 32 2 1, Oa 33 4 32, Oc 34 true 37 33, Om 31 34, Oe 35 31 0, Oe 36 31 1, Om 6 35, Om 7 36]
 (.reg [Om 37 5, Om 38 6, Oq 39 (.bin .add (.k (.s [119, 104, 101, 114, 101, 32])) (.t 38)), Oq 40 (.bslice false 9 1 1 [(.s [])] [(0, (.t 39))]), Oy 41 9 1 37 40, Om 5 41]))
 .skip))
 (.seq (Sr [Of 42 6 1, Ol 43 1 42, Oq 44 (.bin .neq (.t 43) (.k (.s [])))]
 (.cond (.t 44)
 (.reg [Om 45 5, Of 46 6 1, Ol 47 1 46, Oq 48 (.bin .add (.k (.s [98, 121, 32])) (.t 47)), Oq 49 (.bslice false 9 1 1 [(.s [])] [(0, (.t 48))]), Oy 50 9 1 45 49, Om 5 50])
 .skip))
 (.seq (Sr [Of 51 7 1, Ol 52 1 51]
 (.cond (.t 52)
 (.reg [Om 53 5, Oq 54 (.bslice false 9 1 1 [(.s [])] [(0, (.k (.s [100, 111, 119, 110])))]), Oy 55 9 1 53 54, Om 5 55])
 .skip))
 (.seq (Sr [Of 56 8 1, Ol 57 1 56, Oz 58 .gtr 57 0]
 (.cond (.t 58)
 (.reg [Om 59 5, Of 60 8 1, Ol 61 1 60, Oc 62 true 38 61, Oq 63 (.bin .add (.k (.s [115, 107, 105, 112, 32])) (.t 62)), Oq 64 (.bslice false 9 1 1 [(.s [])] [(0, (.t 63))]), Oy 65 9 1 59 64, Om 5 65])
 .skip))
 (.seq (Sr [Of 66 9 1, Ol 67 1 66, Oz 68 .gtr 67 0]
 (.cond (.t 68)
 (.reg [Om 69 5, Of 70 9 1, Ol 71 1 70, Oc 72 true 38 71, Oq 73 (.bin .add (.k (.s [102, 105, 114, 115, 116, 32])) (.t 72)), Oq 74 (.bslice false 9 1 1 [(.s [])] [(0, (.t 73))]), Oy 75 9 1 69 74, Om 5 75])
 .skip))
 (Sr [Om 76 5, Oq 77 (.call false 39 [(.t 76), (.k (.s [32]))]), Om 2 77, On 3 0]
 .ret))))))))))
def af18 : AFunc := { n := 78, depth := 7, kl := [(1, [1, 14, 19, 23, 27, 28, 32, 42, 46, 51, 56, 60, 66, 70])], res := [.tmp 2, .tmp 3], body := B18 }

def B19 : AC := (Sr [Oq 1 (.lbox (.t 0) [1, 14, 18, 23, 26, 27, 31, 40, 45, 48, 52, 57, 61, 66]), Ox 2 (.s []), On 3 0]
 (.seq (Sr [Oa 8 10 1, Oc 9 true 9 8, Om 4 9]
 (Sr [Om 10 4, Oz 11 .neq 10 0]
 (.cond (.t 11)
 (Sr [Om 12 4, Ox 2 (.s []), Om 3 12]
 .ret)
 .skip)))
 (Sr [Oc0 13 true 40, Of 14 0 1, Ol 15 1 14, Oi 16 1 13 15, Ol 17 1 16, Om 5 17]
 (.seq (Sr [Of 18 1 1, Ol 19 1 18, Oq 20 (.bin .neq (.t 19) (.k (.s [])))]
 (.cond (.t 20)
 (.reg [Om 21 5, Oq 22 (.bin .add (.t 21) (.k (.s [32]))), Of 23 1 1, Ol 24 1 23, Ob 25 .add 22 24, Om 5 25])
 .skip))
 (.seq (Sr [Of 26 2 1, Of 27 0 26, Ol 28 1 27, Oz 29 .neq 28 0]
 (.cond (.t 29)
 (Sr [Of 31 2 1, Oa 32 4 31, Oc 33 true 41 32, Om 30 33, Oe 34 30 0, Oe 35 30 1, Om 6 34, Om 7 35]
 (.reg [Om 36 5, Oq 37 (.bin .add (.t 36) (.k (.s [32, 119, 104, 101, 114, 101, 32]))), Om 38 6, Ob 39 .add 37 38, Om 5 39]))
 .skip))
 (.seq (Sr [Of 40 6 1, Ol 41 1 40, Oq 42 (.bin .neq (.t 41) (.k (.s [])))]
 (.cond (.t 42)
 (.reg [Om 43 5, Oq 44 (.bin .add (.t 43) (.k (.s [32, 98, 121, 32]))), Of 45 6 1, Ol 46 1 45, Ob 47 .add 44 46, Om 5 47])
 .skip))
 (.seq (Sr [Of 48 7 1, Ol 49 1 48]
 (.cond (.t 49)
 (.reg [Om 50 5, Oq 51 (.bin .add (.t 50) (.k (.s [32, 100, 111, 119, 110]))), Om 5 51])
 .skip))
 (.seq (Sr [Of 52 8 1, Ol 53 1 52, Oz 54 .gtr 53 0]
 (.cond (.t 54)
 (.reg [Om 55 5, Oq 56 (.bin .add (.t 55) (.k (.s [32, 115, 107, 105, 112, 32]))), Of 57 8 1, Ol 58 1 57, Oc 59 true 42 58, Ob 60 .add 56 59, Om 5 60])
 .skip))
 (.seq (Sr [Of 61 9 1, Ol 62 1 61, Oz 63 .gtr 62 0]
 (.cond (.t 63)
 (.reg [Om 64 5, Oq 65 (.bin .add (.t 64) (.k (.s [32, 102, 105, 114, 115, 116, 32]))), Of 66 9 1, Ol 67 1 66, Oc 68 true 42 67, Ob 69 .add 65 68, Om 5 69])
 .skip))
 (Sr [Om 70 5, Om 2 70, On 3 0]
 .ret))))))))))
def af19 : AFunc := { n := 71, depth := 7, kl := [(1, [1, 14, 18, 23, 26, 27, 31, 40, 45, 48, 52, 57, 61, 66])], res := [.tmp 2, .tmp 3], body := B19 }

def B20 : AC := (Sr [Oq 2 (.lalloc [(.i .i64 0), (.s []), (.i .i64 0), (.s []), (.s []), (.sl [] 0 .nil), (.s []), (.b false), (.i .i64 0), (.i .i64 0)] [2]), On 3 0, On 4 0]
 (Sr [Om 10 0, Oc 11 false 43 10, Om 9 11, Oe 12 9 0, Oe 13 9 1, Oe 14 9 2, Om 5 12, Om 6 13, Om 7 14]
 (.seq (Sr [Om 15 7, Oz 16 .neq 15 0]
 (.cond (.t 16)
 (Sr [Oq 17 (.build [(.i .i64 0), (.s []), (.i .i64 0), (.s []), (.s []), (.sl [] 0 .nil), (.s []), (.b false), (.i .i64 0), (.i .i64 0)] []), Om 18 6, Om 19 7, O5 10 2 17, Om 3 18, Om 4 19]
 .ret)
 .skip))
 (Sr [Om 20 5, Oq 21 (.build [.nilp, (.i .i64 0), (.s []), (.i .i64 0), (.s []), (.s []), (.sl [] 0 .nil), (.s []), (.b false), (.i .i64 0), (.i .i64 0)] [(0, 1, (.t 20))]), Oq 22 (.box 91 (.t 21)), Om 8 22]
 (.seq (Sr [Om 24 8, Oc 25 false 44 24, Om 23 25, Oe 26 23 0, Oe 27 23 1, Om 6 26, Om 7 27]
 (Sr [Om 28 7, Oz 29 .neq 28 0]
 (.cond (.t 29)
 (Sr [Oq 30 (.build [(.i .i64 0), (.s []), (.i .i64 0), (.s []), (.s []), (.sl [] 0 .nil), (.s []), (.b false), (.i .i64 0), (.i .i64 0)] []), Om 31 6, Om 32 7, O5 10 2 30, Om 3 31, Om 4 32]
 .ret)
 .skip)))
 (.seq (Sr [Om 33 8, Oh 34 33, Of 35 1 34, Oa 36 10 35, Oc 37 true 8 36, Om 7 37]
 (Sr [Om 38 7, Oz 39 .neq 38 0]
 (.cond (.t 39)
 (Sr [Oq 40 (.build [(.i .i64 0), (.s []), (.i .i64 0), (.s []), (.s []), (.sl [] 0 .nil), (.s []), (.b false), (.i .i64 0), (.i .i64 0)] []), Om 41 7, O5 10 2 40, On 3 0, Om 4 41]
 .ret)
 .skip)))
 (Sr [Om 42 8, Oh 43 42, Of 44 1 43, Oa 45 10 44, O5 10 2 45, On 3 0, On 4 0]
 .ret)))))))
def af20 : AFunc := { n := 46, depth := 6, kl := [(2, [2])], res := [.cell 2 true 10, .tmp 3, .tmp 4], body := B20 }

def B21 : AC := (Sr [Oq 2 (.lbox (.t 0) [2, 5, 11, 18, 25, 32, 39, 46]), Oq 3 (.lbox (.t 1) [3, 7, 13, 20, 27, 34, 41, 48]), Ox 4 (.b false)]
 (Sr [Of 5 0 2, Ol 6 1 5, Of 7 0 3, Ol 8 1 7, Ob 9 .eql 6 8, Om 10 9, Gt (Of 11 1 2) 10,
 Gt (Ol 12 1 11) 10,
 Gt (Of 13 1 3) 10,
 Gt (Ol 14 1 13) 10,
 Gt (Ob 15 .eql 12 14) 10,
 Oj 16 10 15, Om 17 16, Gt (Of 18 2 2) 17,
 Gt (Oa 19 4 18) 17,
 Gt (Of 20 2 3) 17,
 Gt (Oa 21 4 20) 17,
 Gt (Oc2 22 true 45 19 21) 17,
 Oj 23 17 22, Om 24 23, Gt (Of 25 6 2) 24,
 Gt (Ol 26 1 25) 24,
 Gt (Of 27 6 3) 24,
 Gt (Ol 28 1 27) 24,
 Gt (Ob 29 .eql 26 28) 24,
 Oj 30 24 29, Om 31 30, Gt (Of 32 7 2) 31,
 Gt (Ol 33 1 32) 31,
 Gt (Of 34 7 3) 31,
 Gt (Ol 35 1 34) 31,
 Gt (Oq 36 (.eq false .bool (.t 33) (.t 35))) 31,
 Oj 37 31 36, Om 38 37, Gt (Of 39 8 2) 38,
 Gt (Ol 40 1 39) 38,
 Gt (Of 41 8 3) 38,
 Gt (Ol 42 1 41) 38,
 Gt (Ob 43 .eql 40 42) 38,
 Oj 44 38 43, Om 45 44, Gt (Of 46 9 2) 45,
 Gt (Ol 47 1 46) 45,
 Gt (Of 48 9 3) 45,
 Gt (Ol 49 1 48) 45,
 Gt (Ob 50 .eql 47 49) 45,
 Oj 51 45 50, Om 4 51]
 .ret))
def af21 : AFunc := { n := 52, depth := 6, kl := [(2, [2, 5, 11, 18, 25, 32, 39, 46]), (3, [3, 7, 13, 20, 27, 34, 41, 48])], res := [.tmp 4], body := B21 }

def L22_1 : AC := (Sr [Ob 42 .lss 41 40]
 (.seq (.cond (.t 42)
 .skip
 (.exit 0))
 (.seq (.blk 1 (Sr [Oi 43 4 39 41, Oa 44 4 43, Oq 8 (.lalloc [(.i .i64 0), (.s []), (.s []), (.sl [] 0 .nil)] [8]), O5 4 8 44]
 (Sr [Oa 45 4 8, Om 46 1, Oz 47 .add 46 1, Om 48 2, Oc3 49 false 22 45 47 48, Ou 50 49]
 (.cond (.t 50)
 (Sr [Ox 6 (.b false)]
 .ret)
 .skip))))
 (.reg [Oz 51 .add 41 1, Om 41 51]))))
def B22 : AC := (Sr [Oq 3 (.lbox (.t 0) [3, 12, 17, 33, 38]), Ox 6 (.b false)]
 (Sr [Om 9 2, Oh 10 9, Ol 11 1 10, Of 12 1 3, Ol 13 1 12, Owt 14 13, Oq 15 (.minmax false (.t 14) (.k (.i .i64 8192))), Oq 16 (.bin .add (.k (.i .i64 1)) (.t 15)), Of 17 2 3, Ol 18 1 17, Owt 19 18, Oq 20 (.minmax false (.t 19) (.k (.i .i64 8192))), Ob 21 .add 16 20, Ob 22 .add 11 21, Oh 23 9, O5 1 23 22]
 (.seq (Sr [Om 24 2, Oh 25 24, Ol 26 1 25, Oz 27 .gtr 26 8192, Om 28 27, Gf (Om 29 1) 28,
 Gf (Oz 30 .gtr 29 50) 28,
 Oo 31 28 30, Om 32 31, Gf (Of 33 3 3) 32,
 Gf (Ol 34 1 33) 32,
 Gf (Ow 35 34) 32,
 Gf (Oz 36 .gtr 35 500) 32,
 Oo 37 32 36]
 (.cond (.t 37)
 (Sr [Ox 6 (.b false)]
 .ret)
 .skip))
 (.seq (Sr [Of 38 3 3, Ol 39 1 38, Ow 40 39, On 41 0]
 (.blk 0 (.loop L22_1)))
 (Sr [Ox 6 (.b true)]
 .ret)))))
def af22 : AFunc := { n := 52, depth := 6, kl := [(3, [3, 12, 17, 33, 38]), (8, [8])], res := [.tmp 6], body := B22 }

def B23 : AC := (Sr [Oq 1 (.lbox (.t 0) [1]), On 2 0]
 (Sr [Oa 6 4 1, Oc 7 false 46 6, Om 5 7, Oe 8 5 0, Oe 9 5 1, Om 3 8, Om 4 9]
 (Sr [Om 10 4, Om 2 10]
 .ret)))
def af23 : AFunc := { n := 11, depth := 4, kl := [(1, [1])], res := [.tmp 2], body := B23 }

def B24 : AC := (Sr [Ox 2 (.b false)]
 (Sr [Om 3 0, Oq 4 (.bin .eql (.t 3) (.k (.s []))), Om 5 4, Gf (Om 6 0) 5,
 Gf (Oc 7 true 25 6) 5,
 Gf (Oz 8 .eql 7 0) 5,
 Oo 9 5 8, Om 2 9]
 .ret))
def af24 : AFunc := { n := 10, depth := 4, kl := [], res := [.tmp 2], body := B24 }

def B25 : AC := (Sr [On 2 0]
 (.seq (Sr [Om 3 0, Oq 4 (.call true 47 [(.t 3), (.k (.i .i64 1)), (.k (.i .i64 8)), (.f 48)]), Ou 5 4]
 (.cond (.t 5)
 (Sr [On 2 22]
 .ret)
 .skip))
 (Sr [On 2 0]
 .ret)))
def af25 : AFunc := { n := 6, depth := 3, kl := [], res := [.tmp 2], body := B25 }

def B26 : AC := (Sr [Oq 1 (.lbox (.t 0) [1]), On 2 0]
 (Sr [Oa 6 4 1, Oq 7 (.call true 49 [(.t 6), (.k (.i .i64 0)), (.k (.i .i64 0))]), Om 5 7, Oe 8 5 0, Oe 9 5 1, Om 3 8, Om 4 9]
 (Sr [Om 10 4, Om 2 10]
 .ret)))
def af26 : AFunc := { n := 11, depth := 4, kl := [(1, [1])], res := [.tmp 2], body := B26 }

def B27 : AC := (Sr [Ox 2 (.b false)]
 (Sr [Om 3 0, Oq 4 (.bin .eql (.t 3) (.k (.s []))), Om 5 4, Gf (Om 6 0) 5,
 Gf (Oc 7 true 50 6) 5,
 Gf (Oz 8 .eql 7 0) 5,
 Oo 9 5 8, Om 2 9]
 .ret))
def af27 : AFunc := { n := 10, depth := 4, kl := [], res := [.tmp 2], body := B27 }

def B28 : AC := (Sr [Ox 5 (.sl [] 0 .nil)]
 (Sr [Ol 6 1 2, Om 5 6]
 .ret))
def af28 : AFunc := { n := 7, depth := 3, kl := [], res := [.tmp 5], body := B28 }

def L29_2 : AC := (Sr [Ob 59 .lss 58 57]
 (.seq (.cond (.t 59)
 .skip
 (.exit 2))
 (.seq (.blk 3 (Sr [Oi 60 2 56 58, Oa 61 2 60, Oq 15 (.lalloc [(.s []), (.s [])] [15, 63, 65]), O5 2 15 61]
 (.reg [Om 62 13, Of 63 1 15, Ol 64 1 63, Of 65 0 15, Ol 66 1 65, Oq 67 (.bslice false 9 1 1 [(.s [])] [(0, (.t 66))]), Oq 68 (.build [(.s []), (.sl [] 0 .nil), (.i .i64 0)] [(0, 1, (.t 64)), (1, 1, (.t 67)), (2, 1, (.k (.i .i64 1)))]), Oq 69 (.bslice false 60 3 1 [(.s []), (.sl [] 0 .nil), (.i .i64 0)] [(0, (.t 68))]), Oy 70 60 3 62 69, Om 13 70])))
 (.reg [Oz 71 .add 58 1, Om 58 71]))))
def L29_1 : AC := (Sr [Ob 21 .lss 20 19]
 (.seq (.cond (.t 21)
 .skip
 (.exit 0))
 (.seq (.blk 1 (Sr [Oi 22 2 18 20, Oa 23 2 22, Oq 10 (.lalloc [(.s []), (.s [])] [10]), O5 2 10 23]
 (Sr [Of 24 2 3, Oa 25 4 24, Oa 26 2 10, Oc 27 true 53 26, Oc2 28 true 52 25 27]
 (.cond (.t 28)
 (.reg [Om 29 8, Oa 30 2 10, Oq 31 (.bslice false 35 2 1 [(.s []), (.s [])] [(0, (.t 30))]), Oy 32 35 2 29 31, Om 8 32])
 .skip))))
 (.reg [Oz 33 .add 20 1, Om 20 33]))))
def B29 : AC := (Sr [Oq 3 (.box 26 (.t 0)), Oq 4 (.lbox (.t 1) [4]), Oq 5 (.lbox (.t 2) [5]), Ox 6 (.sl [] 0 .nil), On 7 0]
 (Sr [Oq 8 (.movnil 35)]
 (.seq (Sr [Oa 16 3 4, Oa 17 3 5, Oc2 18 false 51 16 17, Ow 19 18, On 20 0]
 (.blk 0 (.loop L29_1)))
 (.seq (Sr [Of 34 0 3, Ol 35 1 34, Oz 36 .neq 35 0]
 (.cond (.t 36)
 (Sr [Oa 38 10 3, Om 39 8, Oc2 40 true 54 38 39, Om 37 40, Oe 41 37 0, Oe 42 37 1, Om 11 41, Om 12 42]
 (.seq (Sr [Om 43 12, Oz 44 .neq 43 0]
 (.cond (.t 44)
 (Sr [Om 45 12, Ox 6 (.sl [] 0 .nil), Om 7 45]
 .ret)
 .skip))
 (.seq (Sr [Of 46 7 3, Ol 47 1 46]
 (.cond (.t 47)
 (.reg [Om 48 11, Oc 49 false 55 48])
 .skip))
 (Sr [Oa 50 10 3, Om 51 11, Oc2 52 true 56 50 51, Om 6 52, On 7 0]
 .ret))))
 .skip))
 (Sr [Om 53 8, Oq 54 (.mkfn 58 [] [(.t 3)]), Oc2 55 false 57 53 54]
 (Sr [Oq 13 (.movnil 60)]
 (.seq (Sr [Om 56 8, Ow 57 56, On 58 0]
 (.blk 2 (.loop L29_2)))
 (Sr [Oa 72 10 3, Om 73 13, Oc2 74 true 56 72 73, Om 6 74, On 7 0]
 .ret))))))))
def af29 : AFunc := { n := 75, depth := 7, kl := [(4, [4]), (5, [5]), (10, [10]), (15, [15, 63, 65])], res := [.tmp 6, .tmp 7], body := B29 }

def B37 : AC := (Sr [Oq 1 (.lbox (.t 0) [1]), Ox 2 (.s []), On 3 0]
 (.seq (Sr [Oa 5 4 1, Oc 6 true 23 5, Om 4 6]
 (Sr [Om 7 4, Oz 8 .neq 7 0]
 (.cond (.t 8)
 (Sr [Om 9 4, Ox 2 (.s []), Om 3 9]
 .ret)
 .skip)))
 (Sr [Oa 10 4 1, Oc 11 true 69 10, Om 2 11, On 3 0]
 .ret)))
def af37 : AFunc := { n := 12, depth := 4, kl := [(1, [1])], res := [.tmp 2, .tmp 3], body := B37 }

def B40 : AC := (Sr [Ox 0 (.sl [] 0 .nil)]
 (Sr [Oq 1 (.bslice false 9 1 5 [(.s [])] [(0, (.k (.s [107, 101, 121, 115]))), (1, (.k (.s [99, 111, 117, 110, 116]))), (2, (.k (.s [115, 117, 109]))), (3, (.k (.s [108, 101, 97, 115, 116]))), (4, (.k (.s [116, 111, 112])))]), Om 0 1]
 .ret))
def af40 : AFunc := { n := 2, depth := 2, kl := [], res := [.tmp 0], body := B40 }

def B41 : AC := (Sr [Oq 1 (.lbox (.t 0) [1]), Ox 2 (.s []), On 3 0]
 (.seq (Sr [Oa 5 4 1, Oc 6 true 26 5, Om 4 6]
 (Sr [Om 7 4, Oz 8 .neq 7 0]
 (.cond (.t 8)
 (Sr [Om 9 4, Ox 2 (.s []), Om 3 9]
 .ret)
 .skip)))
 (Sr [Oa 10 4 1, Oc 11 true 74 10, Om 2 11, On 3 0]
 .ret)))
def af41 : AFunc := { n := 12, depth := 4, kl := [(1, [1])], res := [.tmp 2, .tmp 3], body := B41 }

def B42 : AC := (Sr [Ox 2 (.s [])]
 (Sr [Om 4 0, Oz 5 .rem 4 10, Om 6 0, Oz 7 .rem 6 10, Oz 8 .add 7 1, Oq 9 (.slc .str (.k (.s [48, 49, 50, 51, 52, 53, 54, 55, 56, 57])) (some (.t 5)) (some (.t 8)) none), Om 3 9]
 (.seq (Sr [Om 10 0, Oz 11 .gtr 10 9]
 (.cond (.t 11)
 (Sr [Om 12 0, Oz 13 .quo 12 10, Oc 14 true 42 13, Om 15 3, Ob 16 .add 14 15, Om 2 16]
 .ret)
 .skip))
 (Sr [Om 17 3, Om 2 17]
 .ret))))
def af42 : AFunc := { n := 18, depth := 5, kl := [], res := [.tmp 2], body := B42 }

def B43 : AC := (Sr [Ox 2 .nilp, On 3 0, On 4 0]
 (Sr [Om 9 0, Oc 10 true 75 9, Om 8 10, Oe 11 8 0, Oe 12 8 1, Oe 13 8 2, Om 5 11, Om 6 12, Om 7 13]
 (.seq (Sr [Om 14 7, Oz 15 .neq 14 0]
 (.cond (.t 15)
 (Sr [Om 16 6, Om 17 7, Ox 2 .nilp, Om 3 16, Om 4 17]
 .ret)
 .skip))
 (Sr [Om 18 5, Om 19 0, Owt 20 19, Oq 21 (.build [(.sl [] 0 .nil), (.i .i64 0), (.i .i64 0), (.b false)] [(0, 1, (.t 18)), (2, 1, (.t 20)), (3, 1, (.k (.b true)))]), Oq 22 (.box 141 (.t 21)), Om 2 22, On 3 0, On 4 0]
 .ret))))
def af43 : AFunc := { n := 23, depth := 5, kl := [], res := [.tmp 2, .tmp 3, .tmp 4], body := B43 }

def B44 : AC := (.seq (.reg [On 2 0, On 3 0])
 (.seq (.reg [Om 9 0, Oh 10 9, Of 11 0 10, Ol 12 1 11, Oc 13 false 76 12, Oq 4 (.lalloc [(.i .i64 0), (.s []), (.i .i64 0)] [4, 15, 28, 32]), O5 3 4 13])
 (.seq (.seq (.reg [Om 14 0, Of 15 1 4, Ol 16 1 15, Oc 17 true 77 16, Oh 18 14, Of 19 1 18, Of 20 0 19, O5 1 20 17])
 (.seq (.reg [Om 21 0, Oh 22 21, Of 23 1 22, Of 24 0 23, Ol 25 1 24, Oz 26 .lss 25 0, Om 27 26, Gf (Of 28 0 4) 27,
 Gf (Ol 29 1 28) 27,
 Gf (Oz 30 .neq 29 1) 27,
 Oo 31 27 30])
 (.cond (.t 31)
 (.seq (.reg [Of 32 2 4, Ol 33 1 32, Om 2 33, On 3 192])
 .ret)
 .skip)))
 (.seq (.reg [Om 34 0, Oh 35 34, Of 36 0 35, Ol 37 1 36, Oc 38 false 78 37])
 (.seq (.reg [Ox 5 (.b true)])
 (.seq (.seq (.reg [Om 39 0, Oh 40 39, Of 41 1 40, Of 42 0 41, Ol 43 1 42, Oz 44 .geq 43 2])
 (.cond (.t 44)
 (.reg [Om 46 0, Om 47 0, Oc 48 false 79 47, Om 45 48, Oe 49 45 0, Oe 50 45 1, Oh 51 46, Of 52 1 51, Of 53 1 52, O5 1 53 49, Om 5 50])
 .skip))
 (.seq (.seq (.reg [Om 54 5, Ou 55 54])
 (.cond (.t 55)
 (.seq (.reg [Om 56 0, Oh 57 56, Of 58 0 57, Ol 59 1 58, Oc 60 false 76 59, Og 61 2 1 60, Om 2 61, On 3 192])
 .ret)
 .skip))
 (.seq (.seq (.reg [Om 62 0, Oh 63 62, Of 64 0 63, Ol 65 1 64, Oq 66 (.call false 80 [(.t 65), (.k (.i .i64 1)), (.k (.s [119, 104, 101, 114, 101]))])])
 (.cond (.t 66)
 (.seq (.reg [Om 68 0, Oh 69 68, Of 70 0 69, Ol 71 1 70, Oc 72 false 81 71, Om 67 72, Oe 73 67 0, Oe 74 67 1, Oe 75 67 2, Oq 6 (.lalloc [(.i .i64 0), (.s []), (.s []), (.sl [] 0 .nil)] [6]), O5 4 6 73, Om 7 74, Om 8 75])
 (.seq (.seq (.reg [Om 76 8, Oz 77 .neq 76 0])
 (.cond (.t 77)
 (.seq (.reg [Om 78 7, Om 79 8, Om 2 78, Om 3 79])
 .ret)
 .skip))
 (.reg [Om 80 0, Oa 81 4 6, Oh 82 80, Of 83 1 82, Of 84 2 83, O5 4 84 81])))
 .skip))
 (.seq (.seq (.reg [Om 85 0, Oh 86 85, Of 87 0 86, Ol 88 1 87, Oq 89 (.call false 80 [(.t 88), (.k (.i .i64 1)), (.k (.s [98, 121]))])])
 (.cond (.t 89)
 (.seq (.reg [Om 91 0, Om 92 0, Oc 93 false 79 92, Om 90 93, Oe 94 90 0, Oe 95 90 1, Oh 96 91, Of 97 1 96, Of 98 6 97, O5 1 98 94, Om 5 95])
 (.seq (.reg [Om 99 5, Ou 100 99])
 (.cond (.t 100)
 (.seq (.reg [Om 101 0, Oh 102 101, Of 103 0 102, Ol 104 1 103, Oc 105 false 76 104, Og 106 2 1 105, Om 2 106, On 3 192])
 .ret)
 .skip)))
 .skip))
 (.seq (.reg [Om 107 0, Om 108 0, Oh 109 108, Of 110 0 109, Ol 111 1 110, Oq 112 (.call false 80 [(.t 111), (.k (.i .i64 1)), (.k (.s [100, 111, 119, 110]))]), Oh 113 107, Of 114 1 113, Of 115 7 114, O5 1 115 112])
 (.seq (.seq (.reg [Om 116 0, Om 117 0, Oh 118 117, Of 119 1 118, Of 120 8 119, Oq 121 (.call false 82 [(.t 116), (.k (.s [115, 107, 105, 112])), (.t 120)]), Ou 122 121, Om 123 122, Gf (Om 124 0) 123,
 Gf (Om 125 0) 123,
 Gf (Oh 126 125) 123,
 Gf (Of 127 1 126) 123,
 Gf (Of 128 9 127) 123,
 Gf (Oq 129 (.call false 82 [(.t 124), (.k (.s [102, 105, 114, 115, 116])), (.t 128)])) 123,
 Gf (Ou 130 129) 123,
 Oo 131 123 130])
 (.cond (.t 131)
 (.seq (.reg [Om 132 0, Oh 133 132, Of 134 0 133, Ol 135 1 134, Oc 136 false 76 135, Og 137 2 1 136, Om 2 137, On 3 192])
 .ret)
 .skip))
 (.seq (.seq (.reg [Om 138 0, Oh 139 138, Of 140 0 139, Ol 141 1 140, Oc 142 false 76 141, Og 143 0 1 142, Oz 144 .neq 143 0])
 (.cond (.t 144)
 (.seq (.reg [Om 145 0, Oh 146 145, Of 147 0 146, Ol 148 1 147, Oc 149 false 76 148, Og 150 2 1 149, Om 2 150, On 3 3])
 .ret)
 .skip))
 (.seq (.reg [On 2 0, On 3 0])
 .ret)))))))))))))
def af44 : AFunc := { n := 151, depth := 8, kl := [(4, [4, 15, 28, 32]), (6, [6])], res := [.tmp 2, .tmp 3], body := B44 }

def L45_1 : AC := (Sr [Ob 38 .lss 37 36]
 (.seq (.cond (.t 38)
 .skip
 (.exit 0))
 (.seq (.blk 1 (Sr [Om 39 37, Om 5 39]
 (Sr [Of 40 3 2, Ol 41 1 40, Om 42 5, Oi 43 4 41 42, Oa 44 4 43, Of 45 3 3, Ol 46 1 45, Om 47 5, Oi 48 4 46 47, Oa 49 4 48, Oc2 50 true 45 44 49, Ou 51 50]
 (.cond (.t 51)
 (Sr [Ox 4 (.b false)]
 .ret)
 .skip))))
 (.reg [Oz 52 .add 37 1, Om 37 52]))))
def B45 : AC := (Sr [Oq 2 (.lbox (.t 0) [2, 6, 12, 19, 26, 34, 40]), Oq 3 (.lbox (.t 1) [3, 8, 14, 21, 29, 45]), Ox 4 (.b false)]
 (.seq (Sr [Of 6 0 2, Ol 7 1 6, Of 8 0 3, Ol 9 1 8, Ob 10 .neq 7 9, Om 11 10, Gf (Of 12 1 2) 11,
 Gf (Ol 13 1 12) 11,
 Gf (Of 14 1 3) 11,
 Gf (Ol 15 1 14) 11,
 Gf (Ob 16 .neq 13 15) 11,
 Oo 17 11 16, Om 18 17, Gf (Of 19 2 2) 18,
 Gf (Ol 20 1 19) 18,
 Gf (Of 21 2 3) 18,
 Gf (Ol 22 1 21) 18,
 Gf (Ob 23 .neq 20 22) 18,
 Oo 24 18 23, Om 25 24, Gf (Of 26 3 2) 25,
 Gf (Ol 27 1 26) 25,
 Gf (Ow 28 27) 25,
 Gf (Of 29 3 3) 25,
 Gf (Ol 30 1 29) 25,
 Gf (Ow 31 30) 25,
 Gf (Ob 32 .neq 28 31) 25,
 Oo 33 25 32]
 (.cond (.t 33)
 (Sr [Ox 4 (.b false)]
 .ret)
 .skip))
 (.seq (Sr [Of 34 3 2, Ol 35 1 34, Ow 36 35, On 37 0]
 (.blk 0 (.loop L45_1)))
 (Sr [Ox 4 (.b true)]
 .ret))))
def af45 : AFunc := { n := 53, depth := 6, kl := [(2, [2, 6, 12, 19, 26, 34, 40]), (3, [3, 8, 14, 21, 29, 45])], res := [.tmp 4], body := B45 }

def B46 : AC := (Sr [Oq 1 (.lbox (.t 0) [1]), Ox 2 .nili, On 3 0]
 (Sr [Oq 4 (.alloc 3 [(.i .i64 0)]), O6 (.store 1 (.t 4) (.k (.i .i64 0)))]
 (Sr [Oa 8 4 1, Oq 9 (.call false 83 [(.t 8), (.k (.i .i64 1)), (.t 4)]), Om 7 9, Oe 10 7 0, Oe 11 7 1, Om 5 10, Om 6 11]
 (.seq (Sr [Om 12 6, Oz 13 .neq 12 0]
 (.cond (.t 13)
 (Sr [Om 14 6, Ox 2 .nili, Om 3 14]
 .ret)
 .skip))
 (Sr [Om 15 5, Oq 16 (.tas false [181, 183, 185, 186, 190, 192, 193] [9, 47] .nili false (.t 15)), Om 2 16, On 3 0]
 .ret)))))
def af46 : AFunc := { n := 17, depth := 5, kl := [(1, [1])], res := [.tmp 2, .tmp 3], body := B46 }

def L47_1 : AC := (Sr [Oq 14 (.next 13), Oe 15 14 0]
 (.seq (.cond (.t 15)
 .skip
 (.exit 0))
 (.blk 1 (Sr [Oe 16 14 2, Om 11 16]
 (Sr [Om 17 9, Oz 18 .add 17 1, Om 9 18]
 (Sr [Om 19 9, Om 20 2, Ob 21 .gtr 19 20, Om 22 21, Gf (Om 23 3) 22,
 Gf (Om 24 11) 22,
 Gf (Oq 25 (.callv true (.t 23) [(.t 24)])) 22,
 Gf (Ou 26 25) 22,
 Oo 27 22 26]
 (.cond (.t 27)
 (Sr [Ox 8 (.b false)]
 .ret)
 .skip)))))))
def B47 : AC := (Sr [Ox 8 (.b false)]
 (Sr [On 9 0]
 (.seq (Sr [Om 12 0, Oq 13 (.range (.t 12))]
 (.blk 0 (.loop L47_1)))
 (Sr [Om 28 9, Om 29 1, Ob 30 .geq 28 29, Om 8 30]
 .ret))))
def af47 : AFunc := { n := 31, depth := 5, kl := [], res := [.tmp 8], body := B47 }

def B48 : AC := (Sr [Ox 2 (.b false)]
 (Sr [Om 3 0, Oq 4 (.bin .geq (.t 3) (.k (.i .i32 97))), Om 5 4, Gt (Om 6 0) 5,
 Gt (Oq 7 (.bin .leq (.t 6) (.k (.i .i32 122)))) 5,
 Oj 8 5 7, Om 2 8]
 .ret))
def af48 : AFunc := { n := 9, depth := 4, kl := [], res := [.tmp 2], body := B48 }

def L49_1 : AC := (Sr [Ob 29 .lss 28 27]
 (.seq (.cond (.t 29)
 .skip
 (.exit 0))
 (.seq (.blk 1 (Sr [Oi 30 4 26 28, Oa 31 4 30, Oq 9 (.lalloc [(.i .i64 0), (.s []), (.s []), (.sl [] 0 .nil)] [9]), O5 4 9 31]
 (Sr [Oa 33 4 9, Om 34 1, Oz 35 .add 34 1, Om 36 2, Oc3 37 true 49 33 35 36, Om 32 37, Oe 38 32 0, Oe 39 32 1, Om 10 38, Om 11 39]
 (.seq (Sr [Om 40 11, Oz 41 .neq 40 0]
 (.cond (.t 41)
 (Sr [Om 42 10, Om 43 11, Om 6 42, Om 7 43]
 .ret)
 .skip))
 (.reg [Om 44 10, Om 2 44])))))
 (.reg [Oz 45 .add 28 1, Om 28 45]))))
def B49 : AC := (Sr [Oq 3 (.lbox (.t 0) [3, 25]), On 6 0, On 7 0]
 (.seq (Sr [Om 12 1, Oz 13 .geq 12 6, Om 14 13, Gf (Om 15 2) 14,
 Gf (Oz 16 .geq 15 24) 14,
 Oo 17 14 16]
 (.cond (.t 17)
 (Sr [Om 18 2, Om 6 18, On 7 51]
 .ret)
 .skip))
 (.seq (Sr [Oa 19 4 3, Oc 20 true 84 19, Ou 21 20]
 (.cond (.t 21)
 (Sr [Om 22 2, Om 6 22, On 7 50]
 .ret)
 .skip))
 (Sr [Om 23 2, Oz 24 .add 23 1, Om 2 24]
 (.seq (Sr [Of 25 3 3, Ol 26 1 25, Ow 27 26, On 28 0]
 (.blk 0 (.loop L49_1)))
 (Sr [Om 46 2, Om 6 46, On 7 0]
 .ret))))))
def af49 : AFunc := { n := 47, depth := 6, kl := [(3, [3, 25]), (9, [9])], res := [.tmp 6, .tmp 7], body := B49 }

def L50_1 : AC := (Sr [Ob 16 .lss 15 14]
 (.seq (.cond (.t 16)
 .skip
 (.exit 0))
 (.seq (.blk 1 (Sr [Om 17 15, Om 4 17]
 (.reg [Om 18 3, Om 19 18, Gt (Om 20 0) 19,
 Gt (Om 21 4) 19,
 Gt (Oq 22 (.idx .str (.t 20) (.t 21))) 19,
 Gt (Oq 23 (.bin .geq (.t 22) (.k (.i .u8 97)))) 19,
 Oj 24 19 23, Om 25 24, Gt (Om 26 0) 25,
 Gt (Om 27 4) 25,
 Gt (Oq 28 (.idx .str (.t 26) (.t 27))) 25,
 Gt (Oq 29 (.bin .leq (.t 28) (.k (.i .u8 122)))) 25,
 Oj 30 25 29, Om 3 30])))
 (.reg [Oz 31 .add 15 1, Om 15 31]))))
def B50 : AC := (Sr [On 2 0]
 (Sr [Om 5 0, Owt 6 5, Oz 7 .geq 6 1, Om 8 7, Gt (Om 9 0) 8,
 Gt (Owt 10 9) 8,
 Gt (Oz 11 .leq 10 8) 8,
 Oj 12 8 11, Om 3 12]
 (.seq (Sr [Om 13 0, Owt 14 13, On 15 0]
 (.blk 0 (.loop L50_1)))
 (.seq (Sr [Om 32 3, Ou 33 32]
 (.cond (.t 33)
 (Sr [On 2 22]
 .ret)
 .skip))
 (Sr [On 2 0]
 .ret)))))
def af50 : AFunc := { n := 34, depth := 6, kl := [], res := [.tmp 2], body := B50 }

def L51_2 : AC := (Sr [Ob 44 .lss 43 42]
 (.seq (.cond (.t 44)
 .skip
 (.exit 3))
 (.seq (.blk 4 (Sr [Oi 45 1 41 43, Ol 46 1 45, Om 11 46]
 (Sr [Of 48 1 3, Ol 49 1 48, Om 50 11, Oq 51 (.callv false (.t 49) [(.t 50)]), Om 47 51, Oe 52 47 0, Oe 53 47 1, Om 12 52, Om 13 53]
 (Sr [Om 54 13]
 (.cond (.t 54)
 (.reg [Om 55 5, Om 56 11, Om 57 12, Oq 58 (.build [(.s []), (.s [])] [(0, 1, (.t 56)), (1, 1, (.t 57))]), Oq 59 (.bslice false 35 2 1 [(.s []), (.s [])] [(0, (.t 58))]), Oy 60 35 2 55 59, Om 5 60])
 .skip)))))
 (.reg [Oz 61 .add 43 1, Om 43 61]))))
def L51_1 : AC := (Sr [Ob 31 .lss 30 29]
 (.seq (.cond (.t 31)
 .skip
 (.exit 1))
 (.seq (.blk 2 (Sr [Oi 32 3 28 30, Oa 33 3 32, Oq 9 (.lalloc [(.s []), (.sl [] 0 .nil), (.i .i64 0)] [9, 34, 40]), O5 3 9 33]
 (.seq (Sr [Of 34 0 9, Ol 35 1 34, Of 36 0 2, Of 37 2 36, Ol 38 1 37, Ob 39 .neq 35 38]
 (.cond (.t 39)
 (.exit 2)
 .skip))
 (Sr [Of 40 1 9, Ol 41 1 40, Ow 42 41, On 43 0]
 (.blk 3 (.loop L51_2))))))
 (.reg [Oz 62 .add 30 1, Om 30 62]))))
def B51 : AC := (Sr [Oq 2 (.lbox (.t 0) [2, 14, 15, 22, 23, 36, 37, 68, 69, 71, 72]), Oq 3 (.lbox (.t 1) [3, 20, 48, 66, 76]), Oq 4 (.movnil 35)]
 (.seq (Sr [Of 14 0 2, Of 15 0 14, Ol 16 1 15]
 (.blk 0 (Sr [Oz 18 .eql 16 2, Om 17 18]
 (.cond (.t 17)
 (Sr [Oq 5 (.movnil 35)]
 (Sr [Of 20 2 3, Ol 21 1 20, Of 22 0 2, Of 23 1 22, Ol 24 1 23, Oq 25 (.callv false (.t 21) [(.t 24)]), Om 19 25, Oe 26 19 0, Oe 27 19 1, Om 6 26, Om 7 27]
 (.seq (Sr [Om 28 6, Ow 29 28, On 30 0]
 (.blk 1 (.loop L51_1)))
 (Sr [Om 63 5, Om 4 63]
 .ret))))
 (Sr [Oz 65 .eql 16 1, Om 64 65]
 (.cond (.t 64)
 (Sr [Of 66 0 3, Ol 67 1 66, Of 68 0 2, Of 69 2 68, Ol 70 1 69, Of 71 0 2, Of 72 2 71, Ol 73 1 72, Oc 74 true 85 73, Oq 75 (.callv false (.t 67) [(.t 70), (.t 74)]), Om 4 75]
 .ret)
 .skip))))))
 (Sr [Of 76 0 3, Ol 77 1 76, Oq 78 (.callv false (.t 77) [(.k (.s [])), (.k (.s []))]), Om 4 78]
 .ret)))
def af51 : AFunc := { n := 79, depth := 7, kl := [(2, [2, 14, 15, 22, 23, 36, 37, 68, 69, 71, 72]), (3, [3, 20, 48, 66, 76]), (9, [9, 34, 40])], res := [.tmp 4], body := B51 }

def B52 : AC := (Sr [Oq 2 (.lbox (.t 0) [2]), Oq 3 (.lbox (.t 1) [3]), Ox 4 (.b false)]
 (Sr [Oa 8 4 2, Oc 9 false 46 8, Om 7 9, Oe 10 7 0, Oe 11 7 1, Om 5 10, Om 6 11]
 (Sr [Om 12 6, Oz 13 .eql 12 0, Om 14 13, Gt (Om 15 5) 14,
 Gt (Oa 16 6 3) 14,
 Gt (Oq 17 (.inv false [(181, 226), (183, 227), (185, 229), (186, 230), (190, 231), (192, 232), (193, 233)] (.t 15) [(.t 16)])) 14,
 Oj 18 14 17, Om 4 18]
 .ret)))
def af52 : AFunc := { n := 19, depth := 5, kl := [(2, [2]), (3, [3])], res := [.tmp 4], body := B52 }

def B53 : AC := (Sr [Oq 1 (.lbox (.t 0) [1, 3, 5]), Oq 2 (.lalloc [(.i .i64 0), (.s []), (.b false), (.s []), (.b false), (.s [])] [2])]
 (Sr [Of 3 0 1, Ol 4 1 3, Of 5 1 1, Ol 6 1 5, Oq 7 (.build [(.i .i64 0), (.s []), (.b false), (.s []), (.b false), (.s [])] [(1, 1, (.t 4)), (4, 1, (.k (.b true))), (5, 1, (.t 6))]), O5 6 2 7]
 .ret))
def af53 : AFunc := { n := 8, depth := 4, kl := [(1, [1, 3, 5]), (2, [2])], res := [.cell 2 true 6], body := B53 }

def L54_2 : AC := (Sr [Ob 67 .lss 66 65]
 (.seq (.cond (.t 67)
 .skip
 (.exit 2))
 (.seq (.blk 3 (Sr [Oi 68 1 64 66, Ol 69 1 68, Om 17 69]
 (Sr [Oa 71 10 2, Om 72 7, Om 73 17, Oq 74 (.mget .str false (.sl [] 0 .nil) (.t 72) (.t 73)), Oc2 75 true 88 71 74, Om 70 75, Oe 76 70 0, Oe 77 70 1, Oe 78 70 2, Oq 18 (.lalloc [(.s []), (.sl [] 0 .nil), (.i .i64 0)] [18, 84]), O5 3 18 76, Om 19 77, Om 20 78]
 (.seq (Sr [Om 79 20, Oz 80 .neq 79 0]
 (.cond (.t 80)
 (Sr [Om 81 20, Oq 4 (.movnil 60), Om 5 81]
 .ret)
 .skip))
 (Sr [Om 82 19]
 (.cond (.t 82)
 (Sr [Om 83 17, Of 84 0 18, O5 1 84 83]
 (.reg [Om 85 15, Oa 86 3 18, Oq 87 (.bslice false 60 3 1 [(.s []), (.sl [] 0 .nil), (.i .i64 0)] [(0, (.t 86))]), Oy 88 60 3 85 87, Om 15 88]))
 .skip))))))
 (.reg [Oz 89 .add 66 1, Om 66 89]))))
def L54_1 : AC := (Sr [Ob 25 .lss 24 23]
 (.seq (.cond (.t 25)
 .skip
 (.exit 0))
 (.seq (.blk 1 (Sr [Oi 26 2 22 24, Oa 27 2 26, Oq 9 (.lalloc [(.s []), (.s [])] [9]), O5 2 9 27]
 (Sr [Ox 10 (.s [])]
 (.seq (Sr [Of 28 6 2, Ol 29 1 28, Oq 30 (.bin .neq (.t 29) (.k (.s [])))]
 (.cond (.t 30)
 (Sr [Oa 32 2 9, Of 33 6 2, Ol 34 1 33, Oc2 35 true 86 32 34, Om 31 35, Oe 36 31 0, Oe 37 31 1, Om 11 36, Om 12 37]
 (.seq (Sr [Om 38 12, Ou 39 38]
 (.cond (.t 39)
 (.exit 1)
 .skip))
 (.reg [Om 40 11, Om 10 40])))
 .skip))
 (.seq (Sr [Om 42 7, Om 43 10, Oq 44 (.mget .str true (.sl [] 0 .nil) (.t 42) (.t 43)), Om 41 44, Oe 45 41 0, Oe 46 41 1, Om 13 45, Om 14 46]
 (Sr [Om 47 14, Ou 48 47]
 (.cond (.t 48)
 (.reg [Om 49 6, Om 50 10, Oq 51 (.bslice false 9 1 1 [(.s [])] [(0, (.t 50))]), Oy 52 9 1 49 51, Om 6 52])
 .skip)))
 (.reg [Om 53 7, Om 54 10, Om 55 7, Om 56 10, Oq 57 (.mget .str false (.sl [] 0 .nil) (.t 55) (.t 56)), Oa 58 2 9, Oq 59 (.bslice false 35 2 1 [(.s []), (.s [])] [(0, (.t 58))]), Oy 60 35 2 57 59, O6 (.mput .str (.t 53) (.t 54) (.t 60))]))))))
 (.reg [Oz 61 .add 24 1, Om 24 61]))))
def B54 : AC := (Sr [Oq 2 (.lbox (.t 0) [2, 28, 33]), Oq 4 (.movnil 60), On 5 0]
 (Sr [Oq 6 (.movnil 9)]
 (Sr [Oq 21 (.mkmap), Om 7 21]
 (.seq (Sr [Om 22 1, Ow 23 22, On 24 0]
 (.blk 0 (.loop L54_1)))
 (Sr [Om 62 6, Oc 63 false 87 62]
 (Sr [Oq 15 (.movnil 60)]
 (.seq (Sr [Om 64 6, Ow 65 64, On 66 0]
 (.blk 2 (.loop L54_2)))
 (Sr [Om 90 15, Om 4 90, On 5 0]
 .ret))))))))
def af54 : AFunc := { n := 91, depth := 7, kl := [(2, [2, 28, 33]), (9, [9]), (18, [18, 84])], res := [.tmp 4, .tmp 5], body := B54 }

def B56 : AC := (Sr [Oq 2 (.lbox (.t 0) [2, 6, 12, 16]), Ox 4 (.sl [] 0 .nil)]
 (Sr [Om 5 1, Of 6 8 2, Ol 7 1 6, Om 8 1, Ow 9 8, Oq 10 (.minmax false (.t 7) (.t 9)), Oq 11 (.slc (.slice 3) (.t 5) (some (.t 10)) none none), Om 1 11]
 (.seq (Sr [Of 12 9 2, Ol 13 1 12, Oz 14 .gtr 13 0]
 (.cond (.t 14)
 (.reg [Om 15 1, Of 16 9 2, Ol 17 1 16, Om 18 1, Ow 19 18, Oq 20 (.minmax false (.t 17) (.t 19)), Oq 21 (.slc (.slice 3) (.t 15) none (some (.t 20)) none), Om 1 21])
 .skip))
 (Sr [Om 22 1, Om 4 22]
 .ret))))
def af56 : AFunc := { n := 23, depth := 5, kl := [(2, [2, 6, 12, 16])], res := [.tmp 4], body := B56 }

def L69_2 : AC := (Sr [Ob 68 .lss 67 66]
 (.seq (.cond (.t 68)
 .skip
 (.exit 3))
 (.seq (.blk 4 (Sr [Om 69 67, Oi 70 4 65 67, Oa 71 4 70, Oq 10 (.lalloc [(.i .i64 0), (.s []), (.s []), (.sl [] 0 .nil)] [10]), Om 9 69, O5 4 10 71]
 (.reg [Om 72 6, Om 73 9, Oa 74 4 10, Oc 75 true 69 74, Oi 76 1 72 73, O5 1 76 75])))
 (.reg [Oz 77 .add 67 1, Om 67 77]))))
def L69_1 : AC := (Sr [Ob 47 .lss 46 45]
 (.seq (.cond (.t 47)
 .skip
 (.exit 1))
 (.seq (.blk 2 (Sr [Oi 48 4 44 46, Oa 49 4 48, Oq 8 (.lalloc [(.i .i64 0), (.s []), (.s []), (.sl [] 0 .nil)] [8]), O5 4 8 49]
 (.reg [Om 50 6, Oa 51 4 8, Om 52 5, Oz 53 .add 52 1, Oc2 54 true 95 51 53, Oq 55 (.bslice true 9 1 1 [(.s [])] [(0, (.t 54))]), Oq 56 (.appo 9 1 (.t 50) (.t 55)), Om 6 56])))
 (.reg [Oz 57 .add 46 1, Om 46 57]))))
def B69 : AC := (Sr [Oq 1 (.lbox (.t 0) [1, 11, 17, 23, 26, 34, 40, 43, 64]), Ox 2 (.s [])]
 (.seq (Sr [Of 11 0 1, Ol 12 1 11]
 (.blk 0 (Sr [Oz 14 .eql 12 0, Om 13 14]
 (.cond (.t 13)
 (Sr [Ox 2 (.s [97, 108, 108])]
 .ret)
 (Sr [Oz 16 .eql 12 1, Om 15 16]
 (.cond (.t 15)
 (Sr [Of 17 2 1, Ol 18 1 17, Oc 19 true 94 18, Oq 20 (.bin .add (.k (.s [107, 101, 121, 32, 94, 32])) (.t 19)), Om 2 20]
 .ret)
 (Sr [Oz 22 .eql 12 2, Om 21 22]
 (.cond (.t 21)
 (Sr [Of 23 1 1, Ol 24 1 23, Oq 25 (.bin .add (.t 24) (.k (.s [32, 61, 32]))), Of 26 2 1, Ol 27 1 26, Oc 28 true 94 27, Ob 29 .add 25 28, Om 2 29]
 .ret)
 (Sr [Oz 31 .eql 12 3, Om 30 31]
 (.cond (.t 30)
 (Sr [Ox 2 (.s [112, 117, 116])]
 .ret)
 (Sr [Oz 33 .eql 12 4, Om 32 33]
 (.cond (.t 32)
 (Sr [Of 34 3 1, Ol 35 1 34, Oq 36 (.iaddr (.slice 4) (.t 35) (.k (.i .i64 0))), Oa 37 4 36, Oq 38 (.call true 95 [(.t 37), (.k (.i .i64 3))]), Oq 39 (.bin .add (.k (.s [110, 111, 116, 32])) (.t 38)), Om 2 39]
 .ret)
 .skip))))))))))))
 (Sr [Ox 3 (.s [32, 111, 114, 32]), Ox 4 (.s [97, 110, 121, 40]), On 5 1]
 (.seq (Sr [Of 40 0 1, Ol 41 1 40, Oz 42 .eql 41 5]
 (.cond (.t 42)
 (.reg [Ox 3 (.s [32, 97, 110, 100, 32]), Ox 4 (.s [101, 97, 99, 104, 40]), On 5 2])
 .skip))
 (Sr [Ox 6 (.sl [] 0 .nil)]
 (.seq (Sr [Of 43 3 1, Ol 44 1 43, Ow 45 44, On 46 0]
 (.blk 1 (.loop L69_1)))
 (.seq (Sr [Om 58 6, Ow 59 58, Oz 60 .gtr 59 1]
 (.cond (.t 60)
 (Sr [Om 61 6, Om 62 3, Oc2 63 false 39 61 62, Om 2 63]
 .ret)
 .skip))
 (.seq (Sr [Of 64 3 1, Ol 65 1 64, Ow 66 65, On 67 0]
 (.blk 3 (.loop L69_2)))
 (Sr [Om 78 4, Om 79 6, Oq 80 (.call false 39 [(.t 79), (.k (.s [44, 32]))]), Ob 81 .add 78 80, Oq 82 (.bin .add (.t 81) (.k (.s [41]))), Om 2 82]
 .ret)))))))))
def af69 : AFunc := { n := 83, depth := 7, kl := [(1, [1, 11, 17, 23, 26, 34, 40, 43, 64]), (8, [8]), (10, [10])], res := [.tmp 2], body := B69 }

def B72 : AC := (Sr [On 4 0, Ox 5 .nili]
 (Sr [Om 6 0, Oc 7 false 97 6]
 (Sr [Om 8 0, Om 9 0, Oh 10 9, Of 11 1 10, Ol 12 1 11, Om 13 1, Oy 14 5 1 12 13, Oh 15 8, Of 16 1 15, O5 1 16 14]
 (Sr [Om 17 1, Owt 18 17, Om 4 18, Ox 5 .nili]
 .ret))))
def af72 : AFunc := { n := 19, depth := 5, kl := [], res := [.tmp 4, .tmp 5], body := B72 }

def B73 : AC := (Sr [Ox 2 (.s [])]
 (Sr [Om 3 0, Oh 4 3, Of 5 1 4, Ol 6 1 5, Oq 7 (.sdata (.t 6)), Om 8 0, Oh 9 8, Of 10 1 9, Ol 11 1 10, Ow 12 11, Oq 13 (.ustr 5 (.t 7) (.t 12)), Om 2 13]
 .ret))
def af73 : AFunc := { n := 14, depth := 4, kl := [], res := [.tmp 2], body := B73 }

def L74_2 : AC := (Sr [Ob 75 .lss 74 73]
 (.seq (.cond (.t 75)
 .skip
 (.exit 3))
 (.seq (.blk 4 (Sr [Om 76 74, Oi 77 4 72 74, Oa 78 4 77, Oq 8 (.lalloc [(.i .i64 0), (.s []), (.s []), (.sl [] 0 .nil)] [8, 104]), Om 7 76, O5 4 8 78]
 (.seq (Sr [Om 79 7, Oz 80 .gtr 79 0, Om 81 80, Gt (Of 82 0 1) 81,
 Gt (Ol 83 1 82) 81,
 Gt (Oz 84 .eql 83 5) 81,
 Oj 85 81 84]
 (.cond (.t 85)
 (.reg [Om 86 6, Oq 87 (.bin .add (.t 86) (.k (.s [32, 97, 110, 100, 32]))), Om 6 87])
 .skip))
 (.seq (Sr [Om 88 7, Oz 89 .gtr 88 0, Om 90 89, Gt (Of 91 0 1) 90,
 Gt (Ol 92 1 91) 90,
 Gt (Oz 93 .eql 92 6) 90,
 Oj 94 90 93]
 (.cond (.t 94)
 (.reg [Om 95 6, Oq 96 (.bin .add (.t 95) (.k (.s [32, 111, 114, 32]))), Om 6 96])
 .skip))
 (Sr [Oa 97 4 8, Oc 98 true 100 97, Om 99 98, Gt (Of 100 0 1) 99,
 Gt (Ol 101 1 100) 99,
 Gt (Oz 102 .eql 101 5) 99,
 Gt (Om 103 102) 99,
 Gf (Of 104 0 8) 103,
 Gf (Ol 105 1 104) 103,
 Gf (Oz 106 .eql 105 6) 103,
 Gt (Oo 107 103 106) 99,
 Oj 108 99 107]
 (.cond (.t 108)
 (.reg [Om 109 6, Oq 110 (.bin .add (.t 109) (.k (.s [40]))), Oa 111 4 8, Oc 112 true 74 111, Ob 113 .add 110 112, Oq 114 (.bin .add (.t 113) (.k (.s [41]))), Om 6 114])
 (.reg [Om 115 6, Oa 116 4 8, Oc 117 true 74 116, Ob 118 .add 115 117, Om 6 118])))))))
 (.reg [Oz 119 .add 74 1, Om 74 119]))))
def L74_1 : AC := (Sr [Ob 61 .lss 60 59]
 (.seq (.cond (.t 61)
 .skip
 (.exit 1))
 (.seq (.blk 2 (Sr [Oi 62 4 58 60, Oa 63 4 62, Oq 5 (.lalloc [(.i .i64 0), (.s []), (.s []), (.sl [] 0 .nil)] [5]), O5 4 5 63]
 (.reg [Om 64 3, Oa 65 4 5, Oc 66 true 74 65, Ob 67 .add 64 66, Om 3 67])))
 (.reg [Oz 68 .add 60 1, Om 60 68]))))
def B74 : AC := (Sr [Oq 1 (.lbox (.t 0) [1, 9, 15, 21, 24, 32, 37, 44, 50, 54, 57, 71, 82, 91, 100]), Ox 2 (.s [])]
 (.seq (Sr [Of 9 0 1, Ol 10 1 9]
 (.blk 0 (Sr [Oz 12 .eql 10 0, Om 11 12]
 (.cond (.t 11)
 (Sr [Ox 2 (.s [97, 108, 108])]
 .ret)
 (Sr [Oz 14 .eql 10 1, Om 13 14]
 (.cond (.t 13)
 (Sr [Of 15 2 1, Ol 16 1 15, Oc 17 true 99 16, Oq 18 (.bin .add (.k (.s [107, 101, 121, 32, 94, 32])) (.t 17)), Om 2 18]
 .ret)
 (Sr [Oz 20 .eql 10 2, Om 19 20]
 (.cond (.t 19)
 (Sr [Of 21 1 1, Ol 22 1 21, Oq 23 (.bin .add (.t 22) (.k (.s [32, 61, 32]))), Of 24 2 1, Ol 25 1 24, Oc 26 true 99 25, Ob 27 .add 23 26, Om 2 27]
 .ret)
 (Sr [Oz 29 .eql 10 3, Om 28 29]
 (.cond (.t 28)
 (Sr [Ox 2 (.s [112, 117, 116])]
 .ret)
 (Sr [Oz 31 .eql 10 4, Om 30 31]
 (.cond (.t 30)
 (.seq (Sr [Of 32 3 1, Ol 33 1 32, Oq 34 (.iaddr (.slice 4) (.t 33) (.k (.i .i64 0))), Oa 35 4 34, Oc 36 true 100 35]
 (.cond (.t 36)
 (Sr [Of 37 3 1, Ol 38 1 37, Oq 39 (.iaddr (.slice 4) (.t 38) (.k (.i .i64 0))), Oa 40 4 39, Oc 41 true 74 40, Oq 42 (.bin .add (.k (.s [110, 111, 116, 32, 40])) (.t 41)), Oq 43 (.bin .add (.t 42) (.k (.s [41]))), Om 2 43]
 .ret)
 .skip))
 (Sr [Of 44 3 1, Ol 45 1 44, Oq 46 (.iaddr (.slice 4) (.t 45) (.k (.i .i64 0))), Oa 47 4 46, Oc 48 true 74 47, Oq 49 (.bin .add (.k (.s [110, 111, 116, 32])) (.t 48)), Om 2 49]
 .ret))
 .skip))))))))))))
 (.seq (Sr [Of 50 3 1, Ol 51 1 50, Ow 52 51, Oz 53 .lss 52 2]
 (.cond (.t 53)
 (Sr [Ox 3 (.s [97, 110, 121, 40])]
 (.seq (Sr [Of 54 0 1, Ol 55 1 54, Oz 56 .eql 55 5]
 (.cond (.t 56)
 (.reg [Ox 3 (.s [101, 97, 99, 104, 40])])
 .skip))
 (.seq (Sr [Of 57 3 1, Ol 58 1 57, Ow 59 58, On 60 0]
 (.blk 1 (.loop L74_1)))
 (Sr [Om 69 3, Oq 70 (.bin .add (.t 69) (.k (.s [41]))), Om 2 70]
 .ret))))
 .skip))
 (Sr [Ox 6 (.s [])]
 (.seq (Sr [Of 71 3 1, Ol 72 1 71, Ow 73 72, On 74 0]
 (.blk 3 (.loop L74_2)))
 (Sr [Om 120 6, Om 2 120]
 .ret))))))
def af74 : AFunc := { n := 121, depth := 7, kl := [(1, [1, 9, 15, 21, 24, 32, 37, 44, 50, 54, 57, 71, 82, 91, 100]), (5, [5]), (8, [8, 104])], res := [.tmp 2], body := B74 }

def L75_1 : AC := (.seq (Sr [Om 12 6, Om 13 0, Owt 14 13, Ob 15 .lss 12 14]
 (.cond (.t 15)
 .skip
 (.exit 0)))
 (.blk 1 (Sr [Om 17 0, Om 18 6, Oq 19 (.slc .str (.t 17) (some (.t 18)) none none), Oc 20 true 101 19, Om 16 20, Oe 21 16 0, Oe 22 16 1, Om 7 21, Om 8 22]
 (Sr [Om 23 6, Oq 24 (.build [(.i .i64 0), (.s []), (.i .i64 0)] [(2, 1, (.t 23))]), Oq 9 (.lalloc [(.i .i64 0), (.s []), (.i .i64 0)] [9, 46, 47, 61, 62, 76, 77, 108, 109, 119, 120]), O5 3 9 24]
 (.seq (.blk 2 (Sr [Om 27 7, Oq 28 (.bin .eql (.t 27) (.k (.i .i32 32))), Om 26 28]
 (.cond (.t 26)
 (Sr [Om 29 6, Oz 30 .add 29 1, Om 6 30]
 (.exit 1))
 (Sr [Om 32 7, Oq 33 (.bin .eql (.t 32) (.k (.i .i32 34))), Om 31 33]
 (.cond (.t 31)
 (Sr [Om 35 0, Om 36 6, Oq 37 (.slc .str (.t 35) (some (.t 36)) none none), Oc 38 true 102 37, Om 34 38, Oe 39 34 0, Oe 40 34 1, Om 10 39, Om 11 40]
 (.seq (Sr [Om 41 11, Oz 42 .eql 41 0]
 (.cond (.t 42)
 (Sr [Om 43 6, Oq 2 (.movnil 143), Om 3 43, On 4 191]
 .ret)
 .skip))
 (.reg [Om 44 10, Om 45 11, Of 46 0 9, O6 (.store 1 (.t 46) (.k (.i .i64 2))), Of 47 1 9, O5 1 47 44, Om 8 45])))
 (Sr [Om 49 7, Oc 50 true 103 49, Om 48 50]
 (.cond (.t 48)
 (Sr [Om 51 0, Om 52 6, Oq 53 (.slc .str (.t 51) (some (.t 52)) none none), Oq 54 (.call true 104 [(.t 53), (.f 103)]), Om 8 54]
 (.reg [Om 55 0, Om 56 6, Om 57 6, Om 58 8, Ob 59 .add 57 58, Oq 60 (.slc .str (.t 55) (some (.t 56)) (some (.t 59)) none), Of 61 0 9, O6 (.store 1 (.t 61) (.k (.i .i64 1))), Of 62 1 9, O5 1 62 60]))
 (Sr [Om 64 7, Oc 65 true 105 64, Om 63 65]
 (.cond (.t 63)
 (Sr [Om 66 0, Om 67 6, Oq 68 (.slc .str (.t 66) (some (.t 67)) none none), Oq 69 (.call true 104 [(.t 68), (.f 105)]), Om 8 69]
 (.reg [Om 70 0, Om 71 6, Om 72 6, Om 73 8, Ob 74 .add 72 73, Oq 75 (.slc .str (.t 70) (some (.t 71)) (some (.t 74)) none), Of 76 0 9, O6 (.store 1 (.t 76) (.k (.i .i64 3))), Of 77 1 9, O5 1 77 75]))
 (Sr [Om 79 7, Oq 80 (.bin .eql (.t 79) (.k (.i .i32 45))), Om 81 80, Gt (Om 82 6) 81,
 Gt (Oz 83 .add 82 1) 81,
 Gt (Om 84 0) 81,
 Gt (Owt 85 84) 81,
 Gt (Ob 86 .lss 83 85) 81,
 Oj 87 81 86, Om 88 87, Gt (Om 89 0) 88,
 Gt (Om 90 6) 88,
 Gt (Oz 91 .add 90 1) 88,
 Gt (Oq 92 (.idx .str (.t 89) (.t 91))) 88,
 Gt (Ov 93 .i32 92) 88,
 Gt (Oc 94 true 105 93) 88,
 Oj 95 88 94, Om 78 95]
 (.cond (.t 78)
 (Sr [Om 96 0, Om 97 6, Oz 98 .add 97 1, Oq 99 (.slc .str (.t 96) (some (.t 98)) none none), Oq 100 (.call true 104 [(.t 99), (.f 105)]), Oq 101 (.bin .add (.k (.i .i64 1)) (.t 100)), Om 8 101]
 (.reg [Om 102 0, Om 103 6, Om 104 6, Om 105 8, Ob 106 .add 104 105, Oq 107 (.slc .str (.t 102) (some (.t 103)) (some (.t 106)) none), Of 108 0 9, O6 (.store 1 (.t 108) (.k (.i .i64 3))), Of 109 1 9, O5 1 109 107]))
 (Sr [Om 111 7, Oc 112 true 106 111, Om 110 112]
 (.cond (.t 110)
 (.reg [Om 113 0, Om 114 6, Om 115 6, Om 116 8, Ob 117 .add 115 116, Oq 118 (.slc .str (.t 113) (some (.t 114)) (some (.t 117)) none), Of 119 0 9, O6 (.store 1 (.t 119) (.k (.i .i64 4))), Of 120 1 9, O5 1 120 118])
 (Sr [Om 25 6, Oq 2 (.movnil 143), Om 3 25, On 4 190]
 .ret))))))))))))))
 (Sr [Om 121 5, Oa 122 3 9, Oq 123 (.bslice false 143 3 1 [(.i .i64 0), (.s []), (.i .i64 0)] [(0, (.t 122))]), Oy 124 143 3 121 123, Om 5 124]
 (.reg [Om 125 6, Om 126 8, Ob 127 .add 125 126, Om 6 127])))))))
def B75 : AC := (Sr [Oq 2 (.movnil 143), On 3 0, On 4 0]
 (Sr [Oq 5 (.movnil 143)]
 (.seq (Sr [On 6 0]
 (.blk 0 (.loop L75_1)))
 (Sr [Om 128 5, Om 2 128, On 3 0, On 4 0]
 .ret))))
def af75 : AFunc := { n := 129, depth := 8, kl := [(9, [9, 46, 47, 61, 62, 76, 77, 108, 109, 119, 120])], res := [.tmp 2, .tmp 3, .tmp 4], body := B75 }

def B76 : AC := (Sr [Oq 2 (.lalloc [(.i .i64 0), (.s []), (.i .i64 0)] [2])]
 (Sr [Om 3 0, Oq 4 (.call false 107 [(.t 3), (.k (.i .i64 0))]), O5 3 2 4]
 .ret))
def af76 : AFunc := { n := 5, depth := 3, kl := [(2, [2])], res := [.cell 2 true 3], body := B76 }

def B77 : AC := (Sr [On 2 0]
 (Sr [Oq 3 (.bslice false 9 1 5 [(.s [])] [(0, (.k (.s [107, 101, 121, 115]))), (1, (.k (.s [99, 111, 117, 110, 116]))), (2, (.k (.s [115, 117, 109]))), (3, (.k (.s [108, 101, 97, 115, 116]))), (4, (.k (.s [116, 111, 112])))]), Om 4 0, Oc2 5 true 108 3 4, Om 2 5]
 .ret))
def af77 : AFunc := { n := 6, depth := 3, kl := [], res := [.tmp 2], body := B77 }

def B78 : AC := (Sr [Oq 2 (.lalloc [(.i .i64 0), (.s []), (.i .i64 0)] [2])]
 (Sr [Om 4 0, Oc 5 false 76 4, Oq 3 (.lalloc [(.i .i64 0), (.s []), (.i .i64 0)] [3, 6]), O5 3 3 5]
 (.seq (Sr [Of 6 0 3, Ol 7 1 6, Oz 8 .neq 7 0]
 (.cond (.t 8)
 (.reg [Om 9 0, Oh 10 9, Of 11 1 10, Ol 12 1 11, Oz 13 .add 12 1, Oh 14 9, Of 15 1 14, O5 1 15 13])
 .skip))
 (Sr [Oa 16 3 3, O5 3 2 16]
 .ret))))
def af78 : AFunc := { n := 17, depth := 5, kl := [(2, [2]), (3, [3, 6])], res := [.cell 2 true 3], body := B78 }

def B79 : AC := (Sr [Ox 2 (.s []), Ox 3 (.b false)]
 (.seq (Sr [Om 4 0, Oh 5 4, Of 6 0 5, Ol 7 1 6, Oc 8 false 76 7, Og 9 0 1 8, Oz 10 .neq 9 1]
 (.cond (.t 10)
 (Sr [Ox 2 (.s []), Ox 3 (.b false)]
 .ret)
 .skip))
 (Sr [Om 11 0, Oh 12 11, Of 13 0 12, Ol 14 1 13, Oc 15 false 78 14, Og 16 1 1 15, Om 2 16, Ox 3 (.b true)]
 .ret)))
def af79 : AFunc := { n := 17, depth := 5, kl := [], res := [.tmp 2, .tmp 3], body := B79 }

def B80 : AC := (Sr [Ox 6 (.b false)]
 (Sr [Om 8 0, Oc 9 false 76 8, Oq 7 (.lalloc [(.i .i64 0), (.s []), (.i .i64 0)] [7, 10, 15]), O5 3 7 9]
 (.seq (Sr [Of 10 0 7, Ol 11 1 10, Om 12 1, Ob 13 .neq 11 12, Om 14 13, Gf (Of 15 1 7) 14,
 Gf (Ol 16 1 15) 14,
 Gf (Om 17 2) 14,
 Gf (Ob 18 .neq 16 17) 14,
 Oo 19 14 18, Om 20 19, Gf (Om 21 1) 20,
 Gf (Oz 22 .eql 21 0) 20,
 Oo 23 20 22]
 (.cond (.t 23)
 (Sr [Ox 6 (.b false)]
 .ret)
 .skip))
 (Sr [Om 24 0, Oc 25 false 78 24]
 (Sr [Ox 6 (.b true)]
 .ret)))))
def af80 : AFunc := { n := 26, depth := 5, kl := [(7, [7, 10, 15])], res := [.tmp 6], body := B80 }

def B81 : AC := (Sr [Oq 2 (.lalloc [(.i .i64 0), (.s []), (.s []), (.sl [] 0 .nil)] [2]), On 3 0, On 4 0]
 (.seq (Sr [Om 8 0, Oq 9 (.eq false .ptr (.t 8) (.k .nilp)), Om 10 9, Gf (Om 11 0) 10,
 Gf (Oh 12 11) 10,
 Gf (Of 13 3 12) 10,
 Gf (Ol 14 1 13) 10,
 Gf (Ou 15 14) 10,
 Oo 16 10 15]
 (.cond (.t 16)
 (Sr [Oq 17 (.build [(.i .i64 0), (.s []), (.s []), (.sl [] 0 .nil)] []), O5 4 2 17, On 3 0, On 4 6]
 .ret)
 .skip))
 (Sr [Om 18 0, Oc 19 false 76 18, Og 20 2 1 19, Om 5 20]
 (Sr [Om 22 0, Oq 23 (.call false 109 [(.t 22), (.k (.i .i64 1)), (.k (.i .i64 1))]), Om 21 23, Oe 24 21 0, Oe 25 21 1, Oq 6 (.lalloc [(.i .i64 0), (.s []), (.s []), (.sl [] 0 .nil)] [6]), O5 4 6 24, Om 7 25]
 (.seq (Sr [Om 26 7, Oz 27 .neq 26 0]
 (.cond (.t 27)
 (Sr [Oq 28 (.build [(.i .i64 0), (.s []), (.s []), (.sl [] 0 .nil)] []), Om 29 0, Oc 30 false 76 29, Og 31 2 1 30, Om 32 7, O5 4 2 28, Om 3 31, Om 4 32]
 .ret)
 .skip))
 (.seq (Sr [Oa 33 4 6, Oc 34 true 23 33, Om 7 34]
 (Sr [Om 35 7, Oz 36 .neq 35 0]
 (.cond (.t 36)
 (Sr [Oq 37 (.build [(.i .i64 0), (.s []), (.s []), (.sl [] 0 .nil)] []), Om 38 5, Om 39 7, O5 4 2 37, Om 3 38, Om 4 39]
 .ret)
 .skip)))
 (Sr [Oa 40 4 6, O5 4 2 40, On 3 0, On 4 0]
 .ret)))))))
def af81 : AFunc := { n := 41, depth := 6, kl := [(2, [2]), (6, [6])], res := [.cell 2 true 4, .tmp 3, .tmp 4], body := B81 }

def B82 : AC := (Sr [Ox 6 (.b false)]
 (.seq (Sr [Om 9 0, Oh 10 9, Of 11 0 10, Ol 12 1 11, Om 13 1, Oq 14 (.call false 80 [(.t 12), (.k (.i .i64 1)), (.t 13)]), Ou 15 14]
 (.cond (.t 15)
 (Sr [Ox 6 (.b true)]
 .ret)
 .skip))
 (Sr [Om 17 0, Oh 18 17, Of 19 0 18, Ol 20 1 19, Oc 21 false 76 20, Oc 22 true 110 21, Om 16 22, Oe 23 16 0, Oe 24 16 1, Om 7 23, Om 8 24]
 (.seq (Sr [Om 25 8, Ou 26 25, Om 27 26, Gf (Om 28 7) 27,
 Gf (Oz 29 .eql 28 0) 27,
 Oo 30 27 29]
 (.cond (.t 30)
 (Sr [Ox 6 (.b false)]
 .ret)
 .skip))
 (Sr [Om 31 0, Oh 32 31, Of 33 0 32, Ol 34 1 33, Oc 35 false 78 34]
 (Sr [Om 36 2, Om 37 7, Oh 38 36, O5 1 38 37]
 (Sr [Ox 6 (.b true)]
 .ret)))))))
def af82 : AFunc := { n := 39, depth := 6, kl := [], res := [.tmp 6], body := B82 }

def L83_1 : AC := (Sr [Ob 152 .lss 151 150]
 (.seq (.cond (.t 152)
 .skip
 (.exit 1))
 (.seq (.blk 2 (Sr [Oi 153 4 149 151, Oa 154 4 153, Oq 11 (.lalloc [(.i .i64 0), (.s []), (.s []), (.sl [] 0 .nil)] [11]), O5 4 11 154]
 (Sr [Oa 156 4 11, Om 157 1, Oz 158 .add 157 1, Om 159 2, Oc3 160 false 83 156 158 159, Om 155 160, Oe 161 155 0, Oe 162 155 1, Om 12 161, Om 13 162]
 (.seq (Sr [Om 163 13, Oz 164 .neq 163 0]
 (.cond (.t 164)
 (Sr [Om 165 13, Ox 6 .nili, Om 7 165]
 .ret)
 .skip))
 (Sr [Om 167 12, Oq 168 (.tas false [181, 183, 185, 186, 190, 192, 193] [9, 47] .nili true (.t 167)), Om 166 168, Oe 169 166 0, Oe 170 166 1, Om 14 169, Om 15 170]
 (Sr [Om 171 15]
 (.cond (.t 171)
 (.reg [Om 172 9, Om 173 14, Oq 174 (.bslice false 96 1 1 [.nili] [(0, (.t 173))]), Oy 175 96 1 172 174, Om 9 175])
 .skip)))))))
 (.reg [Oz 176 .add 151 1, Om 151 176]))))
def B83 : AC := (Sr [Oq 3 (.lbox (.t 0) [3, 29, 34, 41, 46, 53, 60, 65, 70, 75, 82, 88, 93, 95, 100, 107, 112, 119, 123, 128, 133, 138, 142, 148, 177]), Ox 6 .nili, On 7 0]
 (Sr [Om 16 2, Oh 17 16, Ol 18 1 17, Oz 19 .add 18 1, Oh 20 16, O5 1 20 19]
 (.seq (Sr [Om 21 1, Oz 22 .gtr 21 6, Om 23 22, Gf (Om 24 2) 23,
 Gf (Oh 25 24) 23,
 Gf (Ol 26 1 25) 23,
 Gf (Oz 27 .gtr 26 24) 23,
 Oo 28 23 27]
 (.cond (.t 28)
 (Sr [Ox 6 .nili, On 7 51]
 .ret)
 .skip))
 (Sr [Of 29 3 3, Ol 30 1 29, Ow 31 30, Oz 32 .eql 31 0, Om 8 32]
 (.seq (.blk 0 (Sr [Of 34 0 3, Ol 35 1 34, Oz 36 .eql 35 0, Om 37 36, Gt (Om 38 8) 37,
 Oj 39 37 38, Om 40 39, Gt (Of 41 1 3) 40,
 Gt (Ol 42 1 41) 40,
 Gt (Oq 43 (.bin .eql (.t 42) (.k (.s [])))) 40,
 Oj 44 40 43, Om 45 44, Gt (Of 46 2 3) 45,
 Gt (Ol 47 1 46) 45,
 Gt (Oq 48 (.bin .eql (.t 47) (.k (.s [])))) 45,
 Oj 49 45 48, Om 33 49]
 (.cond (.t 33)
 (Sr [Oq 50 (.build [] []), Oq 51 (.mkif 181 (.t 50)), Om 6 51, On 7 0]
 .ret)
 (Sr [Of 53 0 3, Ol 54 1 53, Oz 55 .eql 54 1, Om 56 55, Gt (Om 57 8) 56,
 Oj 58 56 57, Om 59 58, Gt (Of 60 1 3) 59,
 Gt (Ol 61 1 60) 59,
 Gt (Oq 62 (.bin .eql (.t 61) (.k (.s [])))) 59,
 Oj 63 59 62, Om 64 63, Gt (Of 65 2 3) 64,
 Gt (Ol 66 1 65) 64,
 Gt (Oc 67 true 111 66) 64,
 Gt (Oz 68 .eql 67 0) 64,
 Oj 69 64 68, Om 52 69]
 (.cond (.t 52)
 (Sr [Of 70 2 3, Ol 71 1 70, Oq 72 (.build [(.s [])] [(0, 1, (.t 71))]), Oq 73 (.mkif 183 (.t 72)), Om 6 73, On 7 0]
 .ret)
 (Sr [Of 75 0 3, Ol 76 1 75, Oz 77 .eql 76 2, Om 78 77, Gt (Om 79 8) 78,
 Oj 80 78 79, Om 81 80, Gt (Of 82 1 3) 81,
 Gt (Ol 83 1 82) 81,
 Gt (Oc 84 true 25 83) 81,
 Gt (Oz 85 .eql 84 0) 81,
 Oj 86 81 85, Om 87 86, Gt (Of 88 2 3) 87,
 Gt (Ol 89 1 88) 87,
 Gt (Oc 90 true 112 89) 87,
 Gt (Oz 91 .eql 90 0) 87,
 Oj 92 87 91, Om 74 92]
 (.cond (.t 74)
 (Sr [Of 93 1 3, Ol 94 1 93, Of 95 2 3, Ol 96 1 95, Oq 97 (.build [(.s []), (.s [])] [(0, 1, (.t 94)), (1, 1, (.t 96))]), Oq 98 (.mkif 185 (.t 97)), Om 6 98, On 7 0]
 .ret)
 (Sr [Of 100 0 3, Ol 101 1 100, Oz 102 .eql 101 3, Om 103 102, Gt (Om 104 8) 103,
 Oj 105 103 104, Om 106 105, Gt (Of 107 1 3) 106,
 Gt (Ol 108 1 107) 106,
 Gt (Oq 109 (.bin .eql (.t 108) (.k (.s [])))) 106,
 Oj 110 106 109, Om 111 110, Gt (Of 112 2 3) 111,
 Gt (Ol 113 1 112) 111,
 Gt (Oq 114 (.bin .eql (.t 113) (.k (.s [])))) 111,
 Oj 115 111 114, Om 99 115]
 (.cond (.t 99)
 (Sr [Oq 116 (.build [] []), Oq 117 (.mkif 186 (.t 116)), Om 6 117, On 7 0]
 .ret)
 (Sr [Of 119 1 3, Ol 120 1 119, Oq 121 (.bin .neq (.t 120) (.k (.s []))), Om 122 121, Gf (Of 123 2 3) 122,
 Gf (Ol 124 1 123) 122,
 Gf (Oq 125 (.bin .neq (.t 124) (.k (.s [])))) 122,
 Oo 126 122 125, Om 127 126, Gf (Of 128 0 3) 127,
 Gf (Ol 129 1 128) 127,
 Gf (Oz 130 .lss 129 4) 127,
 Oo 131 127 130, Om 132 131, Gf (Of 133 0 3) 132,
 Gf (Ol 134 1 133) 132,
 Gf (Oz 135 .gtr 134 6) 132,
 Oo 136 132 135, Om 137 136, Gf (Of 138 0 3) 137,
 Gf (Ol 139 1 138) 137,
 Gf (Oz 140 .eql 139 4) 137,
 Gf (Om 141 140) 137,
 Gt (Of 142 3 3) 141,
 Gt (Ol 143 1 142) 141,
 Gt (Ow 144 143) 141,
 Gt (Oz 145 .neq 144 1) 141,
 Gf (Oj 146 141 145) 137,
 Oo 147 137 146, Om 118 147]
 (.cond (.t 118)
 (Sr [Ox 6 .nili, On 7 50]
 .ret)
 .skip)))))))))))
 (Sr [Oq 9 (.movnil 96)]
 (.seq (Sr [Of 148 3 3, Ol 149 1 148, Ow 150 149, On 151 0]
 (.blk 1 (.loop L83_1)))
 (.seq (Sr [Of 177 0 3, Ol 178 1 177]
 (.blk 3 (Sr [Oz 180 .eql 178 4, Om 179 180]
 (.cond (.t 179)
 (Sr [Om 181 9, Oq 182 (.iaddr (.slice 1) (.t 181) (.k (.i .i64 0))), Ol 183 1 182, Oq 184 (.build [.nili] [(0, 1, (.t 183))]), Oq 185 (.mkif 190 (.t 184)), Om 6 185, On 7 0]
 .ret)
 (Sr [Oz 187 .eql 178 5, Om 186 187]
 (.cond (.t 186)
 (Sr [Om 188 9, Oq 189 (.build [(.sl [] 0 .nil)] [(0, 1, (.t 188))]), Oq 190 (.mkif 192 (.t 189)), Om 6 190, On 7 0]
 .ret)
 .skip))))))
 (Sr [Om 191 9, Oq 192 (.build [(.sl [] 0 .nil)] [(0, 1, (.t 191))]), Oq 193 (.mkif 193 (.t 192)), Om 6 193, On 7 0]
 .ret)))))))))
def af83 : AFunc := { n := 194, depth := 8, kl := [(3, [3, 29, 34, 41, 46, 53, 60, 65, 70, 75, 82, 88, 93, 95, 100, 107, 112, 119, 123, 128, 133, 138, 142, 148, 177]), (11, [11])], res := [.tmp 6, .tmp 7], body := B83 }

def B84 : AC := (Sr [Oq 1 (.lbox (.t 0) [1, 5, 9, 13, 17, 30, 35, 44, 50, 59]), Ox 2 (.b false)]
 (Sr [Of 5 1 1, Ol 6 1 5, Oq 7 (.bin .eql (.t 6) (.k (.s []))), Om 8 7, Gt (Of 9 2 1) 8,
 Gt (Ol 10 1 9) 8,
 Gt (Oq 11 (.bin .eql (.t 10) (.k (.s [])))) 8,
 Oj 12 8 11, Om 3 12]
 (Sr [Of 13 3 1, Ol 14 1 13, Ow 15 14, Oz 16 .eql 15 0, Om 4 16]
 (.seq (Sr [Of 17 0 1, Ol 18 1 17]
 (.blk 0 (.seq (Sr [Oz 20 .eql 18 0, Om 19 20]
 (.cond (.t 19)
 .skip
 (.reg [Oz 21 .eql 18 3, Om 19 21])))
 (.cond (.t 19)
 (Sr [Om 22 3, Om 23 22, Gt (Om 24 4) 23,
 Oj 25 23 24, Om 2 25]
 .ret)
 (Sr [Oz 27 .eql 18 1, Om 26 27]
 (.cond (.t 26)
 (Sr [Om 28 4, Om 29 28, Gt (Of 30 1 1) 29,
 Gt (Ol 31 1 30) 29,
 Gt (Oq 32 (.bin .eql (.t 31) (.k (.s [])))) 29,
 Oj 33 29 32, Om 34 33, Gt (Of 35 2 1) 34,
 Gt (Ol 36 1 35) 34,
 Gt (Oc 37 true 113 36) 34,
 Gt (Oz 38 .eql 37 0) 34,
 Oj 39 34 38, Om 2 39]
 .ret)
 (Sr [Oz 41 .eql 18 2, Om 40 41]
 (.cond (.t 40)
 (Sr [Om 42 4, Om 43 42, Gt (Of 44 1 1) 43,
 Gt (Ol 45 1 44) 43,
 Gt (Oc 46 true 50 45) 43,
 Gt (Oz 47 .eql 46 0) 43,
 Oj 48 43 47, Om 49 48, Gt (Of 50 2 1) 49,
 Gt (Ol 51 1 50) 49,
 Gt (Oc 52 true 114 51) 49,
 Gt (Oz 53 .eql 52 0) 49,
 Oj 54 49 53, Om 2 54]
 .ret)
 (Sr [Oz 56 .eql 18 4, Om 55 56]
 (.cond (.t 55)
 (Sr [Om 57 3, Om 58 57, Gt (Of 59 3 1) 58,
 Gt (Ol 60 1 59) 58,
 Gt (Ow 61 60) 58,
 Gt (Oz 62 .eql 61 1) 58,
 Oj 63 58 62, Om 2 63]
 .ret)
 (.seq (Sr [Oz 65 .eql 18 5, Om 64 65]
 (.cond (.t 64)
 .skip
 (.reg [Oz 66 .eql 18 6, Om 64 66])))
 (.cond (.t 64)
 (Sr [Om 67 3, Om 2 67]
 .ret)
 .skip))))))))))))
 (Sr [Ox 2 (.b false)]
 .ret)))))
def af84 : AFunc := { n := 68, depth := 7, kl := [(1, [1, 5, 9, 13, 17, 30, 35, 44, 50, 59])], res := [.tmp 2], body := B84 }

def B86 : AC := (Sr [Oq 2 (.lbox (.t 0) [2, 6]), Ox 4 (.s []), Ox 5 (.b false)]
 (Sr [Of 6 1 2, Ol 7 1 6, Om 8 1, Oc2 9 true 115 7 8, Oe 10 9 0, Oe 11 9 1, Om 4 10, Om 5 11]
 .ret))
def af86 : AFunc := { n := 12, depth := 4, kl := [(2, [2, 6])], res := [.tmp 4, .tmp 5], body := B86 }

def B87 : AC := (Sr [Om 3 0, Ow 4 3, Om 2 4]
 (.reg [Om 5 0, Om 6 2, Om 7 2, Ov 8 .u64 7, Oc 9 true 117 8, Oq 10 (.call false 116 [(.t 5), (.k (.i .i64 0)), (.t 6), (.t 9)])]))
def af87 : AFunc := { n := 11, depth := 4, kl := [], res := [], body := B87 }

def L88_1 : AC := (Sr [Ob 26 .lss 25 24]
 (.seq (.cond (.t 26)
 .skip
 (.exit 0))
 (.seq (.blk 1 (Sr [Oi 27 2 23 25, Oa 28 2 27, Oq 11 (.lalloc [(.s []), (.s [])] [11]), O5 2 11 28]
 (Sr [Oa 30 2 11, Of 31 1 2, Ol 32 1 31, Oc2 33 true 90 30 32, Om 29 33, Oe 34 29 0, Oe 35 29 1, Om 12 34, Om 13 35]
 (.seq (Sr [Om 36 13, Ou 37 36]
 (.cond (.t 37)
 (.exit 1)
 .skip))
 (Sr [Oa 38 2 7, Om 39 12, Oc2 40 true 118 38 39, O5 2 7 40]
 (.seq (Sr [Om 41 9, Ou 42 41, Om 43 42, Gf (Of 44 0 2) 43,
 Gf (Ol 45 1 44) 43,
 Gf (Oz 46 .eql 45 3) 43,
 Gf (Om 47 46) 43,
 Gt (Om 48 12) 47,
 Gt (Of 49 2 8) 47,
 Gt (Ol 50 1 49) 47,
 Gt (Ob 51 .lss 48 50) 47,
 Gf (Oj 52 47 51) 43,
 Oo 53 43 52, Om 54 53, Gf (Of 55 0 2) 54,
 Gf (Ol 56 1 55) 54,
 Gf (Oz 57 .eql 56 4) 54,
 Gf (Om 58 57) 54,
 Gt (Om 59 12) 58,
 Gt (Of 60 2 8) 58,
 Gt (Ol 61 1 60) 58,
 Gt (Ob 62 .gtr 59 61) 58,
 Gf (Oj 63 58 62) 54,
 Oo 64 54 63]
 (.cond (.t 64)
 (.reg [Om 65 12, Of 66 2 8, O5 1 66 65])
 .skip))
 (.reg [Ox 9 (.b true)])))))))
 (.reg [Oz 67 .add 25 1, Om 25 67]))))
def B88 : AC := (Sr [Oq 2 (.lbox (.t 0) [2, 16, 31, 44, 55, 68]), Oq 4 (.lalloc [(.s []), (.sl [] 0 .nil), (.i .i64 0)] [4]), Ox 5 (.b false), On 6 0]
 (.seq (Sr [Of 16 0 2, Ol 17 1 16, Oz 18 .eql 17 1]
 (.cond (.t 18)
 (Sr [Om 19 1, Ow 20 19, Oq 21 (.build [(.s []), (.sl [] 0 .nil), (.i .i64 0)] [(2, 1, (.t 20))]), O5 3 4 21, Ox 5 (.b true), On 6 0]
 .ret)
 .skip))
 (Sr [Oq 7 (.lalloc [(.i .u64 0), (.i .i64 0)] [7])]
 (Sr [Oq 22 (.build [(.s []), (.sl [] 0 .nil), (.i .i64 0)] []), Oq 8 (.lalloc [(.s []), (.sl [] 0 .nil), (.i .i64 0)] [8, 49, 60, 66]), O5 3 8 22, Ox 9 (.b false)]
 (.seq (Sr [Om 23 1, Ow 24 23, On 25 0]
 (.blk 0 (.loop L88_1)))
 (.seq (Sr [Of 68 0 2, Ol 69 1 68, Oz 70 .eql 69 2]
 (.cond (.t 70)
 (Sr [Oa 72 2 7, Oc 73 true 119 72, Om 71 73, Oe 74 71 0, Oe 75 71 1, Om 14 74, Om 15 75]
 (.seq (Sr [Om 76 15, Ou 77 76]
 (.cond (.t 77)
 (Sr [Oq 78 (.build [(.s []), (.sl [] 0 .nil), (.i .i64 0)] []), O5 3 4 78, Ox 5 (.b false), On 6 72]
 .ret)
 .skip))
 (Sr [Om 79 14, Oq 80 (.build [(.s []), (.sl [] 0 .nil), (.i .i64 0)] [(2, 1, (.t 79))]), O5 3 4 80, Ox 5 (.b true), On 6 0]
 .ret)))
 .skip))
 (Sr [Oa 81 3 8, Om 82 9, O5 3 4 81, Om 5 82, On 6 0]
 .ret)))))))
def af88 : AFunc := { n := 83, depth := 7, kl := [(2, [2, 16, 31, 44, 55, 68]), (4, [4]), (7, [7]), (8, [8, 49, 60, 66]), (11, [11])], res := [.cell 4 true 3, .tmp 5, .tmp 6], body := B88 }

def B90 : AC := (Sr [Oq 2 (.lbox (.t 0) [2]), On 4 0, Ox 5 (.b false)]
 (Sr [Oa 11 2 2, Om 12 1, Oc2 13 true 86 11 12, Om 10 13, Oe 14 10 0, Oe 15 10 1, Om 6 14, Om 7 15]
 (Sr [Om 17 6, Oc 18 true 122 17, Om 16 18, Oe 19 16 0, Oe 20 16 1, Om 8 19, Om 9 20]
 (Sr [Om 21 8, Om 22 7, Om 23 22, Gt (Om 24 9) 23,
 Gt (Oz 25 .eql 24 0) 23,
 Oj 26 23 25, Om 4 21, Om 5 26]
 .ret))))
def af90 : AFunc := { n := 27, depth := 5, kl := [(2, [2])], res := [.tmp 4, .tmp 5], body := B90 }

def L94_1 : AC := (Sr [Oq 9 (.next 8), Oe 10 9 0]
 (.seq (.cond (.t 10)
 .skip
 (.exit 0))
 (.blk 1 (Sr [Oe 11 9 2, Om 5 11]
 (.blk 2 (Sr [Om 15 5, Oq 16 (.bin .eql (.t 15) (.k (.i .i32 34))), Om 17 16, Gf (Om 18 5) 17,
 Gf (Oq 19 (.bin .eql (.t 18) (.k (.i .i32 92)))) 17,
 Oo 20 17 19, Om 14 20]
 (.cond (.t 14)
 (Sr [Oq 21 (.call false 124 [(.t 3), (.k (.i .u8 92))])]
 (.reg [Om 22 5, Oc2 23 false 125 3 22]))
 (Sr [Om 25 5, Oq 26 (.bin .lss (.t 25) (.k (.i .i32 32))), Om 27 26, Gf (Om 28 5) 27,
 Gf (Oq 29 (.bin .eql (.t 28) (.k (.i .i32 127)))) 27,
 Oo 30 27 29, Om 31 30, Gf (Om 32 5) 31,
 Gf (Oq 33 (.bin .eql (.t 32) (.k (.i .i32 65533)))) 31,
 Oo 34 31 33, Om 24 34]
 (.cond (.t 24)
 (.reg [Om 35 5, Ov 36 .i64 35, Oq 37 (.call true 126 [(.t 36), (.k (.i .i64 16))]), Oq 38 (.bin .add (.k (.s [92, 117, 123])) (.t 37)), Oq 39 (.bin .add (.t 38) (.k (.s [125]))), Oc2 40 false 72 3 39])
 (.reg [Om 12 5, Oc2 13 false 125 3 12]))))))))))
def B94 : AC := (Sr [Ox 2 (.s [])]
 (Sr [Oq 3 (.alloc 130 [.nilp, (.sl [] 0 .nil)])]
 (Sr [Oq 6 (.call false 124 [(.t 3), (.k (.i .u8 34))])]
 (.seq (Sr [Om 7 0, Oq 8 (.range (.t 7))]
 (.blk 0 (.loop L94_1)))
 (Sr [Oq 41 (.call false 124 [(.t 3), (.k (.i .u8 34))])]
 (Sr [Oc 42 false 73 3, Om 2 42]
 .ret))))))
def af94 : AFunc := { n := 43, depth := 6, kl := [], res := [.tmp 2], body := B94 }

def B95 : AC := (Sr [Oq 2 (.lbox (.t 0) [2]), Ox 4 (.s [])]
 (.seq (Sr [Oa 5 4 2, Oc 6 true 127 5, Om 7 1, Ob 8 .lss 6 7]
 (.cond (.t 8)
 (Sr [Oa 9 4 2, Oc 10 true 69 9, Oq 11 (.bin .add (.k (.s [40])) (.t 10)), Oq 12 (.bin .add (.t 11) (.k (.s [41]))), Om 4 12]
 .ret)
 .skip))
 (Sr [Oa 13 4 2, Oc 14 true 69 13, Om 4 14]
 .ret)))
def af95 : AFunc := { n := 15, depth := 4, kl := [(2, [2])], res := [.tmp 4], body := B95 }

def B96 : AC := (Sr [Ox 4 (.s [])]
 (.seq (Sr [Om 10 1, Oz 11 .eql 10 10]
 (.cond (.t 11)
 (.seq (Sr [Om 12 0, Oq 13 (.bin .leq (.k (.i .i64 0)) (.t 12)), Om 14 13, Gt (Om 15 0) 14,
 Gt (Oz 16 .lss 15 100) 14,
 Oj 17 14 16]
 (.cond (.t 17)
 (Sr [Om 18 0, Oc 19 true 128 18, Om 4 19]
 .ret)
 .skip))
 (Sr [Oq 5 (.alloc 207 [(.i .u8 0), (.i .u8 0), (.i .u8 0), (.i .u8 0), (.i .u8 0), (.i .u8 0), (.i .u8 0), (.i .u8 0), (.i .u8 0), (.i .u8 0), (.i .u8 0), (.i .u8 0), (.i .u8 0), (.i .u8 0), (.i .u8 0), (.i .u8 0), (.i .u8 0), (.i .u8 0), (.i .u8 0), (.i .u8 0), (.i .u8 0), (.i .u8 0), (.i .u8 0), (.i .u8 0)])]
 (Sr [Om 20 0, Ov 21 .u64 20, Om 6 21]
 (.seq (Sr [Om 22 0, Oz 23 .lss 22 0]
 (.cond (.t 23)
 (.reg [Om 24 6, Oq 25 (.un .neg (.t 24)), Om 6 25])
 .skip))
 (Sr [Om 26 6, Oc 27 true 129 26, Om 7 27]
 (Sr [Om 28 7, Oq 29 (.bin .add (.k (.i .i64 1)) (.t 28)), Oq 30 (.slc (.arr 24 1) (.t 5) (some (.k (.i .i64 1))) (some (.t 29)) none), Om 31 6, Oc2 32 false 130 30 31]
 (.seq (Sr [Om 33 0, Oz 34 .lss 33 0]
 (.cond (.t 34)
 (Sr [Oq 35 (.iaddr (.arr 24 1) (.t 5) (.k (.i .i64 0))), O6 (.store 1 (.t 35) (.k (.i .u8 45)))]
 (Sr [Om 36 7, Oq 37 (.bin .add (.k (.i .i64 1)) (.t 36)), Oq 38 (.slc (.arr 24 1) (.t 5) none (some (.t 37)) none), Oq 39 (.conv .toStr (.t 38)), Om 4 39]
 .ret))
 .skip))
 (Sr [Om 40 7, Oq 41 (.bin .add (.k (.i .i64 1)) (.t 40)), Oq 42 (.slc (.arr 24 1) (.t 5) (some (.k (.i .i64 1))) (some (.t 41)) none), Oq 43 (.conv .toStr (.t 42)), Om 4 43]
 .ret))))))))
 .skip))
 (Sr [Om 45 0, Ov 46 .u64 45, Om 47 1, Om 48 0, Oz 49 .lss 48 0, Oq 50 (.call false 131 [(.k (.sl [] 0 .nil)), (.t 46), (.t 47), (.t 49), (.k (.b false))]), Om 44 50, Oe 51 44 0, Oe 52 44 1, Om 8 51, Om 9 52]
 (Sr [Om 53 9, Om 4 53]
 .ret))))
def af96 : AFunc := { n := 54, depth := 6, kl := [], res := [.tmp 4], body := B96 }

def B97 : AC := (Sr [Om 2 0, Oh 3 2, Of 4 0 3, Ol 5 1 4, Oq 6 (.eq false .ptr (.t 5) (.k .nilp))]
 (.cond (.t 6)
 (.reg [Om 7 0, Om 8 0, Oq 9 (.conv .uns (.t 8)), Oq 10 (.noesc 132 (.t 9)), Oq 11 (.conv (.toPtr 130 2) (.t 10)), Oh 12 7, Of 13 0 12, O5 1 13 11])
 (Sr [Om 14 0, Oh 15 14, Of 16 0 15, Ol 17 1 16, Om 18 0, Oq 19 (.eq true .ptr (.t 17) (.t 18))]
 (.cond (.t 19)
   .refuse
 .skip))))
def af97 : AFunc := { n := 20, depth := 5, kl := [], res := [], body := B97 }

def L99_1 : AC := (Sr [Oq 8 (.next 7), Oe 9 8 0]
 (.seq (.cond (.t 9)
 .skip
 (.exit 0))
 (.blk 1 (Sr [Oe 10 8 2, Om 5 10]
 (.blk 2 (Sr [Om 16 5, Oq 17 (.bin .eql (.t 16) (.k (.i .i32 34))), Om 15 17]
 (.cond (.t 15)
 (.reg [Om 18 3, Oq 19 (.bin .add (.t 18) (.k (.s [92, 34]))), Om 3 19])
 (Sr [Om 21 5, Oq 22 (.bin .eql (.t 21) (.k (.i .i32 92))), Om 20 22]
 (.cond (.t 20)
 (.reg [Om 23 3, Oq 24 (.bin .add (.t 23) (.k (.s [92, 92]))), Om 3 24])
 (Sr [Om 26 5, Oq 27 (.bin .lss (.t 26) (.k (.i .i32 32))), Om 28 27, Gf (Om 29 5) 28,
 Gf (Oq 30 (.bin .eql (.t 29) (.k (.i .i32 127)))) 28,
 Oo 31 28 30, Om 32 31, Gf (Om 33 5) 32,
 Gf (Oq 34 (.bin .eql (.t 33) (.k (.i .i32 65533)))) 32,
 Oo 35 32 34, Om 25 35]
 (.cond (.t 25)
 (.reg [Om 36 3, Oq 37 (.bin .add (.t 36) (.k (.s [92, 117, 123]))), Om 38 5, Oc 39 true 134 38, Ob 40 .add 37 39, Oq 41 (.bin .add (.t 40) (.k (.s [125]))), Om 3 41])
 (.reg [Om 11 3, Om 12 5, Oq 13 (.conv .rune (.t 12)), Ob 14 .add 11 13, Om 3 14]))))))))))))
def B99 : AC := (Sr [Ox 2 (.s [])]
 (Sr [Ox 3 (.s [34])]
 (.seq (Sr [Om 6 0, Oq 7 (.range (.t 6))]
 (.blk 0 (.loop L99_1)))
 (Sr [Om 42 3, Oq 43 (.bin .add (.t 42) (.k (.s [34]))), Om 2 43]
 .ret))))
def af99 : AFunc := { n := 44, depth := 6, kl := [], res := [.tmp 2], body := B99 }

def B100 : AC := (Sr [Oq 1 (.lbox (.t 0) [1, 3, 7]), Ox 2 (.b false)]
 (Sr [Of 3 0 1, Ol 4 1 3, Oz 5 .gtr 4 4, Om 6 5, Gt (Of 7 3 1) 6,
 Gt (Ol 8 1 7) 6,
 Gt (Ow 9 8) 6,
 Gt (Oz 10 .gtr 9 1) 6,
 Oj 11 6 10, Om 2 11]
 .ret))
def af100 : AFunc := { n := 12, depth := 4, kl := [(1, [1, 3, 7])], res := [.tmp 2], body := B100 }

def B101 : AC := (Sr [Ox 2 (.i .i32 0), On 3 0]
 (.seq (Sr [Om 4 0, Oq 5 (.bin .neq (.t 4) (.k (.s []))), Om 6 5, Gt (Om 7 0) 6,
 Gt (Oq 8 (.idx .str (.t 7) (.k (.i .i64 0)))) 6,
 Gt (Oq 9 (.bin .lss (.t 8) (.k (.i .u8 128)))) 6,
 Oj 10 6 9]
 (.cond (.t 10)
 (Sr [Om 11 0, Oq 12 (.idx .str (.t 11) (.k (.i .i64 0))), Ov 13 .i32 12, Om 2 13, On 3 1]
 .ret)
 (.reg [Om 15 0, Oc 16 true 135 15, Om 14 16, Oe 17 14 0, Oe 18 14 1, Om 2 17, Om 3 18])))
 .ret))
def af101 : AFunc := { n := 19, depth := 5, kl := [], res := [.tmp 2, .tmp 3], body := B101 }

def L102_1 : AC := (.seq (Sr [Om 10 5, Om 11 0, Owt 12 11, Ob 13 .lss 10 12]
 (.cond (.t 13)
 .skip
 (.exit 0)))
 (.blk 1 (Sr [Om 15 0, Om 16 5, Oq 17 (.slc .str (.t 15) (some (.t 16)) none none), Oc 18 true 101 17, Om 14 18, Oe 19 14 0, Oe 20 14 1, Om 6 19, Om 7 20]
 (.seq (.blk 2 (Sr [Om 22 6, Oq 23 (.bin .eql (.t 22) (.k (.i .i32 34))), Om 21 23]
 (.cond (.t 21)
 (Sr [Oc 24 false 73 4, Om 25 5, Oz 26 .add 25 1, Om 2 24, Om 3 26]
 .ret)
 (Sr [Om 28 6, Oq 29 (.bin .eql (.t 28) (.k (.i .i32 65533))), Om 30 29, Gt (Om 31 7) 30,
 Gt (Oz 32 .eql 31 1) 30,
 Oj 33 30 32, Om 27 33]
 (.cond (.t 27)
 (Sr [Ox 2 (.s []), On 3 0]
 .ret)
 (Sr [Om 35 6, Oq 36 (.bin .neq (.t 35) (.k (.i .i32 92))), Om 34 36]
 (.cond (.t 34)
 (Sr [Om 37 6, Oc2 38 false 125 4 37]
 (Sr [Om 39 5, Om 40 7, Ob 41 .add 39 40, Om 5 41]
 (.exit 1)))
 (Sr [Om 43 5, Oz 44 .add 43 1, Om 45 0, Owt 46 45, Ob 47 .geq 44 46, Om 42 47]
 (.cond (.t 42)
 (Sr [Ox 2 (.s []), On 3 0]
 .ret)
 .skip)))))))))
 (Sr [Om 48 0, Om 49 5, Oz 50 .add 49 1, Oq 51 (.idx .str (.t 48) (.t 50))]
 (.blk 3 (.seq (Sr [Oq 53 (.bin .eql (.t 51) (.k (.i .u8 34))), Om 52 53]
 (.cond (.t 52)
 .skip
 (.reg [Oq 54 (.bin .eql (.t 51) (.k (.i .u8 92))), Om 52 54])))
 (.cond (.t 52)
 (Sr [Om 55 0, Om 56 5, Oz 57 .add 56 1, Oq 58 (.idx .str (.t 55) (.t 57)), Oc2 59 false 124 4 58]
 (.reg [Om 60 5, Oz 61 .add 60 2, Om 5 61]))
 (Sr [Oq 63 (.bin .eql (.t 51) (.k (.i .u8 117))), Om 62 63]
 (.cond (.t 62)
 (Sr [Om 65 0, Om 66 5, Oz 67 .add 66 2, Oq 68 (.slc .str (.t 65) (some (.t 67)) none none), Oc 69 true 136 68, Om 64 69, Oe 70 64 0, Oe 71 64 1, Om 8 70, Om 9 71]
 (.seq (Sr [Om 72 9, Oz 73 .eql 72 0]
 (.cond (.t 73)
 (Sr [Ox 2 (.s []), On 3 0]
 .ret)
 .skip))
 (Sr [Om 74 8, Oc2 75 false 125 4 74]
 (.reg [Om 76 5, Om 77 9, Oq 78 (.bin .add (.k (.i .i64 2)) (.t 77)), Ob 79 .add 76 78, Om 5 79]))))
 (Sr [Ox 2 (.s []), On 3 0]
 .ret)))))))))))
def B102 : AC := (Sr [Ox 2 (.s []), On 3 0]
 (Sr [Oq 4 (.alloc 130 [.nilp, (.sl [] 0 .nil)])]
 (.seq (Sr [On 5 1]
 (.blk 0 (.loop L102_1)))
 (Sr [Ox 2 (.s []), On 3 0]
 .ret))))
def af102 : AFunc := { n := 80, depth := 7, kl := [], res := [.tmp 2, .tmp 3], body := B102 }

def B103 : AC := (Sr [Ox 2 (.b false)]
 (Sr [Om 3 0, Oq 4 (.bin .geq (.t 3) (.k (.i .i32 97))), Om 5 4, Gt (Om 6 0) 5,
 Gt (Oq 7 (.bin .leq (.t 6) (.k (.i .i32 122)))) 5,
 Oj 8 5 7, Om 2 8]
 .ret))
def af103 : AFunc := { n := 9, depth := 4, kl := [], res := [.tmp 2], body := B103 }

def L104_1 : AC := (Sr [Oq 9 (.next 8), Oe 10 9 0]
 (.seq (.cond (.t 10)
 .skip
 (.exit 0))
 (.blk 1 (Sr [Oe 11 9 1, Oe 12 9 2, Om 5 11, Om 6 12]
 (Sr [Om 13 1, Om 14 6, Oq 15 (.callv true (.t 13) [(.t 14)]), Ou 16 15]
 (.cond (.t 16)
 (Sr [Om 17 5, Om 4 17]
 .ret)
 .skip))))))
def B104 : AC := (Sr [On 4 0]
 (.seq (Sr [Om 7 0, Oq 8 (.range (.t 7))]
 (.blk 0 (.loop L104_1)))
 (Sr [Om 18 0, Owt 19 18, Om 4 19]
 .ret)))
def af104 : AFunc := { n := 20, depth := 5, kl := [], res := [.tmp 4], body := B104 }

def B105 : AC := (Sr [Ox 2 (.b false)]
 (Sr [Om 3 0, Oq 4 (.bin .geq (.t 3) (.k (.i .i32 48))), Om 5 4, Gt (Om 6 0) 5,
 Gt (Oq 7 (.bin .leq (.t 6) (.k (.i .i32 57)))) 5,
 Oj 8 5 7, Om 2 8]
 .ret))
def af105 : AFunc := { n := 9, depth := 4, kl := [], res := [.tmp 2], body := B105 }

def B106 : AC := (Sr [Ox 2 (.b false)]
 (.seq (Sr [Om 3 0]
 (.blk 0 (.seq (Sr [Oq 5 (.bin .eql (.t 3) (.k (.i .i32 40))), Om 4 5]
 (.cond (.t 4)
 .skip
 (Sr [Oq 6 (.bin .eql (.t 3) (.k (.i .i32 41))), Om 4 6]
 (.cond (.t 4)
 .skip
 (Sr [Oq 7 (.bin .eql (.t 3) (.k (.i .i32 61))), Om 4 7]
 (.cond (.t 4)
 .skip
 (Sr [Oq 8 (.bin .eql (.t 3) (.k (.i .i32 94))), Om 4 8]
 (.cond (.t 4)
 .skip
 (Sr [Oq 9 (.bin .eql (.t 3) (.k (.i .i32 60))), Om 4 9]
 (.cond (.t 4)
 .skip
 (Sr [Oq 10 (.bin .eql (.t 3) (.k (.i .i32 62))), Om 4 10]
 (.cond (.t 4)
 .skip
 (.reg [Oq 11 (.bin .eql (.t 3) (.k (.i .i32 44))), Om 4 11])))))))))))))
 (.cond (.t 4)
 (Sr [Ox 2 (.b true)]
 .ret)
 .skip))))
 (Sr [Ox 2 (.b false)]
 .ret)))
def af106 : AFunc := { n := 12, depth := 4, kl := [], res := [.tmp 2], body := B106 }

def B107 : AC := (Sr [Oq 4 (.lalloc [(.i .i64 0), (.s []), (.i .i64 0)] [4])]
 (.seq (Sr [Om 5 0, Oq 6 (.eq false .ptr (.t 5) (.k .nilp)), Om 7 6, Gf (Om 8 1) 7,
 Gf (Om 9 0) 7,
 Gf (Oh 10 9) 7,
 Gf (Of 11 0 10) 7,
 Gf (Ol 12 1 11) 7,
 Gf (Ow 13 12) 7,
 Gf (Om 14 0) 7,
 Gf (Oh 15 14) 7,
 Gf (Of 16 1 15) 7,
 Gf (Ol 17 1 16) 7,
 Gf (Ob 18 .sub 13 17) 7,
 Gf (Oz 19 .sub 18 1) 7,
 Gf (Ob 20 .gtr 8 19) 7,
 Oo 21 7 20]
 (.cond (.t 21)
 (.seq (Sr [Om 22 0, Oq 23 (.eq false .ptr (.t 22) (.k .nilp))]
 (.cond (.t 23)
 (Sr [Oq 24 (.build [(.i .i64 0), (.s []), (.i .i64 0)] []), O5 3 4 24]
 .ret)
 .skip))
 (Sr [Om 25 0, Oh 26 25, Of 27 2 26, Ol 28 1 27, Oq 29 (.build [(.i .i64 0), (.s []), (.i .i64 0)] [(2, 1, (.t 28))]), O5 3 4 29]
 .ret))
 .skip))
 (Sr [Om 30 0, Oh 31 30, Of 32 0 31, Ol 33 1 32, Om 34 0, Oh 35 34, Of 36 1 35, Ol 37 1 36, Om 38 1, Ob 39 .add 37 38, Oi 40 3 33 39, Oa 41 3 40, O5 3 4 41]
 .ret)))
def af107 : AFunc := { n := 42, depth := 6, kl := [(4, [4])], res := [.cell 4 true 3], body := B107 }

def L108_1 : AC := (Sr [Ob 9 .lss 8 7]
 (.seq (.cond (.t 9)
 .skip
 (.exit 0))
 (.seq (.blk 1 (Sr [Om 10 8, Om 5 10]
 (Sr [Om 11 1, Om 12 0, Om 13 5, Oi 14 1 12 13, Ol 15 1 14, Ob 16 .eql 11 15]
 (.cond (.t 16)
 (Sr [Om 17 5, Om 4 17]
 .ret)
 .skip))))
 (.reg [Oz 18 .add 8 1, Om 8 18]))))
def B108 : AC := (Sr [On 4 0]
 (.seq (Sr [Om 6 0, Ow 7 6, On 8 0]
 (.blk 0 (.loop L108_1)))
 (Sr [On 4 (-1)]
 .ret)))
def af108 : AFunc := { n := 19, depth := 5, kl := [], res := [.tmp 4], body := B108 }

def L109_1 : AC := (.seq (Sr [Om 47 0, Om 48 8, Oc2 49 false 138 47 48]
 (.cond (.t 49)
 .skip
 (.exit 0)))
 (.blk 1 (Sr [Om 50 0, Oc 51 false 78 50]
 (.seq (Sr [Om 53 0, Om 54 1, Oz 55 .add 54 1, Om 56 2, Oc3 57 false 109 53 55 56, Om 52 57, Oe 58 52 0, Oe 59 52 1, O5 4 10 58, Om 11 59]
 (Sr [Om 60 11, Oz 61 .neq 60 0]
 (.cond (.t 61)
 (Sr [Oa 62 4 10, Om 63 11, O5 4 6 62, Om 7 63]
 .ret)
 .skip)))
 (.reg [Of 64 3 12, Ol 65 1 64, Oa 66 4 10, Oq 67 (.bslice false 24 4 1 [(.i .i64 0), (.s []), (.s []), (.sl [] 0 .nil)] [(0, (.t 66))]), Oy 68 24 4 65 67, Of 69 3 12, O5 1 69 68])))))
def B109 : AC := (Sr [Oq 6 (.lalloc [(.i .i64 0), (.s []), (.s []), (.sl [] 0 .nil)] [6]), On 7 0]
 (.seq (Sr [Om 13 2, Oz 14 .gtr 13 40]
 (.cond (.t 14)
 (Sr [Oq 15 (.build [(.i .i64 0), (.s []), (.s []), (.sl [] 0 .nil)] []), O5 4 6 15, On 7 51]
 .ret)
 .skip))
 (.seq (Sr [Om 16 1, Oz 17 .gtr 16 2]
 (.cond (.t 17)
 (Sr [Om 18 0, Om 19 2, Oc2 20 false 137 18 19, Oe 21 20 0, Oe 22 20 1, O5 4 6 21, Om 7 22]
 .ret)
 .skip))
 (Sr [Ox 8 (.s [111, 114]), On 9 6]
 (.seq (Sr [Om 23 1, Oz 24 .eql 23 2]
 (.cond (.t 24)
 (.reg [Ox 8 (.s [97, 110, 100]), On 9 5])
 .skip))
 (Sr [Om 26 0, Om 27 1, Oz 28 .add 27 1, Om 29 2, Oc3 30 false 109 26 28 29, Om 25 30, Oe 31 25 0, Oe 32 25 1, Oq 10 (.lalloc [(.i .i64 0), (.s []), (.s []), (.sl [] 0 .nil)] [10]), O5 4 10 31, Om 11 32]
 (.seq (Sr [Om 33 11, Oz 34 .neq 33 0, Om 35 34, Gf (Om 36 0) 35,
 Gf (Om 37 8) 35,
 Gf (Oc2 38 false 138 36 37) 35,
 Gf (Ou 39 38) 35,
 Oo 40 35 39]
 (.cond (.t 40)
 (Sr [Oa 41 4 10, Om 42 11, O5 4 6 41, Om 7 42]
 .ret)
 .skip))
 (Sr [Om 43 9, Oa 44 4 10, Oq 45 (.bslice false 24 4 1 [(.i .i64 0), (.s []), (.s []), (.sl [] 0 .nil)] [(0, (.t 44))]), Oq 46 (.build [(.i .i64 0), (.s []), (.s []), (.sl [] 0 .nil)] [(0, 1, (.t 43)), (3, 1, (.t 45))]), Oq 12 (.lalloc [(.i .i64 0), (.s []), (.s []), (.sl [] 0 .nil)] [12, 64, 69]), O5 4 12 46]
 (.seq (.blk 0 (.loop L109_1))
 (Sr [Oa 70 4 12, O5 4 6 70, On 7 0]
 .ret))))))))))
def af109 : AFunc := { n := 71, depth := 7, kl := [(6, [6]), (10, [10]), (12, [12, 64, 69])], res := [.cell 6 true 4, .tmp 7], body := B109 }

def B110 : AC := (Sr [Oq 1 (.lbox (.t 0) [1, 7, 13]), On 2 0, Ox 3 (.b false)]
 (Sr [Of 7 1 1, Ol 8 1 7, Oc 9 true 122 8, Om 6 9, Oe 10 6 0, Oe 11 6 1, Om 4 10, Om 5 11]
 (Sr [Om 12 4, Of 13 0 1, Ol 14 1 13, Oz 15 .eql 14 3, Om 16 15, Gt (Om 17 5) 16,
 Gt (Oz 18 .eql 17 0) 16,
 Oj 19 16 18, Om 20 19, Gt (Om 21 4) 20,
 Gt (Oz 22 .geq 21 0) 20,
 Oj 23 20 22, Om 24 23, Gt (Om 25 4) 24,
 Gt (Oz 26 .leq 25 1099511627776) 24,
 Oj 27 24 26, Om 2 12, Om 3 27]
 .ret)))
def af110 : AFunc := { n := 28, depth := 5, kl := [(1, [1, 7, 13])], res := [.tmp 2, .tmp 3], body := B110 }

def B111 : AC := (Sr [On 2 0]
 (.seq (Sr [Om 3 0, Oq 4 (.call true 47 [(.t 3), (.k (.i .i64 1)), (.k (.i .i64 24)), (.f 139)]), Ou 5 4]
 (.cond (.t 5)
 (Sr [On 2 20]
 .ret)
 .skip))
 (Sr [On 2 0]
 .ret)))
def af111 : AFunc := { n := 6, depth := 3, kl := [], res := [.tmp 2], body := B111 }

def B112 : AC := (Sr [On 2 0]
 (.seq (Sr [Om 3 0, Oq 4 (.call true 47 [(.t 3), (.k (.i .i64 0)), (.k (.i .i64 48)), (.f 139)]), Ou 5 4]
 (.cond (.t 5)
 (Sr [On 2 21]
 .ret)
 .skip))
 (Sr [On 2 0]
 .ret)))
def af112 : AFunc := { n := 6, depth := 3, kl := [], res := [.tmp 2], body := B112 }

def B113 : AC := (Sr [On 2 0]
 (.seq (Sr [Om 3 0, Oq 4 (.call true 140 [(.t 3), (.k (.i .i64 1)), (.k (.i .i64 24))]), Ou 5 4]
 (.cond (.t 5)
 (Sr [On 2 20]
 .ret)
 .skip))
 (Sr [On 2 0]
 .ret)))
def af113 : AFunc := { n := 6, depth := 3, kl := [], res := [.tmp 2], body := B113 }

def B114 : AC := (Sr [On 2 0]
 (.seq (Sr [Om 3 0, Oq 4 (.call true 140 [(.t 3), (.k (.i .i64 0)), (.k (.i .i64 48))]), Ou 5 4]
 (.cond (.t 5)
 (Sr [On 2 21]
 .ret)
 .skip))
 (Sr [On 2 0]
 .ret)))
def af114 : AFunc := { n := 6, depth := 3, kl := [], res := [.tmp 2], body := B114 }

def L115_2 : AC := (Sr [Oq 19 (.next 18), Oe 20 19 0]
 (.seq (.cond (.t 20)
 .skip
 (.exit 2))
 (.blk 3 (Sr [Oe 21 19 1, Oe 22 19 2, Om 8 21, Om 9 22]
 (Sr [Om 23 9, Oq 24 (.bin .eql (.t 23) (.k (.i .i32 58)))]
 (.cond (.t 24)
 (.seq (Sr [Om 25 7, Om 26 8, Oq 27 (.slc .str (.t 25) none (some (.t 26)) none), Om 28 1, Ob 29 .eql 27 28]
 (.cond (.t 29)
 (Sr [Om 30 7, Om 31 8, Oz 32 .add 31 1, Oq 33 (.slc .str (.t 30) (some (.t 32)) none none), Om 4 33, Ox 5 (.b true)]
 .ret)
 .skip))
 (.exit 2))
 .skip))))))
def L115_1 : AC := (Sr [Ob 14 .lss 13 12]
 (.seq (.cond (.t 14)
 .skip
 (.exit 0))
 (.seq (.blk 1 (Sr [Oi 15 1 11 13, Ol 16 1 15, Om 7 16]
 (Sr [Om 17 7, Oq 18 (.range (.t 17))]
 (.blk 2 (.loop L115_2)))))
 (.reg [Oz 34 .add 13 1, Om 13 34]))))
def B115 : AC := (Sr [Ox 4 (.s []), Ox 5 (.b false)]
 (.seq (Sr [Om 10 0, Oq 11 (.call true 141 [(.t 10), (.k (.i .i32 32))]), Ow 12 11, On 13 0]
 (.blk 0 (.loop L115_1)))
 (Sr [Ox 4 (.s []), Ox 5 (.b false)]
 .ret)))
def af115 : AFunc := { n := 35, depth := 6, kl := [], res := [.tmp 4, .tmp 5], body := B115 }

def L116_1 : AC := (.blk 1 (Sr [Om 19 2, Om 20 1, Ob 21 .sub 19 20, Om 10 21]
 (.seq (Sr [Om 22 10, Oz 23 .leq 22 12]
 (.cond (.t 23)
 (Sr [Om 24 0, Om 25 1, Om 26 2, Oc3 27 false 142 24 25 26]
 .ret)
 .skip))
 (.seq (Sr [Om 28 3, Oz 29 .eql 28 0]
 (.cond (.t 29)
 (Sr [Om 30 0, Om 31 1, Om 32 2, Oc3 33 false 143 30 31 32]
 .ret)
 .skip))
 (.seq (Sr [Om 34 8, Ou 35 34]
 (.cond (.t 35)
 (Sr [Om 36 0, Om 37 1, Om 38 2, Oc3 39 false 144 36 37 38]
 (.reg [Om 40 3, Oz 41 .sub 40 1, Om 3 41]))
 .skip))
 (Sr [Om 43 0, Om 44 1, Om 45 2, Oc3 46 true 145 43 44 45, Om 42 46, Oe 47 42 0, Oe 48 42 1, Om 11 47, Om 12 48]
 (.seq (Sr [Om 49 12, Oz 50 .eql 49 2]
 (.cond (.t 50)
 (Sr [Om 51 0, Om 52 1, Om 53 2, Oc3 54 false 146 51 52 53]
 (Sr [Om 55 2, Oz 56 .sub 55 1, Om 57 11, Om 58 1, Ob 59 .sub 57 58, Ob 60 .sub 56 59, Om 11 60]
 (.reg [On 12 1])))
 .skip))
 (.seq (Sr [Om 61 8, Om 62 61, Gt (Om 63 9) 62,
 Oj 64 62 63, Om 65 64, Gt (Om 66 12) 65,
 Gt (Oz 67 .eql 66 1) 65,
 Oj 68 65 67]
 (.cond (.t 68)
 (Sr [Om 69 0, Om 70 1, Om 71 2, Oc3 72 false 147 69 70 71]
 (.cond (.t 72)
 .ret
 .skip))
 .skip))
 (.seq (Sr [Om 73 1, Oz 74 .gtr 73 0, Om 75 74, Gt (Om 76 0) 75,
 Gt (Om 77 1) 75,
 Gt (Oz 78 .sub 77 1) 75,
 Gt (Oi 79 1 76 78) 75,
 Gt (Ol 80 1 79) 75,
 Gt (Om 81 0) 75,
 Gt (Om 82 11) 75,
 Gt (Oi 83 1 81 82) 75,
 Gt (Ol 84 1 83) 75,
 Gt (Oc2 85 true 148 80 84) 75,
 Gt (Ou 86 85) 75,
 Oj 87 75 86]
 (.cond (.t 87)
 (Sr [Om 88 0, Om 89 1, Om 90 2, Om 91 11, Oq 92 (.call false 149 [(.t 88), (.t 89), (.t 90), (.t 91)]), Om 13 92]
 (Sr [Om 93 13, Om 1 93]
 (.exit 1)))
 .skip))
 (Sr [Om 95 0, Om 96 1, Om 97 2, Om 98 11, Oq 99 (.call false 150 [(.t 95), (.t 96), (.t 97), (.t 98)]), Om 94 99, Oe 100 94 0, Oe 101 94 1, Om 14 100, Om 15 101]
 (Sr [Om 102 15, Om 9 102]
 (Sr [Om 103 14, Om 104 1, Ob 105 .sub 103 104, Om 106 2, Om 107 14, Ob 108 .sub 106 107, Om 16 105, Om 17 108]
 (Sr [Om 109 10, Oz 110 .quo 109 8, Om 18 110]
 (Sr [Om 111 16, Om 112 17, Ob 113 .lss 111 112]
 (.cond (.t 113)
 (Sr [Om 114 16, Om 115 18, Ob 116 .geq 114 115, Om 8 116]
 (Sr [Om 117 0, Om 118 1, Om 119 14, Om 120 3, Oq 121 (.call false 116 [(.t 117), (.t 118), (.t 119), (.t 120)])]
 (.reg [Om 122 14, Oz 123 .add 122 1, Om 1 123])))
 (Sr [Om 124 17, Om 125 18, Ob 126 .geq 124 125, Om 8 126]
 (Sr [Om 127 0, Om 128 14, Oz 129 .add 128 1, Om 130 2, Om 131 3, Oq 132 (.call false 116 [(.t 127), (.t 129), (.t 130), (.t 131)])]
 (.reg [Om 133 14, Om 2 133]))))))))))))))))))
def B116 : AC := (Sr [Ox 8 (.b true)]
 (Sr [Ox 9 (.b true)]
 (.blk 0 (.loop L116_1))))
def af116 : AFunc := { n := 134, depth := 8, kl := [], res := [], body := B116 }

def B117 : AC := (Sr [On 2 0]
 (.seq (.cond (.k (.b false))
 (Sr [Om 3 0, Ov 4 .u32 3, Oc 5 true 151 4, Om 2 5]
 .ret)
 .skip)
 (Sr [Om 6 0, Oc 7 true 152 6, Om 2 7]
 .ret)))
def af117 : AFunc := { n := 8, depth := 4, kl := [], res := [.tmp 2], body := B117 }

def B118 : AC := (Sr [Oq 2 (.lbox (.t 0) [2, 7, 12, 18]), Oq 4 (.lalloc [(.i .u64 0), (.i .i64 0)] [4])]
 (Sr [Of 7 0 2, Ol 8 1 7, Om 9 1, Ov 10 .u64 9, Ob 11 .add 8 10, Om 5 11]
 (Sr [Of 12 1 2, Ol 13 1 12, Om 14 1, Oq 15 (.bin .shr (.t 14) (.k (.i .u64 63))), Ob 16 .add 13 15, Om 6 16]
 (.seq (Sr [Om 17 5, Of 18 0 2, Ol 19 1 18, Ob 20 .lss 17 19]
 (.cond (.t 20)
 (.reg [Om 21 6, Oz 22 .add 21 1, Om 6 22])
 .skip))
 (Sr [Om 23 5, Om 24 6, Oq 25 (.build [(.i .u64 0), (.i .i64 0)] [(0, 1, (.t 23)), (1, 1, (.t 24))]), O5 2 4 25]
 .ret)))))
def af118 : AFunc := { n := 26, depth := 5, kl := [(2, [2, 7, 12, 18]), (4, [4])], res := [.cell 4 true 2], body := B118 }

def L122_1 : AC := (Sr [Oq 11 (.next 10), Oe 12 11 0]
 (.seq (.cond (.t 12)
 .skip
 (.exit 0))
 (.blk 1 (Sr [Oe 13 11 1, Oe 14 11 2, Om 7 13, Om 8 14]
 (.blk 2 (Sr [Om 24 7, Oz 25 .eql 24 0, Om 26 25, Gt (Om 27 8) 26,
 Gt (Oq 28 (.bin .eql (.t 27) (.k (.i .i32 45)))) 26,
 Oj 29 26 28, Om 30 29, Gt (Om 31 0) 30,
 Gt (Owt 32 31) 30,
 Gt (Oz 33 .gtr 32 1) 30,
 Oj 34 30 33, Om 23 34]
 (.cond (.t 23)
 (.reg [Ox 4 (.b true)])
 (Sr [Om 36 8, Oq 37 (.bin .lss (.t 36) (.k (.i .i32 48))), Om 38 37, Gf (Om 39 8) 38,
 Gf (Oq 40 (.bin .gtr (.t 39) (.k (.i .i32 57)))) 38,
 Oo 41 38 40, Om 42 41, Gf (Om 43 6) 42,
 Gf (Oz 44 .gtr 43 0) 42,
 Gf (Om 45 44) 42,
 Gt (Om 46 5) 45,
 Gt (Oq 47 (.bin .eql (.t 46) (.k (.i .u64 0)))) 45,
 Gf (Oj 48 45 47) 42,
 Oo 49 42 48, Om 50 49, Gf (Om 51 6) 50,
 Gf (Oz 52 .gtr 51 18) 50,
 Oo 53 50 52, Om 35 53]
 (.cond (.t 35)
 (Sr [On 2 0, On 3 23]
 .ret)
 (Sr [Om 15 5, Oq 16 (.bin .mul (.k (.i .u64 10)) (.t 15)), Om 17 8, Oq 18 (.bin .sub (.t 17) (.k (.i .i32 48))), Ov 19 .u64 18, Ob 20 .add 16 19, Om 5 20]
 (.reg [Om 21 6, Oz 22 .add 21 1, Om 6 22])))))))))))
def B122 : AC := (Sr [On 2 0, On 3 0]
 (Sr [Ox 4 (.b false)]
 (Sr [Ox 5 (.i .u64 0)]
 (Sr [On 6 0]
 (.seq (Sr [Om 9 0, Oq 10 (.range (.t 9))]
 (.blk 0 (.loop L122_1)))
 (.seq (.blk 3 (Sr [Om 55 6, Oz 56 .eql 55 0, Om 57 56, Gf (Om 58 4) 57,
 Gf (Om 59 58) 57,
 Gt (Om 60 5) 59,
 Gt (Oq 61 (.bin .eql (.t 60) (.k (.i .u64 0)))) 59,
 Gf (Oj 62 59 61) 57,
 Oo 63 57 62, Om 54 63]
 (.cond (.t 54)
 (Sr [On 2 0, On 3 23]
 .ret)
 (Sr [Om 65 4, Om 66 65, Gt (Om 67 5) 66,
 Gt (Oq 68 (.bin .leq (.t 67) (.k (.i .u64 9223372036854775808)))) 66,
 Oj 69 66 68, Om 64 69]
 (.cond (.t 64)
 (Sr [Om 70 5, Ov 71 .i64 70, Oq 72 (.un .neg (.t 71)), Om 2 72, On 3 0]
 .ret)
 (Sr [Om 74 5, Oq 75 (.bin .gtr (.t 74) (.k (.i .u64 9223372036854775807))), Om 73 75]
 (.cond (.t 73)
 (Sr [On 2 0, On 3 5]
 .ret)
 .skip)))))))
 (Sr [Om 76 5, Ov 77 .i64 76, Om 2 77, On 3 0]
 .ret)))))))
def af122 : AFunc := { n := 78, depth := 7, kl := [], res := [.tmp 2, .tmp 3], body := B122 }

def B124 : AC := (Sr [Ox 4 .nili]
 (Sr [Om 5 0, Oc 6 false 97 5]
 (Sr [Om 7 0, Om 8 0, Oh 9 8, Of 10 1 9, Ol 11 1 10, Om 12 1, Oq 13 (.bslice false 5 1 1 [(.i .u8 0)] [(0, (.t 12))]), Oy 14 5 1 11 13, Oh 15 7, Of 16 1 15, O5 1 16 14]
 (Sr [Ox 4 .nili]
 .ret))))
def af124 : AFunc := { n := 17, depth := 5, kl := [], res := [.tmp 4], body := B124 }

def B125 : AC := (Sr [On 4 0, Ox 5 .nili]
 (Sr [Om 7 0, Oc 8 false 97 7]
 (Sr [Om 9 0, Oh 10 9, Of 11 1 10, Ol 12 1 11, Ow 13 12, Om 6 13]
 (Sr [Om 14 0, Om 15 0, Oh 16 15, Of 17 1 16, Ol 18 1 17, Om 19 1, Oc2 20 false 155 18 19, Oh 21 14, Of 22 1 21, O5 1 22 20]
 (Sr [Om 23 0, Oh 24 23, Of 25 1 24, Ol 26 1 25, Ow 27 26, Om 28 6, Ob 29 .sub 27 28, Om 4 29, Ox 5 .nili]
 .ret)))))
def af125 : AFunc := { n := 30, depth := 5, kl := [], res := [.tmp 4, .tmp 5], body := B125 }

def B126 : AC := (Sr [Ox 4 (.s [])]
 (Sr [Om 5 0, Om 6 1, Oc2 7 true 96 5 6, Om 4 7]
 .ret))
def af126 : AFunc := { n := 8, depth := 4, kl := [], res := [.tmp 4], body := B126 }

def B127 : AC := (Sr [Oq 1 (.lbox (.t 0) [1, 4, 8, 14, 18]), On 2 0]
 (.seq (.blk 0 (Sr [Of 4 0 1, Ol 5 1 4, Oz 6 .eql 5 6, Om 7 6, Gt (Of 8 3 1) 7,
 Gt (Ol 9 1 8) 7,
 Gt (Ow 10 9) 7,
 Gt (Oz 11 .gtr 10 1) 7,
 Oj 12 7 11, Om 3 12]
 (.cond (.t 3)
 (Sr [On 2 1]
 .ret)
 (Sr [Of 14 0 1, Ol 15 1 14, Oz 16 .eql 15 5, Om 17 16, Gt (Of 18 3 1) 17,
 Gt (Ol 19 1 18) 17,
 Gt (Ow 20 19) 17,
 Gt (Oz 21 .gtr 20 1) 17,
 Oj 22 17 21, Om 13 22]
 (.cond (.t 13)
 (Sr [On 2 2]
 .ret)
 .skip)))))
 (Sr [On 2 3]
 .ret)))
def af127 : AFunc := { n := 23, depth := 5, kl := [(1, [1, 4, 8, 14, 18])], res := [.tmp 2], body := B127 }

def L131_2 : AC := (.seq (Sr [Om 66 1, Om 67 17, Ob 68 .geq 66 67]
 (.cond (.t 68)
 .skip
 (.exit 2)))
 (.blk 3 (Sr [Om 69 13, Oz 70 .sub 69 1, Om 13 70]
 (Sr [Om 71 1, Om 72 17, Ob 73 .quo 71 72, Om 18 73]
 (Sr [Om 74 13, Om 75 1, Om 76 18, Om 77 17, Ob 78 .mul 76 77, Ob 79 .sub 75 78, Oq 80 (.idx .str (.k (.s [48, 49, 50, 51, 52, 53, 54, 55, 56, 57, 97, 98, 99, 100, 101, 102, 103, 104, 105, 106, 107, 108, 109, 110, 111, 112, 113, 114, 115, 116, 117, 118, 119, 120, 121, 122])) (.t 79)), Oq 81 (.iaddr (.arr 65 1) (.t 12) (.t 74)), O5 1 81 80]
 (.reg [Om 82 18, Om 1 82]))))))
def L131_1 : AC := (.seq (Sr [Om 44 1, Om 45 15, Ob 46 .geq 44 45]
 (.cond (.t 46)
 .skip
 (.exit 0)))
 (.blk 1 (Sr [Om 47 13, Oz 48 .sub 47 1, Om 13 48]
 (Sr [Om 49 13, Om 50 1, Om 51 16, Ob 52 .and 50 51, Oq 53 (.idx .str (.k (.s [48, 49, 50, 51, 52, 53, 54, 55, 56, 57, 97, 98, 99, 100, 101, 102, 103, 104, 105, 106, 107, 108, 109, 110, 111, 112, 113, 114, 115, 116, 117, 118, 119, 120, 121, 122])) (.t 52)), Oq 54 (.iaddr (.arr 65 1) (.t 12) (.t 49)), O5 1 54 53]
 (.reg [Om 55 1, Om 56 14, Ob 57 .shr 55 56, Om 1 57])))))
def B131 : AC := (Sr [Oq 10 (.movnil 5), Ox 11 (.s [])]
 (.seq (Sr [Om 19 2, Oz 20 .lss 19 2, Om 21 20, Gf (Om 22 2) 21,
 Gf (Oz 23 .eql 22 10) 21,
 Oo 24 21 23, Om 25 24, Gf (Om 26 2) 25,
 Gf (Oz 27 .gtr 26 36) 25,
 Oo 28 25 27]
 (.cond (.t 28)
 (.reg [Oq 29 (.mkif 9 (.k (.s [115, 116, 114, 99, 111, 110, 118, 58, 32, 105, 108, 108, 101, 103, 97, 108, 32, 65, 112, 112, 101, 110, 100, 73, 110, 116, 47, 70, 111, 114, 109, 97, 116, 73, 110, 116, 32, 98, 97, 115, 101]))), O6 (.bad)])
 .skip))
 (Sr [Oq 12 (.alloc 232 [(.i .u8 0), (.i .u8 0), (.i .u8 0), (.i .u8 0), (.i .u8 0), (.i .u8 0), (.i .u8 0), (.i .u8 0), (.i .u8 0), (.i .u8 0), (.i .u8 0), (.i .u8 0), (.i .u8 0), (.i .u8 0), (.i .u8 0), (.i .u8 0), (.i .u8 0), (.i .u8 0), (.i .u8 0), (.i .u8 0), (.i .u8 0), (.i .u8 0), (.i .u8 0), (.i .u8 0), (.i .u8 0), (.i .u8 0), (.i .u8 0), (.i .u8 0), (.i .u8 0), (.i .u8 0), (.i .u8 0), (.i .u8 0), (.i .u8 0), (.i .u8 0), (.i .u8 0), (.i .u8 0), (.i .u8 0), (.i .u8 0), (.i .u8 0), (.i .u8 0), (.i .u8 0), (.i .u8 0), (.i .u8 0), (.i .u8 0), (.i .u8 0), (.i .u8 0), (.i .u8 0), (.i .u8 0), (.i .u8 0), (.i .u8 0), (.i .u8 0), (.i .u8 0), (.i .u8 0), (.i .u8 0), (.i .u8 0), (.i .u8 0), (.i .u8 0), (.i .u8 0), (.i .u8 0), (.i .u8 0), (.i .u8 0), (.i .u8 0), (.i .u8 0), (.i .u8 0), (.i .u8 0)])]
 (Sr [On 13 65]
 (.seq (Sr [Om 30 3]
 (.cond (.t 30)
 (.reg [Om 31 1, Oq 32 (.un .neg (.t 31)), Om 1 32])
 .skip))
 (.seq (Sr [Om 33 2, Oc 34 true 158 33]
 (.cond (.t 34)
 (Sr [Om 35 2, Ov 36 .u64 35, Oc 37 true 159 36, Ov 38 .u64 37, Om 14 38]
 (Sr [Om 39 2, Ov 40 .u64 39, Om 15 40]
 (Sr [Om 41 2, Ov 42 .u64 41, Oq 43 (.bin .sub (.t 42) (.k (.i .u64 1))), Om 16 43]
 (.seq (.blk 0 (.loop L131_1))
 (Sr [Om 58 13, Oz 59 .sub 58 1, Om 13 59]
 (.reg [Om 60 13, Om 61 1, Oq 62 (.idx .str (.k (.s [48, 49, 50, 51, 52, 53, 54, 55, 56, 57, 97, 98, 99, 100, 101, 102, 103, 104, 105, 106, 107, 108, 109, 110, 111, 112, 113, 114, 115, 116, 117, 118, 119, 120, 121, 122])) (.t 61)), Oq 63 (.iaddr (.arr 65 1) (.t 12) (.t 60)), O5 1 63 62]))))))
 (Sr [Om 64 2, Ov 65 .u64 64, Om 17 65]
 (.seq (.blk 2 (.loop L131_2))
 (Sr [Om 83 13, Oz 84 .sub 83 1, Om 13 84]
 (.reg [Om 85 13, Om 86 1, Oq 87 (.idx .str (.k (.s [48, 49, 50, 51, 52, 53, 54, 55, 56, 57, 97, 98, 99, 100, 101, 102, 103, 104, 105, 106, 107, 108, 109, 110, 111, 112, 113, 114, 115, 116, 117, 118, 119, 120, 121, 122])) (.t 86)), Oq 88 (.iaddr (.arr 65 1) (.t 12) (.t 85)), O5 1 88 87]))))))
 (.seq (Sr [Om 89 3]
 (.cond (.t 89)
 (Sr [Om 90 13, Oz 91 .sub 90 1, Om 13 91]
 (.reg [Om 92 13, Oq 93 (.iaddr (.arr 65 1) (.t 12) (.t 92)), O6 (.store 1 (.t 93) (.k (.i .u8 45)))]))
 .skip))
 (.seq (Sr [Om 94 4]
 (.cond (.t 94)
 (Sr [Om 95 0, Om 96 13, Oq 97 (.slc (.arr 65 1) (.t 12) (some (.t 96)) none none), Oy 98 5 1 95 97, Om 10 98]
 .ret)
 .skip))
 (Sr [Om 99 13, Oq 100 (.slc (.arr 65 1) (.t 12) (some (.t 99)) none none), Oq 101 (.conv .toStr (.t 100)), Om 11 101]
 .ret)))))))))
def af131 : AFunc := { n := 102, depth := 7, kl := [], res := [.tmp 10, .tmp 11], body := B131 }

def B134 : AC := (Sr [Ox 2 (.s [])]
 (Sr [Om 4 0, Oq 5 (.bin .rem (.t 4) (.k (.i .i32 16))), Om 6 0, Oq 7 (.bin .rem (.t 6) (.k (.i .i32 16))), Oq 8 (.bin .add (.t 7) (.k (.i .i32 1))), Oq 9 (.slc .str (.k (.s [48, 49, 50, 51, 52, 53, 54, 55, 56, 57, 97, 98, 99, 100, 101, 102])) (some (.t 5)) (some (.t 8)) none), Om 3 9]
 (.seq (Sr [Om 10 0, Oq 11 (.bin .gtr (.t 10) (.k (.i .i32 15)))]
 (.cond (.t 11)
 (Sr [Om 12 0, Oq 13 (.bin .quo (.t 12) (.k (.i .i32 16))), Oc 14 true 134 13, Om 15 3, Ob 16 .add 14 15, Om 2 16]
 .ret)
 .skip))
 (Sr [Om 17 3, Om 2 17]
 .ret))))
def af134 : AFunc := { n := 18, depth := 5, kl := [], res := [.tmp 2], body := B134 }

def L136_1 : AC := (Sr [Oq 30 (.next 29), Oe 31 30 0]
 (.seq (.cond (.t 31)
 .skip
 (.exit 0))
 (.blk 1 (Sr [Oe 32 30 2, Om 7 32]
 (.blk 2 (Sr [Om 34 7, Oc 35 true 105 34, Om 33 35]
 (.cond (.t 33)
 (.reg [Om 36 5, Oq 37 (.bin .shl (.t 36) (.k (.i .u64 4))), Om 38 7, Oq 39 (.bin .sub (.t 38) (.k (.i .i32 48))), Ob 40 .or 37 39, Om 5 40])
 (Sr [Om 42 7, Oq 43 (.bin .geq (.t 42) (.k (.i .i32 97))), Om 44 43, Gt (Om 45 7) 44,
 Gt (Oq 46 (.bin .leq (.t 45) (.k (.i .i32 102)))) 44,
 Oj 47 44 46, Om 41 47]
 (.cond (.t 41)
 (.reg [Om 48 5, Oq 49 (.bin .shl (.t 48) (.k (.i .u64 4))), Om 50 7, Oq 51 (.bin .sub (.t 50) (.k (.i .i32 97))), Oq 52 (.bin .add (.t 51) (.k (.i .i32 10))), Ob 53 .or 49 52, Om 5 53])
 (Sr [Ox 2 (.i .i32 0), On 3 0]
 .ret))))))))))
def B136 : AC := (Sr [Ox 2 (.i .i32 0), On 3 0]
 (Sr [Om 8 0, Oq 9 (.call true 160 [(.t 8), (.k (.i .u8 125))]), Om 4 9]
 (.seq (Sr [Om 10 0, Owt 11 10, Oz 12 .lss 11 3, Om 13 12, Gf (Om 14 0) 13,
 Gf (Oq 15 (.idx .str (.t 14) (.k (.i .i64 0)))) 13,
 Gf (Oq 16 (.bin .neq (.t 15) (.k (.i .u8 123)))) 13,
 Oo 17 13 16, Om 18 17, Gf (Om 19 4) 18,
 Gf (Oz 20 .lss 19 2) 18,
 Oo 21 18 20, Om 22 21, Gf (Om 23 4) 22,
 Gf (Oz 24 .gtr 23 7) 22,
 Oo 25 22 24]
 (.cond (.t 25)
 (Sr [Ox 2 (.i .i32 0), On 3 0]
 .ret)
 .skip))
 (Sr [Ox 5 (.i .i32 0)]
 (.seq (Sr [Om 26 0, Om 27 4, Oq 28 (.slc .str (.t 26) (some (.k (.i .i64 1))) (some (.t 27)) none), Oq 29 (.range (.t 28))]
 (.blk 0 (.loop L136_1)))
 (.seq (Sr [Om 54 5, Oc 55 true 161 54, Ou 56 55]
 (.cond (.t 56)
 (Sr [Ox 2 (.i .i32 0), On 3 0]
 .ret)
 .skip))
 (Sr [Om 57 5, Om 58 4, Oz 59 .add 58 1, Om 2 57, Om 3 59]
 .ret)))))))
def af136 : AFunc := { n := 60, depth := 6, kl := [], res := [.tmp 2, .tmp 3], body := B136 }

def B137 : AC := (Sr [Oq 4 (.lalloc [(.i .i64 0), (.s []), (.s []), (.sl [] 0 .nil)] [4]), On 5 0]
 (Sr [Oq 6 (.lalloc [(.i .i64 0), (.s []), (.s []), (.sl [] 0 .nil)] [6, 31])]
 (Sr [On 7 0]
 (.seq (Sr [Om 9 0, Oc 10 false 76 9, Oq 8 (.lalloc [(.i .i64 0), (.s []), (.i .i64 0)] [8, 50]), O5 3 8 10]
 (.blk 0 (Sr [Om 18 0, Oc 19 false 162 18, Om 17 19]
 (.cond (.t 17)
 (Sr [Om 20 0, Oc 21 false 78 20, Og 22 1 1 21, Oq 23 (.build [(.i .i64 0), (.s []), (.s []), (.sl [] 0 .nil)] [(0, 1, (.k (.i .i64 2))), (1, 1, (.t 22))]), O5 4 6 23]
 (Sr [Om 24 0, Oc 25 false 78 24]
 (.reg [Om 27 0, Oc 28 false 163 27, Om 26 28, Oe 29 26 0, Oe 30 26 1, Of 31 2 6, O5 1 31 29, Om 7 30])))
 (Sr [Om 33 0, Oq 34 (.call false 80 [(.t 33), (.k (.i .i64 4)), (.k (.s [40]))]), Om 32 34]
 (.cond (.t 32)
 (Sr [Om 36 0, Om 37 1, Oz 38 .add 37 1, Oq 39 (.call false 109 [(.t 36), (.k (.i .i64 1)), (.t 38)]), Om 35 39, Oe 40 35 0, Oe 41 35 1, O5 4 6 40, Om 7 41]
 (Sr [Om 42 7, Oz 43 .eql 42 0, Om 44 43, Gt (Om 45 0) 44,
 Gt (Oq 46 (.call false 80 [(.t 45), (.k (.i .i64 4)), (.k (.s [41]))])) 44,
 Gt (Ou 47 46) 44,
 Oj 48 44 47]
 (.cond (.t 48)
 (.reg [On 7 192])
 .skip)))
 (Sr [Of 50 0 8, Ol 51 1 50, Oz 52 .neq 51 1, Om 49 52]
 (.cond (.t 49)
 (.reg [On 7 192])
 (.reg [Om 12 0, Om 13 1, Oc2 14 false 164 12 13, Om 11 14, Oe 15 11 0, Oe 16 11 1, O5 4 6 15, Om 7 16])))))))))
 (.seq (Sr [Om 53 7, Oz 54 .neq 53 0]
 (.cond (.t 54)
 (Sr [Oq 55 (.build [(.i .i64 0), (.s []), (.s []), (.sl [] 0 .nil)] []), Om 56 7, O5 4 4 55, Om 5 56]
 .ret)
 .skip))
 (Sr [Oa 57 4 6, O5 4 4 57, On 5 0]
 .ret))))))
def af137 : AFunc := { n := 58, depth := 6, kl := [(4, [4]), (6, [6, 31]), (8, [8, 50])], res := [.cell 4 true 4, .tmp 5], body := B137 }

def B138 : AC := (Sr [Ox 4 (.b false)]
 (Sr [Om 6 0, Oc 7 false 76 6, Oq 5 (.lalloc [(.i .i64 0), (.s []), (.i .i64 0)] [5, 8, 12]), O5 3 5 7]
 (Sr [Of 8 0 5, Ol 9 1 8, Oz 10 .eql 9 1, Om 11 10, Gt (Of 12 1 5) 11,
 Gt (Ol 13 1 12) 11,
 Gt (Om 14 1) 11,
 Gt (Ob 15 .eql 13 14) 11,
 Oj 16 11 15, Om 4 16]
 .ret)))
def af138 : AFunc := { n := 17, depth := 5, kl := [(5, [5, 8, 12])], res := [.tmp 4], body := B138 }

def B139 : AC := (Sr [Ox 2 (.b false)]
 (Sr [Om 3 0, Oq 4 (.bin .geq (.t 3) (.k (.i .i32 32))), Om 5 4, Gt (Om 6 0) 5,
 Gt (Oq 7 (.bin .neq (.t 6) (.k (.i .i32 127)))) 5,
 Oj 8 5 7, Om 9 8, Gt (Om 10 0) 9,
 Gt (Oq 11 (.bin .neq (.t 10) (.k (.i .i32 65533)))) 9,
 Oj 12 9 11, Om 2 12]
 .ret))
def af139 : AFunc := { n := 13, depth := 4, kl := [], res := [.tmp 2], body := B139 }

def L140_1 : AC := (Sr [Ob 26 .lss 25 24]
 (.seq (.cond (.t 26)
 .skip
 (.exit 0))
 (.seq (.blk 1 (Sr [Oi 27 1 23 25, Ol 28 1 27, Om 10 28]
 (.reg [Om 29 8, Om 30 29, Gt (Om 31 10) 30,
 Gt (Oc 32 true 166 31) 30,
 Oj 33 30 32, Om 8 33])))
 (.reg [Oz 34 .add 25 1, Om 25 34]))))
def B140 : AC := (Sr [Ox 6 (.b false)]
 (Sr [Om 11 0, Oc 12 true 165 11, Om 7 12]
 (Sr [Om 13 7, Ow 14 13, Om 15 1, Ob 16 .geq 14 15, Om 17 16, Gt (Om 18 7) 17,
 Gt (Ow 19 18) 17,
 Gt (Om 20 2) 17,
 Gt (Ob 21 .leq 19 20) 17,
 Oj 22 17 21, Om 8 22]
 (.seq (Sr [Om 23 7, Ow 24 23, On 25 0]
 (.blk 0 (.loop L140_1)))
 (Sr [Om 35 8, Om 6 35]
 .ret)))))
def af140 : AFunc := { n := 36, depth := 6, kl := [], res := [.tmp 6], body := B140 }

def L141_1 : AC := (Sr [Oq 12 (.next 11), Oe 13 12 0]
 (.seq (.cond (.t 13)
 .skip
 (.exit 0))
 (.blk 1 (Sr [Oe 14 12 1, Oe 15 12 2, Om 8 14, Om 9 15]
 (.seq (Sr [Om 16 7]
 (.cond (.t 16)
 (.reg [Om 17 8, Om 6 17, Ox 7 (.b false)])
 .skip))
 (Sr [Om 18 9, Om 19 1, Ob 20 .eql 18 19]
 (.cond (.t 20)
 (Sr [Om 21 5, Om 22 0, Om 23 6, Om 24 8, Oq 25 (.slc .str (.t 22) (some (.t 23)) (some (.t 24)) none), Oq 26 (.bslice false 9 1 1 [(.s [])] [(0, (.t 25))]), Oy 27 9 1 21 26, Om 5 27]
 (.reg [Ox 7 (.b true)]))
 .skip)))))))
def B141 : AC := (Sr [Oq 4 (.movnil 9)]
 (Sr [Oq 5 (.movnil 9)]
 (Sr [On 6 0, Ox 7 (.b false)]
 (.seq (Sr [Om 10 0, Oq 11 (.range (.t 10))]
 (.blk 0 (.loop L141_1)))
 (.seq (Sr [Om 28 7]
 (.cond (.t 28)
 (.reg [Om 29 0, Owt 30 29, Om 6 30])
 .skip))
 (Sr [Om 31 5, Om 32 0, Om 33 6, Oq 34 (.slc .str (.t 32) (some (.t 33)) none none), Oq 35 (.bslice false 9 1 1 [(.s [])] [(0, (.t 34))]), Oy 36 9 1 31 35, Om 4 36]
 .ret))))))
def af141 : AFunc := { n := 37, depth := 6, kl := [], res := [.tmp 4], body := B141 }


end Go.Proofs.YtpcjhfchpelonaaGreatDoor
