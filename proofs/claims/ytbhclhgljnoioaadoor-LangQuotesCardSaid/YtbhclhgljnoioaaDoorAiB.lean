/- The abstract interpreter: what one operation does, and the evaluator by fuel. -/
import Derived.Test.YtbhclhgljnoioaaDoorAiA
namespace Ai
open Go

/-! ### Pieces of rows -/
def sub? (xs : List V) (o n : Nat) : Option (List V) :=
  let r := (xs.drop o).take n
  bif Nat.beq r.length n then some r else none

def splice (cs : List V) (o : Nat) (xs : List V) : List V := cs.take o ++ xs ++ cs.drop (o + xs.length)

def zeros (z : List V) : Nat → List V
  | 0 => []
  | n + 1 => z ++ zeros z n

def allOne : List V → Bool
  | [] => true
  | v :: r => bif v.one then allOne r else false

def natOf : V → Option Nat
  | .i _ n => if 0 ≤ n then some n.toNat else none
  | _ => none

def natOr (d : Nat) : Option V → Option Nat
  | none => some d
  | some v => natOf v

/-! ### Values -/
def shf (left : Bool) (k : IntKind) (a b : Int) : Option V :=
  if b < 0 then none else
  let n := min b.toNat k.bits
  bif left then some (.i k (wr k (a * 2 ^ n))) else some (.i k (a.fdiv (2 ^ n)))

def binI (op : BinOp) (k : IntKind) (a b : Int) : Option V :=
  match op with
  | .add => some (.i k (wr k (a + b)))
  | .sub => some (.i k (wr k (a - b)))
  | .mul => some (.i k (wr k (a * b)))
  | .quo => if b = 0 then none else some (.i k (wr k (a.tdiv b)))
  | .rem => if b = 0 then none else some (.i k (a.tmod b))
  | .and => some (.i k (wr k (BitVec.ofInt k.bits a &&& BitVec.ofInt k.bits b).toNat))
  | .or => some (.i k (wr k (BitVec.ofInt k.bits a ||| BitVec.ofInt k.bits b).toNat))
  | .xor => some (.i k (wr k (BitVec.ofInt k.bits a ^^^ BitVec.ofInt k.bits b).toNat))
  | .andNot => some (.i k (wr k (BitVec.ofInt k.bits a &&& ~~~ BitVec.ofInt k.bits b).toNat))
  | .eql => some (.b (decide (a = b)))
  | .neq => some (.b (!decide (a = b)))
  | .lss => some (.b (decide (a < b)))
  | .leq => some (.b (decide (a ≤ b)))
  | .gtr => some (.b (decide (b < a)))
  | .geq => some (.b (decide (b ≤ a)))
  | _ => none

def binS (op : BinOp) (x y : List UInt8) : Option V :=
  match op with
  | .add => bif Nat.ble (x.length + y.length) 4611686018427387904 then some (.s (x ++ y)) else none
  | .eql => some (.b (strEq x y))
  | .neq => some (.b (!strEq x y))
  | .lss => some (.b (Op.bytesLess x y))
  | .leq => some (.b (Op.bytesLess x y || strEq x y))
  | .gtr => some (.b (!(Op.bytesLess x y || strEq x y)))
  | .geq => some (.b (!Op.bytesLess x y))
  | _ => none

def bin (op : BinOp) : V → V → Option V
  | .i k a, .i k' b =>
    match op with
    | .shl => shf true k a b
    | .shr => shf false k a b
    | _ => if k = k' then binI op k a b else none
  | .s x, .s y => binS op x y
  | _, _ => none

def un (op : UnOp) : V → Option V
  | .b x => match op with | .not => some (.b (!x)) | _ => none
  | .i k n => match op with
    | .neg => some (.i k (wr k (0 - n)))
    | .xor => some (.i k (wr k (BitVec.ofInt k.bits (if k.signed then -1 else k.max) ^^^ BitVec.ofInt k.bits n).toNat))
    | _ => none
  | _ => none

def part? (cs : List V) (off n : Nat) (agg : Bool) : Option V :=
  match sub? cs off n with
  | some r => bif agg then some (.agg r) else (match r with | [v] => some v.val | _ => none)
  | none => none

/-- Two pointers. -/
def eqP : V → V → Option Bool
  | .nilp, .nilp => some true
  | .nilp, .p _ _ => some false
  | .p _ _, .nilp => some false
  | .nilp, .ip xs _ => bif xs.isEmpty then none else some false
  | .ip xs _, .nilp => bif xs.isEmpty then none else some false
  | .p a o, .p b u => bif Nat.beq a b then some (Nat.beq o u) else none
  | _, _ => none

mutual
def eqV : ET → V → V → Option Bool
  | .bool, .b x, .b y => some (x == y)
  | .int, .i k a, .i k' b => if k = k' then some (decide (a = b)) else none
  | .str, .s x, .s y => some (strEq x y)
  | .ptr, a, b => eqP a b
  | .iface, .nili, .nili => some true
  | .iface, .nili, .ifc _ _ => some false
  | .iface, .ifc _ _, .nili => some false
  | .struct fs, .agg xs, .agg ys => eqF fs xs ys
  | _, _, _ => none
def eqF : List (Nat × Nat × Bool × ET) → List V → List V → Option Bool
  | [], _, _ => some true
  | (off, n, agg, t) :: r, xs, ys =>
    match part? xs off n agg, part? ys off n agg with
    | some a, some b => match eqV t a b with
      | some true => eqF r xs ys
      | some false => some false
      | none => none
    | _, _ => none
end

def runesL : Nat → List UInt8 → List V
  | 0, _ => []
  | f + 1, l => match l with
    | [] => []
    | _ :: _ => .i .i32 (dec l).1 :: runesL f (l.drop (dec l).2)

def runesOf? : List V → Option (List UInt8)
  | [] => some []
  | .i .i32 n :: r => (runesOf? r).map ((Utf8.encode n).data.toList ++ ·)
  | _ => none

def fill (cs : List V) : List (Nat × Nat × V) → Option (List V)
  | [] => some cs
  | (off, n, v) :: r =>
    match v.cells? with
    | some vs => bif Nat.beq vs.length n && Nat.ble (off + n) cs.length then fill (splice cs off vs) r else none
    | none => none

/-! ### The state -/
def St.raw (st : St) : Opd → V
  | .t i => st.T.get i
  | .k v => v
  | .f g => .fn g [] []
  | .g g => .ip (st.gl g) 0

def St.ev (st : St) (x : Opd) : V := (st.raw x).val

def St.put (st : St) (dst : Option Nat) (v : V) : St :=
  match dst with
  | some d => { st with T := st.T.set d v }
  | none => st

def St.rd (st : St) (a : V) (n : Nat) : Option (List V) :=
  match a with
  | .ip xs o => sub? xs o n
  | .l d o => match al st.loc d with
    | some cs => sub? cs o n
    | none => none
  | .p id o => match al st.h.objs id with
    | some (.cells _ cs) => sub? cs o n
    | _ => none
  | _ => none

def H.setObj (h : H) (id : Nat) (o : Obj) : H := { h with objs := alSet h.objs id o }

def St.wrt (st : St) (a : V) (xs : List V) : Option St :=
  match a with
  | .l d o => match al st.loc d with
    | some cs => bif Nat.ble (o + xs.length) cs.length then some { st with loc := alSet st.loc d (splice cs o xs) } else none
    | none => none
  | .p id o => match al st.h.objs id with
    | some (.cells ty cs) => bif Nat.ble (o + xs.length) cs.length then some { st with h := st.h.setObj id (.cells ty (splice cs o xs)) } else none
    | _ => none
  | _ => none

def T.kill (t : T) : List Nat → T
  | [] => t
  | k :: r => T.kill (t.set k .any) r

def H.new (h : H) (o : Obj) : Nat × H := (h.next, { h with next := h.next + 1, objs := (h.next, o) :: h.objs })
def H.tok (h : H) (n : Nat) (ty : TypeId) : Nat × H := (h.nt, { h with nt := h.nt + 1, tips := (h.nt, (n, ty)) :: h.tips })

/-- A slice's or a string's cells. -/
def St.row (st : St) (sz : Nat) : V → Option (List V × Nat)
  | .sl xs n _ => bif Nat.beq xs.length (n * sz) then some (xs, n) else none
  | .hs id off n sz' => bif Nat.beq sz sz' then
      (match al st.h.objs id with
       | some (.cells _ cs) => (sub? cs off (n * sz)).map (·, n)
       | _ => none) else none
  | .s l => bif Nat.beq sz 1 then some (l.map byteV, l.length) else none
  | _ => none

def most : Nat := 134217728

/-- append -/
def St.app (st : St) (ty : TypeId) (sz : Nat) (x y : V) : Option (V × St) :=
  match x, st.row sz y with
  | .sl xs n tk, some (ys, m) =>
    bif !allOne ys then none else
    bif Nat.beq m 0 then some (.sl xs n tk, st) else
    bif Nat.beq xs.length (n * sz) && Nat.ble (n + m) most then
      match tk with
      | .no => none
      | .full => let (t, h) := st.h.tok (n + m) ty; some (.sl (xs ++ ys) (n + m) (.own t), { st with h })
      | .nil => let (t, h) := st.h.tok (n + m) ty; some (.sl (xs ++ ys) (n + m) (.own t), { st with h })
      | .own t => match al st.h.tips t with
        | some (c, z) => bif Nat.beq c n && Nat.beq z ty then
            some (.sl (xs ++ ys) (n + m) (.own t), { st with h := { st.h with tips := alSet st.h.tips t (n + m, ty) } }) else none
        | none => none
    else none
  | _, _ => none

def slcTk (lo hi n : Nat) (mx : Option Nat) (tk : Tk) : Tk :=
  match mx with
  | some m => bif Nat.beq m hi then .full else .no
  | none => bif Nat.beq hi n then (bif Nat.beq lo 0 then tk else (match tk with | .full => .full | _ => .no)) else .no

def bnds (n : Nat) (lo hi mx : Option V) : Option (Nat × Nat × Option Nat) :=
  match natOr n mx with
  | none => none
  | some m =>
    match natOr n hi, natOr 0 lo with
    | some h, some l => bif Nat.ble l h && Nat.ble h m && Nat.ble m n then some (l, h, mx.map fun _ => m) else none
    | _, _ => none

def slcV (k : SK) (x : V) (lo hi mx : Option V) : Option V :=
  match k, x with
  | .str, .s l => match mx, bnds l.length lo hi none with
    | none, some (a, b, _) => some (.s ((l.drop a).take (b - a)))
    | _, _ => none
  | .slice sz, .sl xs n tk => match bnds n lo hi mx with
    | some (a, b, m) => bif Nat.beq xs.length (n * sz) then some (.sl ((xs.drop (a * sz)).take ((b - a) * sz)) (b - a) (slcTk a b n m tk)) else none
    | none => none
  | .slice sz, .hs id off n sz' => match bnds n lo hi mx with
    | some (a, b, none) => bif Nat.beq sz sz' then some (.hs id (off + a * sz) (b - a) sz) else none
    | _ => none
  | .arr n sz, .p id off => match bnds n lo hi mx with
    | some (a, b, none) => some (.hs id (off + a * sz) (b - a) sz)
    | _ => none
  | .arr n sz, .ip xs o => match bnds n lo hi mx, sub? xs o (n * sz) with
    | some (a, b, none), some ys => some (.sl ((ys.drop (a * sz)).take ((b - a) * sz)) (b - a) .no)
    | _, _ => none
  | _, _ => none

def convV (st : St) (c : CK) (x : V) : Option V :=
  match c, x with
  | .int k, .i _ n => some (.i k (wr k n))
  | .str, .s l => some (.s l)
  | .rune, .i _ n => some (.s (Utf8.encode n).data.toList)
  | .bytes, .s l => some (.sl (l.map byteV) l.length .no)
  | .runes, .s l => let r := runesL l.length l; some (.sl r r.length .no)
  | .uns, .p id o => match al st.h.objs id with
    | some (.cells _ cs) => bif Nat.blt o cs.length then some (.p id o) else none
    | _ => none
  | .toPtr u n, .p id 0 => match al st.h.objs id with
    | some (.cells ty cs) => bif Nat.beq ty u && Nat.beq cs.length n then some (.p id 0) else none
    | _ => none
  | .toStr, x => match st.row 1 x with
    | some (cs, _) => (bytesOf? cs).map .s
    | none => none
  | .fromRunes, x => match st.row 1 x with
    | some (cs, _) => (runesOf? cs).map .s
    | none => none
  | _, _ => none

def evL (st : St) : List Opd → List V
  | [] => []
  | x :: r => st.ev x :: evL st r

def evP (st : St) : List (Nat × Nat × Opd) → List (Nat × Nat × V)
  | [] => []
  | (a, b, x) :: r => (a, b, st.ev x) :: evP st r

def evB (st : St) (sz : Nat) : List (Nat × Opd) → List (Nat × Nat × V)
  | [] => []
  | (a, x) :: r => (a * sz, sz, st.ev x) :: evB st sz r

def evO (st : St) : Option Opd → Option V
  | none => none
  | some x => some (st.ev x)

/-- An element of a text or of an array. -/
def idxV (k : XK) (x i : V) : Option V :=
  match natOf i with
  | none => none
  | some j => match k, x with
    | .str, .s l => match l[j]? with
      | some c => some (byteV c)
      | none => none
    | .arr len sz agg, .agg cs => bif Nat.blt j len then part? cs (j * sz) sz agg else none
    | _, _ => none

/-- A type assertion. -/
def tasV (conc : Bool) (oks bads : List TypeId) (z : V) (ok : Bool) : V → Option V
  | .nili => bif ok then some (.tup [z, .b false]) else none
  | .ifc t v => bif oks.contains t then
        (bif ok then some (.tup [bif conc then v.val else .ifc t v, .b true]) else some (bif conc then v.val else .ifc t v))
      else (bif ok && bads.contains t then some (.tup [z, .b false]) else none)
  | _ => none

/-- One operation that is no call: its value, and the state. 'd': where the value goes. -/
def step (st : St) (d : Nat) : AOp → Option (V × St)
  | .mov x => match st.raw x with
    | .it => none
    | v => some (v, st)
  | .movnil ty => let (t, h) := st.h.tok 0 ty; some (.sl [] 0 (.own t), { st with h })
  | .pick c a b => match st.ev c with
    | .b x => some (bif x then st.ev a else st.ev b, st)
    | _ => none
  | .alloc ty cs => let (id, h) := st.h.new (.cells ty cs); some (.p id 0, { st with h })
  | .box ty x => match (st.ev x).cells? with
    | some cs => let (id, h) := st.h.new (.cells ty cs); some (.p id 0, { st with h })
    | none => none
  | .lalloc cs ks => some (.l d 0, { st with T := st.T.kill ks, loc := alSet st.loc d cs })
  | .lbox x ks => match (st.ev x).cells? with
    | some cs => some (.l d 0, { st with T := st.T.kill ks, loc := alSet st.loc d cs })
    | none => none
  | .build z ps => match fill z (evP st ps) with
    | some cs => some (.agg cs, st)
    | none => none
  | .bslice mt ty sz len z ps => match fill (zeros z len) (evB st sz ps) with
    | some cs => bif mt then (let (id, h) := st.h.new (.cells ty cs); some (.hs id 0 len sz, { st with h })) else some (.sl cs len .full, st)
    | none => none
  | .load agg n a => match st.rd (st.raw a) n with
    | some cs => bif agg then some (.agg cs, st) else (match cs with | [v] => some (v.val, st) | _ => none)
    | none => none
  | .store n a x => match (st.ev x).cells? with
    | some cs => bif Nat.beq cs.length n && allOne cs then (st.wrt (st.raw a) cs).map (.any, ·) else none
    | none => none
  | .nilck x => match st.raw x with
    | .p a o => some (.p a o, st)
    | .l a o => some (.l a o, st)
    | .ip (x :: xs) o => some (.ip (x :: xs) o, st)
    | .fn f a b => some (.fn f a b, st)
    | .ifc t v => some (.ifc t v, st)
    | _ => none
  | .bin op x y => (bin op (st.ev x) (st.ev y)).map (·, st)
  | .eq neg t x y => (eqV t (st.ev x) (st.ev y)).map fun b => (.b (b != neg), st)
  | .un op x => (un op (st.ev x)).map (·, st)
  | .conv c x => (convV st c (st.ev x)).map (·, st)
  | .mkif t x => some (.ifc t (st.ev x), st)
  | .mkfn f a b => some (.fn f (evL st a) (evL st b), st)
  | .slc k x lo hi mx => (slcV k (st.ev x) (evO st lo) (evO st hi) (evO st mx)).map (·, st)
  | .faddr off x => match st.raw x with
    | .ip (x :: xs) o => some (.ip (x :: xs) (o + off), st)
    | .l a o => some (.l a (o + off), st)
    | .p a o => some (.p a (o + off), st)
    | _ => none
  | .fld agg off n x => match st.ev x with
    | .agg cs => (part? cs off n agg).map (·, st)
    | _ => none
  | .iaddr k x i => match natOf (st.ev i), k, st.raw x with
    | some j, .slice sz, .sl xs n _ => bif Nat.blt j n && Nat.ble ((j + 1) * sz) xs.length then some (.ip xs (j * sz), st) else none
    | some j, .slice sz, .hs id off n sz' => bif Nat.blt j n && Nat.beq sz sz' then some (.p id (off + j * sz), st) else none
    | some j, .arr len sz, .ip (x :: xs) o => bif Nat.blt j len then some (.ip (x :: xs) (o + j * sz), st) else none
    | some j, .arr len sz, .l a o => bif Nat.blt j len then some (.l a (o + j * sz), st) else none
    | some j, .arr len sz, .p a o => bif Nat.blt j len then some (.p a (o + j * sz), st) else none
    | _, _, _ => none
  | .idx k x i => (idxV k (st.ev x) (st.ev i)).map (·, st)
  | .len k x => match k, st.ev x with
    | .str, .s l => some (.i .i64 l.length, st)
    | .slice, .sl _ n _ => some (.i .i64 n, st)
    | .slice, .hs _ _ n _ => some (.i .i64 n, st)
    | .map, .m none => some (.i .i64 0, st)
    | .map, .m (some id) => match al st.h.objs id with
      | some (.map es) => some (.i .i64 es.length, st)
      | _ => none
    | .arr n, _ => some (.i .i64 n, st)
    | _, _ => none
  | .cap x => match st.ev x with
    | .sl _ n .full => some (.i .i64 n, st)
    | .sl _ _ .nil => some (.i .i64 0, st)
    | _ => none
  | .app ty sz x y => st.app ty sz (st.ev x) (st.ev y)
  | .copy sz x y => match st.ev x, st.row sz (st.ev y) with
    | .hs id off n sz', some (ys, m) => match al st.h.objs id with
      | some (.cells ty cs) =>
        let k := min n m
        bif Nat.beq sz sz' && Nat.ble (off + k * sz) cs.length && allOne ys then
          some (.i .i64 k, { st with h := st.h.setObj id (.cells ty (splice cs off (ys.take (k * sz)))) }) else none
      | _ => none
    | .sl [] 0 _, some _ => some (.i .i64 0, st)
    | _, _ => none
  | .mkslice mt ty sz z len cap => match natOf (st.ev len), natOf (st.ev cap) with
    | some n, some c => bif Nat.ble n c && Nat.ble c most then
        (bif mt then (let (id, h) := st.h.new (.cells ty (zeros z c)); some (.hs id 0 n sz, { st with h }))
         else (let (t, h) := st.h.tok n ty; some (.sl (zeros z n) n (.own t), { st with h }))) else none
    | _, _ => none
  | .ext x i => match st.ev x with
    | .tup vs => vs[i]?.map fun v => (v.val, st)
    | _ => none
  | .minmax mx x y => match st.ev x, st.ev y with
    | .i k a, .i _ b => some (.i k (bif mx then (if b > a then b else a) else (if b < a then b else a)), st)
    | _, _ => none
  | .noesc _ x => match st.ev x with
    | .p a o => some (.p a o, st)
    | _ => none
  | .sdata x => match st.ev x with
    | .sl [] n .nil => some (.sd [] n .nil, st)
    | .sl (x :: xs) n tk => bif Nat.beq n 0 then none else some (.sd (x :: xs) n tk, st)
    | _ => none
  | .ustr ty x n => match st.ev x, natOf (st.ev n) with
    | .sd xs n tk, some m => bif Nat.beq m n && Nat.beq xs.length n && Nat.ble n most then
        (bif Nat.beq n 0 then some (.s [], st) else
         match tk with
         | .own t => match al st.h.tips t with
           | some (c, u) => bif Nat.beq c n && Nat.beq u ty then (bytesOf? xs).map fun l => (.s l, st) else none
           | none => none
         | _ => none) else none
    | _, _ => none
  | .tas conc oks bads z ok x => (tasV conc oks bads z ok (st.ev x)).map (·, st)
  | .range x => match st.ev x with
    | .s l => some (.it, { st with T := st.T.kill [d], its := alSet st.its d (l, 0) })
    | _ => none
  | .next slot => match st.T.get slot, al st.its slot with
    | .it, some (l, pos) => match l with
      | [] => some (.tup [.b false], st)
      | _ :: _ => some (.tup [.b true, .i .i64 pos, .i .i32 (dec l).1], { st with its := alSet st.its slot (l.drop (dec l).2, pos + (dec l).2) })
    | _, _ => none
  | .call .. => none
  | .callv .. => none
  | .bad => none

/-- What a call calls. -/
def callee (st : St) : AOp → Option (Bool × FuncId × List V)
  | .call p f args => some (p, f, evL st args)
  | .callv p x args => match st.ev x with
    | .fn f first cap => some (p, f, first ++ evL st args ++ cap)
    | _ => none
  | _ => none

def wanted (st : St) (o : AOper) : Option Bool :=
  match o.guard with
  | none => some true
  | some (t, w) => match st.T.get t with
    | .b x => some (x == w)
    | .tup [] => some false
    | _ => none

/-! ### What goes into a pure call, and what comes out of it -/
mutual
/-- Without what only the caller may use. -/
def V.strip : V → V
  | .sl xs n tk => .sl (stripL xs) n tk.cp
  | .ip xs o => .ip (stripL xs) o
  | .sd _ _ _ => .any
  | .hs _ _ _ _ => .any
  | .p _ _ => .any
  | .l _ _ => .any
  | .it => .any
  | .m (some _) => .any
  | .fn f a b => .fn f (stripL a) (stripL b)
  | .ifc t v => .ifc t v.strip
  | .agg cs => .agg (stripL cs)
  | .tup cs => .tup (stripL cs)
  | v => v
def stripL : List V → List V
  | [] => []
  | v :: r => v.strip :: stripL r
end

/-- What the call's own memory held, as plain values. -/
def frz (h : H) : Nat → V → V
  | 0, _ => .any
  | f + 1, v => match v with
    | .sl xs n tk => .sl (xs.map (frz h f)) n tk.cp
    | .ip xs o => .ip (xs.map (frz h f)) o
    | .sd _ _ _ => .any
    | .hs id off n sz => match al h.objs id with
      | some (.cells _ cs) => match sub? cs off (n * sz) with
        | some xs => .sl (xs.map (frz h f)) n .no
        | none => .any
      | _ => .any
    | .p id o => match al h.objs id with
      | some (.cells _ cs) => bif Nat.blt o cs.length then .ip (cs.map (frz h f)) o else .any
      | _ => .any
    | .l _ _ => .any
    | .it => .any
    | .m (some _) => .any
    | .fn g a b => .fn g (a.map (frz h f)) (b.map (frz h f))
    | .ifc t v => .ifc t (frz h f v)
    | .agg cs => .agg (cs.map (frz h f))
    | .tup cs => .tup (cs.map (frz h f))
    | v => v

def resV (st : St) : List ARes → Option (List V)
  | [] => some []
  | .tmp t :: r => (resV st r).map ((st.ev (.t t)) :: ·)
  | .cell a agg n :: r => match st.rd (st.T.get a) n with
    | some cs => match resV st r with
      | some vs => bif agg then some (.agg cs :: vs) else (match cs with | [v] => some (v.val :: vs) | _ => none)
      | none => none
    | none => none

def oneOf : List V → V
  | [v] => v
  | vs => .tup vs

def args0 (t : T) : Nat → List V → T
  | _, [] => t
  | i, v :: r => args0 (t.set i v.val) (i + 1) r

def St.init (gl : Nat → List V) (depth : Nat) (args : List V) (h : H) : St := { gl, T := args0 (T.mk depth) 0 args, its := [], loc := [], h }

/-- The state in which a function begins. -/
def St.enter (gl : Nat → List V) (fn : AFunc) (p : Bool) (args : List V) (h : H) : St :=
  bif p then St.init gl fn.depth (stripL args) {} else St.init gl fn.depth args h

/-- What a call hands back, and the memory behind it. -/
def leave (fn : AFunc) (p : Bool) (h : H) (st1 : St) : Option (V × H) :=
  match resV st1 fn.res with
  | none => none
  | some vs => bif p then some (frz st1.h 100 (oneOf vs), h) else some (oneOf vs, st1.h)

def AEx.ends : AEx → Bool
  | .exit _ => false
  | _ => true

/-! ### The evaluator -/
inductive Tk1 where
  | ops (l : List AOper)
  | code (c : AC)

/-- Runs code; fuel bounds the depth. 'none': stuck, or no fuel. -/
def run (tab : FuncId → Option AFunc) (xf : FuncId → List V → Option V) : Nat → Tk1 → St → Option (AEx × St)
  | 0, _, _ => none
  | f + 1, .ops l, st => match l with
    | [] => some (.norm, st)
    | o :: r => match wanted st o with
      | none => none
      | some false => run tab xf f (.ops r) (st.put o.dst (.tup []))
      | some true => match callee st o.op with
        | none => match step st (o.dst.getD 0) o.op with
          | some (v, st') => run tab xf f (.ops r) (st'.put o.dst v)
          | none => none
        | some (p, g, args) => match tab g with
          | none => match xf g args with
            | some v => run tab xf f (.ops r) (st.put o.dst v)
            | none => none
          | some fn => bif Nat.ble args.length fn.n then
              match run tab xf f (.code fn.body) (St.enter st.gl fn p args st.h) with
              | some (ex, st1) => bif ex.ends then
                  match leave fn p st.h st1 with
                  | some (v, h) => run tab xf f (.ops r) ({ st with h }.put o.dst v)
                  | none => none else none
              | none => none else none
  | f + 1, .code c, st => match c with
    | .skip => some (.norm, st)
    | .ret => some (.ret, st)
    | .exit id => some (.exit id, st)
    | .reg ops => run tab xf f (.ops ops) st
    | .seq a b => match run tab xf f (.code a) st with
      | some (.norm, st') => run tab xf f (.code b) st'
      | r => r
    | .cond c a b => match st.ev c with
      | .b x => bif x then run tab xf f (.code a) st else run tab xf f (.code b) st
      | _ => none
    | .blk id c => match run tab xf f (.code c) st with
      | some (.exit j, st') => bif Nat.beq j id then some (.norm, st') else some (.exit j, st')
      | r => r
    | .loop c => match run tab xf f (.code c) st with
      | some (.norm, st') => run tab xf f (.code (.loop c)) st'
      | r => r
    | .refuse => none

def runF (gl : Nat → List V) (tab : FuncId → Option AFunc) (xf : FuncId → List V → Option V) (fuel : Nat) (g : FuncId) (args : List V) : Option V :=
  match tab g with
  | none => none
  | some fn => bif Nat.ble args.length fn.n then
    match run tab xf fuel (.code fn.body) (St.enter gl fn true args {}) with
    | some (ex, st1) => bif ex.ends then (leave fn true {} st1).map (·.1) else none
    | none => none else none

end Ai
