/- The abstract interpreter: values, states and one step. Values are plain trees; memory that is never written again is a list. -/
import Derived.Calls
import Derived.Laws.Sem
namespace Ai
open Go

/-- May a slice be appended to? 'full': its capacity is its length; 'own t': whoever holds the token's tip may; 'no': unknown. -/
inductive Tk where
  | no | full | nil | own (t : Nat)
  deriving DecidableEq

/-- What a copy may do. -/
def Tk.cp : Tk → Tk
  | .own _ => .no
  | t => t

inductive V where
  | any
  | b (x : Bool)
  | i (k : IntKind) (n : Int)
  | s (l : List UInt8)
  | sl (xs : List V) (n : Nat) (t : Tk)
  | ip (xs : List V) (o : Nat)
  | sd (xs : List V) (n : Nat) (t : Tk)
  | hs (id off n sz : Nat)
  | p (id off : Nat)
  | l (d off : Nat)
  | nilp
  | m (r : Option Nat)
  | fn (f : FuncId) (first cap : List V)
  | nilf
  | ifc (t : TypeId) (v : V)
  | nili
  | agg (cs : List V)
  | tup (vs : List V)
  | it
  deriving Inhabited

/-- What may be copied: no pointer to a frame's own variables, no iterator. -/
def V.val : V → V
  | .l _ _ => .any
  | .it => .any
  | v => v

/-- The value of one cell, known to be one. -/
def V.one : V → Bool
  | .any | .agg _ | .tup _ | .it | .l _ _ | .sd _ _ _ => false
  | _ => true

/-- A value's cells, where it is known how many they are. -/
def V.cells? : V → Option (List V)
  | .agg cs => some cs
  | v => bif v.one then some [v] else none

/-! ### Temporaries: a tree, so that look-ups are short -/
inductive T where
  | leaf
  | node (l : T) (v : V) (r : T)

def T.mk : Nat → T
  | 0 => .leaf
  | d + 1 => .node (T.mk d) .any (T.mk d)

def T.get : T → Nat → V
  | .leaf, _ => .any
  | .node l v r, i => bif Nat.beq i 0 then v else bif Nat.beq (i % 2) 1 then l.get ((i - 1) / 2) else r.get ((i - 1) / 2)

def T.set : T → Nat → V → T
  | .leaf, _, _ => .leaf
  | .node l v r, i, x => bif Nat.beq i 0 then .node l x r else bif Nat.beq (i % 2) 1 then .node (l.set ((i - 1) / 2) x) v r else .node l v (r.set ((i - 1) / 2) x)

/-! ### Lists by number -/
def al {α : Type} : List (Nat × α) → Nat → Option α
  | [], _ => none
  | (k, v) :: r, j => bif Nat.beq k j then some v else al r j

def alSet {α : Type} : List (Nat × α) → Nat → α → List (Nat × α)
  | [], j, x => [(j, x)]
  | (k, v) :: r, j, x => bif Nat.beq k j then (k, x) :: r else (k, v) :: alSet r j x

/-! ### The shared memory -/
inductive Obj where
  | cells (ty : TypeId) (cs : List V)
  | map (es : List (V × V))

structure H where
  next : Nat := 0
  objs : List (Nat × Obj) := []
  nt : Nat := 0
  tips : List (Nat × (Nat × TypeId)) := []

structure St where
  gl : Nat → List V
  T : T
  its : List (Nat × (List UInt8 × Nat))
  loc : List (Nat × List V)
  h : H

/-! ### The code -/
inductive Opd where
  | t (i : Nat)
  | k (v : V)
  | f (f : FuncId)
  | g (g : Nat)

/-- How two values of a type are compared. -/
inductive ET where
  | bool | int | str | ptr | iface
  | struct (fs : List (Nat × Nat × Bool × ET))   -- offset, cells, is it an aggregate

inductive CK where
  | int (k : IntKind) | bytes | toStr | runes | fromRunes | rune | str | uns | toPtr (u : TypeId) (n : Nat)

inductive SK where
  | str | slice (sz : Nat) | arr (n sz : Nat)

inductive IK where
  | slice (sz : Nat) | arr (len sz : Nat)

inductive XK where
  | str | arr (len sz : Nat) (agg : Bool)

inductive LK where
  | str | slice | map | arr (n : Nat)

inductive AOp where
  | mov (x : Opd)
  | movnil (ty : TypeId)
  | pick (c a b : Opd)
  | alloc (ty : TypeId) (cs : List V)
  | box (ty : TypeId) (x : Opd)
  | lalloc (cs : List V) (ks : List Nat)
  | lbox (x : Opd) (ks : List Nat)
  | build (zero : List V) (ps : List (Nat × Nat × Opd))
  | bslice (mt : Bool) (ty : TypeId) (sz len : Nat) (zero : List V) (ps : List (Nat × Opd))
  | load (agg : Bool) (n : Nat) (a : Opd)
  | store (n : Nat) (a x : Opd)
  | nilck (x : Opd)
  | bin (op : BinOp) (x y : Opd)
  | eq (neg : Bool) (t : ET) (x y : Opd)
  | un (op : UnOp) (x : Opd)
  | conv (c : CK) (x : Opd)
  | mkif (t : TypeId) (x : Opd)
  | mkfn (f : FuncId) (first cap : List Opd)
  | slc (k : SK) (x : Opd) (lo hi mx : Option Opd)
  | faddr (off : Nat) (x : Opd)
  | fld (agg : Bool) (off n : Nat) (x : Opd)
  | iaddr (k : IK) (x i : Opd)
  | idx (k : XK) (x i : Opd)
  | len (k : LK) (x : Opd)
  | cap (x : Opd)
  | app (ty : TypeId) (sz : Nat) (x y : Opd)
  | copy (sz : Nat) (x y : Opd)
  | mkslice (mt : Bool) (ty : TypeId) (sz : Nat) (zero : List V) (len cap : Opd)
  | ext (x : Opd) (i : Nat)
  | minmax (mx : Bool) (x y : Opd)
  | noesc (f : FuncId) (x : Opd)
  | sdata (x : Opd)
  | ustr (ty : TypeId) (x n : Opd)
  | tas (conc : Bool) (oks bads : List TypeId) (zero : V) (ok : Bool) (x : Opd)
  | range (x : Opd)
  | next (slot : Nat)
  | call (pure : Bool) (f : FuncId) (args : List Opd)
  | callv (pure : Bool) (x : Opd) (args : List Opd)
  | bad

structure AOper where
  dst : Option Nat
  op : AOp
  guard : Option (Nat × Bool)

inductive AC where
  | skip
  | ret
  | exit (id : Nat)
  | reg (ops : List AOper)
  | seq (a b : AC)
  | cond (c : Opd) (a b : AC)
  | blk (id : Nat) (c : AC)
  | loop (c : AC)
  | refuse

inductive ARes where
  | tmp (t : Nat)
  | cell (a : Nat) (agg : Bool) (n : Nat)

structure AFunc where
  n : Nat
  depth : Nat
  kl : List (Nat × List Nat)
  res : List ARes
  body : AC

inductive AEx where
  | norm | ret | exit (id : Nat)

/-! ### Numbers -/
def lo (h m n : Int) : Int := if h ≤ n % m then n % m - m else n % m
def wr : IntKind → Int → Int
  | .i64, n => lo 9223372036854775808 18446744073709551616 n
  | .u64, n => n % 18446744073709551616
  | .i32, n => lo 2147483648 4294967296 n
  | .u32, n => n % 4294967296
  | .i16, n => lo 32768 65536 n
  | .u16, n => n % 65536
  | .i8, n => lo 128 256 n
  | .u8, n => n % 256

theorem wr_eq (k : IntKind) (n : Int) : k.wrap n = wr k n := by
  cases k <;> simp [IntKind.wrap, IntKind.bits, IntKind.signed, wr, lo]

/-! ### Text -/
/-- The rune at the head of a text, and how many bytes it has: the model's own decoding. -/
def dec (l : List UInt8) : Nat × Nat :=
  let at' (k : Nat) : Nat := ((l.getD k 0)).toNat
  let cont (k : Nat) : Bool := decide (k < l.length) && at' k / 64 == 2
  let b0 := at' 0
  if b0 < 0x80 then (b0, 1)
  else if b0 / 32 == 6 && cont 1 then
    let c := (b0 % 32) * 64 + at' 1 % 64
    if c ≥ 0x80 then (c, 2) else (Utf8.runeError, 1)
  else if b0 / 16 == 14 && cont 1 && cont 2 then
    let c := (b0 % 16) * 4096 + (at' 1 % 64) * 64 + at' 2 % 64
    if c ≥ 0x800 && Utf8.valid c then (c, 3) else (Utf8.runeError, 1)
  else if b0 / 8 == 30 && cont 1 && cont 2 && cont 3 then
    let c := (b0 % 8) * 262144 + (at' 1 % 64) * 4096 + (at' 2 % 64) * 64 + at' 3 % 64
    if c ≥ 0x10000 && Utf8.valid c then (c, 4) else (Utf8.runeError, 1)
  else (Utf8.runeError, 1)

def byteV (x : UInt8) : V := .i .u8 x.toNat

def bytesOf? : List V → Option (List UInt8)
  | [] => some []
  | .i .u8 n :: r => (bytesOf? r).map (UInt8.ofNat n.toNat :: ·)
  | _ => none

def strEq : List UInt8 → List UInt8 → Bool
  | [], [] => true
  | a :: x, b :: y => bif Nat.beq a.toNat b.toNat then strEq x y else false
  | _, _ => false

end Ai
