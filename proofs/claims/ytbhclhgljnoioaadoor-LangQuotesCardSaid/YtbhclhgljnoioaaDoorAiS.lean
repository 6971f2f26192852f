/- The abstract interpreter: does our code match the model's? -/
import Derived.Test.YtbhclhgljnoioaaDoorAiR
import Derived.Test.YtbhclhgljnoioaaDoorAiH
namespace Ai
open Go

/-- Where a temporary that may hold a pointer to the frame's own variable is copied to. -/
def rawOk (kl : List (Nat × List Nat)) (d : Nat) : Opd → Bool
  | .t i => kl.all fun x => !x.2.contains i || x.2.contains d
  | _ => true

def lOk (kl : List (Nat × List Nat)) (d : Nat) (ks : List Nat) : Bool :=
  match al kl d with
  | some ks' => decide (ks' = ks) && ks.contains d
  | none => false

def placesOf (P : Program) : List Field → Option (List (Nat × Nat))
  | [] => some []
  | f :: r => match szOf P f.type, placesOf P r with
    | some n, some l => some ((f.offset, n) :: l)
    | _, _ => none

def partsOk (n : Nat) (place : Nat → Option (Nat × Nat)) : List (Nat × Operand) → List (Nat × Nat × Opd) → Bool
  | [], [] => true
  | (i, x) :: r, (off, k, ax) :: s => decide (place i = some (off, k)) && opdOk n x ax && partsOk n place r s
  | _, _ => false

def bpartsOk (n : Nat) : List (Nat × Operand) → List (Nat × Opd) → Bool
  | [], [] => true
  | (i, x) :: r, (j, ax) :: s => Nat.beq i j && opdOk n x ax && bpartsOk n r s
  | _, _ => false

def optOk (n : Nat) : Option Operand → Option Opd → Bool
  | none, none => true
  | some x, some ax => opdOk n x ax
  | _, _ => false

def opdsOk (n : Nat) : List Operand → List Opd → Bool
  | [], [] => true
  | x :: r, ax :: s => opdOk n x ax && opdsOk n r s
  | _, _ => false

def buildOk (P : Program) (n : Nat) (t : TypeId) (parts : List (Nat × Operand)) (z : List V) (ps : List (Nat × Nat × Opd)) : Bool :=
  (match P.info? t with
   | some i => (match i.zero with | some v => csOk z v.cells.toList | none => false)
   | none => false) &&
  (match P.underlying t with
   | some (.struct fields) => (match placesOf P fields.toList with
     | some l => partsOk n (fun i => l[i]?) parts ps
     | none => false)
   | some (.array _ e) => (match szOf P e with
     | some s => partsOk n (fun i => some (i * s, s)) parts ps
     | none => false)
   | _ => false)

def faddrOk (P : Program) (t : TypeId) (field off : Nat) : Bool :=
  match P.underlying t with
  | some (.struct fields) => (match fields[field]? with
    | some f => Nat.beq f.offset off && (match szOf P f.type with | some (_ + 1) => true | _ => false)
    | none => false)
  | _ => false

def fldOk (P : Program) (t : TypeId) (field : Nat) (agg : Bool) (off n : Nat) : Bool :=
  match P.underlying t with
  | some (.struct fields) => (match fields[field]? with
    | some f => Nat.beq f.offset off && decide (szOf P f.type = some n) && decide (aggOf P f.type = some agg) && (agg || Nat.beq n 1)
    | none => false)
  | _ => false

def ikOk (P : Program) (t : TypeId) : IK → Bool
  | .slice sz => match P.underlying t with
    | some (.slice e) => decide (szOf P e = some sz) && Nat.blt 0 sz
    | _ => false
  | .arr len sz => match P.underlying t with
    | some (.array m e) => Nat.beq m len && decide (szOf P e = some sz) && Nat.blt 0 sz
    | _ => false

def xkOk (P : Program) (t : TypeId) : XK → Bool
  | .str => isStr P t
  | .arr len sz agg => match P.underlying t with
    | some (.array m e) => Nat.beq m len && decide (szOf P e = some sz) && decide (aggOf P e = some agg) && (agg || Nat.beq sz 1)
    | _ => false

def lkOk (P : Program) (t : TypeId) : LK → Bool
  | .str => isStr P t
  | .slice => match P.underlying t with | some (.slice _) => true | _ => false
  | .map => match P.underlying t with | some (.map _ _) => true | _ => false
  | .arr n => match P.underlying t with | some (.array m _) => Nat.beq m n | _ => false

def memOk (P : Program) (t : TypeId) (agg : Bool) (n : Nat) : Bool :=
  decide (aggOf P t = some agg) && decide (szOf P t = some n) && (agg || Nat.beq n 1) && Nat.blt 0 n

def isConstO : Operand → Bool
  | .const _ => true
  | _ => false

def eqOk (P : Program) (t : TypeId) (et : ET) (x y : Operand) : Bool :=
  etOk P 100 t et &&
  (match et with
   | .iface => isConstO x || isConstO y
   | .struct _ => !P.eqGuardType P.depth t
   | .bool => true
   | .ptr => true
   | _ => false)

/-- Is there a method that a type lacks? -/
def lacks (want : Array (String × TypeId)) (got : Array Method) : Bool := want.toList.any fun x => !got.any fun m => m.name == x.1 && m.sig == x.2

theorem least_some {l : List String} (h : l ≠ []) : ∃ s, Instr.least l = some s := by
  cases l with
  | nil => exact absurd rfl h
  | cons x r => exact ⟨_, rfl⟩

theorem least_parts (p : String → Bool) (q : String → String) {missing : List String} {x : String} (hx : x ∈ missing) :
    ∃ s, (Instr.least (missing.filter (not ∘ p)) <|> Instr.least ((missing.filter p).map q)) = some s := by
  cases hq : Instr.least (missing.filter (not ∘ p)) with
  | some u => exact ⟨u, rfl⟩
  | none =>
    have he : missing.filter (not ∘ p) = [] := by
      cases hl : missing.filter (not ∘ p) with
      | nil => rfl
      | cons a r => rw [hl] at hq; cases hq
    have hp : p x = true := by
      cases hp : p x with
      | true => rfl
      | false =>
        have : x ∈ missing.filter (not ∘ p) := List.mem_filter.2 ⟨hx, by simp [hp]⟩
        rw [he] at this
        cases this
    have : (missing.filter p).map q ≠ [] := by
      intro e
      rw [List.map_eq_nil_iff] at e
      have := List.mem_filter.2 ⟨hx, hp⟩
      rw [e] at this
      cases this
    obtain ⟨s, hs⟩ := least_some this
    exact ⟨s, hs⟩

theorem lacks_some {want : Array (String × TypeId)} {got : Array Method} (h : lacks want got = true) : ∃ s, Instr.missingMethod want got = some s := by
  unfold lacks at h
  rw [List.any_eq_true] at h
  obtain ⟨x, hx, hl⟩ := h
  unfold Instr.missingMethod
  generalize hm : (want.toList.filter fun (name, sig) => !got.any fun m => m.name == name && m.sig == sig).map (·.1) = missing
  have hmem : x.1 ∈ missing := by
    rw [← hm, List.mem_map]
    exact ⟨x, by rw [List.mem_filter]; exact ⟨hx, hl⟩, rfl⟩
  show ∃ s, (match List.partition (fun x : String => x.contains (Char.ofNat 46)) missing with | (unexported, exported) => Instr.least exported <|> Instr.least (unexported.map fun id => (id.splitOn ".").getLastD id)) = some s
  rw [List.partition_eq_filter_filter]
  exact least_parts _ _ hmem

def tasOk (P : Program) (asserted : TypeId) (conc : Bool) (oks bads : List TypeId) (z : V) (ok : Bool) : Bool :=
  (match P.info? asserted with
   | some i => (match i.zero with | some v => !ok || cOk z v | none => false)
   | none => false) &&
  (match P.underlying asserted with
   | some (.interface want) => !conc && (oks.all fun t => match P.info? t with | some i => decide (Instr.missingMethod want i.methods = none) | none => false) &&
     (bads.all fun t => match P.info? t with | some i => lacks want i.methods | none => false)
   | some _ => conc && (oks.all fun t => Nat.beq t asserted) && (bads.all fun t => !Nat.beq t asserted)
   | none => false)

/-- What is known of functions without a body: which hand back their one argument. -/
structure Known where
  same : List FuncId

def builtinOk (P : Program) (n : Nat) (b : Builtin) (args : List Operand) (at_ : Array TypeId) (a : AOp) : Bool :=
  match b, args, a with
  | .len, [x], .len k ax => opdOk n x ax && (match at_.toList with | [t] => lkOk P t k | _ => false)
  | .cap, [x], .cap ax => opdOk n x ax && (match at_.toList with | [t] => lkOk P t .slice | _ => false)
  | .append, [x, y], .app ty sz ax ay => opdOk n x ax && opdOk n y ay && appOk P at_ ty sz
  | .copy, [x, y], .copy sz ax ay => opdOk n x ax && opdOk n y ay && copyOk P at_ sz
  | .min, [x, y], .minmax false ax ay => opdOk n x ax && opdOk n y ay
  | .max, [x, y], .minmax true ax ay => opdOk n x ax && opdOk n y ay
  | .unsafeSliceData, [x], .sdata ax => opdOk n x ax
  | .unsafeString, [x, y], .ustr ty ax ay => opdOk n x ax && opdOk n y ay && ustrOk P at_ ty
  | _, _, _ => false

/-- An operation that is no call of a function. -/
def opChk (P : Program) (K : Known) (n : Nat) (kl : List (Nat × List Nat)) (dst : Option Nat) (op : Op) (a : AOp) : Bool :=
  match op, a with
  | .move x, .mov ax => opdOk n x ax && (match dst with | some d => rawOk kl d ax | none => false)
  | .assign x, .mov ax => opdOk n x ax && (match dst with | some d => rawOk kl d ax | none => false)
  | .assign (.const (.slice none 0 0)), .movnil _ => true
  | .pick c x y, .pick ac ax ay => opdOk n c ac && opdOk n x ax && opdOk n y ay
  | .alloc e, .alloc ty cs => Nat.beq e ty && zOk P e cs cs.length
  | .alloc e, .lalloc cs ks => zOk P e cs cs.length && (match dst with | some d => lOk kl d ks | none => false)
  | .box e x, .box ty ax => Nat.beq e ty && opdOk n x ax
  | .box _ x, .lbox ax ks => opdOk n x ax && (match dst with | some d => lOk kl d ks | none => false)
  | .build t parts, .build z ps => buildOk P n t parts.toList z ps
  | .buildSlice t len parts, .bslice _ ty sz len' z ps =>
    (match P.underlying t with | some (.slice e) => Nat.beq e ty | _ => false) && zOk P ty z sz && Nat.beq len len' && Nat.ble (len * sz) 16777216 && bpartsOk n parts.toList ps
  | .load t x, .load agg k ax => opdOk n x ax && memOk P t agg k
  | .store t x y, .store k ax ay => opdOk n x ax && opdOk n y ay && decide (szOf P t = some k)
  | .nilCheck x, .nilck ax => opdOk n x ax && (match dst with | some d => rawOk kl d ax | none => false)
  | .binOp .eql t x y _, .eq false et ax ay => opdOk n x ax && opdOk n y ay && eqOk P t et x y
  | .binOp .neq t x y _, .eq true et ax ay => opdOk n x ax && opdOk n y ay && eqOk P t et x y
  | .binOp op _ x y _, .bin op' ax ay => decide (op = op') && opdOk n x ax && opdOk n y ay
  | .unOp op _ x, .un op' ax => decide (op = op') && opdOk n x ax
  | .convert src dst' x, .conv c ax => opdOk n x ax && ckOk P src dst' c
  | .makeInterface t x, .mkif t' ax => Nat.beq t t' && opdOk n x ax && (match P.underlying t with | some (.interface _) => false | some _ => true | none => false)
  | .makeFunc (.func f) first cap, .mkfn f' af ac => Nat.beq f f' && opdsOk n first.toList af && opdsOk n cap.toList ac
  | .slice t x lo hi mx, .slc k ax alo ahi amx => opdOk n x ax && skOk P t k && optOk n lo alo && optOk n hi ahi && optOk n mx amx && (mx.isNone || hi.isSome)
  | .fieldAddr t x f, .faddr off ax => opdOk n x ax && faddrOk P t f off && (match dst with | some d => rawOk kl d ax | none => false)
  | .field t x f, .fld agg off k ax => opdOk n x ax && fldOk P t f agg off k
  | .indexAddr t x i, .iaddr k ax ai => opdOk n x ax && opdOk n i ai && ikOk P t k && (match dst with | some d => rawOk kl d ax | none => false)
  | .index t x i, .idx k ax ai => opdOk n x ax && opdOk n i ai && xkOk P t k
  | .makeSlice t l c, .mkslice _ ty sz z al' ac => (match P.underlying t with | some (.slice e) => Nat.beq e ty | _ => false) && zOk P ty z sz && opdOk n l al' && opdOk n c ac
  | .range t x, .range ax => opdOk n x ax && isStr P t && dst.isSome
  | .next (.tmp s) true, .next s' => Nat.beq s s' && Nat.blt s n
  | .typeAssert x _ asserted ok, .tas conc oks bads z ok' ax => opdOk n x ax && (ok == ok') && tasOk P asserted conc oks bads z ok
  | .extract x i, .ext ax j => opdOk n x ax && Nat.beq i j
  | .call { callee := .builtin b, args, argTypes }, a => builtinOk P n b args.toList argTypes a
  | .call { callee := .value (.func f), args, argTypes := _ }, .noesc g ax => Nat.beq f g && K.same.contains f && (match args.toList with | [x] => opdOk n x ax | _ => false)
  | _, _ => false

end Ai
