/- The abstract interpreter: does our code match the model's? The abstract interpreter: one operation is what the model does. The abstract interpreter: maps. The abstract interpreter: one operation is what the model does (addresses, memory, literals). The abstract interpreter: one operation is what the model does (literals, comparisons, the rest). The abstract interpreter: each operation that is no call of a function is what the model does. The abstract interpreter: each operation that is no call of a function is what the model does, all of them. -/
import Derived.Test.YtopbdgdfnmlldaaGreatDoorAi04
import Derived.Test.YtopbdgdfnmlldaaGreatDoorAi02
namespace Ai
open Go

/-- Where a temporary that may hold a pointer to the frame's own variable is copied to. -/
def rawOk (kl : List (Nat × List Nat)) (d : Nat) : Opd → Bool
  | .t i => kl.all fun x => !x.2.contains i || x.2.contains d
  | _ => true

def lOk (kl : List (Nat × List Nat)) (d : Nat) (ks : List Nat) : Bool :=
  match al kl d with
  | some ks' => decide (ks' = ks) && ks.contains d
  | none => false

def placesOf (P : Program) : List Field → Option (List (Nat × Nat))
  | [] => some []
  | f :: r => match szOf P f.type, placesOf P r with
    | some n, some l => some ((f.offset, n) :: l)
    | _, _ => none

def partsOk (n : Nat) (place : Nat → Option (Nat × Nat)) : List (Nat × Operand) → List (Nat × Nat × Opd) → Bool
  | [], [] => true
  | (i, x) :: r, (off, k, ax) :: s => decide (place i = some (off, k)) && opdOk n x ax && partsOk n place r s
  | _, _ => false

def bpartsOk (n : Nat) : List (Nat × Operand) → List (Nat × Opd) → Bool
  | [], [] => true
  | (i, x) :: r, (j, ax) :: s => Nat.beq i j && opdOk n x ax && bpartsOk n r s
  | _, _ => false

def optOk (n : Nat) : Option Operand → Option Opd → Bool
  | none, none => true
  | some x, some ax => opdOk n x ax
  | _, _ => false

def opdsOk (n : Nat) : List Operand → List Opd → Bool
  | [], [] => true
  | x :: r, ax :: s => opdOk n x ax && opdsOk n r s
  | _, _ => false

def buildOk (P : Program) (n : Nat) (t : TypeId) (parts : List (Nat × Operand)) (z : List V) (ps : List (Nat × Nat × Opd)) : Bool :=
  (match P.info? t with
   | some i => (match i.zero with | some v => csOk z v.cells.toList | none => false)
   | none => false) &&
  (match P.underlying t with
   | some (.struct fields) => (match placesOf P fields.toList with
     | some l => partsOk n (fun i => l[i]?) parts ps
     | none => false)
   | some (.array _ e) => (match szOf P e with
     | some s => partsOk n (fun i => some (i * s, s)) parts ps
     | none => false)
   | _ => false)

def faddrOk (P : Program) (t : TypeId) (field off : Nat) : Bool :=
  match P.underlying t with
  | some (.struct fields) => (match fields[field]? with
    | some f => Nat.beq f.offset off && (match szOf P f.type with | some (_ + 1) => true | _ => false)
    | none => false)
  | _ => false

def fldOk (P : Program) (t : TypeId) (field : Nat) (agg : Bool) (off n : Nat) : Bool :=
  match P.underlying t with
  | some (.struct fields) => (match fields[field]? with
    | some f => Nat.beq f.offset off && decide (szOf P f.type = some n) && decide (aggOf P f.type = some agg) && (agg || Nat.beq n 1)
    | none => false)
  | _ => false

def ikOk (P : Program) (t : TypeId) : IK → Bool
  | .slice sz => match P.underlying t with
    | some (.slice e) => decide (szOf P e = some sz) && Nat.blt 0 sz
    | _ => false
  | .arr len sz => match P.underlying t with
    | some (.array m e) => Nat.beq m len && decide (szOf P e = some sz) && Nat.blt 0 sz
    | _ => false

def xkOk (P : Program) (t : TypeId) : XK → Bool
  | .str => isStr P t
  | .arr len sz agg => match P.underlying t with
    | some (.array m e) => Nat.beq m len && decide (szOf P e = some sz) && decide (aggOf P e = some agg) && (agg || Nat.beq sz 1)
    | _ => false

def lkOk (P : Program) (t : TypeId) : LK → Bool
  | .str => isStr P t
  | .slice => match P.underlying t with | some (.slice _) => true | _ => false
  | .map => match P.underlying t with | some (.map _ _) => true | _ => false
  | .arr n => match P.underlying t with | some (.array m _) => Nat.beq m n | _ => false

def memOk (P : Program) (t : TypeId) (agg : Bool) (n : Nat) : Bool :=
  decide (aggOf P t = some agg) && decide (szOf P t = some n) && (agg || Nat.beq n 1) && Nat.blt 0 n

def isConstO : Operand → Bool
  | .const _ => true
  | _ => false

def eqOk (P : Program) (t : TypeId) (et : ET) (x y : Operand) : Bool :=
  etOk P 100 t et &&
  (match et with
   | .iface => isConstO x || isConstO y
   | .struct _ => !P.eqGuardType P.depth t
   | .bool => true
   | .ptr => true
   | .slnil => true
   | _ => false)

/-- Is there a method that a type lacks? -/
def lacks (want : Array (String × TypeId)) (got : Array Method) : Bool := want.toList.any fun x => !got.any fun m => m.name == x.1 && m.sig == x.2

theorem least_some {l : List String} (h : l ≠ []) : ∃ s, Instr.least l = some s := by
  cases l with
  | nil => exact absurd rfl h
  | cons x r => exact ⟨_, rfl⟩

theorem least_parts (p : String → Bool) (q : String → String) {missing : List String} {x : String} (hx : x ∈ missing) :
    ∃ s, (Instr.least (missing.filter (not ∘ p)) <|> Instr.least ((missing.filter p).map q)) = some s := by
  cases hq : Instr.least (missing.filter (not ∘ p)) with
  | some u => exact ⟨u, rfl⟩
  | none =>
    have he : missing.filter (not ∘ p) = [] := by
      cases hl : missing.filter (not ∘ p) with
      | nil => rfl
      | cons a r => rw [hl] at hq; cases hq
    have hp : p x = true := by
      cases hp : p x with
      | true => rfl
      | false =>
        have : x ∈ missing.filter (not ∘ p) := List.mem_filter.2 ⟨hx, by simp [hp]⟩
        rw [he] at this
        cases this
    have : (missing.filter p).map q ≠ [] := by
      intro e
      rw [List.map_eq_nil_iff] at e
      have := List.mem_filter.2 ⟨hx, hp⟩
      rw [e] at this
      cases this
    obtain ⟨s, hs⟩ := least_some this
    exact ⟨s, hs⟩

theorem lacks_some {want : Array (String × TypeId)} {got : Array Method} (h : lacks want got = true) : ∃ s, Instr.missingMethod want got = some s := by
  unfold lacks at h
  rw [List.any_eq_true] at h
  obtain ⟨x, hx, hl⟩ := h
  unfold Instr.missingMethod
  generalize hm : (want.toList.filter fun (name, sig) => !got.any fun m => m.name == name && m.sig == sig).map (·.1) = missing
  have hmem : x.1 ∈ missing := by
    rw [← hm, List.mem_map]
    exact ⟨x, by rw [List.mem_filter]; exact ⟨hx, hl⟩, rfl⟩
  show ∃ s, (match List.partition (fun x : String => x.contains (Char.ofNat 46)) missing with | (unexported, exported) => Instr.least exported <|> Instr.least (unexported.map fun id => (id.splitOn ".").getLastD id)) = some s
  rw [List.partition_eq_filter_filter]
  exact least_parts _ _ hmem

def tasOk (P : Program) (asserted : TypeId) (conc : Bool) (oks bads : List TypeId) (z : V) (ok : Bool) : Bool :=
  (match P.info? asserted with
   | some i => (match i.zero with | some v => !ok || cOk z v | none => false)
   | none => false) &&
  (match P.underlying asserted with
   | some (.interface want) => !conc && (oks.all fun t => match P.info? t with | some i => decide (Instr.missingMethod want i.methods = none) | none => false) &&
     (bads.all fun t => match P.info? t with | some i => lacks want i.methods | none => false)
   | some _ => conc && (oks.all fun t => Nat.beq t asserted) && (bads.all fun t => !Nat.beq t asserted)
   | none => false)

/-- What is known of functions without a body: which hand back their one argument. -/
structure Known where
  same : List FuncId

def keyOk (P : Program) (t : TypeId) : ET → Bool
  | .int => match P.underlying t with | some (.int _) => true | _ => false
  | .str => match P.underlying t with | some .string => true | _ => false
  | .bool => match P.underlying t with | some .bool => true | _ => false
  | _ => false

/-- A type of maps; the element's zero. -/
def mapOk (P : Program) (t : TypeId) (kt : ET) : Bool :=
  match P.underlying t with
  | some (.map k _) => keyOk P k kt
  | _ => false

def melOk (P : Program) (t : TypeId) (z : V) : Bool :=
  match P.underlying t with
  | some (.map _ e) => (match P.info? e with | some i => (match i.zero with | some v => cOk z v | none => false) | none => false)
  | _ => false

def builtinOk (P : Program) (n : Nat) (b : Builtin) (args : List Operand) (at_ : Array TypeId) (a : AOp) : Bool :=
  match b, args, a with
  | .len, [x], .len k ax => opdOk n x ax && (match at_.toList with | [t] => lkOk P t k | _ => false)
  | .cap, [x], .cap ax => opdOk n x ax && (match at_.toList with | [t] => lkOk P t .slice | _ => false)
  | .append, [x, y], .app ty sz ax ay => opdOk n x ax && opdOk n y ay && appOk P at_ ty sz
  | .append, [x, y], .appo ty sz ax ay => opdOk n x ax && opdOk n y ay && appOk P at_ ty sz
  | .copy, [x, y], .copy sz ax ay => opdOk n x ax && opdOk n y ay && copyOk P at_ sz
  | .min, [x, y], .minmax false ax ay => opdOk n x ax && opdOk n y ay
  | .max, [x, y], .minmax true ax ay => opdOk n x ax && opdOk n y ay
  | .min, [x, y, z], .mm3 false ax ay az => opdOk n x ax && opdOk n y ay && opdOk n z az
  | .max, [x, y, z], .mm3 true ax ay az => opdOk n x ax && opdOk n y ay && opdOk n z az
  | .delete, [x, y], .mdel kt ax ay => opdOk n x ax && opdOk n y ay && (match at_.toList with | t :: _ => mapOk P t kt | _ => false)
  | .unsafeSliceData, [x], .sdata ax => opdOk n x ax
  | .unsafeString, [x, y], .ustr ty ax ay => opdOk n x ax && opdOk n y ay && ustrOk P at_ ty
  | _, _, _ => false

/-- An operation that is no call of a function. -/
def opChk (P : Program) (K : Known) (n : Nat) (kl : List (Nat × List Nat)) (dst : Option Nat) (op : Op) (a : AOp) : Bool :=
  match op, a with
  | .move x, .mov ax => opdOk n x ax && (match dst with | some d => rawOk kl d ax | none => false)
  | .assign x, .mov ax => opdOk n x ax && (match dst with | some d => rawOk kl d ax | none => false)
  | .assign (.const (.slice none 0 0)), .movnil _ => true
  | .pick c x y, .pick ac ax ay => opdOk n c ac && opdOk n x ax && opdOk n y ay
  | .alloc e, .alloc ty cs => Nat.beq e ty && zOk P e cs cs.length
  | .alloc e, .lalloc cs ks => zOk P e cs cs.length && (match dst with | some d => lOk kl d ks | none => false)
  | .box e x, .box ty ax => Nat.beq e ty && opdOk n x ax
  | .box _ x, .lbox ax ks => opdOk n x ax && (match dst with | some d => lOk kl d ks | none => false)
  | .build t parts, .build z ps => buildOk P n t parts.toList z ps
  | .buildSlice t len parts, .bslice _ ty sz len' z ps =>
    (match P.underlying t with | some (.slice e) => Nat.beq e ty | _ => false) && zOk P ty z sz && Nat.beq len len' && Nat.ble (len * sz) 16777216 && bpartsOk n parts.toList ps
  | .load t x, .load agg k ax => opdOk n x ax && memOk P t agg k
  | .store t x y, .store k ax ay => opdOk n x ax && opdOk n y ay && decide (szOf P t = some k)
  | .nilCheck x, .nilck ax => opdOk n x ax && (match dst with | some d => rawOk kl d ax | none => false)
  | .binOp .eql t x y _, .eq false et ax ay => opdOk n x ax && opdOk n y ay && eqOk P t et x y
  | .binOp .neq t x y _, .eq true et ax ay => opdOk n x ax && opdOk n y ay && eqOk P t et x y
  | .binOp op _ x y _, .bin op' ax ay => decide (op = op') && opdOk n x ax && opdOk n y ay
  | .unOp op _ x, .un op' ax => decide (op = op') && opdOk n x ax
  | .convert src dst' x, .conv c ax => opdOk n x ax && ckOk P src dst' c
  | .makeInterface t x, .mkif t' ax => Nat.beq t t' && opdOk n x ax && (match P.underlying t with | some (.interface _) => false | some _ => true | none => false)
  | .makeFunc (.func f) first cap, .mkfn f' af ac => Nat.beq f f' && opdsOk n first.toList af && opdsOk n cap.toList ac
  | .slice t x lo hi mx, .slc k ax alo ahi amx => opdOk n x ax && skOk P t k && optOk n lo alo && optOk n hi ahi && optOk n mx amx && (mx.isNone || hi.isSome)
  | .fieldAddr t x f, .faddr off ax => opdOk n x ax && faddrOk P t f off && (match dst with | some d => rawOk kl d ax | none => false)
  | .field t x f, .fld agg off k ax => opdOk n x ax && fldOk P t f agg off k
  | .indexAddr t x i, .iaddr k ax ai => opdOk n x ax && opdOk n i ai && ikOk P t k && (match dst with | some d => rawOk kl d ax | none => false)
  | .index t x i, .idx k ax ai => opdOk n x ax && opdOk n i ai && xkOk P t k
  | .makeSlice t l c, .mkslice _ ty sz z al' ac => (match P.underlying t with | some (.slice e) => Nat.beq e ty | _ => false) && zOk P ty z sz && opdOk n l al' && opdOk n c ac
  | .range t x, .range ax => opdOk n x ax && isStr P t && dst.isSome
  | .next (.tmp s) true, .next s' => Nat.beq s s' && Nat.blt s n
  | .typeAssert x _ asserted ok, .tas conc oks bads z ok' ax => opdOk n x ax && (ok == ok') && tasOk P asserted conc oks bads z ok
  | .makeMap _ none, .mkmap => true
  | .lookup t x i ok, .mget kt ok' z ax ai => opdOk n x ax && opdOk n i ai && (ok == ok') && mapOk P t kt && melOk P t z
  | .mapUpdate t m k x, .mput kt am ak ax => opdOk n m am && opdOk n k ak && opdOk n x ax && mapOk P t kt
  | .insert t m k x, .mput kt am ak ax => opdOk n m am && opdOk n k ak && opdOk n x ax && mapOk P t kt
  | .extract x i, .ext ax j => opdOk n x ax && Nat.beq i j
  | .call { callee := .builtin b, args, argTypes }, a => builtinOk P n b args.toList argTypes a
  | .call { callee := .value (.func f), args, argTypes := _ }, .noesc g ax => Nat.beq f g && K.same.contains f && (match args.toList with | [x] => opdOk n x ax | _ => false)
  | _, _ => false

end Ai

namespace Ai
open Go

section
variable {P : Program} {kl : List (Nat × List Nat)} {G : Gh} {W : World} {st : St} {A : Act}

/-- The model's operation has come to what ours has. -/
def StepOK (P : Program) (kl : List (Nat × List Nat)) (G : Gh) (W : World) (stf : St) (A : Act) (o : Oper) : Prop :=
  ∃ nx c G' W', (execOp A.eval o).run P W = .ok nx W' ∧ (nx = .value c ∨ nx = .skip ∧ c = undef) ∧ Ext G W G' W' ∧ StRel P kl G' W' stf (A.put o.dst c)

theorem run_v (s : Sem Value) : (do pure (Next.value (← s)) : Sem Next).run P W = (s.run P W).andThen fun c w => .ok (.value c) w := by
  rw [Sem.run_bind]; rfl

theorem run_u (s : Sem Unit) : (do s; pure Next.skip : Sem Next).run P W = (s.run P W).andThen fun _ w => .ok .skip w := by
  rw [Sem.run_bind]; rfl

theorem step_of_post {o : Oper} {st' : St} {v : V} {r : Result Value} (h : Post P kl G W st' A v r) (hp : v.plain = true) (he : (execOp A.eval o).run P W = r.andThen fun c w => .ok (.value c) w) :
    StepOK P kl G W (st'.put o.dst v) A o := by
  obtain ⟨c, G', W', rfl, h2, h3, h4⟩ := h
  exact ⟨.value c, c, G', W', he, .inl rfl, h2, h3.put' h4 o.dst (plain_l hp) (plain_it hp)⟩

theorem step_here {o : Oper} (hs : StRel P kl G W st A) {v : V} {c : Value} (hv : VR G W v c) (hp : v.plain = true) (he : (execOp A.eval o).run P W = .ok (.value c) W) :
    StepOK P kl G W (st.put o.dst v) A o :=
  ⟨.value c, c, G, W, he, .inl rfl, Ext.refl G W, hs.put' hv o.dst (plain_l hp) (plain_it hp)⟩

theorem al_mem {α : Type} : ∀ {l : List (Nat × α)} {k : Nat} {x : α}, al l k = some x → (k, x) ∈ l
  | [], _, _, h => by cases h
  | (j, y) :: r, k, x, h => by
    simp only [al] at h
    cases hb : Nat.beq j k with
    | true =>
      rw [hb] at h
      simp only [cond_true, Option.some.injEq] at h
      subst h
      rw [Nat.eq_of_beq_eq_true hb]
      exact .head _
    | false => rw [hb] at h; exact .tail _ (al_mem h)

/-- A value that may be a pointer to the frame's own variable is put where it may be put. -/
theorem put_raw (hs : StRel P kl G W st A) {x : Operand} {ax : Opd} (ho : opdOk A.tmps.size x ax = true) {d : Nat} (hr : rawOk kl d ax = true) {v : V} {c : Value} (hv : VR G W v c) (hit : v ≠ .it)
    (hl : ∀ r o, v = .l r o → c = .pointer (some ⟨G.lb r, o, none⟩) ∧ ∃ o', st.raw ax = .l r o') : StRel P kl G W (st.put (some d) v) (A.put (some d) c) := by
  refine hs.put hv d (fun r o e => ?_) (fun e => absurd e hit)
  obtain ⟨h1, o', h2⟩ := hl r o e
  refine ⟨h1, ?_⟩
  obtain ⟨_, i, _, hi, ks, h3, h4⟩ := opd_l hs ho h2
  subst hi
  simp only [rawOk, List.all_eq_true] at hr
  have := hr (r, ks) (al_mem h3)
  simp only [Bool.or_eq_true, Bool.not_eq_true', List.contains_eq_mem, decide_eq_true_eq, decide_eq_false_iff_not] at this
  rcases this with h | h
  · exact absurd h4 h
  · exact ⟨ks, h3, h⟩

theorem mov_sound (hs : StRel P kl G W st A) {o : Oper} {x : Operand} {ax : Opd} {d : Nat} (hd : o.dst = some d) (ho : opdOk A.tmps.size x ax = true) (hr : rawOk kl d ax = true) {v : V} {st' : St}
    (h : (match st.raw ax with | .it => none | v => some (v, st)) = some (v, st')) (he : (execOp A.eval o).run P W = .ok (.value (A.eval x)) W) : StepOK P kl G W (st'.put o.dst v) A o := by
  have hv := opd_raw hs ho
  have key : st.raw ax = v ∧ st' = st ∧ v ≠ .it := by
    split at h
    · cases h
    · rename_i hne
      simp only [Option.some.injEq, Prod.mk.injEq] at h
      exact ⟨h.1, h.2.symm, fun e => hne (h.1.trans e)⟩
  obtain ⟨h1, h2, h3⟩ := key
  subst h2
  rw [h1] at hv
  refine ⟨.value _, A.eval x, G, W, he, .inl rfl, Ext.refl G W, ?_⟩
  rw [hd]
  exact put_raw hs ho hr hv h3 (fun r o' e => by
    subst e
    exact ⟨(opd_l hs ho h1).1, o', h1⟩)

theorem nilck_sound (hs : StRel P kl G W st A) {o : Oper} {x : Operand} {ax : Opd} {d : Nat} (hd : o.dst = some d) (hop : o.op = .nilCheck x) (ho : opdOk A.tmps.size x ax = true) (hr : rawOk kl d ax = true) {v : V} {st' : St}
    (h : step st d (.nilck ax) = some (v, st')) : StepOK P kl G W (st'.put o.dst v) A o := by
  have hv := opd_raw hs ho
  have run : ∀ c, A.eval x = c → (match c with | .pointer none => False | .nilIface => False | .nilFunc => False | .func (.method _) _ _ => False | _ => True) → (execOp A.eval o).run P W = .ok (.value c) W := by
    intro c hc hcc
    obtain ⟨dst, op, type, pos, after, guard⟩ := o
    simp only at hop
    subst hop
    simp only [execOp, hc]
    split at hcc <;> first | exact hcc.elim | skip
    rename_i h1 h2 h3 h4
    split <;> first | (exact absurd rfl h1) | (exact absurd rfl h2) | (exact absurd rfl h3) | skip
    · exact absurd rfl (h4 _ _ _)
    · rfl
  simp only [step] at h
  split at h
  · rename_i a u heq
    simp only [Option.some.injEq, Prod.mk.injEq] at h
    obtain ⟨rfl, rfl⟩ := h
    rw [heq] at hv
    generalize hc : A.eval x = c at hv
    cases hv with | p _ _ b hb =>
    refine ⟨.value _, _, G, W, run _ hc trivial, .inl rfl, Ext.refl G W, ?_⟩
    rw [hd]
    exact hs.put (.p a u b hb) d (fun r o e => by cases e) (fun e => by cases e)
  · rename_i a u heq
    simp only [Option.some.injEq, Prod.mk.injEq] at h
    obtain ⟨rfl, rfl⟩ := h
    have hc := (opd_l hs ho heq).1
    refine ⟨.value _, _, G, W, run _ hc trivial, .inl rfl, Ext.refl G W, ?_⟩
    rw [hd]
    exact put_raw hs ho hr (.l a u _) (by simp) (fun r o e => by cases e; exact ⟨rfl, _, heq⟩)
  · rename_i y ys u heq
    simp only [Option.some.injEq, Prod.mk.injEq] at h
    obtain ⟨rfl, rfl⟩ := h
    rw [heq] at hv
    generalize hc : A.eval x = c at hv
    have hv0 := hv
    cases hv with | ip _ _ p b of cs ha hi hcc hvv =>
    have hp := ha (by simp)
    subst hp
    refine ⟨.value _, _, G, W, run _ hc trivial, .inl rfl, Ext.refl G W, ?_⟩
    rw [hd]
    exact hs.put hv0 d (fun r o e => by cases e) (fun e => by cases e)
  · rename_i f a b heq
    simp only [Option.some.injEq, Prod.mk.injEq] at h
    obtain ⟨rfl, rfl⟩ := h
    rw [heq] at hv
    generalize hc : A.eval x = c at hv
    have hv0 := hv
    cases hv
    refine ⟨.value _, _, G, W, run _ hc trivial, .inl rfl, Ext.refl G W, ?_⟩
    rw [hd]
    exact hs.put hv0 d (fun r o e => by cases e) (fun e => by cases e)
  · rename_i t u heq
    simp only [Option.some.injEq, Prod.mk.injEq] at h
    obtain ⟨rfl, rfl⟩ := h
    rw [heq] at hv
    generalize hc : A.eval x = c at hv
    have hv0 := hv
    cases hv
    refine ⟨.value _, _, G, W, run _ hc trivial, .inl rfl, Ext.refl G W, ?_⟩
    rw [hd]
    exact hs.put hv0 d (fun r o e => by cases e) (fun e => by cases e)
  · cases h

end
end Ai

namespace Ai
open Go

section
variable {P : Program} {kl : List (Nat × List Nat)} {G : Gh} {W : World} {st : St} {A : Act}

def kd (kt : ET) (d : TypeDesc) : Prop := (kt = .int ∧ ∃ k, d = .int k) ∨ (kt = .str ∧ d = .string) ∨ (kt = .bool ∧ d = .bool)

theorem keyOk_spec {t : TypeId} {kt : ET} (h : keyOk P t kt = true) : ∃ d, P.underlying t = some d ∧ kd kt d := by
  unfold keyOk at h
  split at h
  · split at h
    · rename_i k hu; exact ⟨_, hu, .inl ⟨rfl, _, rfl⟩⟩
    · cases h
  · split at h
    · rename_i hu; exact ⟨_, hu, .inr (.inl ⟨rfl, rfl⟩)⟩
    · cases h
  · split at h
    · rename_i hu; exact ⟨_, hu, .inr (.inr ⟨rfl, rfl⟩)⟩
    · cases h
  · cases h

theorem mapOk_spec {t : TypeId} {kt : ET} (h : mapOk P t kt = true) : ∃ k e d, P.underlying t = some (.map k e) ∧ P.underlying k = some d ∧ kd kt d := by
  unfold mapOk at h
  split at h
  · rename_i k e hu
    obtain ⟨d, h1, h2⟩ := keyOk_spec h
    exact ⟨k, e, d, hu, h1, h2⟩
  · cases h

theorem keyEq_sound {kt : ET} {d : TypeDesc} (hd : kd kt d) {a b : V} {r : Bool} {ca cb : Value} (h : keyEq kt a b = some r) (ha : VR G W a ca) (hb : VR G W b cb) :
    Instr.sameNow d ca cb = some r ∧ (r = true → Instr.sameBits 10000 cb ca = true) := by
  unfold keyEq at h
  split at h
  · rename_i x y
    cases ha with | s _ s hs =>
    cases hb with | s _ t ht =>
    subst hs ht
    have hd' : d = .string := by
      rcases hd with ⟨h1, _⟩ | ⟨_, h1⟩ | ⟨h1, _⟩
      · cases h1
      · exact h1
      · cases h1
    subst hd'
    simp only [Option.some.injEq] at h
    have e : (s == t) = r := by
      rw [← h, strEq_iff]
      have : (s == t) = (s.data == t.data) := rfl
      rw [this, Bool.eq_iff_iff]
      simp [Array.toList_inj]
    refine ⟨by rw [Instr.sameNow, e], fun hr => ?_⟩
    rw [hr] at e
    have : (t == s) = true := by
      have h1 : (s.data == t.data) = true := e
      have h2 : (t.data == s.data) = true := by simpa using (by simpa using h1 : s.data = t.data).symm
      exact h2
    simpa [Instr.sameBits] using this
  · rename_i j x k y
    cases ha
    cases hb
    obtain ⟨k', rfl⟩ : ∃ k', d = .int k' := by
      rcases hd with ⟨_, h1⟩ | ⟨h1, _⟩ | ⟨h1, _⟩
      · exact h1
      · cases h1
      · cases h1
    by_cases hjk : j = k
    · subst hjk
      simp only [decide_true, cond_true, Option.some.injEq] at h
      refine ⟨by rw [Instr.sameNow, if_pos rfl, h], fun hr => ?_⟩
      rw [hr] at h
      have : x = y := by simpa using h
      rw [this]
      simp [Instr.sameBits]
    · simp [hjk] at h
  · rename_i x y
    cases ha
    cases hb
    have hd' : d = .bool := by
      rcases hd with ⟨h1, _⟩ | ⟨h1, _⟩ | ⟨_, h1⟩
      · cases h1
      · cases h1
      · exact h1
    subst hd'
    simp only [Option.some.injEq] at h
    refine ⟨by rw [Instr.sameNow, h], fun hr => ?_⟩
    rw [hr] at h
    have : x = y := by simpa using h
    rw [this]
    simp [Instr.sameBits]
  · cases h

/-- Entries, pairwise. -/
def MRel (G : Gh) (W : World) : List (V × V) → List MapEntry → Prop
  | [], [] => True
  | (k, v) :: r, e :: s => VR G W k e.key ∧ VR G W v e.val ∧ MRel G W r s
  | _, _ => False

theorem mrel_of {G : Gh} {W : World} : ∀ {es : List (V × V)} {c : List MapEntry}, es.length = c.length → (∀ j, j < es.length → VR G W (es.getD j (.any, .any)).1 (c.getD j default).key ∧ VR G W (es.getD j (.any, .any)).2 (c.getD j default).val) → MRel G W es c
  | [], [], _, _ => trivial
  | [], _ :: _, h, _ => by cases h
  | _ :: _, [], h, _ => by cases h
  | (k, v) :: r, e :: s, h, hj => ⟨(hj 0 (by simp)).1, (hj 0 (by simp)).2, mrel_of (by simpa using h) fun j hl => by simpa using hj (j + 1) (by simpa using hl)⟩

theorem mrel_to {G : Gh} {W : World} : ∀ {es : List (V × V)} {c : List MapEntry}, MRel G W es c → es.length = c.length ∧ (∀ j, j < es.length → VR G W (es.getD j (.any, .any)).1 (c.getD j default).key ∧ VR G W (es.getD j (.any, .any)).2 (c.getD j default).val)
  | [], [], _ => ⟨rfl, fun j h => by cases h⟩
  | [], _ :: _, h => h.elim
  | _ :: _, [], h => h.elim
  | (k, v) :: r, e :: s, h => by
    obtain ⟨h1, h2, h3⟩ := h
    obtain ⟨a, b⟩ := mrel_to h3
    refine ⟨by simpa using a, fun j hj => ?_⟩
    cases j with
    | zero => exact ⟨h1, h2⟩
    | succ j => simpa using b j (by simpa using hj)

theorem MRel.mono {G G' : Gh} {W W' : World} (x : Ext G W G' W') : ∀ {es : List (V × V)} {c : List MapEntry}, MRel G W es c → MRel G' W' es c
  | [], [], _ => trivial
  | [], _ :: _, h => h.elim
  | _ :: _, [], h => h.elim
  | _ :: _, _ :: _, h => ⟨h.1.mono x, h.2.1.mono x, h.2.2.mono x⟩

theorem MapRel.list {b : Nat} {es : List (V × V)} (h : MapRel G W b es) : ∃ (c : Array MapEntry) (clock : Nat), W.heap[b]? = some (.map c clock) ∧ MRel G W es c.toList := by
  obtain ⟨c, clock, h1, h2, h3⟩ := h.ex
  refine ⟨c, clock, h1, mrel_of (by simpa using h2) fun j hj => ?_⟩
  have := h3 j hj
  simpa [List.getD_eq_getElem?_getD, Array.getD_eq_getD_getElem?] using this

theorem MapRel.ofList {b : Nat} {es : List (V × V)} {c : Array MapEntry} {clock : Nat} (h1 : W.heap[b]? = some (.map c clock)) (h : MRel G W es c.toList) : MapRel G W b es := by
  obtain ⟨a, h3⟩ := mrel_to h
  refine ⟨c, clock, h1, by simpa using a, fun j hj => ?_⟩
  have := h3 j hj
  simpa [List.getD_eq_getElem?_getD, Array.getD_eq_getD_getElem?] using this

/-- What is looked for. -/
theorem mfind_sound {kt : ET} {d : TypeDesc} (hd : kd kt d) {k : V} {ck : Value} (hk : VR G W k ck) : ∀ {es : List (V × V)} {c : List MapEntry} {i : Nat} {r : Option (Nat × V)}, MRel G W es c → mfind kt k es i = some r →
    match r with
    | none => Instr.findNow d ck c i = some none
    | some (j, v) => ∃ m e, j = i + m ∧ c[m]? = some e ∧ VR G W v e.val ∧ Instr.sameBits 10000 e.key ck = true ∧ Instr.findNow d ck c i = some (some (j, e.val)) ∧ m < es.length
  | [], [], i, r, _, h => by
    simp only [mfind, Option.some.injEq] at h
    subst h
    rfl
  | [], _ :: _, _, _, h, _ => h.elim
  | _ :: _, [], _, _, h, _ => h.elim
  | (k', v) :: es, e :: c, i, r, hm, h => by
    obtain ⟨m1, m2, m3⟩ := hm
    simp only [mfind] at h
    split at h
    · rename_i hq
      obtain ⟨a, b⟩ := keyEq_sound hd hq hk m1
      simp only [Option.some.injEq] at h
      subst h
      exact ⟨0, e, rfl, rfl, m2, b rfl, by simp [Instr.findNow, a], by simp⟩
    · rename_i hq
      obtain ⟨a, _⟩ := keyEq_sound hd hq hk m1
      have ih := mfind_sound hd hk m3 h
      cases r with
      | none => simp only [Instr.findNow, a]; exact ih
      | some p =>
        obtain ⟨j, u⟩ := p
        obtain ⟨m, e', q1, q2, q3, q4, q5, q6⟩ := ih
        exact ⟨m + 1, e', by omega, by simpa using q2, q3, q4, by simp only [Instr.findNow, a]; exact q5, by simp; omega⟩
    · cases h

theorem run_check {kt : ET} {d : TypeDesc} (hd : kd kt d) {t : TypeId} (hu : P.underlying t = some d) (e : Bool) (v : Value) : (Instr.checkKey e 10000 t v).run P W = .ok () W := by
  rw [show (10000 : Nat) = 9999 + 1 from rfl, Instr.checkKey, Sem.run_bind, run_underlying' hu]
  simp only [Result.andThen_ok]
  rcases hd with ⟨_, k, rfl⟩ | ⟨_, rfl⟩ | ⟨_, rfl⟩ <;> rfl

theorem run_find {d : TypeDesc} {t : TypeId} (hu : P.underlying t = some d) {ck : Value} {c : List MapEntry} {r : Option (Nat × Value)} (h : Instr.findNow d ck c 0 = some r) : (Instr.findKey t ck c).run P W = .ok r W := by
  rw [Instr.findKey, Sem.run_bind, run_underlying' hu]
  simp only [Result.andThen_ok, h]
  rfl

theorem run_get {b : Nat} {c : Array MapEntry} {clock : Nat} (h : W.heap[b]? = some (.map c clock)) : (getObj b).run P W = .ok (.map c clock) W := by
  simp [getObj, Sem.run, h]

theorem run_set {b : Nat} {c : Array MapEntry} {clock : Nat} {o' : Go.Obj} (h : W.heap[b]? = some (.map c clock)) : (setObj b o').run P W = .ok () { W with heap := W.heap.setIfInBounds b o' } := by
  simp [setObj, Sem.run, h]

/-- The maps of the shared memory. -/
theorem map_of (hs : StRel P kl G W st A) {id : Nat} {es : List (V × V)} (h : al st.h.objs id = some (.map es)) {c : Value} (hv : VR G W (.m (some id)) c) :
    ∃ b a clock, c = .map (some b) ∧ G.obj id = some b ∧ G.own b = .obj id ∧ W.heap[b]? = some (.map a clock) ∧ MRel G W es a.toList := by
  cases hv with | m _ b hb =>
  obtain ⟨b', h1, h2, h3⟩ := hs.mem.objs id _ h
  rw [hb] at h1
  cases h1
  obtain ⟨a, clock, h4, h5⟩ := MapRel.list h3
  exact ⟨b, a, clock, rfl, hb, h2, h4, h5⟩

theorem melOk_spec {t : TypeId} {z : V} (h : melOk P t z = true) : ∃ k e cz, P.underlying t = some (.map k e) ∧ (∀ (W : World), (zeroValue e).run P W = .ok cz W) ∧ ∀ G W, VR G W z cz := by
  unfold melOk at h
  split at h
  · rename_i k e hu
    split at h
    · rename_i i hi
      split at h
      · rename_i v hz
        exact ⟨k, e, v, hu, fun W => by simp [zeroValue, run_typeInfo' hi, hz], fun G W => cOk_sound G W z v h⟩
      · cases h
    · cases h
  · cases h

theorem two_vr {p q : V} {c d : Value} (hp : VR G W p c) (hq : VR G W q d) : VR G W (.tup [p, q]) (.tuple #[c, d]) :=
  .tup _ _ rfl (fun j hj => by
    match j, hj with
    | 0, _ => exact hp
    | 1, _ => exact hq)

/-- A look-up. -/
theorem mget_sound (hs : StRel P kl G W st A) {t : TypeId} {kt : ET} {ok : Bool} {z : V} {ax ak : Opd} {dd : Nat} {cx ck : Value} (h1 : mapOk P t kt = true) (h2 : melOk P t z = true) (hx : VR G W (st.ev ax) cx) (hk : VR G W (st.ev ak) ck) {v : V} {st' : St}
    (h : step st dd (.mget kt ok z ax ak) = some (v, st')) : st' = st ∧ v.plain = true ∧ ∃ c, (Instr.lookup t cx ck ok).run P W = .ok c W ∧ VR G W v c := by
  simp only [step] at h
  generalize st.ev ax = vx at h hx
  generalize st.ev ak = vk at h hk
  obtain ⟨kk, e, d, u1, u2, hd⟩ := mapOk_spec h1
  obtain ⟨k2, e2, cz, w1, hz, hzr⟩ := melOk_spec h2
  rw [u1] at w1
  cases w1
  have zero : (bif ok then V.tup [z, .b false] else z.val).plain = true ∧ VR G W (bif ok then V.tup [z, .b false] else z.val) (if ok then .tuple #[cz, .bool false] else cz) := by
    cases ok with
    | true => exact ⟨rfl, two_vr (hzr G W) (.b false)⟩
    | false => exact ⟨val_plain z, (hzr G W).val⟩
  split at h
  · rename_i hx
    simp only [Option.some.injEq, Prod.mk.injEq] at h
    obtain ⟨rfl, rfl⟩ := h
    cases hx
    refine ⟨rfl, zero.1, _, ?_, zero.2⟩
    have hf : Instr.findNow d ck [] 0 = some none := rfl
    simp only [Instr.lookup, Sem.run_bind, run_underlying' u1, Result.andThen_ok, Sem.run_pure, run_check hd u2, run_find u2 hf, hz]
  · rename_i id hx
    split at h
    · rename_i es hes
      obtain ⟨b, a, clock, rfl, g1, g2, g3, g4⟩ := map_of hs hes hx
      split at h
      · rename_i j u hf
        simp only [Option.some.injEq, Prod.mk.injEq] at h
        obtain ⟨rfl, rfl⟩ := h
        obtain ⟨m, en, q1, q2, q3, q4, q5, q6⟩ := mfind_sound hd hk g4 hf
        refine ⟨rfl, by cases ok <;> first | rfl | exact val_plain u, (if ok then .tuple #[en.val, .bool true] else en.val), ?_, ?_⟩
        · simp only [Instr.lookup, Sem.run_bind, run_underlying' u1, Result.andThen_ok, run_get g3, Sem.run_pure, run_check hd u2, run_find u2 q5]
        · cases ok with
          | true => exact two_vr q3.val (.b true)
          | false => exact q3.val
      · rename_i hf
        simp only [Option.some.injEq, Prod.mk.injEq] at h
        obtain ⟨rfl, rfl⟩ := h
        have q := mfind_sound hd hk g4 hf
        refine ⟨rfl, zero.1, _, ?_, zero.2⟩
        simp only [Instr.lookup, Sem.run_bind, run_underlying' u1, Result.andThen_ok, run_get g3, Sem.run_pure, run_check hd u2, run_find u2 q, hz]
      · cases h
    · cases h
  · cases h

theorem mset_rel {ck cv : Value} {k v : V} (hk : VR G W k ck) (hv : VR G W v cv) : ∀ {es : List (V × V)} {c : List MapEntry} {m : Nat}, MRel G W es c → MRel G W (mset es m (k, v)) (c.modify m fun e => { e with key := ck, val := cv })
  | [], [], m, _ => by cases m <;> trivial
  | [], _ :: _, _, h => h.elim
  | _ :: _, [], _, h => h.elim
  | (k', v') :: es, e :: c, 0, h => ⟨hk, hv, h.2.2⟩
  | (k', v') :: es, e :: c, m + 1, h => ⟨h.1, h.2.1, mset_rel hk hv h.2.2⟩

theorem mcut_rel : ∀ {es : List (V × V)} {c : List MapEntry} {m : Nat}, MRel G W es c → MRel G W (mcut es m) (c.eraseIdx m)
  | [], [], m, _ => by cases m <;> trivial
  | [], _ :: _, _, h => h.elim
  | _ :: _, [], _, h => h.elim
  | (k', v') :: es, e :: c, 0, h => h.2.2
  | (k', v') :: es, e :: c, m + 1, h => ⟨h.1, h.2.1, mcut_rel h.2.2⟩

theorem mapp_rel {k v : V} {e : MapEntry} (hk : VR G W k e.key) (hv : VR G W v e.val) : ∀ {es : List (V × V)} {c : List MapEntry}, MRel G W es c → MRel G W (es ++ [(k, v)]) (c ++ [e])
  | [], [], _ => ⟨hk, hv, trivial⟩
  | [], _ :: _, h => h.elim
  | _ :: _, [], h => h.elim
  | _ :: _, _ :: _, h => ⟨h.1, h.2.1, mapp_rel hk hv h.2.2⟩

/-- A map of the shared memory is written. -/
theorem set_map (hs : StRel P kl G W st A) {id b : Nat} {o : Go.Obj} {c : Array MapEntry} {clock : Nat} {es : List (V × V)} (hi : G.obj id = some b) (ho : G.own b = .obj id) (hb : W.heap[b]? = some o) (hnc : ∀ c t fz, o ≠ .cells c t fz) (hm : MRel G W es c.toList) :
    Ext G W G { W with heap := W.heap.setIfInBounds b (.map c clock) } ∧ StRel P kl G { W with heap := W.heap.setIfInBounds b (.map c clock) } { st with h := st.h.setObj id (.map es) } A := by
  have tn := Turn.set (W := W) b (.map c clock) (by unfold bsz; rw [hb]; cases o <;> first | rfl | exact absurd rfl (hnc _ _ _)) (fun _ _ _ h => by cases h)
  have e : Ext G W G _ := tn.ext (G := G) (by rw [ho]; rfl)
  refine ⟨e, StRel.setObj tn ho hi hs ?_⟩
  refine MapRel.ofList (c := c) (clock := clock) ?_ (hm.mono e)
  show (W.heap.setIfInBounds b (.map c clock))[b]? = _
  rw [Array.getElem?_setIfInBounds_self_of_lt (heap_lt hb)]

theorem run_stays {old new : Value} (h : Instr.sameBits 10000 old new = true) : (Instr.keyThatStays old new).run P W = .ok new W := by
  rw [Instr.keyThatStays, if_pos h]; rfl

/-- An entry is written. -/
theorem mput_sound (hs : StRel P kl G W st A) {t : TypeId} {kt : ET} {am ak ax : Opd} {dd : Nat} {cm ck cx : Value} (h1 : mapOk P t kt = true) (hm : VR G W (st.ev am) cm) (hk : VR G W (st.ev ak) ck) (hx : VR G W (st.ev ax) cx) {v : V} {st' : St}
    (h : step st dd (.mput kt am ak ax) = some (v, st')) : v = .any ∧ ∃ W', (Instr.mapUpdate t cm ck cx).run P W = .ok () W' ∧ Ext G W G W' ∧ StRel P kl G W' st' A := by
  simp only [step] at h
  generalize st.ev am = vm at h hm
  generalize st.ev ak = vk at h hk
  generalize st.ev ax = vx at h hx
  obtain ⟨kk, e, d, u1, u2, hd⟩ := mapOk_spec h1
  split at h
  · rename_i id hm
    split at h
    · rename_i es hes
      obtain ⟨b, a, clock, rfl, g1, g2, g3, g4⟩ := map_of hs hes hm
      split at h
      · rename_i j u hf
        simp only [Option.some.injEq, Prod.mk.injEq] at h
        obtain ⟨rfl, rfl⟩ := h
        obtain ⟨m, en, q1, q2, q3, q4, q5, q6⟩ := mfind_sound hd hk g4 hf
        simp only [Nat.zero_add] at q1
        subst q1
        have hj : a[j]? = some en := by rw [← Array.getElem?_toList]; exact q2
        have key := set_map hs (c := a.modify j fun e => { e with key := ck, val := cx }) (clock := clock) g1 g2 g3 (fun _ _ _ h => by cases h) (by rw [Array.toList_modify]; exact mset_rel hk hx g4)
        refine ⟨rfl, _, ?_, key.1, key.2⟩
        simp only [Instr.mapUpdate, Sem.run_bind, run_underlying' u1, Result.andThen_ok, run_get g3, run_check hd u2, run_find u2 q5, hj, Option.map_some, Option.getD_some, run_stays q4, run_set g3]
      · rename_i hf
        simp only [Option.some.injEq, Prod.mk.injEq] at h
        obtain ⟨rfl, rfl⟩ := h
        have q := mfind_sound hd hk g4 hf
        have key := set_map hs (c := a.push { key := ck, val := cx, born := clock }) (clock := clock + 1) g1 g2 g3 (fun _ _ _ h => by cases h) (by rw [Array.toList_push]; exact mapp_rel hk hx g4)
        refine ⟨rfl, _, ?_, key.1, key.2⟩
        simp only [Instr.mapUpdate, Sem.run_bind, run_underlying' u1, Result.andThen_ok, run_get g3, run_check hd u2, run_find u2 q, run_set g3]
      · cases h
    · cases h
  · cases h

/-- An entry is taken away. -/
theorem mdel_sound (hs : StRel P kl G W st A) {t : TypeId} {r : List TypeId} {ts : Array TypeId} (hts : ts.toList = t :: r) {kt : ET} {am ak : Opd} {dd : Nat} {cm ck : Value} (h1 : mapOk P t kt = true) (hm : VR G W (st.ev am) cm) (hk : VR G W (st.ev ak) ck) {v : V} {st' : St} {ty : TypeId}
    (h : step st dd (.mdel kt am ak) = some (v, st')) : v = .tup [] ∧ ∃ W', (Builtin.delete_ ts ty #[cm, ck]).run P W = .ok (.tuple #[]) W' ∧ Ext G W G W' ∧ StRel P kl G W' st' A := by
  simp only [step] at h
  generalize st.ev am = vm at h hm
  generalize st.ev ak = vk at h hk
  obtain ⟨kk, e, d, u1, u2, hd⟩ := mapOk_spec h1
  have ht : ts[0]? = some t := by rw [← Array.getElem?_toList, hts]; rfl
  split at h
  · rename_i hm
    simp only [Option.some.injEq, Prod.mk.injEq] at h
    obtain ⟨rfl, rfl⟩ := h
    cases hm
    refine ⟨rfl, W, ?_, Ext.refl G W, hs⟩
    simp [Builtin.delete_, ht, run_underlying' u1, run_check hd u2]
  · rename_i id hm
    split at h
    · rename_i es hes
      obtain ⟨b, a, clock, rfl, g1, g2, g3, g4⟩ := map_of hs hes hm
      split at h
      · rename_i j u hf
        simp only [Option.some.injEq, Prod.mk.injEq] at h
        obtain ⟨rfl, rfl⟩ := h
        obtain ⟨m, en, q1, q2, q3, q4, q5, q6⟩ := mfind_sound hd hk g4 hf
        simp only [Nat.zero_add] at q1
        subst q1
        have hj : a[j]? = some en := by rw [← Array.getElem?_toList]; exact q2
        have key := set_map hs (c := a.eraseIdxIfInBounds j) (clock := clock) g1 g2 g3 (fun _ _ _ h => by cases h) (by rw [Array.toList_eraseIdxIfInBounds]; exact mcut_rel g4)
        refine ⟨rfl, _, ?_, key.1, key.2⟩
        simp [Builtin.delete_, ht, run_underlying' u1, run_check hd u2, run_get g3, run_find u2 q5, run_set g3]
      · rename_i hf
        simp only [Option.some.injEq, Prod.mk.injEq] at h
        obtain ⟨rfl, rfl⟩ := h
        have q := mfind_sound hd hk g4 hf
        have key := set_map hs (c := a) (clock := clock) g1 g2 g3 (fun _ _ _ h => by cases h) g4
        refine ⟨rfl, _, ?_, key.1, key.2⟩
        simp [Builtin.delete_, ht, run_underlying' u1, run_check hd u2, run_get g3, run_find u2 q, run_set g3]
      · cases h
    · cases h
  · cases h

/-- A new map. -/
theorem new_map (hs : StRel P kl G W st A) :
    ∃ G', Ext G W G' (W.alloc (.map #[] 0)) ∧ StRel P kl G' (W.alloc (.map #[] 0)) { st with h := (st.h.new (.map [])).2 } A ∧ G'.obj st.h.next = some W.heap.size := by
  have hfree : ∀ id b, G.obj id = some b → id ≠ st.h.next := fun id b h e => by have := hs.mem.next id b h; omega
  have k : Keep G W { G.at W.heap.size (.obj st.h.next) with obj := fun i => if i = st.h.next then some W.heap.size else G.obj i } (W.alloc (.map #[] 0)) := {
    tape := rfl, os := rfl, out := rfl
    sz := by rw [alloc_size]; omega
    own := fun b hb => own_at_ne G _ (Nat.ne_of_lt hb)
    heap := fun b hb => alloc_ne W _ hb
    obj := fun id b h => by simp [hfree id b h, h]
    nt := Nat.le_refl _
    tip := fun _ _ => ⟨rfl, rfl⟩
    lb := rfl
    ib := rfl }
  refine ⟨_, k.ext, hs.keepH k ?_, by simp⟩
  exact {
    objs := fun id o hg => by
      simp only [H.new, al] at hg
      cases hb : Nat.beq st.h.next id with
      | true =>
        rw [hb] at hg
        simp only [cond_true, Option.some.injEq] at hg
        subst hg
        have := Nat.eq_of_beq_eq_true hb
        subst this
        exact ⟨W.heap.size, by simp, own_at _ _ _, MapRel.ofList (c := #[]) (clock := 0) (alloc_at W _) trivial⟩
      | false =>
        rw [hb] at hg
        obtain ⟨b, h1, h2, h3⟩ := hs.mem.objs id o hg
        exact ⟨b, k.obj id b h1, (k.own b h3.lt).trans h2, h3.of_heap k.ext (k.heap b h3.lt)⟩
    next := fun id b hg => by
      simp only [H.new]
      simp only at hg
      split at hg
      · omega
      · have := hs.mem.next id b hg; omega
    nt := hs.mem.nt
    tips := fun t n ty' hg => by
      obtain ⟨h1, h2, h3⟩ := hs.mem.tips t n ty' hg
      have ht : t < G.nt := by rw [hs.mem.nt]; exact h1
      exact ⟨h1, h2, h3.of rfl k.own (fun b _ _ hb => k.heap b hb)⟩ }
end
end Ai

namespace Ai
open Go

section
variable {P : Program} {kl : List (Nat × List Nat)} {G : Gh} {W : World} {st : St} {A : Act}

theorem run_fieldPlace {a : Nat × Nat} {f : Field} {n : Nat} (hn : szOf P f.type = some (n + 1)) : (fieldPlace ⟨a.1, a.2, none⟩ f).run P W = .ok ⟨a.1, a.2 + f.offset, none⟩ W := by
  simp [fieldPlace, run_sizeOf' hn, add_mk]

theorem faddrOk_spec {t : TypeId} {field off : Nat} (h : faddrOk P t field off = true) :
    ∃ fields f n, P.underlying t = some (.struct fields) ∧ fields[field]? = some f ∧ f.offset = off ∧ szOf P f.type = some (n + 1) := by
  unfold faddrOk at h
  split at h
  · rename_i fields hu
    split at h
    · rename_i f hf
      simp only [Bool.and_eq_true] at h
      cases hz : szOf P f.type with
      | none => rw [hz] at h; cases h.2
      | some z =>
        cases z with
        | zero => rw [hz] at h; cases h.2
        | succ n => exact ⟨fields, f, n, hu, hf, Nat.eq_of_beq_eq_true h.1, hz⟩
    · cases h
  · cases h

theorem run_fieldAt {t : TypeId} {field off b u : Nat} (h : faddrOk P t field off = true) : (Instr.fieldAt t (.pointer (some ⟨b, u, none⟩)) field).run P W = .ok (.pointer (some ⟨b, u + off, none⟩)) W := by
  obtain ⟨fields, f, n, h1, h2, h3, h4⟩ := faddrOk_spec h
  subst h3
  simp only [Instr.fieldAt, Sem.run_bind, run_underlying' h1, Result.andThen_ok, h2, Instr.sureAddr, Sem.run_pure]
  rw [run_fieldPlace (a := (b, u)) h4]
  rfl

theorem faddr_sound (hs : StRel P kl G W st A) {o : Oper} {t : TypeId} {x : Operand} {field off : Nat} {ax : Opd} {d : Nat} (hd : o.dst = some d) (hop : o.op = .fieldAddr t x field) (ho : opdOk A.tmps.size x ax = true) (hf : faddrOk P t field off = true)
    (hr : rawOk kl d ax = true) {v : V} {st' : St} (h : step st d (.faddr off ax) = some (v, st')) : StepOK P kl G W (st'.put o.dst v) A o := by
  have hv := opd_raw hs ho
  have run : ∀ b u, A.eval x = .pointer (some ⟨b, u, none⟩) → (execOp A.eval o).run P W = .ok (.value (.pointer (some ⟨b, u + off, none⟩))) W := by
    intro b u hc
    obtain ⟨dst, op, type, pos, after, guard⟩ := o
    simp only at hop
    subst hop
    have : (execOp A.eval ⟨dst, .fieldAddr t x field, type, pos, after, guard⟩) = (do pure (Next.value (← Instr.fieldAt t (A.eval x) field))) := rfl
    rw [this, run_v, hc, run_fieldAt hf]; rfl
  simp only [step] at h
  split at h
  · rename_i y ys u heq
    simp only [Option.some.injEq, Prod.mk.injEq] at h
    obtain ⟨rfl, rfl⟩ := h
    rw [heq] at hv
    generalize hc : A.eval x = c at hv
    cases hv with | ip _ _ p b of cs ha hi hcc hvv =>
    have hp := ha (by simp)
    subst hp
    refine ⟨.value _, _, G, W, run _ _ hc, .inl rfl, Ext.refl G W, ?_⟩
    rw [hd]
    exact hs.put (.ip _ _ _ b of cs (fun _ => by rw [Nat.add_assoc]) hi hcc hvv) d (fun r o e => by cases e) (fun e => by cases e)
  · rename_i a u heq
    simp only [Option.some.injEq, Prod.mk.injEq] at h
    obtain ⟨rfl, rfl⟩ := h
    have hc := (opd_l hs ho heq).1
    refine ⟨.value _, _, G, W, run _ _ hc, .inl rfl, Ext.refl G W, ?_⟩
    rw [hd]
    exact put_raw hs ho hr (.l _ _ _) (by simp) (fun r o e => by cases e; exact ⟨rfl, _, heq⟩)
  · rename_i a u heq
    simp only [Option.some.injEq, Prod.mk.injEq] at h
    obtain ⟨rfl, rfl⟩ := h
    rw [heq] at hv
    generalize hc : A.eval x = c at hv
    cases hv with | p _ _ b hb =>
    refine ⟨.value _, _, G, W, run _ _ hc, .inl rfl, Ext.refl G W, ?_⟩
    rw [hd]
    exact hs.put (.p _ _ b hb) d (fun r o e => by cases e) (fun e => by cases e)
  · cases h

theorem run_indexAt_slice {t e : TypeId} {sz : Nat} (hu : P.underlying t = some (.slice e)) (hz : szOf P e = some sz) {k : IntKind} {j n cap b o : Nat} (hj : j < n) :
    (Instr.indexAt t (.slice (some ⟨b, o, none⟩) n cap) (.int k (j : Int))).run P W = .ok (.pointer (some ⟨b, o + j * sz, none⟩)) W := by
  have h1 : (0 : Int) ≤ (j : Int) ∧ (j : Int) < (n : Int) := ⟨by omega, by omega⟩
  simp only [Instr.indexAt, Sem.run_bind, asIntOf, Sem.run_pure, Result.andThen_ok, run_underlying' hu]
  rw [if_pos h1]
  simp [run_sizeOf' hz, add_mk]

theorem run_indexAt_arr {t e : TypeId} {m sz : Nat} (hu : P.underlying t = some (.array m e)) (hz : szOf P e = some sz) {k : IntKind} {j b o : Nat} (hj : j < m) :
    (Instr.indexAt t (.pointer (some ⟨b, o, none⟩)) (.int k (j : Int))).run P W = .ok (.pointer (some ⟨b, o + j * sz, none⟩)) W := by
  have h1 : (0 : Int) ≤ (j : Int) ∧ (j : Int) < (m : Int) := ⟨by omega, by omega⟩
  simp only [Instr.indexAt, Sem.run_bind, asIntOf, Sem.run_pure, Result.andThen_ok, run_underlying' hu, Instr.sureAddr]
  rw [if_pos h1]
  simp [run_sizeOf' hz, add_mk]

theorem iaddr_sound (hs : StRel P kl G W st A) {o : Oper} {t : TypeId} {x i : Operand} {ik : IK} {ax ai : Opd} {d : Nat} (hd : o.dst = some d) (hop : o.op = .indexAddr t x i) (ho : opdOk A.tmps.size x ax = true) (hoi : opdOk A.tmps.size i ai = true)
    (hk : ikOk P t ik = true) (hr : rawOk kl d ax = true) {v : V} {st' : St} (h : step st d (.iaddr ik ax ai) = some (v, st')) : StepOK P kl G W (st'.put o.dst v) A o := by
  have hv := opd_raw hs ho
  have hi := opd_ev hs hoi
  have run : ∀ c, (Instr.indexAt t (A.eval x) (A.eval i)).run P W = .ok c W → (execOp A.eval o).run P W = .ok (.value c) W := by
    intro c hc
    obtain ⟨dst, op, type, pos, after, guard⟩ := o
    simp only at hop
    subst hop
    have : (execOp A.eval ⟨dst, .indexAddr t x i, type, pos, after, guard⟩) = (do pure (Next.value (← Instr.indexAt t (A.eval x) (A.eval i)))) := rfl
    rw [this, run_v, hc]; rfl
  simp only [step] at h
  split at h
  · -- a slice that is never written
    rename_i j sz xs n tk hj heq
    cases hb : (Nat.blt j n && Nat.ble ((j + 1) * sz) xs.length) with
    | false => rw [hb] at h; cases h
    | true =>
      rw [hb] at h
      simp only [cond_true, Option.some.injEq, Prod.mk.injEq] at h
      obtain ⟨rfl, rfl⟩ := h
      simp only [Bool.and_eq_true] at hb
      have h1 := blt_lt hb.1
      have h2 := Nat.le_of_ble_eq_true hb.2
      obtain ⟨k, hci⟩ := natOf_sound hj hi
      simp only [ikOk] at hk
      split at hk
      · rename_i e hu
        simp only [Bool.and_eq_true, decide_eq_true_eq] at hk
        have hz := blt_lt hk.2
        rw [heq] at hv
        generalize hc : A.eval x = c at hv
        cases hv with | sl _ _ _ ad cap b of cs hn ha hii hcc hvv ht =>
        have hne : xs ≠ [] := by
          intro e; subst e
          simp only [List.length_nil, Nat.add_mul, Nat.one_mul] at h2
          omega
        have hp := ha hne
        subst hp
        refine ⟨.value _, _, G, W, run _ (by rw [hc, hci]; exact run_indexAt_slice hu hk.1 h1), .inl rfl, Ext.refl G W, ?_⟩
        rw [hd]
        exact hs.put (.ip _ _ _ b of cs (fun _ => rfl) hii hcc hvv) d (fun r o e => by cases e) (fun e => by cases e)
      · cases hk
  · -- a slice of the shared memory
    rename_i j sz id off n sz' hj heq
    cases hb : (Nat.blt j n && Nat.beq sz sz') with
    | false => rw [hb] at h; cases h
    | true =>
      rw [hb] at h
      simp only [cond_true, Option.some.injEq, Prod.mk.injEq] at h
      obtain ⟨rfl, rfl⟩ := h
      simp only [Bool.and_eq_true] at hb
      have h1 := blt_lt hb.1
      obtain ⟨k, hci⟩ := natOf_sound hj hi
      simp only [ikOk] at hk
      split at hk
      · rename_i e hu
        simp only [Bool.and_eq_true, decide_eq_true_eq] at hk
        rw [heq] at hv
        generalize hc : A.eval x = c at hv
        cases hv with | hs _ _ _ _ b cap ad hob hn ha =>
        have hp := ha (by omega)
        subst hp
        refine ⟨.value _, _, G, W, run _ (by rw [hc, hci]; exact run_indexAt_slice hu hk.1 h1), .inl rfl, Ext.refl G W, ?_⟩
        rw [hd]
        exact hs.put (.p _ _ b hob) d (fun r o e => by cases e) (fun e => by cases e)
      · cases hk
  · -- an array that is never written
    rename_i j len sz y ys u hj heq
    cases hb : Nat.blt j len with
    | false => rw [hb] at h; cases h
    | true =>
      rw [hb] at h
      simp only [cond_true, Option.some.injEq, Prod.mk.injEq] at h
      obtain ⟨rfl, rfl⟩ := h
      have h1 := blt_lt hb
      obtain ⟨k, hci⟩ := natOf_sound hj hi
      simp only [ikOk] at hk
      split at hk
      · rename_i m e hu
        simp only [Bool.and_eq_true, decide_eq_true_eq] at hk
        have := Nat.eq_of_beq_eq_true hk.1.1
        subst this
        rw [heq] at hv
        generalize hc : A.eval x = c at hv
        cases hv with | ip _ _ p b of cs ha hii hcc hvv =>
        have hp := ha (by simp)
        subst hp
        refine ⟨.value _, _, G, W, run _ (by rw [hc, hci]; exact run_indexAt_arr hu hk.1.2 h1), .inl rfl, Ext.refl G W, ?_⟩
        rw [hd]
        exact hs.put (.ip _ _ _ b of cs (fun _ => by rw [Nat.add_assoc]) hii hcc hvv) d (fun r o e => by cases e) (fun e => by cases e)
      · cases hk
  · -- an array of the frame
    rename_i j len sz a u hj heq
    cases hb : Nat.blt j len with
    | false => rw [hb] at h; cases h
    | true =>
      rw [hb] at h
      simp only [cond_true, Option.some.injEq, Prod.mk.injEq] at h
      obtain ⟨rfl, rfl⟩ := h
      have h1 := blt_lt hb
      obtain ⟨k, hci⟩ := natOf_sound hj hi
      simp only [ikOk] at hk
      split at hk
      · rename_i m e hu
        simp only [Bool.and_eq_true, decide_eq_true_eq] at hk
        have := Nat.eq_of_beq_eq_true hk.1.1
        subst this
        have hc := (opd_l hs ho heq).1
        refine ⟨.value _, _, G, W, run _ (by rw [hc, hci]; exact run_indexAt_arr hu hk.1.2 h1), .inl rfl, Ext.refl G W, ?_⟩
        rw [hd]
        exact put_raw hs ho hr (.l _ _ _) (by simp) (fun r o e => by cases e; exact ⟨rfl, _, heq⟩)
      · cases hk
  · -- an array of the shared memory
    rename_i j len sz a u hj heq
    cases hb : Nat.blt j len with
    | false => rw [hb] at h; cases h
    | true =>
      rw [hb] at h
      simp only [cond_true, Option.some.injEq, Prod.mk.injEq] at h
      obtain ⟨rfl, rfl⟩ := h
      have h1 := blt_lt hb
      obtain ⟨k, hci⟩ := natOf_sound hj hi
      simp only [ikOk] at hk
      split at hk
      · rename_i m e hu
        simp only [Bool.and_eq_true, decide_eq_true_eq] at hk
        have := Nat.eq_of_beq_eq_true hk.1.1
        subst this
        rw [heq] at hv
        generalize hc : A.eval x = c at hv
        cases hv with | p _ _ b hob =>
        refine ⟨.value _, _, G, W, run _ (by rw [hc, hci]; exact run_indexAt_arr hu hk.1.2 h1), .inl rfl, Ext.refl G W, ?_⟩
        rw [hd]
        exact hs.put (.p _ _ b hob) d (fun r o e => by cases e) (fun e => by cases e)
      · cases hk
  · cases h

theorem memOk_spec {t : TypeId} {agg : Bool} {n : Nat} (h : memOk P t agg n = true) : aggOf P t = some agg ∧ szOf P t = some n ∧ (agg = false → n = 1) ∧ 0 < n := by
  simp only [memOk, Bool.and_eq_true, decide_eq_true_eq, Bool.or_eq_true] at h
  obtain ⟨⟨⟨h1, h2⟩, h3⟩, h4⟩ := h
  refine ⟨h1, h2, fun e => ?_, blt_lt h4⟩
  rcases h3 with h | h
  · rw [e] at h; cases h
  · exact Nat.eq_of_beq_eq_true h

theorem load_sound (hs : StRel P kl G W st A) {x : Operand} {ax : Opd} {t : TypeId} {agg : Bool} {n : Nat} (ho : opdOk A.tmps.size x ax = true) (hm : memOk P t agg n = true) {d : Nat} {v : V} {st' : St}
    (h : step st d (.load agg n ax) = some (v, st')) : Post P kl G W st' A v ((Instr.loadAt t (A.eval x)).run P W) ∧ v.plain = true := by
  obtain ⟨h1, h2, h3, h4⟩ := memOk_spec hm
  simp only [step] at h
  split at h
  · rename_i xs hrd
    obtain ⟨b, o, cs, e1, e2, e3, e4⟩ := rd_sound hs ho h4 hrd
    have hrun : (Instr.loadAt t (A.eval x)).run P W = .ok (if agg then .agg (stretch cs 0 n).toArray else cs 0) W := by
      rw [e1]
      simp only [Instr.loadAt, Instr.sureAddr, Sem.run_bind, Sem.run_pure, Result.andThen_ok]
      exact run_loadVar' h1 h2 h3 cs e2
    cases agg with
    | true =>
      simp only [cond_true, Option.some.injEq, Prod.mk.injEq] at h
      obtain ⟨rfl, rfl⟩ := h
      refine ⟨Post.here hs hrun ?_, rfl⟩
      refine .agg xs _ (by simp [stretch_length, e3]) (fun j hj => ?_)
      have e : (stretch cs 0 n).toArray.getD j undef = cs j := by
        have := stretch_getD cs n 0 j (by omega)
        simp only [Nat.zero_add] at this
        rw [← this]
        simp [Array.getD_eq_getD_getElem?, List.getD_eq_getElem?_getD]
      rw [e]; exact e4 j (by omega)
    | false =>
      simp only [cond_false] at h
      split at h
      · rename_i u
        simp only [Option.some.injEq, Prod.mk.injEq] at h
        obtain ⟨rfl, rfl⟩ := h
        have := e4 0 h4
        simp only [List.getD_cons_zero] at this
        exact ⟨Post.here hs hrun this.val, val_plain u⟩
      · cases h
  · cases h

theorem store_sound (hs : StRel P kl G W st A) {x y : Operand} {ax ay : Opd} {t : TypeId} {n : Nat} (ho : opdOk A.tmps.size x ax = true) (hoy : opdOk A.tmps.size y ay = true) (hsz : szOf P t = some n) {d : Nat} {v : V} {st' : St}
    (h : step st d (.store n ax ay) = some (v, st')) : v = .any ∧ ∃ W', (Instr.storeAt t (A.eval x) (A.eval y)).run P W = .ok () W' ∧ Ext G W G W' ∧ StRel P kl G W' st' A := by
  simp only [step] at h
  split at h
  · rename_i xs hcs
    cases hb : (Nat.beq xs.length n && allOne xs) with
    | false => rw [hb] at h; cases h
    | true =>
      rw [hb] at h
      simp only [cond_true] at h
      simp only [Bool.and_eq_true] at hb
      have hl := Nat.eq_of_beq_eq_true hb.1
      cases hw : st.wrt (st.raw ax) xs with
      | none => rw [hw] at h; cases h
      | some st1 =>
        rw [hw] at h
        simp only [Option.map_some, Option.some.injEq, Prod.mk.injEq] at h
        obtain ⟨rfl, rfl⟩ := h
        have hvs := cells_sound hcs (opd_ev hs hoy)
        obtain ⟨b, o, W', e1, e2, e3, e4⟩ := wrt_sound (P := P) hs ho hw hvs (allOne_sound hb.2)
        refine ⟨rfl, W', ?_, e3, e4⟩
        rw [e1]
        simp only [Instr.storeAt, Instr.sureAddr, Sem.run_bind, Sem.run_pure, Result.andThen_ok, storeVar, run_sizeOf' hsz]
        have hsize : (A.eval y).cells.size = n := by rw [← hvs.1]; exact hl
        rw [if_neg (by rw [hsize]; simp)]
        exact e2
  · cases h

end
end Ai

namespace Ai
open Go

section
variable {P : Program} {K : Known} {kl : List (Nat × List Nat)} {G : Gh} {W : World} {st : St} {A : Act}

theorem opds_sound (hs : StRel P kl G W st A) : ∀ {xs : List Operand} {axs : List Opd}, opdsOk A.tmps.size xs axs = true → VRs G W (evL st axs) (xs.map A.eval).toArray
  | [], [], _ => ⟨rfl, fun j hj => by cases hj⟩
  | x :: r, ax :: s, h => by
    simp only [opdsOk, Bool.and_eq_true] at h
    obtain ⟨h1, h2⟩ := opds_sound hs h.2
    refine ⟨by simp [evL]; simpa using h1, fun j hj => ?_⟩
    cases j with
    | zero =>
      have := opd_ev hs h.1
      simpa [evL] using this
    | succ j =>
      have := h2 j (by simp only [evL, List.length_cons] at hj; omega)
      simpa [evL, Array.getD_eq_getD_getElem?] using this
  | [], _ :: _, h => by cases h
  | _ :: _, [], h => by cases h

theorem opds_array (hs : StRel P kl G W st A) {xs : Array Operand} {axs : List Opd} (h : opdsOk A.tmps.size xs.toList axs = true) : VRs G W (evL st axs) (xs.map A.eval) := by
  have := opds_sound hs h
  have e : (xs.toList.map A.eval).toArray = xs.map A.eval := by apply Array.ext'; rw [Array.toList_map]
  rwa [e] at this

theorem opt_sound (hs : StRel P kl G W st A) {x : Option Operand} {ax : Option Opd} (h : optOk A.tmps.size x ax = true) : OR G W (evO st ax) (x.map A.eval) := by
  cases x <;> cases ax <;> simp only [optOk, Bool.false_eq_true] at h
  · exact .none
  · exact .some (opd_ev hs h)

theorem parts_rel (hs : StRel P kl G W st A) {place : Nat → Option (Nat × Nat)} : ∀ {xs : List (Nat × Operand)} {ps : List (Nat × Nat × Opd)}, partsOk A.tmps.size place xs ps = true →
    PartsRel G W place (evP st ps) (xs.map fun x => (x.1, A.eval x.2))
  | [], [], _ => .nil
  | (i, x) :: r, (off, k, ax) :: s, h => by
    simp only [partsOk, Bool.and_eq_true, decide_eq_true_eq] at h
    exact .cons h.1.1 (opd_ev hs h.1.2) (parts_rel hs h.2)
  | [], _ :: _, h => by cases h
  | _ :: _, [], h => by cases h

theorem bparts_rel (hs : StRel P kl G W st A) (sz : Nat) : ∀ {xs : List (Nat × Operand)} {ps : List (Nat × Opd)}, bpartsOk A.tmps.size xs ps = true →
    PartsRel G W (fun i => some (i * sz, sz)) (evB st sz ps) (xs.map fun x => (x.1, A.eval x.2))
  | [], [], _ => .nil
  | (i, x) :: r, (j, ax) :: s, h => by
    simp only [bpartsOk, Bool.and_eq_true] at h
    have := Nat.eq_of_beq_eq_true h.1.1
    subst this
    exact .cons rfl (opd_ev hs h.1.2) (bparts_rel hs sz h.2)
  | [], _ :: _, h => by cases h
  | _ :: _, [], h => by cases h

theorem run_mapM_places : ∀ {fs : List Field} {l : List (Nat × Nat)}, placesOf P fs = some l → (fs.mapM (m := Sem) fun f => do pure (f.offset, ← Go.sizeOf f.type)).run P W = .ok l W
  | [], l, h => by simp only [placesOf, Option.some.injEq] at h; subst h; simp
  | f :: r, l, h => by
    simp only [placesOf] at h
    split at h
    · rename_i n l' hn hl
      simp only [Option.some.injEq] at h
      subst h
      simp only [List.mapM_cons, Sem.run_bind, run_sizeOf' hn, Result.andThen_ok, Sem.run_pure, run_mapM_places hl]
    · cases h

theorem build_sound (hs : StRel P kl G W st A) {t : TypeId} {parts : Array (Nat × Operand)} {z cs : List V} {ps : List (Nat × Nat × Opd)} (hk : buildOk P A.tmps.size t parts.toList z ps = true) (h : fill z (evP st ps) = some cs) :
    Post P kl G W st A (.agg cs) ((Instr.build t (parts.map fun (i, x) => (i, A.eval x))).run P W) := by
  simp only [buildOk, Bool.and_eq_true] at hk
  obtain ⟨k1, k2⟩ := hk
  split at k1
  · rename_i i hi
    split at k1
    · rename_i zv hz
      obtain ⟨g1, g2⟩ := csOk_sound G W z zv.cells.toList k1
      have hzr : VRs G W z zv.cells := ⟨by simpa using g1, fun j hj => by simpa [Array.getD_eq_getD_getElem?, List.getD_eq_getElem?_getD] using g2 j hj⟩
      have hzv : (zeroValue t).run P W = .ok zv W := by simp [zeroValue, run_typeInfo' hi, hz]
      have hpl : ((parts.map fun (x : Nat × Operand) => (x.1, A.eval x.2)).toList) = parts.toList.map fun x => (x.1, A.eval x.2) := by simp
      split at k2
      · rename_i fields hu
        split at k2
        · rename_i l hl
          obtain ⟨b, e1, e2, _⟩ := fill_sound (parts_rel hs k2) h hzr
          refine Post.here hs (c := .agg b) ?_ e2.agg
          have hm := run_mapM_places (P := P) (W := W) hl
          have hma : (fields.mapM (m := Sem) fun f => do pure (f.offset, ← Go.sizeOf f.type)).run P W = .ok l.toArray W := by
            rw [← Array.toList_mapM] at hm
            simp only [Sem.run_map] at hm
            generalize (fields.mapM (m := Sem) fun f => do pure (f.offset, ← Go.sizeOf f.type)).run P W = r at *
            cases r with
            | ok a w =>
              simp only [Result.andThen_ok, Result.ok.injEq] at hm
              rw [hm.2, ← hm.1]
            | halt x w => simp at hm
          simp only [Instr.build, Sem.run_bind, hzv, Result.andThen_ok, run_underlying' hu, hma]
          have e3 : Instr.fill (fun i => l.toArray[i]?) zv.cells (parts.map fun (x : Nat × Operand) => (x.1, A.eval x.2)).toList = some b := by
            rw [hpl]; simpa using e1
          rw [e3]; rfl
        · cases k2
      · rename_i n e hu
        split at k2
        · rename_i s hs'
          obtain ⟨b, e1, e2, _⟩ := fill_sound (parts_rel hs k2) h hzr
          refine Post.here hs (c := .agg b) ?_ e2.agg
          simp only [Instr.build, Sem.run_bind, hzv, Result.andThen_ok, run_underlying' hu, run_sizeOf' hs']
          have e3 : Instr.fill (fun i => some (i * s, s)) zv.cells (parts.map fun (x : Nat × Operand) => (x.1, A.eval x.2)).toList = some b := by
            rw [hpl]; exact e1
          rw [e3]; rfl
        · cases k2
      · cases k2
    · cases k1
  · cases k1

/-- A composite slice: its row. -/
theorem bslice_run (hs : StRel P kl G W st A) {t ty : TypeId} {sz len : Nat} {parts : Array (Nat × Operand)} {z cs : List V} {ps : List (Nat × Opd)} (hu : P.underlying t = some (.slice ty)) (hz : zOk P ty z sz = true)
    (hlen : len * sz ≤ 16777216) (hp : bpartsOk A.tmps.size parts.toList ps = true) (h : fill (zeros z len) (evB st sz ps) = some cs) :
    ∃ a : Array Value, (Instr.buildSlice t len (parts.map fun (i, x) => (i, A.eval x))).run P W = .ok (.slice (some ⟨W.heap.size, 0, none⟩) len len) (W.alloc (.cells a ty)) ∧ VRs G W cs a ∧ cs.length = len * sz := by
  obtain ⟨i, v, hi, h1, h2, h3, h4, h5, h6, h7, h8⟩ := zOk_spec hz
  have hzr := zeros_rel (h6 G W) (by omega) len
  rw [h5] at hzr
  obtain ⟨b, e1, e2, e3⟩ := fill_sound (bparts_rel hs sz hp) h hzr
  have hzl : z.length = sz := by rw [(h6 G W).1, h5]
  refine ⟨b, ?_, e2, by rw [e3, zeros_length, hzl]⟩
  have hpl : ((parts.map fun (x : Nat × Operand) => (x.1, A.eval x.2)).toList) = parts.toList.map fun x => (x.1, A.eval x.2) := by simp
  have hzv : ∀ w : World, (zeroValue ty).run P w = .ok v w := fun w => by simp [zeroValue, run_typeInfo' hi, h4]
  have h224 : ¬ (len * sz > 2 ^ 24) := by
    have : (2 : Nat) ^ 24 = 16777216 := by decide
    omega
  simp only [Instr.buildSlice, Sem.run_bind, run_underlying' hu, Result.andThen_ok, run_sizeOf' h7]
  rw [if_neg h224]
  by_cases hl0 : len * sz = 0
  · have hlen0 : len = 0 := by
      rcases Nat.eq_zero_or_pos len with h | h
      · exact h
      · have := Nat.mul_pos h h2; omega
    subst hlen0
    have hr0 : Array.range 0 = #[] := rfl
    rw [Nat.zero_mul] at *
    simp only [hr0, Array.map_empty] at e1 ⊢
    simp only [if_true, Sem.run_bind, Sem.run_pure, Result.andThen_ok]
    have e4 : Instr.fill (fun i => some (i * sz, sz)) #[] (parts.map fun (x : Nat × Operand) => (x.1, A.eval x.2)).toList = some b := by rw [hpl]; exact e1
    rw [e4]; rfl
  · rw [if_neg hl0]
    simp only [Sem.run_bind, hzv, Result.andThen_ok, Sem.run_pure, h5]
    have e4 : Instr.fill (fun i => some (i * sz, sz)) ((Array.range (len * sz)).map (v.cells[· % sz]!)) (parts.map fun (x : Nat × Operand) => (x.1, A.eval x.2)).toList = some b := by rw [hpl]; exact e1
    rw [e4]; rfl

theorem fldOk_spec {t : TypeId} {field : Nat} {agg : Bool} {off n : Nat} (h : fldOk P t field agg off n = true) :
    ∃ fields f, P.underlying t = some (.struct fields) ∧ fields[field]? = some f ∧ f.offset = off ∧ szOf P f.type = some n ∧ aggOf P f.type = some agg ∧ (agg = false → n = 1) := by
  unfold fldOk at h
  split at h
  · rename_i fields hu
    split at h
    · rename_i f hf
      simp only [Bool.and_eq_true, decide_eq_true_eq, Bool.or_eq_true] at h
      obtain ⟨⟨⟨h1, h2⟩, h3⟩, h4⟩ := h
      refine ⟨fields, f, hu, hf, Nat.eq_of_beq_eq_true h1, h2, h3, fun e => ?_⟩
      rcases h4 with h | h
      · rw [e] at h; cases h
      · exact Nat.eq_of_beq_eq_true h
    · cases h
  · cases h

theorem fld_sound {t : TypeId} {field : Nat} {agg : Bool} {off n : Nat} {xs : List V} {c : Value} {v : V} (hk : fldOk P t field agg off n = true) (hx : VR G W (.agg xs) c) (h : part? xs off n agg = some v) :
    ∃ u, (Instr.field t c field).run P W = .ok u W ∧ VR G W v u ∧ v.plain = true := by
  obtain ⟨fields, f, h1, h2, h3, h4, h5, h6⟩ := fldOk_spec hk
  subst h3
  cases hx with | agg _ a g1 g2 =>
  obtain ⟨u, e1, e2, e3⟩ := part_sound h5 h4 h6 h ⟨g1, g2⟩
  refine ⟨u, ?_, e2, e3⟩
  simp [Instr.field, run_underlying' h1, h2, asAgg, e1]

theorem idx_sound (hs : StRel P kl G W st A) {t : TypeId} {xk : XK} {x i : V} {cx ci : Value} {v : V} (hk : xkOk P t xk = true) (hx : VR G W x cx) (hi : VR G W i ci)
    (h : idxV xk x i = some v) : Post P kl G W st A v ((Instr.index t cx ci).run P W) ∧ v.plain = true := by
  unfold idxV at h
  cases hj : natOf i with
  | none => rw [hj] at h; cases h
  | some j =>
  rw [hj] at h
  simp only at h
  obtain ⟨k, rfl⟩ := natOf_sound hj hi
  cases xk with
  | str =>
    cases x with
    | s l =>
      simp only at h
      cases hb : l[j]? with
      | none => rw [hb] at h; cases h
      | some b =>
        rw [hb] at h
        simp only [Option.some.injEq] at h
        subst h
        have hu := isStr_spec (by simpa [xkOk] using hk)
        cases hx with | s _ s hl =>
        subst hl
        have hbs : s[j]? = some b := by
          rw [Array.getElem?_toList] at hb
          exact hb
        refine ⟨Post.here hs (c := .int .u8 b.toNat) ?_ (.i _ _), rfl⟩
        simp only [Instr.index, Sem.run_bind, asIntOf, Sem.run_pure, Result.andThen_ok, run_underlying' hu]
        have h0 : (0 : Int) ≤ (j : Int) := by omega
        rw [if_pos h0]
        simp [hbs]
    | _ => cases h
  | arr len sz agg =>
    cases x with
    | agg cs =>
      simp only at h
      cases hb : Nat.blt j len with
      | false => rw [hb] at h; cases h
      | true =>
        rw [hb] at h
        simp only [cond_true] at h
        have hjl := blt_lt hb
        simp only [xkOk] at hk
        split at hk
        · rename_i m e hu
          simp only [Bool.and_eq_true, decide_eq_true_eq, Bool.or_eq_true] at hk
          obtain ⟨⟨⟨k1, k2⟩, k3⟩, k4⟩ := hk
          have := Nat.eq_of_beq_eq_true k1
          subst this
          cases hx with | agg _ a g1 g2 =>
          obtain ⟨c, e1, e2, e3⟩ := part_sound k3 k2 (fun e => by
            rcases k4 with h | h
            · rw [e] at h; cases h
            · exact Nat.eq_of_beq_eq_true h) h ⟨g1, g2⟩
          refine ⟨Post.here hs (c := c) ?_ e2, e3⟩
          have h1 : (0 : Int) ≤ (j : Int) ∧ (j : Int) < (m : Int) := ⟨by omega, by omega⟩
          simp only [Instr.index, Sem.run_bind, asIntOf, Sem.run_pure, Result.andThen_ok, run_underlying' hu]
          rw [if_pos h1]
          simp [run_sizeOf' k2, e1]
        · cases hk
    | _ => cases h

end
end Ai

namespace Ai
open Go

theorem dst_some {dst : Option Nat} {f : Nat → Bool} (h : (match dst with | some d => f d | none => false) = true) : ∃ d, dst = some d ∧ f d = true := by
  cases dst with
  | none => cases h
  | some d => exact ⟨d, rfl, h⟩

section
variable {P : Program} {K : Known} {kl : List (Nat × List Nat)} {G : Gh} {W : World} {st : St} {A : Act}

/-- What is known of functions without a body is true. -/
def Known.OK (K : Known) (P : Program) : Prop := ∀ f, K.same.contains f = true → ∀ (v : Value) (w : World), (callFunc f #[v]).run P w = .ok (.value v) w

theorem run_call_builtin {b : Builtin} {args : Array Operand} {ts : Array TypeId} {ty : TypeId} :
    ∃ consts, ((do let d ← resolve A.eval { callee := .builtin b, args := args, argTypes := ts } ty; invoke d.target d.args) : Sem Next).run P W =
      (builtin b ts ty consts (args.map A.eval)).run P W := by
  simp only [resolve, Sem.run_bind, Sem.run_pure, Result.andThen_ok, invoke]
  exact ⟨_, rfl⟩

theorem array_two {α β : Type} {xs : Array α} {x y : α} (h : xs.toList = [x, y]) (f : α → β) : xs.map f = #[f x, f y] := by
  apply Array.ext'; rw [Array.toList_map, h]; rfl

theorem array_three {α β : Type} {xs : Array α} {x y z : α} (h : xs.toList = [x, y, z]) (f : α → β) : xs.map f = #[f x, f y, f z] := by
  apply Array.ext'; rw [Array.toList_map, h]; rfl

theorem array_one {α β : Type} {xs : Array α} {x : α} (h : xs.toList = [x]) (f : α → β) : xs.map f = #[f x] := by
  apply Array.ext'; rw [Array.toList_map, h]; rfl

theorem toList_one {α : Type} {xs : Array α} {x : α} (h : xs.toList = [x]) : xs = #[x] := by rw [← h]

theorem builtin_sound (hs : StRel P kl G W st A) {o : Oper} {b : Builtin} {args : Array Operand} {ts : Array TypeId} (hop : o.op = .call { callee := .builtin b, args := args, argTypes := ts }) {a : AOp}
    (hk : builtinOk P A.tmps.size b args.toList ts a = true) {v : V} {st' : St} (h : step st (o.dst.getD 0) a = some (v, st')) : StepOK P kl G W (st'.put o.dst v) A o := by
  have fin : ∀ (s : Sem Value), (∀ consts, builtin b ts o.type consts (args.map A.eval) = (do pure (Next.value (← s)))) → Post P kl G W st' A v (s.run P W) → v.plain = true → StepOK P kl G W (st'.put o.dst v) A o := by
    intro s hb hp hpl
    refine step_of_post hp hpl ?_
    obtain ⟨dst, op, type, pos, after, guard⟩ := o
    simp only at hop
    subst hop
    show ((do let d ← resolve A.eval { callee := .builtin b, args := args, argTypes := ts } type; invoke d.target d.args) : Sem Next).run P W = _
    obtain ⟨consts, hc⟩ := run_call_builtin (P := P) (W := W) (A := A) (b := b) (args := args) (ts := ts) (ty := type)
    rw [hc, hb, run_v]
  unfold builtinOk at hk
  split at hk
  · -- len
    rename_i args' x k ax hargs
    simp only [Bool.and_eq_true] at hk
    have hx := opd_ev hs hk.1
    have hk2 := hk.2
    split at hk2
    · rename_i t hts
      have hts' := toList_one hts
      subst hts'
      have hmap := array_one hargs A.eval
      refine fin _ (fun _ => by rw [hmap]; rfl) ?_ ?_
      · simp only [step] at h
        have hlen : ∀ (m : Int) (u : World), (Builtin.len_ #[t] o.type #[A.eval x]).run P u = .ok (.int .i64 m) u → (Builtin.len_ #[t] o.type #[A.eval x]).run P u = .ok (goInt m) u := fun _ _ h => h
        split at h
        · rename_i l heq
          simp only [Option.some.injEq, Prod.mk.injEq] at h
          obtain ⟨rfl, rfl⟩ := h
          have hu := isStr_spec (by simpa [lkOk] using hk2)
          rw [heq] at hx
          generalize A.eval x = c at *
          cases hx with | s _ s hl =>
          subst hl
          refine Post.here hs (c := .int .i64 s.size) ?_ (by have : s.data.toList.length = s.size := Array.length_toList; rw [this]; exact .i _ _)
          simp [Builtin.len_, run_underlying' hu, goInt]
        · rename_i xs n tk heq
          simp only [Option.some.injEq, Prod.mk.injEq] at h
          obtain ⟨rfl, rfl⟩ := h
          simp only [lkOk] at hk2
          split at hk2
          · rename_i e hu
            rw [heq] at hx
            generalize A.eval x = c at *
            cases hx with | sl _ _ _ ad cap b of cs hn ha hi hc hv ht =>
            refine Post.here hs (c := .int .i64 n) ?_ (.i _ _)
            simp [Builtin.len_, run_underlying' hu, goInt]
          · cases hk2
        · rename_i id off n sz heq
          simp only [Option.some.injEq, Prod.mk.injEq] at h
          obtain ⟨rfl, rfl⟩ := h
          simp only [lkOk] at hk2
          split at hk2
          · rename_i e hu
            rw [heq] at hx
            generalize A.eval x = c at *
            cases hx with | hs _ _ _ _ b cap ad hob hn ha =>
            refine Post.here hs (c := .int .i64 n) ?_ (.i _ _)
            simp [Builtin.len_, run_underlying' hu, goInt]
          · cases hk2
        · rename_i heq
          simp only [Option.some.injEq, Prod.mk.injEq] at h
          obtain ⟨rfl, rfl⟩ := h
          simp only [lkOk] at hk2
          split at hk2
          · rename_i e1 e2 hu
            rw [heq] at hx
            generalize A.eval x = c at *
            cases hx
            refine Post.here hs (c := .int .i64 0) ?_ (.i _ _)
            simp [Builtin.len_, run_underlying' hu, goInt]
          · cases hk2
        · rename_i id heq
          split at h
          · rename_i es hob
            simp only [Option.some.injEq, Prod.mk.injEq] at h
            obtain ⟨rfl, rfl⟩ := h
            simp only [lkOk] at hk2
            split at hk2
            · rename_i e1 e2 hu
              rw [heq] at hx
              generalize A.eval x = c at *
              cases hx with | m _ b hgb =>
              obtain ⟨b', e1, _, hm⟩ := hs.mem.objs id _ hob
              rw [e1] at hgb; cases hgb
              obtain ⟨c, clock, g1, g2, _⟩ := MapRel.ex hm
              refine Post.here hs (c := .int .i64 c.size) ?_ (by rw [g2]; exact .i _ _)
              simp [Builtin.len_, run_underlying' hu, goInt, getObj, Sem.run, g1]
            · cases hk2
          · cases h
        · rename_i n heq
          simp only [Option.some.injEq, Prod.mk.injEq] at h
          obtain ⟨rfl, rfl⟩ := h
          simp only [lkOk] at hk2
          split at hk2
          · rename_i m e hu
            have := Nat.eq_of_beq_eq_true hk2
            subst this
            refine Post.here hs (c := .int .i64 m) ?_ (.i _ _)
            simp [Builtin.len_, run_underlying' hu, goInt]
          · cases hk2
        · cases h
      · simp only [step] at h
        split at h <;> first | (cases h; done) | (simp only [Option.some.injEq, Prod.mk.injEq] at h; obtain ⟨rfl, _⟩ := h; rfl) | (split at h <;> first | (cases h; done) | (simp only [Option.some.injEq, Prod.mk.injEq] at h; obtain ⟨rfl, _⟩ := h; rfl))
    · cases hk2
  · -- cap
    rename_i args' x ax hargs
    simp only [Bool.and_eq_true] at hk
    have hx := opd_ev hs hk.1
    have hk2 := hk.2
    split at hk2
    · rename_i t hts
      have hts' := toList_one hts
      subst hts'
      have hmap := array_one hargs A.eval
      simp only [lkOk] at hk2
      split at hk2
      · rename_i e hu
        simp only [step] at h
        split at h
        · rename_i xs n heq
          simp only [Option.some.injEq, Prod.mk.injEq] at h
          obtain ⟨rfl, rfl⟩ := h
          refine fin _ (fun _ => by rw [hmap]; rfl) ?_ rfl
          rw [heq] at hx
          generalize A.eval x = c at *
          cases hx with | sl _ _ _ ad cap b of cs hn ha hi hc hv ht =>
          have hcap : cap = n := ht
          subst hcap
          refine Post.here hs (c := .int .i64 cap) ?_ (.i _ _)
          simp [Builtin.cap_, run_underlying' hu, goInt]
        · rename_i xs n heq
          simp only [Option.some.injEq, Prod.mk.injEq] at h
          obtain ⟨rfl, rfl⟩ := h
          refine fin _ (fun _ => by rw [hmap]; rfl) ?_ rfl
          rw [heq] at hx
          generalize A.eval x = c at *
          cases hx with | sl _ _ _ ad cap b of cs hn ha hi hc hv ht =>
          have hcap : cap = 0 := ht.2
          subst hcap
          refine Post.here hs (c := .int .i64 0) ?_ (.i _ _)
          simp [Builtin.cap_, run_underlying' hu, goInt]
        · cases h
      · cases hk2
    · cases hk2
  · -- append
    rename_i args' x y ty sz ax ay hargs
    simp only [Bool.and_eq_true] at hk
    obtain ⟨⟨k1, k2⟩, k3⟩ := hk
    have hmap := array_two hargs A.eval
    simp only [step] at h
    obtain ⟨p1, p2⟩ := app_sound hs k3 h (opd_ev hs k1) (opd_ev hs k2) o.type
    exact fin _ (fun _ => by rw [hmap]; rfl) p1 p2
  · -- append to an object
    rename_i args' x y ty sz ax ay hargs
    simp only [Bool.and_eq_true] at hk
    obtain ⟨⟨k1, k2⟩, k3⟩ := hk
    have hmap := array_two hargs A.eval
    simp only [step] at h
    obtain ⟨p1, p2⟩ := appo_sound hs k3 h (opd_ev hs k1) (opd_ev hs k2) o.type
    exact fin _ (fun _ => by rw [hmap]; rfl) p1 p2
  · -- copy
    rename_i args' x y sz ax ay hargs
    simp only [Bool.and_eq_true] at hk
    obtain ⟨⟨k1, k2⟩, k3⟩ := hk
    have hx := opd_ev hs k1
    have hy := opd_ev hs k2
    have hmap := array_two hargs A.eval
    simp only [step] at h
    split at h
    · rename_i id off n sz' ys m heq hrow
      split at h
      · rename_i ty cs hob
        cases hb : (Nat.beq sz sz' && Nat.ble (off + min n m * sz) cs.length && allOne ys) with
        | false => rw [hb] at h; cases h
        | true =>
          rw [hb] at h
          simp only [cond_true, Option.some.injEq, Prod.mk.injEq] at h
          obtain ⟨rfl, rfl⟩ := h
          simp only [Bool.and_eq_true] at hb
          have := Nat.eq_of_beq_eq_true hb.1.1
          subst this
          rw [heq] at hx
          exact fin _ (fun _ => by rw [hmap]; rfl) (copy_sound hs k3 hx hy hrow hob (Nat.le_of_ble_eq_true hb.1.2) hb.2 o.type) rfl
      · cases h
    · rename_i tk yy heq hrow
      simp only [Option.some.injEq, Prod.mk.injEq] at h
      obtain ⟨rfl, rfl⟩ := h
      rw [heq] at hx
      refine fin _ (fun _ => by rw [hmap]; rfl) ?_ rfl
      obtain ⟨t0, e, ht0, hu, hsz, hz⟩ := copyOk_spec k3
      obtain ⟨ys, m⟩ := yy
      obtain ⟨ay', r1, r2, r3⟩ := firstCells_prefix hs hrow hy hz (Nat.zero_le m)
      have hay : ay' = #[] := by
        have := r2.1
        simp only [Nat.zero_mul, List.take_zero, List.length_nil] at this
        exact Array.eq_empty_of_size_eq_zero this.symm
      subst hay
      generalize A.eval x = c at *
      cases hx with | sl _ _ _ ad cap b of cs hn ha hi hc hv ht =>
      refine Post.here hs (c := .int .i64 0) ?_ (.i _ _)
      have hmin : Nat.min m 0 = 0 := Nat.min_zero m
      simp only [Builtin.copy_, ht0, List.getElem?_toArray, List.getElem?_cons_zero, List.getElem?_cons_succ, Sem.run_bind, run_underlying' hu, Result.andThen_ok, r3, hmin, run_sizeOf' hsz, r1]
      cases ad <;> rfl
    · cases h
  · -- min
    rename_i args' x y ax ay hargs
    simp only [Bool.and_eq_true] at hk
    have hx := opd_ev hs hk.1
    have hy := opd_ev hs hk.2
    have hmap := array_two hargs A.eval
    simp only [step] at h
    split at h
    · rename_i k p k' q h1 h2
      simp only [Option.some.injEq, Prod.mk.injEq, cond_false] at h
      obtain ⟨rfl, rfl⟩ := h
      rw [h1] at hx
      rw [h2] at hy
      refine fin _ (fun _ => by rw [hmap]; rfl) ?_ rfl
      generalize A.eval x = c1 at *
      generalize A.eval y = c2 at *
      cases hx; cases hy
      exact Post.here hs rfl (.i _ _)
    · cases h
  · -- max
    rename_i args' x y ax ay hargs
    simp only [Bool.and_eq_true] at hk
    have hx := opd_ev hs hk.1
    have hy := opd_ev hs hk.2
    have hmap := array_two hargs A.eval
    simp only [step] at h
    split at h
    · rename_i k p k' q h1 h2
      simp only [Option.some.injEq, Prod.mk.injEq, cond_true] at h
      obtain ⟨rfl, rfl⟩ := h
      rw [h1] at hx
      rw [h2] at hy
      refine fin _ (fun _ => by rw [hmap]; rfl) ?_ rfl
      generalize A.eval x = c1 at *
      generalize A.eval y = c2 at *
      cases hx; cases hy
      exact Post.here hs rfl (.i _ _)
    · cases h
  · -- min of three
    rename_i args' x y z ax ay az hargs
    simp only [Bool.and_eq_true] at hk
    have hx := opd_ev hs hk.1.1
    have hy := opd_ev hs hk.1.2
    have hz := opd_ev hs hk.2
    have hmap := array_three hargs A.eval
    simp only [step] at h
    split at h
    · rename_i k p k' q k2 r h1 h2 h3
      simp only [Option.some.injEq, Prod.mk.injEq, lim, cond_false] at h
      obtain ⟨rfl, rfl⟩ := h
      rw [h1] at hx
      rw [h2] at hy
      rw [h3] at hz
      refine fin _ (fun _ => by rw [hmap]; rfl) ?_ rfl
      generalize A.eval x = c1 at *
      generalize A.eval y = c2 at *
      generalize A.eval z = c3 at *
      cases hx; cases hy; cases hz
      exact Post.here hs rfl (.i _ _)
    · cases h
  · -- max of three
    rename_i args' x y z ax ay az hargs
    simp only [Bool.and_eq_true] at hk
    have hx := opd_ev hs hk.1.1
    have hy := opd_ev hs hk.1.2
    have hz := opd_ev hs hk.2
    have hmap := array_three hargs A.eval
    simp only [step] at h
    split at h
    · rename_i k p k' q k2 r h1 h2 h3
      simp only [Option.some.injEq, Prod.mk.injEq, lim, cond_true] at h
      obtain ⟨rfl, rfl⟩ := h
      rw [h1] at hx
      rw [h2] at hy
      rw [h3] at hz
      refine fin _ (fun _ => by rw [hmap]; rfl) ?_ rfl
      generalize A.eval x = c1 at *
      generalize A.eval y = c2 at *
      generalize A.eval z = c3 at *
      cases hx; cases hy; cases hz
      exact Post.here hs rfl (.i _ _)
    · cases h
  · -- delete
    rename_i args' x y kt ax ay hargs
    simp only [Bool.and_eq_true] at hk
    obtain ⟨⟨k1, k2⟩, k3⟩ := hk
    have hx := opd_ev hs k1
    have hy := opd_ev hs k2
    have hmap := array_two hargs A.eval
    split at k3
    · rename_i t r hts
      obtain ⟨rfl, W', r1, r2, r3⟩ := mdel_sound hs hts k3 hx hy h (ty := o.type)
      refine fin _ (fun _ => by rw [hmap]; rfl) ⟨.tuple #[], G, W', r1, r2, r3, .tup _ #[] rfl (fun j hj => by cases hj)⟩ rfl
    · cases k3
  · -- unsafe.SliceData
    rename_i args' x ax hargs
    have hx := opd_ev hs hk
    have hmap := array_one hargs A.eval
    simp only [step] at h
    split at h
    · rename_i n heq
      simp only [Option.some.injEq, Prod.mk.injEq] at h
      obtain ⟨rfl, rfl⟩ := h
      rw [heq] at hx
      refine fin _ (fun _ => by rw [hmap]; rfl) ?_ rfl
      generalize A.eval x = c at *
      cases hx with | sl _ _ _ ad cap b of cs hn ha hi hc hv ht =>
      obtain ⟨t1, t2⟩ := ht
      subst t1; subst t2
      exact Post.here hs (c := .pointer none) rfl (.sd [] n .nil none 0 0 0 cs (fun h => absurd rfl h) (fun j hj => by cases hj) (fun j hj => by cases hj) (fun j hj => by cases hj) (fun h => absurd rfl h))
    · rename_i y ys n tk heq
      cases hb : Nat.beq n 0 with
      | true => rw [hb] at h; cases h
      | false =>
        rw [hb] at h
        simp only [cond_false, Option.some.injEq, Prod.mk.injEq] at h
        obtain ⟨rfl, rfl⟩ := h
        rw [heq] at hx
        refine fin _ (fun _ => by rw [hmap]; rfl) ?_ rfl
        generalize A.eval x = c at *
        cases hx with | sl _ _ _ ad cap b of cs hn ha hi hc hv ht =>
        have hp := ha (by simp)
        subst hp
        have hn0 : n ≠ 0 := fun e => by subst e; simp at hb
        refine Post.here hs (c := .pointer (some ⟨b, of, none⟩)) (Lib.run_unsafeSliceData_row W _ _ _ _ _ (by omega)) (.sd _ n tk _ b of cap cs (fun _ => rfl) hi hc hv (fun _ => ht))
    · cases h
  · -- unsafe.String
    rename_i args' x y ty ax ay hargs
    simp only [Bool.and_eq_true] at hk
    obtain ⟨⟨k1, k2⟩, k3⟩ := hk
    have hx := opd_ev hs k1
    have hy := opd_ev hs k2
    have hmap := array_two hargs A.eval
    simp only [step] at h
    split at h
    · rename_i xs n tk m h1 h2
      cases hb : (Nat.beq m n && Nat.beq xs.length n && Nat.ble n most) with
      | false => rw [hb] at h; cases h
      | true =>
        rw [hb] at h
        simp only [cond_true] at h
        simp only [Bool.and_eq_true] at hb
        obtain ⟨⟨b1, b2⟩, b3⟩ := hb
        have := Nat.eq_of_beq_eq_true b1
        subst this
        have hl := Nat.eq_of_beq_eq_true b2
        have hmost := Nat.le_of_ble_eq_true b3
        rw [h1] at hx
        cases hn0 : Nat.beq m 0 with
        | true =>
          rw [hn0] at h
          simp only [cond_true, Option.some.injEq, Prod.mk.injEq] at h
          obtain ⟨rfl, rfl⟩ := h
          exact fin _ (fun _ => by rw [hmap]; rfl) (ustr_sound hs k3 hx hy h2 hl hmost (.inl ⟨Nat.eq_of_beq_eq_true hn0, rfl⟩) o.type) rfl
        | false =>
          rw [hn0] at h
          simp only [cond_false] at h
          have hpos : 0 < m := by
            rcases Nat.eq_zero_or_pos m with h | h
            · subst h; simp at hn0
            · exact h
          split at h
          · rename_i t
            split at h
            · rename_i c u htips
              cases hb2 : (Nat.beq c m && Nat.beq u ty) with
              | false => rw [hb2] at h; cases h
              | true =>
                rw [hb2] at h
                simp only [cond_true] at h
                simp only [Bool.and_eq_true] at hb2
                have e1 := Nat.eq_of_beq_eq_true hb2.1
                have e2 := Nat.eq_of_beq_eq_true hb2.2
                subst e1; subst e2
                cases hby : bytesOf? xs with
                | none => rw [hby] at h; cases h
                | some l =>
                  rw [hby] at h
                  simp only [Option.map_some, Option.some.injEq, Prod.mk.injEq] at h
                  obtain ⟨rfl, rfl⟩ := h
                  exact fin _ (fun _ => by rw [hmap]; rfl) (ustr_sound hs k3 hx hy h2 hl hmost (.inr ⟨t, hpos, rfl, htips, hby⟩) o.type) rfl
            · cases h
          · cases h
    · cases h
  · cases hk

end
end Ai

namespace Ai
open Go

section
variable {P : Program} {K : Known} {kl : List (Nat × List Nat)} {G : Gh} {W : World} {st : St} {A : Act}

theorem run_eq {neg : Bool} {t : TypeId} {et : ET} {x y : Operand} {a b : V} {r : Bool} {ca cb : Value} (hk : eqOk P t et x y = true) (h : eqV et a b = some r) (ha : VR G W a ca) (hb : VR G W b cb) :
    (do eqGuard (if neg then .neq else .eql) t x y ca cb; binOp (if neg then .neq else .eql) t ca cb : Sem Value).run P W = .ok (.bool (r != neg)) W := by
  simp only [eqOk, Bool.and_eq_true] at hk
  obtain ⟨k1, k2⟩ := hk
  have heq := eq_sound 100 10000 t et a b r ca cb k1 (by omega) h ha hb
  have hequal : (Op.equal t ca cb).run P W = .ok r W := heq
  -- what stands ahead
  have hg : ∀ op : BinOp, (eqGuard op t x y ca cb).run P W = .ok () W := by
    intro op
    cases et with
    | bool =>
      cases a <;> cases b <;> simp only [eqV, reduceCtorEq] at h
      cases ha; cases hb; cases op <;> rfl
    | int => simp at k2
    | str => simp at k2
    | ptr =>
      obtain ⟨p1, p2, rfl, rfl⟩ := eqP_ptr (by simpa [eqV] using h) ha hb
      cases op <;> rfl
    | slnil =>
      obtain ⟨p, n, k, q, m, j, rfl, rfl, _⟩ := eq_slnil h ha hb
      cases op <;> rfl
    | iface =>
      have hcc : isConstO x = true ∨ isConstO y = true := by simpa using k2
      cases a <;> cases b <;> simp only [eqV, reduceCtorEq] at h
      all_goals (cases ha; cases hb)
      · cases op <;> rfl
      · cases op <;> rfl
      · have : ∀ z : Operand, isConstO z = true → ∃ v, z = .const v := fun z hz => by cases z <;> first | exact ⟨_, rfl⟩ | (simp [isConstO] at hz)
        rcases hcc with hz | hz <;> obtain ⟨v, rfl⟩ := this _ hz
        · cases op <;> simp [eqGuard]
        · cases op <;> (cases x <;> simp [eqGuard])
    | struct fs =>
      have hgt : P.eqGuardType P.depth t = false := by simpa using k2
      cases a <;> cases b <;> simp only [eqV, reduceCtorEq] at h
      cases ha; cases hb
      exact run_eqGuard_agg W op t x y _ _ hgt
  -- the comparison
  have hbin : ∀ n : Bool, (binOp (if n then .neq else .eql) t ca cb).run P W = .ok (.bool (r != n)) W := by
    intro n
    have e1 : n = false → (binOp .eql t ca cb) = (do pure (.bool (← Op.equal t ca cb))) ∧ True := by
      intro _
      cases et with
      | bool => cases a <;> cases b <;> simp only [eqV, reduceCtorEq] at h; cases ha; cases hb; exact ⟨rfl, trivial⟩
      | int => simp at k2
      | str => simp at k2
      | ptr => obtain ⟨p1, p2, rfl, rfl⟩ := eqP_ptr (by simpa [eqV] using h) ha hb; exact ⟨rfl, trivial⟩
      | slnil => obtain ⟨p, n, k, q, m, j, rfl, rfl, _⟩ := eq_slnil h ha hb; exact ⟨rfl, trivial⟩
      | iface => cases a <;> cases b <;> first | (simp [eqV] at h; done) | (cases ha; cases hb; exact ⟨rfl, trivial⟩)
      | struct fs => cases a <;> cases b <;> first | (simp [eqV] at h; done) | (cases ha; cases hb; exact ⟨rfl, trivial⟩)
    have e2 : n = true → (binOp .neq t ca cb) = (do pure (.bool (!(← Op.equal t ca cb)))) ∧ True := by
      intro _
      cases et with
      | bool => cases a <;> cases b <;> simp only [eqV, reduceCtorEq] at h; cases ha; cases hb; exact ⟨rfl, trivial⟩
      | int => simp at k2
      | str => simp at k2
      | ptr => obtain ⟨p1, p2, rfl, rfl⟩ := eqP_ptr (by simpa [eqV] using h) ha hb; exact ⟨rfl, trivial⟩
      | slnil => obtain ⟨p, n, k, q, m, j, rfl, rfl, _⟩ := eq_slnil h ha hb; exact ⟨rfl, trivial⟩
      | iface => cases a <;> cases b <;> first | (simp [eqV] at h; done) | (cases ha; cases hb; exact ⟨rfl, trivial⟩)
      | struct fs => cases a <;> cases b <;> first | (simp [eqV] at h; done) | (cases ha; cases hb; exact ⟨rfl, trivial⟩)
    cases n with
    | false =>
      simp only [Bool.false_eq_true, if_false]
      rw [(e1 rfl).1]
      simp [hequal]
    | true =>
      simp only [if_true]
      rw [(e2 rfl).1]
      simp [hequal]
  rw [Sem.run_bind, hg]
  exact hbin neg

end
end Ai
