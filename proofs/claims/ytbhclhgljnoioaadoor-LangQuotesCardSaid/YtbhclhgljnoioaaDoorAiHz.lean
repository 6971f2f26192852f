/- The machine with calls that write: what simp is told. Printed by mkhz.py. -/
import Derived.Test.YtbhclhgljnoioaaDoorAiHy
import Derived.Test.YtbhclhgljnoioaaDoorAiTx
namespace Ai.Hp
open Go Ai
section
variable {xf : FuncId → List V → Option V} {xh : FuncId → List V → H → Option (V × H)} {kz : Nat → List Nat} {k : List Fr} {st : St} {Q : AEx → St → Prop}
attribute [go_sem] M_nil M_op C_some M_opg M_skip M_ret M_exit M_reg M_seq M_blk M_cond B_true B_false M_done M_ns M_rs M_es M_nb M_rb M_eb M_nl M_rl M_el X_eq X_ne
@[go_sem] theorem C_none (d : Option Nat) (r : List AOper) : C xf xh kz d r k Q none = False := rfl
@[go_sem] theorem G_tt (d : Option Nat) (op : AOp) (r : List AOper) : G xf xh kz d op r k st Q true (.b true) = M xf xh kz (.ops (⟨d, op, none⟩ :: r)) k st Q := rfl
@[go_sem] theorem G_ff (d : Option Nat) (op : AOp) (r : List AOper) : G xf xh kz d op r k st Q false (.b false) = M xf xh kz (.ops (⟨d, op, none⟩ :: r)) k st Q := rfl
@[go_sem] theorem G_tf (d : Option Nat) (op : AOp) (r : List AOper) : G xf xh kz d op r k st Q true (.b false) = M xf xh kz (.ops r) k (st.put d (.tup [])) Q := rfl
@[go_sem] theorem G_ft (d : Option Nat) (op : AOp) (r : List AOper) : G xf xh kz d op r k st Q false (.b true) = M xf xh kz (.ops r) k (st.put d (.tup [])) Q := rfl
@[go_sem] theorem G_un (d : Option Nat) (op : AOp) (r : List AOper) (w : Bool) : G xf xh kz d op r k st Q w (.tup []) = M xf xh kz (.ops r) k (st.put d (.tup [])) Q := rfl
theorem G_split (d : Option Nat) (op : AOp) (r : List AOper) (w x : Bool) (h1 : x = true → G xf xh kz d op r k st Q w (.b true)) (h2 : x = false → G xf xh kz d op r k st Q w (.b false)) : G xf xh kz d op r k st Q w (.b x) := by
  cases x with
  | true => exact h1 rfl
  | false => exact h2 rfl
@[go_sem] theorem k_mov (d : Nat) (x : Opd) : stepK xf xh st d (.mov x) = (match st.raw x with | .it => none | v => some (v, st)) := rfl
@[go_sem] theorem k_movnil (gl : Nat → List V) (T : T) (its : List (Nat × (List UInt8 × Nat))) (loc : List (Nat × List V)) (nx : Nat) (obs : List (Nat × Obj)) (nt : Nat) (tips : List (Nat × (Nat × TypeId))) (d : Nat) (ty : TypeId) :
    stepK xf xh ⟨gl, T, its, loc, ⟨nx, obs, nt, tips⟩⟩ d (.movnil ty) = some (.sl [] 0 (.own nt), ⟨gl, T, its, loc, ⟨nx, obs, nt + 1, (nt, (0, ty)) :: tips⟩⟩) := rfl
@[go_sem] theorem k_pick (d : Nat) (c a b : Opd) : stepK xf xh st d (.pick c a b) = (match st.ev c with | .b x => some (bif x then st.ev a else st.ev b, st) | _ => none) := rfl
@[go_sem] theorem k_build (d : Nat) (z : List V) (ps : List (Nat × Nat × Opd)) : stepK xf xh st d (.build z ps) = (match fill z (evP st ps) with | some cs => some (.agg cs, st) | none => none) := rfl
@[go_sem] theorem k_load (d : Nat) (agg : Bool) (n : Nat) (a : Opd) : stepK xf xh st d (.load agg n a) = (match st.rd (st.raw a) n with | some cs => bif agg then some (.agg cs, st) else (match cs with | [v] => some (v.val, st) | _ => none) | none => none) := rfl
@[go_sem] theorem k_store (d n : Nat) (a x : Opd) : stepK xf xh st d (.store n a x) = (match (st.ev x).cells? with | some cs => bif Nat.beq cs.length n && allOne cs then (st.wrt (st.raw a) cs).map (.any, ·) else none | none => none) := rfl
@[go_sem] theorem k_nilck (d : Nat) (x : Opd) : stepK xf xh st d (.nilck x) = (match st.raw x with | .p a o => some (.p a o, st) | .l a o => some (.l a o, st) | .ip (x :: xs) o => some (.ip (x :: xs) o, st) | .fn f a b => some (.fn f a b, st) | .ifc t v => some (.ifc t v, st) | _ => none) := rfl
@[go_sem] theorem k_bin (d : Nat) (op : BinOp) (x y : Opd) : stepK xf xh st d (.bin op x y) = (bin op (st.ev x) (st.ev y)).map (·, st) := rfl
@[go_sem] theorem k_eq (d : Nat) (neg : Bool) (t : ET) (x y : Opd) : stepK xf xh st d (.eq neg t x y) = (eqV t (st.ev x) (st.ev y)).map fun b => (.b (b != neg), st) := rfl
@[go_sem] theorem k_un (d : Nat) (op : UnOp) (x : Opd) : stepK xf xh st d (.un op x) = (un op (st.ev x)).map (·, st) := rfl
@[go_sem] theorem k_conv (d : Nat) (c : CK) (x : Opd) : stepK xf xh st d (.conv c x) = (convV st c (st.ev x)).map (·, st) := rfl
@[go_sem] theorem k_mkif (d : Nat) (t : TypeId) (x : Opd) : stepK xf xh st d (.mkif t x) = some (.ifc t (st.ev x), st) := rfl
@[go_sem] theorem k_mkfn (d : Nat) (f : FuncId) (a b : List Opd) : stepK xf xh st d (.mkfn f a b) = some (.fn f (evL st a) (evL st b), st) := rfl
@[go_sem] theorem k_slc (d : Nat) (kk : SK) (x : Opd) (lo hi mx : Option Opd) : stepK xf xh st d (.slc kk x lo hi mx) = (slcV kk (st.ev x) (evO st lo) (evO st hi) (evO st mx)).map (·, st) := rfl
@[go_sem] theorem k_faddr (d off : Nat) (x : Opd) : stepK xf xh st d (.faddr off x) = (match st.raw x with | .ip (x :: xs) o => some (.ip (x :: xs) (o + off), st) | .l a o => some (.l a (o + off), st) | .p a o => some (.p a (o + off), st) | _ => none) := rfl
@[go_sem] theorem k_fld (d : Nat) (agg : Bool) (off n : Nat) (x : Opd) : stepK xf xh st d (.fld agg off n x) = (match st.ev x with | .agg cs => (part? cs off n agg).map (·, st) | _ => none) := rfl
@[go_sem] theorem k_iaddr (d : Nat) (kk : IK) (x i : Opd) : stepK xf xh st d (.iaddr kk x i) = (match natOf (st.ev i), kk, st.raw x with
    | some j, .slice sz, .sl xs n _ => bif Nat.blt j n && Nat.ble ((j + 1) * sz) xs.length then some (.ip xs (j * sz), st) else none
    | some j, .slice sz, .hs id off n sz' => bif Nat.blt j n && Nat.beq sz sz' then some (.p id (off + j * sz), st) else none
    | some j, .arr len sz, .ip (x :: xs) o => bif Nat.blt j len then some (.ip (x :: xs) (o + j * sz), st) else none
    | some j, .arr len sz, .l a o => bif Nat.blt j len then some (.l a (o + j * sz), st) else none
    | some j, .arr len sz, .p a o => bif Nat.blt j len then some (.p a (o + j * sz), st) else none
    | _, _, _ => none) := rfl
@[go_sem] theorem k_idx (d : Nat) (kk : XK) (x i : Opd) : stepK xf xh st d (.idx kk x i) = (idxV kk (st.ev x) (st.ev i)).map (·, st) := rfl
@[go_sem] theorem k_len (d : Nat) (kk : LK) (x : Opd) : stepK xf xh st d (.len kk x) = (match kk, st.ev x with
    | .str, .s l => some (.i .i64 l.length, st)
    | .slice, .sl _ n _ => some (.i .i64 n, st)
    | .slice, .hs _ _ n _ => some (.i .i64 n, st)
    | .map, .m none => some (.i .i64 0, st)
    | .map, .m (some id) => match al st.h.objs id with
      | some (.map es) => some (.i .i64 es.length, st)
      | _ => none
    | .arr n, _ => some (.i .i64 n, st)
    | _, _ => none) := rfl
@[go_sem] theorem k_app (d : Nat) (ty : TypeId) (sz : Nat) (x y : Opd) : stepK xf xh st d (.app ty sz x y) = st.app ty sz (st.ev x) (st.ev y) := rfl
theorem k_bslice (d : Nat) (ty : TypeId) (sz len : Nat) (z : List V) (ps : List (Nat × Opd)) : stepK xf xh st d (.bslice false ty sz len z ps) = (match fill (zeros z len) (evB st sz ps) with | some cs => some (.sl cs len .full, st) | none => none) := rfl
@[go_sem] theorem k_ext (d : Nat) (x : Opd) (i : Nat) : stepK xf xh st d (.ext x i) = (tupAt i (st.ev x)).map (·, st) := by
  have e : stepK xf xh st d (.ext x i) = (match st.ev x with | .tup vs => vs[i]?.map fun v => (v.val, st) | _ => none) := rfl
  rw [e]
  generalize st.ev x = v
  cases v <;> simp [tupAt, Function.comp_def]
@[go_sem] theorem k_bslice0 (d : Nat) (ty : TypeId) (sz : Nat) (z : List V) : stepK xf xh st d (.bslice false ty sz 0 z []) = some (.sl [] 0 .full, st) := rfl
@[go_sem] theorem k_bslice2 (d : Nat) (ty : TypeId) (z : V) (x y : Opd) : stepK xf xh st d (.bslice false ty 1 2 [z] [(0, x), (1, y)]) = (match fill [z, z] [(0, 1, st.ev x), (1, 1, st.ev y)] with | some cs => some (.sl cs 2 .full, st) | none => none) := rfl
@[go_sem] theorem k_bslice3 (d : Nat) (ty : TypeId) (z : V) (x y u : Opd) : stepK xf xh st d (.bslice false ty 1 3 [z] [(0, x), (1, y), (2, u)]) = (match fill [z, z, z] [(0, 1, st.ev x), (1, 1, st.ev y), (2, 1, st.ev u)] with | some cs => some (.sl cs 3 .full, st) | none => none) := rfl
@[go_sem] theorem k_bslice4 (d : Nat) (ty : TypeId) (z : V) (x y u w : Opd) : stepK xf xh st d (.bslice false ty 1 4 [z] [(0, x), (1, y), (2, u), (3, w)]) = (match fill [z, z, z, z] [(0, 1, st.ev x), (1, 1, st.ev y), (2, 1, st.ev u), (3, 1, st.ev w)] with | some cs => some (.sl cs 4 .full, st) | none => none) := rfl
@[go_sem] theorem k_bslice1 (d : Nat) (ty : TypeId) (z : V) (x : Opd) : stepK xf xh st d (.bslice false ty 1 1 [z] [(0, x)]) = (match (st.ev x).cells? with | some [v] => some (.sl [v] 1 .full, st) | _ => none) := by
  rw [k_bslice]
  simp only [evB, fill]
  cases (st.ev x).cells? with
  | none => rfl
  | some vs =>
    match vs with
    | [] => rfl
    | [v] => rfl
    | a :: b :: r =>
      simp only [List.length_cons]
      rw [show Nat.beq (r.length + 1 + 1) 1 = false from by cases hb : Nat.beq (r.length + 1 + 1) 1 with | true => exact absurd (Nat.eq_of_beq_eq_true hb) (by omega) | false => rfl]
      rfl
@[go_sem] theorem k_minmax (d : Nat) (mx : Bool) (x y : Opd) : stepK xf xh st d (.minmax mx x y) = (match st.ev x, st.ev y with | .i k a, .i _ b => some (.i k (bif mx then (if b > a then b else a) else (if b < a then b else a)), st) | _, _ => none) := rfl
@[go_sem] theorem k_tas (d : Nat) (conc : Bool) (oks bads : List TypeId) (z : V) (ok : Bool) (x : Opd) : stepK xf xh st d (.tas conc oks bads z ok x) = (tasV conc oks bads z ok (st.ev x)).map (·, st) := rfl
@[go_sem] theorem k_range (gl : Nat → List V) (T : T) (its : List (Nat × (List UInt8 × Nat))) (loc : List (Nat × List V)) (h : H) (d : Nat) (x : Opd) :
    stepK xf xh ⟨gl, T, its, loc, h⟩ d (.range x) = (match St.ev ⟨gl, T, its, loc, h⟩ x with | .s l => some (.it, ⟨gl, T.set d .any, alSet its d (l, 0), loc, h⟩) | _ => none) := rfl
@[go_sem] theorem k_next (gl : Nat → List V) (T : T) (its : List (Nat × (List UInt8 × Nat))) (loc : List (Nat × List V)) (h : H) (d slot : Nat) :
    stepK xf xh ⟨gl, T, its, loc, h⟩ d (.next slot) = (match T.get slot, al its slot with
    | .it, some (l, pos) => match l with
      | [] => some (.tup [.b false], ⟨gl, T, its, loc, h⟩)
      | _ :: _ => some (.tup [.b true, .i .i64 pos, .i .i32 (dec l).1], ⟨gl, T, alSet its slot (l.drop (dec l).2, pos + (dec l).2), loc, h⟩)
    | _, _ => none) := rfl
@[go_sem] theorem k_call (d : Nat) (g : FuncId) (args : List Opd) : stepK xf xh st d (.call true g args) = (xf g (evL st args)).map (·, st) := rfl
@[go_sem] theorem k_callv (d : Nat) (x : Opd) (args : List Opd) : stepK xf xh st d (.callv true x args) = (match st.ev x with | .fn f first cap => (xf f (first ++ evL st args ++ cap)).map (·, st) | _ => none) := rfl
@[go_sem] theorem k_calli (gl : Nat → List V) (T : T) (its : List (Nat × (List UInt8 × Nat))) (loc : List (Nat × List V)) (h : H) (d : Nat) (g : FuncId) (args : List Opd) :
    stepK xf xh ⟨gl, T, its, loc, h⟩ d (.call false g args) = (xh g (evL ⟨gl, T, its, loc, h⟩ args) h).map fun p => (p.1, ⟨gl, T, its, loc, p.2⟩) := rfl
@[go_sem] theorem k_alloc (gl : Nat → List V) (T : T) (its : List (Nat × (List UInt8 × Nat))) (loc : List (Nat × List V)) (nx : Nat) (obs : List (Nat × Obj)) (nt : Nat) (tips : List (Nat × (Nat × TypeId))) (d : Nat) (ty : TypeId) (cs : List V) :
    stepK xf xh ⟨gl, T, its, loc, ⟨nx, obs, nt, tips⟩⟩ d (.alloc ty cs) = some (.p nx 0, ⟨gl, T, its, loc, ⟨nx + 1, (nx, .cells ty cs) :: obs, nt, tips⟩⟩) := rfl
@[go_sem] theorem k_noesc (d : Nat) (f : FuncId) (x : Opd) : stepK xf xh st d (.noesc f x) = (match st.ev x with | .p a o => some (.p a o, st) | _ => none) := rfl
@[go_sem] theorem k_sdata (d : Nat) (x : Opd) : stepK xf xh st d (.sdata x) = (match st.ev x with
    | .sl [] n .nil => some (.sd [] n .nil, st)
    | .sl (x :: xs) n tk => bif Nat.beq n 0 then none else some (.sd (x :: xs) n tk, st)
    | _ => none) := rfl
@[go_sem] theorem k_ustr (d : Nat) (ty : TypeId) (x n : Opd) : stepK xf xh st d (.ustr ty x n) = (match st.ev x, natOf (st.ev n) with
    | .sd xs n tk, some m => bif Nat.beq m n && Nat.beq xs.length n && Nat.ble n most then
        (bif Nat.beq n 0 then some (.s [], st) else
         match tk with
         | .own t => match al st.h.tips t with
           | some (c, u) => bif Nat.beq c n && Nat.beq u ty then (bytesOf? xs).map fun l => (.s l, st) else none
           | none => none
         | _ => none) else none
    | _, _ => none) := rfl
@[go_sem] theorem fin_ret (res : List ARes) (v : V) (h' : H) : FinI res v h' .ret st = ((resV st res).map (fun vs => (oneOf vs, st.h)) = some (v, h')) := by simp [FinI, AEx.ends]
@[go_sem] theorem fin_norm (res : List ARes) (v : V) (h' : H) : FinI res v h' .norm st = ((resV st res).map (fun vs => (oneOf vs, st.h)) = some (v, h')) := by simp [FinI, AEx.ends]
@[go_sem] theorem rd_p (d o n : Nat) : st.rd (.p d o) n = (match al st.h.objs d with | some (.cells _ cs) => sub? cs o n | _ => none) := rfl
@[go_sem] theorem wrt_p (gl : Nat → List V) (T : T) (its : List (Nat × (List UInt8 × Nat))) (loc : List (Nat × List V)) (nx : Nat) (obs : List (Nat × Obj)) (nt : Nat) (tips : List (Nat × (Nat × TypeId))) (id o : Nat) (xs : List V) :
    St.wrt ⟨gl, T, its, loc, ⟨nx, obs, nt, tips⟩⟩ (.p id o) xs = (match al obs id with
      | some (.cells ty cs) => bif Nat.ble (o + xs.length) cs.length then some ⟨gl, T, its, loc, ⟨nx, alSet obs id (.cells ty (splice cs o xs)), nt, tips⟩⟩ else none
      | _ => none) := rfl
end
end Ai.Hp
