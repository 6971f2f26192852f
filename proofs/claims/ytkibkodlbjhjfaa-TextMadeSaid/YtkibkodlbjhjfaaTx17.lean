/- A value that is made of fields of unlike names has each of them, and no other one: the law. -/
import Derived.Test.YtkibkodlbjhjfaaTx16
set_option linter.unusedSimpArgs false
set_option linter.unusedVariables false
namespace Go.Proofs.Ytkibkodlbjhjfaa
open Ai
def sm : List (List UInt8) → Nat
  | [] => 0
  | v :: r => min v.length 16384 + sm r
def tot : List (List UInt8) → Nat
  | [] => 0
  | v :: r => v.length + tot r
theorem sm_lt : ∀ l, sm l < 16384 → tot l = sm l := by
  intro l
  induction l with
  | nil => intro _; rfl
  | cons v r ih => intro h; simp only [sm, tot] at h ⊢; have := ih (by omega); omega
theorem tot_le (B : Nat) (hB : 16384 ≤ B) : ∀ l, sm l ≤ 16384 → (∀ v ∈ l, v.length ≤ B) → tot l ≤ B := by
  intro l
  induction l with
  | nil => intro _ _; simp [tot]
  | cons v r ih =>
    intro h hl
    simp only [sm, tot] at h ⊢
    have h1 := hl v (by simp)
    by_cases h0 : v.length = 0
    · have := ih (by omega) (fun x hx => hl x (by simp [hx])); omega
    · have := sm_lt r (by omega); omega
theorem sm_app (l : List (List UInt8)) (v : List UInt8) : sm (l ++ [v]) = sm l + min v.length 16384 := by
  induction l with
  | nil => simp [sm]
  | cons x r ih => simp only [List.cons_append, sm, ih]; omega
theorem join_len (sep : List UInt8) : ∀ (ps : List (List UInt8)), (Lib.join ps sep).length ≤ tot ps + sep.length * ps.length := by
  intro ps
  induction ps with
  | nil => simp [Lib.join_nil]
  | cons p r ih =>
    rw [Lib.join_cons]
    have : ∀ r : List (List UInt8), (Lib.joinTail sep r).length = tot r + sep.length * r.length := by
      intro r
      induction r with
      | nil => simp [Lib.joinTail, tot]
      | cons q s ih2 => rw [joinT_cons]; simp only [List.length_append, tot, List.length_cons, ih2, Nat.mul_add, Nat.mul_one]; omega
    rw [List.length_append, this]
    simp only [tot, List.length_cons, Nat.mul_add, Nat.mul_one]
    omega
theorem tot_mk : ∀ (l : List (List UInt8 × List UInt8)), (∀ e ∈ l, low e.1) → tot (l.map mkp) ≤ 9 * l.length + tot (l.map (·.2)) := by
  intro l
  induction l with
  | nil => intro _; simp [tot]
  | cons e r ih =>
    intro h
    have h1 := (h e (by simp)).2.1
    have := ih (fun x hx => h x (by simp [hx]))
    simp only [List.map_cons, tot, mk_eq, List.length_append, List.length_cons]
    omega
def F_Name (a : List V) : Option V := match a with
  | [.s l] => some (.i .i64 (errV (allV letter 1 8 l) 22))
  | _ => none
theorem F_Name1 (l : List UInt8) : F_Name [.s l] = some (.i .i64 (errV (allV letter 1 8 l) 22)) := rfl
theorem o_Name : ∀ a v, F_Name a = some v → Comp tabx told 25 a v := fun a v e => by
  unfold F_Name at e
  split at e
  · cases e; exact c_Name _
  · cases e
theorem joinV1 (ps : List (List UInt8)) (sep : List UInt8) (t : Tk) (h1 : ps.length ≤ 140737488355328) (h2 : (Lib.join ps sep).length ≤ 140737488355328) : joinV [.sl (ps.map V.s) ps.length t, .s sep] = some (.s (Lib.join ps sep)) := by
  simp only [joinV, strsOf_map, List.length_map, nat_beq, nat_ble, h1, h2, decide_true, Bool.and_self, cond_true]
theorem o_join : ∀ a v, joinV a = some v → Comp tabx told 27 a v := fun a v e => comp_prim (by show xf _ a = some v; exact e)
theorem o_index : ∀ a v, indexV a = some v → Comp tabx told 28 a v := fun a v e => comp_prim (by show xf _ a = some v; exact e)
theorem index32 (l : List UInt8) : indexV [.s l, .i .u8 32] = some (.i .i64 (Lib.indexByte l 32)) := rfl
def X_made := xs [(11, F_awake), (25, F_Name), (12, F_Field), (27, joinV), (28, indexV)]
theorem t_TextMade : Tells tabx told X_made := tells_cons o_awake (tells_cons o_Name (tells_cons o_Field (tells_cons o_join (tells_cons o_index tells_nil))))
theorem xa : X_made 11 [] = some (.b true) := rfl
theorem xn (l : List UInt8) : X_made 25 [.s l] = some (.i .i64 (errV (allV letter 1 8 l) 22)) := rfl
theorem xi (l : List UInt8) : X_made 28 [.s l, .i .u8 32] = some (.i .i64 (Lib.indexByte l 32)) := rfl
theorem xfd (v name : List UInt8) (hv : v.length ≤ 1152921504606846976 ∧ (prt 32 [] v).length ≤ 16385) : X_made 12 [.s v, .s name] = some (res (fldV name (prt 32 [] v))) := F_Field1 v name hv
theorem xj (ps : List (List UInt8)) (t : Tk) (h1 : ps.length ≤ 140737488355328) (h2 : (Lib.join ps [32]).length ≤ 140737488355328) : X_made 27 [.sl (ps.map V.s) ps.length t, .s [32]] = some (.s (Lib.join ps [32])) := joinV1 ps [32] t h1 h2
/-- What the loop keeps. -/
structure Inv (l : List (List UInt8 × List UInt8)) : Prop where
  low : ∀ e ∈ l, low e.1
  free : ∀ e ∈ l, (32 : UInt8) ∉ e.2
  nodup : (l.map (·.1)).Nodup
  len : ∀ e ∈ l, e.2.length ≤ 140737488351232
  sum : sm (l.map (·.2)) ≤ 16384
  cnt : l.length ≤ 50
theorem Inv.joined {l : List (List UInt8 × List UInt8)} (h : Inv l) : (Lib.join (l.map mkp) [32]).length ≤ 140737488355328 := by
  have h1 := join_len [32] (l.map mkp)
  have h2 := tot_mk l h.low
  have h3 := tot_le 140737488351232 (by omega) (l.map (·.2)) h.sum (fun v hv => by obtain ⟨e, he, rfl⟩ := List.mem_map.1 hv; exact h.len e he)
  have := h.cnt
  simp only [List.length_map, List.length_singleton] at h1
  omega
def K10_2 : List Fr := [.blk 2,
  .seq (.seq (.reg [⟨some 104, .mov (.t 12), none⟩,
       ⟨some 105, .mov (.t 2), none⟩,
       ⟨some 106, .call true 12 [(.t 104), (.t 105)], none⟩,
       ⟨some 103, .mov (.t 106), none⟩,
       ⟨some 107, .ext (.t 103) 0, none⟩,
       ⟨some 108, .ext (.t 103) 1, none⟩,
       ⟨some 16, .mov (.t 107), none⟩,
       ⟨some 17, .mov (.t 108), none⟩])
    (.seq (.reg [⟨some 109, .mov (.t 17), none⟩,
       ⟨some 110, .mov (.t 109), none⟩,
       ⟨some 111, .mov (.t 16), some (110, false)⟩,
       ⟨some 112, .bin .eql (.t 111) (.k (.s [])), some (110, false)⟩,
       ⟨some 113, .pick (.t 110) (.k (.b true)) (.t 112), none⟩,
       ⟨some 114, .mov (.t 113), none⟩,
       ⟨some 115, .mov (.t 2), some (114, true)⟩,
       ⟨some 116, .call true 25 [(.t 115)], some (114, true)⟩,
       ⟨some 117, .bin .neq (.t 116) (.k (.i .i64 0)), some (114, true)⟩,
       ⟨some 118, .mov (.t 117), some (114, true)⟩,
       ⟨some 119, .mov (.t 17), some (118, false)⟩,
       ⟨some 120, .mov (.t 8), some (118, false)⟩,
       ⟨some 121, .mov (.t 2), some (118, false)⟩,
       ⟨some 122, .mget .str false (.b false) (.t 120) (.t 121), some (118, false)⟩,
       ⟨some 123, .eq false .bool (.t 119) (.t 122), some (118, false)⟩,
       ⟨some 124, .pick (.t 118) (.k (.b true)) (.t 123), some (114, true)⟩,
       ⟨some 125, .pick (.t 114) (.t 124) (.k (.b false)), none⟩,
       ⟨some 126, .mov (.t 125), none⟩,
       ⟨some 127, .call true 11 [], some (126, true)⟩,
       ⟨some 128, .pick (.t 126) (.t 127) (.k (.b false)), none⟩,
       ⟨some 6, .mov (.t 128), none⟩])
    .ret))]
theorem U10_2 {xf : FuncId → List V → Option V} {kz : Nat → List Nat} {k : List Fr} {st : St} {Q : AEx → St → Prop} : M xf kz (.code L10_2) k st Q = M xf kz (.code (.seq (.reg [⟨some 81, .bin .lss (.t 80) (.t 79), none⟩])
  (.seq (.cond (.t 81)
    .skip
    (.exit 2))
  (.seq (.blk 3 (.seq (.reg [⟨some 82, .mov (.t 80), none⟩,
       ⟨some 13, .mov (.t 82), none⟩])
    (.seq (.reg [⟨some 84, .mov (.t 12), none⟩,
       ⟨some 85, .mov (.t 0), none⟩,
       ⟨some 86, .mov (.t 13), none⟩,
       ⟨some 87, .iaddr (.slice 1) (.t 85) (.t 86), none⟩,
       ⟨some 88, .load false 1 (.t 87), none⟩,
       ⟨some 89, .call true 12 [(.t 84), (.t 88)], none⟩,
       ⟨some 83, .mov (.t 89), none⟩,
       ⟨some 90, .ext (.t 83) 0, none⟩,
       ⟨some 91, .ext (.t 83) 1, none⟩,
       ⟨some 14, .mov (.t 90), none⟩,
       ⟨some 15, .mov (.t 91), none⟩])
    (.seq (.reg [⟨some 92, .mov (.t 15), none⟩,
       ⟨some 93, .un .not (.t 92), none⟩,
       ⟨some 94, .mov (.t 93), none⟩,
       ⟨some 95, .mov (.t 14), some (94, false)⟩,
       ⟨some 96, .mov (.t 1), some (94, false)⟩,
       ⟨some 97, .mov (.t 13), some (94, false)⟩,
       ⟨some 98, .iaddr (.slice 1) (.t 96) (.t 97), some (94, false)⟩,
       ⟨some 99, .load false 1 (.t 98), some (94, false)⟩,
       ⟨some 100, .bin .neq (.t 95) (.t 99), some (94, false)⟩,
       ⟨some 101, .pick (.t 94) (.k (.b true)) (.t 100), none⟩])
    (.cond (.t 101)
     (.seq (.reg [⟨some 6, .mov (.k (.b false)), none⟩])
     .ret)
     .skip)))))
  (.reg [⟨some 102, .bin .add (.t 80) (.k (.i .i64 1)), none⟩,
    ⟨some 80, .mov (.t 102), none⟩]))))) k st Q := rfl
def K10_1 : List Fr := [.blk 0,
  .seq (.seq (.reg [⟨some 76, .mov (.t 7), none⟩,
       ⟨some 77, .call true 27 [(.t 76), (.k (.s [32]))], none⟩,
       ⟨some 12, .mov (.t 77), none⟩])
    (.seq (.seq (.reg [⟨some 78, .mov (.t 7), none⟩,
        ⟨some 79, .len .slice (.t 78), none⟩,
        ⟨some 80, .mov (.k (.i .i64 0)), none⟩])
     (.blk 2 (.loop L10_2)))
    (.seq (.reg [⟨some 104, .mov (.t 12), none⟩,
       ⟨some 105, .mov (.t 2), none⟩,
       ⟨some 106, .call true 12 [(.t 104), (.t 105)], none⟩,
       ⟨some 103, .mov (.t 106), none⟩,
       ⟨some 107, .ext (.t 103) 0, none⟩,
       ⟨some 108, .ext (.t 103) 1, none⟩,
       ⟨some 16, .mov (.t 107), none⟩,
       ⟨some 17, .mov (.t 108), none⟩])
    (.seq (.reg [⟨some 109, .mov (.t 17), none⟩,
       ⟨some 110, .mov (.t 109), none⟩,
       ⟨some 111, .mov (.t 16), some (110, false)⟩,
       ⟨some 112, .bin .eql (.t 111) (.k (.s [])), some (110, false)⟩,
       ⟨some 113, .pick (.t 110) (.k (.b true)) (.t 112), none⟩,
       ⟨some 114, .mov (.t 113), none⟩,
       ⟨some 115, .mov (.t 2), some (114, true)⟩,
       ⟨some 116, .call true 25 [(.t 115)], some (114, true)⟩,
       ⟨some 117, .bin .neq (.t 116) (.k (.i .i64 0)), some (114, true)⟩,
       ⟨some 118, .mov (.t 117), some (114, true)⟩,
       ⟨some 119, .mov (.t 17), some (118, false)⟩,
       ⟨some 120, .mov (.t 8), some (118, false)⟩,
       ⟨some 121, .mov (.t 2), some (118, false)⟩,
       ⟨some 122, .mget .str false (.b false) (.t 120) (.t 121), some (118, false)⟩,
       ⟨some 123, .eq false .bool (.t 119) (.t 122), some (118, false)⟩,
       ⟨some 124, .pick (.t 118) (.k (.b true)) (.t 123), some (114, true)⟩,
       ⟨some 125, .pick (.t 114) (.t 124) (.k (.b false)), none⟩,
       ⟨some 126, .mov (.t 125), none⟩,
       ⟨some 127, .call true 11 [], some (126, true)⟩,
       ⟨some 128, .pick (.t 126) (.t 127) (.k (.b false)), none⟩,
       ⟨some 6, .mov (.t 128), none⟩])
    .ret))))]
theorem U10_1 {xf : FuncId → List V → Option V} {kz : Nat → List Nat} {k : List Fr} {st : St} {Q : AEx → St → Prop} : M xf kz (.code L10_1) k st Q = M xf kz (.code (.seq (.reg [⟨some 25, .bin .lss (.t 24) (.t 23), none⟩])
  (.seq (.cond (.t 25)
    .skip
    (.exit 0))
  (.seq (.blk 1 (.seq (.reg [⟨some 26, .mov (.t 24), none⟩,
       ⟨some 10, .mov (.t 26), none⟩])
    (.seq (.reg [⟨some 27, .mov (.t 1), none⟩,
       ⟨some 28, .mov (.t 10), none⟩,
       ⟨some 29, .iaddr (.slice 1) (.t 27) (.t 28), none⟩,
       ⟨some 30, .load false 1 (.t 29), none⟩,
       ⟨some 11, .mov (.t 30), none⟩])
    (.seq (.reg [⟨some 31, .mov (.t 9), none⟩,
       ⟨some 32, .mov (.t 11), none⟩,
       ⟨some 33, .len .str (.t 32), none⟩,
       ⟨some 34, .minmax false (.t 33) (.k (.i .i64 16384)), none⟩,
       ⟨some 35, .bin .add (.t 31) (.t 34), none⟩,
       ⟨some 9, .mov (.t 35), none⟩])
    (.seq (.seq (.reg [⟨some 36, .mov (.t 0), none⟩,
        ⟨some 37, .mov (.t 10), none⟩,
        ⟨some 38, .iaddr (.slice 1) (.t 36) (.t 37), none⟩,
        ⟨some 39, .load false 1 (.t 38), none⟩,
        ⟨some 40, .call true 25 [(.t 39)], none⟩,
        ⟨some 41, .bin .neq (.t 40) (.k (.i .i64 0)), none⟩,
        ⟨some 42, .mov (.t 41), none⟩,
        ⟨some 43, .mov (.t 8), some (42, false)⟩,
        ⟨some 44, .mov (.t 0), some (42, false)⟩,
        ⟨some 45, .mov (.t 10), some (42, false)⟩,
        ⟨some 46, .iaddr (.slice 1) (.t 44) (.t 45), some (42, false)⟩,
        ⟨some 47, .load false 1 (.t 46), some (42, false)⟩,
        ⟨some 48, .mget .str false (.b false) (.t 43) (.t 47), some (42, false)⟩,
        ⟨some 49, .pick (.t 42) (.k (.b true)) (.t 48), none⟩,
        ⟨some 50, .mov (.t 49), none⟩,
        ⟨some 51, .mov (.t 11), some (50, false)⟩,
        ⟨some 52, .call true 28 [(.t 51), (.k (.i .u8 32))], some (50, false)⟩,
        ⟨some 53, .bin .geq (.t 52) (.k (.i .i64 0)), some (50, false)⟩,
        ⟨some 54, .pick (.t 50) (.k (.b true)) (.t 53), none⟩,
        ⟨some 55, .mov (.t 54), none⟩,
        ⟨some 56, .mov (.t 9), some (55, false)⟩,
        ⟨some 57, .bin .gtr (.t 56) (.k (.i .i64 16384)), some (55, false)⟩,
        ⟨some 58, .pick (.t 55) (.k (.b true)) (.t 57), none⟩])
     (.cond (.t 58)
      (.seq (.reg [⟨some 59, .call true 11 [], none⟩,
         ⟨some 6, .mov (.t 59), none⟩])
      .ret)
      .skip))
    (.seq (.reg [⟨some 60, .mov (.t 8), none⟩,
       ⟨some 61, .mov (.t 0), none⟩,
       ⟨some 62, .mov (.t 10), none⟩,
       ⟨some 63, .iaddr (.slice 1) (.t 61) (.t 62), none⟩,
       ⟨some 64, .load false 1 (.t 63), none⟩,
       ⟨none, .mput .str (.t 60) (.t 64) (.k (.b true)), none⟩])
    (.reg [⟨some 65, .mov (.t 7), none⟩,
      ⟨some 66, .mov (.t 0), none⟩,
      ⟨some 67, .mov (.t 10), none⟩,
      ⟨some 68, .iaddr (.slice 1) (.t 66) (.t 67), none⟩,
      ⟨some 69, .load false 1 (.t 68), none⟩,
      ⟨some 70, .bin .add (.t 69) (.k (.s [58])), none⟩,
      ⟨some 71, .mov (.t 11), none⟩,
      ⟨some 72, .bin .add (.t 70) (.t 71), none⟩,
      ⟨some 73, .bslice false 9 1 1 [(.s [])] [(0, (.t 72))], none⟩,
      ⟨some 74, .app 9 1 (.t 65) (.t 73), none⟩,
      ⟨some 7, .mov (.t 74), none⟩])))))))
  (.reg [⟨some 75, .bin .add (.t 24) (.k (.i .i64 1)), none⟩,
    ⟨some 24, .mov (.t 75), none⟩]))))) k st Q := rfl
theorem U10 {xf : FuncId → List V → Option V} {kz : Nat → List Nat} {k : List Fr} {st : St} {Q : AEx → St → Prop} : M xf kz (.code B10) k st Q = M xf kz (.code (.seq (.reg [⟨some 6, .mov (.k (.b false)), none⟩])
  (.seq (.reg [⟨some 7, .movnil 9, none⟩])
  (.seq (.reg [⟨some 18, .mkmap, none⟩,
     ⟨some 8, .mov (.t 18), none⟩])
  (.seq (.reg [⟨some 9, .mov (.k (.i .i64 0)), none⟩])
  (.seq (.seq (.reg [⟨some 19, .mov (.t 0), none⟩,
      ⟨some 20, .len .slice (.t 19), none⟩,
      ⟨some 21, .mov (.t 1), none⟩,
      ⟨some 22, .len .slice (.t 21), none⟩,
      ⟨some 23, .mm3 false (.t 20) (.t 22) (.k (.i .i64 50)), none⟩,
      ⟨some 24, .mov (.k (.i .i64 0)), none⟩])
   (.blk 0 (.loop L10_1)))
  (.seq (.reg [⟨some 76, .mov (.t 7), none⟩,
     ⟨some 77, .call true 27 [(.t 76), (.k (.s [32]))], none⟩,
     ⟨some 12, .mov (.t 77), none⟩])
  (.seq (.seq (.reg [⟨some 78, .mov (.t 7), none⟩,
      ⟨some 79, .len .slice (.t 78), none⟩,
      ⟨some 80, .mov (.k (.i .i64 0)), none⟩])
   (.blk 2 (.loop L10_2)))
  (.seq (.reg [⟨some 104, .mov (.t 12), none⟩,
     ⟨some 105, .mov (.t 2), none⟩,
     ⟨some 106, .call true 12 [(.t 104), (.t 105)], none⟩,
     ⟨some 103, .mov (.t 106), none⟩,
     ⟨some 107, .ext (.t 103) 0, none⟩,
     ⟨some 108, .ext (.t 103) 1, none⟩,
     ⟨some 16, .mov (.t 107), none⟩,
     ⟨some 17, .mov (.t 108), none⟩])
  (.seq (.reg [⟨some 109, .mov (.t 17), none⟩,
     ⟨some 110, .mov (.t 109), none⟩,
     ⟨some 111, .mov (.t 16), some (110, false)⟩,
     ⟨some 112, .bin .eql (.t 111) (.k (.s [])), some (110, false)⟩,
     ⟨some 113, .pick (.t 110) (.k (.b true)) (.t 112), none⟩,
     ⟨some 114, .mov (.t 113), none⟩,
     ⟨some 115, .mov (.t 2), some (114, true)⟩,
     ⟨some 116, .call true 25 [(.t 115)], some (114, true)⟩,
     ⟨some 117, .bin .neq (.t 116) (.k (.i .i64 0)), some (114, true)⟩,
     ⟨some 118, .mov (.t 117), some (114, true)⟩,
     ⟨some 119, .mov (.t 17), some (118, false)⟩,
     ⟨some 120, .mov (.t 8), some (118, false)⟩,
     ⟨some 121, .mov (.t 2), some (118, false)⟩,
     ⟨some 122, .mget .str false (.b false) (.t 120) (.t 121), some (118, false)⟩,
     ⟨some 123, .eq false .bool (.t 119) (.t 122), some (118, false)⟩,
     ⟨some 124, .pick (.t 118) (.k (.b true)) (.t 123), some (114, true)⟩,
     ⟨some 125, .pick (.t 114) (.t 124) (.k (.b false)), none⟩,
     ⟨some 126, .mov (.t 125), none⟩,
     ⟨some 127, .call true 11 [], some (126, true)⟩,
     ⟨some 128, .pick (.t 126) (.t 127) (.k (.b false)), none⟩,
     ⟨some 6, .mov (.t 128), none⟩])
  .ret)))))))))) k st Q := rfl
def kz10 (_ : Nat) : List Nat := [3, 4, 5, 6, 10, 11, 13, 14, 15, 16, 17, 18, 19, 20, 21, 22, 25, 26, 27, 28, 29, 30, 31, 32, 33, 34, 35, 36, 37, 38, 39, 40, 41, 42, 43, 44, 45, 46, 47, 48, 49, 50, 51, 52, 53, 54, 55, 56, 57, 58, 59, 60, 61, 62, 63, 64, 65, 66, 67, 68, 69, 70, 71, 72, 73, 74, 75, 76, 77, 78, 81, 82, 83, 84, 85, 86, 87, 88, 89, 90, 91, 92, 93, 94, 95, 96, 97, 98, 99, 100, 101, 102, 103, 104, 105, 106, 107, 108, 109, 110, 111, 112, 113, 114, 115, 116, 117, 118, 119, 120, 121, 122, 123, 124, 125, 126, 127, 128]
def mapH (l : List (List UInt8 × List UInt8)) : H := ⟨1, [(0, .map (es (l.map (·.1))))], 1, [(0, (l.length, 9))]⟩
theorem w_Made_end (ns vs : List (List UInt8)) (q : List UInt8) (l : List (List UInt8 × List UInt8)) (hl : Inv l) (x7 x9 x23 x24 : V) (its) (gl : Nat → List V) :
    M X_made (kz10) (.ex (.exit 2)) K10_2 ⟨gl, (.node (.node (.node (.node (.node (.node (.node (.node .leaf .any .leaf) .any (.node .leaf .any .leaf)) .any (.node (.node .leaf .any .leaf) .any (.node .leaf .any .leaf))) .any (.node (.node (.node .leaf .any .leaf) (.i .i64 l.length) (.node .leaf .any .leaf)) .any (.node (.node .leaf .any .leaf) .any (.node .leaf .any .leaf)))) (x7) (.node (.node (.node (.node .leaf .any .leaf) .any (.node .leaf .any .leaf)) .any (.node (.node .leaf .any .leaf) .any (.node .leaf .any .leaf))) (x23) (.node (.node (.node .leaf .any .leaf) .any (.node .leaf .any .leaf)) .any (.node (.node .leaf .any .leaf) .any (.node .leaf .any .leaf))))) .any (.node (.node (.node (.node (.node .leaf .any .leaf) .any (.node .leaf .any .leaf)) .any (.node (.node .leaf .any .leaf) .any (.node .leaf .any .leaf))) .any (.node (.node (.node .leaf .any .leaf) .any (.node .leaf .any .leaf)) .any (.node (.node .leaf .any .leaf) .any (.node .leaf .any .leaf)))) .any (.node (.node (.node (.node .leaf .any .leaf) .any (.node .leaf .any .leaf)) .any (.node (.node .leaf .any .leaf) .any (.node .leaf .any .leaf))) .any (.node (.node (.node .leaf .any .leaf) .any (.node .leaf .any .leaf)) .any (.node (.node .leaf .any .leaf) .any (.node .leaf .any .leaf)))))) (.sl (vs.map V.s) vs.length .no) (.node (.node (.node (.node (.node (.node .leaf .any .leaf) .any (.node .leaf .any .leaf)) .any (.node (.node .leaf .any .leaf) .any (.node .leaf .any .leaf))) .any (.node (.node (.node .leaf .any .leaf) (.b false) (.node .leaf .any .leaf)) .any (.node (.node .leaf .any .leaf) .any (.node .leaf .any .leaf)))) (x9) (.node (.node (.node (.node .leaf .any .leaf) .any (.node .leaf .any .leaf)) .any (.node (.node .leaf .any .leaf) .any (.node .leaf .any .leaf))) .any (.node (.node (.node .leaf .any .leaf) .any (.node .leaf .any .leaf)) .any (.node (.node .leaf .any .leaf) .any (.node .leaf .any .leaf))))) .any (.node (.node (.node (.node (.node .leaf .any .leaf) .any (.node .leaf .any .leaf)) .any (.node (.node .leaf .any .leaf) .any (.node .leaf .any .leaf))) .any (.node (.node (.node .leaf .any .leaf) .any (.node .leaf .any .leaf)) .any (.node (.node .leaf .any .leaf) .any (.node .leaf .any .leaf)))) .any (.node (.node (.node (.node .leaf .any .leaf) .any (.node .leaf .any .leaf)) .any (.node (.node .leaf .any .leaf) .any (.node .leaf .any .leaf))) .any (.node (.node (.node .leaf .any .leaf) .any (.node .leaf .any .leaf)) .any (.node (.node .leaf .any .leaf) .any (.node .leaf .any .leaf))))))) (.sl (ns.map V.s) ns.length .no) (.node (.node (.node (.node (.node (.node (.node .leaf .any .leaf) .any (.node .leaf .any .leaf)) .any (.node (.node .leaf .any .leaf) .any (.node .leaf .any .leaf))) .any (.node (.node (.node .leaf .any .leaf) (.i .i64 l.length) (.node .leaf .any .leaf)) .any (.node (.node .leaf .any .leaf) .any (.node .leaf .any .leaf)))) (.m (some 0)) (.node (.node (.node (.node .leaf .any .leaf) .any (.node .leaf .any .leaf)) .any (.node (.node .leaf .any .leaf) .any (.node .leaf .any .leaf))) (x24) (.node (.node (.node .leaf .any .leaf) .any (.node .leaf .any .leaf)) .any (.node (.node .leaf .any .leaf) .any (.node .leaf .any .leaf))))) .any (.node (.node (.node (.node (.node .leaf .any .leaf) .any (.node .leaf .any .leaf)) .any (.node (.node .leaf .any .leaf) .any (.node .leaf .any .leaf))) .any (.node (.node (.node .leaf .any .leaf) .any (.node .leaf .any .leaf)) .any (.node (.node .leaf .any .leaf) .any (.node .leaf .any .leaf)))) (.s (Lib.join (l.map mkp) [32])) (.node (.node (.node (.node .leaf .any .leaf) .any (.node .leaf .any .leaf)) .any (.node (.node .leaf .any .leaf) .any (.node .leaf .any .leaf))) .any (.node (.node (.node .leaf .any .leaf) .any (.node .leaf .any .leaf)) .any (.node (.node .leaf .any .leaf) .any (.node .leaf .any .leaf)))))) (.s q) (.node (.node (.node (.node (.node (.node .leaf .any .leaf) .any (.node .leaf .any .leaf)) .any (.node (.node .leaf .any .leaf) .any (.node .leaf .any .leaf))) .any (.node (.node (.node .leaf .any .leaf) .any (.node .leaf .any .leaf)) .any (.node (.node .leaf .any .leaf) .any (.node .leaf .any .leaf)))) .any (.node (.node (.node (.node .leaf .any .leaf) .any (.node .leaf .any .leaf)) .any (.node (.node .leaf .any .leaf) .any (.node .leaf .any .leaf))) .any (.node (.node (.node .leaf .any .leaf) .any (.node .leaf .any .leaf)) .any (.node (.node .leaf .any .leaf) .any (.node .leaf .any .leaf))))) .any (.node (.node (.node (.node (.node .leaf .any .leaf) .any (.node .leaf .any .leaf)) .any (.node (.node .leaf .any .leaf) .any (.node .leaf .any .leaf))) .any (.node (.node (.node .leaf .any .leaf) .any (.node .leaf .any .leaf)) .any (.node (.node .leaf .any .leaf) .any (.node .leaf .any .leaf)))) .any (.node (.node (.node (.node .leaf .any .leaf) .any (.node .leaf .any .leaf)) .any (.node (.node .leaf .any .leaf) .any (.node .leaf .any .leaf))) .any (.node (.node (.node .leaf .any .leaf) .any (.node .leaf .any .leaf)) .any (.node (.node .leaf .any .leaf) .any (.node .leaf .any .leaf)))))))), its, [], mapH l⟩ (Fin [.tmp 6] (.b true)) := by
  have hf := field_all l hl.low hl.free q
  have hb : (Lib.join (l.map mkp) [32]).length ≤ 1152921504606846976 ∧ (prt 32 [] (Lib.join (l.map mkp) [32])).length ≤ 16385 := ⟨by have := hl.joined; omega, by have := prt_all_len l hl.low hl.free; have := hl.cnt; omega⟩
  have hm := mfind_es q (l.map (·.1)) 0
  have hu := under_none l q
  cases hx : under l q with
  | none =>
    have h1 := hm.2 (hu.1 hx)
    cases hb2 : allV letter 1 8 q with
    | true => simp only [K10_2, xfd _ q hb, hf, hx, res, xn, hb2, errV, mapH, h1, xa, strEq_self, Int.reduceEq, go_sem, ne_eq, not_false_eq_true, reduceIte, Nat.reduceMul, Nat.reduceAdd, Nat.reduceSub, Nat.reduceEqDiff, Nat.reduceLeDiff, Nat.reduceLT, List.take_succ_cons, List.take_zero, List.drop_succ_cons, List.cons_append]
    | false => simp only [K10_2, xfd _ q hb, hf, hx, res, xn, hb2, errV, mapH, h1, xa, strEq_self, Int.reduceEq, go_sem, ne_eq, not_false_eq_true, reduceIte, Nat.reduceMul, Nat.reduceAdd, Nat.reduceSub, Nat.reduceEqDiff, Nat.reduceLeDiff, Nat.reduceLT, List.take_succ_cons, List.take_zero, List.drop_succ_cons, List.cons_append]
  | some v =>
    have h2 : q ∈ l.map (·.1) := by
      by_cases h : q ∈ l.map (·.1)
      · exact h
      · rw [hu.2 h] at hx; cases hx
    obtain ⟨j, h1⟩ := hm.1 h2
    cases hb2 : allV letter 1 8 q with
    | true => simp only [K10_2, xfd _ q hb, hf, hx, res, xn, hb2, errV, mapH, h1, xa, strEq_self, Int.reduceEq, go_sem, ne_eq, not_false_eq_true, reduceIte, Nat.reduceMul, Nat.reduceAdd, Nat.reduceSub, Nat.reduceEqDiff, Nat.reduceLeDiff, Nat.reduceLT, List.take_succ_cons, List.take_zero, List.drop_succ_cons, List.cons_append]
    | false => simp only [K10_2, xfd _ q hb, hf, hx, res, xn, hb2, errV, mapH, h1, xa, strEq_self, Int.reduceEq, go_sem, ne_eq, not_false_eq_true, reduceIte, Nat.reduceMul, Nat.reduceAdd, Nat.reduceSub, Nat.reduceEqDiff, Nat.reduceLeDiff, Nat.reduceLT, List.take_succ_cons, List.take_zero, List.drop_succ_cons, List.cons_append]
theorem w_Made_two (ns vs : List (List UInt8)) (q : List UInt8) (K : Nat) (hn : K ≤ ns.length) (hv : K ≤ vs.length) (l : List (List UInt8 × List UInt8)) (hz : l = (ns.zip vs).take K) (hl : Inv l) (hK : l.length = K) (x7 x9 x23 x24 : V) (gl : Nat → List V) : ∀ (k j : Nat) its, j + k = K →
    M X_made (kz10) (.code L10_2) (.loop L10_2 :: K10_2) ⟨gl, (.node (.node (.node (.node (.node (.node (.node (.node .leaf .any .leaf) .any (.node .leaf .any .leaf)) .any (.node (.node .leaf .any .leaf) .any (.node .leaf .any .leaf))) .any (.node (.node (.node .leaf .any .leaf) (.i .i64 l.length) (.node .leaf .any .leaf)) .any (.node (.node .leaf .any .leaf) .any (.node .leaf .any .leaf)))) (x7) (.node (.node (.node (.node .leaf .any .leaf) .any (.node .leaf .any .leaf)) .any (.node (.node .leaf .any .leaf) .any (.node .leaf .any .leaf))) (x23) (.node (.node (.node .leaf .any .leaf) .any (.node .leaf .any .leaf)) .any (.node (.node .leaf .any .leaf) .any (.node .leaf .any .leaf))))) .any (.node (.node (.node (.node (.node .leaf .any .leaf) .any (.node .leaf .any .leaf)) .any (.node (.node .leaf .any .leaf) .any (.node .leaf .any .leaf))) .any (.node (.node (.node .leaf .any .leaf) .any (.node .leaf .any .leaf)) .any (.node (.node .leaf .any .leaf) .any (.node .leaf .any .leaf)))) .any (.node (.node (.node (.node .leaf .any .leaf) .any (.node .leaf .any .leaf)) .any (.node (.node .leaf .any .leaf) .any (.node .leaf .any .leaf))) .any (.node (.node (.node .leaf .any .leaf) .any (.node .leaf .any .leaf)) .any (.node (.node .leaf .any .leaf) .any (.node .leaf .any .leaf)))))) (.sl (vs.map V.s) vs.length .no) (.node (.node (.node (.node (.node (.node .leaf .any .leaf) .any (.node .leaf .any .leaf)) .any (.node (.node .leaf .any .leaf) .any (.node .leaf .any .leaf))) .any (.node (.node (.node .leaf .any .leaf) .any (.node .leaf .any .leaf)) .any (.node (.node .leaf .any .leaf) .any (.node .leaf .any .leaf)))) (x9) (.node (.node (.node (.node .leaf .any .leaf) .any (.node .leaf .any .leaf)) .any (.node (.node .leaf .any .leaf) .any (.node .leaf .any .leaf))) .any (.node (.node (.node .leaf .any .leaf) .any (.node .leaf .any .leaf)) .any (.node (.node .leaf .any .leaf) .any (.node .leaf .any .leaf))))) .any (.node (.node (.node (.node (.node .leaf .any .leaf) .any (.node .leaf .any .leaf)) .any (.node (.node .leaf .any .leaf) .any (.node .leaf .any .leaf))) .any (.node (.node (.node .leaf .any .leaf) .any (.node .leaf .any .leaf)) .any (.node (.node .leaf .any .leaf) .any (.node .leaf .any .leaf)))) .any (.node (.node (.node (.node .leaf .any .leaf) .any (.node .leaf .any .leaf)) .any (.node (.node .leaf .any .leaf) .any (.node .leaf .any .leaf))) .any (.node (.node (.node .leaf .any .leaf) .any (.node .leaf .any .leaf)) .any (.node (.node .leaf .any .leaf) .any (.node .leaf .any .leaf))))))) (.sl (ns.map V.s) ns.length .no) (.node (.node (.node (.node (.node (.node (.node .leaf .any .leaf) .any (.node .leaf .any .leaf)) .any (.node (.node .leaf .any .leaf) .any (.node .leaf .any .leaf))) .any (.node (.node (.node .leaf .any .leaf) (.i .i64 j) (.node .leaf .any .leaf)) .any (.node (.node .leaf .any .leaf) .any (.node .leaf .any .leaf)))) (.m (some 0)) (.node (.node (.node (.node .leaf .any .leaf) .any (.node .leaf .any .leaf)) .any (.node (.node .leaf .any .leaf) .any (.node .leaf .any .leaf))) (x24) (.node (.node (.node .leaf .any .leaf) .any (.node .leaf .any .leaf)) .any (.node (.node .leaf .any .leaf) .any (.node .leaf .any .leaf))))) .any (.node (.node (.node (.node (.node .leaf .any .leaf) .any (.node .leaf .any .leaf)) .any (.node (.node .leaf .any .leaf) .any (.node .leaf .any .leaf))) .any (.node (.node (.node .leaf .any .leaf) .any (.node .leaf .any .leaf)) .any (.node (.node .leaf .any .leaf) .any (.node .leaf .any .leaf)))) (.s (Lib.join (l.map mkp) [32])) (.node (.node (.node (.node .leaf .any .leaf) .any (.node .leaf .any .leaf)) .any (.node (.node .leaf .any .leaf) .any (.node .leaf .any .leaf))) .any (.node (.node (.node .leaf .any .leaf) .any (.node .leaf .any .leaf)) .any (.node (.node .leaf .any .leaf) .any (.node .leaf .any .leaf)))))) (.s q) (.node (.node (.node (.node (.node (.node .leaf .any .leaf) .any (.node .leaf .any .leaf)) .any (.node (.node .leaf .any .leaf) .any (.node .leaf .any .leaf))) .any (.node (.node (.node .leaf .any .leaf) .any (.node .leaf .any .leaf)) .any (.node (.node .leaf .any .leaf) .any (.node .leaf .any .leaf)))) .any (.node (.node (.node (.node .leaf .any .leaf) .any (.node .leaf .any .leaf)) .any (.node (.node .leaf .any .leaf) .any (.node .leaf .any .leaf))) .any (.node (.node (.node .leaf .any .leaf) .any (.node .leaf .any .leaf)) .any (.node (.node .leaf .any .leaf) .any (.node .leaf .any .leaf))))) .any (.node (.node (.node (.node (.node .leaf .any .leaf) .any (.node .leaf .any .leaf)) .any (.node (.node .leaf .any .leaf) .any (.node .leaf .any .leaf))) .any (.node (.node (.node .leaf .any .leaf) .any (.node .leaf .any .leaf)) .any (.node (.node .leaf .any .leaf) .any (.node .leaf .any .leaf)))) .any (.node (.node (.node (.node .leaf .any .leaf) .any (.node .leaf .any .leaf)) .any (.node (.node .leaf .any .leaf) .any (.node .leaf .any .leaf))) .any (.node (.node (.node .leaf .any .leaf) .any (.node .leaf .any .leaf)) .any (.node (.node .leaf .any .leaf) .any (.node .leaf .any .leaf)))))))), its, [], mapH l⟩ (Fin [.tmp 6] (.b true)) := by
  intro k
  induction k with
  | zero =>
    intro j its hj
    rw [U10_2]
    have e1 : decide ((j : Int) < l.length) = false := by simp; omega
    simp only [e1, go_sem, ne_eq, not_false_eq_true, reduceIte, Nat.reduceMul, Nat.reduceAdd, Nat.reduceSub, Nat.reduceEqDiff, Nat.reduceLeDiff, Nat.reduceLT, List.take_succ_cons, List.take_zero, List.drop_succ_cons, List.cons_append]
    rw [show j = l.length from by omega]
    exact w_Made_end ns vs q l hl x7 x9 x23 x24 its gl
  | succ k ih =>
    intro j its hj
    rw [U10_2]
    have hlt : j < K := by omega
    have e1 : decide ((j : Int) < l.length) = true := by simp; omega
    have e2 : j + 1 ≤ (ns.map V.s).length := by simp; omega
    have e3 : (ns.map V.s)[j]? = some (.s ns[j]) := by simp [show j < ns.length from by omega]
    have e4 : wr .i64 ((j : Int) + 1) = ((j + 1 : Nat) : Int) := by have := hl.cnt; rw [wr64] <;> omega
    have e5 : j + 1 ≤ (vs.map V.s).length := by simp; omega
    have e6 : (vs.map V.s)[j]? = some (.s vs[j]) := by simp [show j < vs.length from by omega]
    have n1 : j < ns.length := by omega
    have n2 : j < vs.length := by omega
    have hlj : j < l.length := by omega
    have hb : (Lib.join (l.map mkp) [32]).length ≤ 1152921504606846976 ∧ (prt 32 [] (Lib.join (l.map mkp) [32])).length ≤ 16385 := ⟨by have := hl.joined; omega, by have := prt_all_len l hl.low hl.free; have := hl.cnt; omega⟩
    have hf := field_all l hl.low hl.free ns[j]
    have hu := under_at l hl.nodup j hlj
    have hlz : l[j] = (ns[j], vs[j]) := by subst hz; simp
    rw [hlz] at hu
    simp only [e1, e2, e3, e5, e6, n1, n2, xfd _ _ hb, hf, hu, res, strEq_self, e4, go_sem, ne_eq, not_false_eq_true, reduceIte, Nat.reduceMul, Nat.reduceAdd, Nat.reduceSub, Nat.reduceEqDiff, Nat.reduceLeDiff, Nat.reduceLT, List.take_succ_cons, List.take_zero, List.drop_succ_cons, List.cons_append]
    rw [M_loop]
    have := ih (j + 1) its (by omega)
    simp only [kz10, K10_2, List.length_cons, List.length_nil, go_sem, ne_eq, not_false_eq_true, reduceIte, Nat.reduceMul, Nat.reduceAdd, Nat.reduceSub, Nat.reduceEqDiff, Nat.reduceLeDiff, Nat.reduceLT, List.take_succ_cons, List.take_zero, List.drop_succ_cons, List.cons_append] at this ⊢
    exact this
theorem zip_take (ns vs : List (List UInt8)) (i : Nat) (h1 : i < ns.length) (h2 : i < vs.length) : (ns.zip vs).take (i + 1) = (ns.zip vs).take i ++ [(ns[i], vs[i])] := by
  rw [List.take_succ_eq_append_getElem (by simp; omega)]
  simp
theorem w_Made_one (ns vs : List (List UInt8)) (hlen : ∀ v ∈ vs, v.length ≤ 140737488351232) (q : List UInt8) (K : Nat) (hn : K ≤ ns.length) (hv : K ≤ vs.length) (h50 : K ≤ 50) (gl : Nat → List V) : ∀ (k i : Nat) its, i + k = K → Inv ((ns.zip vs).take i) → ((ns.zip vs).take i).length = i →
    M X_made (kz10) (.code L10_1) (.loop L10_1 :: K10_1) ⟨gl, (.node (.node (.node (.node (.node (.node (.node (.node .leaf .any .leaf) .any (.node .leaf .any .leaf)) .any (.node (.node .leaf .any .leaf) .any (.node .leaf .any .leaf))) .any (.node (.node (.node .leaf .any .leaf) .any (.node .leaf .any .leaf)) .any (.node (.node .leaf .any .leaf) .any (.node .leaf .any .leaf)))) (.sl ((((ns.zip vs).take i).map mkp).map V.s) i (.own 0)) (.node (.node (.node (.node .leaf .any .leaf) .any (.node .leaf .any .leaf)) .any (.node (.node .leaf .any .leaf) .any (.node .leaf .any .leaf))) (.i .i64 K) (.node (.node (.node .leaf .any .leaf) .any (.node .leaf .any .leaf)) .any (.node (.node .leaf .any .leaf) .any (.node .leaf .any .leaf))))) .any (.node (.node (.node (.node (.node .leaf .any .leaf) .any (.node .leaf .any .leaf)) .any (.node (.node .leaf .any .leaf) .any (.node .leaf .any .leaf))) .any (.node (.node (.node .leaf .any .leaf) .any (.node .leaf .any .leaf)) .any (.node (.node .leaf .any .leaf) .any (.node .leaf .any .leaf)))) .any (.node (.node (.node (.node .leaf .any .leaf) .any (.node .leaf .any .leaf)) .any (.node (.node .leaf .any .leaf) .any (.node .leaf .any .leaf))) .any (.node (.node (.node .leaf .any .leaf) .any (.node .leaf .any .leaf)) .any (.node (.node .leaf .any .leaf) .any (.node .leaf .any .leaf)))))) (.sl (vs.map V.s) vs.length .no) (.node (.node (.node (.node (.node (.node .leaf .any .leaf) .any (.node .leaf .any .leaf)) .any (.node (.node .leaf .any .leaf) .any (.node .leaf .any .leaf))) .any (.node (.node (.node .leaf .any .leaf) .any (.node .leaf .any .leaf)) .any (.node (.node .leaf .any .leaf) .any (.node .leaf .any .leaf)))) (.i .i64 (sm (((ns.zip vs).take i).map (·.2)))) (.node (.node (.node (.node .leaf .any .leaf) .any (.node .leaf .any .leaf)) .any (.node (.node .leaf .any .leaf) .any (.node .leaf .any .leaf))) .any (.node (.node (.node .leaf .any .leaf) .any (.node .leaf .any .leaf)) .any (.node (.node .leaf .any .leaf) .any (.node .leaf .any .leaf))))) .any (.node (.node (.node (.node (.node .leaf .any .leaf) .any (.node .leaf .any .leaf)) .any (.node (.node .leaf .any .leaf) .any (.node .leaf .any .leaf))) .any (.node (.node (.node .leaf .any .leaf) .any (.node .leaf .any .leaf)) .any (.node (.node .leaf .any .leaf) .any (.node .leaf .any .leaf)))) .any (.node (.node (.node (.node .leaf .any .leaf) .any (.node .leaf .any .leaf)) .any (.node (.node .leaf .any .leaf) .any (.node .leaf .any .leaf))) .any (.node (.node (.node .leaf .any .leaf) .any (.node .leaf .any .leaf)) .any (.node (.node .leaf .any .leaf) .any (.node .leaf .any .leaf))))))) (.sl (ns.map V.s) ns.length .no) (.node (.node (.node (.node (.node (.node (.node .leaf .any .leaf) .any (.node .leaf .any .leaf)) .any (.node (.node .leaf .any .leaf) .any (.node .leaf .any .leaf))) .any (.node (.node (.node .leaf .any .leaf) .any (.node .leaf .any .leaf)) .any (.node (.node .leaf .any .leaf) .any (.node .leaf .any .leaf)))) (.m (some 0)) (.node (.node (.node (.node .leaf .any .leaf) .any (.node .leaf .any .leaf)) .any (.node (.node .leaf .any .leaf) .any (.node .leaf .any .leaf))) (.i .i64 i) (.node (.node (.node .leaf .any .leaf) .any (.node .leaf .any .leaf)) .any (.node (.node .leaf .any .leaf) .any (.node .leaf .any .leaf))))) .any (.node (.node (.node (.node (.node .leaf .any .leaf) .any (.node .leaf .any .leaf)) .any (.node (.node .leaf .any .leaf) .any (.node .leaf .any .leaf))) .any (.node (.node (.node .leaf .any .leaf) .any (.node .leaf .any .leaf)) .any (.node (.node .leaf .any .leaf) .any (.node .leaf .any .leaf)))) .any (.node (.node (.node (.node .leaf .any .leaf) .any (.node .leaf .any .leaf)) .any (.node (.node .leaf .any .leaf) .any (.node .leaf .any .leaf))) .any (.node (.node (.node .leaf .any .leaf) .any (.node .leaf .any .leaf)) .any (.node (.node .leaf .any .leaf) .any (.node .leaf .any .leaf)))))) (.s q) (.node (.node (.node (.node (.node (.node .leaf .any .leaf) .any (.node .leaf .any .leaf)) .any (.node (.node .leaf .any .leaf) .any (.node .leaf .any .leaf))) .any (.node (.node (.node .leaf .any .leaf) .any (.node .leaf .any .leaf)) .any (.node (.node .leaf .any .leaf) .any (.node .leaf .any .leaf)))) .any (.node (.node (.node (.node .leaf .any .leaf) .any (.node .leaf .any .leaf)) .any (.node (.node .leaf .any .leaf) .any (.node .leaf .any .leaf))) .any (.node (.node (.node .leaf .any .leaf) .any (.node .leaf .any .leaf)) .any (.node (.node .leaf .any .leaf) .any (.node .leaf .any .leaf))))) .any (.node (.node (.node (.node (.node .leaf .any .leaf) .any (.node .leaf .any .leaf)) .any (.node (.node .leaf .any .leaf) .any (.node .leaf .any .leaf))) .any (.node (.node (.node .leaf .any .leaf) .any (.node .leaf .any .leaf)) .any (.node (.node .leaf .any .leaf) .any (.node .leaf .any .leaf)))) .any (.node (.node (.node (.node .leaf .any .leaf) .any (.node .leaf .any .leaf)) .any (.node (.node .leaf .any .leaf) .any (.node .leaf .any .leaf))) .any (.node (.node (.node .leaf .any .leaf) .any (.node .leaf .any .leaf)) .any (.node (.node .leaf .any .leaf) .any (.node .leaf .any .leaf)))))))), its, [], mapH ((ns.zip vs).take i)⟩ (Fin [.tmp 6] (.b true)) := by
  intro k
  induction k with
  | zero =>
    intro i its hi hI hL
    obtain rfl : i = K := by omega
    rw [U10_1]
    have e1 : decide ((i : Int) < i) = false := by simp
    generalize hl : (ns.zip vs).take i = l at hI hL ⊢
    have hj := xj (l.map mkp) (.own 0) (by simp; omega) hI.joined
    rw [List.length_map, hL] at hj
    simp only [e1, K10_1, hj, go_sem, ne_eq, not_false_eq_true, reduceIte, Nat.reduceMul, Nat.reduceAdd, Nat.reduceSub, Nat.reduceEqDiff, Nat.reduceLeDiff, Nat.reduceLT, List.take_succ_cons, List.take_zero, List.drop_succ_cons, List.cons_append]
    rw [M_loop]
    have := w_Made_two ns vs q i hn hv l hl.symm hI hL (.sl ((l.map mkp).map V.s) i (.own 0)) (.i .i64 (sm (l.map (·.2)))) (.i .i64 i) (.i .i64 i) gl i 0 its (by omega)
    rw [hL] at this
    simp only [kz10, K10_2, List.length_cons, List.length_nil, Int.natCast_zero, Int.cast_ofNat_Int, go_sem, ne_eq, not_false_eq_true, reduceIte, Nat.reduceMul, Nat.reduceAdd, Nat.reduceSub, Nat.reduceEqDiff, Nat.reduceLeDiff, Nat.reduceLT, List.take_succ_cons, List.take_zero, List.drop_succ_cons, List.cons_append] at this ⊢
    exact this
  | succ k ih =>
    intro i its hi hI hL
    rw [U10_1]
    have hlt : i < K := by omega
    have n1 : i < ns.length := by omega
    have n2 : i < vs.length := by omega
    have e1 : decide ((i : Int) < K) = true := by simp; omega
    have e2 : i + 1 ≤ (ns.map V.s).length := by simp; omega
    have e3 : (ns.map V.s)[i]? = some (.s ns[i]) := by simp [n1]
    have e4 : wr .i64 ((i : Int) + 1) = ((i + 1 : Nat) : Int) := by rw [wr64] <;> omega
    have e5 : i + 1 ≤ (vs.map V.s).length := by simp; omega
    have e6 : (vs.map V.s)[i]? = some (.s vs[i]) := by simp [n2]
    have hs := hI.sum
    have e7 : (if (16384 : Int) < (vs[i].length : Int) then (16384 : Int) else (vs[i].length : Int)) = ((min vs[i].length 16384 : Nat) : Int) := by split <;> omega
    have e8 : wr .i64 (((sm (((ns.zip vs).take i).map (·.2)) : Nat) : Int) + ((min vs[i].length 16384 : Nat) : Int)) = ((sm (((ns.zip vs).take i).map (·.2)) + min vs[i].length 16384 : Nat) : Int) := by rw [wr64] <;> omega
    have hz := zip_take ns vs i n1 n2
    have hm := mfind_es ns[i] (((ns.zip vs).take i).map (·.1)) 0
    have hvl := hlen vs[i] (List.getElem_mem n2)
    cases t1 : allV letter 1 8 ns[i] with
    | false => simp only [e1, e2, e3, e5, e6, e7, e8, n1, n2, xn, t1, errV, xa, Int.reduceEq, K10_1, go_sem, ne_eq, not_false_eq_true, reduceIte, Nat.reduceMul, Nat.reduceAdd, Nat.reduceSub, Nat.reduceEqDiff, Nat.reduceLeDiff, Nat.reduceLT, List.take_succ_cons, List.take_zero, List.drop_succ_cons, List.cons_append]
    | true =>
      have hlow := low_of t1
      by_cases t2 : ns[i] ∈ ((ns.zip vs).take i).map (·.1)
      · obtain ⟨j, h1⟩ := hm.1 t2
        simp only [e1, e2, e3, e5, e6, e7, e8, n1, n2, xn, t1, errV, xa, mapH, h1, Int.reduceEq, K10_1, go_sem, ne_eq, not_false_eq_true, reduceIte, Nat.reduceMul, Nat.reduceAdd, Nat.reduceSub, Nat.reduceEqDiff, Nat.reduceLeDiff, Nat.reduceLT, List.take_succ_cons, List.take_zero, List.drop_succ_cons, List.cons_append]
      · have h1 := hm.2 t2
        have h2 := index_neg vs[i] 32
        cases t3 : decide ((32 : UInt8) ∈ vs[i]) with
        | true =>
          rw [t3] at h2
          simp only [e1, e2, e3, e5, e6, e7, e8, n1, n2, xn, t1, errV, xa, mapH, h1, xi, h2, Int.reduceEq, K10_1, go_sem, ne_eq, not_false_eq_true, reduceIte, Nat.reduceMul, Nat.reduceAdd, Nat.reduceSub, Nat.reduceEqDiff, Nat.reduceLeDiff, Nat.reduceLT, List.take_succ_cons, List.take_zero, List.drop_succ_cons, List.cons_append]
        | false =>
          rw [t3] at h2
          cases t4 : decide ((16384 : Int) < ((sm (((ns.zip vs).take i).map (·.2)) + min vs[i].length 16384 : Nat) : Int)) with
          | true => simp only [e1, e2, e3, e5, e6, e7, e8, n1, n2, xn, t1, errV, xa, mapH, h1, xi, h2, t4, Int.reduceEq, K10_1, go_sem, ne_eq, not_false_eq_true, reduceIte, Nat.reduceMul, Nat.reduceAdd, Nat.reduceSub, Nat.reduceEqDiff, Nat.reduceLeDiff, Nat.reduceLT, List.take_succ_cons, List.take_zero, List.drop_succ_cons, List.cons_append]
          | false =>
            have b1 : ns[i].length + 1 ≤ 4611686018427387904 := by have := hlow.2.1; omega
            have b2 : (ns[i] ++ [58]).length + vs[i].length ≤ 4611686018427387904 := by have := hlow.2.1; simp; omega
            have b3 : ((((ns.zip vs).take i).map mkp).map V.s).length = i := by simp only [List.length_map]; exact hL
            have b4 : i + 1 ≤ most := by unfold most; omega
            have hI' : Inv ((ns.zip vs).take (i + 1)) := by
              rw [hz]
              refine ⟨fun e he => ?_, fun e he => ?_, ?_, fun e he => ?_, ?_, ?_⟩
              · rcases List.mem_append.1 he with he | he
                · exact hI.low e he
                · simp only [List.mem_singleton] at he; subst he; exact hlow
              · rcases List.mem_append.1 he with he | he
                · exact hI.free e he
                · simp only [List.mem_singleton] at he; subst he; simpa using t3
              · rw [List.map_append, List.map_cons, List.map_nil, List.nodup_append]
                exact ⟨hI.nodup, by simp, fun a ha b hb => by simp only [List.mem_singleton] at hb; subst hb; exact fun e => t2 (e ▸ ha)⟩
              · rcases List.mem_append.1 he with he | he
                · exact hI.len e he
                · simp only [List.mem_singleton] at he; subst he; exact hvl
              · rw [List.map_append, List.map_cons, List.map_nil, sm_app]
                simp only [decide_eq_false_iff_not] at t4
                simp only; omega
              · simp; omega
            simp only [e1, e2, e3, e5, e6, e7, e8, n1, n2, xn, t1, errV, xa, mapH, h1, xi, h2, t4, b1, b2, b3, b4, H.setObj, hL, e4, Int.reduceEq, go_sem, ne_eq, not_false_eq_true, reduceIte, Nat.reduceMul, Nat.reduceAdd, Nat.reduceSub, Nat.reduceEqDiff, Nat.reduceLeDiff, Nat.reduceLT, List.take_succ_cons, List.take_zero, List.drop_succ_cons, List.cons_append]
            rw [M_loop]
            have := ih (i + 1) its (by omega) hI' (by rw [hz, List.length_append, hL]; rfl)
            rw [hz] at this
            simp only [List.map_append, List.map_cons, List.map_nil, sm_app, mkp, es, mapH, List.length_append, hL] at this
            simp only [kz10, K10_1, List.length_cons, List.length_nil, es, mapH, go_sem, ne_eq, not_false_eq_true, reduceIte, Nat.reduceMul, Nat.reduceAdd, Nat.reduceSub, Nat.reduceEqDiff, Nat.reduceLeDiff, Nat.reduceLT, List.take_succ_cons, List.take_zero, List.drop_succ_cons, List.cons_append] at this ⊢
            exact this
theorem w_Made (ns : List (List UInt8)) (hns : ∀ v ∈ ns, v.length ≤ reachBytes) (vs : List (List UInt8)) (hvs : ∀ v ∈ vs, v.length ≤ reachBytes) (q : List UInt8) (gl : Nat → List V) : M X_made (kz10) (.code B10) [] (St.init gl 8 [.sl (ns.map V.s) ns.length .no, .sl (vs.map V.s) vs.length .no, .s q] {}) (Fin [.tmp 6] (.b true)) := by
  rw [U10]
  have e0 : lim false (lim false (ns.length : Int) (vs.length : Int)) 50 = ((min (min ns.length vs.length) 50 : Nat) : Int) := by
    simp only [lim, cond_false]
    split <;> split <;> omega
  simp only [e0, go_sem, ne_eq, not_false_eq_true, reduceIte, Nat.reduceMul, Nat.reduceAdd, Nat.reduceSub, Nat.reduceEqDiff, Nat.reduceLeDiff, Nat.reduceLT, List.take_succ_cons, List.take_zero, List.drop_succ_cons, List.cons_append]
  rw [M_loop]
  have := w_Made_one ns vs hvs q (min (min ns.length vs.length) 50) (by omega) (by omega) (by omega) gl (min (min ns.length vs.length) 50) 0 [] (by omega) ⟨by simp, by simp, by simp, by simp, by simp [sm], by simp⟩ (by simp)
  simp only [kz10, K10_1, List.length_cons, List.length_nil, List.take_zero, List.map_nil, mapH, es, sm, Int.natCast_zero, go_sem, ne_eq, not_false_eq_true, reduceIte, Nat.reduceMul, Nat.reduceAdd, Nat.reduceSub, Nat.reduceEqDiff, Nat.reduceLeDiff, Nat.reduceLT, List.take_succ_cons, List.take_zero, List.drop_succ_cons, List.cons_append] at this ⊢
  exact this
end Go.Proofs.Ytkibkodlbjhjfaa
