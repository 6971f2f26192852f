/- utf8.AppendRune; strings.Builder: WriteRune. -/
import Derived.Test.YtbhclhgljnoioaaDoorLg2
set_option linter.unusedSimpArgs false
set_option linter.unusedVariables false
namespace Go.Proofs.YtbhclhgljnoioaaDoor
open Ai
open Classical in
noncomputable def H_BS (a : List V) (h : H) : Option (V × H) := match a with
  | [.p id 0] => if e : ∃ bs : List UInt8, bs ≠ [] ∧ BI h id bs ∧ bs.length ≤ most then some (.s (Classical.choose e), h) else none
  | _ => none
theorem bi_uniq {h : H} {id : Nat} {a b : List UInt8} (ha : BI h id a) (hb : BI h id b) : a = b := by
  rcases ha with ⟨rfl, h1⟩ | ⟨t, h1, _, _⟩ <;> rcases hb with ⟨rfl, h2⟩ | ⟨u, h2, _, _⟩
  · rfl
  · rw [h1] at h2; simp at h2
  · rw [h1] at h2; simp at h2
  · rw [h1] at h2
    simp only [Option.some.injEq, Ai.Obj.cells.injEq, List.cons.injEq, V.sl.injEq, true_and, and_true] at h2
    have := congrArg bytesOf? h2.1
    rw [bytesOf_map, bytesOf_map] at this
    exact Option.some.inj this
theorem i_BS : ∀ a h v h', H_BS a h = some (v, h') → Hp.CompI tabx told 35 a h v h' := fun a h v h' e => by
  unfold H_BS at e
  split at e
  · rename_i id
    obtain ⟨nx, obs, nt, tips⟩ := h
    split at e
    · rename_i hc
      cases e
      have hs := Classical.choose_spec hc
      generalize Classical.choose hc = bs at hs
      obtain ⟨hne, hi, hm⟩ := hs
      rcases hi with ⟨rfl, ho⟩ | ⟨t, ho, ht, hn⟩
      · exact absurd rfl hne
      · cases bs with
        | nil => exact absurd rfl hne
        | cons c l => exact Hp.compI_of tells_noX tells_noY (fn := af35) rfl (Nat.le_of_ble_eq_true rfl) fun gl => w_BS nx obs nt tips id c l t hm ht ho gl
    · cases e
  · cases e
theorem H_BS1 {h : H} {id : Nat} {bs : List UInt8} (hi : BI h id bs) (hne : bs ≠ []) (hm : bs.length ≤ most) : H_BS [.p id 0] h = some (.s bs, h) := by
  have hc : ∃ bs : List UInt8, bs ≠ [] ∧ BI h id bs ∧ bs.length ≤ most := ⟨bs, hne, hi, hm⟩
  have e : H_BS [.p id 0] h = some (.s (Classical.choose hc), h) := dif_pos hc
  rw [e, bi_uniq (Classical.choose_spec hc).2.1 hi]

/-! ### utf8.AppendRune, of a rune that is one -/
def enc (c : Nat) : List UInt8 := if c < 128 then [UInt8.ofNat c] else if c < 2048 then [UInt8.ofNat (192 + c / 64), UInt8.ofNat (128 + c % 64)]
  else if c < 65536 then [UInt8.ofNat (224 + c / 4096), UInt8.ofNat (128 + c / 64 % 64), UInt8.ofNat (128 + c % 64)]
  else [UInt8.ofNat (240 + c / 262144), UInt8.ofNat (128 + c / 4096 % 64), UInt8.ofNat (128 + c / 64 % 64), UInt8.ofNat (128 + c % 64)]
set_option maxRecDepth 100000 in
theorem or192 : ∀ x : Fin 32, wr .u8 ((BitVec.ofInt IntKind.u8.bits 192 ||| BitVec.ofInt IntKind.u8.bits (x.val : Int)).toNat : Int) = ((192 + x.val : Nat) : Int) := by decide
set_option maxRecDepth 100000 in
theorem or224 : ∀ x : Fin 16, wr .u8 ((BitVec.ofInt IntKind.u8.bits 224 ||| BitVec.ofInt IntKind.u8.bits (x.val : Int)).toNat : Int) = ((224 + x.val : Nat) : Int) := by decide
set_option maxRecDepth 100000 in
theorem or240 : ∀ x : Fin 8, wr .u8 ((BitVec.ofInt IntKind.u8.bits 240 ||| BitVec.ofInt IntKind.u8.bits (x.val : Int)).toNat : Int) = ((240 + x.val : Nat) : Int) := by decide
set_option maxRecDepth 100000 in
theorem or128 : ∀ x : Fin 64, wr .u8 ((BitVec.ofInt IntKind.u8.bits 128 ||| BitVec.ofInt IntKind.u8.bits (x.val : Int)).toNat : Int) = ((128 + x.val : Nat) : Int) := by decide
set_option maxRecDepth 100000 in
theorem and63 : ∀ x : Fin 256, wr .u8 ((BitVec.ofInt IntKind.u8.bits (x.val : Int) &&& BitVec.ofInt IntKind.u8.bits 63).toNat : Int) = ((x.val % 64 : Nat) : Int) := by decide
@[go_sem high] theorem b192 {x : Nat} (h : x < 32) : binI .or .u8 192 (x : Int) = some (.i .u8 ((192 + x : Nat) : Int)) := congrArg (fun z => some (V.i .u8 z)) (or192 ⟨x, h⟩)
@[go_sem high] theorem b224 {x : Nat} (h : x < 16) : binI .or .u8 224 (x : Int) = some (.i .u8 ((224 + x : Nat) : Int)) := congrArg (fun z => some (V.i .u8 z)) (or224 ⟨x, h⟩)
@[go_sem high] theorem b240 {x : Nat} (h : x < 8) : binI .or .u8 240 (x : Int) = some (.i .u8 ((240 + x : Nat) : Int)) := congrArg (fun z => some (V.i .u8 z)) (or240 ⟨x, h⟩)
@[go_sem high] theorem b128 {x : Nat} (h : x < 64) : binI .or .u8 128 (x : Int) = some (.i .u8 ((128 + x : Nat) : Int)) := congrArg (fun z => some (V.i .u8 z)) (or128 ⟨x, h⟩)
@[go_sem high] theorem b63 {x : Nat} (h : x < 256) : binI .and .u8 (x : Int) 63 = some (.i .u8 ((x % 64 : Nat) : Int)) := congrArg (fun z => some (V.i .u8 z)) (and63 ⟨x, h⟩)
theorem shf6 (c : Nat) : shf false .i32 (c : Int) 6 = some (.i .i32 ((c / 64 : Nat) : Int)) := by
  have : (c : Int).fdiv (2 ^ 6) = ((c / 64 : Nat) : Int) := by rw [Int.fdiv_eq_ediv_of_nonneg _ (by decide)]; omega
  show some (V.i .i32 ((c : Int).fdiv (2 ^ 6))) = _
  rw [this]
theorem shf12 (c : Nat) : shf false .i32 (c : Int) 12 = some (.i .i32 ((c / 4096 : Nat) : Int)) := by
  have : (c : Int).fdiv (2 ^ 12) = ((c / 4096 : Nat) : Int) := by rw [Int.fdiv_eq_ediv_of_nonneg _ (by decide)]; omega
  show some (V.i .i32 ((c : Int).fdiv (2 ^ 12))) = _
  rw [this]
theorem shf18 (c : Nat) : shf false .i32 (c : Int) 18 = some (.i .i32 ((c / 262144 : Nat) : Int)) := by
  have : (c : Int).fdiv (2 ^ 18) = ((c / 262144 : Nat) : Int) := by rw [Int.fdiv_eq_ediv_of_nonneg _ (by decide)]; omega
  show some (V.i .i32 ((c : Int).fdiv (2 ^ 18))) = _
  rw [this]
theorem wru8 (n : Nat) : wr .u8 (n : Int) = ((n % 256 : Nat) : Int) := by simp only [wr]; omega
theorem wru32 {n : Nat} (h : n < 4294967296) : wr .u32 (n : Int) = (n : Int) := by simp only [wr]; omega
def oks (c : Nat) : Prop := c < 55296 ∨ (57343 < c ∧ c ≤ 1114111)
theorem valid_oks {c : Nat} (h : oks c) : Utf8.valid (c : Int) = true := by
  unfold oks at h
  simp only [Utf8.valid, Bool.or_eq_true, Bool.and_eq_true, decide_eq_true_eq]
  omega
theorem enc_if {c : Nat} (h : Utf8.valid (c : Int) = true) : Utf8.encode (c : Int) = (if c < 0x80 then ⟨#[UInt8.ofNat c]⟩
  else if c < 0x800 then ⟨#[UInt8.ofNat (0xC0 + c / 64), UInt8.ofNat (0x80 + c % 64)]⟩
  else if c < 0x10000 then ⟨#[UInt8.ofNat (0xE0 + c / 4096), UInt8.ofNat (0x80 + c / 64 % 64), UInt8.ofNat (0x80 + c % 64)]⟩
  else ⟨#[UInt8.ofNat (0xF0 + c / 262144), UInt8.ofNat (0x80 + c / 4096 % 64), UInt8.ofNat (0x80 + c / 64 % 64), UInt8.ofNat (0x80 + c % 64)]⟩) := by
  have e : (if Utf8.valid (c : Int) then (c : Int).toNat else Utf8.runeError) = c := by rw [h]; exact Int.toNat_natCast c
  have : ∀ x, (if Utf8.valid (c : Int) then (c : Int).toNat else Utf8.runeError) = x → Utf8.encode (c : Int) = (if x < 0x80 then ⟨#[UInt8.ofNat x]⟩
    else if x < 0x800 then ⟨#[UInt8.ofNat (0xC0 + x / 64), UInt8.ofNat (0x80 + x % 64)]⟩
    else if x < 0x10000 then ⟨#[UInt8.ofNat (0xE0 + x / 4096), UInt8.ofNat (0x80 + x / 64 % 64), UInt8.ofNat (0x80 + x % 64)]⟩
    else ⟨#[UInt8.ofNat (0xF0 + x / 262144), UInt8.ofNat (0x80 + x / 4096 % 64), UInt8.ofNat (0x80 + x / 64 % 64), UInt8.ofNat (0x80 + x % 64)]⟩) := by
    intro x hx; subst hx; rfl
  exact this c e
theorem encode_enc {c : Nat} (h : oks c) : (Utf8.encode (c : Int)).data.toList = enc c := by
  rw [enc_if (valid_oks h)]
  unfold enc
  by_cases k1 : c < 128
  · simp only [k1, if_true]
  · by_cases k2 : c < 2048
    · simp only [k1, k2, if_true, if_false]
    · by_cases k3 : c < 65536
      · simp only [k1, k2, k3, if_true, if_false]
      · simp only [k1, k2, k3, if_false]
theorem enc2 {c : Nat} (h1 : 128 ≤ c) (h2 : c < 2048) : (enc c).map byteV = [.i .u8 ((192 + c / 64 : Nat) : Int), .i .u8 ((128 + c % 64 : Nat) : Int)] := by
  have k1 : ¬ c < 128 := by omega
  have e1 : (UInt8.ofNat (192 + c / 64)).toNat = 192 + c / 64 := by simp; omega
  have e2 : (UInt8.ofNat (128 + c % 64)).toNat = 128 + c % 64 := by simp; omega
  unfold enc
  simp only [k1, h2, if_true, if_false, List.map_cons, List.map_nil, byteV, e1, e2]
theorem enc3 {c : Nat} (h1 : 2048 ≤ c) (h2 : c < 65536) : (enc c).map byteV = [.i .u8 ((224 + c / 4096 : Nat) : Int), .i .u8 ((128 + c / 64 % 64 : Nat) : Int), .i .u8 ((128 + c % 64 : Nat) : Int)] := by
  have k1 : ¬ c < 128 := by omega
  have k2 : ¬ c < 2048 := by omega
  have e1 : (UInt8.ofNat (224 + c / 4096)).toNat = 224 + c / 4096 := by simp; omega
  have e2 : (UInt8.ofNat (128 + c / 64 % 64)).toNat = 128 + c / 64 % 64 := by simp; omega
  have e3 : (UInt8.ofNat (128 + c % 64)).toNat = 128 + c % 64 := by simp; omega
  unfold enc
  simp only [k1, k2, h2, if_true, if_false, List.map_cons, List.map_nil, byteV, e1, e2, e3]
theorem enc4 {c : Nat} (h : oks c) (h1 : 65536 ≤ c) : (enc c).map byteV = [.i .u8 ((240 + c / 262144 : Nat) : Int), .i .u8 ((128 + c / 4096 % 64 : Nat) : Int), .i .u8 ((128 + c / 64 % 64 : Nat) : Int), .i .u8 ((128 + c % 64 : Nat) : Int)] := by
  have hc : c ≤ 1114111 := by unfold oks at h; omega
  have k1 : ¬ c < 128 := by omega
  have k2 : ¬ c < 2048 := by omega
  have k3 : ¬ c < 65536 := by omega
  have e1 : (UInt8.ofNat (240 + c / 262144)).toNat = 240 + c / 262144 := by simp; omega
  have e2 : (UInt8.ofNat (128 + c / 4096 % 64)).toNat = 128 + c / 4096 % 64 := by simp; omega
  have e3 : (UInt8.ofNat (128 + c / 64 % 64)).toNat = 128 + c / 64 % 64 := by simp; omega
  have e4 : (UInt8.ofNat (128 + c % 64)).toNat = 128 + c % 64 := by simp; omega
  unfold enc
  simp only [k1, k2, k3, if_false, List.map_cons, List.map_nil, byteV, e1, e2, e3, e4]
theorem enc1 {c : Nat} (h : c < 128) : (enc c).map byteV = [.i .u8 (c : Int)] := by
  have e1 : (UInt8.ofNat c).toNat = c := by simp; omega
  unfold enc
  simp only [h, if_true, List.map_cons, List.map_nil, byteV, e1]
theorem enc_len (c : Nat) : 1 ≤ (enc c).length ∧ (enc c).length ≤ 4 := by
  unfold enc
  repeat' split
  all_goals simp
end Go.Proofs.YtbhclhgljnoioaaDoor
