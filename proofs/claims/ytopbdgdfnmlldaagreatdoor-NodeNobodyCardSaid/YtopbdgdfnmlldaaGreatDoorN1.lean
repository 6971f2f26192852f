/- 'NodeNobody': its function walked. -/
import Derived.Test.YtopbdgdfnmlldaaGreatDoorMemo
import Derived.Test.YtopbdgdfnmlldaaGreatDoorAi13
import Derived.KernelRfl
set_option linter.unusedSimpArgs false
set_option linter.unusedVariables false
namespace Go.Proofs.YtopbdgdfnmlldaaGreatDoor
open Ai Ai.Hp
/-! ### The cells of a type without pointers -/
inductive Sk | i (k : IntKind) | b | s | sl (e : TypeId)
def Sk.ok (P : Program) : Sk → V → Prop
  | .i k, v => ∃ n, v = .i k n
  | .b, v => ∃ x, v = .b x
  | .s, v => ∃ l, v = .s l
  | .sl e, v => ∃ ys n, v = .sl ys n .no ∧ Shapes P e ys n ∧ n * P.bytesOf e ≤ reachBytes
def AllOk (P : Program) : List Sk → List V → Prop
  | [], xs => xs = []
  | k :: r, xs => ∃ v ys, xs = v :: ys ∧ k.ok P v ∧ AllOk P r ys
def skels (g : TypeId → Option (List Sk)) : List Field → Option (List Sk)
  | [] => some []
  | x :: r => match g x.type, skels g r with
    | some a, some b => some (a ++ b)
    | _, _ => none
def skel (P : Program) : Nat → TypeId → Option (List Sk)
  | 0, _ => none
  | f + 1, t => match P.underlying t with
    | some .bool => some [.b]
    | some (.int k) => some [.i k]
    | some .string => some [.s]
    | some (.slice e) => some [.sl e]
    | some (.struct fs) => skels (skel P f) fs.toList
    | _ => none
theorem allOk_app {P : Program} : ∀ {ks ls : List Sk} {xs ys : List V}, AllOk P ks xs → AllOk P ls ys → AllOk P (ks ++ ls) (xs ++ ys)
  | [], _, _, _, h, k => by
    have h : _ = _ := h
    subst h
    exact k
  | _ :: _, _, _, _, h, k => by
    obtain ⟨v, ys, rfl, h1, h2⟩ := h
    exact ⟨v, _, rfl, h1, allOk_app h2 k⟩
theorem skels_ok {P : Program} {g : TypeId → Option (List Sk)} (hg : ∀ t xs ks, g t = some ks → Shape P t xs → AllOk P ks xs) : ∀ (l : List Field) (xs : List V) (ks : List Sk), skels g l = some ks → Fields P l xs → AllOk P ks xs := by
  intro l
  induction l with
  | nil =>
    intro xs ks h hf
    cases hf
    simp only [skels, Option.some.injEq] at h
    subst h
    exact rfl
  | cons x r ih =>
    intro xs ks h hf
    cases hf with | cons _ _ x ys h1 h2 =>
    simp only [skels] at h
    split at h
    · rename_i a b ha hb
      cases h
      exact allOk_app (hg _ _ _ ha h1) (ih _ _ hb h2)
    · cases h
theorem skel_ok {P : Program} : ∀ (f : Nat) (t : TypeId) (xs : List V) (ks : List Sk), skel P f t = some ks → Shape P t xs → AllOk P ks xs := by
  intro f
  induction f with
  | zero => intro t xs ks h; cases h
  | succ f ih =>
    intro t xs ks h hs
    unfold skel at h
    cases hs with
    | b _ x hu => rw [hu] at h; cases h; exact ⟨_, _, rfl, ⟨x, rfl⟩, rfl⟩
    | i _ k n hu _ => rw [hu] at h; cases h; exact ⟨_, _, rfl, ⟨n, rfl⟩, rfl⟩
    | s _ l hu _ => rw [hu] at h; cases h; exact ⟨_, _, rfl, ⟨l, rfl⟩, rfl⟩
    | sl _ e ys n hu hb hs => rw [hu] at h; cases h; exact ⟨_, _, rfl, ⟨ys, n, rfl, hs, hb⟩, rfl⟩
    | st _ fs _ hu hf => rw [hu] at h; exact skels_ok ih _ _ _ h hf
theorem stripL_app (a b : List V) : stripL (a ++ b) = stripL a ++ stripL b := by
  induction a with
  | nil => rfl
  | cons x r ih => simp only [List.cons_append, stripL, ih]
theorem rows3 {P : Program} {e c : TypeId} {a b : IntKind} {f : Nat} (hk : skel P f e = some [.i a, .i b, .sl c]) : ∀ (n : Nat) (ys : List V), Shapes P e ys n → (stripL ys).length = n * 3 ∧ ∀ j, j < n → ∃ zs m, (stripL ys)[j * 3 + 2]? = some (.sl zs m .no) := by
  intro n
  induction n with
  | zero => intro ys h; cases h; exact ⟨rfl, fun j hj => absurd hj (Nat.not_lt_zero _)⟩
  | succ n ih =>
    intro ys h
    cases h with | cons _ x ys _ h1 h2 =>
    obtain ⟨l1, l2⟩ := ih ys h2
    obtain ⟨_, _, rfl, ⟨u, rfl⟩, _, _, rfl, ⟨w, rfl⟩, _, _, rfl, ⟨zs, m, rfl, _⟩, hn⟩ := skel_ok f e x _ hk h1
    have hn : _ = _ := hn
    subst hn
    refine ⟨by simp only [List.cons_append, List.nil_append, stripL, List.length_cons, l1]; omega, fun j hj => ?_⟩
    cases j with
    | zero => exact ⟨stripL zs, m, rfl⟩
    | succ j =>
      obtain ⟨zs', m', h⟩ := l2 j (by omega)
      refine ⟨zs', m', ?_⟩
      rw [← h]
      show (_ :: _ :: _ :: stripL ys)[(j + 1) * 3 + 2]? = _
      rw [show (j + 1) * 3 + 2 = j * 3 + 2 + 1 + 1 + 1 by omega]
      rfl
theorem skE : skel Tryz.prog 3 68 = some [.i .i64, .i .i64, .sl 5] := by kernel_rfl
theorem skIn : skel Tryz.prog 9 32 = some [.i .i64, .i .i64, .i .i64, .i .i64, .i .i64, .i .i64, .i .i64, .i .i64, .i .i64, .i .i64, .b, .sl 68, .i .i64, .i .i64, .sl 3, .sl 3, .sl 5, .i .i64, .b, .sl 5, .sl 3, .sl 3, .i .i64, .i .i64] := by kernel_rfl
/-! ### short -/
theorem Hp_open {c c' : AC} (h : c = c') {xf : FuncId → List V → Option V} {xh : FuncId → List V → H → Option (V × H)} {kz : Nat → List Nat} {k : List Fr} {st : St} {Q : AEx → St → Prop} : Hp.M xf xh kz (.code c) k st Q = Hp.M xf xh kz (.code c') k st Q := by rw [h]
def noY (_ : FuncId) (_ : List V) (_ : H) : Option (V × H) := none
theorem tells_noY : Hp.TellsI tabx told noY := fun _ _ _ _ _ h => by cases h
theorem comp_ex {xf : FuncId → List V → Option V} {xh : FuncId → List V → H → Option (V × H)} {kz : Nat → List Nat} (hx : Tells tabx told xf) (hy : Hp.TellsI tabx told xh) {g : FuncId} {fn : AFunc} {args : List V} {Q : V → Prop} (ht : tabx g = some fn) (hn : args.length ≤ fn.n)
    (h : Hp.M xf xh kz (.code fn.body) [] (St.init gl0 fn.depth (stripL args) {}) (fun ex st => ∃ v, Fin fn.res v ex st ∧ Q v)) : ∃ v, Comp tabx told g args v ∧ Q v := by
  obtain ⟨f, ex, st', e, v, hf, q⟩ := h
  refine ⟨v, fun hh gl hok => ?_, q⟩
  have hgl : gl = gl0 := hok
  subst hgl
  obtain ⟨he, hl⟩ := hf
  obtain ⟨ex1, st1, f1, _, _, hr, hev⟩ := Hp.runK_ev hx hy f f (Nat.le_refl _) _ _ _ _ _ hok e
  simp only at hev
  have : ex1 = ex ∧ st1 = st' := by
    match f1, hr with
    | 0, hr => simp [Hp.runK] at hr
    | f1 + 1, hr => simp only [Hp.runK, Option.some.injEq, Prod.mk.injEq] at hr; exact hr
  obtain ⟨rfl, rfl⟩ := this
  have hl' : leave fn true hh st1 = some (v, hh) := by
    unfold leave
    cases hv : resV st1 fn.res with
    | none => rw [hv] at hl; cases hl
    | some vs =>
      rw [hv] at hl
      simp only [Option.map_some, Option.some.injEq] at hl
      simp only [cond_true, hl]
  exact .fn ht hn hev he hl'
def K4_2 : List Fr := [.blk 2,
 .blk 1,
 .seq (.reg [⟨some 29, .mov (.t 6), none⟩, ⟨some 30, .bin .add (.t 29) (.k (.i .i64 1)), none⟩, ⟨some 6, .mov (.t 30), none⟩]),
  .loop L4_1,
 .blk 0,
 .seq (.seq (.reg [⟨some 100, .mov (.t 1), none⟩, ⟨some 101, .len .slice (.t 100), none⟩, ⟨some 102, .bin .leq (.t 101) (.k (.i .i64 80)), none⟩, ⟨some 103, .mov (.t 102), none⟩, ⟨some 104, .mov (.t 5), some (103, true)⟩,
 ⟨some 105, .bin .leq (.t 104) (.k (.i .i64 32768)), some (103, true)⟩,
 ⟨some 106, .pick (.t 103) (.t 105) (.k (.b false)), none⟩, ⟨some 4, .mov (.t 106), none⟩])
 .ret)]
theorem UH4_2 : type_of% (@Hp_open _ _ L4_2.eq_1) := @Hp_open _ _ L4_2.eq_1
def K4_1 : List Fr := [.blk 0,
 .seq (.seq (.reg [⟨some 100, .mov (.t 1), none⟩, ⟨some 101, .len .slice (.t 100), none⟩, ⟨some 102, .bin .leq (.t 101) (.k (.i .i64 80)), none⟩, ⟨some 103, .mov (.t 102), none⟩, ⟨some 104, .mov (.t 5), some (103, true)⟩,
 ⟨some 105, .bin .leq (.t 104) (.k (.i .i64 32768)), some (103, true)⟩,
 ⟨some 106, .pick (.t 103) (.t 105) (.k (.b false)), none⟩, ⟨some 4, .mov (.t 106), none⟩])
 .ret)]
theorem UH4_1 : type_of% (@Hp_open _ _ L4_1.eq_1) := @Hp_open _ _ L4_1.eq_1
theorem UH4 : type_of% (@Hp_open _ _ B4.eq_1) := @Hp_open _ _ B4.eq_1
def kz4 (n : Nat) : List Nat := if n = 2 then [0, 2, 3, 4, 7, 8, 9, 10, 11, 12, 13, 14, 15, 16, 17, 18, 19, 20, 21, 22, 23, 24, 25, 26, 27, 28, 29, 30, 31, 32, 33, 34, 35, 36, 37, 38, 39, 40, 41, 42, 43, 44, 45, 46, 47, 48, 49, 50, 51, 52, 53, 54, 55, 56, 57, 58, 59, 60, 61, 62, 63, 64, 65, 66, 67, 68, 69, 70, 71, 72, 73, 74, 75, 76, 77, 78, 79, 80, 81, 82, 83, 84, 85, 86, 87, 88, 89, 90, 91, 92, 93, 94, 95, 96, 97, 98, 99, 100, 101, 102, 103, 104, 105, 106] else if n = 6 then [0, 2, 3, 4, 9, 10, 11, 12, 13, 14, 15, 16, 17, 18, 19, 20, 21, 22, 23, 24, 25, 26, 27, 28, 29, 30, 31, 32, 33, 34, 35, 36, 37, 38, 39, 40, 41, 42, 43, 44, 45, 46, 47, 48, 49, 50, 51, 52, 53, 54, 55, 56, 57, 58, 59, 60, 61, 62, 63, 64, 65, 66, 67, 68, 69, 70, 71, 72, 73, 74, 75, 76, 77, 78, 79, 80, 81, 82, 83, 84, 85, 86, 87, 88, 89, 90, 91, 92, 93, 94, 95, 96, 97, 98, 99, 100, 101, 102, 103, 104, 105, 106] else []
theorem w_l1e (row : List V) (tk : Tk) (a : Int) (l9 : List (Nat × List V)) : Hp.M xf noY (kz4) (.code L4_1) (.loop L4_1 :: K4_1) ⟨gl0, (.node (.node (.node (.node (.node (.node (.node .leaf .any .leaf) .any (.node .leaf .any .leaf)) .any (.node (.node .leaf .any .leaf) .any (.node .leaf .any .leaf))) .any (.node (.node (.node .leaf .any .leaf) .any (.node .leaf .any .leaf)) .any (.node (.node .leaf .any .leaf) .any (.node .leaf .any .leaf)))) .any (.node (.node (.node (.node .leaf .any .leaf) .any (.node .leaf .any .leaf)) .any (.node (.node .leaf .any .leaf) .any (.node .leaf .any .leaf))) .any (.node (.node (.node .leaf .any .leaf) .any (.node .leaf .any .leaf)) .any (.node (.node .leaf .any .leaf) .any (.node .leaf .any .leaf))))) (.sl row 1 tk) (.node (.node (.node (.node (.node .leaf .any .leaf) .any (.node .leaf .any .leaf)) .any (.node (.node .leaf .any .leaf) .any (.node .leaf .any .leaf))) .any (.node (.node (.node .leaf .any .leaf) .any (.node .leaf .any .leaf)) .any (.node (.node .leaf .any .leaf) .any (.node .leaf .any .leaf)))) (.i .i64 a) (.node (.node (.node (.node .leaf .any .leaf) .any (.node .leaf .any .leaf)) .any (.node (.node .leaf .any .leaf) .any (.node .leaf .any .leaf))) .any (.node (.node (.node .leaf .any .leaf) .any (.node .leaf .any .leaf)) .any (.node (.node .leaf .any .leaf) .any (.node .leaf .any .leaf)))))) .any (.node (.node (.node (.node (.node (.node .leaf .any .leaf) .any (.node .leaf .any .leaf)) .any (.node (.node .leaf .any .leaf) .any (.node .leaf .any .leaf))) .any (.node (.node (.node .leaf .any .leaf) .any (.node .leaf .any .leaf)) .any (.node (.node .leaf .any .leaf) .any (.node .leaf .any .leaf)))) .any (.node (.node (.node (.node .leaf .any .leaf) .any (.node .leaf .any .leaf)) .any (.node (.node .leaf .any .leaf) .any (.node .leaf .any .leaf))) .any (.node (.node (.node .leaf .any .leaf) .any (.node .leaf .any .leaf)) .any (.node (.node .leaf .any .leaf) .any (.node .leaf .any .leaf))))) .any (.node (.node (.node (.node (.node .leaf .any .leaf) .any (.node .leaf .any .leaf)) .any (.node (.node .leaf .any .leaf) .any (.node .leaf .any .leaf))) .any (.node (.node (.node .leaf .any .leaf) .any (.node .leaf .any .leaf)) .any (.node (.node .leaf .any .leaf) .any (.node .leaf .any .leaf)))) (.i .i64 1) (.node (.node (.node (.node .leaf .any .leaf) .any (.node .leaf .any .leaf)) .any (.node (.node .leaf .any .leaf) .any (.node .leaf .any .leaf))) .any (.node (.node (.node .leaf .any .leaf) .any (.node .leaf .any .leaf)) .any (.node (.node .leaf .any .leaf) .any (.node .leaf .any .leaf))))))), [], l9, {}⟩ (fun ex st => ∃ v, Fin [.tmp 4] v ex st ∧ ∃ b, v = .b b) := by
  rw [UH4_1]
  have e1 : decide ((1 : Int) < ((1 : Nat) : Int)) = false := by decide
  have e2 : decide (((1 : Nat) : Int) ≤ (80 : Int)) = true := by decide
  cases hA : decide (a ≤ 32768) <;> simp only [hA, e1, e2, K4_1, go_sem, ne_eq, not_false_eq_true, reduceIte, Nat.reduceMul, Nat.reduceAdd, Nat.reduceSub, Nat.reduceEqDiff, Nat.reduceLeDiff, Nat.reduceLT, List.take_succ_cons, List.take_zero, List.drop_succ_cons, List.cons_append] <;> exact ⟨_, rfl, _, rfl⟩
section
variable (a0 : Int) (a1 : Int) (a2 : Int) (a3 : Int) (a4 : Int) (a5 : Int) (a6 : Int) (a7 : Int) (a8 : Int) (a9 : Int) (a10 : Bool) (s11 : List V) (m11 : Nat) (a12 : Int) (a13 : Int) (s14 : List V) (m14 : Nat) (s15 : List V) (m15 : Nat) (s16 : List V) (m16 : Nat) (a17 : Int) (a18 : Bool) (s19 : List V) (m19 : Nat) (s20 : List V) (m20 : Nat) (s21 : List V) (m21 : Nat) (a22 : Int) (a23 : Int)
set_option maxRecDepth 100000 in
theorem w_l2 (row : List V) (tk : Tk) (lo : List (Nat × List V)) (hlo : al lo 7 = some [.i .i64 a0, .i .i64 a1, .i .i64 a2, .i .i64 a3, .i .i64 a4, .i .i64 a5, .i .i64 a6, .i .i64 a7, .i .i64 a8, .i .i64 a9, .b a10, .sl s11 m11 .no, .i .i64 a12, .i .i64 a13, .sl s14 m14 .no, .sl s15 m15 .no, .sl s16 m16 .no, .i .i64 a17, .b a18, .sl s19 m19 .no, .sl s20 m20 .no, .sl s21 m21 .no, .i .i64 a22, .i .i64 a23]) (hl : s11.length = m11 * 3) (hb : m11 ≤ 1000000000000000) (hg : ∀ j, j < m11 → ∃ zs m, s11[j * 3 + 2]? = some (.sl zs m .no)) : ∀ (k j : Nat) (a : Int), j + k = m11 →
    Hp.M xf noY (kz4) (.code L4_2) (.loop L4_2 :: K4_2) ⟨gl0, (.node (.node (.node (.node (.node (.node (.node .leaf .any .leaf) .any (.node .leaf .any .leaf)) .any (.node (.node .leaf .any .leaf) .any (.node .leaf .any .leaf))) (.l 7 0) (.node (.node (.node .leaf .any .leaf) .any (.node .leaf .any .leaf)) .any (.node (.node .leaf .any .leaf) .any (.node .leaf .any .leaf)))) .any (.node (.node (.node (.node .leaf .any .leaf) .any (.node .leaf .any .leaf)) .any (.node (.node .leaf .any .leaf) .any (.node .leaf .any .leaf))) .any (.node (.node (.node .leaf .any .leaf) .any (.node .leaf .any .leaf)) .any (.node (.node .leaf .any .leaf) .any (.node .leaf .any .leaf))))) (.sl row 1 tk) (.node (.node (.node (.node (.node .leaf .any .leaf) .any (.node .leaf .any .leaf)) .any (.node (.node .leaf .any .leaf) .any (.node .leaf .any .leaf))) .any (.node (.node (.node .leaf .any .leaf) .any (.node .leaf .any .leaf)) .any (.node (.node .leaf .any .leaf) .any (.node .leaf .any .leaf)))) (.i .i64 a) (.node (.node (.node (.node .leaf .any .leaf) .any (.node .leaf .any .leaf)) .any (.node (.node .leaf .any .leaf) .any (.node .leaf .any .leaf))) .any (.node (.node (.node .leaf .any .leaf) .any (.node .leaf .any .leaf)) .any (.node (.node .leaf .any .leaf) .any (.node .leaf .any .leaf)))))) .any (.node (.node (.node (.node (.node (.node .leaf .any .leaf) .any (.node .leaf .any .leaf)) .any (.node (.node .leaf .any .leaf) .any (.node .leaf .any .leaf))) (.i .i64 (j : Nat)) (.node (.node (.node .leaf .any .leaf) .any (.node .leaf .any .leaf)) .any (.node (.node .leaf .any .leaf) .any (.node .leaf .any .leaf)))) .any (.node (.node (.node (.node .leaf .any .leaf) .any (.node .leaf .any .leaf)) .any (.node (.node .leaf .any .leaf) .any (.node .leaf .any .leaf))) .any (.node (.node (.node .leaf .any .leaf) .any (.node .leaf .any .leaf)) .any (.node (.node .leaf .any .leaf) .any (.node .leaf .any .leaf))))) .any (.node (.node (.node (.node (.node .leaf .any .leaf) .any (.node .leaf .any .leaf)) .any (.node (.node .leaf .any .leaf) .any (.node .leaf .any .leaf))) .any (.node (.node (.node .leaf .any .leaf) .any (.node .leaf .any .leaf)) .any (.node (.node .leaf .any .leaf) .any (.node .leaf .any .leaf)))) (.i .i64 0) (.node (.node (.node (.node .leaf .any .leaf) .any (.node .leaf .any .leaf)) .any (.node (.node .leaf .any .leaf) .any (.node .leaf .any .leaf))) .any (.node (.node (.node .leaf .any .leaf) .any (.node .leaf .any .leaf)) .any (.node (.node .leaf .any .leaf) .any (.node .leaf .any .leaf))))))), [], lo, {}⟩ (fun ex st => ∃ v, Fin [.tmp 4] v ex st ∧ ∃ b, v = .b b) := by
  have w1 : wr .i64 ((0 : Int) + 1) = 1 := by decide
  have out : ∀ (j : Nat) (a : Int), (decide ((j : Int) < (m11 : Int)) && decide (a ≤ 32768)) = false → Hp.M xf noY (kz4) (.code L4_2) (.loop L4_2 :: K4_2) ⟨gl0, (.node (.node (.node (.node (.node (.node (.node .leaf .any .leaf) .any (.node .leaf .any .leaf)) .any (.node (.node .leaf .any .leaf) .any (.node .leaf .any .leaf))) (.l 7 0) (.node (.node (.node .leaf .any .leaf) .any (.node .leaf .any .leaf)) .any (.node (.node .leaf .any .leaf) .any (.node .leaf .any .leaf)))) .any (.node (.node (.node (.node .leaf .any .leaf) .any (.node .leaf .any .leaf)) .any (.node (.node .leaf .any .leaf) .any (.node .leaf .any .leaf))) .any (.node (.node (.node .leaf .any .leaf) .any (.node .leaf .any .leaf)) .any (.node (.node .leaf .any .leaf) .any (.node .leaf .any .leaf))))) (.sl row 1 tk) (.node (.node (.node (.node (.node .leaf .any .leaf) .any (.node .leaf .any .leaf)) .any (.node (.node .leaf .any .leaf) .any (.node .leaf .any .leaf))) .any (.node (.node (.node .leaf .any .leaf) .any (.node .leaf .any .leaf)) .any (.node (.node .leaf .any .leaf) .any (.node .leaf .any .leaf)))) (.i .i64 a) (.node (.node (.node (.node .leaf .any .leaf) .any (.node .leaf .any .leaf)) .any (.node (.node .leaf .any .leaf) .any (.node .leaf .any .leaf))) .any (.node (.node (.node .leaf .any .leaf) .any (.node .leaf .any .leaf)) .any (.node (.node .leaf .any .leaf) .any (.node .leaf .any .leaf)))))) .any (.node (.node (.node (.node (.node (.node .leaf .any .leaf) .any (.node .leaf .any .leaf)) .any (.node (.node .leaf .any .leaf) .any (.node .leaf .any .leaf))) (.i .i64 (j : Nat)) (.node (.node (.node .leaf .any .leaf) .any (.node .leaf .any .leaf)) .any (.node (.node .leaf .any .leaf) .any (.node .leaf .any .leaf)))) .any (.node (.node (.node (.node .leaf .any .leaf) .any (.node .leaf .any .leaf)) .any (.node (.node .leaf .any .leaf) .any (.node .leaf .any .leaf))) .any (.node (.node (.node .leaf .any .leaf) .any (.node .leaf .any .leaf)) .any (.node (.node .leaf .any .leaf) .any (.node .leaf .any .leaf))))) .any (.node (.node (.node (.node (.node .leaf .any .leaf) .any (.node .leaf .any .leaf)) .any (.node (.node .leaf .any .leaf) .any (.node .leaf .any .leaf))) .any (.node (.node (.node .leaf .any .leaf) .any (.node .leaf .any .leaf)) .any (.node (.node .leaf .any .leaf) .any (.node .leaf .any .leaf)))) (.i .i64 0) (.node (.node (.node (.node .leaf .any .leaf) .any (.node .leaf .any .leaf)) .any (.node (.node .leaf .any .leaf) .any (.node .leaf .any .leaf))) .any (.node (.node (.node .leaf .any .leaf) .any (.node .leaf .any .leaf)) .any (.node (.node .leaf .any .leaf) .any (.node .leaf .any .leaf))))))), [], lo, {}⟩ (fun ex st => ∃ v, Fin [.tmp 4] v ex st ∧ ∃ b, v = .b b) := by
    intro j a hh
    rw [UH4_2]
    have := fun l => w_l1e row tk a l
    cases e1 : decide ((j : Int) < (m11 : Int)) with
    | false =>
      simp only [e1, w1, hlo, K4_2, go_sem, ne_eq, not_false_eq_true, reduceIte, Nat.reduceMul, Nat.reduceAdd, Nat.reduceSub, Nat.reduceEqDiff, Nat.reduceLeDiff, Nat.reduceLT, List.take_succ_cons, List.take_zero, List.drop_succ_cons, List.cons_append]
      rw [Hp.M_loop]
      simp only [kz4, K4_1, List.length_cons, List.length_nil, Nat.zero_add, go_sem, ne_eq, not_false_eq_true, reduceIte, Nat.reduceMul, Nat.reduceAdd, Nat.reduceSub, Nat.reduceEqDiff, Nat.reduceLeDiff, Nat.reduceLT, List.take_succ_cons, List.take_zero, List.drop_succ_cons, List.cons_append] at this ⊢
      exact this _
    | true =>
      rw [e1, Bool.true_and] at hh
      simp only [e1, hh, w1, hlo, K4_2, go_sem, ne_eq, not_false_eq_true, reduceIte, Nat.reduceMul, Nat.reduceAdd, Nat.reduceSub, Nat.reduceEqDiff, Nat.reduceLeDiff, Nat.reduceLT, List.take_succ_cons, List.take_zero, List.drop_succ_cons, List.cons_append]
      rw [Hp.M_loop]
      simp only [kz4, K4_1, List.length_cons, List.length_nil, Nat.zero_add, go_sem, ne_eq, not_false_eq_true, reduceIte, Nat.reduceMul, Nat.reduceAdd, Nat.reduceSub, Nat.reduceEqDiff, Nat.reduceLeDiff, Nat.reduceLT, List.take_succ_cons, List.take_zero, List.drop_succ_cons, List.cons_append] at this ⊢
      exact this _
  intro k
  induction k with
  | zero =>
    intro j a hj
    exact out j a (by rw [show decide ((j : Int) < (m11 : Int)) = false from decide_eq_false (by omega)]; rfl)
  | succ k ih =>
    intro j a hj
    cases hA : decide (a ≤ 32768) with
    | false => exact out j a (by rw [hA, Bool.and_false])
    | true =>
      have e1 : decide ((j : Int) < (m11 : Int)) = true := decide_eq_true (by omega)
      obtain ⟨zs, m, g⟩ := hg j (by omega)
      have g1 : j < m11 := by omega
      have w2 : wr .i64 ((j : Int) + 1) = ((j + 1 : Nat) : Int) := by rw [wr64] <;> omega
      have := fun a => ih (j + 1) a (by omega)
      rw [UH4_2]
      cases s11 with
      | nil => simp only [List.length_nil] at hl; omega
      | cons y0 ys0 =>
        have g2 : (j + 1) * 3 ≤ (y0 :: ys0).length := by rw [hl]; omega
        simp only [List.length_cons] at g2
        have g2 := decide_eq_true g2
        have g1 := decide_eq_true g1
        simp only [e1, hA, g1, g2, g, w2, hlo, List.length_cons, go_sem, ne_eq, not_false_eq_true, reduceIte, Nat.reduceMul, Nat.reduceAdd, Nat.reduceSub, Nat.reduceEqDiff, Nat.reduceLeDiff, Nat.reduceLT, List.take_succ_cons, List.take_zero, List.drop_succ_cons, List.cons_append]
        rw [Hp.M_loop]
        simp only [kz4, K4_2, List.length_cons, List.length_nil, Nat.zero_add, go_sem, ne_eq, not_false_eq_true, reduceIte, Nat.reduceMul, Nat.reduceAdd, Nat.reduceSub, Nat.reduceEqDiff, Nat.reduceLeDiff, Nat.reduceLT, List.take_succ_cons, List.take_zero, List.drop_succ_cons, List.cons_append] at this ⊢
        exact this _
end
section
variable (a0 : Int) (a1 : Int) (a2 : Int) (a3 : Int) (a4 : Int) (a5 : Int) (a6 : Int) (a7 : Int) (a8 : Int) (a9 : Int) (a10 : Bool) (s11 : List V) (m11 : Nat) (a12 : Int) (a13 : Int) (s14 : List V) (m14 : Nat) (s15 : List V) (m15 : Nat) (s16 : List V) (m16 : Nat) (a17 : Int) (a18 : Bool) (s19 : List V) (m19 : Nat) (s20 : List V) (m20 : Nat) (s21 : List V) (m21 : Nat) (a22 : Int) (a23 : Int)
set_option maxRecDepth 100000 in
theorem w_l1 (tk : Tk) (hl : s11.length = m11 * 3) (hb : m11 ≤ 1000000000000000) (hg : ∀ j, j < m11 → ∃ zs m, s11[j * 3 + 2]? = some (.sl zs m .no)) (a : Int) (l9 : List (Nat × List V)) :
    Hp.M xf noY (kz4) (.code L4_1) (.loop L4_1 :: K4_1) ⟨gl0, (.node (.node (.node (.node (.node (.node (.node .leaf .any .leaf) .any (.node .leaf .any .leaf)) .any (.node (.node .leaf .any .leaf) .any (.node .leaf .any .leaf))) .any (.node (.node (.node .leaf .any .leaf) .any (.node .leaf .any .leaf)) .any (.node (.node .leaf .any .leaf) .any (.node .leaf .any .leaf)))) .any (.node (.node (.node (.node .leaf .any .leaf) .any (.node .leaf .any .leaf)) .any (.node (.node .leaf .any .leaf) .any (.node .leaf .any .leaf))) .any (.node (.node (.node .leaf .any .leaf) .any (.node .leaf .any .leaf)) .any (.node (.node .leaf .any .leaf) .any (.node .leaf .any .leaf))))) (.sl [.i .i64 a0, .i .i64 a1, .i .i64 a2, .i .i64 a3, .i .i64 a4, .i .i64 a5, .i .i64 a6, .i .i64 a7, .i .i64 a8, .i .i64 a9, .b a10, .sl s11 m11 .no, .i .i64 a12, .i .i64 a13, .sl s14 m14 .no, .sl s15 m15 .no, .sl s16 m16 .no, .i .i64 a17, .b a18, .sl s19 m19 .no, .sl s20 m20 .no, .sl s21 m21 .no, .i .i64 a22, .i .i64 a23, .i .i64 0, .i .i64 0, .i .i64 0] 1 tk) (.node (.node (.node (.node (.node .leaf .any .leaf) .any (.node .leaf .any .leaf)) .any (.node (.node .leaf .any .leaf) .any (.node .leaf .any .leaf))) .any (.node (.node (.node .leaf .any .leaf) .any (.node .leaf .any .leaf)) .any (.node (.node .leaf .any .leaf) .any (.node .leaf .any .leaf)))) (.i .i64 a) (.node (.node (.node (.node .leaf .any .leaf) .any (.node .leaf .any .leaf)) .any (.node (.node .leaf .any .leaf) .any (.node .leaf .any .leaf))) .any (.node (.node (.node .leaf .any .leaf) .any (.node .leaf .any .leaf)) .any (.node (.node .leaf .any .leaf) .any (.node .leaf .any .leaf)))))) .any (.node (.node (.node (.node (.node (.node .leaf .any .leaf) .any (.node .leaf .any .leaf)) .any (.node (.node .leaf .any .leaf) .any (.node .leaf .any .leaf))) .any (.node (.node (.node .leaf .any .leaf) .any (.node .leaf .any .leaf)) .any (.node (.node .leaf .any .leaf) .any (.node .leaf .any .leaf)))) .any (.node (.node (.node (.node .leaf .any .leaf) .any (.node .leaf .any .leaf)) .any (.node (.node .leaf .any .leaf) .any (.node .leaf .any .leaf))) .any (.node (.node (.node .leaf .any .leaf) .any (.node .leaf .any .leaf)) .any (.node (.node .leaf .any .leaf) .any (.node .leaf .any .leaf))))) .any (.node (.node (.node (.node (.node .leaf .any .leaf) .any (.node .leaf .any .leaf)) .any (.node (.node .leaf .any .leaf) .any (.node .leaf .any .leaf))) .any (.node (.node (.node .leaf .any .leaf) .any (.node .leaf .any .leaf)) .any (.node (.node .leaf .any .leaf) .any (.node .leaf .any .leaf)))) (.i .i64 0) (.node (.node (.node (.node .leaf .any .leaf) .any (.node .leaf .any .leaf)) .any (.node (.node .leaf .any .leaf) .any (.node .leaf .any .leaf))) .any (.node (.node (.node .leaf .any .leaf) .any (.node .leaf .any .leaf)) .any (.node (.node .leaf .any .leaf) .any (.node .leaf .any .leaf))))))), [], l9, {}⟩ (fun ex st => ∃ v, Fin [.tmp 4] v ex st ∧ ∃ b, v = .b b) := by
  have e0 : decide ((0 : Int) < ((1 : Nat) : Int)) = true := by decide
  have e2 : decide (((1 : Nat) : Int) ≤ (80 : Int)) = true := by decide
  have e3 : decide ((0 : Int) ≤ (80 : Int)) = true := by decide
  rw [UH4_1]
  cases hA : decide (a ≤ 32768) with
  | false =>
    simp only [hA, e0, e2, e3, K4_1, go_sem, ne_eq, not_false_eq_true, reduceIte, Nat.reduceMul, Nat.reduceAdd, Nat.reduceSub, Nat.reduceEqDiff, Nat.reduceLeDiff, Nat.reduceLT, List.take_succ_cons, List.take_zero, List.drop_succ_cons, List.cons_append]
    exact ⟨_, rfl, _, rfl⟩
  | true =>
    have := fun row a => w_l2 a0 a1 a2 a3 a4 a5 a6 a7 a8 a9 a10 s11 m11 a12 a13 s14 m14 s15 m15 s16 m16 a17 a18 s19 m19 s20 m20 s21 m21 a22 a23 row tk (lset l9 7 [.i .i64 a0, .i .i64 a1, .i .i64 a2, .i .i64 a3, .i .i64 a4, .i .i64 a5, .i .i64 a6, .i .i64 a7, .i .i64 a8, .i .i64 a9, .b a10, .sl s11 m11 .no, .i .i64 a12, .i .i64 a13, .sl s14 m14 .no, .sl s15 m15 .no, .sl s16 m16 .no, .i .i64 a17, .b a18, .sl s19 m19 .no, .sl s20 m20 .no, .sl s21 m21 .no, .i .i64 a22, .i .i64 a23]) (al_lset_same _ _ _) hl hb hg m11 0 a (by omega)
    have hs : sub? [.i .i64 a0, .i .i64 a1, .i .i64 a2, .i .i64 a3, .i .i64 a4, .i .i64 a5, .i .i64 a6, .i .i64 a7, .i .i64 a8, .i .i64 a9, .b a10, .sl s11 m11 .no, .i .i64 a12, .i .i64 a13, .sl s14 m14 .no, .sl s15 m15 .no, .sl s16 m16 .no, .i .i64 a17, .b a18, .sl s19 m19 .no, .sl s20 m20 .no, .sl s21 m21 .no, .i .i64 a22, .i .i64 a23, .i .i64 0, .i .i64 0, .i .i64 0] 0 24 = some [.i .i64 a0, .i .i64 a1, .i .i64 a2, .i .i64 a3, .i .i64 a4, .i .i64 a5, .i .i64 a6, .i .i64 a7, .i .i64 a8, .i .i64 a9, .b a10, .sl s11 m11 .no, .i .i64 a12, .i .i64 a13, .sl s14 m14 .no, .sl s15 m15 .no, .sl s16 m16 .no, .i .i64 a17, .b a18, .sl s19 m19 .no, .sl s20 m20 .no, .sl s21 m21 .no, .i .i64 a22, .i .i64 a23] := rfl
    simp only [hA, e0, e2, e3, rd_ip, hs, go_sem, ne_eq, not_false_eq_true, reduceIte, Nat.reduceMul, Nat.reduceAdd, Nat.reduceSub, Nat.reduceEqDiff, Nat.reduceLeDiff, Nat.reduceLT, List.take_succ_cons, List.take_zero, List.drop_succ_cons, List.cons_append]
    rw [Hp.M_loop]
    simp only [kz4, K4_2, K4_1, List.length_cons, List.length_nil, Nat.zero_add, Int.cast_ofNat_Int, go_sem, ne_eq, not_false_eq_true, reduceIte, Nat.reduceMul, Nat.reduceAdd, Nat.reduceSub, Nat.reduceEqDiff, Nat.reduceLeDiff, Nat.reduceLT, List.take_succ_cons, List.take_zero, List.drop_succ_cons, List.cons_append] at this ⊢
    exact this _ _
set_option maxRecDepth 100000 in
theorem w_short (tk : Tk) (hl : s11.length = m11 * 3) (hb : m11 ≤ 1000000000000000) (hg : ∀ j, j < m11 → ∃ zs m, s11[j * 3 + 2]? = some (.sl zs m .no)) :
    Hp.M xf noY (kz4) (.code B4) [] (St.init gl0 7 [.agg [.sl [] 0 .nil, .sl [] 0 .nil], .sl [.i .i64 a0, .i .i64 a1, .i .i64 a2, .i .i64 a3, .i .i64 a4, .i .i64 a5, .i .i64 a6, .i .i64 a7, .i .i64 a8, .i .i64 a9, .b a10, .sl s11 m11 .no, .i .i64 a12, .i .i64 a13, .sl s14 m14 .no, .sl s15 m15 .no, .sl s16 m16 .no, .i .i64 a17, .b a18, .sl s19 m19 .no, .sl s20 m20 .no, .sl s21 m21 .no, .i .i64 a22, .i .i64 a23, .i .i64 0, .i .i64 0, .i .i64 0] 1 tk] {}) (fun ex st => ∃ v, Fin [.tmp 4] v ex st ∧ ∃ b, v = .b b) := by
  have := fun a l9 => w_l1 a0 a1 a2 a3 a4 a5 a6 a7 a8 a9 a10 s11 m11 a12 a13 s14 m14 s15 m15 s16 m16 a17 a18 s19 m19 s20 m20 s21 m21 a22 a23 tk hl hb hg a l9
  rw [UH4]
  simp only [go_sem, ne_eq, not_false_eq_true, reduceIte, Nat.reduceMul, Nat.reduceAdd, Nat.reduceSub, Nat.reduceEqDiff, Nat.reduceLeDiff, Nat.reduceLT, List.take_succ_cons, List.take_zero, List.drop_succ_cons, List.cons_append]
  rw [Hp.M_loop]
  simp only [kz4, K4_1, List.length_cons, List.length_nil, Nat.zero_add, go_sem, ne_eq, not_false_eq_true, reduceIte, Nat.reduceMul, Nat.reduceAdd, Nat.reduceSub, Nat.reduceEqDiff, Nat.reduceLeDiff, Nat.reduceLT, List.take_succ_cons, List.take_zero, List.drop_succ_cons, List.cons_append] at this ⊢
  exact this _ _
end

theorem stripL_map (xs : List V) : stripL xs = xs.map V.strip := by
  induction xs with
  | nil => rfl
  | cons x r ih => simp only [stripL, List.map_cons, ih]
theorem rows_strip {xs : List V} {n : Nat} (hl : xs.length = n * 3) (hg : ∀ j, j < n → ∃ zs m, xs[j * 3 + 2]? = some (.sl zs m .no)) : (stripL xs).length = n * 3 ∧ ∀ j, j < n → ∃ zs m, (stripL xs)[j * 3 + 2]? = some (.sl zs m .no) := by
  refine ⟨by rw [stripL_map, List.length_map, hl], fun j hj => ?_⟩
  obtain ⟨zs, m, h⟩ := hg j hj
  refine ⟨stripL zs, m, ?_⟩
  rw [stripL_map, List.getElem?_map, h]
  rfl
noncomputable def F_short (a : List V) : Option V := open Classical in if e : ∃ v : V, Comp tabx told 4 a v ∧ ∃ b, v = .b b then some e.choose else none
theorem F_short_tells : ∀ a v, F_short a = some v → Comp tabx told 4 a v := fun a v e => by
  unfold F_short at e
  split at e
  · rename_i hp
    have hs := hp.choose_spec
    simp only [Option.some.injEq] at e
    rw [e] at hs
    exact hs.1
  · cases e
theorem F_short_spec {a : List V} (hp : ∃ v : V, Comp tabx told 4 a v ∧ ∃ b, v = .b b) : ∃ b, F_short a = some (.b b) := by
  obtain ⟨b, hb⟩ := hp.choose_spec.2
  exact ⟨b, by rw [← hb]; exact dif_pos hp⟩
/-- A pure call, by the evaluator. -/
def xP (g : FuncId) (a : List V) : Option V := runF gl0 tabx xf 1000 g a
theorem xP_ok {g : FuncId} {a : List V} {v : V} (h : xP g a = some v) : Comp tabx told g a v := comp_runF told_xf 1000 fun gl hok => by
  have : gl = gl0 := hok
  subst this
  exact h
noncomputable def xN (g : FuncId) (a : List V) : Option V := bif Nat.beq g 5 then (match a with | [] => some (.b true) | _ => none) else bif Nat.beq g 4 then F_short a else xP g a
theorem xN_ok : Tells tabx told xN := by
  intro g a v h
  unfold xN at h
  cases hb : Nat.beq g 5 with
  | true =>
    rw [hb] at h
    rw [Nat.eq_of_beq_eq_true hb]
    cases a with
    | nil => simp only [cond_true, Option.some.injEq] at h; subst h; exact memo_all
    | cons => cases h
  | false =>
    rw [hb] at h
    cases hc : Nat.beq g 4 with
    | true =>
      rw [hc] at h
      rw [Nat.eq_of_beq_eq_true hc]
      exact F_short_tells _ _ h
    | false => rw [hc] at h; exact xP_ok h
/-- A call with the caller's memory, by the evaluator. -/
def xI (g : FuncId) (a : List V) (h : H) : Option (V × H) := runI gl0 tabx (fun _ _ => none) 1000 g a h
theorem xI_ok : TellsI tabx told xI := fun g a h v h' hr gl hok => by
  have : gl = gl0 := hok
  subst this
  exact runI_ev (fun _ _ h => h) (fun _ _ _ h => by cases h) hok hr
def K3_1 : List Fr := [.blk 0,
 .seq (.seq (.reg [⟨some 42, .build [(.sl [] 0 .nil), (.sl [] 0 .nil)] [], none⟩, ⟨some 43, .call false 11 [(.k (.i .i64 0)), (.k .nilp), (.t 42), (.k (.i .i64 1))], none⟩, ⟨some 41, .mov (.t 43), none⟩, ⟨some 44, .ext (.t 41) 0, none⟩, ⟨some 45, .ext (.t 41) 1, none⟩, ⟨some 5, .mov (.t 44), none⟩, ⟨some 6, .mov (.t 45), none⟩])
 (.seq (.reg [⟨some 46, .mov (.t 5), none⟩, ⟨some 47, .eq false .ptr (.t 46) (.k .nilp), none⟩, ⟨some 48, .mov (.t 47), none⟩, ⟨some 49, .mov (.t 6), some (48, true)⟩,
 ⟨some 50, .bin .eql (.t 49) (.k (.i .i64 6)), some (48, true)⟩,
 ⟨some 51, .pick (.t 48) (.t 50) (.k (.b false)), none⟩, ⟨some 52, .mov (.t 51), none⟩, ⟨some 53, .call true 5 [], some (52, true)⟩,
 ⟨some 54, .pick (.t 52) (.t 53) (.k (.b false)), none⟩, ⟨some 2, .mov (.t 54), none⟩])
 .ret))]
theorem UH3_1 : type_of% (@Hp_open _ _ L3_1.eq_1) := @Hp_open _ _ L3_1.eq_1
theorem UH3 : type_of% (@Hp_open _ _ B3.eq_1) := @Hp_open _ _ B3.eq_1
def kz3 (_ : Nat) : List Nat := [0, 2, 3, 4, 5, 6, 7, 8, 9, 10, 11, 12, 13, 14, 15, 19, 20, 21, 22, 23, 24, 25, 26, 27, 28, 29, 30, 31, 32, 33, 34, 35, 36, 37, 38, 39, 40, 41, 42, 43, 44, 45, 46, 47, 48, 49, 50, 51, 52, 53, 54]
section
variable (a0 : Int) (a1 : Int) (a2 : Int) (a3 : Int) (a4 : Int) (a5 : Int) (a6 : Int) (a7 : Int) (a8 : Int) (a9 : Int) (a10 : Bool) (s11 : List V) (m11 : Nat) (a12 : Int) (a13 : Int) (s14 : List V) (m14 : Nat) (s15 : List V) (m15 : Nat) (s16 : List V) (m16 : Nat) (a17 : Int) (a18 : Bool) (s19 : List V) (m19 : Nat) (s20 : List V) (m20 : Nat) (s21 : List V) (m21 : Nat) (a22 : Int) (a23 : Int)
theorem short_ex (hl : s11.length = m11 * 3) (hb : m11 ≤ 1000000000000000) (hg : ∀ j, j < m11 → ∃ zs m, s11[j * 3 + 2]? = some (.sl zs m .no)) : ∃ b, F_short [.agg [.sl [] 0 .nil, .sl [] 0 .nil], .sl [.i .i64 a0, .i .i64 a1, .i .i64 a2, .i .i64 a3, .i .i64 a4, .i .i64 a5, .i .i64 a6, .i .i64 a7, .i .i64 a8, .i .i64 a9, .b a10, .sl s11 m11 .no, .i .i64 a12, .i .i64 a13, .sl s14 m14 .no, .sl s15 m15 .no, .sl s16 m16 .no, .i .i64 a17, .b a18, .sl s19 m19 .no, .sl s20 m20 .no, .sl s21 m21 .no, .i .i64 a22, .i .i64 a23, .i .i64 0, .i .i64 0, .i .i64 0] 1 .full] = some (.b b) := by
  refine F_short_spec (comp_ex (xf := xf) (xh := noY) (kz := kz4) (fn := af4) told_tells tells_noY rfl (Nat.le_of_ble_eq_true rfl) ?_)
  exact w_short a0 a1 a2 a3 a4 a5 a6 a7 a8 a9 a10 (stripL s11) m11 a12 a13 (stripL s14) m14 (stripL s15) m15 (stripL s16) m16 a17 a18 (stripL s19) m19 (stripL s20) m20 (stripL s21) m21 a22 a23 .full (rows_strip hl hg).1 hb (rows_strip hl hg).2
set_option maxRecDepth 100000 in
theorem w_body (hl : s11.length = m11 * 3) (hb : m11 ≤ 1000000000000000) (hg : ∀ j, j < m11 → ∃ zs m, s11[j * 3 + 2]? = some (.sl zs m .no)) (gl : Nat → List V) :
    M xN xI (fun _ => []) (.code B3) [] (St.init gl 6 [.agg [.i .i64 a0, .i .i64 a1, .i .i64 a2, .i .i64 a3, .i .i64 a4, .i .i64 a5, .i .i64 a6, .i .i64 a7, .i .i64 a8, .i .i64 a9, .b a10, .sl s11 m11 .no, .i .i64 a12, .i .i64 a13, .sl s14 m14 .no, .sl s15 m15 .no, .sl s16 m16 .no, .i .i64 a17, .b a18, .sl s19 m19 .no, .sl s20 m20 .no, .sl s21 m21 .no, .i .i64 a22, .i .i64 a23]] {}) (Fin [.tmp 2] (.b true)) := by
  obtain ⟨b, hs⟩ := short_ex a0 a1 a2 a3 a4 a5 a6 a7 a8 a9 a10 s11 m11 a12 a13 s14 m14 s15 m15 s16 m16 a17 a18 s19 m19 s20 m20 s21 m21 a22 a23 hl hb hg
  have hx : xN 4 [.agg [.sl [] 0 .nil, .sl [] 0 .nil], .sl [.i .i64 a0, .i .i64 a1, .i .i64 a2, .i .i64 a3, .i .i64 a4, .i .i64 a5, .i .i64 a6, .i .i64 a7, .i .i64 a8, .i .i64 a9, .b a10, .sl s11 m11 .no, .i .i64 a12, .i .i64 a13, .sl s14 m14 .no, .sl s15 m15 .no, .sl s16 m16 .no, .i .i64 a17, .b a18, .sl s19 m19 .no, .sl s20 m20 .no, .sl s21 m21 .no, .i .i64 a22, .i .i64 a23, .i .i64 0, .i .i64 0, .i .i64 0] 1 .full] = some (.b b) := hs
  rw [UH3]
  simp only [hx, Hp.k_bslice, evB, zeros, Nat.zero_mul, List.append_nil, go_sem, ne_eq, not_false_eq_true, reduceIte, Nat.reduceMul, Nat.reduceAdd, Nat.reduceSub, Nat.reduceEqDiff, Nat.reduceLeDiff, Nat.reduceLT, List.take_succ_cons, List.take_zero, List.drop_succ_cons, List.cons_append]
  cases b with
  | true => exact M_fin 1000 (by kernel_rfl)
  | false => exact M_fin 1000 (by kernel_rfl)
end
theorem w_NodeNobody (x0 : V) (y0 : ArgV Tryz.prog 32 x0) : Comp tabx told 3 [x0] (.b true) := by
  rcases y0 with ⟨fs, xs, _, rfl, hs⟩ | ⟨hu, _⟩
  · obtain ⟨_, _, rfl, ⟨a0, rfl⟩, _, _, rfl, ⟨a1, rfl⟩, _, _, rfl, ⟨a2, rfl⟩, _, _, rfl, ⟨a3, rfl⟩, _, _, rfl, ⟨a4, rfl⟩, _, _, rfl, ⟨a5, rfl⟩, _, _, rfl, ⟨a6, rfl⟩, _, _, rfl, ⟨a7, rfl⟩, _, _, rfl, ⟨a8, rfl⟩, _, _, rfl, ⟨a9, rfl⟩, _, _, rfl, ⟨a10, rfl⟩, _, _, rfl, ⟨s11, m11, rfl, h11, b11⟩, _, _, rfl, ⟨a12, rfl⟩, _, _, rfl, ⟨a13, rfl⟩, _, _, rfl, ⟨s14, m14, rfl, h14, b14⟩, _, _, rfl, ⟨s15, m15, rfl, h15, b15⟩, _, _, rfl, ⟨s16, m16, rfl, h16, b16⟩, _, _, rfl, ⟨a17, rfl⟩, _, _, rfl, ⟨a18, rfl⟩, _, _, rfl, ⟨s19, m19, rfl, h19, b19⟩, _, _, rfl, ⟨s20, m20, rfl, h20, b20⟩, _, _, rfl, ⟨s21, m21, rfl, h21, b21⟩, _, _, rfl, ⟨a22, rfl⟩, _, _, rfl, ⟨a23, rfl⟩, hnil⟩ := skel_ok 9 32 xs _ skIn hs
    have hnil : _ = _ := hnil
    subst hnil
    obtain ⟨hl, hg⟩ := rows3 skE _ _ h11
    have hb : m11 ≤ 1000000000000000 := by
      rw [show Tryz.prog.bytesOf 68 = 40 from by kernel_rfl] at b11
      unfold reachBytes at b11
      omega
    exact Hp.comp_of (xf := xN) (xh := xI) (kz := fun _ => []) xN_ok xI_ok (fn := af3) rfl (Nat.le_of_ble_eq_true rfl) fun gl => w_body a0 a1 a2 a3 a4 a5 a6 a7 a8 a9 a10 (stripL s11) m11 a12 a13 (stripL s14) m14 (stripL s15) m15 (stripL s16) m16 a17 a18 (stripL s19) m19 (stripL s20) m20 (stripL s21) m21 a22 a23 hl hb hg gl
  · exact absurd (show Tryz.prog.underlying 32 = some (.struct _) from Tryz.underlying32) (hu _)
end Go.Proofs.YtopbdgdfnmlldaaGreatDoor
