/- lang: the text of a filter, as a function; rows that are objects. -/
import Derived.Test.YtbhclhgljnoioaaDoorPg1
import Derived.Test.YtbhclhgljnoioaaDoorLg7
import Derived.Lib.Join
set_option linter.unusedSimpArgs false
set_option linter.unusedVariables false
namespace Go.Proofs.YtbhclhgljnoioaaDoor
open Ai Go.Shelf
/-! ### Join over rows of the shared memory -/
def H_Join (a : List V) (h : H) : Option (V × H) := match joinV (a.map (thaw h)) with
  | some (.s l) => some (.s l, h)
  | _ => none
theorem i_Join : ∀ a h v h', H_Join a h = some (v, h') → Hp.CompI tabx told 66 a h v h' := fun a h v h' e => by
  unfold H_Join at e
  split at e
  · rename_i l hl
    cases e
    refine Hp.compI_primH ?_
    show xf 66 _ = _
    rw [show xf 66 (a.map (thaw h)) = joinV (a.map (thaw h)) from rfl]
    exact hl
  · cases e
theorem strsOf_map (l : List (List UInt8)) : strsOf (l.map V.s) = some l := by
  induction l with
  | nil => rfl
  | cons x r ih => simp only [List.map_cons, strsOf, ih, Option.map_some]
theorem nble {a b : Nat} (h : a ≤ b) : Nat.ble a b = true := Nat.ble_eq_true_of_le h
theorem nbeq (a : Nat) : Nat.beq a a = true := Nat.beq_refl a
theorem nbne {a b : Nat} (h : a ≠ b) : Nat.beq a b = false := by
  cases hb : Nat.beq a b with
  | true => exact absurd (Nat.eq_of_beq_eq_true hb) h
  | false => rfl
theorem H_JoinS {l : List (List UInt8)} {n : Nat} {tk : Tk} (sep : List UInt8) (h : H) (hn : l.length = n) (h1 : n ≤ 1000) (h2 : (Lib.join l sep).length ≤ 140737488355328) : H_Join [.sl (l.map V.s) n tk, .s sep] h = some (.s (Lib.join l sep), h) := by
  unfold H_Join
  simp only [List.map_cons, List.map_nil, thaw, joinV, strsOf_map, List.length_map, hn, nbeq, nble (show n ≤ 140737488355328 by omega), nble h2, Bool.and_self, cond_true]
theorem H_JoinH {h : H} {id n : Nat} {ty : TypeId} {l : List (List UInt8)} (sep : List UInt8) (ho : al h.objs id = some (.cells ty (l.map V.s))) (hn : l.length = n) (h1 : n ≤ 1000) (h2 : (Lib.join l sep).length ≤ 140737488355328) :
    H_Join [.hs id 0 n 1, .s sep] h = some (.s (Lib.join l sep), h) := by
  have e : ([.hs id 0 n 1, .s sep] : List V).map (thaw h) = [.sl (l.map V.s) n .no, .s sep] := by
    have hs : sub? (l.map V.s) 0 (n * 1) = some (l.map V.s) := by
      rw [Nat.mul_one]
      unfold sub?
      have : (List.take n (List.drop 0 (List.map V.s l))) = l.map V.s := by rw [List.drop_zero, List.take_of_length_le (by simp; omega)]
      simp only [this, List.length_map, hn, nbeq, cond_true]
    simp only [List.map_cons, List.map_nil, thaw, ho, hs]
  have := H_JoinS (tk := .no) sep h hn h1 h2
  unfold H_Join at this ⊢
  rw [e]
  simpa only [List.map_cons, List.map_nil, thaw] using this
/-- A row of texts that is appended to: an object, once it is not empty. -/
def LB (h : H) (v : V) (l : List (List UInt8)) : Prop := (l = [] ∧ v = .sl [] 0 .nil) ∨ (l ≠ [] ∧ ∃ id, v = .hs id 0 l.length 1 ∧ id < h.next ∧ al h.objs id = some (.cells 9 (l.map V.s)))
theorem LB.step {nx : Nat} {obs : List (Nat × Ai.Obj)} {nt : Nat} {tips : List (Nat × (Nat × TypeId))} {v : V} {l : List (List UInt8)} (hb : LB ⟨nx, obs, nt, tips⟩ v l) (x : List UInt8) (hm : l.length + 1 ≤ most) :
    ∃ v' h', (∀ gl T its loc, St.appo ⟨gl, T, its, loc, ⟨nx + 1, (nx, .cells 9 [.s x]) :: obs, nt, tips⟩⟩ 9 1 v (.hs nx 0 1 1) = some (v', ⟨gl, T, its, loc, h'⟩)) ∧ LB h' v' (l ++ [x]) := by
  have hrow : ∀ gl T its loc, St.row ⟨gl, T, its, loc, ⟨nx + 1, (nx, .cells 9 [.s x]) :: obs, nt, tips⟩⟩ 1 (.hs nx 0 1 1) = some ([.s x], 1) := by
    intro gl T its loc
    simp only [St.row, nbeq, cond_true, al, sub?, List.drop_zero, Nat.mul_one, List.take_succ_cons, List.take_nil, List.length_cons, List.length_nil, Nat.zero_add, Option.map_some]
  have ha : allOne [V.s x] = true := rfl
  rcases hb with ⟨rfl, rfl⟩ | ⟨hne, id, rfl, hid, ho⟩
  · refine ⟨.hs (nx + 1) 0 1 1, ⟨nx + 2, (nx + 1, .cells 9 [.s x]) :: (nx, .cells 9 [.s x]) :: obs, nt, tips⟩, fun gl T its loc => ?_, .inr ⟨by simp, nx + 1, rfl, ?_, ?_⟩⟩
    · unfold St.appo
      rw [hrow]
      rfl
    · exact Nat.lt_succ_self _
    · simp only [al, nbeq, cond_true]; rfl
  · simp only at hid ho
    have hl0 : 0 < l.length := List.length_pos_iff.2 hne
    refine ⟨.hs (nx + 1) 0 (l.length + 1) 1, ⟨nx + 2, (nx + 1, .cells 9 (l.map V.s ++ [.s x])) :: (((nx, .cells 9 [.s x]) :: obs).filter fun p => !Nat.beq p.1 id), nt, tips⟩, fun gl T its loc => ?_, .inr ⟨by simp, nx + 1, ?_, ?_, ?_⟩⟩
    · unfold St.appo
      rw [hrow]
      have ho' : al ((nx, Ai.Obj.cells 9 [.s x]) :: obs) id = some (.cells 9 (l.map V.s)) := by simp only [al, nbne (show nx ≠ id by omega), cond_false]; exact ho
      simp only [ho', ha, Bool.not_true, cond_false, nbne (show (1 : Nat) ≠ 0 by decide), nbeq, List.length_map, Nat.mul_one, Bool.and_true, Bool.true_and, Nat.blt, nble (show 0 + 1 ≤ l.length by omega), nble hm, cond_true, H.drop, H.new]
    · rw [List.length_append]; rfl
    · exact Nat.lt_succ_self _
    · simp only [al, nbeq, cond_true, List.map_append, List.map_cons, List.map_nil]
/-! ### The text of a filter -/
def bindF : Fil → Nat
  | .mk k _ _ kids => if k = 6 ∧ 1 < kids.length then 1 else if k = 5 ∧ 1 < kids.length then 2 else 3
mutual
def tellF : Fil → List UInt8
  | .mk k nm tx kids =>
    if k = 0 then [97, 108, 108] else if k = 1 then [107, 101, 121, 32, 94, 32] ++ quoteV tx else if k = 2 then nm ++ [32, 61, 32] ++ quoteV tx else if k = 3 then [112, 117, 116] else
    if k = 4 then [110, 111, 116, 32] ++ (tellW kids 3).headD [] else
    if 1 < kids.length then Lib.join (tellW kids (if k = 5 then 3 else 2)) (if k = 5 then [32, 97, 110, 100, 32] else [32, 111, 114, 32]) else
    (if k = 5 then [101, 97, 99, 104, 40] else [97, 110, 121, 40]) ++ Lib.join (tellL kids) [44, 32] ++ [41]
def tellW : List Fil → Nat → List (List UInt8)
  | [], _ => []
  | f :: r, b => (if bindF f < b then [40] ++ tellF f ++ [41] else tellF f) :: tellW r b
def tellL : List Fil → List (List UInt8)
  | [] => []
  | f :: r => tellF f :: tellL r
end
def withinF (f : Fil) (b : Nat) : List UInt8 := if bindF f < b then [40] ++ tellF f ++ [41] else tellF f
theorem tellW_len (b : Nat) : ∀ l : List Fil, (tellW l b).length = l.length
  | [] => by rw [tellW]; rfl
  | f :: r => by rw [tellW, List.length_cons, tellW_len b r, List.length_cons]
theorem tellW_app (b : Nat) (l m : List Fil) : tellW (l ++ m) b = tellW l b ++ tellW m b := by
  induction l with
  | nil => rw [tellW]; rfl
  | cons f r ih => rw [List.cons_append, tellW, tellW, ih]; rfl
theorem tellW_one (f : Fil) (b : Nat) : tellW [f] b = [withinF f b] := by rw [tellW, tellW]; rfl
/-! It is not too long. -/
mutual
def cnt : Fil → Nat
  | .mk _ _ _ kids => 1 + cnts kids
def cnts : List Fil → Nat
  | [] => 0
  | f :: r => cnt f + cnts r
end
mutual
theorem bld_cnt : ∀ (f : Fil) (d w : Nat), w ≤ 24 → (bld f d w).1 = 0 → w + cnt f ≤ (bld f d w).2
  | .mk k nm tx kids, d, w, hw, h => by
    rw [bld] at h ⊢
    split at h
    · cases h
    · rename_i h1
      rw [if_neg h1]
      split at h
      · cases h
      · rename_i h2
        rw [if_neg h2]
        have := blds_cnt' kids (d + 1) (w + 1) (by omega) h
        rw [cnt]; omega
theorem blds_cnt' : ∀ (l : List Fil) (d w : Nat), w ≤ 24 → (blds l d w).1 = 0 → w + cnts l ≤ (blds l d w).2
  | [], d, w, _, _ => by rw [blds, cnts]; exact Nat.le_refl _
  | f :: r, d, w, hw, h => by
    rw [blds] at h ⊢
    split at h
    · rename_i h0
      rw [if_pos h0]
      have h1 := bld_cnt f d w hw h0
      have h2 := blds_cnt' r d _ ((bld_le f d w hw).2 h0) h
      rw [cnts]; omega
    · rename_i h0; exact absurd h h0
end
/-- The texts' bytes, and so many more for each. -/
def lsum (l : List (List UInt8)) (a : Nat) : Nat := match l with
  | [] => 0
  | x :: r => x.length + a + lsum r a
theorem join_le (l : List (List UInt8)) (sep : List UInt8) (a : Nat) (h : sep.length ≤ a) : (Lib.join l sep).length ≤ lsum l a := by
  cases l with
  | nil => exact Nat.zero_le _
  | cons x r =>
    have key : ∀ (r : List (List UInt8)) (x : List UInt8), (Lib.join (x :: r) sep).length ≤ lsum (x :: r) a := by
      intro r
      induction r with
      | nil => intro x; rw [Lib.join_one]; simp only [lsum]; omega
      | cons y r ih =>
        intro x
        have := ih y
        have e : Lib.join (x :: y :: r) sep = x ++ (sep ++ Lib.join (y :: r) sep) := by simp [Lib.join, List.intercalate]
        rw [e, List.length_append, List.length_append, lsum]
        omega
    exact key r x
mutual
theorem tellF_len : ∀ f : Fil, okL f → (tellF f).length + 100 ≤ 50000 * cnt f
  | .mk k nm tx kids, h => by
    rw [okL] at h
    obtain ⟨h1, h2, h3⟩ := h
    have hq := quoteV_len tx
    have hW := fun b => tellW_sum kids b h3
    have hL := tellL_sum kids h3
    rw [tellF, cnt]
    split
    · simp only [List.length_cons, List.length_nil]; omega
    · split
      · simp only [List.length_append, List.length_cons, List.length_nil]; omega
      · split
        · simp only [List.length_append, List.length_cons, List.length_nil]; omega
        · split
          · simp only [List.length_cons, List.length_nil]; omega
          · split
            · have := hW 3
              cases hk : tellW kids 3 with
              | nil => simp only [List.headD_nil, List.length_append, List.length_cons, List.length_nil]; omega
              | cons x r =>
                rw [hk, lsum] at this
                simp only [List.headD_cons, List.length_append, List.length_cons, List.length_nil]; omega
            · split
              · have hb := hW (if k = 5 then 3 else 2)
                have := join_le (tellW kids (if k = 5 then 3 else 2)) (if k = 5 then [32, 97, 110, 100, 32] else [32, 111, 114, 32]) 5 (by split <;> simp)
                omega
              · have := join_le (tellL kids) [44, 32] 5 (by simp)
                have hc : (if k = 5 then [101, 97, 99, 104, 40] else [97, 110, 121, 40] : List UInt8).length ≤ 5 := by split <;> simp
                simp only [List.length_append, List.length_cons, List.length_nil]; omega
theorem tellW_sum : ∀ (l : List Fil) (b : Nat), okLs l → lsum (tellW l b) 5 ≤ 50000 * cnts l
  | [], b, _ => by rw [tellW]; exact Nat.zero_le _
  | f :: r, b, h => by
    rw [okLs] at h
    have h1 := tellF_len f h.1
    have h2 := tellW_sum r b h.2
    rw [tellW, lsum, cnts]
    split
    · simp only [List.length_append, List.length_cons, List.length_nil]; omega
    · omega
theorem tellL_sum : ∀ (l : List Fil), okLs l → lsum (tellL l) 5 ≤ 50000 * cnts l
  | [], _ => by rw [tellL]; exact Nat.zero_le _
  | f :: r, h => by
    rw [okLs] at h
    have h1 := tellF_len f h.1
    have h2 := tellL_sum r h.2
    rw [tellL, lsum, cnts]
    omega
end
/-- What holds of a filter that is told. -/
structure Fine (f : Fil) (d : Nat) : Prop where
  ok : okL f
  b : ∃ w, w ≤ 24 ∧ (bld f d w).1 = 0
theorem Fine.len {f : Fil} {d : Nat} (h : Fine f d) : (tellF f).length ≤ 1300000 := by
  obtain ⟨w, h1, h2⟩ := h.b
  have h3 := bld_cnt f d w h1 h2
  have h4 := (bld_le f d w h1).2 h2
  have := tellF_len f h.ok
  omega
theorem Fine.kid {k : Int} {nm tx : List UInt8} {kids : List Fil} {d : Nat} (h : Fine (.mk k nm tx kids) d) : ∀ (pre : List Fil) (f : Fil) (post : List Fil), kids = pre ++ f :: post → Fine f (d + 1) := by
  intro pre f post e
  obtain ⟨w, h1, h2⟩ := h.b
  have ho := h.ok
  rw [okL] at ho
  rw [bld] at h2
  split at h2
  · cases h2
  · split at h2
    · cases h2
    · exact ⟨okLs_split _ ho.2.2 pre f post e, blds_mem kids _ _ (by omega) h2 pre f post e⟩
theorem Fine.may {k : Int} {nm tx : List UInt8} {kids : List Fil} {d : Nat} (h : Fine (.mk k nm tx kids) d) : mayB k nm tx kids.length = true ∧ d ≤ 6 ∧ kids.length ≤ 24 ∧ nm.length ≤ 4096 ∧ tx.length ≤ 4096 ∧ 50000 * cnts kids ≤ 1200000 ∧ okLs kids := by
  obtain ⟨w, h1, h2⟩ := h.b
  have ho := h.ok
  rw [okL] at ho
  rw [bld] at h2
  split at h2
  · cases h2
  · split at h2
    · cases h2
    · rename_i h3 h4
      have h5 := blds_cnt kids (d + 1) (w + 1) (by omega) h2
      have h6 := (blds_le kids (d + 1) (w + 1) (by omega)).2 h2
      have h7 := blds_cnt' kids (d + 1) (w + 1) (by omega) h2
      exact ⟨by simpa using h4, by omega, by omega, ho.1, ho.2.1, by omega, ho.2.2⟩
theorem may_kind {k : Int} {nm tx : List UInt8} {n : Nat} (h : mayB k nm tx n = true) : 0 ≤ k ∧ k ≤ 6 ∧ (k = 4 → n = 1) := by
  unfold mayB at h
  split at h
  · omega
  · split at h
    · omega
    · split at h
      · omega
      · split at h
        · simp only [Bool.and_eq_true, decide_eq_true_eq] at h
          exact ⟨by omega, by omega, fun _ => h.2.2⟩
        · split at h
          · omega
          · cases h
end Go.Proofs.YtbhclhgljnoioaaDoor
