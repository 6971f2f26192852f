/- lang.Parse, walked. -/
import Derived.Test.YtbhclhgljnoioaaDoorPf2
set_option linter.unusedSimpArgs false
set_option linter.unusedVariables false
namespace Go.Proofs.YtbhclhgljnoioaaDoor
open Ai
/-- What parse says of tokens. -/
def parR (ts : List Tok) (e : Nat) : PR := (P ts e (20 * ts.length + 9) (.parse 1 1) 0).getD (fil0, 0, 0)
theorem parR_eq (ts : List Tok) (e : Nat) : P ts e (20 * ts.length + 9) (.parse 1 1) 0 = some (parR ts e) ∧ (parR ts e).2.2 ≤ ts.length := by
  obtain ⟨r, h1, _, h2⟩ := P_total ts e (20 * ts.length + 9) (.parse 1 1) 0 (Nat.zero_le _) (by simp only; omega) (by simp only [PQ.rank]; omega)
  unfold parR
  rw [h1]
  exact ⟨rfl, h2⟩
/-- What Filter says: the filter, where an error stands, the error. -/
def filV (ts : List Tok) (e : Nat) : Fil × Nat × Nat :=
  if (parR ts e).2.1 ≠ 0 then (fil0, (tokAt ts e (parR ts e).2.2).at_, (parR ts e).2.1) else
  if chk (parR ts e).1 ≠ 0 then (fil0, (tokAt ts e 0).at_, chk (parR ts e).1) else ((parR ts e).1, 0, 0)
def parseV (s : List UInt8) : Fil × Nat × Nat :=
  match lx s 0 with
  | .bad a e => (fil0, a, e)
  | .ok ts => if (filV ts s.length).2.2 = 0 ∧ (tokAt ts s.length (parR ts s.length).2.2).kind ≠ 0 then (fil0, (tokAt ts s.length (parR ts s.length).2.2).at_, 3) else filV ts s.length
theorem lx_kind : ∀ (n : Nat) (l : List UInt8) (k : Nat) (m : List Tok), l.length ≤ n → lx l k = .ok m → ∀ t ∈ m, 1 ≤ t.kind ∧ t.at_ < k + l.length := by
  intro n
  induction n with
  | zero =>
    intro l k m hn h
    obtain rfl : l = [] := List.length_eq_zero_iff.1 (by omega)
    rw [lx_nil] at h; cases h; intro t ht; cases ht
  | succ n ih =>
    intro l k m hn h
    cases l with
    | nil => rw [lx_nil] at h; cases h; intro t ht; cases ht
    | cons a r =>
      simp only [List.length_cons] at hn ⊢
      rw [lx_cons] at h
      have wl := wh_le letB r
      have wd := wh_le digB r
      have one : ∀ (kd : Nat) (tx : List UInt8) (m' : List Tok) (j j2 : Nat), 1 ≤ kd → lx (r.drop j) (k + j2) = .ok m' → j2 = j + 1 → j ≤ r.length → ∀ t ∈ (⟨kd, tx, k⟩ : Tok) :: m', 1 ≤ t.kind ∧ t.at_ < k + (r.length + 1) := by
        intro kd tx m' j j2 hk hm hj hjr t ht
        rcases List.mem_cons.1 ht with rfl | ht
        · exact ⟨hk, by simp only; omega⟩
        · have := ih _ _ _ (by rw [List.length_drop]; omega) hm t ht
          rw [List.length_drop] at this
          exact ⟨this.1, by omega⟩
      split at h
      · intro t ht; have := ih r _ _ (by omega) h t ht; exact ⟨this.1, by omega⟩
      · split at h
        · cases hq : qscan r [] 1 with
          | none => rw [hq] at h; cases h
          | some p =>
            obtain ⟨x, j⟩ := p
            rw [hq] at h
            obtain ⟨m1, m2⟩ := qscan_k r.length r [] 1 (Nat.le_refl _) x j hq
            obtain ⟨m', e1, rfl⟩ := Lx.cons_ok h
            exact one 2 x m' (j - 1) j (by omega) e1 (by omega) (by omega)
        · split at h
          · obtain ⟨m', e1, rfl⟩ := Lx.cons_ok h
            rw [Nat.add_assoc] at e1
            exact one 1 _ m' _ _ (by omega) e1 (by omega) wl
          · split at h
            · obtain ⟨m', e1, rfl⟩ := Lx.cons_ok h
              rw [Nat.add_assoc] at e1
              exact one 3 _ m' _ _ (by omega) e1 (by omega) wd
            · split at h
              · obtain ⟨m', e1, rfl⟩ := Lx.cons_ok h
                rw [Nat.add_assoc] at e1
                exact one 3 _ m' _ _ (by omega) e1 (by omega) wd
              · split at h
                · obtain ⟨m', e1, rfl⟩ := Lx.cons_ok h
                  exact one 4 _ m' 0 1 (by omega) e1 (by omega) (by omega)
                · cases h
/-! ### Filter -/
def X_fil := xs [(21, F_Tokens)]
noncomputable def X_filc := xs [(18, F_check)]
theorem x_filc : Tells tabx told X_filc := tells_cons o_check tells_nil
def R_fil (ts : List Tok) (e id : Nat) (a : List V) (h : H) (v : V) (h' : H) : Prop := a = [.p id 0] → SO h id ts e 0 → ∃ c, v = .tup [.agg c, .i .i64 ((filV ts e).2.1 : Nat), .i .i64 ((filV ts e).2.2 : Nat)] ∧ FilR (filV ts e).1 c ∧ SO h' id ts e (parR ts e).2.2
theorem UH22 {xf : FuncId → List V → Option V} {xh : FuncId → List V → H → Option (V × H)} {kz : Nat → List Nat} {k : List Fr} {st : St} {Q : AEx → St → Prop} : Hp.M xf xh kz (.code B22) k st Q = Hp.M xf xh kz (.code (.seq (.reg [⟨some 2, .lalloc [(.i .i64 0), (.s []), (.s []), (.sl [] 0 .nil)] [2], none⟩,
     ⟨some 3, .mov (.k (.i .i64 0)), none⟩,
     ⟨some 4, .mov (.k (.i .i64 0)), none⟩])
  (.seq (.seq (.reg [⟨some 8, .mov (.t 0), none⟩,
      ⟨some 9, .eq false .ptr (.t 8) (.k .nilp), none⟩,
      ⟨some 10, .mov (.t 9), none⟩,
      ⟨some 11, .mov (.t 0), some (10, false)⟩,
      ⟨some 12, .nilck (.t 11), some (10, false)⟩,
      ⟨some 13, .faddr 3 (.t 12), some (10, false)⟩,
      ⟨some 14, .load false 1 (.t 13), some (10, false)⟩,
      ⟨some 15, .un .not (.t 14), some (10, false)⟩,
      ⟨some 16, .pick (.t 10) (.k (.b true)) (.t 15), none⟩])
   (.cond (.t 16)
    (.seq (.reg [⟨some 17, .build [(.i .i64 0), (.s []), (.s []), (.sl [] 0 .nil)] [], none⟩,
       ⟨none, .store 4 (.t 2) (.t 17), none⟩,
       ⟨some 3, .mov (.k (.i .i64 0)), none⟩,
       ⟨some 4, .mov (.k (.i .i64 6)), none⟩])
    .ret)
    .skip))
  (.seq (.reg [⟨some 18, .mov (.t 0), none⟩,
     ⟨some 19, .call false 23 [(.t 18)], none⟩,
     ⟨some 20, .fld false 2 1 (.t 19), none⟩,
     ⟨some 5, .mov (.t 20), none⟩])
  (.seq (.reg [⟨some 22, .mov (.t 0), none⟩,
     ⟨some 23, .call false 49 [(.t 22), (.k (.i .i64 1)), (.k (.i .i64 1))], none⟩,
     ⟨some 21, .mov (.t 23), none⟩,
     ⟨some 24, .ext (.t 21) 0, none⟩,
     ⟨some 25, .ext (.t 21) 1, none⟩,
     ⟨some 6, .lalloc [(.i .i64 0), (.s []), (.s []), (.sl [] 0 .nil)] [6], none⟩,
     ⟨none, .store 4 (.t 6) (.t 24), none⟩,
     ⟨some 7, .mov (.t 25), none⟩])
  (.seq (.seq (.reg [⟨some 26, .mov (.t 7), none⟩,
      ⟨some 27, .bin .neq (.t 26) (.k (.i .i64 0)), none⟩])
   (.cond (.t 27)
    (.seq (.reg [⟨some 28, .build [(.i .i64 0), (.s []), (.s []), (.sl [] 0 .nil)] [], none⟩,
       ⟨some 29, .mov (.t 0), none⟩,
       ⟨some 30, .call false 23 [(.t 29)], none⟩,
       ⟨some 31, .fld false 2 1 (.t 30), none⟩,
       ⟨some 32, .mov (.t 7), none⟩,
       ⟨none, .store 4 (.t 2) (.t 28), none⟩,
       ⟨some 3, .mov (.t 31), none⟩,
       ⟨some 4, .mov (.t 32), none⟩])
    .ret)
    .skip))
  (.seq (.seq (.reg [⟨some 33, .load true 4 (.t 6), none⟩,
      ⟨some 34, .call true 18 [(.t 33)], none⟩,
      ⟨some 7, .mov (.t 34), none⟩])
   (.seq (.reg [⟨some 35, .mov (.t 7), none⟩,
      ⟨some 36, .bin .neq (.t 35) (.k (.i .i64 0)), none⟩])
   (.cond (.t 36)
    (.seq (.reg [⟨some 37, .build [(.i .i64 0), (.s []), (.s []), (.sl [] 0 .nil)] [], none⟩,
       ⟨some 38, .mov (.t 5), none⟩,
       ⟨some 39, .mov (.t 7), none⟩,
       ⟨none, .store 4 (.t 2) (.t 37), none⟩,
       ⟨some 3, .mov (.t 38), none⟩,
       ⟨some 4, .mov (.t 39), none⟩])
    .ret)
    .skip)))
  (.seq (.reg [⟨some 40, .load true 4 (.t 6), none⟩,
     ⟨none, .store 4 (.t 2) (.t 40), none⟩,
     ⟨some 3, .mov (.k (.i .i64 0)), none⟩,
     ⟨some 4, .mov (.k (.i .i64 0)), none⟩])
  .ret)))))))) k st Q := rfl
def kz22 (_ : Nat) : List Nat := []
theorem fil_eq {ts : List Tok} {e id : Nat} {h : H} (ho : SO h id ts e 0) : ∃ c h', pick 22 (R_fil ts e id) [.p id 0] h = some (.tup [.agg c, .i .i64 ((filV ts e).2.1 : Nat), .i .i64 ((filV ts e).2.2 : Nat)], h') ∧ FilR (filV ts e).1 c ∧ SO h' id ts e (parR ts e).2.2 := by
  have key : ∃ v h', Hp.CompI tabx told 22 [.p id 0] h v h' ∧ ∃ c, v = .tup [.agg c, .i .i64 ((filV ts e).2.1 : Nat), .i .i64 ((filV ts e).2.2 : Nat)] ∧ FilR (filV ts e).1 c ∧ SO h' id ts e (parR ts e).2.2 := by
    refine compI_ex (xf := X_filc) (xh := YN ts e id (20 * ts.length + 9)) (kz := kz22) (fn := af22) x_filc (t_YN ts e id _) rfl (Nat.le_of_ble_eq_true rfl) ?_
    show Hp.M _ _ _ (.code B22) _ (St.init gl0 6 _ _) (fun ex st => ∃ v h', Hp.FinI [.cell 2 true 4, .tmp 3, .tmp 4] v h' ex st ∧ _)
    rw [UH22]
    have y1 := y_peek (N := 20 * ts.length + 9) ho
    have hp := (parR_eq ts e).1
    obtain ⟨c, h', y4, q1, q2, q3⟩ := call_parse (s_all ts e id (20 * ts.length + 9)).1 (Nat.le_refl _) (by omega) (by omega) ho hp
    have h1 := ho.1
    simp only [srcC] at h1
    unfold filV
    generalize hr : parR ts e = r at *
    obtain ⟨f, er, a1⟩ := r
    simp only at y4 q1 q3 ⊢
    have y5 := y_peek (N := 20 * ts.length + 9) q3
    simp only [Int.cast_ofNat_Int] at y4
    by_cases he : er = 0
    · subst he
      rw [if_neg (by simp)]
      have yc : X_filc 18 [.agg c] = some (.i .i64 (chk f : Nat)) := check_eq f c q1
      have q1' := q1
      by_cases hk : chk f = 0
      · have f1 : decide ((chk f : Int) = 0) = true := decide_eq_true (by omega)
        rw [if_neg (by rw [hk]; simp)]
        cases q1 with | mk k nm tx kids xs n tk hn hx =>
        simp only [h1, y1, y4, yc, f1, Int.cast_ofNat_Int, go_sem, ne_eq, not_false_eq_true, reduceIte, Nat.reduceMul, Nat.reduceAdd, Nat.reduceSub, Nat.reduceEqDiff, Nat.reduceLeDiff, Nat.reduceLT, List.take_succ_cons, List.take_zero, List.drop_succ_cons, List.cons_append]
        exact ⟨_, _, ⟨rfl, rfl⟩, _, rfl, q1', q3⟩
      · have f1 : decide ((chk f : Int) = 0) = false := decide_eq_false (by omega)
        rw [if_pos hk]
        cases q1 with | mk k nm tx kids xs n tk hn hx =>
        simp only [h1, y1, y4, yc, f1, Int.cast_ofNat_Int, go_sem, ne_eq, not_false_eq_true, reduceIte, Nat.reduceMul, Nat.reduceAdd, Nat.reduceSub, Nat.reduceEqDiff, Nat.reduceLeDiff, Nat.reduceLT, List.take_succ_cons, List.take_zero, List.drop_succ_cons, List.cons_append]
        exact ⟨_, _, ⟨rfl, rfl⟩, _, rfl, fil0R, q3⟩
    · rw [if_pos he]
      have f1 : decide ((er : Int) = 0) = false := decide_eq_false (by omega)
      cases q1 with | mk k nm tx kids xs n tk hn hx =>
      simp only [h1, y1, y4, y5, f1, Int.cast_ofNat_Int, go_sem, ne_eq, not_false_eq_true, reduceIte, Nat.reduceMul, Nat.reduceAdd, Nat.reduceSub, Nat.reduceEqDiff, Nat.reduceLeDiff, Nat.reduceLT, List.take_succ_cons, List.take_zero, List.drop_succ_cons, List.cons_append]
      exact ⟨_, _, ⟨rfl, rfl⟩, _, rfl, fil0R, q3⟩
  obtain ⟨v, h', hc, hr⟩ := key
  obtain ⟨v, h', e1, r⟩ := pick_spec (R := R_fil ts e id) hc (fun _ _ => hr)
  obtain ⟨c, rfl, r1, r2⟩ := r rfl ho
  exact ⟨c, h', e1, r1, r2⟩
end Go.Proofs.YtbhclhgljnoioaaDoor
