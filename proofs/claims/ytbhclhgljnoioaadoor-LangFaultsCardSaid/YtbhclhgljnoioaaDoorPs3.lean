/- lang: the parser walked: what a call of it does, if the calls within do what they should. -/
import Derived.Test.YtbhclhgljnoioaaDoorPs2
set_option linter.unusedSimpArgs false
set_option linter.unusedVariables false
namespace Go.Proofs.YtbhclhgljnoioaaDoor
open Ai
theorem P_le {ts : List Tok} {e n : Nat} {q : PQ} {a : Nat} {r : PR} (ha : a ≤ ts.length) (hq : match q with | .word _ => a < ts.length | .parse b _ => 1 ≤ b ∧ b ≤ 3 | .more b _ _ => 1 ≤ b ∧ b ≤ 2 | _ => True) (h : P ts e n q a = some r) : a ≤ r.2.2 ∧ r.2.2 ≤ ts.length := by
  obtain ⟨r', h1, h2, h3⟩ := P_total ts e (20 * (ts.length - a) + q.rank + 1 + n) q a ha hq (by omega)
  have := P_mono (show n ≤ 20 * (ts.length - a) + q.rank + 1 + n by omega) h
  rw [this] at h1
  cases h1
  exact ⟨h2, h3⟩
section
variable (ts : List Tok) (e id N : Nat)
def Res (h : H) (v : V) (h' : H) (r : PR) : Prop := ∃ c, v = .tup [.agg c, .i .i64 (r.2.1 : Nat)] ∧ FilR r.1 c ∧ Hop h h' id ∧ SO h' id ts e r.2.2
def R_parse (a : List V) (h : H) (v : V) (h' : H) : Prop := ∀ (b d at_ : Nat) (r : PR), a = [.p id 0, .i .i64 (b : Nat), .i .i64 (d : Nat)] → SO h id ts e at_ → P ts e N (.parse b d) at_ = some r → Res ts e id h v h' r
def R_one (q : Nat → PQ) (a : List V) (h : H) (v : V) (h' : H) : Prop := ∀ (d at_ : Nat) (r : PR), a = [.p id 0, .i .i64 (d : Nat)] → SO h id ts e at_ → P ts e N (q d) at_ = some r → Res ts e id h v h' r
def R_list (a : List V) (h : H) (v : V) (h' : H) : Prop := ∀ (k : Int) (d at_ : Nat) (r : PR), a = [.p id 0, .i .i64 k, .i .i64 (d : Nat)] → SO h id ts e at_ → P ts e N (.list k d) at_ = some r → Res ts e id h v h' r
noncomputable def YN := ys [(23, pick 23 (R_peek ts e id)), (24, pick 24 (R_take ts e id)), (25, pick 25 (R_is ts e id)), (73, pick 73 (R_joins ts e id)), (95, pick 95 (R_field ts e id)), (96, pick 96 (R_text ts e id)),
  (49, pick 49 (R_parse ts e id N)), (72, pick 72 (R_one ts e id N .unary)), (97, pick 97 (R_one ts e id N .word)), (114, pick 114 (R_one ts e id N .nested)), (115, pick 115 (R_list ts e id N))]
theorem t_YN : Hp.TellsI tabx told (YN ts e id N) := itells_cons pick_tells (itells_cons pick_tells (itells_cons pick_tells (itells_cons pick_tells (itells_cons pick_tells (itells_cons pick_tells (itells_cons pick_tells (itells_cons pick_tells (itells_cons pick_tells (itells_cons pick_tells (itells_cons pick_tells itells_nil))))))))))
variable {ts e id N}
theorem y_peek {h : H} {a : Nat} (ho : SO h id ts e a) : YN ts e id N 23 [.p id 0] h = some (.agg [.i .i64 (tokAt ts e a).kind, .s (tokAt ts e a).text, .i .i64 (tokAt ts e a).at_], h) := peek_eq ts e id ho
theorem y_take {h : H} {a : Nat} (ho : SO h id ts e a) (hl : a < ts.length) : YN ts e id N 24 [.p id 0] h = some (.agg [.i .i64 (tokAt ts e a).kind, .s (tokAt ts e a).text, .i .i64 (tokAt ts e a).at_], setAt h id ts e (a + 1)) := take_eq ts e id ho hl
theorem y_is {h : H} {a : Nat} (ho : SO h id ts e a) (tx : List UInt8) : YN ts e id N 25 [.p id 0, .i .i64 4, .s tx] h = some (.b (isT ts e a tx), bif isT ts e a tx then setAt h id ts e (a + 1) else h) := is_eq ts e id ho tx
theorem y_joins {h : H} {a : Nat} (ho : SO h id ts e a) (tx : List UInt8) : YN ts e id N 73 [.p id 0, .s tx] h = some (.b (isW ts e a tx), h) := joins_eq ts e id ho tx
theorem y_field {h : H} {a : Nat} (ho : SO h id ts e a) : YN ts e id N 95 [.p id 0] h = some (.b (isF ts e a), h) := field_eq ts e id ho
theorem y_text {h : H} {a : Nat} (ho : SO h id ts e a) : YN ts e id N 96 [.p id 0] h = some (textV ts e a, if (tokAt ts e a).kind = 2 then setAt h id ts e (a + 1) else h) := text_eq ts e id ho
def S_parse (ts : List Tok) (e id N : Nat) : Prop := ∀ (b d at_ : Nat) (r : PR) (h : H), 1 ≤ b → b ≤ 3 → d ≤ 41 → SO h id ts e at_ → P ts e N (.parse b d) at_ = some r →
  ∃ v h', Hp.CompI tabx told 49 [.p id 0, .i .i64 (b : Nat), .i .i64 (d : Nat)] h v h' ∧ Res ts e id h v h' r
def S_one (ts : List Tok) (e id N : Nat) (g : FuncId) (q : Nat → PQ) (pre : Nat → Prop) : Prop := ∀ (d at_ : Nat) (r : PR) (h : H), d ≤ 40 → pre at_ → SO h id ts e at_ → P ts e N (q d) at_ = some r →
  ∃ v h', Hp.CompI tabx told g [.p id 0, .i .i64 (d : Nat)] h v h' ∧ Res ts e id h v h' r
def S_list (ts : List Tok) (e id N : Nat) : Prop := ∀ (k : Int) (d at_ : Nat) (r : PR) (h : H), d ≤ 40 → SO h id ts e at_ → P ts e N (.list k d) at_ = some r →
  ∃ v h', Hp.CompI tabx told 115 [.p id 0, .i .i64 k, .i .i64 (d : Nat)] h v h' ∧ Res ts e id h v h' r
theorem call_parse (S : S_parse ts e id N) {b d a : Nat} {r : PR} {h : H} (h1 : 1 ≤ b) (h2 : b ≤ 3) (h3 : d ≤ 41) (ho : SO h id ts e a) (hp : P ts e N (.parse b d) a = some r) :
    ∃ c h', YN ts e id N 49 [.p id 0, .i .i64 (b : Nat), .i .i64 (d : Nat)] h = some (.tup [.agg c, .i .i64 (r.2.1 : Nat)], h') ∧ FilR r.1 c ∧ Hop h h' id ∧ SO h' id ts e r.2.2 := by
  obtain ⟨v, h', hc, hr⟩ := S b d a r h h1 h2 h3 ho hp
  obtain ⟨v, h', e1, r1⟩ := pick_spec (R := R_parse ts e id N) hc (by
    intro b' d' at' r' e1 ho' hp'
    simp only [List.cons.injEq, V.i.injEq, true_and, and_true] at e1
    obtain ⟨e1, e2⟩ := e1
    have e1 : b = b' := by omega
    have e2 : d = d' := by omega
    subst e1 e2
    rw [← ho.uniq ho', hp] at hp'
    cases hp'
    exact hr)
  obtain ⟨c, rfl, q1, q2, q3⟩ := r1 b d a r rfl ho hp
  exact ⟨c, h', e1, q1, q2, q3⟩
theorem call_one {g : FuncId} {q : Nat → PQ} {pre : Nat → Prop} (S : S_one ts e id N g q pre) {d a : Nat} {r : PR} {h : H} (h3 : d ≤ 40) (hpre : pre a) (ho : SO h id ts e a) (hp : P ts e N (q d) a = some r) :
    ∃ c h', pick g (R_one ts e id N q) [.p id 0, .i .i64 (d : Nat)] h = some (.tup [.agg c, .i .i64 (r.2.1 : Nat)], h') ∧ FilR r.1 c ∧ Hop h h' id ∧ SO h' id ts e r.2.2 := by
  obtain ⟨v, h', hc, hr⟩ := S d a r h h3 hpre ho hp
  obtain ⟨v, h', e1, r1⟩ := pick_spec (R := R_one ts e id N q) hc (by
    intro d' at' r' e1 ho' hp'
    simp only [List.cons.injEq, V.i.injEq, true_and, and_true] at e1
    have e2 : d = d' := by omega
    subst e2
    rw [← ho.uniq ho', hp] at hp'
    cases hp'
    exact hr)
  obtain ⟨c, rfl, q1, q2, q3⟩ := r1 d a r rfl ho hp
  exact ⟨c, h', e1, q1, q2, q3⟩
theorem call_list (S : S_list ts e id N) {k : Int} {d a : Nat} {r : PR} {h : H} (h3 : d ≤ 40) (ho : SO h id ts e a) (hp : P ts e N (.list k d) a = some r) :
    ∃ c h', YN ts e id N 115 [.p id 0, .i .i64 k, .i .i64 (d : Nat)] h = some (.tup [.agg c, .i .i64 (r.2.1 : Nat)], h') ∧ FilR r.1 c ∧ Hop h h' id ∧ SO h' id ts e r.2.2 := by
  obtain ⟨v, h', hc, hr⟩ := S k d a r h h3 ho hp
  obtain ⟨v, h', e1, r1⟩ := pick_spec (R := R_list ts e id N) hc (by
    intro k' d' at' r' e1 ho' hp'
    simp only [List.cons.injEq, V.i.injEq, true_and, and_true] at e1
    obtain ⟨e1, e2⟩ := e1
    have e2 : d = d' := by omega
    subst e1 e2
    rw [← ho.uniq ho', hp] at hp'
    cases hp'
    exact hr)
  obtain ⟨c, rfl, q1, q2, q3⟩ := r1 k d a r rfl ho hp
  exact ⟨c, h', e1, q1, q2, q3⟩
theorem UH114 {xf : FuncId → List V → Option V} {xh : FuncId → List V → H → Option (V × H)} {kz : Nat → List Nat} {k : List Fr} {st : St} {Q : AEx → St → Prop} : Hp.M xf xh kz (.code B114) k st Q = Hp.M xf xh kz (.code (.seq (.reg [⟨some 4, .lalloc [(.i .i64 0), (.s []), (.s []), (.sl [] 0 .nil)] [4], none⟩,
     ⟨some 5, .mov (.k (.i .i64 0)), none⟩])
  (.seq (.seq (.reg [⟨some 6, .mov (.t 1), none⟩,
      ⟨some 7, .bin .geq (.t 6) (.k (.i .i64 40)), none⟩])
   (.cond (.t 7)
    (.seq (.reg [⟨some 8, .build [(.i .i64 0), (.s []), (.s []), (.sl [] 0 .nil)] [], none⟩,
       ⟨none, .store 4 (.t 4) (.t 8), none⟩,
       ⟨some 5, .mov (.k (.i .i64 51)), none⟩])
    .ret)
    .skip))
  (.seq (.reg [⟨some 9, .mov (.t 0), none⟩,
     ⟨some 10, .mov (.t 1), none⟩,
     ⟨some 11, .bin .add (.t 10) (.k (.i .i64 1)), none⟩,
     ⟨some 12, .call false 72 [(.t 9), (.t 11)], none⟩,
     ⟨some 13, .ext (.t 12) 0, none⟩,
     ⟨some 14, .ext (.t 12) 1, none⟩,
     ⟨none, .store 4 (.t 4) (.t 13), none⟩,
     ⟨some 5, .mov (.t 14), none⟩])
  .ret)))) k st Q := rfl
def kz114 (_ : Nat) : List Nat := []
theorem s_nested (hu : S_one ts e id N 72 .unary (fun _ => True)) : S_one ts e id (N + 1) 114 .nested (fun _ => True) := by
  intro d a r h hd _ ho hp
  replace hp : pstep ts e (P ts e N) (.nested d) a = some r := hp
  simp only [pstep] at hp
  refine compI_ex (xf := noX) (kz := kz114) (fn := af114) tells_noX (t_YN ts e id N) rfl (Nat.le_of_ble_eq_true rfl) ?_
  show Hp.M _ _ _ (.code B114) _ (St.init gl0 4 _ _) (fun ex st => ∃ v h', Hp.FinI [.cell 4 true 4, .tmp 5] v h' ex st ∧ _)
  rw [UH114]
  by_cases hk : 40 ≤ d
  · rw [if_pos hk] at hp
    cases hp
    have e1 : decide ((40 : Int) ≤ (d : Int)) = true := decide_eq_true (by omega)
    simp only [e1, go_sem, ne_eq, not_false_eq_true, reduceIte, Nat.reduceMul, Nat.reduceAdd, Nat.reduceSub, Nat.reduceEqDiff, Nat.reduceLeDiff, Nat.reduceLT, List.take_succ_cons, List.take_zero, List.drop_succ_cons, List.cons_append]
    exact ⟨_, _, ⟨rfl, rfl⟩, _, rfl, fil0R, Hop.refl _ _, ho⟩
  · rw [if_neg hk] at hp
    have e1 : decide ((40 : Int) ≤ (d : Int)) = false := decide_eq_false (by omega)
    have w1 : wr .i64 ((d : Int) + 1) = ((d + 1 : Nat) : Int) := by rw [wr64] <;> omega
    obtain ⟨c, h', e2, q1, q2, q3⟩ := call_one hu (by omega) trivial ho hp
    replace e2 : YN ts e id N 72 _ _ = _ := e2
    obtain ⟨f, er, a'⟩ := r
    replace q1 : FilR f c := q1
    cases q1 with | mk k nm tx kids xs n tk hn hx =>
    simp only [e1, w1, e2, go_sem, ne_eq, not_false_eq_true, reduceIte, Nat.reduceMul, Nat.reduceAdd, Nat.reduceSub, Nat.reduceEqDiff, Nat.reduceLeDiff, Nat.reduceLT, List.take_succ_cons, List.take_zero, List.drop_succ_cons, List.cons_append]
    exact ⟨_, _, ⟨rfl, rfl⟩, _, rfl, .mk k nm tx kids xs n tk hn hx, q2, q3⟩
end
end Go.Proofs.YtbhclhgljnoioaaDoor
